/- Part of the proof: HRefBodyF. No conditions of its own. -/
import Derived.Below
import Derived.BigQuiet
import Derived.ChangeOld
import Derived.Deep.CutBlock
import Derived.Deep.DeepCutAuto
import Derived.Deep.Draws
import Derived.Deep.LoopGhost
import Derived.Deep.Quiet
import Derived.Deep.QuietTactic
import Derived.Deep.RegionLaw
import Derived.Great.BuildSlice
import Derived.Great.FillDense
import Derived.Laws.AppendOwn
import Derived.Laws.AppendOwnNone
import Derived.Laws.BytesArg
import Derived.Laws.Concat
import Derived.Laws.MakeOwn
import Derived.Lib.AppendZerosOnto
import Derived.Lib.BufferWrite
import Derived.Lib.Hide
import Derived.Lib.SlBytesConst
import Derived.OpenShut
import Derived.ProofKit
import Derived.ShutString
import Derived.StillTail
import Derived.Stop.BytesEq
import Derived.Test.YtnenoecmmelehaaProg
import Derived.WalkKit
import Derived.WalkLawsBesides
import Derived.WalkSpells
import Derived.Test.YtnenoecmmelehaaK17
import Derived.Test.YtnenoecmmelehaaK22
namespace Go.Proofs.Ytnenoecmmelehaa
open Go.RowKit
set_option linter.unusedVariables false
set_option linter.unusedSimpArgs false

set_option maxRecDepth 100000 in
set_option maxHeartbeats 4000000 in
theorem refbody_11a (r mk ses sh ti no sg : List UInt8) (ac : Option Addr) (n cc : Nat) (life age : Int) (psk : Bool) (retry : Bool) (w : World) (hbv : bareB (fx r) (fx mk) (ses.length + sh.length + ti.length + no.length + sg.length + 0) life age psk retry = false)  :
    Calls Try.prog 25 #[.agg (mD 11 r mk [S ses, S sh, S ti, S no, S sg, .slice ac n cc, .int .i64 life, .int .i64 age, .bool psk, .bool retry])] w fun e w' => (∃ s, e = .returned (.tuple #[S s, .bool false])) ∧ Below w.heap.size w w' := by
  have hbare : ∀ w, Calls Try.prog 42 #[.agg (mD 11 r mk [S ses, S sh, S ti, S no, S sg, .slice none 0 0, .int .i64 life, .int .i64 age, .bool psk, .bool retry])] w fun e w' => e = .returned (.bool (bareB (fx r) (fx mk) (ses.length + sh.length + ti.length + no.length + sg.length + 0) life age psk retry)) ∧ Below w.heap.size w w' := fun w => refbareD _ _ _ _ _ _ _ _ _ _ _ _ _ _ _ w
  rw [hbv] at hbare
  have HBARE := Lib.hid hbare
  clear hbare hbv
  go_enter Try.func25, Try.ntmps25
  go_wp2_with fail
  refine (HBARE.out _).mono ?_
  rintro e w1 ⟨rfl, hb1⟩
  have hr : Row w1 w.heap.size 25 (mD 11 r mk [S ses, S sh, S ti, S no, S sg, .slice ac n cc, .int .i64 life, .int .i64 age, .bool psk, .bool retry]) := Row.below (by show row _ _ = _; simp [go_sem]) hb1 (by first | (simp; done) | (simp; omega) | omega)
  have hr2 : Row w1 (w.heap.size + 1) 25 (mD 11 r mk [S ses, S sh, S ti, S no, S sg, .slice none 0 0, .int .i64 life, .int .i64 age, .bool psk, .bool retry]) := Row.below (by show row _ _ = _; simp [go_sem]) hb1 (by first | (simp; done) | (simp; omega) | omega)
  have hB : Below w.heap.size w w1 := Below.trans (by (repeat (first | (with_reducible exact Below.refl _ _) | ((with_reducible first | refine bSetRow ?_ ?_ _ | refine Below.alloc ?_ ?_ _ | refine Below.setCell ?_ ?_ _); rotate_left 1; (focus (first | (simp; done) | (simp; omega)))) | (with_reducible refine Below.drew ?_)))) (hb1.mono (by first | (simp; done) | (simp; omega) | omega))
  clear hb1
  go_wp2_with fail
  go_ret2
  exact ⟨⟨[], rfl⟩, hB⟩
set_option maxRecDepth 100000 in
set_option maxHeartbeats 4000000 in
theorem refbody_11b (r mk ses sh ti no sg : List UInt8) (ac : Option Addr) (n cc : Nat) (life age : Int) (psk : Bool) (retry : Bool) (w : World) (hbv : bareB (fx r) (fx mk) (ses.length + sh.length + ti.length + no.length + sg.length + 0) life age psk retry = true) (hn : 5 < n) :
    Calls Try.prog 25 #[.agg (mD 11 r mk [S ses, S sh, S ti, S no, S sg, .slice ac n cc, .int .i64 life, .int .i64 age, .bool psk, .bool retry])] w fun e w' => (∃ s, e = .returned (.tuple #[S s, .bool false])) ∧ Below w.heap.size w w' := by
  have hbare : ∀ w, Calls Try.prog 42 #[.agg (mD 11 r mk [S ses, S sh, S ti, S no, S sg, .slice none 0 0, .int .i64 life, .int .i64 age, .bool psk, .bool retry])] w fun e w' => e = .returned (.bool (bareB (fx r) (fx mk) (ses.length + sh.length + ti.length + no.length + sg.length + 0) life age psk retry)) ∧ Below w.heap.size w w' := fun w => refbareD _ _ _ _ _ _ _ _ _ _ _ _ _ _ _ w
  rw [hbv] at hbare
  have HBARE := Lib.hid hbare
  clear hbare hbv
  have x1 : (5 : Int) < (n : Int) := by omega
  clear hn
  go_enter Try.func25, Try.ntmps25
  go_wp2_with fail
  refine (HBARE.out _).mono ?_
  rintro e w1 ⟨rfl, hb1⟩
  have hr : Row w1 w.heap.size 25 (mD 11 r mk [S ses, S sh, S ti, S no, S sg, .slice ac n cc, .int .i64 life, .int .i64 age, .bool psk, .bool retry]) := Row.below (by show row _ _ = _; simp [go_sem]) hb1 (by first | (simp; done) | (simp; omega) | omega)
  have hr2 : Row w1 (w.heap.size + 1) 25 (mD 11 r mk [S ses, S sh, S ti, S no, S sg, .slice none 0 0, .int .i64 life, .int .i64 age, .bool psk, .bool retry]) := Row.below (by show row _ _ = _; simp [go_sem]) hb1 (by first | (simp; done) | (simp; omega) | omega)
  have hB : Below w.heap.size w w1 := Below.trans (by (repeat (first | (with_reducible exact Below.refl _ _) | ((with_reducible first | refine bSetRow ?_ ?_ _ | refine Below.alloc ?_ ?_ _ | refine Below.setCell ?_ ?_ _); rotate_left 1; (focus (first | (simp; done) | (simp; omega)))) | (with_reducible refine Below.drew ?_)))) (hb1.mono (by first | (simp; done) | (simp; omega) | omega))
  clear hb1
  go_wp2_with fail
  go_ret2
  exact ⟨⟨[], rfl⟩, hB⟩
def goodC (c : List UInt8) : Bool := decide (1 ≤ c.length) && decide (c.length ≤ 2048)
def Body11 (certs : List (List UInt8)) (e : Ending) : Prop :=
  (certs.all goodC = true ∧ e = .returned (.tuple #[S (hNone1 ++ vecB (certsP certs) 3), .bool true])) ∨ (certs.all goodC = false ∧ ∃ s, e = .returned (.tuple #[S s, .bool false]))
set_option maxRecDepth 100000 in
set_option maxHeartbeats 4000000 in
theorem refbody_11 (r mk ses sh ti no sg : List UInt8) (certs : List (List UInt8)) (ac : Option Addr) (cc : Nat) (life age : Int) (psk : Bool) (retry : Bool) (w : World) (hbv : bareB (fx r) (fx mk) (ses.length + sh.length + ti.length + no.length + sg.length + 0) life age psk retry = true) (hp : StrsAt w (.slice ac certs.length cc) certs) (hn : certs.length ≤ 5) :
    Calls Try.prog 25 #[.agg (mD 11 r mk [S ses, S sh, S ti, S no, S sg, .slice ac certs.length cc, .int .i64 life, .int .i64 age, .bool psk, .bool retry])] w fun e w' => Body11 certs e ∧ Below w.heap.size w w' := by
  have hbare : ∀ w, Calls Try.prog 42 #[.agg (mD 11 r mk [S ses, S sh, S ti, S no, S sg, .slice none 0 0, .int .i64 life, .int .i64 age, .bool psk, .bool retry])] w fun e w' => e = .returned (.bool (bareB (fx r) (fx mk) (ses.length + sh.length + ti.length + no.length + sg.length + 0) life age psk retry)) ∧ Below w.heap.size w w' := fun w => refbareD _ _ _ _ _ _ _ _ _ _ _ _ _ _ _ w
  rw [hbv] at hbare
  have HBARE := Lib.hid hbare
  clear hbare hbv
  have HP := Lib.hid hp
  have x1 : ¬ (5 : Int) < (certs.length : Int) := by omega
  have HN := Lib.hid hn
  clear hp hn
  go_enter Try.func25, Try.ntmps25
  go_wp2_with fail
  refine (HBARE.out _).mono ?_
  rintro e w1 ⟨rfl, hb1⟩
  have hr : Row w1 w.heap.size 25 (mD 11 r mk [S ses, S sh, S ti, S no, S sg, .slice ac certs.length cc, .int .i64 life, .int .i64 age, .bool psk, .bool retry]) := Row.below (by show row _ _ = _; simp [go_sem]) hb1 (by first | (simp; done) | (simp; omega) | omega)
  have hr2 : Row w1 (w.heap.size + 1) 25 (mD 11 r mk [S ses, S sh, S ti, S no, S sg, .slice none 0 0, .int .i64 life, .int .i64 age, .bool psk, .bool retry]) := Row.below (by show row _ _ = _; simp [go_sem]) hb1 (by first | (simp; done) | (simp; omega) | omega)
  have hB : Below w.heap.size w w1 := Below.trans (by (repeat (first | (with_reducible exact Below.refl _ _) | ((with_reducible first | refine bSetRow ?_ ?_ _ | refine Below.alloc ?_ ?_ _ | refine Below.setCell ?_ ?_ _); rotate_left 1; (focus (first | (simp; done) | (simp; omega)))) | (with_reducible refine Below.drew ?_)))) (hb1.mono (by first | (simp; done) | (simp; omega) | omega))
  clear hb1
  clear hr2
  go_wp2_with fail
  go_loopg [9, 10] certs.length (fun g lv iv wr => ∃ k : Nat, g + k = certs.length ∧ iv = .int .i64 (k : Int) ∧ lv = S (certsP (certs.take k)) ∧ (∀ j, j < k → goodC (certs.getD j []) = true) ∧ Row wr w.heap.size 25 (mD 11 r mk [S ses, S sh, S ti, S no, S sg, .slice ac certs.length cc, .int .i64 life, .int .i64 age, .bool psk, .bool retry]) ∧ Below w.heap.size w wr)
  case atStart => exact ⟨0, by omega, rfl, rfl, fun j hj => by omega, hr, hB⟩
  case round =>
    clear hr hB
    obtain ⟨k, hk, rfl, rfl, hgo, hr, hB⟩ := hrel
    have HGO := Lib.hid hgo
    clear hgo
    have hcl := certsP_len (certs.take k) (fun c hc => by
      obtain ⟨i, hi, he⟩ := List.getElem_of_mem hc
      have hi' : i < k := by rw [List.length_take] at hi; omega
      have hi2 : i < certs.length := by rw [List.length_take] at hi; omega
      have hg := HGO.out i hi'
      rw [List.getD_eq_getElem?_getD, List.getElem?_eq_getElem hi2, Option.getD_some] at hg
      rw [List.getElem_take] at he
      rw [he] at hg
      simp only [goodC, Bool.and_eq_true, decide_eq_true_eq] at hg
      omega)
    have hn := HN.out
    rw [List.length_take] at hcl
    have hcl2 : (certsP (certs.take k)).length ≤ 300000 := by
      have : min k certs.length ≤ 5 := by omega
      have := Nat.mul_le_mul_right 50005 this
      omega
    have HCL := Lib.hid hcl2
    clear hcl hcl2 hn
    by_cases h : k < certs.length
    · obtain ⟨a', cap', e', hp1, hp2, hp3⟩ := HP.out
      simp only [Value.slice.injEq] at e'
      obtain ⟨rfl, -, -⟩ := e'
      obtain ⟨g, o, ha, hcv⟩ := hp3 k h
      clear hp1 hp2 hp3
      subst ha
      have x0 : (0 : Int) ≤ (k : Int) := by omega
      have x2 : (k : Int) < (certs.length : Int) := by omega
      have x3 : ((k : Int)).toNat = k := by omega
      have hbd : (k : Int) + 1 ≤ 9223372036854775807 := by omega
      have hlt := World.block_lt_of_cell? w _ hcv
      have hcw : wr.cell? ⟨g, o + k, none⟩ = some (S (certs.getD k [])) := (hB.cell hlt).trans hcv
      have hst : certsP (certs.take k) ++ (vecB (certs.getD k []) 3 ++ hNone2) = certsP (certs.take (k + 1)) := by
        unfold certsP
        rw [List.take_succ_eq_append_getElem h, List.flatMap_append]
        simp [h]
      have hmem : certs.getD k [] ∈ certs := by
        rw [List.getD_eq_getElem?_getD, List.getElem?_eq_getElem h]
        exact List.getElem_mem h
      have HGK := Lib.hid (show ∀ j, j < k + 1 → goodC (certs.getD k []) = true → goodC (certs.getD j []) = true from fun j hj hg => by
        by_cases e : j < k
        · exact HGO.out j e
        · obtain rfl : j = k := by omega
          exact hg)
      obtain ⟨q, hq⟩ : ∃ q, q = certs.getD k [] := ⟨_, rfl⟩
      rw [← hq] at hcw hst hmem HGK
      have HMEM := Lib.hid hmem
      obtain ⟨X, hX⟩ : ∃ X, X = certsP (certs.take k) := ⟨_, rfl⟩
      rw [← hX] at hst HCL ⊢
      have HST := Lib.hid hst
      have HCW := Lib.hid hcw
      clear hst hmem hq hX hcv
      by_cases h1 : 1 ≤ q.length
      · have y1 : ¬ (q.length : Int) < 1 := by omega
        by_cases h2 : q.length ≤ 2048
        · have y2 : ¬ (2048 : Int) < (q.length : Int) := by omega
          have HG := Lib.hid (show goodC q = true by simp [goodC, h1, h2])
          have H2 := Lib.hid h2
          clear h1 h2
          go_upto_region 45 with (fail)
          have hcwl := World.block_lt_of_cell? wr _ HCW.out
          have g70 : (mD 11 r mk [S ses, S sh, S ti, S no, S sg, .slice (some ⟨g, o, none⟩) certs.length cc, .int .i64 life, .int .i64 age, .bool psk, .bool retry])[70]? = some (.slice (some ⟨g, o, none⟩) certs.length cc) := mD_70
          (refine wp_region_seq 9 [] [] shp (phi _ []) (by kernel_rfl) (phi_stab _ _) (phi_shp _ _) shp_inh ?_; simp only [List.take_succ_cons, List.take_zero, List.drop_succ_cons, List.drop_zero]; apply Exists.intro; apply Exists.intro; refine ⟨?_, ?_, ?_⟩)
          · intro ν hν
            have HCL' := HCL.out
            have H2' := H2.out
            iterate 5 (apply wpF_q rfl; focus (intro C hC hG; (first | go_big_quiet_skip | (go_big_quiet_want; go_big_quiet_op; first | go_big_quiet_on | (refine ⟨_, fun _ _ => rfl, ?_⟩; go_big_quiet_on)) | (go_big_quiet_want; apply qf_load1 _ _ rfl _ _ rfl; (exact hC); rotate_left 1; (focus (intro _; simp [go_sem]; done)); rotate_right 1; assumption; assumption; (simp only [Act.put, lS]; go_big_quiet_on)) | (go_big_quiet_want; apply qf_loadA _ _ rfl _ _ rfl (sz := 32); (exact hC); rotate_left 1; (focus (intro _; simp [go_sem]; done)); (focus (intro _; simp [go_sem]; done)); rotate_right 1; assumption; assumption; assumption; (simp only [Act.put, lS]; go_big_quiet_on))); exact wpQuiet_nil rfl))
            (apply wpF_q rfl; focus (intro C hC hG; go_big_quiet_want; apply qf_loadC; (focus rfl); (focus rfl); (exact hC); (focus (intro _; simp [go_sem]; done)); (exact (fun w hB => (hB.cell hcwl).trans HCW.out)); (simp only [Act.put, lS]; go_big_quiet_on); exact wpQuiet_nil rfl))
            (apply wpF_q rfl; focus (intro C hC hG; go_big_quiet_want; apply qf_call; (exact hC); (exact hG); (exact (fun w' _ _ => refvec_any q 3 w' (by omega) (by decide))); (focus (intro w; simp [go_sem]; done)); (simp only [Act.put, lS]; go_big_quiet_on); exact wpQuiet_nil rfl))
            (apply wpF_q rfl; focus (intro C hC hG; go_big_quiet_want; apply qf_add X (vecB q 3) _ _ _ rfl rfl rfl; (focus (first | decide | (simp only [List.length_append, List.length_nil, List.length_cons, vecB_len, numB_len, fx_len, hLS]; omega))); (simp only [Act.put, lS]; go_big_quiet_on); exact wpQuiet_nil rfl))
            (apply wpF_q rfl; focus (intro C hC hG; go_big_quiet_want; apply qf_add (X ++ vecB q 3) hNone2 _ _ _ rfl rfl rfl; (focus (first | decide | (simp only [List.length_append, List.length_nil, List.length_cons, vecB_len, numB_len, fx_len, hLS]; omega))); (simp only [Act.put, lS]; go_big_quiet_on); exact wpQuiet_nil rfl))
            exact wpF_nil ⟨rfl, rfl⟩
          · intro ν ν'; kernel_rfl
          intro ν w1 hν hB1 hD
          have hr := Row.below hr hB1 hr.lt
          have hB := Below.trans hB (hB1.mono hB.size)
          clear hD hν hB1 hcw
          have HR := Lib.hid hr
          have HB := Lib.hid hB
          obtain ⟨Y, hY⟩ : ∃ Y, Y = X ++ vecB q 3 ++ hNone2 := ⟨_, rfl⟩
          rw [← hY]
          have HY := Lib.hid hY
          clear hY hr hB
          go_wp2_with fail
          go_roundg (gk - 1)
          case measure => omega
          case rel => exact ⟨k + 1, by omega, by go_num, by rw [HY.out, List.append_assoc, HST.out], fun j hj => HGK.out j hj HG.out, HR.out, HB.out⟩
        · have y2 : (2048 : Int) < (q.length : Int) := by omega
          have HNG := Lib.hid (show certs.all goodC = false from List.all_eq_false.2 ⟨q, HMEM.out, by simp [goodC, h2]⟩)
          clear h1 h2
          go_wp2_with fail
          go_ret2
          exact ⟨.inr ⟨HNG.out, [], rfl⟩, hB⟩
      · have y1 : (q.length : Int) < 1 := by omega
        have HNG := Lib.hid (show certs.all goodC = false from List.all_eq_false.2 ⟨q, HMEM.out, by simp [goodC, h1]⟩)
        clear h1
        go_wp2_with fail
        go_ret2
        exact ⟨.inr ⟨HNG.out, [], rfl⟩, hB⟩
    · obtain rfl : k = certs.length := by omega
      have HALL := Lib.hid (show certs.all goodC = true from by
        rw [List.all_eq_true]
        intro c hc
        obtain ⟨i, hi, he⟩ := List.getElem_of_mem hc
        have := HGO.out i hi
        rw [List.getD_eq_getElem?_getD, List.getElem?_eq_getElem hi, Option.getD_some, he] at this
        exact this)
      rw [List.take_length] at HCL ⊢
      have x2 : ¬ (certs.length : Int) < (certs.length : Int) := by omega
      obtain ⟨X, hX⟩ : ∃ X, X = certsP certs := ⟨_, rfl⟩
      rw [← hX] at HCL ⊢
      have HX := Lib.hid hX
      clear hX
      go_upto_region 46 with (fail)
      (refine wp_region_seq 3 [] [] shp (phi _ []) (by kernel_rfl) (phi_stab _ _) (phi_shp _ _) shp_inh ?_; simp only [List.take_succ_cons, List.take_zero, List.drop_succ_cons, List.drop_zero]; apply Exists.intro; apply Exists.intro; refine ⟨?_, ?_, ?_⟩)
      · intro ν hν
        have HCL' := HCL.out
        (apply wpF_q rfl; focus (intro C hC hG; (first | go_big_quiet_skip | (go_big_quiet_want; go_big_quiet_op; first | go_big_quiet_on | (refine ⟨_, fun _ _ => rfl, ?_⟩; go_big_quiet_on)) | (go_big_quiet_want; apply qf_load1 _ _ rfl _ _ rfl; (exact hC); rotate_left 1; (focus (intro _; simp [go_sem]; done)); rotate_right 1; assumption; assumption; (simp only [Act.put, lS]; go_big_quiet_on)) | (go_big_quiet_want; apply qf_loadA _ _ rfl _ _ rfl (sz := 32); (exact hC); rotate_left 1; (focus (intro _; simp [go_sem]; done)); (focus (intro _; simp [go_sem]; done)); rotate_right 1; assumption; assumption; assumption; (simp only [Act.put, lS]; go_big_quiet_on))); exact wpQuiet_nil rfl))
        (apply wpF_q rfl; focus (intro C hC hG; go_big_quiet_want; apply qf_call; (exact hC); (exact hG); (exact (fun w' _ _ => refvec_any X 3 w' (by omega) (by decide))); (focus (intro w; simp [go_sem]; done)); (simp only [Act.put, lS]; go_big_quiet_on); exact wpQuiet_nil rfl))
        (apply wpF_q rfl; focus (intro C hC hG; go_big_quiet_want; apply qf_add hNone1 (vecB X 3) _ _ _ rfl rfl rfl; (focus (first | decide | (simp only [List.length_append, List.length_nil, List.length_cons, vecB_len, numB_len, fx_len, hLS]; omega))); (simp only [Act.put, lS]; go_big_quiet_on); exact wpQuiet_nil rfl))
        exact wpF_nil ⟨rfl, rfl⟩
      · intro ν ν'; kernel_rfl
      intro ν w1 hν hB1 hD
      have HB := Lib.hid (Below.trans hB (hB1.mono hB.size))
      obtain ⟨Y, hY⟩ : ∃ Y, Y = hNone1 ++ vecB X 3 := ⟨_, rfl⟩
      rw [← hY]
      have HY := Lib.hid hY
      clear hY hD hν hB1 hr hB
      go_wp2_with fail
      go_ret2
      exact ⟨.inl ⟨HALL.out, congrArg (fun s => Ending.returned (Value.tuple #[S s, Value.bool true])) (by rw [HY.out, HX.out])⟩, HB.out⟩
end Go.Proofs.Ytnenoecmmelehaa
