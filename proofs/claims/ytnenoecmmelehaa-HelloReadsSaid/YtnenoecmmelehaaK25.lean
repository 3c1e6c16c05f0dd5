/- Part of the proof: HRefBodyC. No conditions of its own. -/
import Derived.Below
import Derived.BigQuiet
import Derived.Deep.CutBlock
import Derived.Deep.DeepCutAuto
import Derived.Deep.Draws
import Derived.Deep.LoopGhost
import Derived.Deep.Quiet
import Derived.Deep.QuietTactic
import Derived.Deep.RegionLaw
import Derived.Great.BuildSlice
import Derived.Great.FillDense
import Derived.Laws.AppendOwn
import Derived.Laws.AppendOwnNone
import Derived.Laws.BytesArg
import Derived.Laws.Concat
import Derived.Laws.MakeOwn
import Derived.Lib.AppendZerosOnto
import Derived.Lib.BufferWrite
import Derived.Lib.Hide
import Derived.Lib.SlBytesConst
import Derived.StillTail
import Derived.Stop.BytesEq
import Derived.Test.YtnenoecmmelehaaProg
import Derived.WalkKit
import Derived.WalkLawsBesides
import Derived.WalkSpells
import Derived.Test.YtnenoecmmelehaaK12
import Derived.Test.YtnenoecmmelehaaK22
namespace Go.Proofs.Ytnenoecmmelehaa
open Go.RowKit
set_option linter.unusedVariables false
set_option linter.unusedSimpArgs false

set_option maxRecDepth 100000 in
set_option maxHeartbeats 4000000 in
theorem refbody_1nf (r mk ses ti no sg : List UInt8) (ac : Option Addr) (n cc : Nat) (life : Int) (an : Nat) (retry : Bool) (w : World) (hbv : bareB (fx zero32) (fx mk) (([] : List UInt8).length + ([] : List UInt8).length + ti.length + no.length + sg.length + n) life (an : Int) false retry = true) (hs : ses.length ≤ 32) :
    Calls Try.prog 25 #[.agg (mD 1 r mk [S ses, S [], S ti, S no, S sg, .slice ac n cc, .int .i64 life, .int .i64 (an : Int), .bool false, .bool retry])] w fun e w' => e = .returned (.tuple #[S (hVersion ++ fx r ++ vecB ses 1 ++ hSuites ++ vecB ((hAble ++ hShare) ++ vecB (vecB ([] : List UInt8) 2) 2) 2), .bool true]) ∧ Below w.heap.size w w' := by
  have hbare : ∀ w, Calls Try.prog 42 #[.agg (mD 1 zero32 mk [S [], S [], S ti, S no, S sg, .slice ac n cc, .int .i64 life, .int .i64 (an : Int), .bool false, .bool retry])] w fun e w' => e = .returned (.bool (bareB (fx zero32) (fx mk) (([] : List UInt8).length + ([] : List UInt8).length + ti.length + no.length + sg.length + n) life (an : Int) false retry)) ∧ Below w.heap.size w w' := fun w => refbareD _ _ _ _ _ _ _ _ _ _ _ _ _ _ _ w
  rw [hbv] at hbare
  have HBARE := Lib.hid hbare
  clear hbare hbv
  have x1 : ¬ (32 : Int) < (ses.length : Int) := by omega
  have HS := Lib.hid hs
  clear hs
  go_enter Try.func25, Try.ntmps25
  go_wp2_with fail
  refine (HBARE.out _).mono ?_
  rintro e w1 ⟨rfl, hb1⟩
  have hr : Row w1 w.heap.size 25 (mD 1 r mk [S ses, S [], S ti, S no, S sg, .slice ac n cc, .int .i64 life, .int .i64 (an : Int), .bool false, .bool retry]) := Row.below (by show row _ _ = _; simp [go_sem]) hb1 (by first | (simp; done) | (simp; omega) | omega)
  have hr2 : Row w1 (w.heap.size + 1) 25 (mD 1 zero32 mk [S [], S [], S ti, S no, S sg, .slice ac n cc, .int .i64 life, .int .i64 (an : Int), .bool false, .bool retry]) := Row.below (by show row _ _ = _; simp [go_sem]) hb1 (by first | (simp; done) | (simp; omega) | omega)
  have hB : Below w.heap.size w w1 := Below.trans (by (repeat (first | (with_reducible exact Below.refl _ _) | ((with_reducible first | refine bSetRow ?_ ?_ _ | refine Below.alloc ?_ ?_ _ | refine Below.setCell ?_ ?_ _); rotate_left 1; (focus (first | (simp; done) | (simp; omega)))) | (with_reducible refine Below.drew ?_)))) (hb1.mono (by first | (simp; done) | (simp; omega) | omega))
  clear hb1
  have g65 : (mD 1 r mk [S ses, S [], S ti, S no, S sg, .slice ac n cc, .int .i64 life, .int .i64 (an : Int), .bool false, .bool retry])[65]? = some (S ses) := mD_65
  have g66 : (mD 1 r mk [S ses, S [], S ti, S no, S sg, .slice ac n cc, .int .i64 life, .int .i64 (an : Int), .bool false, .bool retry])[66]? = some (S []) := mD_66
  have g67 : (mD 1 r mk [S ses, S [], S ti, S no, S sg, .slice ac n cc, .int .i64 life, .int .i64 (an : Int), .bool false, .bool retry])[67]? = some (S ti) := mD_67
  have g72 : (mD 1 r mk [S ses, S [], S ti, S no, S sg, .slice ac n cc, .int .i64 life, .int .i64 (an : Int), .bool false, .bool retry])[72]? = some (.int .i64 (an : Int)) := mD_72
  go_upto_region 12 with (fail)
  (refine wp_region_seq 4 [] [] shp (phi _ []) (by kernel_rfl) (phi_stab _ _) (phi_shp _ _) shp_inh ?_; simp only [List.take_succ_cons, List.take_zero, List.drop_succ_cons, List.drop_zero]; apply Exists.intro; apply Exists.intro; refine ⟨?_, ?_, ?_⟩)
  · intro ν hν
    have HS' := HS.out
    (apply wpF_q rfl; focus (intro C hC hG; (first | go_big_quiet_skip | (go_big_quiet_want; go_big_quiet_op; first | go_big_quiet_on | (refine ⟨_, fun _ _ => rfl, ?_⟩; go_big_quiet_on)) | (go_big_quiet_want; apply qf_load1 _ _ rfl _ _ rfl; (exact hC); rotate_left 1; (focus (intro _; simp [go_sem]; done)); rotate_right 1; assumption; assumption; (simp only [Act.put, lS]; go_big_quiet_on)) | (go_big_quiet_want; apply qf_loadA _ _ rfl _ _ rfl (sz := 32); (exact hC); rotate_left 1; (focus (intro _; simp [go_sem]; done)); (focus (intro _; simp [go_sem]; done)); rotate_right 1; assumption; assumption; assumption; (simp only [Act.put, lS]; go_big_quiet_on))); exact wpQuiet_nil rfl))
    (apply wpF_q rfl; focus (intro C hC hG; go_big_quiet_want; apply qf_call; (exact hC); (exact hG); (exact (fun w' _ _ => refvec_any ([] : List UInt8) 2 w' (by decide) (by decide))); (focus (intro w; simp [go_sem]; done)); (simp only [Act.put, lS]; go_big_quiet_on); exact wpQuiet_nil rfl))
    (apply wpF_q rfl; focus (intro C hC hG; go_big_quiet_want; apply qf_call; (exact hC); (exact hG); (exact (fun w' _ _ => refvec_any (vecB ([] : List UInt8) 2) 2 w' (by decide) (by decide))); (focus (intro w; simp [go_sem]; done)); (simp only [Act.put, lS]; go_big_quiet_on); exact wpQuiet_nil rfl))
    (apply wpF_q rfl; focus (intro C hC hG; go_big_quiet_want; apply qf_add (hAble ++ hShare) (vecB (vecB ([] : List UInt8) 2) 2) _ _ _ rfl rfl rfl; (focus (first | decide | (simp only [List.length_append, List.length_nil, List.length_cons, vecB_len, numB_len, fx_len, hLS]; omega))); (simp only [Act.put, lS]; go_big_quiet_on); exact wpQuiet_nil rfl))
    exact wpF_nil ⟨rfl, rfl⟩
  · intro ν ν'; kernel_rfl
  intro ν w3 hν hB1 hD
  have hr := Row.below hr hB1 hr.lt
  have hr2 := Row.below hr2 hB1 hr2.lt
  have hB := Below.trans hB (hB1.mono hB.size)
  clear hD hν hB1
  go_upto_region 15 with (fail)
  have hrd := hr.drew
  have hr2d := hr2.drew
  (refine wp_region_freeD 12 [] [] shp (phi _ []) (by kernel_rfl) (by kernel_rfl) (by kernel_rfl) (phi_stab _ _) (phi_shp _ _) shp_inh ?_; simp only [List.take_succ_cons, List.take_zero, List.drop_succ_cons, List.drop_zero]; apply Exists.intro; apply Exists.intro; refine ⟨?_, ?_, ?_⟩)
  · intro ν hν
    have HS' := HS.out
    iterate 2 (apply wpF_q rfl; focus (intro C hC hG; (first | go_big_quiet_skip | (go_big_quiet_want; go_big_quiet_op; first | go_big_quiet_on | (refine ⟨_, fun _ _ => rfl, ?_⟩; go_big_quiet_on)) | (go_big_quiet_want; apply qf_load1 _ _ rfl _ _ rfl; (exact hC); rotate_left 1; (focus (intro _; simp [go_sem]; done)); rotate_right 1; assumption; assumption; (simp only [Act.put, lS]; go_big_quiet_on)) | (go_big_quiet_want; apply qf_loadA _ _ rfl _ _ rfl (sz := 32); (exact hC); rotate_left 1; (focus (intro _; simp [go_sem]; done)); (focus (intro _; simp [go_sem]; done)); rotate_right 1; assumption; assumption; assumption; (simp only [Act.put, lS]; go_big_quiet_on))); exact wpQuiet_nil rfl))
    (apply wpF_q rfl; focus (intro C hC hG; go_big_quiet_want; apply qf_conv; (focus rfl); (exact hC); (focus rfl); (exact Try.underlying27); (exact Try.underlying5); (exact Try.underlying9); (exact (fun w hB _ => (SlB.rand hrd).below hB)); (simp only [Act.put, lS]; go_big_quiet_on); exact wpQuiet_nil rfl))
    (apply wpF_q rfl; focus (intro C hC hG; go_big_quiet_want; apply qf_add hVersion (fx r) _ _ _ rfl rfl rfl; (focus (first | decide | (simp only [List.length_append, List.length_nil, List.length_cons, vecB_len, numB_len, fx_len, hLS]; omega))); (simp only [Act.put, lS]; go_big_quiet_on); exact wpQuiet_nil rfl))
    iterate 2 (apply wpF_q rfl; focus (intro C hC hG; (first | go_big_quiet_skip | (go_big_quiet_want; go_big_quiet_op; first | go_big_quiet_on | (refine ⟨_, fun _ _ => rfl, ?_⟩; go_big_quiet_on)) | (go_big_quiet_want; apply qf_load1 _ _ rfl _ _ rfl; (exact hC); rotate_left 1; (focus (intro _; simp [go_sem]; done)); rotate_right 1; assumption; assumption; (simp only [Act.put, lS]; go_big_quiet_on)) | (go_big_quiet_want; apply qf_loadA _ _ rfl _ _ rfl (sz := 32); (exact hC); rotate_left 1; (focus (intro _; simp [go_sem]; done)); (focus (intro _; simp [go_sem]; done)); rotate_right 1; assumption; assumption; assumption; (simp only [Act.put, lS]; go_big_quiet_on))); exact wpQuiet_nil rfl))
    (apply wpF_q rfl; focus (intro C hC hG; go_big_quiet_want; apply qf_call; (exact hC); (exact hG); (exact (fun w' _ _ => refvec_any ses 1 w' (by omega) (by decide))); (focus (intro w; simp [go_sem]; done)); (simp only [Act.put, lS]; go_big_quiet_on); exact wpQuiet_nil rfl))
    (apply wpF_q rfl; focus (intro C hC hG; go_big_quiet_want; apply qf_add (hVersion ++ fx r) (vecB ses 1) _ _ _ rfl rfl rfl; (focus (first | decide | (simp only [List.length_append, List.length_nil, List.length_cons, vecB_len, numB_len, fx_len, hLS]; omega))); (simp only [Act.put, lS]; go_big_quiet_on); exact wpQuiet_nil rfl))
    (apply wpF_q rfl; focus (intro C hC hG; go_big_quiet_want; apply qf_add (hVersion ++ fx r ++ vecB ses 1) hSuites _ _ _ rfl rfl rfl; (focus (first | decide | (simp only [List.length_append, List.length_nil, List.length_cons, vecB_len, numB_len, fx_len, hLS]; omega))); (simp only [Act.put, lS]; go_big_quiet_on); exact wpQuiet_nil rfl))
    (apply wpF_q rfl; focus (intro C hC hG; (first | go_big_quiet_skip | (go_big_quiet_want; go_big_quiet_op; first | go_big_quiet_on | (refine ⟨_, fun _ _ => rfl, ?_⟩; go_big_quiet_on)) | (go_big_quiet_want; apply qf_load1 _ _ rfl _ _ rfl; (exact hC); rotate_left 1; (focus (intro _; simp [go_sem]; done)); rotate_right 1; assumption; assumption; (simp only [Act.put, lS]; go_big_quiet_on)) | (go_big_quiet_want; apply qf_loadA _ _ rfl _ _ rfl (sz := 32); (exact hC); rotate_left 1; (focus (intro _; simp [go_sem]; done)); (focus (intro _; simp [go_sem]; done)); rotate_right 1; assumption; assumption; assumption; (simp only [Act.put, lS]; go_big_quiet_on))); exact wpQuiet_nil rfl))
    (apply wpF_q rfl; focus (intro C hC hG; go_big_quiet_want; apply qf_call; (exact hC); (exact hG); (exact (fun w' _ _ => refvec_any ((hAble ++ hShare) ++ vecB (vecB ([] : List UInt8) 2) 2) 2 w' (by simp only [List.length_append, vecB_len, numB_len, fx_len, List.length_nil, hLS]; omega) (by decide))); (focus (intro w; simp [go_sem]; done)); (simp only [Act.put, lS]; go_big_quiet_on); exact wpQuiet_nil rfl))
    (apply wpF_q rfl; focus (intro C hC hG; go_big_quiet_want; apply qf_add (hVersion ++ fx r ++ vecB ses 1 ++ hSuites) (vecB ((hAble ++ hShare) ++ vecB (vecB ([] : List UInt8) 2) 2) 2) _ _ _ rfl rfl rfl; (focus (first | decide | (simp only [List.length_append, List.length_nil, List.length_cons, vecB_len, numB_len, fx_len, hLS]; omega))); (simp only [Act.put, lS]; go_big_quiet_on); exact wpQuiet_nil rfl))
    exact wpF_nil ⟨rfl, rfl⟩
  · intro ν ν'; kernel_rfl
  intro ν w5 hν hB1 hD
  have hr := Row.below hr.drew hB1 hr.lt
  have hr2 := Row.below hr2.drew hB1 hr2.lt
  have hB := Below.trans hB.drew (hB1.mono hB.drew.size)
  clear hD hν hB1
  try clear hrd
  try clear hr2d
  go_wp2_with fail
  go_ret2
  exact ⟨rfl, hB⟩
set_option maxRecDepth 100000 in
set_option maxHeartbeats 4000000 in
theorem refbody_1nt (r mk ses ti no sg : List UInt8) (ac : Option Addr) (n cc : Nat) (life : Int) (an : Nat) (retry : Bool) (w : World) (hbv : bareB (fx zero32) (fx zero32) (([] : List UInt8).length + ([] : List UInt8).length + ([] : List UInt8).length + no.length + sg.length + n) life 0 false retry = true) (hs : ses.length ≤ 32) (ht1 : 1 ≤ ti.length) (ht2 : ti.length ≤ 1000) (han : an < 4294967296) :
    Calls Try.prog 25 #[.agg (mD 1 r mk [S ses, S [], S ti, S no, S sg, .slice ac n cc, .int .i64 life, .int .i64 (an : Int), .bool true, .bool retry])] w fun e w' => e = .returned (.tuple #[S (hVersion ++ fx r ++ vecB ses 1 ++ hSuites ++ vecB (((hAble ++ hShare) ++ vecB (vecB ([] : List UInt8) 2) 2) ++ (hModes ++ hPsk) ++ vecB (vecB (vecB ti 2 ++ numB an 4) 2 ++ hBinder ++ fx mk) 2) 2), .bool true]) ∧ Below w.heap.size w w' := by
  have hbare : ∀ w, Calls Try.prog 42 #[.agg (mD 1 zero32 zero32 [S [], S [], S [], S no, S sg, .slice ac n cc, .int .i64 life, .int .i64 0, .bool false, .bool retry])] w fun e w' => e = .returned (.bool (bareB (fx zero32) (fx zero32) (([] : List UInt8).length + ([] : List UInt8).length + ([] : List UInt8).length + no.length + sg.length + n) life 0 false retry)) ∧ Below w.heap.size w w' := fun w => refbareD _ _ _ _ _ _ _ _ _ _ _ _ _ _ _ w
  rw [hbv] at hbare
  have HBARE := Lib.hid hbare
  clear hbare hbv
  have x1 : ¬ (32 : Int) < (ses.length : Int) := by omega
  have HS := Lib.hid hs
  clear hs
  have x5 : ¬ (ti.length : Int) < 1 := by omega
  have x6 : ¬ (1000 : Int) < (ti.length : Int) := by omega
  have hw2 : ∀ w, Calls Try.prog 43 #[.int .i64 (an : Int)] w fun e w' => e = .returned (.bool true) ∧ w' = w := fun w => (show wideP (an : Int) = true by simp [wideP]; omega) ▸ refwide_any (an : Int) w
  have HW2 := Lib.hid hw2
  clear hw2
  have HT := Lib.hid ht2
  have HA := Lib.hid han
  clear ht1 ht2 han
  go_enter Try.func25, Try.ntmps25
  go_wp2_with fail
  refine (HBARE.out _).mono ?_
  rintro e w1 ⟨rfl, hb1⟩
  have hr : Row w1 w.heap.size 25 (mD 1 r mk [S ses, S [], S ti, S no, S sg, .slice ac n cc, .int .i64 life, .int .i64 (an : Int), .bool true, .bool retry]) := Row.below (by show row _ _ = _; simp [go_sem]) hb1 (by first | (simp; done) | (simp; omega) | omega)
  have hr2 : Row w1 (w.heap.size + 1) 25 (mD 1 zero32 zero32 [S [], S [], S [], S no, S sg, .slice ac n cc, .int .i64 life, .int .i64 0, .bool false, .bool retry]) := Row.below (by show row _ _ = _; simp [go_sem]) hb1 (by first | (simp; done) | (simp; omega) | omega)
  have hB : Below w.heap.size w w1 := Below.trans (by (repeat (first | (with_reducible exact Below.refl _ _) | ((with_reducible first | refine bSetRow ?_ ?_ _ | refine Below.alloc ?_ ?_ _ | refine Below.setCell ?_ ?_ _); rotate_left 1; (focus (first | (simp; done) | (simp; omega)))) | (with_reducible refine Below.drew ?_)))) (hb1.mono (by first | (simp; done) | (simp; omega) | omega))
  clear hb1
  have g65 : (mD 1 r mk [S ses, S [], S ti, S no, S sg, .slice ac n cc, .int .i64 life, .int .i64 (an : Int), .bool true, .bool retry])[65]? = some (S ses) := mD_65
  have g66 : (mD 1 r mk [S ses, S [], S ti, S no, S sg, .slice ac n cc, .int .i64 life, .int .i64 (an : Int), .bool true, .bool retry])[66]? = some (S []) := mD_66
  have g67 : (mD 1 r mk [S ses, S [], S ti, S no, S sg, .slice ac n cc, .int .i64 life, .int .i64 (an : Int), .bool true, .bool retry])[67]? = some (S ti) := mD_67
  have g72 : (mD 1 r mk [S ses, S [], S ti, S no, S sg, .slice ac n cc, .int .i64 life, .int .i64 (an : Int), .bool true, .bool retry])[72]? = some (.int .i64 (an : Int)) := mD_72
  go_wp2_with fail
  refine (HW2.out _).mono ?_
  rintro e w2 ⟨rfl, rfl⟩
  go_upto_region 12 with (fail)
  (refine wp_region_seq 4 [] [] shp (phi _ []) (by kernel_rfl) (phi_stab _ _) (phi_shp _ _) shp_inh ?_; simp only [List.take_succ_cons, List.take_zero, List.drop_succ_cons, List.drop_zero]; apply Exists.intro; apply Exists.intro; refine ⟨?_, ?_, ?_⟩)
  · intro ν hν
    have HS' := HS.out
    have HT' := HT.out
    (apply wpF_q rfl; focus (intro C hC hG; (first | go_big_quiet_skip | (go_big_quiet_want; go_big_quiet_op; first | go_big_quiet_on | (refine ⟨_, fun _ _ => rfl, ?_⟩; go_big_quiet_on)) | (go_big_quiet_want; apply qf_load1 _ _ rfl _ _ rfl; (exact hC); rotate_left 1; (focus (intro _; simp [go_sem]; done)); rotate_right 1; assumption; assumption; (simp only [Act.put, lS]; go_big_quiet_on)) | (go_big_quiet_want; apply qf_loadA _ _ rfl _ _ rfl (sz := 32); (exact hC); rotate_left 1; (focus (intro _; simp [go_sem]; done)); (focus (intro _; simp [go_sem]; done)); rotate_right 1; assumption; assumption; assumption; (simp only [Act.put, lS]; go_big_quiet_on))); exact wpQuiet_nil rfl))
    (apply wpF_q rfl; focus (intro C hC hG; go_big_quiet_want; apply qf_call; (exact hC); (exact hG); (exact (fun w' _ _ => refvec_any ([] : List UInt8) 2 w' (by decide) (by decide))); (focus (intro w; simp [go_sem]; done)); (simp only [Act.put, lS]; go_big_quiet_on); exact wpQuiet_nil rfl))
    (apply wpF_q rfl; focus (intro C hC hG; go_big_quiet_want; apply qf_call; (exact hC); (exact hG); (exact (fun w' _ _ => refvec_any (vecB ([] : List UInt8) 2) 2 w' (by decide) (by decide))); (focus (intro w; simp [go_sem]; done)); (simp only [Act.put, lS]; go_big_quiet_on); exact wpQuiet_nil rfl))
    (apply wpF_q rfl; focus (intro C hC hG; go_big_quiet_want; apply qf_add (hAble ++ hShare) (vecB (vecB ([] : List UInt8) 2) 2) _ _ _ rfl rfl rfl; (focus (first | decide | (simp only [List.length_append, List.length_nil, List.length_cons, vecB_len, numB_len, fx_len, hLS]; omega))); (simp only [Act.put, lS]; go_big_quiet_on); exact wpQuiet_nil rfl))
    exact wpF_nil ⟨rfl, rfl⟩
  · intro ν ν'; kernel_rfl
  intro ν w3 hν hB1 hD
  have hr := Row.below hr hB1 hr.lt
  have hr2 := Row.below hr2 hB1 hr2.lt
  have hB := Below.trans hB (hB1.mono hB.size)
  clear hD hν hB1
  go_upto_region 14 with (fail)
  have hrd := hr.drew
  have hr2d := hr2.drew
  (refine wp_region_freeD 17 [] [] shp (phi _ []) (by kernel_rfl) (by kernel_rfl) (by kernel_rfl) (phi_stab _ _) (phi_shp _ _) shp_inh ?_; simp only [List.take_succ_cons, List.take_zero, List.drop_succ_cons, List.drop_zero]; apply Exists.intro; apply Exists.intro; refine ⟨?_, ?_, ?_⟩)
  · intro ν hν
    have HS' := HS.out
    have HT' := HT.out
    (apply wpF_q rfl; focus (intro C hC hG; (first | go_big_quiet_skip | (go_big_quiet_want; go_big_quiet_op; first | go_big_quiet_on | (refine ⟨_, fun _ _ => rfl, ?_⟩; go_big_quiet_on)) | (go_big_quiet_want; apply qf_load1 _ _ rfl _ _ rfl; (exact hC); rotate_left 1; (focus (intro _; simp [go_sem]; done)); rotate_right 1; assumption; assumption; (simp only [Act.put, lS]; go_big_quiet_on)) | (go_big_quiet_want; apply qf_loadA _ _ rfl _ _ rfl (sz := 32); (exact hC); rotate_left 1; (focus (intro _; simp [go_sem]; done)); (focus (intro _; simp [go_sem]; done)); rotate_right 1; assumption; assumption; assumption; (simp only [Act.put, lS]; go_big_quiet_on))); exact wpQuiet_nil rfl))
    (apply wpF_q rfl; focus (intro C hC hG; go_big_quiet_want; apply qf_add ((hAble ++ hShare) ++ vecB (vecB ([] : List UInt8) 2) 2) (hModes ++ hPsk) _ _ _ rfl rfl rfl; (focus (first | decide | (simp only [List.length_append, List.length_nil, List.length_cons, vecB_len, numB_len, fx_len, hLS]; omega))); (simp only [Act.put, lS]; go_big_quiet_on); exact wpQuiet_nil rfl))
    iterate 2 (apply wpF_q rfl; focus (intro C hC hG; (first | go_big_quiet_skip | (go_big_quiet_want; go_big_quiet_op; first | go_big_quiet_on | (refine ⟨_, fun _ _ => rfl, ?_⟩; go_big_quiet_on)) | (go_big_quiet_want; apply qf_load1 _ _ rfl _ _ rfl; (exact hC); rotate_left 1; (focus (intro _; simp [go_sem]; done)); rotate_right 1; assumption; assumption; (simp only [Act.put, lS]; go_big_quiet_on)) | (go_big_quiet_want; apply qf_loadA _ _ rfl _ _ rfl (sz := 32); (exact hC); rotate_left 1; (focus (intro _; simp [go_sem]; done)); (focus (intro _; simp [go_sem]; done)); rotate_right 1; assumption; assumption; assumption; (simp only [Act.put, lS]; go_big_quiet_on))); exact wpQuiet_nil rfl))
    (apply wpF_q rfl; focus (intro C hC hG; go_big_quiet_want; apply qf_call; (exact hC); (exact hG); (exact (fun w' _ _ => refvec_any ti 2 w' (by omega) (by decide))); (focus (intro w; simp [go_sem]; done)); (simp only [Act.put, lS]; go_big_quiet_on); exact wpQuiet_nil rfl))
    iterate 2 (apply wpF_q rfl; focus (intro C hC hG; (first | go_big_quiet_skip | (go_big_quiet_want; go_big_quiet_op; first | go_big_quiet_on | (refine ⟨_, fun _ _ => rfl, ?_⟩; go_big_quiet_on)) | (go_big_quiet_want; apply qf_load1 _ _ rfl _ _ rfl; (exact hC); rotate_left 1; (focus (intro _; simp [go_sem]; done)); rotate_right 1; assumption; assumption; (simp only [Act.put, lS]; go_big_quiet_on)) | (go_big_quiet_want; apply qf_loadA _ _ rfl _ _ rfl (sz := 32); (exact hC); rotate_left 1; (focus (intro _; simp [go_sem]; done)); (focus (intro _; simp [go_sem]; done)); rotate_right 1; assumption; assumption; assumption; (simp only [Act.put, lS]; go_big_quiet_on))); exact wpQuiet_nil rfl))
    (apply wpF_q rfl; focus (intro C hC hG; go_big_quiet_want; apply qf_call; (exact hC); (exact hG); (exact (fun w' _ _ => refnum_any an 4 w' HA.out (by decide))); (focus (intro w; simp [go_sem]; done)); (simp only [Act.put, lS]; go_big_quiet_on); exact wpQuiet_nil rfl))
    (apply wpF_q rfl; focus (intro C hC hG; go_big_quiet_want; apply qf_add (vecB ti 2) (numB an 4) _ _ _ rfl rfl rfl; (focus (first | decide | (simp only [List.length_append, List.length_nil, List.length_cons, vecB_len, numB_len, fx_len, hLS]; omega))); (simp only [Act.put, lS]; go_big_quiet_on); exact wpQuiet_nil rfl))
    (apply wpF_q rfl; focus (intro C hC hG; go_big_quiet_want; apply qf_call; (exact hC); (exact hG); (exact (fun w' _ _ => refvec_any (vecB ti 2 ++ numB an 4) 2 w' (by simp only [List.length_append, vecB_len, numB_len, fx_len, List.length_nil, hLS]; omega) (by decide))); (focus (intro w; simp [go_sem]; done)); (simp only [Act.put, lS]; go_big_quiet_on); exact wpQuiet_nil rfl))
    (apply wpF_q rfl; focus (intro C hC hG; go_big_quiet_want; apply qf_add (vecB (vecB ti 2 ++ numB an 4) 2) hBinder _ _ _ rfl rfl rfl; (focus (first | decide | (simp only [List.length_append, List.length_nil, List.length_cons, vecB_len, numB_len, fx_len, hLS]; omega))); (simp only [Act.put, lS]; go_big_quiet_on); exact wpQuiet_nil rfl))
    iterate 2 (apply wpF_q rfl; focus (intro C hC hG; (first | go_big_quiet_skip | (go_big_quiet_want; go_big_quiet_op; first | go_big_quiet_on | (refine ⟨_, fun _ _ => rfl, ?_⟩; go_big_quiet_on)) | (go_big_quiet_want; apply qf_load1 _ _ rfl _ _ rfl; (exact hC); rotate_left 1; (focus (intro _; simp [go_sem]; done)); rotate_right 1; assumption; assumption; (simp only [Act.put, lS]; go_big_quiet_on)) | (go_big_quiet_want; apply qf_loadA _ _ rfl _ _ rfl (sz := 32); (exact hC); rotate_left 1; (focus (intro _; simp [go_sem]; done)); (focus (intro _; simp [go_sem]; done)); rotate_right 1; assumption; assumption; assumption; (simp only [Act.put, lS]; go_big_quiet_on))); exact wpQuiet_nil rfl))
    (apply wpF_q rfl; focus (intro C hC hG; go_big_quiet_want; apply qf_conv; (focus rfl); (exact hC); (focus rfl); (exact Try.underlying27); (exact Try.underlying5); (exact Try.underlying9); (exact (fun w hB _ => (SlB.markM hrd).below hB)); (simp only [Act.put, lS]; go_big_quiet_on); exact wpQuiet_nil rfl))
    (apply wpF_q rfl; focus (intro C hC hG; go_big_quiet_want; apply qf_add (vecB (vecB ti 2 ++ numB an 4) 2 ++ hBinder) (fx mk) _ _ _ rfl rfl rfl; (focus (first | decide | (simp only [List.length_append, List.length_nil, List.length_cons, vecB_len, numB_len, fx_len, hLS]; omega))); (simp only [Act.put, lS]; go_big_quiet_on); exact wpQuiet_nil rfl))
    (apply wpF_q rfl; focus (intro C hC hG; go_big_quiet_want; apply qf_call; (exact hC); (exact hG); (exact (fun w' _ _ => refvec_any (vecB (vecB ti 2 ++ numB an 4) 2 ++ hBinder ++ fx mk) 2 w' (by simp only [List.length_append, vecB_len, numB_len, fx_len, List.length_nil, hLS]; omega) (by decide))); (focus (intro w; simp [go_sem]; done)); (simp only [Act.put, lS]; go_big_quiet_on); exact wpQuiet_nil rfl))
    (apply wpF_q rfl; focus (intro C hC hG; go_big_quiet_want; apply qf_add (((hAble ++ hShare) ++ vecB (vecB ([] : List UInt8) 2) 2) ++ (hModes ++ hPsk)) (vecB (vecB (vecB ti 2 ++ numB an 4) 2 ++ hBinder ++ fx mk) 2) _ _ _ rfl rfl rfl; (focus (first | decide | (simp only [List.length_append, List.length_nil, List.length_cons, vecB_len, numB_len, fx_len, hLS]; omega))); (simp only [Act.put, lS]; go_big_quiet_on); exact wpQuiet_nil rfl))
    exact wpF_nil ⟨rfl, rfl⟩
  · intro ν ν'; kernel_rfl
  intro ν w4 hν hB1 hD
  have hr := Row.below hr.drew hB1 hr.lt
  have hr2 := Row.below hr2.drew hB1 hr2.lt
  have hB := Below.trans hB.drew (hB1.mono hB.drew.size)
  clear hD hν hB1
  try clear hrd
  try clear hr2d
  go_upto_region 15 with (fail)
  have hrd := hr.drew
  have hr2d := hr2.drew
  (refine wp_region_freeD 12 [] [] shp (phi _ []) (by kernel_rfl) (by kernel_rfl) (by kernel_rfl) (phi_stab _ _) (phi_shp _ _) shp_inh ?_; simp only [List.take_succ_cons, List.take_zero, List.drop_succ_cons, List.drop_zero]; apply Exists.intro; apply Exists.intro; refine ⟨?_, ?_, ?_⟩)
  · intro ν hν
    have HS' := HS.out
    have HT' := HT.out
    iterate 2 (apply wpF_q rfl; focus (intro C hC hG; (first | go_big_quiet_skip | (go_big_quiet_want; go_big_quiet_op; first | go_big_quiet_on | (refine ⟨_, fun _ _ => rfl, ?_⟩; go_big_quiet_on)) | (go_big_quiet_want; apply qf_load1 _ _ rfl _ _ rfl; (exact hC); rotate_left 1; (focus (intro _; simp [go_sem]; done)); rotate_right 1; assumption; assumption; (simp only [Act.put, lS]; go_big_quiet_on)) | (go_big_quiet_want; apply qf_loadA _ _ rfl _ _ rfl (sz := 32); (exact hC); rotate_left 1; (focus (intro _; simp [go_sem]; done)); (focus (intro _; simp [go_sem]; done)); rotate_right 1; assumption; assumption; assumption; (simp only [Act.put, lS]; go_big_quiet_on))); exact wpQuiet_nil rfl))
    (apply wpF_q rfl; focus (intro C hC hG; go_big_quiet_want; apply qf_conv; (focus rfl); (exact hC); (focus rfl); (exact Try.underlying27); (exact Try.underlying5); (exact Try.underlying9); (exact (fun w hB _ => (SlB.rand hrd).below hB)); (simp only [Act.put, lS]; go_big_quiet_on); exact wpQuiet_nil rfl))
    (apply wpF_q rfl; focus (intro C hC hG; go_big_quiet_want; apply qf_add hVersion (fx r) _ _ _ rfl rfl rfl; (focus (first | decide | (simp only [List.length_append, List.length_nil, List.length_cons, vecB_len, numB_len, fx_len, hLS]; omega))); (simp only [Act.put, lS]; go_big_quiet_on); exact wpQuiet_nil rfl))
    iterate 2 (apply wpF_q rfl; focus (intro C hC hG; (first | go_big_quiet_skip | (go_big_quiet_want; go_big_quiet_op; first | go_big_quiet_on | (refine ⟨_, fun _ _ => rfl, ?_⟩; go_big_quiet_on)) | (go_big_quiet_want; apply qf_load1 _ _ rfl _ _ rfl; (exact hC); rotate_left 1; (focus (intro _; simp [go_sem]; done)); rotate_right 1; assumption; assumption; (simp only [Act.put, lS]; go_big_quiet_on)) | (go_big_quiet_want; apply qf_loadA _ _ rfl _ _ rfl (sz := 32); (exact hC); rotate_left 1; (focus (intro _; simp [go_sem]; done)); (focus (intro _; simp [go_sem]; done)); rotate_right 1; assumption; assumption; assumption; (simp only [Act.put, lS]; go_big_quiet_on))); exact wpQuiet_nil rfl))
    (apply wpF_q rfl; focus (intro C hC hG; go_big_quiet_want; apply qf_call; (exact hC); (exact hG); (exact (fun w' _ _ => refvec_any ses 1 w' (by omega) (by decide))); (focus (intro w; simp [go_sem]; done)); (simp only [Act.put, lS]; go_big_quiet_on); exact wpQuiet_nil rfl))
    (apply wpF_q rfl; focus (intro C hC hG; go_big_quiet_want; apply qf_add (hVersion ++ fx r) (vecB ses 1) _ _ _ rfl rfl rfl; (focus (first | decide | (simp only [List.length_append, List.length_nil, List.length_cons, vecB_len, numB_len, fx_len, hLS]; omega))); (simp only [Act.put, lS]; go_big_quiet_on); exact wpQuiet_nil rfl))
    (apply wpF_q rfl; focus (intro C hC hG; go_big_quiet_want; apply qf_add (hVersion ++ fx r ++ vecB ses 1) hSuites _ _ _ rfl rfl rfl; (focus (first | decide | (simp only [List.length_append, List.length_nil, List.length_cons, vecB_len, numB_len, fx_len, hLS]; omega))); (simp only [Act.put, lS]; go_big_quiet_on); exact wpQuiet_nil rfl))
    (apply wpF_q rfl; focus (intro C hC hG; (first | go_big_quiet_skip | (go_big_quiet_want; go_big_quiet_op; first | go_big_quiet_on | (refine ⟨_, fun _ _ => rfl, ?_⟩; go_big_quiet_on)) | (go_big_quiet_want; apply qf_load1 _ _ rfl _ _ rfl; (exact hC); rotate_left 1; (focus (intro _; simp [go_sem]; done)); rotate_right 1; assumption; assumption; (simp only [Act.put, lS]; go_big_quiet_on)) | (go_big_quiet_want; apply qf_loadA _ _ rfl _ _ rfl (sz := 32); (exact hC); rotate_left 1; (focus (intro _; simp [go_sem]; done)); (focus (intro _; simp [go_sem]; done)); rotate_right 1; assumption; assumption; assumption; (simp only [Act.put, lS]; go_big_quiet_on))); exact wpQuiet_nil rfl))
    (apply wpF_q rfl; focus (intro C hC hG; go_big_quiet_want; apply qf_call; (exact hC); (exact hG); (exact (fun w' _ _ => refvec_any (((hAble ++ hShare) ++ vecB (vecB ([] : List UInt8) 2) 2) ++ (hModes ++ hPsk) ++ vecB (vecB (vecB ti 2 ++ numB an 4) 2 ++ hBinder ++ fx mk) 2) 2 w' (by simp only [List.length_append, vecB_len, numB_len, fx_len, List.length_nil, hLS]; omega) (by decide))); (focus (intro w; simp [go_sem]; done)); (simp only [Act.put, lS]; go_big_quiet_on); exact wpQuiet_nil rfl))
    (apply wpF_q rfl; focus (intro C hC hG; go_big_quiet_want; apply qf_add (hVersion ++ fx r ++ vecB ses 1 ++ hSuites) (vecB (((hAble ++ hShare) ++ vecB (vecB ([] : List UInt8) 2) 2) ++ (hModes ++ hPsk) ++ vecB (vecB (vecB ti 2 ++ numB an 4) 2 ++ hBinder ++ fx mk) 2) 2) _ _ _ rfl rfl rfl; (focus (first | decide | (simp only [List.length_append, List.length_nil, List.length_cons, vecB_len, numB_len, fx_len, hLS]; omega))); (simp only [Act.put, lS]; go_big_quiet_on); exact wpQuiet_nil rfl))
    exact wpF_nil ⟨rfl, rfl⟩
  · intro ν ν'; kernel_rfl
  intro ν w5 hν hB1 hD
  have hr := Row.below hr.drew hB1 hr.lt
  have hr2 := Row.below hr2.drew hB1 hr2.lt
  have hB := Below.trans hB.drew (hB1.mono hB.drew.size)
  clear hD hν hB1
  try clear hrd
  try clear hr2d
  go_wp2_with fail
  go_ret2
  exact ⟨rfl, hB⟩
set_option maxRecDepth 100000 in
set_option maxHeartbeats 4000000 in
theorem refbody_1sf (r mk ses sh ti no sg : List UInt8) (ac : Option Addr) (n cc : Nat) (life : Int) (an : Nat) (retry : Bool) (w : World) (hbv : bareB (fx zero32) (fx mk) (([] : List UInt8).length + ([] : List UInt8).length + ti.length + no.length + sg.length + n) life (an : Int) false retry = true) (hs : ses.length ≤ 32) (h65 : sh.length = 65) :
    Calls Try.prog 25 #[.agg (mD 1 r mk [S ses, S sh, S ti, S no, S sg, .slice ac n cc, .int .i64 life, .int .i64 (an : Int), .bool false, .bool retry])] w fun e w' => e = .returned (.tuple #[S (hVersion ++ fx r ++ vecB ses 1 ++ hSuites ++ vecB ((hAble ++ hShare) ++ vecB (vecB (hGroup ++ vecB sh 2) 2) 2) 2), .bool true]) ∧ Below w.heap.size w w' := by
  have hbare : ∀ w, Calls Try.prog 42 #[.agg (mD 1 zero32 mk [S [], S [], S ti, S no, S sg, .slice ac n cc, .int .i64 life, .int .i64 (an : Int), .bool false, .bool retry])] w fun e w' => e = .returned (.bool (bareB (fx zero32) (fx mk) (([] : List UInt8).length + ([] : List UInt8).length + ti.length + no.length + sg.length + n) life (an : Int) false retry)) ∧ Below w.heap.size w w' := fun w => refbareD _ _ _ _ _ _ _ _ _ _ _ _ _ _ _ w
  rw [hbv] at hbare
  have HBARE := Lib.hid hbare
  clear hbare hbv
  have x1 : ¬ (32 : Int) < (ses.length : Int) := by omega
  have HS := Lib.hid hs
  clear hs
  have x2 : ¬ (sh.length : Int) = 0 := by omega
  have x3 : ((sh.length : Int) == 65) = true := by simp; omega
  have x3b : (sh.length : Int) = 65 := by omega
  have x4 : sh ≠ [] := fun e => by subst e; simp at h65
  have x4a : (sh == []) = false := by simpa using x4
  have x4b : sh.isEmpty = false := by simpa using x4
  have H65 := Lib.hid h65
  clear h65
  go_enter Try.func25, Try.ntmps25
  go_wp2_with fail
  refine (HBARE.out _).mono ?_
  rintro e w1 ⟨rfl, hb1⟩
  have hr : Row w1 w.heap.size 25 (mD 1 r mk [S ses, S sh, S ti, S no, S sg, .slice ac n cc, .int .i64 life, .int .i64 (an : Int), .bool false, .bool retry]) := Row.below (by show row _ _ = _; simp [go_sem]) hb1 (by first | (simp; done) | (simp; omega) | omega)
  have hr2 : Row w1 (w.heap.size + 1) 25 (mD 1 zero32 mk [S [], S [], S ti, S no, S sg, .slice ac n cc, .int .i64 life, .int .i64 (an : Int), .bool false, .bool retry]) := Row.below (by show row _ _ = _; simp [go_sem]) hb1 (by first | (simp; done) | (simp; omega) | omega)
  have hB : Below w.heap.size w w1 := Below.trans (by (repeat (first | (with_reducible exact Below.refl _ _) | ((with_reducible first | refine bSetRow ?_ ?_ _ | refine Below.alloc ?_ ?_ _ | refine Below.setCell ?_ ?_ _); rotate_left 1; (focus (first | (simp; done) | (simp; omega)))) | (with_reducible refine Below.drew ?_)))) (hb1.mono (by first | (simp; done) | (simp; omega) | omega))
  clear hb1
  have g65 : (mD 1 r mk [S ses, S sh, S ti, S no, S sg, .slice ac n cc, .int .i64 life, .int .i64 (an : Int), .bool false, .bool retry])[65]? = some (S ses) := mD_65
  have g66 : (mD 1 r mk [S ses, S sh, S ti, S no, S sg, .slice ac n cc, .int .i64 life, .int .i64 (an : Int), .bool false, .bool retry])[66]? = some (S sh) := mD_66
  have g67 : (mD 1 r mk [S ses, S sh, S ti, S no, S sg, .slice ac n cc, .int .i64 life, .int .i64 (an : Int), .bool false, .bool retry])[67]? = some (S ti) := mD_67
  have g72 : (mD 1 r mk [S ses, S sh, S ti, S no, S sg, .slice ac n cc, .int .i64 life, .int .i64 (an : Int), .bool false, .bool retry])[72]? = some (.int .i64 (an : Int)) := mD_72
  go_upto_region 11 with (fail)
  (refine wp_region_seq 4 [] [] shp (phi _ []) (by kernel_rfl) (phi_stab _ _) (phi_shp _ _) shp_inh ?_; simp only [List.take_succ_cons, List.take_zero, List.drop_succ_cons, List.drop_zero]; apply Exists.intro; apply Exists.intro; refine ⟨?_, ?_, ?_⟩)
  · intro ν hν
    have HS' := HS.out
    have H65' := H65.out
    iterate 2 (apply wpF_q rfl; focus (intro C hC hG; (first | go_big_quiet_skip | (go_big_quiet_want; go_big_quiet_op; first | go_big_quiet_on | (refine ⟨_, fun _ _ => rfl, ?_⟩; go_big_quiet_on)) | (go_big_quiet_want; apply qf_load1 _ _ rfl _ _ rfl; (exact hC); rotate_left 1; (focus (intro _; simp [go_sem]; done)); rotate_right 1; assumption; assumption; (simp only [Act.put, lS]; go_big_quiet_on)) | (go_big_quiet_want; apply qf_loadA _ _ rfl _ _ rfl (sz := 32); (exact hC); rotate_left 1; (focus (intro _; simp [go_sem]; done)); (focus (intro _; simp [go_sem]; done)); rotate_right 1; assumption; assumption; assumption; (simp only [Act.put, lS]; go_big_quiet_on))); exact wpQuiet_nil rfl))
    (apply wpF_q rfl; focus (intro C hC hG; go_big_quiet_want; apply qf_call; (exact hC); (exact hG); (exact (fun w' _ _ => refvec_any sh 2 w' (by omega) (by decide))); (focus (intro w; simp [go_sem]; done)); (simp only [Act.put, lS]; go_big_quiet_on); exact wpQuiet_nil rfl))
    (apply wpF_q rfl; focus (intro C hC hG; go_big_quiet_want; apply qf_add hGroup (vecB sh 2) _ _ _ rfl rfl rfl; (focus (first | decide | (simp only [List.length_append, List.length_nil, List.length_cons, vecB_len, numB_len, fx_len, hLS]; omega))); (simp only [Act.put, lS]; go_big_quiet_on); exact wpQuiet_nil rfl))
    exact wpF_nil ⟨rfl, rfl⟩
  · intro ν ν'; kernel_rfl
  intro ν w2 hν hB1 hD
  have hr := Row.below hr hB1 hr.lt
  have hr2 := Row.below hr2 hB1 hr2.lt
  have hB := Below.trans hB (hB1.mono hB.size)
  clear hD hν hB1
  go_upto_region 12 with (fail)
  (refine wp_region_seq 4 [] [] shp (phi _ []) (by kernel_rfl) (phi_stab _ _) (phi_shp _ _) shp_inh ?_; simp only [List.take_succ_cons, List.take_zero, List.drop_succ_cons, List.drop_zero]; apply Exists.intro; apply Exists.intro; refine ⟨?_, ?_, ?_⟩)
  · intro ν hν
    have HS' := HS.out
    have H65' := H65.out
    (apply wpF_q rfl; focus (intro C hC hG; (first | go_big_quiet_skip | (go_big_quiet_want; go_big_quiet_op; first | go_big_quiet_on | (refine ⟨_, fun _ _ => rfl, ?_⟩; go_big_quiet_on)) | (go_big_quiet_want; apply qf_load1 _ _ rfl _ _ rfl; (exact hC); rotate_left 1; (focus (intro _; simp [go_sem]; done)); rotate_right 1; assumption; assumption; (simp only [Act.put, lS]; go_big_quiet_on)) | (go_big_quiet_want; apply qf_loadA _ _ rfl _ _ rfl (sz := 32); (exact hC); rotate_left 1; (focus (intro _; simp [go_sem]; done)); (focus (intro _; simp [go_sem]; done)); rotate_right 1; assumption; assumption; assumption; (simp only [Act.put, lS]; go_big_quiet_on))); exact wpQuiet_nil rfl))
    (apply wpF_q rfl; focus (intro C hC hG; go_big_quiet_want; apply qf_call; (exact hC); (exact hG); (exact (fun w' _ _ => refvec_any (hGroup ++ vecB sh 2) 2 w' (by simp only [List.length_append, vecB_len, hLS]; omega) (by decide))); (focus (intro w; simp [go_sem]; done)); (simp only [Act.put, lS]; go_big_quiet_on); exact wpQuiet_nil rfl))
    (apply wpF_q rfl; focus (intro C hC hG; go_big_quiet_want; apply qf_call; (exact hC); (exact hG); (exact (fun w' _ _ => refvec_any (vecB (hGroup ++ vecB sh 2) 2) 2 w' (by simp only [List.length_append, vecB_len, hLS]; omega) (by decide))); (focus (intro w; simp [go_sem]; done)); (simp only [Act.put, lS]; go_big_quiet_on); exact wpQuiet_nil rfl))
    (apply wpF_q rfl; focus (intro C hC hG; go_big_quiet_want; apply qf_add (hAble ++ hShare) (vecB (vecB (hGroup ++ vecB sh 2) 2) 2) _ _ _ rfl rfl rfl; (focus (first | decide | (simp only [List.length_append, List.length_nil, List.length_cons, vecB_len, numB_len, fx_len, hLS]; omega))); (simp only [Act.put, lS]; go_big_quiet_on); exact wpQuiet_nil rfl))
    exact wpF_nil ⟨rfl, rfl⟩
  · intro ν ν'; kernel_rfl
  intro ν w3 hν hB1 hD
  have hr := Row.below hr hB1 hr.lt
  have hr2 := Row.below hr2 hB1 hr2.lt
  have hB := Below.trans hB (hB1.mono hB.size)
  clear hD hν hB1
  go_upto_region 15 with (fail)
  have hrd := hr.drew
  have hr2d := hr2.drew
  (refine wp_region_freeD 12 [] [] shp (phi _ []) (by kernel_rfl) (by kernel_rfl) (by kernel_rfl) (phi_stab _ _) (phi_shp _ _) shp_inh ?_; simp only [List.take_succ_cons, List.take_zero, List.drop_succ_cons, List.drop_zero]; apply Exists.intro; apply Exists.intro; refine ⟨?_, ?_, ?_⟩)
  · intro ν hν
    have HS' := HS.out
    have H65' := H65.out
    iterate 2 (apply wpF_q rfl; focus (intro C hC hG; (first | go_big_quiet_skip | (go_big_quiet_want; go_big_quiet_op; first | go_big_quiet_on | (refine ⟨_, fun _ _ => rfl, ?_⟩; go_big_quiet_on)) | (go_big_quiet_want; apply qf_load1 _ _ rfl _ _ rfl; (exact hC); rotate_left 1; (focus (intro _; simp [go_sem]; done)); rotate_right 1; assumption; assumption; (simp only [Act.put, lS]; go_big_quiet_on)) | (go_big_quiet_want; apply qf_loadA _ _ rfl _ _ rfl (sz := 32); (exact hC); rotate_left 1; (focus (intro _; simp [go_sem]; done)); (focus (intro _; simp [go_sem]; done)); rotate_right 1; assumption; assumption; assumption; (simp only [Act.put, lS]; go_big_quiet_on))); exact wpQuiet_nil rfl))
    (apply wpF_q rfl; focus (intro C hC hG; go_big_quiet_want; apply qf_conv; (focus rfl); (exact hC); (focus rfl); (exact Try.underlying27); (exact Try.underlying5); (exact Try.underlying9); (exact (fun w hB _ => (SlB.rand hrd).below hB)); (simp only [Act.put, lS]; go_big_quiet_on); exact wpQuiet_nil rfl))
    (apply wpF_q rfl; focus (intro C hC hG; go_big_quiet_want; apply qf_add hVersion (fx r) _ _ _ rfl rfl rfl; (focus (first | decide | (simp only [List.length_append, List.length_nil, List.length_cons, vecB_len, numB_len, fx_len, hLS]; omega))); (simp only [Act.put, lS]; go_big_quiet_on); exact wpQuiet_nil rfl))
    iterate 2 (apply wpF_q rfl; focus (intro C hC hG; (first | go_big_quiet_skip | (go_big_quiet_want; go_big_quiet_op; first | go_big_quiet_on | (refine ⟨_, fun _ _ => rfl, ?_⟩; go_big_quiet_on)) | (go_big_quiet_want; apply qf_load1 _ _ rfl _ _ rfl; (exact hC); rotate_left 1; (focus (intro _; simp [go_sem]; done)); rotate_right 1; assumption; assumption; (simp only [Act.put, lS]; go_big_quiet_on)) | (go_big_quiet_want; apply qf_loadA _ _ rfl _ _ rfl (sz := 32); (exact hC); rotate_left 1; (focus (intro _; simp [go_sem]; done)); (focus (intro _; simp [go_sem]; done)); rotate_right 1; assumption; assumption; assumption; (simp only [Act.put, lS]; go_big_quiet_on))); exact wpQuiet_nil rfl))
    (apply wpF_q rfl; focus (intro C hC hG; go_big_quiet_want; apply qf_call; (exact hC); (exact hG); (exact (fun w' _ _ => refvec_any ses 1 w' (by omega) (by decide))); (focus (intro w; simp [go_sem]; done)); (simp only [Act.put, lS]; go_big_quiet_on); exact wpQuiet_nil rfl))
    (apply wpF_q rfl; focus (intro C hC hG; go_big_quiet_want; apply qf_add (hVersion ++ fx r) (vecB ses 1) _ _ _ rfl rfl rfl; (focus (first | decide | (simp only [List.length_append, List.length_nil, List.length_cons, vecB_len, numB_len, fx_len, hLS]; omega))); (simp only [Act.put, lS]; go_big_quiet_on); exact wpQuiet_nil rfl))
    (apply wpF_q rfl; focus (intro C hC hG; go_big_quiet_want; apply qf_add (hVersion ++ fx r ++ vecB ses 1) hSuites _ _ _ rfl rfl rfl; (focus (first | decide | (simp only [List.length_append, List.length_nil, List.length_cons, vecB_len, numB_len, fx_len, hLS]; omega))); (simp only [Act.put, lS]; go_big_quiet_on); exact wpQuiet_nil rfl))
    (apply wpF_q rfl; focus (intro C hC hG; (first | go_big_quiet_skip | (go_big_quiet_want; go_big_quiet_op; first | go_big_quiet_on | (refine ⟨_, fun _ _ => rfl, ?_⟩; go_big_quiet_on)) | (go_big_quiet_want; apply qf_load1 _ _ rfl _ _ rfl; (exact hC); rotate_left 1; (focus (intro _; simp [go_sem]; done)); rotate_right 1; assumption; assumption; (simp only [Act.put, lS]; go_big_quiet_on)) | (go_big_quiet_want; apply qf_loadA _ _ rfl _ _ rfl (sz := 32); (exact hC); rotate_left 1; (focus (intro _; simp [go_sem]; done)); (focus (intro _; simp [go_sem]; done)); rotate_right 1; assumption; assumption; assumption; (simp only [Act.put, lS]; go_big_quiet_on))); exact wpQuiet_nil rfl))
    (apply wpF_q rfl; focus (intro C hC hG; go_big_quiet_want; apply qf_call; (exact hC); (exact hG); (exact (fun w' _ _ => refvec_any ((hAble ++ hShare) ++ vecB (vecB (hGroup ++ vecB sh 2) 2) 2) 2 w' (by simp only [List.length_append, vecB_len, numB_len, fx_len, List.length_nil, hLS]; omega) (by decide))); (focus (intro w; simp [go_sem]; done)); (simp only [Act.put, lS]; go_big_quiet_on); exact wpQuiet_nil rfl))
    (apply wpF_q rfl; focus (intro C hC hG; go_big_quiet_want; apply qf_add (hVersion ++ fx r ++ vecB ses 1 ++ hSuites) (vecB ((hAble ++ hShare) ++ vecB (vecB (hGroup ++ vecB sh 2) 2) 2) 2) _ _ _ rfl rfl rfl; (focus (first | decide | (simp only [List.length_append, List.length_nil, List.length_cons, vecB_len, numB_len, fx_len, hLS]; omega))); (simp only [Act.put, lS]; go_big_quiet_on); exact wpQuiet_nil rfl))
    exact wpF_nil ⟨rfl, rfl⟩
  · intro ν ν'; kernel_rfl
  intro ν w5 hν hB1 hD
  have hr := Row.below hr.drew hB1 hr.lt
  have hr2 := Row.below hr2.drew hB1 hr2.lt
  have hB := Below.trans hB.drew (hB1.mono hB.drew.size)
  clear hD hν hB1
  try clear hrd
  try clear hr2d
  go_wp2_with fail
  go_ret2
  exact ⟨rfl, hB⟩
set_option maxRecDepth 100000 in
set_option maxHeartbeats 4000000 in
theorem refbody_1st (r mk ses sh ti no sg : List UInt8) (ac : Option Addr) (n cc : Nat) (life : Int) (an : Nat) (retry : Bool) (w : World) (hbv : bareB (fx zero32) (fx zero32) (([] : List UInt8).length + ([] : List UInt8).length + ([] : List UInt8).length + no.length + sg.length + n) life 0 false retry = true) (hs : ses.length ≤ 32) (h65 : sh.length = 65) (ht1 : 1 ≤ ti.length) (ht2 : ti.length ≤ 1000) (han : an < 4294967296) :
    Calls Try.prog 25 #[.agg (mD 1 r mk [S ses, S sh, S ti, S no, S sg, .slice ac n cc, .int .i64 life, .int .i64 (an : Int), .bool true, .bool retry])] w fun e w' => e = .returned (.tuple #[S (hVersion ++ fx r ++ vecB ses 1 ++ hSuites ++ vecB (((hAble ++ hShare) ++ vecB (vecB (hGroup ++ vecB sh 2) 2) 2) ++ (hModes ++ hPsk) ++ vecB (vecB (vecB ti 2 ++ numB an 4) 2 ++ hBinder ++ fx mk) 2) 2), .bool true]) ∧ Below w.heap.size w w' := by
  have hbare : ∀ w, Calls Try.prog 42 #[.agg (mD 1 zero32 zero32 [S [], S [], S [], S no, S sg, .slice ac n cc, .int .i64 life, .int .i64 0, .bool false, .bool retry])] w fun e w' => e = .returned (.bool (bareB (fx zero32) (fx zero32) (([] : List UInt8).length + ([] : List UInt8).length + ([] : List UInt8).length + no.length + sg.length + n) life 0 false retry)) ∧ Below w.heap.size w w' := fun w => refbareD _ _ _ _ _ _ _ _ _ _ _ _ _ _ _ w
  rw [hbv] at hbare
  have HBARE := Lib.hid hbare
  clear hbare hbv
  have x1 : ¬ (32 : Int) < (ses.length : Int) := by omega
  have HS := Lib.hid hs
  clear hs
  have x2 : ¬ (sh.length : Int) = 0 := by omega
  have x3 : ((sh.length : Int) == 65) = true := by simp; omega
  have x3b : (sh.length : Int) = 65 := by omega
  have x4 : sh ≠ [] := fun e => by subst e; simp at h65
  have x4a : (sh == []) = false := by simpa using x4
  have x4b : sh.isEmpty = false := by simpa using x4
  have H65 := Lib.hid h65
  clear h65
  have x5 : ¬ (ti.length : Int) < 1 := by omega
  have x6 : ¬ (1000 : Int) < (ti.length : Int) := by omega
  have hw2 : ∀ w, Calls Try.prog 43 #[.int .i64 (an : Int)] w fun e w' => e = .returned (.bool true) ∧ w' = w := fun w => (show wideP (an : Int) = true by simp [wideP]; omega) ▸ refwide_any (an : Int) w
  have HW2 := Lib.hid hw2
  clear hw2
  have HT := Lib.hid ht2
  have HA := Lib.hid han
  clear ht1 ht2 han
  go_enter Try.func25, Try.ntmps25
  go_wp2_with fail
  refine (HBARE.out _).mono ?_
  rintro e w1 ⟨rfl, hb1⟩
  have hr : Row w1 w.heap.size 25 (mD 1 r mk [S ses, S sh, S ti, S no, S sg, .slice ac n cc, .int .i64 life, .int .i64 (an : Int), .bool true, .bool retry]) := Row.below (by show row _ _ = _; simp [go_sem]) hb1 (by first | (simp; done) | (simp; omega) | omega)
  have hr2 : Row w1 (w.heap.size + 1) 25 (mD 1 zero32 zero32 [S [], S [], S [], S no, S sg, .slice ac n cc, .int .i64 life, .int .i64 0, .bool false, .bool retry]) := Row.below (by show row _ _ = _; simp [go_sem]) hb1 (by first | (simp; done) | (simp; omega) | omega)
  have hB : Below w.heap.size w w1 := Below.trans (by (repeat (first | (with_reducible exact Below.refl _ _) | ((with_reducible first | refine bSetRow ?_ ?_ _ | refine Below.alloc ?_ ?_ _ | refine Below.setCell ?_ ?_ _); rotate_left 1; (focus (first | (simp; done) | (simp; omega)))) | (with_reducible refine Below.drew ?_)))) (hb1.mono (by first | (simp; done) | (simp; omega) | omega))
  clear hb1
  have g65 : (mD 1 r mk [S ses, S sh, S ti, S no, S sg, .slice ac n cc, .int .i64 life, .int .i64 (an : Int), .bool true, .bool retry])[65]? = some (S ses) := mD_65
  have g66 : (mD 1 r mk [S ses, S sh, S ti, S no, S sg, .slice ac n cc, .int .i64 life, .int .i64 (an : Int), .bool true, .bool retry])[66]? = some (S sh) := mD_66
  have g67 : (mD 1 r mk [S ses, S sh, S ti, S no, S sg, .slice ac n cc, .int .i64 life, .int .i64 (an : Int), .bool true, .bool retry])[67]? = some (S ti) := mD_67
  have g72 : (mD 1 r mk [S ses, S sh, S ti, S no, S sg, .slice ac n cc, .int .i64 life, .int .i64 (an : Int), .bool true, .bool retry])[72]? = some (.int .i64 (an : Int)) := mD_72
  go_wp2_with fail
  refine (HW2.out _).mono ?_
  rintro e w2 ⟨rfl, rfl⟩
  go_upto_region 11 with (fail)
  (refine wp_region_seq 4 [] [] shp (phi _ []) (by kernel_rfl) (phi_stab _ _) (phi_shp _ _) shp_inh ?_; simp only [List.take_succ_cons, List.take_zero, List.drop_succ_cons, List.drop_zero]; apply Exists.intro; apply Exists.intro; refine ⟨?_, ?_, ?_⟩)
  · intro ν hν
    have HS' := HS.out
    have H65' := H65.out
    have HT' := HT.out
    iterate 2 (apply wpF_q rfl; focus (intro C hC hG; (first | go_big_quiet_skip | (go_big_quiet_want; go_big_quiet_op; first | go_big_quiet_on | (refine ⟨_, fun _ _ => rfl, ?_⟩; go_big_quiet_on)) | (go_big_quiet_want; apply qf_load1 _ _ rfl _ _ rfl; (exact hC); rotate_left 1; (focus (intro _; simp [go_sem]; done)); rotate_right 1; assumption; assumption; (simp only [Act.put, lS]; go_big_quiet_on)) | (go_big_quiet_want; apply qf_loadA _ _ rfl _ _ rfl (sz := 32); (exact hC); rotate_left 1; (focus (intro _; simp [go_sem]; done)); (focus (intro _; simp [go_sem]; done)); rotate_right 1; assumption; assumption; assumption; (simp only [Act.put, lS]; go_big_quiet_on))); exact wpQuiet_nil rfl))
    (apply wpF_q rfl; focus (intro C hC hG; go_big_quiet_want; apply qf_call; (exact hC); (exact hG); (exact (fun w' _ _ => refvec_any sh 2 w' (by omega) (by decide))); (focus (intro w; simp [go_sem]; done)); (simp only [Act.put, lS]; go_big_quiet_on); exact wpQuiet_nil rfl))
    (apply wpF_q rfl; focus (intro C hC hG; go_big_quiet_want; apply qf_add hGroup (vecB sh 2) _ _ _ rfl rfl rfl; (focus (first | decide | (simp only [List.length_append, List.length_nil, List.length_cons, vecB_len, numB_len, fx_len, hLS]; omega))); (simp only [Act.put, lS]; go_big_quiet_on); exact wpQuiet_nil rfl))
    exact wpF_nil ⟨rfl, rfl⟩
  · intro ν ν'; kernel_rfl
  intro ν w2 hν hB1 hD
  have hr := Row.below hr hB1 hr.lt
  have hr2 := Row.below hr2 hB1 hr2.lt
  have hB := Below.trans hB (hB1.mono hB.size)
  clear hD hν hB1
  go_upto_region 12 with (fail)
  (refine wp_region_seq 4 [] [] shp (phi _ []) (by kernel_rfl) (phi_stab _ _) (phi_shp _ _) shp_inh ?_; simp only [List.take_succ_cons, List.take_zero, List.drop_succ_cons, List.drop_zero]; apply Exists.intro; apply Exists.intro; refine ⟨?_, ?_, ?_⟩)
  · intro ν hν
    have HS' := HS.out
    have H65' := H65.out
    have HT' := HT.out
    (apply wpF_q rfl; focus (intro C hC hG; (first | go_big_quiet_skip | (go_big_quiet_want; go_big_quiet_op; first | go_big_quiet_on | (refine ⟨_, fun _ _ => rfl, ?_⟩; go_big_quiet_on)) | (go_big_quiet_want; apply qf_load1 _ _ rfl _ _ rfl; (exact hC); rotate_left 1; (focus (intro _; simp [go_sem]; done)); rotate_right 1; assumption; assumption; (simp only [Act.put, lS]; go_big_quiet_on)) | (go_big_quiet_want; apply qf_loadA _ _ rfl _ _ rfl (sz := 32); (exact hC); rotate_left 1; (focus (intro _; simp [go_sem]; done)); (focus (intro _; simp [go_sem]; done)); rotate_right 1; assumption; assumption; assumption; (simp only [Act.put, lS]; go_big_quiet_on))); exact wpQuiet_nil rfl))
    (apply wpF_q rfl; focus (intro C hC hG; go_big_quiet_want; apply qf_call; (exact hC); (exact hG); (exact (fun w' _ _ => refvec_any (hGroup ++ vecB sh 2) 2 w' (by simp only [List.length_append, vecB_len, hLS]; omega) (by decide))); (focus (intro w; simp [go_sem]; done)); (simp only [Act.put, lS]; go_big_quiet_on); exact wpQuiet_nil rfl))
    (apply wpF_q rfl; focus (intro C hC hG; go_big_quiet_want; apply qf_call; (exact hC); (exact hG); (exact (fun w' _ _ => refvec_any (vecB (hGroup ++ vecB sh 2) 2) 2 w' (by simp only [List.length_append, vecB_len, hLS]; omega) (by decide))); (focus (intro w; simp [go_sem]; done)); (simp only [Act.put, lS]; go_big_quiet_on); exact wpQuiet_nil rfl))
    (apply wpF_q rfl; focus (intro C hC hG; go_big_quiet_want; apply qf_add (hAble ++ hShare) (vecB (vecB (hGroup ++ vecB sh 2) 2) 2) _ _ _ rfl rfl rfl; (focus (first | decide | (simp only [List.length_append, List.length_nil, List.length_cons, vecB_len, numB_len, fx_len, hLS]; omega))); (simp only [Act.put, lS]; go_big_quiet_on); exact wpQuiet_nil rfl))
    exact wpF_nil ⟨rfl, rfl⟩
  · intro ν ν'; kernel_rfl
  intro ν w3 hν hB1 hD
  have hr := Row.below hr hB1 hr.lt
  have hr2 := Row.below hr2 hB1 hr2.lt
  have hB := Below.trans hB (hB1.mono hB.size)
  clear hD hν hB1
  go_upto_region 14 with (fail)
  have hrd := hr.drew
  have hr2d := hr2.drew
  (refine wp_region_freeD 17 [] [] shp (phi _ []) (by kernel_rfl) (by kernel_rfl) (by kernel_rfl) (phi_stab _ _) (phi_shp _ _) shp_inh ?_; simp only [List.take_succ_cons, List.take_zero, List.drop_succ_cons, List.drop_zero]; apply Exists.intro; apply Exists.intro; refine ⟨?_, ?_, ?_⟩)
  · intro ν hν
    have HS' := HS.out
    have H65' := H65.out
    have HT' := HT.out
    (apply wpF_q rfl; focus (intro C hC hG; (first | go_big_quiet_skip | (go_big_quiet_want; go_big_quiet_op; first | go_big_quiet_on | (refine ⟨_, fun _ _ => rfl, ?_⟩; go_big_quiet_on)) | (go_big_quiet_want; apply qf_load1 _ _ rfl _ _ rfl; (exact hC); rotate_left 1; (focus (intro _; simp [go_sem]; done)); rotate_right 1; assumption; assumption; (simp only [Act.put, lS]; go_big_quiet_on)) | (go_big_quiet_want; apply qf_loadA _ _ rfl _ _ rfl (sz := 32); (exact hC); rotate_left 1; (focus (intro _; simp [go_sem]; done)); (focus (intro _; simp [go_sem]; done)); rotate_right 1; assumption; assumption; assumption; (simp only [Act.put, lS]; go_big_quiet_on))); exact wpQuiet_nil rfl))
    (apply wpF_q rfl; focus (intro C hC hG; go_big_quiet_want; apply qf_add ((hAble ++ hShare) ++ vecB (vecB (hGroup ++ vecB sh 2) 2) 2) (hModes ++ hPsk) _ _ _ rfl rfl rfl; (focus (first | decide | (simp only [List.length_append, List.length_nil, List.length_cons, vecB_len, numB_len, fx_len, hLS]; omega))); (simp only [Act.put, lS]; go_big_quiet_on); exact wpQuiet_nil rfl))
    iterate 2 (apply wpF_q rfl; focus (intro C hC hG; (first | go_big_quiet_skip | (go_big_quiet_want; go_big_quiet_op; first | go_big_quiet_on | (refine ⟨_, fun _ _ => rfl, ?_⟩; go_big_quiet_on)) | (go_big_quiet_want; apply qf_load1 _ _ rfl _ _ rfl; (exact hC); rotate_left 1; (focus (intro _; simp [go_sem]; done)); rotate_right 1; assumption; assumption; (simp only [Act.put, lS]; go_big_quiet_on)) | (go_big_quiet_want; apply qf_loadA _ _ rfl _ _ rfl (sz := 32); (exact hC); rotate_left 1; (focus (intro _; simp [go_sem]; done)); (focus (intro _; simp [go_sem]; done)); rotate_right 1; assumption; assumption; assumption; (simp only [Act.put, lS]; go_big_quiet_on))); exact wpQuiet_nil rfl))
    (apply wpF_q rfl; focus (intro C hC hG; go_big_quiet_want; apply qf_call; (exact hC); (exact hG); (exact (fun w' _ _ => refvec_any ti 2 w' (by omega) (by decide))); (focus (intro w; simp [go_sem]; done)); (simp only [Act.put, lS]; go_big_quiet_on); exact wpQuiet_nil rfl))
    iterate 2 (apply wpF_q rfl; focus (intro C hC hG; (first | go_big_quiet_skip | (go_big_quiet_want; go_big_quiet_op; first | go_big_quiet_on | (refine ⟨_, fun _ _ => rfl, ?_⟩; go_big_quiet_on)) | (go_big_quiet_want; apply qf_load1 _ _ rfl _ _ rfl; (exact hC); rotate_left 1; (focus (intro _; simp [go_sem]; done)); rotate_right 1; assumption; assumption; (simp only [Act.put, lS]; go_big_quiet_on)) | (go_big_quiet_want; apply qf_loadA _ _ rfl _ _ rfl (sz := 32); (exact hC); rotate_left 1; (focus (intro _; simp [go_sem]; done)); (focus (intro _; simp [go_sem]; done)); rotate_right 1; assumption; assumption; assumption; (simp only [Act.put, lS]; go_big_quiet_on))); exact wpQuiet_nil rfl))
    (apply wpF_q rfl; focus (intro C hC hG; go_big_quiet_want; apply qf_call; (exact hC); (exact hG); (exact (fun w' _ _ => refnum_any an 4 w' HA.out (by decide))); (focus (intro w; simp [go_sem]; done)); (simp only [Act.put, lS]; go_big_quiet_on); exact wpQuiet_nil rfl))
    (apply wpF_q rfl; focus (intro C hC hG; go_big_quiet_want; apply qf_add (vecB ti 2) (numB an 4) _ _ _ rfl rfl rfl; (focus (first | decide | (simp only [List.length_append, List.length_nil, List.length_cons, vecB_len, numB_len, fx_len, hLS]; omega))); (simp only [Act.put, lS]; go_big_quiet_on); exact wpQuiet_nil rfl))
    (apply wpF_q rfl; focus (intro C hC hG; go_big_quiet_want; apply qf_call; (exact hC); (exact hG); (exact (fun w' _ _ => refvec_any (vecB ti 2 ++ numB an 4) 2 w' (by simp only [List.length_append, vecB_len, numB_len, fx_len, List.length_nil, hLS]; omega) (by decide))); (focus (intro w; simp [go_sem]; done)); (simp only [Act.put, lS]; go_big_quiet_on); exact wpQuiet_nil rfl))
    (apply wpF_q rfl; focus (intro C hC hG; go_big_quiet_want; apply qf_add (vecB (vecB ti 2 ++ numB an 4) 2) hBinder _ _ _ rfl rfl rfl; (focus (first | decide | (simp only [List.length_append, List.length_nil, List.length_cons, vecB_len, numB_len, fx_len, hLS]; omega))); (simp only [Act.put, lS]; go_big_quiet_on); exact wpQuiet_nil rfl))
    iterate 2 (apply wpF_q rfl; focus (intro C hC hG; (first | go_big_quiet_skip | (go_big_quiet_want; go_big_quiet_op; first | go_big_quiet_on | (refine ⟨_, fun _ _ => rfl, ?_⟩; go_big_quiet_on)) | (go_big_quiet_want; apply qf_load1 _ _ rfl _ _ rfl; (exact hC); rotate_left 1; (focus (intro _; simp [go_sem]; done)); rotate_right 1; assumption; assumption; (simp only [Act.put, lS]; go_big_quiet_on)) | (go_big_quiet_want; apply qf_loadA _ _ rfl _ _ rfl (sz := 32); (exact hC); rotate_left 1; (focus (intro _; simp [go_sem]; done)); (focus (intro _; simp [go_sem]; done)); rotate_right 1; assumption; assumption; assumption; (simp only [Act.put, lS]; go_big_quiet_on))); exact wpQuiet_nil rfl))
    (apply wpF_q rfl; focus (intro C hC hG; go_big_quiet_want; apply qf_conv; (focus rfl); (exact hC); (focus rfl); (exact Try.underlying27); (exact Try.underlying5); (exact Try.underlying9); (exact (fun w hB _ => (SlB.markM hrd).below hB)); (simp only [Act.put, lS]; go_big_quiet_on); exact wpQuiet_nil rfl))
    (apply wpF_q rfl; focus (intro C hC hG; go_big_quiet_want; apply qf_add (vecB (vecB ti 2 ++ numB an 4) 2 ++ hBinder) (fx mk) _ _ _ rfl rfl rfl; (focus (first | decide | (simp only [List.length_append, List.length_nil, List.length_cons, vecB_len, numB_len, fx_len, hLS]; omega))); (simp only [Act.put, lS]; go_big_quiet_on); exact wpQuiet_nil rfl))
    (apply wpF_q rfl; focus (intro C hC hG; go_big_quiet_want; apply qf_call; (exact hC); (exact hG); (exact (fun w' _ _ => refvec_any (vecB (vecB ti 2 ++ numB an 4) 2 ++ hBinder ++ fx mk) 2 w' (by simp only [List.length_append, vecB_len, numB_len, fx_len, List.length_nil, hLS]; omega) (by decide))); (focus (intro w; simp [go_sem]; done)); (simp only [Act.put, lS]; go_big_quiet_on); exact wpQuiet_nil rfl))
    (apply wpF_q rfl; focus (intro C hC hG; go_big_quiet_want; apply qf_add (((hAble ++ hShare) ++ vecB (vecB (hGroup ++ vecB sh 2) 2) 2) ++ (hModes ++ hPsk)) (vecB (vecB (vecB ti 2 ++ numB an 4) 2 ++ hBinder ++ fx mk) 2) _ _ _ rfl rfl rfl; (focus (first | decide | (simp only [List.length_append, List.length_nil, List.length_cons, vecB_len, numB_len, fx_len, hLS]; omega))); (simp only [Act.put, lS]; go_big_quiet_on); exact wpQuiet_nil rfl))
    exact wpF_nil ⟨rfl, rfl⟩
  · intro ν ν'; kernel_rfl
  intro ν w4 hν hB1 hD
  have hr := Row.below hr.drew hB1 hr.lt
  have hr2 := Row.below hr2.drew hB1 hr2.lt
  have hB := Below.trans hB.drew (hB1.mono hB.drew.size)
  clear hD hν hB1
  try clear hrd
  try clear hr2d
  go_upto_region 15 with (fail)
  have hrd := hr.drew
  have hr2d := hr2.drew
  (refine wp_region_freeD 12 [] [] shp (phi _ []) (by kernel_rfl) (by kernel_rfl) (by kernel_rfl) (phi_stab _ _) (phi_shp _ _) shp_inh ?_; simp only [List.take_succ_cons, List.take_zero, List.drop_succ_cons, List.drop_zero]; apply Exists.intro; apply Exists.intro; refine ⟨?_, ?_, ?_⟩)
  · intro ν hν
    have HS' := HS.out
    have H65' := H65.out
    have HT' := HT.out
    iterate 2 (apply wpF_q rfl; focus (intro C hC hG; (first | go_big_quiet_skip | (go_big_quiet_want; go_big_quiet_op; first | go_big_quiet_on | (refine ⟨_, fun _ _ => rfl, ?_⟩; go_big_quiet_on)) | (go_big_quiet_want; apply qf_load1 _ _ rfl _ _ rfl; (exact hC); rotate_left 1; (focus (intro _; simp [go_sem]; done)); rotate_right 1; assumption; assumption; (simp only [Act.put, lS]; go_big_quiet_on)) | (go_big_quiet_want; apply qf_loadA _ _ rfl _ _ rfl (sz := 32); (exact hC); rotate_left 1; (focus (intro _; simp [go_sem]; done)); (focus (intro _; simp [go_sem]; done)); rotate_right 1; assumption; assumption; assumption; (simp only [Act.put, lS]; go_big_quiet_on))); exact wpQuiet_nil rfl))
    (apply wpF_q rfl; focus (intro C hC hG; go_big_quiet_want; apply qf_conv; (focus rfl); (exact hC); (focus rfl); (exact Try.underlying27); (exact Try.underlying5); (exact Try.underlying9); (exact (fun w hB _ => (SlB.rand hrd).below hB)); (simp only [Act.put, lS]; go_big_quiet_on); exact wpQuiet_nil rfl))
    (apply wpF_q rfl; focus (intro C hC hG; go_big_quiet_want; apply qf_add hVersion (fx r) _ _ _ rfl rfl rfl; (focus (first | decide | (simp only [List.length_append, List.length_nil, List.length_cons, vecB_len, numB_len, fx_len, hLS]; omega))); (simp only [Act.put, lS]; go_big_quiet_on); exact wpQuiet_nil rfl))
    iterate 2 (apply wpF_q rfl; focus (intro C hC hG; (first | go_big_quiet_skip | (go_big_quiet_want; go_big_quiet_op; first | go_big_quiet_on | (refine ⟨_, fun _ _ => rfl, ?_⟩; go_big_quiet_on)) | (go_big_quiet_want; apply qf_load1 _ _ rfl _ _ rfl; (exact hC); rotate_left 1; (focus (intro _; simp [go_sem]; done)); rotate_right 1; assumption; assumption; (simp only [Act.put, lS]; go_big_quiet_on)) | (go_big_quiet_want; apply qf_loadA _ _ rfl _ _ rfl (sz := 32); (exact hC); rotate_left 1; (focus (intro _; simp [go_sem]; done)); (focus (intro _; simp [go_sem]; done)); rotate_right 1; assumption; assumption; assumption; (simp only [Act.put, lS]; go_big_quiet_on))); exact wpQuiet_nil rfl))
    (apply wpF_q rfl; focus (intro C hC hG; go_big_quiet_want; apply qf_call; (exact hC); (exact hG); (exact (fun w' _ _ => refvec_any ses 1 w' (by omega) (by decide))); (focus (intro w; simp [go_sem]; done)); (simp only [Act.put, lS]; go_big_quiet_on); exact wpQuiet_nil rfl))
    (apply wpF_q rfl; focus (intro C hC hG; go_big_quiet_want; apply qf_add (hVersion ++ fx r) (vecB ses 1) _ _ _ rfl rfl rfl; (focus (first | decide | (simp only [List.length_append, List.length_nil, List.length_cons, vecB_len, numB_len, fx_len, hLS]; omega))); (simp only [Act.put, lS]; go_big_quiet_on); exact wpQuiet_nil rfl))
    (apply wpF_q rfl; focus (intro C hC hG; go_big_quiet_want; apply qf_add (hVersion ++ fx r ++ vecB ses 1) hSuites _ _ _ rfl rfl rfl; (focus (first | decide | (simp only [List.length_append, List.length_nil, List.length_cons, vecB_len, numB_len, fx_len, hLS]; omega))); (simp only [Act.put, lS]; go_big_quiet_on); exact wpQuiet_nil rfl))
    (apply wpF_q rfl; focus (intro C hC hG; (first | go_big_quiet_skip | (go_big_quiet_want; go_big_quiet_op; first | go_big_quiet_on | (refine ⟨_, fun _ _ => rfl, ?_⟩; go_big_quiet_on)) | (go_big_quiet_want; apply qf_load1 _ _ rfl _ _ rfl; (exact hC); rotate_left 1; (focus (intro _; simp [go_sem]; done)); rotate_right 1; assumption; assumption; (simp only [Act.put, lS]; go_big_quiet_on)) | (go_big_quiet_want; apply qf_loadA _ _ rfl _ _ rfl (sz := 32); (exact hC); rotate_left 1; (focus (intro _; simp [go_sem]; done)); (focus (intro _; simp [go_sem]; done)); rotate_right 1; assumption; assumption; assumption; (simp only [Act.put, lS]; go_big_quiet_on))); exact wpQuiet_nil rfl))
    (apply wpF_q rfl; focus (intro C hC hG; go_big_quiet_want; apply qf_call; (exact hC); (exact hG); (exact (fun w' _ _ => refvec_any (((hAble ++ hShare) ++ vecB (vecB (hGroup ++ vecB sh 2) 2) 2) ++ (hModes ++ hPsk) ++ vecB (vecB (vecB ti 2 ++ numB an 4) 2 ++ hBinder ++ fx mk) 2) 2 w' (by simp only [List.length_append, vecB_len, numB_len, fx_len, List.length_nil, hLS]; omega) (by decide))); (focus (intro w; simp [go_sem]; done)); (simp only [Act.put, lS]; go_big_quiet_on); exact wpQuiet_nil rfl))
    (apply wpF_q rfl; focus (intro C hC hG; go_big_quiet_want; apply qf_add (hVersion ++ fx r ++ vecB ses 1 ++ hSuites) (vecB (((hAble ++ hShare) ++ vecB (vecB (hGroup ++ vecB sh 2) 2) 2) ++ (hModes ++ hPsk) ++ vecB (vecB (vecB ti 2 ++ numB an 4) 2 ++ hBinder ++ fx mk) 2) 2) _ _ _ rfl rfl rfl; (focus (first | decide | (simp only [List.length_append, List.length_nil, List.length_cons, vecB_len, numB_len, fx_len, hLS]; omega))); (simp only [Act.put, lS]; go_big_quiet_on); exact wpQuiet_nil rfl))
    exact wpF_nil ⟨rfl, rfl⟩
  · intro ν ν'; kernel_rfl
  intro ν w5 hν hB1 hD
  have hr := Row.below hr.drew hB1 hr.lt
  have hr2 := Row.below hr2.drew hB1 hr2.lt
  have hB := Below.trans hB.drew (hB1.mono hB.drew.size)
  clear hD hν hB1
  try clear hrd
  try clear hr2d
  go_wp2_with fail
  go_ret2
  exact ⟨rfl, hB⟩
end Go.Proofs.Ytnenoecmmelehaa
