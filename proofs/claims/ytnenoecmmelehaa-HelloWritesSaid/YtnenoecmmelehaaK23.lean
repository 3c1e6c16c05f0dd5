/- Part of the proof: HRefBodyB. No conditions of its own. -/
import Derived.Below
import Derived.BigQuiet
import Derived.Deep.CutBlock
import Derived.Deep.DeepCutAuto
import Derived.Deep.Draws
import Derived.Deep.LoopGhost
import Derived.Deep.Quiet
import Derived.Deep.QuietTactic
import Derived.Deep.RegionLaw
import Derived.Great.BuildSlice
import Derived.Great.FillDense
import Derived.Laws.AppendOwn
import Derived.Laws.AppendOwnNone
import Derived.Laws.BytesArg
import Derived.Laws.Concat
import Derived.Laws.MakeOwn
import Derived.Lib.AppendZerosOnto
import Derived.Lib.BufferWrite
import Derived.Lib.Hide
import Derived.Lib.SlBytesConst
import Derived.StillTail
import Derived.Stop.BytesEq
import Derived.Test.YtnenoecmmelehaaProg
import Derived.WalkKit
import Derived.WalkLawsBesides
import Derived.WalkSpells
import Derived.Test.YtnenoecmmelehaaK12
import Derived.Test.YtnenoecmmelehaaK22
namespace Go.Proofs.Ytnenoecmmelehaa
open Go.RowKit
set_option linter.unusedVariables false
set_option linter.unusedSimpArgs false

set_option maxRecDepth 100000 in
set_option maxHeartbeats 4000000 in
theorem refbody_15 (r mk ses sh ti no sg : List UInt8) (ac : Option Addr) (n cc : Nat) (life age : Int) (psk : Bool) (retry : Bool) (w : World) (hbv : bareB (fx r) (fx mk) (ses.length + sh.length + ti.length + no.length + ([] : List UInt8).length + n) life age psk retry = true) (h1 : 1 ≤ sg.length) (hl : sg.length < 1000000):
    Calls Try.prog 25 #[.agg (mD 15 r mk [S ses, S sh, S ti, S no, S sg, .slice ac n cc, .int .i64 life, .int .i64 age, .bool psk, .bool retry])] w fun e w' => e = .returned (.tuple #[S (hSigned ++ vecB sg 2), .bool (decide ((sg.length : Int) ≤ 100))]) ∧ Below w.heap.size w w' := by
  have hbare : ∀ w, Calls Try.prog 42 #[.agg (mD 15 r mk [S ses, S sh, S ti, S no, S [], .slice ac n cc, .int .i64 life, .int .i64 age, .bool psk, .bool retry])] w fun e w' => e = .returned (.bool (bareB (fx r) (fx mk) (ses.length + sh.length + ti.length + no.length + ([] : List UInt8).length + n) life age psk retry)) ∧ Below w.heap.size w w' := fun w => refbareD _ _ _ _ _ _ _ _ _ _ _ _ _ _ _ w
  rw [hbv] at hbare
  have HBARE := Lib.hid hbare
  clear hbare hbv
  have x1 : (1 : Int) ≤ (sg.length : Int) := by omega
  have HL := Lib.hid hl
  clear h1 hl
  go_enter Try.func25, Try.ntmps25
  go_upto_region 51 with (fail)
  refine gen_wp (fun w0 => Row w0 w.heap.size 25 (mD 15 r mk [S ses, S sh, S ti, S no, S sg, .slice ac n cc, .int .i64 life, .int .i64 age, .bool psk, .bool retry]) ∧ Row w0 (w.heap.size + 1) 25 (mD 15 r mk [S ses, S sh, S ti, S no, S [], .slice ac n cc, .int .i64 life, .int .i64 age, .bool psk, .bool retry]) ∧ Below w.heap.size w w0) ⟨by show row _ _ = _; simp [go_sem], by show row _ _ = _; simp [go_sem], by (repeat (first | (with_reducible exact Below.refl _ _) | ((with_reducible first | refine bSetRow ?_ ?_ _ | refine Below.alloc ?_ ?_ _ | refine Below.setCell ?_ ?_ _); rotate_left 1; (focus (first | (simp; done) | (simp; omega)))) | (with_reducible refine Below.drew ?_)))⟩ ?_
  rintro w0 ⟨hr, hr2, hB⟩
  have g69 : (mD 15 r mk [S ses, S sh, S ti, S no, S sg, .slice ac n cc, .int .i64 life, .int .i64 age, .bool psk, .bool retry])[69]? = some (S sg) := mD_69
  have hrd := hr.drew
  have hr2d := hr2.drew
  (refine wp_region_freeD 19 [] [] shp (phi _ []) (by kernel_rfl) (by kernel_rfl) (by kernel_rfl) (phi_stab _ _) (phi_shp _ _) shp_inh ?_; simp only [List.take_succ_cons, List.take_zero, List.drop_succ_cons, List.drop_zero]; apply Exists.intro; apply Exists.intro; refine ⟨?_, ?_, ?_⟩)
  · intro ν hν
    iterate 2 (apply wpF_q rfl; focus (intro C hC hG; (first | go_big_quiet_skip | (go_big_quiet_want; go_big_quiet_op; first | go_big_quiet_on | (refine ⟨_, fun _ _ => rfl, ?_⟩; go_big_quiet_on)) | (go_big_quiet_want; apply qf_load1 _ _ rfl _ _ rfl; (exact hC); rotate_left 1; (focus (intro _; simp [go_sem]; done)); rotate_right 1; assumption; assumption; (simp only [Act.put, lS]; go_big_quiet_on)) | (go_big_quiet_want; apply qf_loadA _ _ rfl _ _ rfl (sz := 32); (exact hC); rotate_left 1; (focus (intro _; simp [go_sem]; done)); (focus (intro _; simp [go_sem]; done)); rotate_right 1; assumption; assumption; assumption; (simp only [Act.put, lS]; go_big_quiet_on))); exact wpQuiet_nil rfl))
    (apply wpF_q rfl; focus (intro C hC hG; go_big_quiet_want; apply qf_call; (exact hC); (exact hG); (exact (fun w' _ _ => refvec_any sg 2 w' HL.out (by decide))); (focus (intro w; simp [go_sem]; done)); (simp only [Act.put, lS]; go_big_quiet_on); exact wpQuiet_nil rfl))
    have HL' := HL.out
    (apply wpF_q rfl; focus (intro C hC hG; go_big_quiet_want; apply qf_add hSigned (vecB sg 2) _ _ _ rfl rfl rfl; (focus (first | decide | (simp only [List.length_append, List.length_nil, List.length_cons, vecB_len, numB_len, fx_len, hLS]; omega))); (simp only [Act.put, lS]; go_big_quiet_on); exact wpQuiet_nil rfl))
    (apply wpF_q rfl; focus (intro C hC hG; go_big_quiet_want; apply qf_loadR _ rfl _ rfl; (exact hC); assumption; (exact mD_sz); (simp only [Act.put, lS]; go_big_quiet_on); exact wpQuiet_nil rfl))
    (apply wpF_q rfl; focus (intro C hC hG; go_big_quiet_want; apply qf_call; (exact hC); (exact hG); (exact (fun w' _ _ => HBARE.out w')); (focus (intro w; simp [go_sem]; done)); (simp only [Act.put, lS]; go_big_quiet_on); exact wpQuiet_nil rfl))
    iterate 13 (apply wpF_q rfl; focus (intro C hC hG; (first | go_big_quiet_skip | (go_big_quiet_want; go_big_quiet_op; first | go_big_quiet_on | (refine ⟨_, fun _ _ => rfl, ?_⟩; go_big_quiet_on)) | (go_big_quiet_want; apply qf_load1 _ _ rfl _ _ rfl; (exact hC); rotate_left 1; (focus (intro _; simp [go_sem]; done)); rotate_right 1; assumption; assumption; (simp only [Act.put, lS]; go_big_quiet_on)) | (go_big_quiet_want; apply qf_loadA _ _ rfl _ _ rfl (sz := 32); (exact hC); rotate_left 1; (focus (intro _; simp [go_sem]; done)); (focus (intro _; simp [go_sem]; done)); rotate_right 1; assumption; assumption; assumption; (simp only [Act.put, lS]; go_big_quiet_on))); exact wpQuiet_nil rfl))
    exact wpF_nil ⟨rfl, rfl⟩
  · intro ν ν'; kernel_rfl
  intro ν w1 hν hB1 hD
  have hr := Row.below hr.drew hB1 hr.lt
  have hr2 := Row.below hr2.drew hB1 hr2.lt
  have hB := Below.trans hB.drew (hB1.mono hB.drew.size)
  clear hD hν hB1
  try clear hrd
  try clear hr2d
  go_wp2_with fail
  go_ret2
  exact ⟨rfl, hB⟩
set_option maxRecDepth 100000 in
set_option maxHeartbeats 4000000 in
theorem refbody_15a (r mk ses sh ti no sg : List UInt8) (ac : Option Addr) (n cc : Nat) (life age : Int) (psk : Bool) (retry : Bool) (w : World) (hbv : bareB (fx r) (fx mk) (ses.length + sh.length + ti.length + no.length + ([] : List UInt8).length + n) life age psk retry = false) (hl : sg.length < 1000000):
    Calls Try.prog 25 #[.agg (mD 15 r mk [S ses, S sh, S ti, S no, S sg, .slice ac n cc, .int .i64 life, .int .i64 age, .bool psk, .bool retry])] w fun e w' => (∃ s, e = .returned (.tuple #[S s, .bool false])) ∧ Below w.heap.size w w' := by
  have hbare : ∀ w, Calls Try.prog 42 #[.agg (mD 15 r mk [S ses, S sh, S ti, S no, S [], .slice ac n cc, .int .i64 life, .int .i64 age, .bool psk, .bool retry])] w fun e w' => e = .returned (.bool (bareB (fx r) (fx mk) (ses.length + sh.length + ti.length + no.length + ([] : List UInt8).length + n) life age psk retry)) ∧ Below w.heap.size w w' := fun w => refbareD _ _ _ _ _ _ _ _ _ _ _ _ _ _ _ w
  rw [hbv] at hbare
  have HBARE := Lib.hid hbare
  clear hbare hbv
  have HL := Lib.hid hl
  clear hl
  go_enter Try.func25, Try.ntmps25
  go_upto_region 51 with (fail)
  refine gen_wp (fun w0 => Row w0 w.heap.size 25 (mD 15 r mk [S ses, S sh, S ti, S no, S sg, .slice ac n cc, .int .i64 life, .int .i64 age, .bool psk, .bool retry]) ∧ Row w0 (w.heap.size + 1) 25 (mD 15 r mk [S ses, S sh, S ti, S no, S [], .slice ac n cc, .int .i64 life, .int .i64 age, .bool psk, .bool retry]) ∧ Below w.heap.size w w0) ⟨by show row _ _ = _; simp [go_sem], by show row _ _ = _; simp [go_sem], by (repeat (first | (with_reducible exact Below.refl _ _) | ((with_reducible first | refine bSetRow ?_ ?_ _ | refine Below.alloc ?_ ?_ _ | refine Below.setCell ?_ ?_ _); rotate_left 1; (focus (first | (simp; done) | (simp; omega)))) | (with_reducible refine Below.drew ?_)))⟩ ?_
  rintro w0 ⟨hr, hr2, hB⟩
  have g69 : (mD 15 r mk [S ses, S sh, S ti, S no, S sg, .slice ac n cc, .int .i64 life, .int .i64 age, .bool psk, .bool retry])[69]? = some (S sg) := mD_69
  have hrd := hr.drew
  have hr2d := hr2.drew
  (refine wp_region_freeD 19 [] [] shp (phi _ []) (by kernel_rfl) (by kernel_rfl) (by kernel_rfl) (phi_stab _ _) (phi_shp _ _) shp_inh ?_; simp only [List.take_succ_cons, List.take_zero, List.drop_succ_cons, List.drop_zero]; apply Exists.intro; apply Exists.intro; refine ⟨?_, ?_, ?_⟩)
  · intro ν hν
    iterate 2 (apply wpF_q rfl; focus (intro C hC hG; (first | go_big_quiet_skip | (go_big_quiet_want; go_big_quiet_op; first | go_big_quiet_on | (refine ⟨_, fun _ _ => rfl, ?_⟩; go_big_quiet_on)) | (go_big_quiet_want; apply qf_load1 _ _ rfl _ _ rfl; (exact hC); rotate_left 1; (focus (intro _; simp [go_sem]; done)); rotate_right 1; assumption; assumption; (simp only [Act.put, lS]; go_big_quiet_on)) | (go_big_quiet_want; apply qf_loadA _ _ rfl _ _ rfl (sz := 32); (exact hC); rotate_left 1; (focus (intro _; simp [go_sem]; done)); (focus (intro _; simp [go_sem]; done)); rotate_right 1; assumption; assumption; assumption; (simp only [Act.put, lS]; go_big_quiet_on))); exact wpQuiet_nil rfl))
    (apply wpF_q rfl; focus (intro C hC hG; go_big_quiet_want; apply qf_call; (exact hC); (exact hG); (exact (fun w' _ _ => refvec_any sg 2 w' HL.out (by decide))); (focus (intro w; simp [go_sem]; done)); (simp only [Act.put, lS]; go_big_quiet_on); exact wpQuiet_nil rfl))
    have HL' := HL.out
    (apply wpF_q rfl; focus (intro C hC hG; go_big_quiet_want; apply qf_add hSigned (vecB sg 2) _ _ _ rfl rfl rfl; (focus (first | decide | (simp only [List.length_append, List.length_nil, List.length_cons, vecB_len, numB_len, fx_len, hLS]; omega))); (simp only [Act.put, lS]; go_big_quiet_on); exact wpQuiet_nil rfl))
    (apply wpF_q rfl; focus (intro C hC hG; go_big_quiet_want; apply qf_loadR _ rfl _ rfl; (exact hC); assumption; (exact mD_sz); (simp only [Act.put, lS]; go_big_quiet_on); exact wpQuiet_nil rfl))
    (apply wpF_q rfl; focus (intro C hC hG; go_big_quiet_want; apply qf_call; (exact hC); (exact hG); (exact (fun w' _ _ => HBARE.out w')); (focus (intro w; simp [go_sem]; done)); (simp only [Act.put, lS]; go_big_quiet_on); exact wpQuiet_nil rfl))
    iterate 13 (apply wpF_q rfl; focus (intro C hC hG; (first | go_big_quiet_skip | (go_big_quiet_want; go_big_quiet_op; first | go_big_quiet_on | (refine ⟨_, fun _ _ => rfl, ?_⟩; go_big_quiet_on)) | (go_big_quiet_want; apply qf_load1 _ _ rfl _ _ rfl; (exact hC); rotate_left 1; (focus (intro _; simp [go_sem]; done)); rotate_right 1; assumption; assumption; (simp only [Act.put, lS]; go_big_quiet_on)) | (go_big_quiet_want; apply qf_loadA _ _ rfl _ _ rfl (sz := 32); (exact hC); rotate_left 1; (focus (intro _; simp [go_sem]; done)); (focus (intro _; simp [go_sem]; done)); rotate_right 1; assumption; assumption; assumption; (simp only [Act.put, lS]; go_big_quiet_on))); exact wpQuiet_nil rfl))
    exact wpF_nil ⟨rfl, rfl⟩
  · intro ν ν'; kernel_rfl
  intro ν w1 hν hB1 hD
  have hr := Row.below hr.drew hB1 hr.lt
  have hr2 := Row.below hr2.drew hB1 hr2.lt
  have hB := Below.trans hB.drew (hB1.mono hB.drew.size)
  clear hD hν hB1
  try clear hrd
  try clear hr2d
  go_wp2_with fail
  go_ret2
  exact ⟨⟨_, rfl⟩, hB⟩
set_option maxRecDepth 100000 in
set_option maxHeartbeats 4000000 in
theorem refbody_15b (r mk ses sh ti no sg : List UInt8) (ac : Option Addr) (n cc : Nat) (life age : Int) (psk : Bool) (retry : Bool) (w : World) (hbv : bareB (fx r) (fx mk) (ses.length + sh.length + ti.length + no.length + ([] : List UInt8).length + n) life age psk retry = true) (h1 : ¬ 1 ≤ sg.length) (hl : sg.length < 1000000):
    Calls Try.prog 25 #[.agg (mD 15 r mk [S ses, S sh, S ti, S no, S sg, .slice ac n cc, .int .i64 life, .int .i64 age, .bool psk, .bool retry])] w fun e w' => (∃ s, e = .returned (.tuple #[S s, .bool false])) ∧ Below w.heap.size w w' := by
  have hbare : ∀ w, Calls Try.prog 42 #[.agg (mD 15 r mk [S ses, S sh, S ti, S no, S [], .slice ac n cc, .int .i64 life, .int .i64 age, .bool psk, .bool retry])] w fun e w' => e = .returned (.bool (bareB (fx r) (fx mk) (ses.length + sh.length + ti.length + no.length + ([] : List UInt8).length + n) life age psk retry)) ∧ Below w.heap.size w w' := fun w => refbareD _ _ _ _ _ _ _ _ _ _ _ _ _ _ _ w
  rw [hbv] at hbare
  have HBARE := Lib.hid hbare
  clear hbare hbv
  have x1 : ¬ (1 : Int) ≤ (sg.length : Int) := by omega
  have HL := Lib.hid hl
  clear h1 hl
  go_enter Try.func25, Try.ntmps25
  go_upto_region 51 with (fail)
  refine gen_wp (fun w0 => Row w0 w.heap.size 25 (mD 15 r mk [S ses, S sh, S ti, S no, S sg, .slice ac n cc, .int .i64 life, .int .i64 age, .bool psk, .bool retry]) ∧ Row w0 (w.heap.size + 1) 25 (mD 15 r mk [S ses, S sh, S ti, S no, S [], .slice ac n cc, .int .i64 life, .int .i64 age, .bool psk, .bool retry]) ∧ Below w.heap.size w w0) ⟨by show row _ _ = _; simp [go_sem], by show row _ _ = _; simp [go_sem], by (repeat (first | (with_reducible exact Below.refl _ _) | ((with_reducible first | refine bSetRow ?_ ?_ _ | refine Below.alloc ?_ ?_ _ | refine Below.setCell ?_ ?_ _); rotate_left 1; (focus (first | (simp; done) | (simp; omega)))) | (with_reducible refine Below.drew ?_)))⟩ ?_
  rintro w0 ⟨hr, hr2, hB⟩
  have g69 : (mD 15 r mk [S ses, S sh, S ti, S no, S sg, .slice ac n cc, .int .i64 life, .int .i64 age, .bool psk, .bool retry])[69]? = some (S sg) := mD_69
  have hrd := hr.drew
  have hr2d := hr2.drew
  (refine wp_region_freeD 19 [] [] shp (phi _ []) (by kernel_rfl) (by kernel_rfl) (by kernel_rfl) (phi_stab _ _) (phi_shp _ _) shp_inh ?_; simp only [List.take_succ_cons, List.take_zero, List.drop_succ_cons, List.drop_zero]; apply Exists.intro; apply Exists.intro; refine ⟨?_, ?_, ?_⟩)
  · intro ν hν
    iterate 2 (apply wpF_q rfl; focus (intro C hC hG; (first | go_big_quiet_skip | (go_big_quiet_want; go_big_quiet_op; first | go_big_quiet_on | (refine ⟨_, fun _ _ => rfl, ?_⟩; go_big_quiet_on)) | (go_big_quiet_want; apply qf_load1 _ _ rfl _ _ rfl; (exact hC); rotate_left 1; (focus (intro _; simp [go_sem]; done)); rotate_right 1; assumption; assumption; (simp only [Act.put, lS]; go_big_quiet_on)) | (go_big_quiet_want; apply qf_loadA _ _ rfl _ _ rfl (sz := 32); (exact hC); rotate_left 1; (focus (intro _; simp [go_sem]; done)); (focus (intro _; simp [go_sem]; done)); rotate_right 1; assumption; assumption; assumption; (simp only [Act.put, lS]; go_big_quiet_on))); exact wpQuiet_nil rfl))
    (apply wpF_q rfl; focus (intro C hC hG; go_big_quiet_want; apply qf_call; (exact hC); (exact hG); (exact (fun w' _ _ => refvec_any sg 2 w' HL.out (by decide))); (focus (intro w; simp [go_sem]; done)); (simp only [Act.put, lS]; go_big_quiet_on); exact wpQuiet_nil rfl))
    have HL' := HL.out
    (apply wpF_q rfl; focus (intro C hC hG; go_big_quiet_want; apply qf_add hSigned (vecB sg 2) _ _ _ rfl rfl rfl; (focus (first | decide | (simp only [List.length_append, List.length_nil, List.length_cons, vecB_len, numB_len, fx_len, hLS]; omega))); (simp only [Act.put, lS]; go_big_quiet_on); exact wpQuiet_nil rfl))
    (apply wpF_q rfl; focus (intro C hC hG; go_big_quiet_want; apply qf_loadR _ rfl _ rfl; (exact hC); assumption; (exact mD_sz); (simp only [Act.put, lS]; go_big_quiet_on); exact wpQuiet_nil rfl))
    (apply wpF_q rfl; focus (intro C hC hG; go_big_quiet_want; apply qf_call; (exact hC); (exact hG); (exact (fun w' _ _ => HBARE.out w')); (focus (intro w; simp [go_sem]; done)); (simp only [Act.put, lS]; go_big_quiet_on); exact wpQuiet_nil rfl))
    iterate 13 (apply wpF_q rfl; focus (intro C hC hG; (first | go_big_quiet_skip | (go_big_quiet_want; go_big_quiet_op; first | go_big_quiet_on | (refine ⟨_, fun _ _ => rfl, ?_⟩; go_big_quiet_on)) | (go_big_quiet_want; apply qf_load1 _ _ rfl _ _ rfl; (exact hC); rotate_left 1; (focus (intro _; simp [go_sem]; done)); rotate_right 1; assumption; assumption; (simp only [Act.put, lS]; go_big_quiet_on)) | (go_big_quiet_want; apply qf_loadA _ _ rfl _ _ rfl (sz := 32); (exact hC); rotate_left 1; (focus (intro _; simp [go_sem]; done)); (focus (intro _; simp [go_sem]; done)); rotate_right 1; assumption; assumption; assumption; (simp only [Act.put, lS]; go_big_quiet_on))); exact wpQuiet_nil rfl))
    exact wpF_nil ⟨rfl, rfl⟩
  · intro ν ν'; kernel_rfl
  intro ν w1 hν hB1 hD
  have hr := Row.below hr.drew hB1 hr.lt
  have hr2 := Row.below hr2.drew hB1 hr2.lt
  have hB := Below.trans hB.drew (hB1.mono hB.drew.size)
  clear hD hν hB1
  try clear hrd
  try clear hr2d
  go_wp2_with fail
  go_ret2
  exact ⟨⟨_, rfl⟩, hB⟩
set_option maxRecDepth 100000 in
set_option maxHeartbeats 4000000 in
theorem refbody_4 (r mk ses sh ti no sg : List UInt8) (ac : Option Addr) (n cc : Nat) (ln an : Nat) (psk : Bool) (retry : Bool) (w : World) (hbv : bareB (fx r) (fx mk) (ses.length + sh.length + ([] : List UInt8).length + ([] : List UInt8).length + sg.length + n) 0 0 psk retry = true) (hn1 : 1 ≤ no.length) (hn2 : no.length ≤ 8) (ht1 : 1 ≤ ti.length) (ht2 : ti.length ≤ 1000) (hln : ln < 4294967296) (han : an < 4294967296):
    Calls Try.prog 25 #[.agg (mD 4 r mk [S ses, S sh, S ti, S no, S sg, .slice ac n cc, .int .i64 (ln : Int), .int .i64 (an : Int), .bool psk, .bool retry])] w fun e w' => e = .returned (.tuple #[S (numB ln 4 ++ numB an 4 ++ vecB no 1 ++ vecB ti 2 ++ hNone2), .bool true]) ∧ Below w.heap.size w w' := by
  have hbare : ∀ w, Calls Try.prog 42 #[.agg (mD 4 r mk [S ses, S sh, S [], S [], S sg, .slice ac n cc, .int .i64 0, .int .i64 0, .bool psk, .bool retry])] w fun e w' => e = .returned (.bool (bareB (fx r) (fx mk) (ses.length + sh.length + ([] : List UInt8).length + ([] : List UInt8).length + sg.length + n) 0 0 psk retry)) ∧ Below w.heap.size w w' := fun w => refbareD _ _ _ _ _ _ _ _ _ _ _ _ _ _ _ w
  rw [hbv] at hbare
  have HBARE := Lib.hid hbare
  clear hbare hbv
  have x1 : ¬ (no.length : Int) < 1 := by omega
  have x2 : ¬ (8 : Int) < (no.length : Int) := by omega
  have x3 : ¬ (ti.length : Int) < 1 := by omega
  have x4 : ¬ (1000 : Int) < (ti.length : Int) := by omega
  have hw1 : ∀ w, Calls Try.prog 43 #[.int .i64 (ln : Int)] w fun e w' => e = .returned (.bool true) ∧ w' = w := fun w => (show wideP (ln : Int) = true by simp [wideP]; omega) ▸ refwide_any (ln : Int) w
  have hw2 : ∀ w, Calls Try.prog 43 #[.int .i64 (an : Int)] w fun e w' => e = .returned (.bool true) ∧ w' = w := fun w => (show wideP (an : Int) = true by simp [wideP]; omega) ▸ refwide_any (an : Int) w
  have HW1 := Lib.hid hw1
  have HW2 := Lib.hid hw2
  clear hw1 hw2
  have HA := Lib.hid han
  have HLN := Lib.hid hln
  have HN := Lib.hid hn2
  have HT := Lib.hid ht2
  clear hn1 hn2 ht1 ht2 han hln
  go_enter Try.func25, Try.ntmps25
  go_wp2_with fail
  refine (HBARE.out _).mono ?_
  rintro e w1 ⟨rfl, hb1⟩
  have hr : Row w1 w.heap.size 25 (mD 4 r mk [S ses, S sh, S ti, S no, S sg, .slice ac n cc, .int .i64 (ln : Int), .int .i64 (an : Int), .bool psk, .bool retry]) := Row.below (by show row _ _ = _; simp [go_sem]) hb1 (by first | (simp; done) | (simp; omega) | omega)
  have hr2 : Row w1 (w.heap.size + 1) 25 (mD 4 r mk [S ses, S sh, S [], S [], S sg, .slice ac n cc, .int .i64 0, .int .i64 0, .bool psk, .bool retry]) := Row.below (by show row _ _ = _; simp [go_sem]) hb1 (by first | (simp; done) | (simp; omega) | omega)
  have hB : Below w.heap.size w w1 := Below.trans (by (repeat (first | (with_reducible exact Below.refl _ _) | ((with_reducible first | refine bSetRow ?_ ?_ _ | refine Below.alloc ?_ ?_ _ | refine Below.setCell ?_ ?_ _); rotate_left 1; (focus (first | (simp; done) | (simp; omega)))) | (with_reducible refine Below.drew ?_)))) (hb1.mono (by first | (simp; done) | (simp; omega) | omega))
  clear hb1
  go_wp2_with fail
  refine (HW1.out _).mono ?_
  rintro e w2 ⟨rfl, rfl⟩
  go_wp2_with fail
  refine (HW2.out _).mono ?_
  rintro e w3 ⟨rfl, rfl⟩
  go_upto_region 32 with (fail)
  have g67 : (mD 4 r mk [S ses, S sh, S ti, S no, S sg, .slice ac n cc, .int .i64 (ln : Int), .int .i64 (an : Int), .bool psk, .bool retry])[67]? = some (S ti) := mD_67
  have g68 : (mD 4 r mk [S ses, S sh, S ti, S no, S sg, .slice ac n cc, .int .i64 (ln : Int), .int .i64 (an : Int), .bool psk, .bool retry])[68]? = some (S no) := mD_68
  have g71 : (mD 4 r mk [S ses, S sh, S ti, S no, S sg, .slice ac n cc, .int .i64 (ln : Int), .int .i64 (an : Int), .bool psk, .bool retry])[71]? = some (.int .i64 (ln : Int)) := mD_71
  have g72 : (mD 4 r mk [S ses, S sh, S ti, S no, S sg, .slice ac n cc, .int .i64 (ln : Int), .int .i64 (an : Int), .bool psk, .bool retry])[72]? = some (.int .i64 (an : Int)) := mD_72
  have hrd := hr.drew
  have hr2d := hr2.drew
  (refine wp_region_freeD 16 [] [] shp (phi _ []) (by kernel_rfl) (by kernel_rfl) (by kernel_rfl) (phi_stab _ _) (phi_shp _ _) shp_inh ?_; simp only [List.take_succ_cons, List.take_zero, List.drop_succ_cons, List.drop_zero]; apply Exists.intro; apply Exists.intro; refine ⟨?_, ?_, ?_⟩)
  · intro ν hν
    have HN' := HN.out
    have HT' := HT.out
    iterate 2 (apply wpF_q rfl; focus (intro C hC hG; (first | go_big_quiet_skip | (go_big_quiet_want; go_big_quiet_op; first | go_big_quiet_on | (refine ⟨_, fun _ _ => rfl, ?_⟩; go_big_quiet_on)) | (go_big_quiet_want; apply qf_load1 _ _ rfl _ _ rfl; (exact hC); rotate_left 1; (focus (intro _; simp [go_sem]; done)); rotate_right 1; assumption; assumption; (simp only [Act.put, lS]; go_big_quiet_on)) | (go_big_quiet_want; apply qf_loadA _ _ rfl _ _ rfl (sz := 32); (exact hC); rotate_left 1; (focus (intro _; simp [go_sem]; done)); (focus (intro _; simp [go_sem]; done)); rotate_right 1; assumption; assumption; assumption; (simp only [Act.put, lS]; go_big_quiet_on))); exact wpQuiet_nil rfl))
    (apply wpF_q rfl; focus (intro C hC hG; go_big_quiet_want; apply qf_call; (exact hC); (exact hG); (exact (fun w' _ _ => refnum_any ln 4 w' HLN.out (by decide))); (focus (intro w; simp [go_sem]; done)); (simp only [Act.put, lS]; go_big_quiet_on); exact wpQuiet_nil rfl))
    iterate 2 (apply wpF_q rfl; focus (intro C hC hG; (first | go_big_quiet_skip | (go_big_quiet_want; go_big_quiet_op; first | go_big_quiet_on | (refine ⟨_, fun _ _ => rfl, ?_⟩; go_big_quiet_on)) | (go_big_quiet_want; apply qf_load1 _ _ rfl _ _ rfl; (exact hC); rotate_left 1; (focus (intro _; simp [go_sem]; done)); rotate_right 1; assumption; assumption; (simp only [Act.put, lS]; go_big_quiet_on)) | (go_big_quiet_want; apply qf_loadA _ _ rfl _ _ rfl (sz := 32); (exact hC); rotate_left 1; (focus (intro _; simp [go_sem]; done)); (focus (intro _; simp [go_sem]; done)); rotate_right 1; assumption; assumption; assumption; (simp only [Act.put, lS]; go_big_quiet_on))); exact wpQuiet_nil rfl))
    (apply wpF_q rfl; focus (intro C hC hG; go_big_quiet_want; apply qf_call; (exact hC); (exact hG); (exact (fun w' _ _ => refnum_any an 4 w' HA.out (by decide))); (focus (intro w; simp [go_sem]; done)); (simp only [Act.put, lS]; go_big_quiet_on); exact wpQuiet_nil rfl))
    (apply wpF_q rfl; focus (intro C hC hG; go_big_quiet_want; apply qf_add (numB ln 4) (numB an 4) _ _ _ rfl rfl rfl; (focus (first | decide | (simp only [List.length_append, List.length_nil, List.length_cons, vecB_len, numB_len, fx_len, hLS]; omega))); (simp only [Act.put, lS]; go_big_quiet_on); exact wpQuiet_nil rfl))
    iterate 2 (apply wpF_q rfl; focus (intro C hC hG; (first | go_big_quiet_skip | (go_big_quiet_want; go_big_quiet_op; first | go_big_quiet_on | (refine ⟨_, fun _ _ => rfl, ?_⟩; go_big_quiet_on)) | (go_big_quiet_want; apply qf_load1 _ _ rfl _ _ rfl; (exact hC); rotate_left 1; (focus (intro _; simp [go_sem]; done)); rotate_right 1; assumption; assumption; (simp only [Act.put, lS]; go_big_quiet_on)) | (go_big_quiet_want; apply qf_loadA _ _ rfl _ _ rfl (sz := 32); (exact hC); rotate_left 1; (focus (intro _; simp [go_sem]; done)); (focus (intro _; simp [go_sem]; done)); rotate_right 1; assumption; assumption; assumption; (simp only [Act.put, lS]; go_big_quiet_on))); exact wpQuiet_nil rfl))
    (apply wpF_q rfl; focus (intro C hC hG; go_big_quiet_want; apply qf_call; (exact hC); (exact hG); (exact (fun w' _ _ => refvec_any no 1 w' (by omega) (by decide))); (focus (intro w; simp [go_sem]; done)); (simp only [Act.put, lS]; go_big_quiet_on); exact wpQuiet_nil rfl))
    (apply wpF_q rfl; focus (intro C hC hG; go_big_quiet_want; apply qf_add (numB ln 4 ++ numB an 4) (vecB no 1) _ _ _ rfl rfl rfl; (focus (first | decide | (simp only [List.length_append, List.length_nil, List.length_cons, vecB_len, numB_len, fx_len, hLS]; omega))); (simp only [Act.put, lS]; go_big_quiet_on); exact wpQuiet_nil rfl))
    iterate 2 (apply wpF_q rfl; focus (intro C hC hG; (first | go_big_quiet_skip | (go_big_quiet_want; go_big_quiet_op; first | go_big_quiet_on | (refine ⟨_, fun _ _ => rfl, ?_⟩; go_big_quiet_on)) | (go_big_quiet_want; apply qf_load1 _ _ rfl _ _ rfl; (exact hC); rotate_left 1; (focus (intro _; simp [go_sem]; done)); rotate_right 1; assumption; assumption; (simp only [Act.put, lS]; go_big_quiet_on)) | (go_big_quiet_want; apply qf_loadA _ _ rfl _ _ rfl (sz := 32); (exact hC); rotate_left 1; (focus (intro _; simp [go_sem]; done)); (focus (intro _; simp [go_sem]; done)); rotate_right 1; assumption; assumption; assumption; (simp only [Act.put, lS]; go_big_quiet_on))); exact wpQuiet_nil rfl))
    (apply wpF_q rfl; focus (intro C hC hG; go_big_quiet_want; apply qf_call; (exact hC); (exact hG); (exact (fun w' _ _ => refvec_any ti 2 w' (by omega) (by decide))); (focus (intro w; simp [go_sem]; done)); (simp only [Act.put, lS]; go_big_quiet_on); exact wpQuiet_nil rfl))
    (apply wpF_q rfl; focus (intro C hC hG; go_big_quiet_want; apply qf_add (numB ln 4 ++ numB an 4 ++ vecB no 1) (vecB ti 2) _ _ _ rfl rfl rfl; (focus (first | decide | (simp only [List.length_append, List.length_nil, List.length_cons, vecB_len, numB_len, fx_len, hLS]; omega))); (simp only [Act.put, lS]; go_big_quiet_on); exact wpQuiet_nil rfl))
    (apply wpF_q rfl; focus (intro C hC hG; go_big_quiet_want; apply qf_add (numB ln 4 ++ numB an 4 ++ vecB no 1 ++ vecB ti 2) hNone2 _ _ _ rfl rfl rfl; (focus (first | decide | (simp only [List.length_append, List.length_nil, List.length_cons, vecB_len, numB_len, fx_len, hLS]; omega))); (simp only [Act.put, lS]; go_big_quiet_on); exact wpQuiet_nil rfl))
    exact wpF_nil ⟨rfl, rfl⟩
  · intro ν ν'; kernel_rfl
  intro ν w4 hν hB1 hD
  have hr := Row.below hr.drew hB1 hr.lt
  have hr2 := Row.below hr2.drew hB1 hr2.lt
  have hB := Below.trans hB.drew (hB1.mono hB.drew.size)
  clear hD hν hB1
  try clear hrd
  try clear hr2d
  go_wp2_with fail
  go_ret2
  exact ⟨rfl, hB⟩
set_option maxRecDepth 100000 in
set_option maxHeartbeats 4000000 in
theorem refbody_4n (r mk ses sh ti no sg : List UInt8) (ac : Option Addr) (n cc : Nat) (life age : Int) (psk : Bool) (retry : Bool) (w : World) (hno : ¬ (bareB (fx r) (fx mk) (ses.length + sh.length + ([] : List UInt8).length + ([] : List UInt8).length + sg.length + n) 0 0 psk retry = true ∧ wideP life = true ∧ wideP age = true ∧ 1 ≤ no.length ∧ no.length ≤ 8 ∧ 1 ≤ ti.length ∧ ti.length ≤ 1000)) :
    Calls Try.prog 25 #[.agg (mD 4 r mk [S ses, S sh, S ti, S no, S sg, .slice ac n cc, .int .i64 life, .int .i64 age, .bool psk, .bool retry])] w fun e w' => (∃ s, e = .returned (.tuple #[S s, .bool false])) ∧ Below w.heap.size w w' := by
  have hbare : ∀ w, Calls Try.prog 42 #[.agg (mD 4 r mk [S ses, S sh, S [], S [], S sg, .slice ac n cc, .int .i64 0, .int .i64 0, .bool psk, .bool retry])] w fun e w' => e = .returned (.bool (bareB (fx r) (fx mk) (ses.length + sh.length + ([] : List UInt8).length + ([] : List UInt8).length + sg.length + n) 0 0 psk retry)) ∧ Below w.heap.size w w' := fun w => refbareD _ _ _ _ _ _ _ _ _ _ _ _ _ _ _ w
  obtain ⟨bb, hbb⟩ : ∃ bb, bb = bareB (fx r) (fx mk) (ses.length + sh.length + ([] : List UInt8).length + ([] : List UInt8).length + sg.length + n) 0 0 psk retry := ⟨_, rfl⟩
  rw [← hbb] at hbare hno
  have HBARE := Lib.hid hbare
  clear hbare hbb
  have HNO := Lib.hid hno
  clear hno
  have hw1 := fun w => refwide_any life w
  have hw2 := fun w => refwide_any age w
  have hno := HNO.out
  clear HNO
  generalize wideP life = wl at hw1 hno
  generalize wideP age = wa at hw2 hno
  have HNO := Lib.hid hno
  have HW1 := Lib.hid hw1
  have HW2 := Lib.hid hw2
  clear hno hw1 hw2
  cases bb <;> cases wl <;> cases wa
  all_goals
    go_enter Try.func25, Try.ntmps25
    go_wp2_with fail
    refine (HBARE.out _).mono ?_
    rintro e w1 ⟨rfl, hb1⟩
    have hr : Row w1 w.heap.size 25 (mD 4 r mk [S ses, S sh, S ti, S no, S sg, .slice ac n cc, .int .i64 life, .int .i64 age, .bool psk, .bool retry]) := Row.below (by show row _ _ = _; simp [go_sem]) hb1 (by first | (simp; done) | (simp; omega) | omega)
    have hr2 : Row w1 (w.heap.size + 1) 25 (mD 4 r mk [S ses, S sh, S [], S [], S sg, .slice ac n cc, .int .i64 0, .int .i64 0, .bool psk, .bool retry]) := Row.below (by show row _ _ = _; simp [go_sem]) hb1 (by first | (simp; done) | (simp; omega) | omega)
    have hB : Below w.heap.size w w1 := Below.trans (by (repeat (first | (with_reducible exact Below.refl _ _) | ((with_reducible first | refine bSetRow ?_ ?_ _ | refine Below.alloc ?_ ?_ _ | refine Below.setCell ?_ ?_ _); rotate_left 1; (focus (first | (simp; done) | (simp; omega)))) | (with_reducible refine Below.drew ?_)))) (hb1.mono (by first | (simp; done) | (simp; omega) | omega))
    clear hb1
    go_wp2_with (first | (go_at_call 43; with_reducible refine (HW1.out _).mono ?_; rintro e w1 ⟨rfl, rfl⟩) | (go_at_call 43; with_reducible refine (HW2.out _).mono ?_; rintro e w1 ⟨rfl, rfl⟩))
    all_goals first | (exfalso; exact HNO.out ⟨(by trivial), (by trivial), (by trivial), (by omega), (by omega), (by omega), (by omega)⟩) | (go_ret2; exact ⟨⟨[], rfl⟩, hB⟩)
end Go.Proofs.Ytnenoecmmelehaa
