/- Part of the proof: HRefBodyD. No conditions of its own. -/
import Derived.Below
import Derived.BigQuiet
import Derived.Deep.CutBlock
import Derived.Deep.DeepCutAuto
import Derived.Deep.Draws
import Derived.Deep.LoopGhost
import Derived.Deep.Quiet
import Derived.Deep.QuietTactic
import Derived.Deep.RegionLaw
import Derived.Great.BuildSlice
import Derived.Great.FillDense
import Derived.Laws.AppendOwn
import Derived.Laws.AppendOwnNone
import Derived.Laws.BytesArg
import Derived.Laws.Concat
import Derived.Laws.MakeOwn
import Derived.Lib.AppendZerosOnto
import Derived.Lib.BufferWrite
import Derived.Lib.Hide
import Derived.Lib.SlBytesConst
import Derived.StillTail
import Derived.Stop.BytesEq
import Derived.Test.YtnenoecmmelehaaProg
import Derived.WalkKit
import Derived.WalkLawsBesides
import Derived.WalkSpells
import Derived.Test.YtnenoecmmelehaaK12
import Derived.Test.YtnenoecmmelehaaK21
import Derived.Test.YtnenoecmmelehaaK22
namespace Go.Proofs.Ytnenoecmmelehaa
open Go.RowKit
set_option linter.unusedVariables false
set_option linter.unusedSimpArgs false

set_option maxRecDepth 100000 in
set_option maxHeartbeats 4000000 in
theorem refbody_2a (r mk ses sh ti no sg : List UInt8) (ac : Option Addr) (n cc : Nat) (life age : Int) (psk : Bool) (retry : Bool) (w : World) (hbv : bareB (fx zero32) (fx mk) (([] : List UInt8).length + ([] : List UInt8).length + ti.length + no.length + sg.length + n) life age false false = false)  :
    Calls Try.prog 25 #[.agg (mD 2 r mk [S ses, S sh, S ti, S no, S sg, .slice ac n cc, .int .i64 life, .int .i64 age, .bool psk, .bool retry])] w fun e w' => (∃ s, e = .returned (.tuple #[S s, .bool false])) ∧ Below w.heap.size w w' := by
  have hbare : ∀ w, Calls Try.prog 42 #[.agg (mD 2 zero32 mk [S [], S [], S ti, S no, S sg, .slice ac n cc, .int .i64 life, .int .i64 age, .bool false, .bool false])] w fun e w' => e = .returned (.bool (bareB (fx zero32) (fx mk) (([] : List UInt8).length + ([] : List UInt8).length + ti.length + no.length + sg.length + n) life age false false)) ∧ Below w.heap.size w w' := fun w => refbareD _ _ _ _ _ _ _ _ _ _ _ _ _ _ _ w
  rw [hbv] at hbare
  have HBARE := Lib.hid hbare
  clear hbare hbv
  go_enter Try.func25, Try.ntmps25
  go_upto_region 18 with (fail)
  refine gen_wp (fun w0 => Row w0 w.heap.size 25 (mD 2 r mk [S ses, S sh, S ti, S no, S sg, .slice ac n cc, .int .i64 life, .int .i64 age, .bool psk, .bool retry]) ∧ Row w0 (w.heap.size + 1) 25 (mD 2 zero32 mk [S [], S [], S ti, S no, S sg, .slice ac n cc, .int .i64 life, .int .i64 age, .bool false, .bool false]) ∧ Below w.heap.size w w0) ⟨by show row _ _ = _; simp [go_sem], by show row _ _ = _; simp [go_sem], by (repeat (first | (with_reducible exact Below.refl _ _) | ((with_reducible first | refine bSetRow ?_ ?_ _ | refine Below.alloc ?_ ?_ _ | refine Below.setCell ?_ ?_ _); rotate_left 1; (focus (first | (simp; done) | (simp; omega)))) | (with_reducible refine Below.drew ?_)))⟩ ?_
  rintro w0 ⟨hr, hr2, hB⟩
  have g65 : (mD 2 r mk [S ses, S sh, S ti, S no, S sg, .slice ac n cc, .int .i64 life, .int .i64 age, .bool psk, .bool retry])[65]? = some (S ses) := mD_65
  have g66 : (mD 2 r mk [S ses, S sh, S ti, S no, S sg, .slice ac n cc, .int .i64 life, .int .i64 age, .bool psk, .bool retry])[66]? = some (S sh) := mD_66
  have g73 : (mD 2 r mk [S ses, S sh, S ti, S no, S sg, .slice ac n cc, .int .i64 life, .int .i64 age, .bool psk, .bool retry])[73]? = some (.bool psk) := mD_73
  have g74 : (mD 2 r mk [S ses, S sh, S ti, S no, S sg, .slice ac n cc, .int .i64 life, .int .i64 age, .bool psk, .bool retry])[74]? = some (.bool retry) := mD_74
  have gR : sub (mD 2 r mk [S ses, S sh, S ti, S no, S sg, .slice ac n cc, .int .i64 life, .int .i64 age, .bool psk, .bool retry]) 1 32 = AB (fx r) := mD_R
  have gz : 1 + 32 ≤ (mD 2 r mk [S ses, S sh, S ti, S no, S sg, .slice ac n cc, .int .i64 life, .int .i64 age, .bool psk, .bool retry]).size := by rw [mD_sz]; decide
  have hrd := hr.drew
  have hr2d := hr2.drew
  (refine wp_region_freeD 44 [] [] shp (phi _ []) (by kernel_rfl) (by kernel_rfl) (by kernel_rfl) (phi_stab _ _) (phi_shp _ _) shp_inh ?_; simp only [List.take_succ_cons, List.take_zero, List.drop_succ_cons, List.drop_zero]; apply Exists.intro; apply Exists.intro; refine ⟨?_, ?_, ?_⟩)
  · intro ν hν
    (apply wpF_q rfl; focus (intro C hC hG; go_big_quiet_want; apply qf_loadR _ rfl _ rfl; (exact hC); assumption; (exact mD_sz); (simp only [Act.put, lS]; go_big_quiet_on); exact wpQuiet_nil rfl))
    (apply wpF_q rfl; focus (intro C hC hG; go_big_quiet_want; apply qf_call; (exact hC); (exact hG); (exact (fun w' _ _ => HBARE.out w')); (focus (intro w; simp [go_sem]; done)); (simp only [Act.put, lS]; go_big_quiet_on); exact wpQuiet_nil rfl))
    iterate 42 (apply wpF_q rfl; focus (intro C hC hG; (first | go_big_quiet_skip | (go_big_quiet_want; go_big_quiet_op; first | go_big_quiet_on | (refine ⟨_, fun _ _ => rfl, ?_⟩; go_big_quiet_on)) | (go_big_quiet_want; apply qf_load1 _ _ rfl _ _ rfl; (exact hC); rotate_left 1; (focus (intro _; simp [go_sem]; done)); rotate_right 1; assumption; assumption; (simp only [Act.put, lS]; go_big_quiet_on)) | (go_big_quiet_want; apply qf_loadA _ _ rfl _ _ rfl (sz := 32); (exact hC); rotate_left 1; (focus (intro _; simp [go_sem]; done)); (focus (intro _; simp [go_sem]; done)); rotate_right 1; assumption; assumption; assumption; (simp only [Act.put, lS]; go_big_quiet_on))); exact wpQuiet_nil rfl))
    exact wpF_nil ⟨rfl, rfl⟩
  · intro ν ν'; kernel_rfl
  intro ν w1 hν hB1 hD
  have hr := Row.below hr.drew hB1 hr.lt
  have hr2 := Row.below hr2.drew hB1 hr2.lt
  have hB := Below.trans hB.drew (hB1.mono hB.drew.size)
  clear hD hν hB1
  try clear hrd
  try clear hr2d
  go_wp2_with fail
  go_ret2
  exact ⟨⟨[], rfl⟩, hB⟩
set_option maxRecDepth 100000 in
set_option maxHeartbeats 4000000 in
theorem refbody_2b (r mk ses sh ti no sg : List UInt8) (ac : Option Addr) (n cc : Nat) (life age : Int) (psk : Bool) (retry : Bool) (w : World) (hbv : bareB (fx zero32) (fx mk) (([] : List UInt8).length + ([] : List UInt8).length + ti.length + no.length + sg.length + n) life age false false = true) (hs : 32 < ses.length) :
    Calls Try.prog 25 #[.agg (mD 2 r mk [S ses, S sh, S ti, S no, S sg, .slice ac n cc, .int .i64 life, .int .i64 age, .bool psk, .bool retry])] w fun e w' => (∃ s, e = .returned (.tuple #[S s, .bool false])) ∧ Below w.heap.size w w' := by
  have hbare : ∀ w, Calls Try.prog 42 #[.agg (mD 2 zero32 mk [S [], S [], S ti, S no, S sg, .slice ac n cc, .int .i64 life, .int .i64 age, .bool false, .bool false])] w fun e w' => e = .returned (.bool (bareB (fx zero32) (fx mk) (([] : List UInt8).length + ([] : List UInt8).length + ti.length + no.length + sg.length + n) life age false false)) ∧ Below w.heap.size w w' := fun w => refbareD _ _ _ _ _ _ _ _ _ _ _ _ _ _ _ w
  rw [hbv] at hbare
  have HBARE := Lib.hid hbare
  clear hbare hbv
  have x1 : (32 : Int) < (ses.length : Int) := by omega
  clear hs
  go_enter Try.func25, Try.ntmps25
  go_upto_region 18 with (fail)
  refine gen_wp (fun w0 => Row w0 w.heap.size 25 (mD 2 r mk [S ses, S sh, S ti, S no, S sg, .slice ac n cc, .int .i64 life, .int .i64 age, .bool psk, .bool retry]) ∧ Row w0 (w.heap.size + 1) 25 (mD 2 zero32 mk [S [], S [], S ti, S no, S sg, .slice ac n cc, .int .i64 life, .int .i64 age, .bool false, .bool false]) ∧ Below w.heap.size w w0) ⟨by show row _ _ = _; simp [go_sem], by show row _ _ = _; simp [go_sem], by (repeat (first | (with_reducible exact Below.refl _ _) | ((with_reducible first | refine bSetRow ?_ ?_ _ | refine Below.alloc ?_ ?_ _ | refine Below.setCell ?_ ?_ _); rotate_left 1; (focus (first | (simp; done) | (simp; omega)))) | (with_reducible refine Below.drew ?_)))⟩ ?_
  rintro w0 ⟨hr, hr2, hB⟩
  have g65 : (mD 2 r mk [S ses, S sh, S ti, S no, S sg, .slice ac n cc, .int .i64 life, .int .i64 age, .bool psk, .bool retry])[65]? = some (S ses) := mD_65
  have g66 : (mD 2 r mk [S ses, S sh, S ti, S no, S sg, .slice ac n cc, .int .i64 life, .int .i64 age, .bool psk, .bool retry])[66]? = some (S sh) := mD_66
  have g73 : (mD 2 r mk [S ses, S sh, S ti, S no, S sg, .slice ac n cc, .int .i64 life, .int .i64 age, .bool psk, .bool retry])[73]? = some (.bool psk) := mD_73
  have g74 : (mD 2 r mk [S ses, S sh, S ti, S no, S sg, .slice ac n cc, .int .i64 life, .int .i64 age, .bool psk, .bool retry])[74]? = some (.bool retry) := mD_74
  have gR : sub (mD 2 r mk [S ses, S sh, S ti, S no, S sg, .slice ac n cc, .int .i64 life, .int .i64 age, .bool psk, .bool retry]) 1 32 = AB (fx r) := mD_R
  have gz : 1 + 32 ≤ (mD 2 r mk [S ses, S sh, S ti, S no, S sg, .slice ac n cc, .int .i64 life, .int .i64 age, .bool psk, .bool retry]).size := by rw [mD_sz]; decide
  have hrd := hr.drew
  have hr2d := hr2.drew
  (refine wp_region_freeD 44 [] [] shp (phi _ []) (by kernel_rfl) (by kernel_rfl) (by kernel_rfl) (phi_stab _ _) (phi_shp _ _) shp_inh ?_; simp only [List.take_succ_cons, List.take_zero, List.drop_succ_cons, List.drop_zero]; apply Exists.intro; apply Exists.intro; refine ⟨?_, ?_, ?_⟩)
  · intro ν hν
    (apply wpF_q rfl; focus (intro C hC hG; go_big_quiet_want; apply qf_loadR _ rfl _ rfl; (exact hC); assumption; (exact mD_sz); (simp only [Act.put, lS]; go_big_quiet_on); exact wpQuiet_nil rfl))
    (apply wpF_q rfl; focus (intro C hC hG; go_big_quiet_want; apply qf_call; (exact hC); (exact hG); (exact (fun w' _ _ => HBARE.out w')); (focus (intro w; simp [go_sem]; done)); (simp only [Act.put, lS]; go_big_quiet_on); exact wpQuiet_nil rfl))
    iterate 42 (apply wpF_q rfl; focus (intro C hC hG; (first | go_big_quiet_skip | (go_big_quiet_want; go_big_quiet_op; first | go_big_quiet_on | (refine ⟨_, fun _ _ => rfl, ?_⟩; go_big_quiet_on)) | (go_big_quiet_want; apply qf_load1 _ _ rfl _ _ rfl; (exact hC); rotate_left 1; (focus (intro _; simp [go_sem]; done)); rotate_right 1; assumption; assumption; (simp only [Act.put, lS]; go_big_quiet_on)) | (go_big_quiet_want; apply qf_loadA _ _ rfl _ _ rfl (sz := 32); (exact hC); rotate_left 1; (focus (intro _; simp [go_sem]; done)); (focus (intro _; simp [go_sem]; done)); rotate_right 1; assumption; assumption; assumption; (simp only [Act.put, lS]; go_big_quiet_on))); exact wpQuiet_nil rfl))
    exact wpF_nil ⟨rfl, rfl⟩
  · intro ν ν'; kernel_rfl
  intro ν w1 hν hB1 hD
  have hr := Row.below hr.drew hB1 hr.lt
  have hr2 := Row.below hr2.drew hB1 hr2.lt
  have hB := Below.trans hB.drew (hB1.mono hB.drew.size)
  clear hD hν hB1
  try clear hrd
  try clear hr2d
  go_wp2_with fail
  go_ret2
  exact ⟨⟨[], rfl⟩, hB⟩
set_option maxRecDepth 100000 in
set_option maxHeartbeats 4000000 in
theorem refbody_2c1 (r mk ses sh ti no sg : List UInt8) (ac : Option Addr) (n cc : Nat) (life age : Int) (psk : Bool) (w : World) (hbv : bareB (fx zero32) (fx mk) (([] : List UInt8).length + ([] : List UInt8).length + ti.length + no.length + sg.length + n) life age false false = true) (hs : ses.length ≤ 32) (hsh : 0 < sh.length) :
    Calls Try.prog 25 #[.agg (mD 2 r mk [S ses, S sh, S ti, S no, S sg, .slice ac n cc, .int .i64 life, .int .i64 age, .bool psk, .bool true])] w fun e w' => (∃ s, e = .returned (.tuple #[S s, .bool false])) ∧ Below w.heap.size w w' := by
  have hbare : ∀ w, Calls Try.prog 42 #[.agg (mD 2 zero32 mk [S [], S [], S ti, S no, S sg, .slice ac n cc, .int .i64 life, .int .i64 age, .bool false, .bool false])] w fun e w' => e = .returned (.bool (bareB (fx zero32) (fx mk) (([] : List UInt8).length + ([] : List UInt8).length + ti.length + no.length + sg.length + n) life age false false)) ∧ Below w.heap.size w w' := fun w => refbareD _ _ _ _ _ _ _ _ _ _ _ _ _ _ _ w
  rw [hbv] at hbare
  have HBARE := Lib.hid hbare
  clear hbare hbv
  have x1 : ¬ (32 : Int) < (ses.length : Int) := by omega
  clear hs
  have x4 : sh ≠ [] := fun e => by subst e; simp at hsh
  have x4a : (sh == []) = false := by simpa using x4
  have x4b : sh.isEmpty = false := by simpa using x4
  clear hsh
  go_enter Try.func25, Try.ntmps25
  go_upto_region 18 with (fail)
  refine gen_wp (fun w0 => Row w0 w.heap.size 25 (mD 2 r mk [S ses, S sh, S ti, S no, S sg, .slice ac n cc, .int .i64 life, .int .i64 age, .bool psk, .bool true]) ∧ Row w0 (w.heap.size + 1) 25 (mD 2 zero32 mk [S [], S [], S ti, S no, S sg, .slice ac n cc, .int .i64 life, .int .i64 age, .bool false, .bool false]) ∧ Below w.heap.size w w0) ⟨by show row _ _ = _; simp [go_sem], by show row _ _ = _; simp [go_sem], by (repeat (first | (with_reducible exact Below.refl _ _) | ((with_reducible first | refine bSetRow ?_ ?_ _ | refine Below.alloc ?_ ?_ _ | refine Below.setCell ?_ ?_ _); rotate_left 1; (focus (first | (simp; done) | (simp; omega)))) | (with_reducible refine Below.drew ?_)))⟩ ?_
  rintro w0 ⟨hr, hr2, hB⟩
  have g65 : (mD 2 r mk [S ses, S sh, S ti, S no, S sg, .slice ac n cc, .int .i64 life, .int .i64 age, .bool psk, .bool true])[65]? = some (S ses) := mD_65
  have g66 : (mD 2 r mk [S ses, S sh, S ti, S no, S sg, .slice ac n cc, .int .i64 life, .int .i64 age, .bool psk, .bool true])[66]? = some (S sh) := mD_66
  have g73 : (mD 2 r mk [S ses, S sh, S ti, S no, S sg, .slice ac n cc, .int .i64 life, .int .i64 age, .bool psk, .bool true])[73]? = some (.bool psk) := mD_73
  have g74 : (mD 2 r mk [S ses, S sh, S ti, S no, S sg, .slice ac n cc, .int .i64 life, .int .i64 age, .bool psk, .bool true])[74]? = some (.bool true) := mD_74
  have gR : sub (mD 2 r mk [S ses, S sh, S ti, S no, S sg, .slice ac n cc, .int .i64 life, .int .i64 age, .bool psk, .bool true]) 1 32 = AB (fx r) := mD_R
  have gz : 1 + 32 ≤ (mD 2 r mk [S ses, S sh, S ti, S no, S sg, .slice ac n cc, .int .i64 life, .int .i64 age, .bool psk, .bool true]).size := by rw [mD_sz]; decide
  have hrd := hr.drew
  have hr2d := hr2.drew
  (refine wp_region_freeD 44 [] [] shp (phi _ []) (by kernel_rfl) (by kernel_rfl) (by kernel_rfl) (phi_stab _ _) (phi_shp _ _) shp_inh ?_; simp only [List.take_succ_cons, List.take_zero, List.drop_succ_cons, List.drop_zero]; apply Exists.intro; apply Exists.intro; refine ⟨?_, ?_, ?_⟩)
  · intro ν hν
    (apply wpF_q rfl; focus (intro C hC hG; go_big_quiet_want; apply qf_loadR _ rfl _ rfl; (exact hC); assumption; (exact mD_sz); (simp only [Act.put, lS]; go_big_quiet_on); exact wpQuiet_nil rfl))
    (apply wpF_q rfl; focus (intro C hC hG; go_big_quiet_want; apply qf_call; (exact hC); (exact hG); (exact (fun w' _ _ => HBARE.out w')); (focus (intro w; simp [go_sem]; done)); (simp only [Act.put, lS]; go_big_quiet_on); exact wpQuiet_nil rfl))
    iterate 42 (apply wpF_q rfl; focus (intro C hC hG; (first | go_big_quiet_skip | (go_big_quiet_want; go_big_quiet_op; first | go_big_quiet_on | (refine ⟨_, fun _ _ => rfl, ?_⟩; go_big_quiet_on)) | (go_big_quiet_want; apply qf_load1 _ _ rfl _ _ rfl; (exact hC); rotate_left 1; (focus (intro _; simp [go_sem]; done)); rotate_right 1; assumption; assumption; (simp only [Act.put, lS]; go_big_quiet_on)) | (go_big_quiet_want; apply qf_loadA _ _ rfl _ _ rfl (sz := 32); (exact hC); rotate_left 1; (focus (intro _; simp [go_sem]; done)); (focus (intro _; simp [go_sem]; done)); rotate_right 1; assumption; assumption; assumption; (simp only [Act.put, lS]; go_big_quiet_on))); exact wpQuiet_nil rfl))
    exact wpF_nil ⟨rfl, rfl⟩
  · intro ν ν'; kernel_rfl
  intro ν w1 hν hB1 hD
  have hr := Row.below hr.drew hB1 hr.lt
  have hr2 := Row.below hr2.drew hB1 hr2.lt
  have hB := Below.trans hB.drew (hB1.mono hB.drew.size)
  clear hD hν hB1
  try clear hrd
  try clear hr2d
  go_wp2_with fail
  go_ret2
  exact ⟨⟨[], rfl⟩, hB⟩
set_option maxRecDepth 100000 in
set_option maxHeartbeats 4000000 in
theorem refbody_2c2 (r mk ses ti no sg : List UInt8) (ac : Option Addr) (n cc : Nat) (life age : Int)  (w : World) (hbv : bareB (fx zero32) (fx mk) (([] : List UInt8).length + ([] : List UInt8).length + ti.length + no.length + sg.length + n) life age false false = true) (hs : ses.length ≤ 32) :
    Calls Try.prog 25 #[.agg (mD 2 r mk [S ses, S [], S ti, S no, S sg, .slice ac n cc, .int .i64 life, .int .i64 age, .bool true, .bool true])] w fun e w' => (∃ s, e = .returned (.tuple #[S s, .bool false])) ∧ Below w.heap.size w w' := by
  have hbare : ∀ w, Calls Try.prog 42 #[.agg (mD 2 zero32 mk [S [], S [], S ti, S no, S sg, .slice ac n cc, .int .i64 life, .int .i64 age, .bool false, .bool false])] w fun e w' => e = .returned (.bool (bareB (fx zero32) (fx mk) (([] : List UInt8).length + ([] : List UInt8).length + ti.length + no.length + sg.length + n) life age false false)) ∧ Below w.heap.size w w' := fun w => refbareD _ _ _ _ _ _ _ _ _ _ _ _ _ _ _ w
  rw [hbv] at hbare
  have HBARE := Lib.hid hbare
  clear hbare hbv
  have x1 : ¬ (32 : Int) < (ses.length : Int) := by omega
  clear hs
  go_enter Try.func25, Try.ntmps25
  go_upto_region 18 with (fail)
  refine gen_wp (fun w0 => Row w0 w.heap.size 25 (mD 2 r mk [S ses, S [], S ti, S no, S sg, .slice ac n cc, .int .i64 life, .int .i64 age, .bool true, .bool true]) ∧ Row w0 (w.heap.size + 1) 25 (mD 2 zero32 mk [S [], S [], S ti, S no, S sg, .slice ac n cc, .int .i64 life, .int .i64 age, .bool false, .bool false]) ∧ Below w.heap.size w w0) ⟨by show row _ _ = _; simp [go_sem], by show row _ _ = _; simp [go_sem], by (repeat (first | (with_reducible exact Below.refl _ _) | ((with_reducible first | refine bSetRow ?_ ?_ _ | refine Below.alloc ?_ ?_ _ | refine Below.setCell ?_ ?_ _); rotate_left 1; (focus (first | (simp; done) | (simp; omega)))) | (with_reducible refine Below.drew ?_)))⟩ ?_
  rintro w0 ⟨hr, hr2, hB⟩
  have g65 : (mD 2 r mk [S ses, S [], S ti, S no, S sg, .slice ac n cc, .int .i64 life, .int .i64 age, .bool true, .bool true])[65]? = some (S ses) := mD_65
  have g66 : (mD 2 r mk [S ses, S [], S ti, S no, S sg, .slice ac n cc, .int .i64 life, .int .i64 age, .bool true, .bool true])[66]? = some (S []) := mD_66
  have g73 : (mD 2 r mk [S ses, S [], S ti, S no, S sg, .slice ac n cc, .int .i64 life, .int .i64 age, .bool true, .bool true])[73]? = some (.bool true) := mD_73
  have g74 : (mD 2 r mk [S ses, S [], S ti, S no, S sg, .slice ac n cc, .int .i64 life, .int .i64 age, .bool true, .bool true])[74]? = some (.bool true) := mD_74
  have gR : sub (mD 2 r mk [S ses, S [], S ti, S no, S sg, .slice ac n cc, .int .i64 life, .int .i64 age, .bool true, .bool true]) 1 32 = AB (fx r) := mD_R
  have gz : 1 + 32 ≤ (mD 2 r mk [S ses, S [], S ti, S no, S sg, .slice ac n cc, .int .i64 life, .int .i64 age, .bool true, .bool true]).size := by rw [mD_sz]; decide
  have hrd := hr.drew
  have hr2d := hr2.drew
  (refine wp_region_freeD 44 [] [] shp (phi _ []) (by kernel_rfl) (by kernel_rfl) (by kernel_rfl) (phi_stab _ _) (phi_shp _ _) shp_inh ?_; simp only [List.take_succ_cons, List.take_zero, List.drop_succ_cons, List.drop_zero]; apply Exists.intro; apply Exists.intro; refine ⟨?_, ?_, ?_⟩)
  · intro ν hν
    (apply wpF_q rfl; focus (intro C hC hG; go_big_quiet_want; apply qf_loadR _ rfl _ rfl; (exact hC); assumption; (exact mD_sz); (simp only [Act.put, lS]; go_big_quiet_on); exact wpQuiet_nil rfl))
    (apply wpF_q rfl; focus (intro C hC hG; go_big_quiet_want; apply qf_call; (exact hC); (exact hG); (exact (fun w' _ _ => HBARE.out w')); (focus (intro w; simp [go_sem]; done)); (simp only [Act.put, lS]; go_big_quiet_on); exact wpQuiet_nil rfl))
    iterate 42 (apply wpF_q rfl; focus (intro C hC hG; (first | go_big_quiet_skip | (go_big_quiet_want; go_big_quiet_op; first | go_big_quiet_on | (refine ⟨_, fun _ _ => rfl, ?_⟩; go_big_quiet_on)) | (go_big_quiet_want; apply qf_load1 _ _ rfl _ _ rfl; (exact hC); rotate_left 1; (focus (intro _; simp [go_sem]; done)); rotate_right 1; assumption; assumption; (simp only [Act.put, lS]; go_big_quiet_on)) | (go_big_quiet_want; apply qf_loadA _ _ rfl _ _ rfl (sz := 32); (exact hC); rotate_left 1; (focus (intro _; simp [go_sem]; done)); (focus (intro _; simp [go_sem]; done)); rotate_right 1; assumption; assumption; assumption; (simp only [Act.put, lS]; go_big_quiet_on))); exact wpQuiet_nil rfl))
    exact wpF_nil ⟨rfl, rfl⟩
  · intro ν ν'; kernel_rfl
  intro ν w1 hν hB1 hD
  have hr := Row.below hr.drew hB1 hr.lt
  have hr2 := Row.below hr2.drew hB1 hr2.lt
  have hB := Below.trans hB.drew (hB1.mono hB.drew.size)
  clear hD hν hB1
  try clear hrd
  try clear hr2d
  go_wp2_with fail
  go_ret2
  exact ⟨⟨[], rfl⟩, hB⟩
set_option maxRecDepth 100000 in
set_option maxHeartbeats 4000000 in
theorem refbody_2c3 (r mk ses ti no sg : List UInt8) (ac : Option Addr) (n cc : Nat) (life age : Int)  (w : World) (hbv : bareB (fx zero32) (fx mk) (([] : List UInt8).length + ([] : List UInt8).length + ti.length + no.length + sg.length + n) life age false false = true) (hs : ses.length ≤ 32) (hz : (fx r == zero32) = false) :
    Calls Try.prog 25 #[.agg (mD 2 r mk [S ses, S [], S ti, S no, S sg, .slice ac n cc, .int .i64 life, .int .i64 age, .bool false, .bool true])] w fun e w' => (∃ s, e = .returned (.tuple #[S s, .bool false])) ∧ Below w.heap.size w w' := by
  have hbare : ∀ w, Calls Try.prog 42 #[.agg (mD 2 zero32 mk [S [], S [], S ti, S no, S sg, .slice ac n cc, .int .i64 life, .int .i64 age, .bool false, .bool false])] w fun e w' => e = .returned (.bool (bareB (fx zero32) (fx mk) (([] : List UInt8).length + ([] : List UInt8).length + ti.length + no.length + sg.length + n) life age false false)) ∧ Below w.heap.size w w' := fun w => refbareD _ _ _ _ _ _ _ _ _ _ _ _ _ _ _ w
  rw [hbv] at hbare
  have HBARE := Lib.hid hbare
  clear hbare hbv
  have x1 : ¬ (32 : Int) < (ses.length : Int) := by omega
  clear hs
  have he1 : ∀ w, (Op.equalIn 10000 22 (.agg (AB (fx r))) (.agg #[.int .u8 0, .int .u8 0, .int .u8 0, .int .u8 0, .int .u8 0, .int .u8 0, .int .u8 0, .int .u8 0, .int .u8 0, .int .u8 0, .int .u8 0, .int .u8 0, .int .u8 0, .int .u8 0, .int .u8 0, .int .u8 0, .int .u8 0, .int .u8 0, .int .u8 0, .int .u8 0, .int .u8 0, .int .u8 0, .int .u8 0, .int .u8 0, .int .u8 0, .int .u8 0, .int .u8 0, .int .u8 0, .int .u8 0, .int .u8 0, .int .u8 0, .int .u8 0])).run Try.prog w = .ok false w := fun w => by
    have := equal32 (fx r) zero32 (fx_len _) rfl w
    rw [zero32_lit, hz] at this
    exact this
  clear hz
  go_enter Try.func25, Try.ntmps25
  go_upto_region 18 with (fail)
  refine gen_wp (fun w0 => Row w0 w.heap.size 25 (mD 2 r mk [S ses, S [], S ti, S no, S sg, .slice ac n cc, .int .i64 life, .int .i64 age, .bool false, .bool true]) ∧ Row w0 (w.heap.size + 1) 25 (mD 2 zero32 mk [S [], S [], S ti, S no, S sg, .slice ac n cc, .int .i64 life, .int .i64 age, .bool false, .bool false]) ∧ Below w.heap.size w w0) ⟨by show row _ _ = _; simp [go_sem], by show row _ _ = _; simp [go_sem], by (repeat (first | (with_reducible exact Below.refl _ _) | ((with_reducible first | refine bSetRow ?_ ?_ _ | refine Below.alloc ?_ ?_ _ | refine Below.setCell ?_ ?_ _); rotate_left 1; (focus (first | (simp; done) | (simp; omega)))) | (with_reducible refine Below.drew ?_)))⟩ ?_
  rintro w0 ⟨hr, hr2, hB⟩
  have g65 : (mD 2 r mk [S ses, S [], S ti, S no, S sg, .slice ac n cc, .int .i64 life, .int .i64 age, .bool false, .bool true])[65]? = some (S ses) := mD_65
  have g66 : (mD 2 r mk [S ses, S [], S ti, S no, S sg, .slice ac n cc, .int .i64 life, .int .i64 age, .bool false, .bool true])[66]? = some (S []) := mD_66
  have g73 : (mD 2 r mk [S ses, S [], S ti, S no, S sg, .slice ac n cc, .int .i64 life, .int .i64 age, .bool false, .bool true])[73]? = some (.bool false) := mD_73
  have g74 : (mD 2 r mk [S ses, S [], S ti, S no, S sg, .slice ac n cc, .int .i64 life, .int .i64 age, .bool false, .bool true])[74]? = some (.bool true) := mD_74
  have gR : sub (mD 2 r mk [S ses, S [], S ti, S no, S sg, .slice ac n cc, .int .i64 life, .int .i64 age, .bool false, .bool true]) 1 32 = AB (fx r) := mD_R
  have gz : 1 + 32 ≤ (mD 2 r mk [S ses, S [], S ti, S no, S sg, .slice ac n cc, .int .i64 life, .int .i64 age, .bool false, .bool true]).size := by rw [mD_sz]; decide
  have hrd := hr.drew
  have hr2d := hr2.drew
  (refine wp_region_freeD 44 [] [] shp (phi _ []) (by kernel_rfl) (by kernel_rfl) (by kernel_rfl) (phi_stab _ _) (phi_shp _ _) shp_inh ?_; simp only [List.take_succ_cons, List.take_zero, List.drop_succ_cons, List.drop_zero]; apply Exists.intro; apply Exists.intro; refine ⟨?_, ?_, ?_⟩)
  · intro ν hν
    (apply wpF_q rfl; focus (intro C hC hG; go_big_quiet_want; apply qf_loadR _ rfl _ rfl; (exact hC); assumption; (exact mD_sz); (simp only [Act.put, lS]; go_big_quiet_on); exact wpQuiet_nil rfl))
    (apply wpF_q rfl; focus (intro C hC hG; go_big_quiet_want; apply qf_call; (exact hC); (exact hG); (exact (fun w' _ _ => HBARE.out w')); (focus (intro w; simp [go_sem]; done)); (simp only [Act.put, lS]; go_big_quiet_on); exact wpQuiet_nil rfl))
    iterate 42 (apply wpF_q rfl; focus (intro C hC hG; (first | go_big_quiet_skip | (go_big_quiet_want; go_big_quiet_op; first | go_big_quiet_on | (refine ⟨_, fun _ _ => rfl, ?_⟩; go_big_quiet_on)) | (go_big_quiet_want; apply qf_load1 _ _ rfl _ _ rfl; (exact hC); rotate_left 1; (focus (intro _; simp [go_sem]; done)); rotate_right 1; assumption; assumption; (simp only [Act.put, lS]; go_big_quiet_on)) | (go_big_quiet_want; apply qf_loadA _ _ rfl _ _ rfl (sz := 32); (exact hC); rotate_left 1; (focus (intro _; simp [go_sem]; done)); (focus (intro _; simp [go_sem]; done)); rotate_right 1; assumption; assumption; assumption; (simp only [Act.put, lS]; go_big_quiet_on))); exact wpQuiet_nil rfl))
    exact wpF_nil ⟨rfl, rfl⟩
  · intro ν ν'; kernel_rfl
  intro ν w1 hν hB1 hD
  have hr := Row.below hr.drew hB1 hr.lt
  have hr2 := Row.below hr2.drew hB1 hr2.lt
  have hB := Below.trans hB.drew (hB1.mono hB.drew.size)
  clear hD hν hB1
  try clear hrd
  try clear hr2d
  go_wp2_with fail
  go_ret2
  exact ⟨⟨[], rfl⟩, hB⟩
set_option maxRecDepth 100000 in
set_option maxHeartbeats 4000000 in
theorem refbody_2d1 (r mk ses sh ti no sg : List UInt8) (ac : Option Addr) (n cc : Nat) (life age : Int) (psk : Bool) (w : World) (hbv : bareB (fx zero32) (fx mk) (([] : List UInt8).length + ([] : List UInt8).length + ti.length + no.length + sg.length + n) life age false false = true) (hs : ses.length ≤ 32) (h65 : sh.length ≠ 65) :
    Calls Try.prog 25 #[.agg (mD 2 r mk [S ses, S sh, S ti, S no, S sg, .slice ac n cc, .int .i64 life, .int .i64 age, .bool psk, .bool false])] w fun e w' => (∃ s, e = .returned (.tuple #[S s, .bool false])) ∧ Below w.heap.size w w' := by
  have hbare : ∀ w, Calls Try.prog 42 #[.agg (mD 2 zero32 mk [S [], S [], S ti, S no, S sg, .slice ac n cc, .int .i64 life, .int .i64 age, .bool false, .bool false])] w fun e w' => e = .returned (.bool (bareB (fx zero32) (fx mk) (([] : List UInt8).length + ([] : List UInt8).length + ti.length + no.length + sg.length + n) life age false false)) ∧ Below w.heap.size w w' := fun w => refbareD _ _ _ _ _ _ _ _ _ _ _ _ _ _ _ w
  rw [hbv] at hbare
  have HBARE := Lib.hid hbare
  clear hbare hbv
  have x1 : ¬ (32 : Int) < (ses.length : Int) := by omega
  clear hs
  have y1 : ((sh.length : Int) == 65) = false := by simp; omega
  have y2 : ¬ (sh.length : Int) = 65 := by omega
  have y3 : ((sh.length : Int) != 65) = true := by simp; omega
  clear h65
  go_enter Try.func25, Try.ntmps25
  go_upto_region 18 with (fail)
  refine gen_wp (fun w0 => Row w0 w.heap.size 25 (mD 2 r mk [S ses, S sh, S ti, S no, S sg, .slice ac n cc, .int .i64 life, .int .i64 age, .bool psk, .bool false]) ∧ Row w0 (w.heap.size + 1) 25 (mD 2 zero32 mk [S [], S [], S ti, S no, S sg, .slice ac n cc, .int .i64 life, .int .i64 age, .bool false, .bool false]) ∧ Below w.heap.size w w0) ⟨by show row _ _ = _; simp [go_sem], by show row _ _ = _; simp [go_sem], by (repeat (first | (with_reducible exact Below.refl _ _) | ((with_reducible first | refine bSetRow ?_ ?_ _ | refine Below.alloc ?_ ?_ _ | refine Below.setCell ?_ ?_ _); rotate_left 1; (focus (first | (simp; done) | (simp; omega)))) | (with_reducible refine Below.drew ?_)))⟩ ?_
  rintro w0 ⟨hr, hr2, hB⟩
  have g65 : (mD 2 r mk [S ses, S sh, S ti, S no, S sg, .slice ac n cc, .int .i64 life, .int .i64 age, .bool psk, .bool false])[65]? = some (S ses) := mD_65
  have g66 : (mD 2 r mk [S ses, S sh, S ti, S no, S sg, .slice ac n cc, .int .i64 life, .int .i64 age, .bool psk, .bool false])[66]? = some (S sh) := mD_66
  have g73 : (mD 2 r mk [S ses, S sh, S ti, S no, S sg, .slice ac n cc, .int .i64 life, .int .i64 age, .bool psk, .bool false])[73]? = some (.bool psk) := mD_73
  have g74 : (mD 2 r mk [S ses, S sh, S ti, S no, S sg, .slice ac n cc, .int .i64 life, .int .i64 age, .bool psk, .bool false])[74]? = some (.bool false) := mD_74
  have gR : sub (mD 2 r mk [S ses, S sh, S ti, S no, S sg, .slice ac n cc, .int .i64 life, .int .i64 age, .bool psk, .bool false]) 1 32 = AB (fx r) := mD_R
  have gz : 1 + 32 ≤ (mD 2 r mk [S ses, S sh, S ti, S no, S sg, .slice ac n cc, .int .i64 life, .int .i64 age, .bool psk, .bool false]).size := by rw [mD_sz]; decide
  have hrd := hr.drew
  have hr2d := hr2.drew
  (refine wp_region_freeD 44 [] [] shp (phi _ []) (by kernel_rfl) (by kernel_rfl) (by kernel_rfl) (phi_stab _ _) (phi_shp _ _) shp_inh ?_; simp only [List.take_succ_cons, List.take_zero, List.drop_succ_cons, List.drop_zero]; apply Exists.intro; apply Exists.intro; refine ⟨?_, ?_, ?_⟩)
  · intro ν hν
    (apply wpF_q rfl; focus (intro C hC hG; go_big_quiet_want; apply qf_loadR _ rfl _ rfl; (exact hC); assumption; (exact mD_sz); (simp only [Act.put, lS]; go_big_quiet_on); exact wpQuiet_nil rfl))
    (apply wpF_q rfl; focus (intro C hC hG; go_big_quiet_want; apply qf_call; (exact hC); (exact hG); (exact (fun w' _ _ => HBARE.out w')); (focus (intro w; simp [go_sem]; done)); (simp only [Act.put, lS]; go_big_quiet_on); exact wpQuiet_nil rfl))
    iterate 42 (apply wpF_q rfl; focus (intro C hC hG; (first | go_big_quiet_skip | (go_big_quiet_want; go_big_quiet_op; first | go_big_quiet_on | (refine ⟨_, fun _ _ => rfl, ?_⟩; go_big_quiet_on)) | (go_big_quiet_want; apply qf_load1 _ _ rfl _ _ rfl; (exact hC); rotate_left 1; (focus (intro _; simp [go_sem]; done)); rotate_right 1; assumption; assumption; (simp only [Act.put, lS]; go_big_quiet_on)) | (go_big_quiet_want; apply qf_loadA _ _ rfl _ _ rfl (sz := 32); (exact hC); rotate_left 1; (focus (intro _; simp [go_sem]; done)); (focus (intro _; simp [go_sem]; done)); rotate_right 1; assumption; assumption; assumption; (simp only [Act.put, lS]; go_big_quiet_on))); exact wpQuiet_nil rfl))
    exact wpF_nil ⟨rfl, rfl⟩
  · intro ν ν'; kernel_rfl
  intro ν w1 hν hB1 hD
  have hr := Row.below hr.drew hB1 hr.lt
  have hr2 := Row.below hr2.drew hB1 hr2.lt
  have hB := Below.trans hB.drew (hB1.mono hB.drew.size)
  clear hD hν hB1
  try clear hrd
  try clear hr2d
  go_wp2_with fail
  go_ret2
  exact ⟨⟨[], rfl⟩, hB⟩
set_option maxRecDepth 100000 in
set_option maxHeartbeats 4000000 in
theorem refbody_2d2 (r mk ses sh ti no sg : List UInt8) (ac : Option Addr) (n cc : Nat) (life age : Int) (psk : Bool) (w : World) (hbv : bareB (fx zero32) (fx mk) (([] : List UInt8).length + ([] : List UInt8).length + ti.length + no.length + sg.length + n) life age false false = true) (hs : ses.length ≤ 32) (h65 : sh.length = 65) (ha : (fx r == hAgain) = true) :
    Calls Try.prog 25 #[.agg (mD 2 r mk [S ses, S sh, S ti, S no, S sg, .slice ac n cc, .int .i64 life, .int .i64 age, .bool psk, .bool false])] w fun e w' => (∃ s, e = .returned (.tuple #[S s, .bool false])) ∧ Below w.heap.size w w' := by
  have hbare : ∀ w, Calls Try.prog 42 #[.agg (mD 2 zero32 mk [S [], S [], S ti, S no, S sg, .slice ac n cc, .int .i64 life, .int .i64 age, .bool false, .bool false])] w fun e w' => e = .returned (.bool (bareB (fx zero32) (fx mk) (([] : List UInt8).length + ([] : List UInt8).length + ti.length + no.length + sg.length + n) life age false false)) ∧ Below w.heap.size w w' := fun w => refbareD _ _ _ _ _ _ _ _ _ _ _ _ _ _ _ w
  rw [hbv] at hbare
  have HBARE := Lib.hid hbare
  clear hbare hbv
  have x1 : ¬ (32 : Int) < (ses.length : Int) := by omega
  clear hs
  have y1 : ((sh.length : Int) == 65) = true := by simp; omega
  have y2 : (sh.length : Int) = 65 := by omega
  have y3 : ((sh.length : Int) != 65) = false := by simp; omega
  clear h65
  have he2 : ∀ w, (Op.equalIn 10000 22 (.agg (AB (fx r))) (.agg (AB hAgain))).run Try.prog w = .ok true w := fun w => by
    have := equal32 (fx r) hAgain (fx_len _) rfl w
    rw [ha] at this
    exact this
  clear ha
  go_enter Try.func25, Try.ntmps25
  go_upto_region 18 with (fail)
  refine gen_wp (fun w0 => Row w0 w.heap.size 25 (mD 2 r mk [S ses, S sh, S ti, S no, S sg, .slice ac n cc, .int .i64 life, .int .i64 age, .bool psk, .bool false]) ∧ Row w0 (w.heap.size + 1) 25 (mD 2 zero32 mk [S [], S [], S ti, S no, S sg, .slice ac n cc, .int .i64 life, .int .i64 age, .bool false, .bool false]) ∧ Below w.heap.size w w0) ⟨by show row _ _ = _; simp [go_sem], by show row _ _ = _; simp [go_sem], by (repeat (first | (with_reducible exact Below.refl _ _) | ((with_reducible first | refine bSetRow ?_ ?_ _ | refine Below.alloc ?_ ?_ _ | refine Below.setCell ?_ ?_ _); rotate_left 1; (focus (first | (simp; done) | (simp; omega)))) | (with_reducible refine Below.drew ?_)))⟩ ?_
  rintro w0 ⟨hr, hr2, hB⟩
  have g65 : (mD 2 r mk [S ses, S sh, S ti, S no, S sg, .slice ac n cc, .int .i64 life, .int .i64 age, .bool psk, .bool false])[65]? = some (S ses) := mD_65
  have g66 : (mD 2 r mk [S ses, S sh, S ti, S no, S sg, .slice ac n cc, .int .i64 life, .int .i64 age, .bool psk, .bool false])[66]? = some (S sh) := mD_66
  have g73 : (mD 2 r mk [S ses, S sh, S ti, S no, S sg, .slice ac n cc, .int .i64 life, .int .i64 age, .bool psk, .bool false])[73]? = some (.bool psk) := mD_73
  have g74 : (mD 2 r mk [S ses, S sh, S ti, S no, S sg, .slice ac n cc, .int .i64 life, .int .i64 age, .bool psk, .bool false])[74]? = some (.bool false) := mD_74
  have gR : sub (mD 2 r mk [S ses, S sh, S ti, S no, S sg, .slice ac n cc, .int .i64 life, .int .i64 age, .bool psk, .bool false]) 1 32 = AB (fx r) := mD_R
  have gz : 1 + 32 ≤ (mD 2 r mk [S ses, S sh, S ti, S no, S sg, .slice ac n cc, .int .i64 life, .int .i64 age, .bool psk, .bool false]).size := by rw [mD_sz]; decide
  have hrd := hr.drew
  have hr2d := hr2.drew
  (refine wp_region_freeD 44 [] [] shp (phi _ []) (by kernel_rfl) (by kernel_rfl) (by kernel_rfl) (phi_stab _ _) (phi_shp _ _) shp_inh ?_; simp only [List.take_succ_cons, List.take_zero, List.drop_succ_cons, List.drop_zero]; apply Exists.intro; apply Exists.intro; refine ⟨?_, ?_, ?_⟩)
  · intro ν hν
    (apply wpF_q rfl; focus (intro C hC hG; go_big_quiet_want; apply qf_loadR _ rfl _ rfl; (exact hC); assumption; (exact mD_sz); (simp only [Act.put, lS]; go_big_quiet_on); exact wpQuiet_nil rfl))
    (apply wpF_q rfl; focus (intro C hC hG; go_big_quiet_want; apply qf_call; (exact hC); (exact hG); (exact (fun w' _ _ => HBARE.out w')); (focus (intro w; simp [go_sem]; done)); (simp only [Act.put, lS]; go_big_quiet_on); exact wpQuiet_nil rfl))
    iterate 38 (apply wpF_q rfl; focus (intro C hC hG; (first | go_big_quiet_skip | (go_big_quiet_want; go_big_quiet_op; first | go_big_quiet_on | (refine ⟨_, fun _ _ => rfl, ?_⟩; go_big_quiet_on)) | (go_big_quiet_want; apply qf_load1 _ _ rfl _ _ rfl; (exact hC); rotate_left 1; (focus (intro _; simp [go_sem]; done)); rotate_right 1; assumption; assumption; (simp only [Act.put, lS]; go_big_quiet_on)) | (go_big_quiet_want; apply qf_loadA _ _ rfl _ _ rfl (sz := 32); (exact hC); rotate_left 1; (focus (intro _; simp [go_sem]; done)); (focus (intro _; simp [go_sem]; done)); rotate_right 1; assumption; assumption; assumption; (simp only [Act.put, lS]; go_big_quiet_on))); exact wpQuiet_nil rfl))
    (apply wpF_q rfl; focus (intro C hC hG; go_big_quiet_want; apply qf_call; (exact hC); (exact hG); (exact (fun w' _ _ => special_any w')); (focus (intro w; simp [go_sem]; done)); (simp only [Act.put, lS]; go_big_quiet_on); exact wpQuiet_nil rfl))
    iterate 3 (apply wpF_q rfl; focus (intro C hC hG; (first | go_big_quiet_skip | (go_big_quiet_want; go_big_quiet_op; first | go_big_quiet_on | (refine ⟨_, fun _ _ => rfl, ?_⟩; go_big_quiet_on)) | (go_big_quiet_want; apply qf_load1 _ _ rfl _ _ rfl; (exact hC); rotate_left 1; (focus (intro _; simp [go_sem]; done)); rotate_right 1; assumption; assumption; (simp only [Act.put, lS]; go_big_quiet_on)) | (go_big_quiet_want; apply qf_loadA _ _ rfl _ _ rfl (sz := 32); (exact hC); rotate_left 1; (focus (intro _; simp [go_sem]; done)); (focus (intro _; simp [go_sem]; done)); rotate_right 1; assumption; assumption; assumption; (simp only [Act.put, lS]; go_big_quiet_on))); exact wpQuiet_nil rfl))
    exact wpF_nil ⟨rfl, rfl⟩
  · intro ν ν'; kernel_rfl
  intro ν w1 hν hB1 hD
  have hr := Row.below hr.drew hB1 hr.lt
  have hr2 := Row.below hr2.drew hB1 hr2.lt
  have hB := Below.trans hB.drew (hB1.mono hB.drew.size)
  clear hD hν hB1
  try clear hrd
  try clear hr2d
  go_wp2_with fail
  go_ret2
  exact ⟨⟨[], rfl⟩, hB⟩
end Go.Proofs.Ytnenoecmmelehaa
