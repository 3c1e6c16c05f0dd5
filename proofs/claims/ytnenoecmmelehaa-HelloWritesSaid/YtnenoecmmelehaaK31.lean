/- Part of the proof: HRefWrite. No conditions of its own. -/
import Derived.Below
import Derived.BigQuiet
import Derived.ChangeOld
import Derived.Deep.CutBlock
import Derived.Deep.DeepCutAuto
import Derived.Deep.Draws
import Derived.Deep.LoopGhost
import Derived.Deep.Quiet
import Derived.Deep.QuietTactic
import Derived.Deep.RegionLaw
import Derived.Great.BuildSlice
import Derived.Great.FillDense
import Derived.Laws.AppendOwn
import Derived.Laws.AppendOwnNone
import Derived.Laws.BytesArg
import Derived.Laws.Concat
import Derived.Laws.MakeOwn
import Derived.Lib.AppendZerosOnto
import Derived.Lib.BufferWrite
import Derived.Lib.Hide
import Derived.Lib.SlBytesConst
import Derived.OpenShut
import Derived.ProofKit
import Derived.ShutString
import Derived.StillTail
import Derived.Stop.BytesEq
import Derived.Test.YtnenoecmmelehaaProg
import Derived.WalkKit
import Derived.WalkLawsBesides
import Derived.WalkSpells
import Derived.Test.YtnenoecmmelehaaK21
import Derived.Test.YtnenoecmmelehaaK30
namespace Go.Proofs.Ytnenoecmmelehaa
open Go.RowKit
set_option linter.unusedVariables false
set_option linter.unusedSimpArgs false

set_option maxRecDepth 100000 in
set_option maxHeartbeats 4000000 in
theorem refwrite_1 (r mk b : List UInt8) (v0 v1 v2 v3 v4 v5 v6 v7 v8 v9 : Value) (w : World) (hl : b.length < 1000000)
    (hbody : ∀ W, Below w.heap.size w W → Calls Try.prog 25 #[.agg (mD 1 r mk [v0, v1, v2, v3, v4, v5, v6, v7, v8, v9])] W fun e w' => e = .returned (.tuple #[S b, .bool true]) ∧ Below W.heap.size W w') :
    Calls Try.prog 12 #[.agg (mD 1 r mk [v0, v1, v2, v3, v4, v5, v6, v7, v8, v9])] w fun e w' => e = .returned (.tuple #[S ([1] ++ vecB b 3), .int .i64 0]) ∧ Below w.heap.size w w' := by
  have HBO := Lib.hid hbody
  have HL := Lib.hid hl
  clear hbody hl
  go_enter Try.func12, Try.ntmps12
  go_wp2_with fail
  refine (HBO.out _ (by (repeat (first | (with_reducible exact Below.refl _ _) | ((with_reducible first | refine bSetRow ?_ ?_ _ | refine Below.alloc ?_ ?_ _ | refine Below.setCell ?_ ?_ _); rotate_left 1; (focus (first | (simp; done) | (simp; omega)))) | (with_reducible refine Below.drew ?_))))).mono ?_
  rintro e w0 ⟨rfl, hb0⟩
  have hr : Row w0 w.heap.size 25 (mD 1 r mk [v0, v1, v2, v3, v4, v5, v6, v7, v8, v9]) := (Row.new w 25 (mD 1 r mk [v0, v1, v2, v3, v4, v5, v6, v7, v8, v9])).below hb0 (Row.new w 25 (mD 1 r mk [v0, v1, v2, v3, v4, v5, v6, v7, v8, v9])).lt
  have hB : Below w.heap.size w w0 := Below.trans (by (repeat (first | (with_reducible exact Below.refl _ _) | ((with_reducible first | refine bSetRow ?_ ?_ _ | refine Below.alloc ?_ ?_ _ | refine Below.setCell ?_ ?_ _); rotate_left 1; (focus (first | (simp; done) | (simp; omega)))) | (with_reducible refine Below.drew ?_)))) (hb0.mono (by simp))
  clear hb0
  go_upto_region 4 with (fail)
  have hrd := hr.drew
  have g0 : (mD 1 r mk [v0, v1, v2, v3, v4, v5, v6, v7, v8, v9])[0]? = some (.int .i64 1) := mD_0
  (refine wp_region_freeD 8 [16] [] shp (phi _ [(16, .cst [1])]) (by kernel_rfl) (by kernel_rfl) (by kernel_rfl) (phi_stab _ _) (phi_shp _ _) shp_inh ?_; simp only [List.take_succ_cons, List.take_zero, List.drop_succ_cons, List.drop_zero]; apply Exists.intro; apply Exists.intro; refine ⟨?_, ?_, ?_⟩)
  · intro ν hν
    have HL' := HL.out
    iterate 3 (apply wpF_q rfl; focus (intro C hC hG; (first | go_big_quiet_skip | (go_big_quiet_want; go_big_quiet_op; first | go_big_quiet_on | (refine ⟨_, fun _ _ => rfl, ?_⟩; go_big_quiet_on)) | (go_big_quiet_want; apply qf_load1 _ _ rfl _ _ rfl; (exact hC); rotate_left 1; (focus (intro _; simp [go_sem]; done)); rotate_right 1; assumption; assumption; (simp only [Act.put, lS]; go_big_quiet_on)) | (go_big_quiet_want; apply qf_loadA _ _ rfl _ _ rfl (sz := 32); (exact hC); rotate_left 1; (focus (intro _; simp [go_sem]; done)); (focus (intro _; simp [go_sem]; done)); rotate_right 1; assumption; assumption; assumption; (simp only [Act.put, lS]; go_big_quiet_on))); exact wpQuiet_nil rfl))
    (refine wpF_cst [1] _ rfl (by rfl) (by decide) (by decide) rfl rfl (fun d hd => by cases hd; rfl) ?_; (simp only [Act.put, vqF, pS]))
    (apply wpF_q rfl; focus (intro C hC hG; go_big_quiet_want; apply qf_conv; (focus rfl); (exact hC); (focus rfl); (exact Try.underlying27); (exact Try.underlying5); (exact Try.underlying9); (exact (fun w hB hd => by obtain ⟨g, f, e, _, hb, hh⟩ := hd 16 (by simp) rfl; rw [e]; exact SlB.rowAt hh rfl hb)); (simp only [Act.put, lS]; go_big_quiet_on); exact wpQuiet_nil rfl))
    (apply wpF_q rfl; focus (intro C hC hG; (first | go_big_quiet_skip | (go_big_quiet_want; go_big_quiet_op; first | go_big_quiet_on | (refine ⟨_, fun _ _ => rfl, ?_⟩; go_big_quiet_on)) | (go_big_quiet_want; apply qf_load1 _ _ rfl _ _ rfl; (exact hC); rotate_left 1; (focus (intro _; simp [go_sem]; done)); rotate_right 1; assumption; assumption; (simp only [Act.put, lS]; go_big_quiet_on)) | (go_big_quiet_want; apply qf_loadA _ _ rfl _ _ rfl (sz := 32); (exact hC); rotate_left 1; (focus (intro _; simp [go_sem]; done)); (focus (intro _; simp [go_sem]; done)); rotate_right 1; assumption; assumption; assumption; (simp only [Act.put, lS]; go_big_quiet_on))); exact wpQuiet_nil rfl))
    (apply wpF_q rfl; focus (intro C hC hG; go_big_quiet_want; apply qf_call; (exact hC); (exact hG); (exact (fun w' _ _ => refvec_any b 3 w' HL.out (by decide))); (focus (intro w; simp [go_sem]; done)); (simp only [Act.put, lS]; go_big_quiet_on); exact wpQuiet_nil rfl))
    (apply wpF_q rfl; focus (intro C hC hG; go_big_quiet_want; apply qf_add [1] (vecB b 3) _ _ _ rfl rfl rfl; (focus (first | decide | (simp only [List.length_append, List.length_nil, List.length_cons, vecB_len, numB_len, fx_len, hLS]; omega))); (simp only [Act.put, lS]; go_big_quiet_on); exact wpQuiet_nil rfl))
    exact wpF_nil ⟨rfl, rfl⟩
  · intro ν ν'; kernel_rfl
  intro ν w1 hν hB1 hD
  have HB := Lib.hid (Below.trans hB.drew (hB1.mono hB.drew.size))
  obtain ⟨Y, hY⟩ : ∃ Y, Y = [(1 : UInt8)] ++ vecB b 3 := ⟨_, rfl⟩
  rw [← hY]
  have HY := Lib.hid hY
  clear hY hD hν hB1 hr hB g0
  go_wp2_with fail
  go_ret2
  exact ⟨congrArg (fun s => Ending.returned (Value.tuple #[S s, Value.int .i64 0])) (by rw [HY.out]; first | done | simp), HB.out⟩
set_option maxRecDepth 100000 in
set_option maxHeartbeats 4000000 in
theorem refwrite_2 (r mk b : List UInt8) (v0 v1 v2 v3 v4 v5 v6 v7 v8 v9 : Value) (w : World) (hl : b.length < 1000000)
    (hbody : ∀ W, Below w.heap.size w W → Calls Try.prog 25 #[.agg (mD 2 r mk [v0, v1, v2, v3, v4, v5, v6, v7, v8, v9])] W fun e w' => e = .returned (.tuple #[S b, .bool true]) ∧ Below W.heap.size W w') :
    Calls Try.prog 12 #[.agg (mD 2 r mk [v0, v1, v2, v3, v4, v5, v6, v7, v8, v9])] w fun e w' => e = .returned (.tuple #[S ([2] ++ vecB b 3), .int .i64 0]) ∧ Below w.heap.size w w' := by
  have HBO := Lib.hid hbody
  have HL := Lib.hid hl
  clear hbody hl
  go_enter Try.func12, Try.ntmps12
  go_wp2_with fail
  refine (HBO.out _ (by (repeat (first | (with_reducible exact Below.refl _ _) | ((with_reducible first | refine bSetRow ?_ ?_ _ | refine Below.alloc ?_ ?_ _ | refine Below.setCell ?_ ?_ _); rotate_left 1; (focus (first | (simp; done) | (simp; omega)))) | (with_reducible refine Below.drew ?_))))).mono ?_
  rintro e w0 ⟨rfl, hb0⟩
  have hr : Row w0 w.heap.size 25 (mD 2 r mk [v0, v1, v2, v3, v4, v5, v6, v7, v8, v9]) := (Row.new w 25 (mD 2 r mk [v0, v1, v2, v3, v4, v5, v6, v7, v8, v9])).below hb0 (Row.new w 25 (mD 2 r mk [v0, v1, v2, v3, v4, v5, v6, v7, v8, v9])).lt
  have hB : Below w.heap.size w w0 := Below.trans (by (repeat (first | (with_reducible exact Below.refl _ _) | ((with_reducible first | refine bSetRow ?_ ?_ _ | refine Below.alloc ?_ ?_ _ | refine Below.setCell ?_ ?_ _); rotate_left 1; (focus (first | (simp; done) | (simp; omega)))) | (with_reducible refine Below.drew ?_)))) (hb0.mono (by simp))
  clear hb0
  go_upto_region 4 with (fail)
  have hrd := hr.drew
  have g0 : (mD 2 r mk [v0, v1, v2, v3, v4, v5, v6, v7, v8, v9])[0]? = some (.int .i64 2) := mD_0
  (refine wp_region_freeD 8 [16] [] shp (phi _ [(16, .cst [2])]) (by kernel_rfl) (by kernel_rfl) (by kernel_rfl) (phi_stab _ _) (phi_shp _ _) shp_inh ?_; simp only [List.take_succ_cons, List.take_zero, List.drop_succ_cons, List.drop_zero]; apply Exists.intro; apply Exists.intro; refine ⟨?_, ?_, ?_⟩)
  · intro ν hν
    have HL' := HL.out
    iterate 3 (apply wpF_q rfl; focus (intro C hC hG; (first | go_big_quiet_skip | (go_big_quiet_want; go_big_quiet_op; first | go_big_quiet_on | (refine ⟨_, fun _ _ => rfl, ?_⟩; go_big_quiet_on)) | (go_big_quiet_want; apply qf_load1 _ _ rfl _ _ rfl; (exact hC); rotate_left 1; (focus (intro _; simp [go_sem]; done)); rotate_right 1; assumption; assumption; (simp only [Act.put, lS]; go_big_quiet_on)) | (go_big_quiet_want; apply qf_loadA _ _ rfl _ _ rfl (sz := 32); (exact hC); rotate_left 1; (focus (intro _; simp [go_sem]; done)); (focus (intro _; simp [go_sem]; done)); rotate_right 1; assumption; assumption; assumption; (simp only [Act.put, lS]; go_big_quiet_on))); exact wpQuiet_nil rfl))
    (refine wpF_cst [2] _ rfl (by rfl) (by decide) (by decide) rfl rfl (fun d hd => by cases hd; rfl) ?_; (simp only [Act.put, vqF, pS]))
    (apply wpF_q rfl; focus (intro C hC hG; go_big_quiet_want; apply qf_conv; (focus rfl); (exact hC); (focus rfl); (exact Try.underlying27); (exact Try.underlying5); (exact Try.underlying9); (exact (fun w hB hd => by obtain ⟨g, f, e, _, hb, hh⟩ := hd 16 (by simp) rfl; rw [e]; exact SlB.rowAt hh rfl hb)); (simp only [Act.put, lS]; go_big_quiet_on); exact wpQuiet_nil rfl))
    (apply wpF_q rfl; focus (intro C hC hG; (first | go_big_quiet_skip | (go_big_quiet_want; go_big_quiet_op; first | go_big_quiet_on | (refine ⟨_, fun _ _ => rfl, ?_⟩; go_big_quiet_on)) | (go_big_quiet_want; apply qf_load1 _ _ rfl _ _ rfl; (exact hC); rotate_left 1; (focus (intro _; simp [go_sem]; done)); rotate_right 1; assumption; assumption; (simp only [Act.put, lS]; go_big_quiet_on)) | (go_big_quiet_want; apply qf_loadA _ _ rfl _ _ rfl (sz := 32); (exact hC); rotate_left 1; (focus (intro _; simp [go_sem]; done)); (focus (intro _; simp [go_sem]; done)); rotate_right 1; assumption; assumption; assumption; (simp only [Act.put, lS]; go_big_quiet_on))); exact wpQuiet_nil rfl))
    (apply wpF_q rfl; focus (intro C hC hG; go_big_quiet_want; apply qf_call; (exact hC); (exact hG); (exact (fun w' _ _ => refvec_any b 3 w' HL.out (by decide))); (focus (intro w; simp [go_sem]; done)); (simp only [Act.put, lS]; go_big_quiet_on); exact wpQuiet_nil rfl))
    (apply wpF_q rfl; focus (intro C hC hG; go_big_quiet_want; apply qf_add [2] (vecB b 3) _ _ _ rfl rfl rfl; (focus (first | decide | (simp only [List.length_append, List.length_nil, List.length_cons, vecB_len, numB_len, fx_len, hLS]; omega))); (simp only [Act.put, lS]; go_big_quiet_on); exact wpQuiet_nil rfl))
    exact wpF_nil ⟨rfl, rfl⟩
  · intro ν ν'; kernel_rfl
  intro ν w1 hν hB1 hD
  have HB := Lib.hid (Below.trans hB.drew (hB1.mono hB.drew.size))
  obtain ⟨Y, hY⟩ : ∃ Y, Y = [(2 : UInt8)] ++ vecB b 3 := ⟨_, rfl⟩
  rw [← hY]
  have HY := Lib.hid hY
  clear hY hD hν hB1 hr hB g0
  go_wp2_with fail
  go_ret2
  exact ⟨congrArg (fun s => Ending.returned (Value.tuple #[S s, Value.int .i64 0])) (by rw [HY.out]; first | done | simp), HB.out⟩
set_option maxRecDepth 100000 in
set_option maxHeartbeats 4000000 in
theorem refwrite_4 (r mk b : List UInt8) (v0 v1 v2 v3 v4 v5 v6 v7 v8 v9 : Value) (w : World) (hl : b.length < 1000000)
    (hbody : ∀ W, Below w.heap.size w W → Calls Try.prog 25 #[.agg (mD 4 r mk [v0, v1, v2, v3, v4, v5, v6, v7, v8, v9])] W fun e w' => e = .returned (.tuple #[S b, .bool true]) ∧ Below W.heap.size W w') :
    Calls Try.prog 12 #[.agg (mD 4 r mk [v0, v1, v2, v3, v4, v5, v6, v7, v8, v9])] w fun e w' => e = .returned (.tuple #[S ([4] ++ vecB b 3), .int .i64 0]) ∧ Below w.heap.size w w' := by
  have HBO := Lib.hid hbody
  have HL := Lib.hid hl
  clear hbody hl
  go_enter Try.func12, Try.ntmps12
  go_wp2_with fail
  refine (HBO.out _ (by (repeat (first | (with_reducible exact Below.refl _ _) | ((with_reducible first | refine bSetRow ?_ ?_ _ | refine Below.alloc ?_ ?_ _ | refine Below.setCell ?_ ?_ _); rotate_left 1; (focus (first | (simp; done) | (simp; omega)))) | (with_reducible refine Below.drew ?_))))).mono ?_
  rintro e w0 ⟨rfl, hb0⟩
  have hr : Row w0 w.heap.size 25 (mD 4 r mk [v0, v1, v2, v3, v4, v5, v6, v7, v8, v9]) := (Row.new w 25 (mD 4 r mk [v0, v1, v2, v3, v4, v5, v6, v7, v8, v9])).below hb0 (Row.new w 25 (mD 4 r mk [v0, v1, v2, v3, v4, v5, v6, v7, v8, v9])).lt
  have hB : Below w.heap.size w w0 := Below.trans (by (repeat (first | (with_reducible exact Below.refl _ _) | ((with_reducible first | refine bSetRow ?_ ?_ _ | refine Below.alloc ?_ ?_ _ | refine Below.setCell ?_ ?_ _); rotate_left 1; (focus (first | (simp; done) | (simp; omega)))) | (with_reducible refine Below.drew ?_)))) (hb0.mono (by simp))
  clear hb0
  go_upto_region 4 with (fail)
  have hrd := hr.drew
  have g0 : (mD 4 r mk [v0, v1, v2, v3, v4, v5, v6, v7, v8, v9])[0]? = some (.int .i64 4) := mD_0
  (refine wp_region_freeD 8 [16] [] shp (phi _ [(16, .cst [4])]) (by kernel_rfl) (by kernel_rfl) (by kernel_rfl) (phi_stab _ _) (phi_shp _ _) shp_inh ?_; simp only [List.take_succ_cons, List.take_zero, List.drop_succ_cons, List.drop_zero]; apply Exists.intro; apply Exists.intro; refine ⟨?_, ?_, ?_⟩)
  · intro ν hν
    have HL' := HL.out
    iterate 3 (apply wpF_q rfl; focus (intro C hC hG; (first | go_big_quiet_skip | (go_big_quiet_want; go_big_quiet_op; first | go_big_quiet_on | (refine ⟨_, fun _ _ => rfl, ?_⟩; go_big_quiet_on)) | (go_big_quiet_want; apply qf_load1 _ _ rfl _ _ rfl; (exact hC); rotate_left 1; (focus (intro _; simp [go_sem]; done)); rotate_right 1; assumption; assumption; (simp only [Act.put, lS]; go_big_quiet_on)) | (go_big_quiet_want; apply qf_loadA _ _ rfl _ _ rfl (sz := 32); (exact hC); rotate_left 1; (focus (intro _; simp [go_sem]; done)); (focus (intro _; simp [go_sem]; done)); rotate_right 1; assumption; assumption; assumption; (simp only [Act.put, lS]; go_big_quiet_on))); exact wpQuiet_nil rfl))
    (refine wpF_cst [4] _ rfl (by rfl) (by decide) (by decide) rfl rfl (fun d hd => by cases hd; rfl) ?_; (simp only [Act.put, vqF, pS]))
    (apply wpF_q rfl; focus (intro C hC hG; go_big_quiet_want; apply qf_conv; (focus rfl); (exact hC); (focus rfl); (exact Try.underlying27); (exact Try.underlying5); (exact Try.underlying9); (exact (fun w hB hd => by obtain ⟨g, f, e, _, hb, hh⟩ := hd 16 (by simp) rfl; rw [e]; exact SlB.rowAt hh rfl hb)); (simp only [Act.put, lS]; go_big_quiet_on); exact wpQuiet_nil rfl))
    (apply wpF_q rfl; focus (intro C hC hG; (first | go_big_quiet_skip | (go_big_quiet_want; go_big_quiet_op; first | go_big_quiet_on | (refine ⟨_, fun _ _ => rfl, ?_⟩; go_big_quiet_on)) | (go_big_quiet_want; apply qf_load1 _ _ rfl _ _ rfl; (exact hC); rotate_left 1; (focus (intro _; simp [go_sem]; done)); rotate_right 1; assumption; assumption; (simp only [Act.put, lS]; go_big_quiet_on)) | (go_big_quiet_want; apply qf_loadA _ _ rfl _ _ rfl (sz := 32); (exact hC); rotate_left 1; (focus (intro _; simp [go_sem]; done)); (focus (intro _; simp [go_sem]; done)); rotate_right 1; assumption; assumption; assumption; (simp only [Act.put, lS]; go_big_quiet_on))); exact wpQuiet_nil rfl))
    (apply wpF_q rfl; focus (intro C hC hG; go_big_quiet_want; apply qf_call; (exact hC); (exact hG); (exact (fun w' _ _ => refvec_any b 3 w' HL.out (by decide))); (focus (intro w; simp [go_sem]; done)); (simp only [Act.put, lS]; go_big_quiet_on); exact wpQuiet_nil rfl))
    (apply wpF_q rfl; focus (intro C hC hG; go_big_quiet_want; apply qf_add [4] (vecB b 3) _ _ _ rfl rfl rfl; (focus (first | decide | (simp only [List.length_append, List.length_nil, List.length_cons, vecB_len, numB_len, fx_len, hLS]; omega))); (simp only [Act.put, lS]; go_big_quiet_on); exact wpQuiet_nil rfl))
    exact wpF_nil ⟨rfl, rfl⟩
  · intro ν ν'; kernel_rfl
  intro ν w1 hν hB1 hD
  have HB := Lib.hid (Below.trans hB.drew (hB1.mono hB.drew.size))
  obtain ⟨Y, hY⟩ : ∃ Y, Y = [(4 : UInt8)] ++ vecB b 3 := ⟨_, rfl⟩
  rw [← hY]
  have HY := Lib.hid hY
  clear hY hD hν hB1 hr hB g0
  go_wp2_with fail
  go_ret2
  exact ⟨congrArg (fun s => Ending.returned (Value.tuple #[S s, Value.int .i64 0])) (by rw [HY.out]; first | done | simp), HB.out⟩
set_option maxRecDepth 100000 in
set_option maxHeartbeats 4000000 in
theorem refwrite_8 (r mk b : List UInt8) (v0 v1 v2 v3 v4 v5 v6 v7 v8 v9 : Value) (w : World) (hl : b.length < 1000000)
    (hbody : ∀ W, Below w.heap.size w W → Calls Try.prog 25 #[.agg (mD 8 r mk [v0, v1, v2, v3, v4, v5, v6, v7, v8, v9])] W fun e w' => e = .returned (.tuple #[S b, .bool true]) ∧ Below W.heap.size W w') :
    Calls Try.prog 12 #[.agg (mD 8 r mk [v0, v1, v2, v3, v4, v5, v6, v7, v8, v9])] w fun e w' => e = .returned (.tuple #[S ([8] ++ vecB b 3), .int .i64 0]) ∧ Below w.heap.size w w' := by
  have HBO := Lib.hid hbody
  have HL := Lib.hid hl
  clear hbody hl
  go_enter Try.func12, Try.ntmps12
  go_wp2_with fail
  refine (HBO.out _ (by (repeat (first | (with_reducible exact Below.refl _ _) | ((with_reducible first | refine bSetRow ?_ ?_ _ | refine Below.alloc ?_ ?_ _ | refine Below.setCell ?_ ?_ _); rotate_left 1; (focus (first | (simp; done) | (simp; omega)))) | (with_reducible refine Below.drew ?_))))).mono ?_
  rintro e w0 ⟨rfl, hb0⟩
  have hr : Row w0 w.heap.size 25 (mD 8 r mk [v0, v1, v2, v3, v4, v5, v6, v7, v8, v9]) := (Row.new w 25 (mD 8 r mk [v0, v1, v2, v3, v4, v5, v6, v7, v8, v9])).below hb0 (Row.new w 25 (mD 8 r mk [v0, v1, v2, v3, v4, v5, v6, v7, v8, v9])).lt
  have hB : Below w.heap.size w w0 := Below.trans (by (repeat (first | (with_reducible exact Below.refl _ _) | ((with_reducible first | refine bSetRow ?_ ?_ _ | refine Below.alloc ?_ ?_ _ | refine Below.setCell ?_ ?_ _); rotate_left 1; (focus (first | (simp; done) | (simp; omega)))) | (with_reducible refine Below.drew ?_)))) (hb0.mono (by simp))
  clear hb0
  go_upto_region 4 with (fail)
  have hrd := hr.drew
  have g0 : (mD 8 r mk [v0, v1, v2, v3, v4, v5, v6, v7, v8, v9])[0]? = some (.int .i64 8) := mD_0
  (refine wp_region_freeD 8 [16] [] shp (phi _ [(16, .cst [8])]) (by kernel_rfl) (by kernel_rfl) (by kernel_rfl) (phi_stab _ _) (phi_shp _ _) shp_inh ?_; simp only [List.take_succ_cons, List.take_zero, List.drop_succ_cons, List.drop_zero]; apply Exists.intro; apply Exists.intro; refine ⟨?_, ?_, ?_⟩)
  · intro ν hν
    have HL' := HL.out
    iterate 3 (apply wpF_q rfl; focus (intro C hC hG; (first | go_big_quiet_skip | (go_big_quiet_want; go_big_quiet_op; first | go_big_quiet_on | (refine ⟨_, fun _ _ => rfl, ?_⟩; go_big_quiet_on)) | (go_big_quiet_want; apply qf_load1 _ _ rfl _ _ rfl; (exact hC); rotate_left 1; (focus (intro _; simp [go_sem]; done)); rotate_right 1; assumption; assumption; (simp only [Act.put, lS]; go_big_quiet_on)) | (go_big_quiet_want; apply qf_loadA _ _ rfl _ _ rfl (sz := 32); (exact hC); rotate_left 1; (focus (intro _; simp [go_sem]; done)); (focus (intro _; simp [go_sem]; done)); rotate_right 1; assumption; assumption; assumption; (simp only [Act.put, lS]; go_big_quiet_on))); exact wpQuiet_nil rfl))
    (refine wpF_cst [8] _ rfl (by rfl) (by decide) (by decide) rfl rfl (fun d hd => by cases hd; rfl) ?_; (simp only [Act.put, vqF, pS]))
    (apply wpF_q rfl; focus (intro C hC hG; go_big_quiet_want; apply qf_conv; (focus rfl); (exact hC); (focus rfl); (exact Try.underlying27); (exact Try.underlying5); (exact Try.underlying9); (exact (fun w hB hd => by obtain ⟨g, f, e, _, hb, hh⟩ := hd 16 (by simp) rfl; rw [e]; exact SlB.rowAt hh rfl hb)); (simp only [Act.put, lS]; go_big_quiet_on); exact wpQuiet_nil rfl))
    (apply wpF_q rfl; focus (intro C hC hG; (first | go_big_quiet_skip | (go_big_quiet_want; go_big_quiet_op; first | go_big_quiet_on | (refine ⟨_, fun _ _ => rfl, ?_⟩; go_big_quiet_on)) | (go_big_quiet_want; apply qf_load1 _ _ rfl _ _ rfl; (exact hC); rotate_left 1; (focus (intro _; simp [go_sem]; done)); rotate_right 1; assumption; assumption; (simp only [Act.put, lS]; go_big_quiet_on)) | (go_big_quiet_want; apply qf_loadA _ _ rfl _ _ rfl (sz := 32); (exact hC); rotate_left 1; (focus (intro _; simp [go_sem]; done)); (focus (intro _; simp [go_sem]; done)); rotate_right 1; assumption; assumption; assumption; (simp only [Act.put, lS]; go_big_quiet_on))); exact wpQuiet_nil rfl))
    (apply wpF_q rfl; focus (intro C hC hG; go_big_quiet_want; apply qf_call; (exact hC); (exact hG); (exact (fun w' _ _ => refvec_any b 3 w' HL.out (by decide))); (focus (intro w; simp [go_sem]; done)); (simp only [Act.put, lS]; go_big_quiet_on); exact wpQuiet_nil rfl))
    (apply wpF_q rfl; focus (intro C hC hG; go_big_quiet_want; apply qf_add [8] (vecB b 3) _ _ _ rfl rfl rfl; (focus (first | decide | (simp only [List.length_append, List.length_nil, List.length_cons, vecB_len, numB_len, fx_len, hLS]; omega))); (simp only [Act.put, lS]; go_big_quiet_on); exact wpQuiet_nil rfl))
    exact wpF_nil ⟨rfl, rfl⟩
  · intro ν ν'; kernel_rfl
  intro ν w1 hν hB1 hD
  have HB := Lib.hid (Below.trans hB.drew (hB1.mono hB.drew.size))
  obtain ⟨Y, hY⟩ : ∃ Y, Y = [(8 : UInt8)] ++ vecB b 3 := ⟨_, rfl⟩
  rw [← hY]
  have HY := Lib.hid hY
  clear hY hD hν hB1 hr hB g0
  go_wp2_with fail
  go_ret2
  exact ⟨congrArg (fun s => Ending.returned (Value.tuple #[S s, Value.int .i64 0])) (by rw [HY.out]; first | done | simp), HB.out⟩
set_option maxRecDepth 100000 in
set_option maxHeartbeats 4000000 in
theorem refwrite_11 (r mk b : List UInt8) (v0 v1 v2 v3 v4 v5 v6 v7 v8 v9 : Value) (w : World) (hl : b.length < 1000000)
    (hbody : ∀ W, Below w.heap.size w W → Calls Try.prog 25 #[.agg (mD 11 r mk [v0, v1, v2, v3, v4, v5, v6, v7, v8, v9])] W fun e w' => e = .returned (.tuple #[S b, .bool true]) ∧ Below W.heap.size W w') :
    Calls Try.prog 12 #[.agg (mD 11 r mk [v0, v1, v2, v3, v4, v5, v6, v7, v8, v9])] w fun e w' => e = .returned (.tuple #[S ([11] ++ vecB b 3), .int .i64 0]) ∧ Below w.heap.size w w' := by
  have HBO := Lib.hid hbody
  have HL := Lib.hid hl
  clear hbody hl
  go_enter Try.func12, Try.ntmps12
  go_wp2_with fail
  refine (HBO.out _ (by (repeat (first | (with_reducible exact Below.refl _ _) | ((with_reducible first | refine bSetRow ?_ ?_ _ | refine Below.alloc ?_ ?_ _ | refine Below.setCell ?_ ?_ _); rotate_left 1; (focus (first | (simp; done) | (simp; omega)))) | (with_reducible refine Below.drew ?_))))).mono ?_
  rintro e w0 ⟨rfl, hb0⟩
  have hr : Row w0 w.heap.size 25 (mD 11 r mk [v0, v1, v2, v3, v4, v5, v6, v7, v8, v9]) := (Row.new w 25 (mD 11 r mk [v0, v1, v2, v3, v4, v5, v6, v7, v8, v9])).below hb0 (Row.new w 25 (mD 11 r mk [v0, v1, v2, v3, v4, v5, v6, v7, v8, v9])).lt
  have hB : Below w.heap.size w w0 := Below.trans (by (repeat (first | (with_reducible exact Below.refl _ _) | ((with_reducible first | refine bSetRow ?_ ?_ _ | refine Below.alloc ?_ ?_ _ | refine Below.setCell ?_ ?_ _); rotate_left 1; (focus (first | (simp; done) | (simp; omega)))) | (with_reducible refine Below.drew ?_)))) (hb0.mono (by simp))
  clear hb0
  go_upto_region 4 with (fail)
  have hrd := hr.drew
  have g0 : (mD 11 r mk [v0, v1, v2, v3, v4, v5, v6, v7, v8, v9])[0]? = some (.int .i64 11) := mD_0
  (refine wp_region_freeD 8 [16] [] shp (phi _ [(16, .cst [11])]) (by kernel_rfl) (by kernel_rfl) (by kernel_rfl) (phi_stab _ _) (phi_shp _ _) shp_inh ?_; simp only [List.take_succ_cons, List.take_zero, List.drop_succ_cons, List.drop_zero]; apply Exists.intro; apply Exists.intro; refine ⟨?_, ?_, ?_⟩)
  · intro ν hν
    have HL' := HL.out
    iterate 3 (apply wpF_q rfl; focus (intro C hC hG; (first | go_big_quiet_skip | (go_big_quiet_want; go_big_quiet_op; first | go_big_quiet_on | (refine ⟨_, fun _ _ => rfl, ?_⟩; go_big_quiet_on)) | (go_big_quiet_want; apply qf_load1 _ _ rfl _ _ rfl; (exact hC); rotate_left 1; (focus (intro _; simp [go_sem]; done)); rotate_right 1; assumption; assumption; (simp only [Act.put, lS]; go_big_quiet_on)) | (go_big_quiet_want; apply qf_loadA _ _ rfl _ _ rfl (sz := 32); (exact hC); rotate_left 1; (focus (intro _; simp [go_sem]; done)); (focus (intro _; simp [go_sem]; done)); rotate_right 1; assumption; assumption; assumption; (simp only [Act.put, lS]; go_big_quiet_on))); exact wpQuiet_nil rfl))
    (refine wpF_cst [11] _ rfl (by rfl) (by decide) (by decide) rfl rfl (fun d hd => by cases hd; rfl) ?_; (simp only [Act.put, vqF, pS]))
    (apply wpF_q rfl; focus (intro C hC hG; go_big_quiet_want; apply qf_conv; (focus rfl); (exact hC); (focus rfl); (exact Try.underlying27); (exact Try.underlying5); (exact Try.underlying9); (exact (fun w hB hd => by obtain ⟨g, f, e, _, hb, hh⟩ := hd 16 (by simp) rfl; rw [e]; exact SlB.rowAt hh rfl hb)); (simp only [Act.put, lS]; go_big_quiet_on); exact wpQuiet_nil rfl))
    (apply wpF_q rfl; focus (intro C hC hG; (first | go_big_quiet_skip | (go_big_quiet_want; go_big_quiet_op; first | go_big_quiet_on | (refine ⟨_, fun _ _ => rfl, ?_⟩; go_big_quiet_on)) | (go_big_quiet_want; apply qf_load1 _ _ rfl _ _ rfl; (exact hC); rotate_left 1; (focus (intro _; simp [go_sem]; done)); rotate_right 1; assumption; assumption; (simp only [Act.put, lS]; go_big_quiet_on)) | (go_big_quiet_want; apply qf_loadA _ _ rfl _ _ rfl (sz := 32); (exact hC); rotate_left 1; (focus (intro _; simp [go_sem]; done)); (focus (intro _; simp [go_sem]; done)); rotate_right 1; assumption; assumption; assumption; (simp only [Act.put, lS]; go_big_quiet_on))); exact wpQuiet_nil rfl))
    (apply wpF_q rfl; focus (intro C hC hG; go_big_quiet_want; apply qf_call; (exact hC); (exact hG); (exact (fun w' _ _ => refvec_any b 3 w' HL.out (by decide))); (focus (intro w; simp [go_sem]; done)); (simp only [Act.put, lS]; go_big_quiet_on); exact wpQuiet_nil rfl))
    (apply wpF_q rfl; focus (intro C hC hG; go_big_quiet_want; apply qf_add [11] (vecB b 3) _ _ _ rfl rfl rfl; (focus (first | decide | (simp only [List.length_append, List.length_nil, List.length_cons, vecB_len, numB_len, fx_len, hLS]; omega))); (simp only [Act.put, lS]; go_big_quiet_on); exact wpQuiet_nil rfl))
    exact wpF_nil ⟨rfl, rfl⟩
  · intro ν ν'; kernel_rfl
  intro ν w1 hν hB1 hD
  have HB := Lib.hid (Below.trans hB.drew (hB1.mono hB.drew.size))
  obtain ⟨Y, hY⟩ : ∃ Y, Y = [(11 : UInt8)] ++ vecB b 3 := ⟨_, rfl⟩
  rw [← hY]
  have HY := Lib.hid hY
  clear hY hD hν hB1 hr hB g0
  go_wp2_with fail
  go_ret2
  exact ⟨congrArg (fun s => Ending.returned (Value.tuple #[S s, Value.int .i64 0])) (by rw [HY.out]; first | done | simp), HB.out⟩
set_option maxRecDepth 100000 in
set_option maxHeartbeats 4000000 in
theorem refwrite_13 (r mk b : List UInt8) (v0 v1 v2 v3 v4 v5 v6 v7 v8 v9 : Value) (w : World) (hl : b.length < 1000000)
    (hbody : ∀ W, Below w.heap.size w W → Calls Try.prog 25 #[.agg (mD 13 r mk [v0, v1, v2, v3, v4, v5, v6, v7, v8, v9])] W fun e w' => e = .returned (.tuple #[S b, .bool true]) ∧ Below W.heap.size W w') :
    Calls Try.prog 12 #[.agg (mD 13 r mk [v0, v1, v2, v3, v4, v5, v6, v7, v8, v9])] w fun e w' => e = .returned (.tuple #[S ([13] ++ vecB b 3), .int .i64 0]) ∧ Below w.heap.size w w' := by
  have HBO := Lib.hid hbody
  have HL := Lib.hid hl
  clear hbody hl
  go_enter Try.func12, Try.ntmps12
  go_wp2_with fail
  refine (HBO.out _ (by (repeat (first | (with_reducible exact Below.refl _ _) | ((with_reducible first | refine bSetRow ?_ ?_ _ | refine Below.alloc ?_ ?_ _ | refine Below.setCell ?_ ?_ _); rotate_left 1; (focus (first | (simp; done) | (simp; omega)))) | (with_reducible refine Below.drew ?_))))).mono ?_
  rintro e w0 ⟨rfl, hb0⟩
  have hr : Row w0 w.heap.size 25 (mD 13 r mk [v0, v1, v2, v3, v4, v5, v6, v7, v8, v9]) := (Row.new w 25 (mD 13 r mk [v0, v1, v2, v3, v4, v5, v6, v7, v8, v9])).below hb0 (Row.new w 25 (mD 13 r mk [v0, v1, v2, v3, v4, v5, v6, v7, v8, v9])).lt
  have hB : Below w.heap.size w w0 := Below.trans (by (repeat (first | (with_reducible exact Below.refl _ _) | ((with_reducible first | refine bSetRow ?_ ?_ _ | refine Below.alloc ?_ ?_ _ | refine Below.setCell ?_ ?_ _); rotate_left 1; (focus (first | (simp; done) | (simp; omega)))) | (with_reducible refine Below.drew ?_)))) (hb0.mono (by simp))
  clear hb0
  go_upto_region 4 with (fail)
  have hrd := hr.drew
  have g0 : (mD 13 r mk [v0, v1, v2, v3, v4, v5, v6, v7, v8, v9])[0]? = some (.int .i64 13) := mD_0
  (refine wp_region_freeD 8 [16] [] shp (phi _ [(16, .cst [13])]) (by kernel_rfl) (by kernel_rfl) (by kernel_rfl) (phi_stab _ _) (phi_shp _ _) shp_inh ?_; simp only [List.take_succ_cons, List.take_zero, List.drop_succ_cons, List.drop_zero]; apply Exists.intro; apply Exists.intro; refine ⟨?_, ?_, ?_⟩)
  · intro ν hν
    have HL' := HL.out
    iterate 3 (apply wpF_q rfl; focus (intro C hC hG; (first | go_big_quiet_skip | (go_big_quiet_want; go_big_quiet_op; first | go_big_quiet_on | (refine ⟨_, fun _ _ => rfl, ?_⟩; go_big_quiet_on)) | (go_big_quiet_want; apply qf_load1 _ _ rfl _ _ rfl; (exact hC); rotate_left 1; (focus (intro _; simp [go_sem]; done)); rotate_right 1; assumption; assumption; (simp only [Act.put, lS]; go_big_quiet_on)) | (go_big_quiet_want; apply qf_loadA _ _ rfl _ _ rfl (sz := 32); (exact hC); rotate_left 1; (focus (intro _; simp [go_sem]; done)); (focus (intro _; simp [go_sem]; done)); rotate_right 1; assumption; assumption; assumption; (simp only [Act.put, lS]; go_big_quiet_on))); exact wpQuiet_nil rfl))
    (refine wpF_cst [13] _ rfl (by rfl) (by decide) (by decide) rfl rfl (fun d hd => by cases hd; rfl) ?_; (simp only [Act.put, vqF, pS]))
    (apply wpF_q rfl; focus (intro C hC hG; go_big_quiet_want; apply qf_conv; (focus rfl); (exact hC); (focus rfl); (exact Try.underlying27); (exact Try.underlying5); (exact Try.underlying9); (exact (fun w hB hd => by obtain ⟨g, f, e, _, hb, hh⟩ := hd 16 (by simp) rfl; rw [e]; exact SlB.rowAt hh rfl hb)); (simp only [Act.put, lS]; go_big_quiet_on); exact wpQuiet_nil rfl))
    (apply wpF_q rfl; focus (intro C hC hG; (first | go_big_quiet_skip | (go_big_quiet_want; go_big_quiet_op; first | go_big_quiet_on | (refine ⟨_, fun _ _ => rfl, ?_⟩; go_big_quiet_on)) | (go_big_quiet_want; apply qf_load1 _ _ rfl _ _ rfl; (exact hC); rotate_left 1; (focus (intro _; simp [go_sem]; done)); rotate_right 1; assumption; assumption; (simp only [Act.put, lS]; go_big_quiet_on)) | (go_big_quiet_want; apply qf_loadA _ _ rfl _ _ rfl (sz := 32); (exact hC); rotate_left 1; (focus (intro _; simp [go_sem]; done)); (focus (intro _; simp [go_sem]; done)); rotate_right 1; assumption; assumption; assumption; (simp only [Act.put, lS]; go_big_quiet_on))); exact wpQuiet_nil rfl))
    (apply wpF_q rfl; focus (intro C hC hG; go_big_quiet_want; apply qf_call; (exact hC); (exact hG); (exact (fun w' _ _ => refvec_any b 3 w' HL.out (by decide))); (focus (intro w; simp [go_sem]; done)); (simp only [Act.put, lS]; go_big_quiet_on); exact wpQuiet_nil rfl))
    (apply wpF_q rfl; focus (intro C hC hG; go_big_quiet_want; apply qf_add [13] (vecB b 3) _ _ _ rfl rfl rfl; (focus (first | decide | (simp only [List.length_append, List.length_nil, List.length_cons, vecB_len, numB_len, fx_len, hLS]; omega))); (simp only [Act.put, lS]; go_big_quiet_on); exact wpQuiet_nil rfl))
    exact wpF_nil ⟨rfl, rfl⟩
  · intro ν ν'; kernel_rfl
  intro ν w1 hν hB1 hD
  have HB := Lib.hid (Below.trans hB.drew (hB1.mono hB.drew.size))
  obtain ⟨Y, hY⟩ : ∃ Y, Y = [(13 : UInt8)] ++ vecB b 3 := ⟨_, rfl⟩
  rw [← hY]
  have HY := Lib.hid hY
  clear hY hD hν hB1 hr hB g0
  go_wp2_with fail
  go_ret2
  exact ⟨congrArg (fun s => Ending.returned (Value.tuple #[S s, Value.int .i64 0])) (by rw [HY.out]; first | done | simp), HB.out⟩
set_option maxRecDepth 100000 in
set_option maxHeartbeats 4000000 in
theorem refwrite_15 (r mk b : List UInt8) (v0 v1 v2 v3 v4 v5 v6 v7 v8 v9 : Value) (w : World) (hl : b.length < 1000000)
    (hbody : ∀ W, Below w.heap.size w W → Calls Try.prog 25 #[.agg (mD 15 r mk [v0, v1, v2, v3, v4, v5, v6, v7, v8, v9])] W fun e w' => e = .returned (.tuple #[S b, .bool true]) ∧ Below W.heap.size W w') :
    Calls Try.prog 12 #[.agg (mD 15 r mk [v0, v1, v2, v3, v4, v5, v6, v7, v8, v9])] w fun e w' => e = .returned (.tuple #[S ([15] ++ vecB b 3), .int .i64 0]) ∧ Below w.heap.size w w' := by
  have HBO := Lib.hid hbody
  have HL := Lib.hid hl
  clear hbody hl
  go_enter Try.func12, Try.ntmps12
  go_wp2_with fail
  refine (HBO.out _ (by (repeat (first | (with_reducible exact Below.refl _ _) | ((with_reducible first | refine bSetRow ?_ ?_ _ | refine Below.alloc ?_ ?_ _ | refine Below.setCell ?_ ?_ _); rotate_left 1; (focus (first | (simp; done) | (simp; omega)))) | (with_reducible refine Below.drew ?_))))).mono ?_
  rintro e w0 ⟨rfl, hb0⟩
  have hr : Row w0 w.heap.size 25 (mD 15 r mk [v0, v1, v2, v3, v4, v5, v6, v7, v8, v9]) := (Row.new w 25 (mD 15 r mk [v0, v1, v2, v3, v4, v5, v6, v7, v8, v9])).below hb0 (Row.new w 25 (mD 15 r mk [v0, v1, v2, v3, v4, v5, v6, v7, v8, v9])).lt
  have hB : Below w.heap.size w w0 := Below.trans (by (repeat (first | (with_reducible exact Below.refl _ _) | ((with_reducible first | refine bSetRow ?_ ?_ _ | refine Below.alloc ?_ ?_ _ | refine Below.setCell ?_ ?_ _); rotate_left 1; (focus (first | (simp; done) | (simp; omega)))) | (with_reducible refine Below.drew ?_)))) (hb0.mono (by simp))
  clear hb0
  go_upto_region 4 with (fail)
  have hrd := hr.drew
  have g0 : (mD 15 r mk [v0, v1, v2, v3, v4, v5, v6, v7, v8, v9])[0]? = some (.int .i64 15) := mD_0
  (refine wp_region_freeD 8 [16] [] shp (phi _ [(16, .cst [15])]) (by kernel_rfl) (by kernel_rfl) (by kernel_rfl) (phi_stab _ _) (phi_shp _ _) shp_inh ?_; simp only [List.take_succ_cons, List.take_zero, List.drop_succ_cons, List.drop_zero]; apply Exists.intro; apply Exists.intro; refine ⟨?_, ?_, ?_⟩)
  · intro ν hν
    have HL' := HL.out
    iterate 3 (apply wpF_q rfl; focus (intro C hC hG; (first | go_big_quiet_skip | (go_big_quiet_want; go_big_quiet_op; first | go_big_quiet_on | (refine ⟨_, fun _ _ => rfl, ?_⟩; go_big_quiet_on)) | (go_big_quiet_want; apply qf_load1 _ _ rfl _ _ rfl; (exact hC); rotate_left 1; (focus (intro _; simp [go_sem]; done)); rotate_right 1; assumption; assumption; (simp only [Act.put, lS]; go_big_quiet_on)) | (go_big_quiet_want; apply qf_loadA _ _ rfl _ _ rfl (sz := 32); (exact hC); rotate_left 1; (focus (intro _; simp [go_sem]; done)); (focus (intro _; simp [go_sem]; done)); rotate_right 1; assumption; assumption; assumption; (simp only [Act.put, lS]; go_big_quiet_on))); exact wpQuiet_nil rfl))
    (refine wpF_cst [15] _ rfl (by rfl) (by decide) (by decide) rfl rfl (fun d hd => by cases hd; rfl) ?_; (simp only [Act.put, vqF, pS]))
    (apply wpF_q rfl; focus (intro C hC hG; go_big_quiet_want; apply qf_conv; (focus rfl); (exact hC); (focus rfl); (exact Try.underlying27); (exact Try.underlying5); (exact Try.underlying9); (exact (fun w hB hd => by obtain ⟨g, f, e, _, hb, hh⟩ := hd 16 (by simp) rfl; rw [e]; exact SlB.rowAt hh rfl hb)); (simp only [Act.put, lS]; go_big_quiet_on); exact wpQuiet_nil rfl))
    (apply wpF_q rfl; focus (intro C hC hG; (first | go_big_quiet_skip | (go_big_quiet_want; go_big_quiet_op; first | go_big_quiet_on | (refine ⟨_, fun _ _ => rfl, ?_⟩; go_big_quiet_on)) | (go_big_quiet_want; apply qf_load1 _ _ rfl _ _ rfl; (exact hC); rotate_left 1; (focus (intro _; simp [go_sem]; done)); rotate_right 1; assumption; assumption; (simp only [Act.put, lS]; go_big_quiet_on)) | (go_big_quiet_want; apply qf_loadA _ _ rfl _ _ rfl (sz := 32); (exact hC); rotate_left 1; (focus (intro _; simp [go_sem]; done)); (focus (intro _; simp [go_sem]; done)); rotate_right 1; assumption; assumption; assumption; (simp only [Act.put, lS]; go_big_quiet_on))); exact wpQuiet_nil rfl))
    (apply wpF_q rfl; focus (intro C hC hG; go_big_quiet_want; apply qf_call; (exact hC); (exact hG); (exact (fun w' _ _ => refvec_any b 3 w' HL.out (by decide))); (focus (intro w; simp [go_sem]; done)); (simp only [Act.put, lS]; go_big_quiet_on); exact wpQuiet_nil rfl))
    (apply wpF_q rfl; focus (intro C hC hG; go_big_quiet_want; apply qf_add [15] (vecB b 3) _ _ _ rfl rfl rfl; (focus (first | decide | (simp only [List.length_append, List.length_nil, List.length_cons, vecB_len, numB_len, fx_len, hLS]; omega))); (simp only [Act.put, lS]; go_big_quiet_on); exact wpQuiet_nil rfl))
    exact wpF_nil ⟨rfl, rfl⟩
  · intro ν ν'; kernel_rfl
  intro ν w1 hν hB1 hD
  have HB := Lib.hid (Below.trans hB.drew (hB1.mono hB.drew.size))
  obtain ⟨Y, hY⟩ : ∃ Y, Y = [(15 : UInt8)] ++ vecB b 3 := ⟨_, rfl⟩
  rw [← hY]
  have HY := Lib.hid hY
  clear hY hD hν hB1 hr hB g0
  go_wp2_with fail
  go_ret2
  exact ⟨congrArg (fun s => Ending.returned (Value.tuple #[S s, Value.int .i64 0])) (by rw [HY.out]; first | done | simp), HB.out⟩
set_option maxRecDepth 100000 in
set_option maxHeartbeats 4000000 in
theorem refwrite_20 (r mk b : List UInt8) (v0 v1 v2 v3 v4 v5 v6 v7 v8 v9 : Value) (w : World) (hl : b.length < 1000000)
    (hbody : ∀ W, Below w.heap.size w W → Calls Try.prog 25 #[.agg (mD 20 r mk [v0, v1, v2, v3, v4, v5, v6, v7, v8, v9])] W fun e w' => e = .returned (.tuple #[S b, .bool true]) ∧ Below W.heap.size W w') :
    Calls Try.prog 12 #[.agg (mD 20 r mk [v0, v1, v2, v3, v4, v5, v6, v7, v8, v9])] w fun e w' => e = .returned (.tuple #[S ([20] ++ vecB b 3), .int .i64 0]) ∧ Below w.heap.size w w' := by
  have HBO := Lib.hid hbody
  have HL := Lib.hid hl
  clear hbody hl
  go_enter Try.func12, Try.ntmps12
  go_wp2_with fail
  refine (HBO.out _ (by (repeat (first | (with_reducible exact Below.refl _ _) | ((with_reducible first | refine bSetRow ?_ ?_ _ | refine Below.alloc ?_ ?_ _ | refine Below.setCell ?_ ?_ _); rotate_left 1; (focus (first | (simp; done) | (simp; omega)))) | (with_reducible refine Below.drew ?_))))).mono ?_
  rintro e w0 ⟨rfl, hb0⟩
  have hr : Row w0 w.heap.size 25 (mD 20 r mk [v0, v1, v2, v3, v4, v5, v6, v7, v8, v9]) := (Row.new w 25 (mD 20 r mk [v0, v1, v2, v3, v4, v5, v6, v7, v8, v9])).below hb0 (Row.new w 25 (mD 20 r mk [v0, v1, v2, v3, v4, v5, v6, v7, v8, v9])).lt
  have hB : Below w.heap.size w w0 := Below.trans (by (repeat (first | (with_reducible exact Below.refl _ _) | ((with_reducible first | refine bSetRow ?_ ?_ _ | refine Below.alloc ?_ ?_ _ | refine Below.setCell ?_ ?_ _); rotate_left 1; (focus (first | (simp; done) | (simp; omega)))) | (with_reducible refine Below.drew ?_)))) (hb0.mono (by simp))
  clear hb0
  go_upto_region 4 with (fail)
  have hrd := hr.drew
  have g0 : (mD 20 r mk [v0, v1, v2, v3, v4, v5, v6, v7, v8, v9])[0]? = some (.int .i64 20) := mD_0
  (refine wp_region_freeD 8 [16] [] shp (phi _ [(16, .cst [20])]) (by kernel_rfl) (by kernel_rfl) (by kernel_rfl) (phi_stab _ _) (phi_shp _ _) shp_inh ?_; simp only [List.take_succ_cons, List.take_zero, List.drop_succ_cons, List.drop_zero]; apply Exists.intro; apply Exists.intro; refine ⟨?_, ?_, ?_⟩)
  · intro ν hν
    have HL' := HL.out
    iterate 3 (apply wpF_q rfl; focus (intro C hC hG; (first | go_big_quiet_skip | (go_big_quiet_want; go_big_quiet_op; first | go_big_quiet_on | (refine ⟨_, fun _ _ => rfl, ?_⟩; go_big_quiet_on)) | (go_big_quiet_want; apply qf_load1 _ _ rfl _ _ rfl; (exact hC); rotate_left 1; (focus (intro _; simp [go_sem]; done)); rotate_right 1; assumption; assumption; (simp only [Act.put, lS]; go_big_quiet_on)) | (go_big_quiet_want; apply qf_loadA _ _ rfl _ _ rfl (sz := 32); (exact hC); rotate_left 1; (focus (intro _; simp [go_sem]; done)); (focus (intro _; simp [go_sem]; done)); rotate_right 1; assumption; assumption; assumption; (simp only [Act.put, lS]; go_big_quiet_on))); exact wpQuiet_nil rfl))
    (refine wpF_cst [20] _ rfl (by rfl) (by decide) (by decide) rfl rfl (fun d hd => by cases hd; rfl) ?_; (simp only [Act.put, vqF, pS]))
    (apply wpF_q rfl; focus (intro C hC hG; go_big_quiet_want; apply qf_conv; (focus rfl); (exact hC); (focus rfl); (exact Try.underlying27); (exact Try.underlying5); (exact Try.underlying9); (exact (fun w hB hd => by obtain ⟨g, f, e, _, hb, hh⟩ := hd 16 (by simp) rfl; rw [e]; exact SlB.rowAt hh rfl hb)); (simp only [Act.put, lS]; go_big_quiet_on); exact wpQuiet_nil rfl))
    (apply wpF_q rfl; focus (intro C hC hG; (first | go_big_quiet_skip | (go_big_quiet_want; go_big_quiet_op; first | go_big_quiet_on | (refine ⟨_, fun _ _ => rfl, ?_⟩; go_big_quiet_on)) | (go_big_quiet_want; apply qf_load1 _ _ rfl _ _ rfl; (exact hC); rotate_left 1; (focus (intro _; simp [go_sem]; done)); rotate_right 1; assumption; assumption; (simp only [Act.put, lS]; go_big_quiet_on)) | (go_big_quiet_want; apply qf_loadA _ _ rfl _ _ rfl (sz := 32); (exact hC); rotate_left 1; (focus (intro _; simp [go_sem]; done)); (focus (intro _; simp [go_sem]; done)); rotate_right 1; assumption; assumption; assumption; (simp only [Act.put, lS]; go_big_quiet_on))); exact wpQuiet_nil rfl))
    (apply wpF_q rfl; focus (intro C hC hG; go_big_quiet_want; apply qf_call; (exact hC); (exact hG); (exact (fun w' _ _ => refvec_any b 3 w' HL.out (by decide))); (focus (intro w; simp [go_sem]; done)); (simp only [Act.put, lS]; go_big_quiet_on); exact wpQuiet_nil rfl))
    (apply wpF_q rfl; focus (intro C hC hG; go_big_quiet_want; apply qf_add [20] (vecB b 3) _ _ _ rfl rfl rfl; (focus (first | decide | (simp only [List.length_append, List.length_nil, List.length_cons, vecB_len, numB_len, fx_len, hLS]; omega))); (simp only [Act.put, lS]; go_big_quiet_on); exact wpQuiet_nil rfl))
    exact wpF_nil ⟨rfl, rfl⟩
  · intro ν ν'; kernel_rfl
  intro ν w1 hν hB1 hD
  have HB := Lib.hid (Below.trans hB.drew (hB1.mono hB.drew.size))
  obtain ⟨Y, hY⟩ : ∃ Y, Y = [(20 : UInt8)] ++ vecB b 3 := ⟨_, rfl⟩
  rw [← hY]
  have HY := Lib.hid hY
  clear hY hD hν hB1 hr hB g0
  go_wp2_with fail
  go_ret2
  exact ⟨congrArg (fun s => Ending.returned (Value.tuple #[S s, Value.int .i64 0])) (by rw [HY.out]; first | done | simp), HB.out⟩
theorem bodyP_len' (m : MsgP) (hs : SmallM m) (hr : m.random.length = 32) (hm : m.mark.length = 32) (h : rightP m = true) : (bodyP m).length < 1000000 := by
  have a1 := offersP_len m hs.share hs.ticket hm
  have a2 := answersP_len m hs.share
  have a3 := hs.session
  have a4 := hs.nonce
  have a5 := hs.ticket
  have a6 := hs.sig
  have a7 := hs.certs
  unfold bodyP
  split
  · simp only [List.length_append, vecB_len, hVersion_len, hSuites_len, hr]; omega
  split
  · split <;> simp only [List.length_append, vecB_len, hVersion_len, hSuite_len, hAgain_len, hr] <;> omega
  split
  · simp only [List.length_append, vecB_len, numB_len, hNone2_len]; omega
  split
  · rw [hNone2_len]; omega
  split
  · rename_i e
    have := certsP_len m.certs (right_certs h e)
    simp only [List.length_append, vecB_len, hNone1_len]; omega
  split
  · rw [hAsked_len]; omega
  split
  · simp only [List.length_append, vecB_len, hSigned_len]; omega
  · rw [hm]; omega
theorem refwrite_yes {m : MsgP} {C : Array Value} {w : World} (h : RMsgAt w C m) (hs : SmallM m) (hr : rightP m = true) :
    Calls Try.prog 12 #[.agg C] w fun e w' => e = .returned (.tuple #[S (writeP m), .int .i64 0]) ∧ Below w.heap.size w w' := by
  have hbody : ∀ W, Below w.heap.size w W → Calls Try.prog 25 #[.agg C] W fun e w' => e = .returned (.tuple #[S (bodyP m), .bool true]) ∧ Below W.heap.size W w' := fun W hW => by
    refine (refbody_any (h.below hW) hs).mono ?_
    rintro e w' ⟨⟨s, h1, h2⟩, h3⟩
    exact ⟨by rw [h1, h2 hr, hr], h3⟩
  have hkind := right_kind hr
  obtain ⟨ac, cc, rfl, hp, hrl, hml⟩ := h
  have hbl := bodyP_len' m hs hrl hml hr
  unfold writeP
  generalize bodyP m = b at hbody hbl ⊢
  obtain ⟨k, r, mk, ses, sh, ti, no, sg, ce, life, age, psk, retry⟩ := m
  dsimp only at *
  rcases hkind with rfl | rfl | rfl | rfl | rfl | rfl | rfl | rfl
  · exact refwrite_1 r mk b _ _ _ _ _ _ _ _ _ _ w hbl hbody
  · exact refwrite_2 r mk b _ _ _ _ _ _ _ _ _ _ w hbl hbody
  · exact refwrite_4 r mk b _ _ _ _ _ _ _ _ _ _ w hbl hbody
  · exact refwrite_8 r mk b _ _ _ _ _ _ _ _ _ _ w hbl hbody
  · exact refwrite_11 r mk b _ _ _ _ _ _ _ _ _ _ w hbl hbody
  · exact refwrite_13 r mk b _ _ _ _ _ _ _ _ _ _ w hbl hbody
  · exact refwrite_15 r mk b _ _ _ _ _ _ _ _ _ _ w hbl hbody
  · exact refwrite_20 r mk b _ _ _ _ _ _ _ _ _ _ w hbl hbody
set_option maxRecDepth 100000 in
set_option maxHeartbeats 4000000 in
theorem refwrite_no {m : MsgP} {C : Array Value} {w : World} (h : RMsgAt w C m) (hs : SmallM m) (hr : rightP m = false) :
    Calls Try.prog 12 #[.agg C] w fun e w' => e = .returned (.tuple #[S [], .int .i64 2]) ∧ Below w.heap.size w w' := by
  have hbody : ∀ W, Below w.heap.size w W → Calls Try.prog 25 #[.agg C] W fun e w' => (∃ s, e = .returned (.tuple #[S s, .bool false])) ∧ Below W.heap.size W w' := fun W hW => by
    refine (refbody_any (h.below hW) hs).mono ?_
    rintro e w' ⟨⟨s, h1, _⟩, h3⟩
    exact ⟨⟨s, by rw [h1, hr]⟩, h3⟩
  obtain ⟨ac, cc, rfl, _⟩ := h
  have HBO := Lib.hid hbody
  clear hbody hr hs
  go_enter Try.func12, Try.ntmps12
  go_wp2_with fail
  refine (HBO.out _ (by (repeat (first | (with_reducible exact Below.refl _ _) | ((with_reducible first | refine bSetRow ?_ ?_ _ | refine Below.alloc ?_ ?_ _ | refine Below.setCell ?_ ?_ _); rotate_left 1; (focus (first | (simp; done) | (simp; omega)))) | (with_reducible refine Below.drew ?_))))).mono ?_
  rintro e w0 ⟨⟨s, rfl⟩, hb0⟩
  have hB : Below w.heap.size w w0 := Below.trans (by (repeat (first | (with_reducible exact Below.refl _ _) | ((with_reducible first | refine bSetRow ?_ ?_ _ | refine Below.alloc ?_ ?_ _ | refine Below.setCell ?_ ?_ _); rotate_left 1; (focus (first | (simp; done) | (simp; omega)))) | (with_reducible refine Below.drew ?_)))) (hb0.mono (by simp))
  clear hb0
  go_wp2_with fail
  go_ret2
  exact ⟨rfl, hB⟩
end Go.Proofs.Ytnenoecmmelehaa
