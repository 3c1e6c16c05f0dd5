/- Part of the proof: HAnswers. No conditions of its own. -/
import Derived.Below
import Derived.BigQuiet
import Derived.Deep.CutBlock
import Derived.Deep.DeepCutAuto
import Derived.Deep.Draws
import Derived.Deep.LoopGhost
import Derived.Deep.Quiet
import Derived.Deep.QuietTactic
import Derived.Deep.RegionLaw
import Derived.Great.BuildSlice
import Derived.Great.FillDense
import Derived.Laws.AppendOwn
import Derived.Laws.AppendOwnNone
import Derived.Laws.BytesArg
import Derived.Laws.Concat
import Derived.Laws.MakeOwn
import Derived.Lib.AppendZerosOnto
import Derived.Lib.Hide
import Derived.Lib.SlBytesConst
import Derived.StillTail
import Derived.Stop.BytesEq
import Derived.Test.YtnenoecmmelehaaProg
import Derived.WalkKit
import Derived.WalkLawsBesides
import Derived.WalkSpells
import Derived.Test.YtnenoecmmelehaaM12
namespace Go.Proofs.Ytnenoecmmelehaa
open Go.RowKit
set_option linter.unusedVariables false

set_option maxRecDepth 100000 in
set_option maxHeartbeats 4000000 in
theorem answers_ff (r mk share : List UInt8) (k : Int) (v1 v2 v3 v4 v5 v6 : Value) (life age : Int) (w : World) (h2 : SlB w v2 share) (hb : share.length ≤ 100000) :
    Calls Try.prog 41 #[.agg (mD k r mk [v1, v2, v3, v4, v5, v6, .int .i64 life, .int .i64 age, .bool false, .bool false])] w fun e w' => ∃ v, e = .returned v ∧ PartsAt w' v ([hChosen, hShare, vecB (hGroup ++ vecB share 2) 2]) ∧ Below w.heap.size w w' := by
  have H2 := Lib.hid h2
  clear h2
  go_enter Try.func41, Try.ntmps41
  go_upto_region 1 with (fail)
  obtain ⟨w0, hw0⟩ : ∃ w0, w0 = w.alloc (.cells (mD k r mk [v1, v2, v3, v4, v5, v6, .int .i64 life, .int .i64 age, .bool false, .bool false]) 30) := ⟨_, rfl⟩
  rw [← hw0]
  have hr : Row w0 w.heap.size 30 (mD k r mk [v1, v2, v3, v4, v5, v6, .int .i64 life, .int .i64 age, .bool false, .bool false]) := by rw [hw0]; exact Row.new _ _ _
  have hB : Below w.heap.size w w0 := by rw [hw0]; (repeat (first | (with_reducible exact Below.refl _ _) | ((with_reducible first | refine bSetRow ?_ ?_ _ | refine Below.alloc ?_ ?_ _ | refine Below.setCell ?_ ?_ _); rotate_left 1; (focus (first | (simp; done) | (simp; omega)))) | (with_reducible refine Below.drew ?_)))
  have g66 : (mD k r mk [v1, v2, v3, v4, v5, v6, .int .i64 life, .int .i64 age, .bool false, .bool false])[66]? = some v2 := mD_66
  clear hw0
  (refine wp_region_seq 4 [5, 6, 7, 8] [] shp (phi _ [(5, .cst hGroup), (6, .ful hGroup), (7, .prf [hGroup]), (8, .byt (vecB hGroup 2))]) (by kernel_rfl) (phi_stab _ _) (phi_shp _ _) shp_inh ?_; simp only [List.take_succ_cons, List.take_zero, List.drop_succ_cons, List.drop_zero]; apply Exists.intro; apply Exists.intro; refine ⟨?_, ?_, ?_⟩)
  · intro ν hν
    (refine wpF_cst hGroup _ rfl (by rfl) (by decide) (by decide) rfl rfl (fun d hd => by cases hd; rfl) ?_; (simp only [Act.put, vqF, pS]))
    (refine wpF_mark hGroup 5 rfl rfl (by simp) rfl rfl rfl rfl (fun d hd => by cases hd; rfl) ?_; (simp only [Act.put, vqF, pS]))
    (refine wpF_prt [ν 6] [hGroup] _ rfl (by rfl) (by simp) (by simp) ?_ (fun w hB hk => ⟨(hk 6 (by simp) rfl).2, trivial⟩) rfl rfl (fun d hd => by cases hd; rfl) ?_; (focus (intro v hv; simp only [List.mem_cons, List.not_mem_nil, or_false] at hv; (repeat' (first | subst hv | rcases hv with rfl | hv)); all_goals first | rfl | assumption | exact hν _)); (simp only [Act.put, vqF, pS]))
    (apply wpF_free; (focus rfl); (focus rfl); (exact (fun w' _ hd => of_byt (k := 8) rfl (vec_any 2 _ [hGroup] w' (by decide) (hd 7 (by simp) rfl).2 (by decide) (by decide)))); (focus (intro w; simp [go_sem]; done)); simp only [Act.put, vqF, pS])
    exact wpF_nil ⟨rfl, rfl⟩
  · intro ν ν'; kernel_rfl
  intro ν w1 hν hB1 hD
  have f3 := Lib.hid (show SlB w1 (ν 8) (vecB hGroup 2) from hD 8 (by simp))
  have s3 : isSliceV (ν 8) = true := hν 8
  have hr := hr.below hB1 hr.lt
  have hB := hB.trans (hB1.mono hB.size)
  obtain ⟨u3, hu3⟩ : ∃ u, u = ν 8 := ⟨_, rfl⟩
  rw [← hu3] at f3 s3 ⊢
  clear hD hν hB1 hu3
  go_upto_region 3 with (fail)
  have x1 : SlB w1 v2 share := H2.out.below hB
  have l1 : [share].flatten.length ≤ 1000000 := by simp; omega
  have l2 : [hGroup, vecB share 2].flatten.length ≤ 1000000 := by simp [vecB_len, hGroup]; omega
  have l3 : vecB [share].flatten 2 = vecB share 2 := by simp
  have l4 : vecB [hGroup, vecB share 2].flatten 2 = vecB (hGroup ++ vecB share 2) 2 := by simp
  (refine wp_region_seq 8 [12, 13, 16, 17, 18, 19] [] shp (phi _ [(12, .cst hGroup), (13, .ful hGroup), (16, .prf [share]), (17, .byt (vecB share 2)), (18, .prf [hGroup, vecB share 2]), (19, .byt (vecB (hGroup ++ vecB share 2) 2))]) (by kernel_rfl) (phi_stab _ _) (phi_shp _ _) shp_inh ?_; simp only [List.take_succ_cons, List.take_zero, List.drop_succ_cons, List.drop_zero]; apply Exists.intro; apply Exists.intro; refine ⟨?_, ?_, ?_⟩)
  · intro ν hν
    (refine wpF_cst hGroup _ rfl (by rfl) (by decide) (by decide) rfl rfl (fun d hd => by cases hd; rfl) ?_; (simp only [Act.put, vqF, pS]))
    (refine wpF_mark hGroup 12 rfl rfl (by simp) rfl rfl rfl rfl (fun d hd => by cases hd; rfl) ?_; (simp only [Act.put, vqF, pS]))
    iterate 2 (apply wpF_q rfl; focus (intro C hC hG; (first | go_big_quiet_skip | (go_big_quiet_want; go_big_quiet_op; first | go_big_quiet_on | (refine ⟨_, fun _ _ => rfl, ?_⟩; go_big_quiet_on)) | (go_big_quiet_want; apply qf_load1 _ _ rfl _ _ rfl; (exact hC); rotate_left 1; (focus (intro _; simp [go_sem]; done)); rotate_right 1; assumption; assumption; (simp only [Act.put, lS]; go_big_quiet_on)) | (go_big_quiet_want; apply qf_loadA _ _ rfl _ _ rfl (sz := 32); (exact hC); rotate_left 1; (focus (intro _; simp [go_sem]; done)); (focus (intro _; simp [go_sem]; done)); rotate_right 1; assumption; assumption; assumption; (simp only [Act.put, lS]; go_big_quiet_on))); exact wpQuiet_nil rfl))
    have sv2 := x1.shape
    (refine wpF_prt [v2] [share] _ rfl (by rfl) (by simp) (by simp) ?_ (fun w hB hk => ⟨x1.below hB, trivial⟩) rfl rfl (fun d hd => by cases hd; rfl) ?_; (focus (intro v hv; simp only [List.mem_cons, List.not_mem_nil, or_false] at hv; (repeat' (first | subst hv | rcases hv with rfl | hv)); all_goals first | rfl | assumption | exact hν _)); (simp only [Act.put, vqF, pS]))
    (apply wpF_free; (focus rfl); (focus rfl); (exact (fun w' _ hd => of_byt (k := 17) rfl (l3 ▸ vec_any 2 _ [share] w' (by decide) (hd 16 (by simp) rfl).2 l1 (by simp)))); (focus (intro w; simp [go_sem]; done)); simp only [Act.put, vqF, pS])
    (refine wpF_prt [ν 13, ν 17] [hGroup, vecB share 2] _ rfl (by rfl) (by simp) (by simp) ?_ (fun w hB hk => ⟨(hk 13 (by simp) rfl).2, hk 17 (by simp) rfl, trivial⟩) rfl rfl (fun d hd => by cases hd; rfl) ?_; (focus (intro v hv; simp only [List.mem_cons, List.not_mem_nil, or_false] at hv; (repeat' (first | subst hv | rcases hv with rfl | hv)); all_goals first | rfl | assumption | exact hν _)); (simp only [Act.put, vqF, pS]))
    (apply wpF_free; (focus rfl); (focus rfl); (exact (fun w' _ hd => of_byt (k := 19) rfl (l4 ▸ vec_any 2 _ [hGroup, vecB share 2] w' (by decide) (hd 18 (by simp) rfl).2 l2 (by simp)))); (focus (intro w; simp [go_sem]; done)); simp only [Act.put, vqF, pS])
    exact wpF_nil ⟨rfl, rfl⟩
  · intro ν ν'; kernel_rfl
  intro ν w2 hν hB1 hD
  have f3 := Lib.hid (show SlB w2 (ν 19) (vecB (hGroup ++ vecB share 2) 2) from hD 19 (by simp))
  have s3 : isSliceV (ν 19) = true := hν 19
  have hr := hr.below hB1 hr.lt
  have hB := hB.trans (hB1.mono hB.size)
  obtain ⟨u3, hu3⟩ : ∃ u, u = ν 19 := ⟨_, rfl⟩
  rw [← hu3] at f3 s3 ⊢
  clear hD hν hB1 hu3 x1 l1 l2 l3 l4
  go_upto_region 4 with (fail)
  (refine wp_region_seq 6 [20, 21, 22, 23, 25] [] shp (phi _ [(20, .cst hChosen), (21, .ful hChosen), (22, .cst hShare), (23, .ful hShare), (25, .prf [hChosen, hShare, vecB (hGroup ++ vecB share 2) 2])]) (by kernel_rfl) (phi_stab _ _) (phi_shp _ _) shp_inh ?_; simp only [List.take_succ_cons, List.take_zero, List.drop_succ_cons, List.drop_zero]; apply Exists.intro; apply Exists.intro; refine ⟨?_, ?_, ?_⟩)
  · intro ν hν
    (refine wpF_cst hChosen _ rfl (by rfl) (by decide) (by decide) rfl rfl (fun d hd => by cases hd; rfl) ?_; (simp only [Act.put, vqF, pS]))
    (refine wpF_mark hChosen 20 rfl rfl (by simp) rfl rfl rfl rfl (fun d hd => by cases hd; rfl) ?_; (simp only [Act.put, vqF, pS]))
    (refine wpF_cst hShare _ rfl (by rfl) (by decide) (by decide) rfl rfl (fun d hd => by cases hd; rfl) ?_; (simp only [Act.put, vqF, pS]))
    (refine wpF_mark hShare 22 rfl rfl (by simp) rfl rfl rfl rfl (fun d hd => by cases hd; rfl) ?_; (simp only [Act.put, vqF, pS]))
    (apply wpF_q rfl; focus (intro C hC hG; (first | go_big_quiet_skip | (go_big_quiet_want; go_big_quiet_op; first | go_big_quiet_on | (refine ⟨_, fun _ _ => rfl, ?_⟩; go_big_quiet_on)) | (go_big_quiet_want; apply qf_load1 _ _ rfl _ _ rfl; (exact hC); rotate_left 1; (focus (intro _; simp [go_sem]; done)); rotate_right 1; assumption; assumption; (simp only [Act.put, lS]; go_big_quiet_on)) | (go_big_quiet_want; apply qf_loadA _ _ rfl _ _ rfl (sz := 32); (exact hC); rotate_left 1; (focus (intro _; simp [go_sem]; done)); (focus (intro _; simp [go_sem]; done)); rotate_right 1; assumption; assumption; assumption; (simp only [Act.put, lS]; go_big_quiet_on))); exact wpQuiet_nil rfl))
    (refine wpF_prt [ν 21, ν 23, u3] [hChosen, hShare, vecB (hGroup ++ vecB share 2) 2] _ rfl (by rfl) (by simp) (by simp) ?_ (fun w hB hk => ⟨(hk 21 (by simp) rfl).2, (hk 23 (by simp) rfl).2, f3.out.below hB, trivial⟩) rfl rfl (fun d hd => by cases hd; rfl) ?_; (focus (intro v hv; simp only [List.mem_cons, List.not_mem_nil, or_false] at hv; (repeat' (first | subst hv | rcases hv with rfl | hv)); all_goals first | rfl | assumption | exact hν _)); (simp only [Act.put, vqF, pS]))
    exact wpF_nil ⟨rfl, rfl⟩
  · intro ν ν'; kernel_rfl
  intro ν w3 hν hB1 hD
  have f4 := Lib.hid (show FK.holds (.prf [hChosen, hShare, vecB (hGroup ++ vecB share 2) 2]) 0 (ν 25) w3 from hD 25 (by simp))
  have hr := hr.below hB1 hr.lt
  have hB := hB.trans (hB1.mono hB.size)
  obtain ⟨u4, hu4⟩ : ∃ u, u = ν 25 := ⟨_, rfl⟩
  rw [← hu4] at f4 ⊢
  clear hD hν hB1 hu4 f3
  go_wp2_with fail
  go_ret
  exact ⟨_, rfl, f4.out.2, hB⟩
set_option maxRecDepth 100000 in
set_option maxHeartbeats 4000000 in
theorem answers_ft (r mk share : List UInt8) (k : Int) (v1 v2 v3 v4 v5 v6 : Value) (life age : Int) (w : World) (h2 : SlB w v2 share) (hb : share.length ≤ 100000) :
    Calls Try.prog 41 #[.agg (mD k r mk [v1, v2, v3, v4, v5, v6, .int .i64 life, .int .i64 age, .bool false, .bool true])] w fun e w' => ∃ v, e = .returned v ∧ PartsAt w' v ([hChosen, hShare, vecB hGroup 2]) ∧ Below w.heap.size w w' := by
  have H2 := Lib.hid h2
  clear h2
  go_enter Try.func41, Try.ntmps41
  go_upto_region 1 with (fail)
  obtain ⟨w0, hw0⟩ : ∃ w0, w0 = w.alloc (.cells (mD k r mk [v1, v2, v3, v4, v5, v6, .int .i64 life, .int .i64 age, .bool false, .bool true]) 30) := ⟨_, rfl⟩
  rw [← hw0]
  have hr : Row w0 w.heap.size 30 (mD k r mk [v1, v2, v3, v4, v5, v6, .int .i64 life, .int .i64 age, .bool false, .bool true]) := by rw [hw0]; exact Row.new _ _ _
  have hB : Below w.heap.size w w0 := by rw [hw0]; (repeat (first | (with_reducible exact Below.refl _ _) | ((with_reducible first | refine bSetRow ?_ ?_ _ | refine Below.alloc ?_ ?_ _ | refine Below.setCell ?_ ?_ _); rotate_left 1; (focus (first | (simp; done) | (simp; omega)))) | (with_reducible refine Below.drew ?_)))
  have g66 : (mD k r mk [v1, v2, v3, v4, v5, v6, .int .i64 life, .int .i64 age, .bool false, .bool true])[66]? = some v2 := mD_66
  clear hw0
  (refine wp_region_seq 4 [5, 6, 7, 8] [] shp (phi _ [(5, .cst hGroup), (6, .ful hGroup), (7, .prf [hGroup]), (8, .byt (vecB hGroup 2))]) (by kernel_rfl) (phi_stab _ _) (phi_shp _ _) shp_inh ?_; simp only [List.take_succ_cons, List.take_zero, List.drop_succ_cons, List.drop_zero]; apply Exists.intro; apply Exists.intro; refine ⟨?_, ?_, ?_⟩)
  · intro ν hν
    (refine wpF_cst hGroup _ rfl (by rfl) (by decide) (by decide) rfl rfl (fun d hd => by cases hd; rfl) ?_; (simp only [Act.put, vqF, pS]))
    (refine wpF_mark hGroup 5 rfl rfl (by simp) rfl rfl rfl rfl (fun d hd => by cases hd; rfl) ?_; (simp only [Act.put, vqF, pS]))
    (refine wpF_prt [ν 6] [hGroup] _ rfl (by rfl) (by simp) (by simp) ?_ (fun w hB hk => ⟨(hk 6 (by simp) rfl).2, trivial⟩) rfl rfl (fun d hd => by cases hd; rfl) ?_; (focus (intro v hv; simp only [List.mem_cons, List.not_mem_nil, or_false] at hv; (repeat' (first | subst hv | rcases hv with rfl | hv)); all_goals first | rfl | assumption | exact hν _)); (simp only [Act.put, vqF, pS]))
    (apply wpF_free; (focus rfl); (focus rfl); (exact (fun w' _ hd => of_byt (k := 8) rfl (vec_any 2 _ [hGroup] w' (by decide) (hd 7 (by simp) rfl).2 (by decide) (by decide)))); (focus (intro w; simp [go_sem]; done)); simp only [Act.put, vqF, pS])
    exact wpF_nil ⟨rfl, rfl⟩
  · intro ν ν'; kernel_rfl
  intro ν w1 hν hB1 hD
  have f3 := Lib.hid (show SlB w1 (ν 8) (vecB hGroup 2) from hD 8 (by simp))
  have s3 : isSliceV (ν 8) = true := hν 8
  have hr := hr.below hB1 hr.lt
  have hB := hB.trans (hB1.mono hB.size)
  obtain ⟨u3, hu3⟩ : ∃ u, u = ν 8 := ⟨_, rfl⟩
  rw [← hu3] at f3 s3 ⊢
  clear hD hν hB1 hu3
  go_upto_region 4 with (fail)
  (refine wp_region_seq 6 [20, 21, 22, 23, 25] [] shp (phi _ [(20, .cst hChosen), (21, .ful hChosen), (22, .cst hShare), (23, .ful hShare), (25, .prf [hChosen, hShare, vecB hGroup 2])]) (by kernel_rfl) (phi_stab _ _) (phi_shp _ _) shp_inh ?_; simp only [List.take_succ_cons, List.take_zero, List.drop_succ_cons, List.drop_zero]; apply Exists.intro; apply Exists.intro; refine ⟨?_, ?_, ?_⟩)
  · intro ν hν
    (refine wpF_cst hChosen _ rfl (by rfl) (by decide) (by decide) rfl rfl (fun d hd => by cases hd; rfl) ?_; (simp only [Act.put, vqF, pS]))
    (refine wpF_mark hChosen 20 rfl rfl (by simp) rfl rfl rfl rfl (fun d hd => by cases hd; rfl) ?_; (simp only [Act.put, vqF, pS]))
    (refine wpF_cst hShare _ rfl (by rfl) (by decide) (by decide) rfl rfl (fun d hd => by cases hd; rfl) ?_; (simp only [Act.put, vqF, pS]))
    (refine wpF_mark hShare 22 rfl rfl (by simp) rfl rfl rfl rfl (fun d hd => by cases hd; rfl) ?_; (simp only [Act.put, vqF, pS]))
    (apply wpF_q rfl; focus (intro C hC hG; (first | go_big_quiet_skip | (go_big_quiet_want; go_big_quiet_op; first | go_big_quiet_on | (refine ⟨_, fun _ _ => rfl, ?_⟩; go_big_quiet_on)) | (go_big_quiet_want; apply qf_load1 _ _ rfl _ _ rfl; (exact hC); rotate_left 1; (focus (intro _; simp [go_sem]; done)); rotate_right 1; assumption; assumption; (simp only [Act.put, lS]; go_big_quiet_on)) | (go_big_quiet_want; apply qf_loadA _ _ rfl _ _ rfl (sz := 32); (exact hC); rotate_left 1; (focus (intro _; simp [go_sem]; done)); (focus (intro _; simp [go_sem]; done)); rotate_right 1; assumption; assumption; assumption; (simp only [Act.put, lS]; go_big_quiet_on))); exact wpQuiet_nil rfl))
    (refine wpF_prt [ν 21, ν 23, u3] [hChosen, hShare, vecB hGroup 2] _ rfl (by rfl) (by simp) (by simp) ?_ (fun w hB hk => ⟨(hk 21 (by simp) rfl).2, (hk 23 (by simp) rfl).2, f3.out.below hB, trivial⟩) rfl rfl (fun d hd => by cases hd; rfl) ?_; (focus (intro v hv; simp only [List.mem_cons, List.not_mem_nil, or_false] at hv; (repeat' (first | subst hv | rcases hv with rfl | hv)); all_goals first | rfl | assumption | exact hν _)); (simp only [Act.put, vqF, pS]))
    exact wpF_nil ⟨rfl, rfl⟩
  · intro ν ν'; kernel_rfl
  intro ν w3 hν hB1 hD
  have f4 := Lib.hid (show FK.holds (.prf [hChosen, hShare, vecB hGroup 2]) 0 (ν 25) w3 from hD 25 (by simp))
  have hr := hr.below hB1 hr.lt
  have hB := hB.trans (hB1.mono hB.size)
  obtain ⟨u4, hu4⟩ : ∃ u, u = ν 25 := ⟨_, rfl⟩
  rw [← hu4] at f4 ⊢
  clear hD hν hB1 hu4 f3
  go_wp2_with fail
  go_ret
  exact ⟨_, rfl, f4.out.2, hB⟩
set_option maxRecDepth 100000 in
set_option maxHeartbeats 4000000 in
theorem answers_tf (r mk share : List UInt8) (k : Int) (v1 v2 v3 v4 v5 v6 : Value) (life age : Int) (w : World) (h2 : SlB w v2 share) (hb : share.length ≤ 100000) :
    Calls Try.prog 41 #[.agg (mD k r mk [v1, v2, v3, v4, v5, v6, .int .i64 life, .int .i64 age, .bool true, .bool false])] w fun e w' => ∃ v, e = .returned v ∧ PartsAt w' v ([hChosen, hShare, vecB (hGroup ++ vecB share 2) 2] ++ [hPsk, hFirst]) ∧ Below w.heap.size w w' := by
  have H2 := Lib.hid h2
  clear h2
  go_enter Try.func41, Try.ntmps41
  go_upto_region 1 with (fail)
  obtain ⟨w0, hw0⟩ : ∃ w0, w0 = w.alloc (.cells (mD k r mk [v1, v2, v3, v4, v5, v6, .int .i64 life, .int .i64 age, .bool true, .bool false]) 30) := ⟨_, rfl⟩
  rw [← hw0]
  have hr : Row w0 w.heap.size 30 (mD k r mk [v1, v2, v3, v4, v5, v6, .int .i64 life, .int .i64 age, .bool true, .bool false]) := by rw [hw0]; exact Row.new _ _ _
  have hB : Below w.heap.size w w0 := by rw [hw0]; (repeat (first | (with_reducible exact Below.refl _ _) | ((with_reducible first | refine bSetRow ?_ ?_ _ | refine Below.alloc ?_ ?_ _ | refine Below.setCell ?_ ?_ _); rotate_left 1; (focus (first | (simp; done) | (simp; omega)))) | (with_reducible refine Below.drew ?_)))
  have g66 : (mD k r mk [v1, v2, v3, v4, v5, v6, .int .i64 life, .int .i64 age, .bool true, .bool false])[66]? = some v2 := mD_66
  clear hw0
  (refine wp_region_seq 4 [5, 6, 7, 8] [] shp (phi _ [(5, .cst hGroup), (6, .ful hGroup), (7, .prf [hGroup]), (8, .byt (vecB hGroup 2))]) (by kernel_rfl) (phi_stab _ _) (phi_shp _ _) shp_inh ?_; simp only [List.take_succ_cons, List.take_zero, List.drop_succ_cons, List.drop_zero]; apply Exists.intro; apply Exists.intro; refine ⟨?_, ?_, ?_⟩)
  · intro ν hν
    (refine wpF_cst hGroup _ rfl (by rfl) (by decide) (by decide) rfl rfl (fun d hd => by cases hd; rfl) ?_; (simp only [Act.put, vqF, pS]))
    (refine wpF_mark hGroup 5 rfl rfl (by simp) rfl rfl rfl rfl (fun d hd => by cases hd; rfl) ?_; (simp only [Act.put, vqF, pS]))
    (refine wpF_prt [ν 6] [hGroup] _ rfl (by rfl) (by simp) (by simp) ?_ (fun w hB hk => ⟨(hk 6 (by simp) rfl).2, trivial⟩) rfl rfl (fun d hd => by cases hd; rfl) ?_; (focus (intro v hv; simp only [List.mem_cons, List.not_mem_nil, or_false] at hv; (repeat' (first | subst hv | rcases hv with rfl | hv)); all_goals first | rfl | assumption | exact hν _)); (simp only [Act.put, vqF, pS]))
    (apply wpF_free; (focus rfl); (focus rfl); (exact (fun w' _ hd => of_byt (k := 8) rfl (vec_any 2 _ [hGroup] w' (by decide) (hd 7 (by simp) rfl).2 (by decide) (by decide)))); (focus (intro w; simp [go_sem]; done)); simp only [Act.put, vqF, pS])
    exact wpF_nil ⟨rfl, rfl⟩
  · intro ν ν'; kernel_rfl
  intro ν w1 hν hB1 hD
  have f3 := Lib.hid (show SlB w1 (ν 8) (vecB hGroup 2) from hD 8 (by simp))
  have s3 : isSliceV (ν 8) = true := hν 8
  have hr := hr.below hB1 hr.lt
  have hB := hB.trans (hB1.mono hB.size)
  obtain ⟨u3, hu3⟩ : ∃ u, u = ν 8 := ⟨_, rfl⟩
  rw [← hu3] at f3 s3 ⊢
  clear hD hν hB1 hu3
  go_upto_region 3 with (fail)
  have x1 : SlB w1 v2 share := H2.out.below hB
  have l1 : [share].flatten.length ≤ 1000000 := by simp; omega
  have l2 : [hGroup, vecB share 2].flatten.length ≤ 1000000 := by simp [vecB_len, hGroup]; omega
  have l3 : vecB [share].flatten 2 = vecB share 2 := by simp
  have l4 : vecB [hGroup, vecB share 2].flatten 2 = vecB (hGroup ++ vecB share 2) 2 := by simp
  (refine wp_region_seq 8 [12, 13, 16, 17, 18, 19] [] shp (phi _ [(12, .cst hGroup), (13, .ful hGroup), (16, .prf [share]), (17, .byt (vecB share 2)), (18, .prf [hGroup, vecB share 2]), (19, .byt (vecB (hGroup ++ vecB share 2) 2))]) (by kernel_rfl) (phi_stab _ _) (phi_shp _ _) shp_inh ?_; simp only [List.take_succ_cons, List.take_zero, List.drop_succ_cons, List.drop_zero]; apply Exists.intro; apply Exists.intro; refine ⟨?_, ?_, ?_⟩)
  · intro ν hν
    (refine wpF_cst hGroup _ rfl (by rfl) (by decide) (by decide) rfl rfl (fun d hd => by cases hd; rfl) ?_; (simp only [Act.put, vqF, pS]))
    (refine wpF_mark hGroup 12 rfl rfl (by simp) rfl rfl rfl rfl (fun d hd => by cases hd; rfl) ?_; (simp only [Act.put, vqF, pS]))
    iterate 2 (apply wpF_q rfl; focus (intro C hC hG; (first | go_big_quiet_skip | (go_big_quiet_want; go_big_quiet_op; first | go_big_quiet_on | (refine ⟨_, fun _ _ => rfl, ?_⟩; go_big_quiet_on)) | (go_big_quiet_want; apply qf_load1 _ _ rfl _ _ rfl; (exact hC); rotate_left 1; (focus (intro _; simp [go_sem]; done)); rotate_right 1; assumption; assumption; (simp only [Act.put, lS]; go_big_quiet_on)) | (go_big_quiet_want; apply qf_loadA _ _ rfl _ _ rfl (sz := 32); (exact hC); rotate_left 1; (focus (intro _; simp [go_sem]; done)); (focus (intro _; simp [go_sem]; done)); rotate_right 1; assumption; assumption; assumption; (simp only [Act.put, lS]; go_big_quiet_on))); exact wpQuiet_nil rfl))
    have sv2 := x1.shape
    (refine wpF_prt [v2] [share] _ rfl (by rfl) (by simp) (by simp) ?_ (fun w hB hk => ⟨x1.below hB, trivial⟩) rfl rfl (fun d hd => by cases hd; rfl) ?_; (focus (intro v hv; simp only [List.mem_cons, List.not_mem_nil, or_false] at hv; (repeat' (first | subst hv | rcases hv with rfl | hv)); all_goals first | rfl | assumption | exact hν _)); (simp only [Act.put, vqF, pS]))
    (apply wpF_free; (focus rfl); (focus rfl); (exact (fun w' _ hd => of_byt (k := 17) rfl (l3 ▸ vec_any 2 _ [share] w' (by decide) (hd 16 (by simp) rfl).2 l1 (by simp)))); (focus (intro w; simp [go_sem]; done)); simp only [Act.put, vqF, pS])
    (refine wpF_prt [ν 13, ν 17] [hGroup, vecB share 2] _ rfl (by rfl) (by simp) (by simp) ?_ (fun w hB hk => ⟨(hk 13 (by simp) rfl).2, hk 17 (by simp) rfl, trivial⟩) rfl rfl (fun d hd => by cases hd; rfl) ?_; (focus (intro v hv; simp only [List.mem_cons, List.not_mem_nil, or_false] at hv; (repeat' (first | subst hv | rcases hv with rfl | hv)); all_goals first | rfl | assumption | exact hν _)); (simp only [Act.put, vqF, pS]))
    (apply wpF_free; (focus rfl); (focus rfl); (exact (fun w' _ hd => of_byt (k := 19) rfl (l4 ▸ vec_any 2 _ [hGroup, vecB share 2] w' (by decide) (hd 18 (by simp) rfl).2 l2 (by simp)))); (focus (intro w; simp [go_sem]; done)); simp only [Act.put, vqF, pS])
    exact wpF_nil ⟨rfl, rfl⟩
  · intro ν ν'; kernel_rfl
  intro ν w2 hν hB1 hD
  have f3 := Lib.hid (show SlB w2 (ν 19) (vecB (hGroup ++ vecB share 2) 2) from hD 19 (by simp))
  have s3 : isSliceV (ν 19) = true := hν 19
  have hr := hr.below hB1 hr.lt
  have hB := hB.trans (hB1.mono hB.size)
  obtain ⟨u3, hu3⟩ : ∃ u, u = ν 19 := ⟨_, rfl⟩
  rw [← hu3] at f3 s3 ⊢
  clear hD hν hB1 hu3 x1 l1 l2 l3 l4
  go_upto_region 4 with (fail)
  (refine wp_region_seq 6 [20, 21, 22, 23, 25] [] shp (phi _ [(20, .cst hChosen), (21, .ful hChosen), (22, .cst hShare), (23, .ful hShare), (25, .prf [hChosen, hShare, vecB (hGroup ++ vecB share 2) 2])]) (by kernel_rfl) (phi_stab _ _) (phi_shp _ _) shp_inh ?_; simp only [List.take_succ_cons, List.take_zero, List.drop_succ_cons, List.drop_zero]; apply Exists.intro; apply Exists.intro; refine ⟨?_, ?_, ?_⟩)
  · intro ν hν
    (refine wpF_cst hChosen _ rfl (by rfl) (by decide) (by decide) rfl rfl (fun d hd => by cases hd; rfl) ?_; (simp only [Act.put, vqF, pS]))
    (refine wpF_mark hChosen 20 rfl rfl (by simp) rfl rfl rfl rfl (fun d hd => by cases hd; rfl) ?_; (simp only [Act.put, vqF, pS]))
    (refine wpF_cst hShare _ rfl (by rfl) (by decide) (by decide) rfl rfl (fun d hd => by cases hd; rfl) ?_; (simp only [Act.put, vqF, pS]))
    (refine wpF_mark hShare 22 rfl rfl (by simp) rfl rfl rfl rfl (fun d hd => by cases hd; rfl) ?_; (simp only [Act.put, vqF, pS]))
    (apply wpF_q rfl; focus (intro C hC hG; (first | go_big_quiet_skip | (go_big_quiet_want; go_big_quiet_op; first | go_big_quiet_on | (refine ⟨_, fun _ _ => rfl, ?_⟩; go_big_quiet_on)) | (go_big_quiet_want; apply qf_load1 _ _ rfl _ _ rfl; (exact hC); rotate_left 1; (focus (intro _; simp [go_sem]; done)); rotate_right 1; assumption; assumption; (simp only [Act.put, lS]; go_big_quiet_on)) | (go_big_quiet_want; apply qf_loadA _ _ rfl _ _ rfl (sz := 32); (exact hC); rotate_left 1; (focus (intro _; simp [go_sem]; done)); (focus (intro _; simp [go_sem]; done)); rotate_right 1; assumption; assumption; assumption; (simp only [Act.put, lS]; go_big_quiet_on))); exact wpQuiet_nil rfl))
    (refine wpF_prt [ν 21, ν 23, u3] [hChosen, hShare, vecB (hGroup ++ vecB share 2) 2] _ rfl (by rfl) (by simp) (by simp) ?_ (fun w hB hk => ⟨(hk 21 (by simp) rfl).2, (hk 23 (by simp) rfl).2, f3.out.below hB, trivial⟩) rfl rfl (fun d hd => by cases hd; rfl) ?_; (focus (intro v hv; simp only [List.mem_cons, List.not_mem_nil, or_false] at hv; (repeat' (first | subst hv | rcases hv with rfl | hv)); all_goals first | rfl | assumption | exact hν _)); (simp only [Act.put, vqF, pS]))
    exact wpF_nil ⟨rfl, rfl⟩
  · intro ν ν'; kernel_rfl
  intro ν w3 hν hB1 hD
  have f4 := Lib.hid (show FK.holds (.prf [hChosen, hShare, vecB (hGroup ++ vecB share 2) 2]) 0 (ν 25) w3 from hD 25 (by simp))
  have hr := hr.below hB1 hr.lt
  have hB := hB.trans (hB1.mono hB.size)
  obtain ⟨u4, hu4⟩ : ∃ u, u = ν 25 := ⟨_, rfl⟩
  rw [← hu4] at f4 ⊢
  clear hD hν hB1 hu4 f3
  go_upto_region 6 with (fail)
  (refine wp_region_seq 7 [29, 30, 31, 32, 33, 34] [] shp (phi _ [(29, .cst hPsk), (30, .ful hPsk), (31, .cst hFirst), (32, .ful hFirst), (33, .prf [hPsk, hFirst]), (34, .prt ([hChosen, hShare, vecB (hGroup ++ vecB share 2) 2] ++ [hPsk, hFirst]))]) (by kernel_rfl) (phi_stab _ _) (phi_shp _ _) shp_inh ?_; simp only [List.take_succ_cons, List.take_zero, List.drop_succ_cons, List.drop_zero]; apply Exists.intro; apply Exists.intro; refine ⟨?_, ?_, ?_⟩)
  · intro ν hν
    (apply wpF_q rfl; focus (intro C hC hG; (first | go_big_quiet_skip | (go_big_quiet_want; go_big_quiet_op; first | go_big_quiet_on | (refine ⟨_, fun _ _ => rfl, ?_⟩; go_big_quiet_on)) | (go_big_quiet_want; apply qf_load1 _ _ rfl _ _ rfl; (exact hC); rotate_left 1; (focus (intro _; simp [go_sem]; done)); rotate_right 1; assumption; assumption; (simp only [Act.put, lS]; go_big_quiet_on)) | (go_big_quiet_want; apply qf_loadA _ _ rfl _ _ rfl (sz := 32); (exact hC); rotate_left 1; (focus (intro _; simp [go_sem]; done)); (focus (intro _; simp [go_sem]; done)); rotate_right 1; assumption; assumption; assumption; (simp only [Act.put, lS]; go_big_quiet_on))); exact wpQuiet_nil rfl))
    (refine wpF_cst hPsk _ rfl (by rfl) (by decide) (by decide) rfl rfl (fun d hd => by cases hd; rfl) ?_; (simp only [Act.put, vqF, pS]))
    (refine wpF_mark hPsk 29 rfl rfl (by simp) rfl rfl rfl rfl (fun d hd => by cases hd; rfl) ?_; (simp only [Act.put, vqF, pS]))
    (refine wpF_cst hFirst _ rfl (by rfl) (by decide) (by decide) rfl rfl (fun d hd => by cases hd; rfl) ?_; (simp only [Act.put, vqF, pS]))
    (refine wpF_mark hFirst 31 rfl rfl (by simp) rfl rfl rfl rfl (fun d hd => by cases hd; rfl) ?_; (simp only [Act.put, vqF, pS]))
    (refine wpF_prt [ν 30, ν 32] [hPsk, hFirst] _ rfl (by rfl) (by simp) (by simp) ?_ (fun w hB hk => ⟨(hk 30 (by simp) rfl).2, (hk 32 (by simp) rfl).2, trivial⟩) rfl rfl (fun d hd => by cases hd; rfl) ?_; (focus (intro v hv; simp only [List.mem_cons, List.not_mem_nil, or_false] at hv; (repeat' (first | subst hv | rcases hv with rfl | hv)); all_goals first | rfl | assumption | exact hν _)); (simp only [Act.put, vqF, pS]))
    (refine wpF_appP 28 33 [hChosen, hShare, vecB (hGroup ++ vecB share 2) 2] [hPsk, hFirst] rfl (fun w _ hB => ⟨f4.out.1, f4.out.2.below hB⟩) rfl (by simp) rfl rfl (by simp) (by simp) rfl rfl (fun d hd => by cases hd; rfl) ?_; (simp only [Act.put, vqF, pS]))
    exact wpF_nil ⟨rfl, rfl⟩
  · intro ν ν'; kernel_rfl
  intro ν w4 hν hB1 hD
  have f5 := Lib.hid (show PartsAt w4 (ν 34) ([hChosen, hShare, vecB (hGroup ++ vecB share 2) 2] ++ [hPsk, hFirst]) from hD 34 (by simp))
  have hB := hB.trans (hB1.mono hB.size)
  obtain ⟨u4, hu4⟩ : ∃ u, u = ν 34 := ⟨_, rfl⟩
  rw [← hu4] at f5 ⊢
  clear hD hν hB1 hu4 f4
  go_wp2_with fail
  go_ret
  exact ⟨_, rfl, f5.out, hB⟩
set_option maxRecDepth 100000 in
set_option maxHeartbeats 4000000 in
theorem answers_tt (r mk share : List UInt8) (k : Int) (v1 v2 v3 v4 v5 v6 : Value) (life age : Int) (w : World) (h2 : SlB w v2 share) (hb : share.length ≤ 100000) :
    Calls Try.prog 41 #[.agg (mD k r mk [v1, v2, v3, v4, v5, v6, .int .i64 life, .int .i64 age, .bool true, .bool true])] w fun e w' => ∃ v, e = .returned v ∧ PartsAt w' v ([hChosen, hShare, vecB hGroup 2] ++ [hPsk, hFirst]) ∧ Below w.heap.size w w' := by
  have H2 := Lib.hid h2
  clear h2
  go_enter Try.func41, Try.ntmps41
  go_upto_region 1 with (fail)
  obtain ⟨w0, hw0⟩ : ∃ w0, w0 = w.alloc (.cells (mD k r mk [v1, v2, v3, v4, v5, v6, .int .i64 life, .int .i64 age, .bool true, .bool true]) 30) := ⟨_, rfl⟩
  rw [← hw0]
  have hr : Row w0 w.heap.size 30 (mD k r mk [v1, v2, v3, v4, v5, v6, .int .i64 life, .int .i64 age, .bool true, .bool true]) := by rw [hw0]; exact Row.new _ _ _
  have hB : Below w.heap.size w w0 := by rw [hw0]; (repeat (first | (with_reducible exact Below.refl _ _) | ((with_reducible first | refine bSetRow ?_ ?_ _ | refine Below.alloc ?_ ?_ _ | refine Below.setCell ?_ ?_ _); rotate_left 1; (focus (first | (simp; done) | (simp; omega)))) | (with_reducible refine Below.drew ?_)))
  have g66 : (mD k r mk [v1, v2, v3, v4, v5, v6, .int .i64 life, .int .i64 age, .bool true, .bool true])[66]? = some v2 := mD_66
  clear hw0
  (refine wp_region_seq 4 [5, 6, 7, 8] [] shp (phi _ [(5, .cst hGroup), (6, .ful hGroup), (7, .prf [hGroup]), (8, .byt (vecB hGroup 2))]) (by kernel_rfl) (phi_stab _ _) (phi_shp _ _) shp_inh ?_; simp only [List.take_succ_cons, List.take_zero, List.drop_succ_cons, List.drop_zero]; apply Exists.intro; apply Exists.intro; refine ⟨?_, ?_, ?_⟩)
  · intro ν hν
    (refine wpF_cst hGroup _ rfl (by rfl) (by decide) (by decide) rfl rfl (fun d hd => by cases hd; rfl) ?_; (simp only [Act.put, vqF, pS]))
    (refine wpF_mark hGroup 5 rfl rfl (by simp) rfl rfl rfl rfl (fun d hd => by cases hd; rfl) ?_; (simp only [Act.put, vqF, pS]))
    (refine wpF_prt [ν 6] [hGroup] _ rfl (by rfl) (by simp) (by simp) ?_ (fun w hB hk => ⟨(hk 6 (by simp) rfl).2, trivial⟩) rfl rfl (fun d hd => by cases hd; rfl) ?_; (focus (intro v hv; simp only [List.mem_cons, List.not_mem_nil, or_false] at hv; (repeat' (first | subst hv | rcases hv with rfl | hv)); all_goals first | rfl | assumption | exact hν _)); (simp only [Act.put, vqF, pS]))
    (apply wpF_free; (focus rfl); (focus rfl); (exact (fun w' _ hd => of_byt (k := 8) rfl (vec_any 2 _ [hGroup] w' (by decide) (hd 7 (by simp) rfl).2 (by decide) (by decide)))); (focus (intro w; simp [go_sem]; done)); simp only [Act.put, vqF, pS])
    exact wpF_nil ⟨rfl, rfl⟩
  · intro ν ν'; kernel_rfl
  intro ν w1 hν hB1 hD
  have f3 := Lib.hid (show SlB w1 (ν 8) (vecB hGroup 2) from hD 8 (by simp))
  have s3 : isSliceV (ν 8) = true := hν 8
  have hr := hr.below hB1 hr.lt
  have hB := hB.trans (hB1.mono hB.size)
  obtain ⟨u3, hu3⟩ : ∃ u, u = ν 8 := ⟨_, rfl⟩
  rw [← hu3] at f3 s3 ⊢
  clear hD hν hB1 hu3
  go_upto_region 4 with (fail)
  (refine wp_region_seq 6 [20, 21, 22, 23, 25] [] shp (phi _ [(20, .cst hChosen), (21, .ful hChosen), (22, .cst hShare), (23, .ful hShare), (25, .prf [hChosen, hShare, vecB hGroup 2])]) (by kernel_rfl) (phi_stab _ _) (phi_shp _ _) shp_inh ?_; simp only [List.take_succ_cons, List.take_zero, List.drop_succ_cons, List.drop_zero]; apply Exists.intro; apply Exists.intro; refine ⟨?_, ?_, ?_⟩)
  · intro ν hν
    (refine wpF_cst hChosen _ rfl (by rfl) (by decide) (by decide) rfl rfl (fun d hd => by cases hd; rfl) ?_; (simp only [Act.put, vqF, pS]))
    (refine wpF_mark hChosen 20 rfl rfl (by simp) rfl rfl rfl rfl (fun d hd => by cases hd; rfl) ?_; (simp only [Act.put, vqF, pS]))
    (refine wpF_cst hShare _ rfl (by rfl) (by decide) (by decide) rfl rfl (fun d hd => by cases hd; rfl) ?_; (simp only [Act.put, vqF, pS]))
    (refine wpF_mark hShare 22 rfl rfl (by simp) rfl rfl rfl rfl (fun d hd => by cases hd; rfl) ?_; (simp only [Act.put, vqF, pS]))
    (apply wpF_q rfl; focus (intro C hC hG; (first | go_big_quiet_skip | (go_big_quiet_want; go_big_quiet_op; first | go_big_quiet_on | (refine ⟨_, fun _ _ => rfl, ?_⟩; go_big_quiet_on)) | (go_big_quiet_want; apply qf_load1 _ _ rfl _ _ rfl; (exact hC); rotate_left 1; (focus (intro _; simp [go_sem]; done)); rotate_right 1; assumption; assumption; (simp only [Act.put, lS]; go_big_quiet_on)) | (go_big_quiet_want; apply qf_loadA _ _ rfl _ _ rfl (sz := 32); (exact hC); rotate_left 1; (focus (intro _; simp [go_sem]; done)); (focus (intro _; simp [go_sem]; done)); rotate_right 1; assumption; assumption; assumption; (simp only [Act.put, lS]; go_big_quiet_on))); exact wpQuiet_nil rfl))
    (refine wpF_prt [ν 21, ν 23, u3] [hChosen, hShare, vecB hGroup 2] _ rfl (by rfl) (by simp) (by simp) ?_ (fun w hB hk => ⟨(hk 21 (by simp) rfl).2, (hk 23 (by simp) rfl).2, f3.out.below hB, trivial⟩) rfl rfl (fun d hd => by cases hd; rfl) ?_; (focus (intro v hv; simp only [List.mem_cons, List.not_mem_nil, or_false] at hv; (repeat' (first | subst hv | rcases hv with rfl | hv)); all_goals first | rfl | assumption | exact hν _)); (simp only [Act.put, vqF, pS]))
    exact wpF_nil ⟨rfl, rfl⟩
  · intro ν ν'; kernel_rfl
  intro ν w3 hν hB1 hD
  have f4 := Lib.hid (show FK.holds (.prf [hChosen, hShare, vecB hGroup 2]) 0 (ν 25) w3 from hD 25 (by simp))
  have hr := hr.below hB1 hr.lt
  have hB := hB.trans (hB1.mono hB.size)
  obtain ⟨u4, hu4⟩ : ∃ u, u = ν 25 := ⟨_, rfl⟩
  rw [← hu4] at f4 ⊢
  clear hD hν hB1 hu4 f3
  go_upto_region 6 with (fail)
  (refine wp_region_seq 7 [29, 30, 31, 32, 33, 34] [] shp (phi _ [(29, .cst hPsk), (30, .ful hPsk), (31, .cst hFirst), (32, .ful hFirst), (33, .prf [hPsk, hFirst]), (34, .prt ([hChosen, hShare, vecB hGroup 2] ++ [hPsk, hFirst]))]) (by kernel_rfl) (phi_stab _ _) (phi_shp _ _) shp_inh ?_; simp only [List.take_succ_cons, List.take_zero, List.drop_succ_cons, List.drop_zero]; apply Exists.intro; apply Exists.intro; refine ⟨?_, ?_, ?_⟩)
  · intro ν hν
    (apply wpF_q rfl; focus (intro C hC hG; (first | go_big_quiet_skip | (go_big_quiet_want; go_big_quiet_op; first | go_big_quiet_on | (refine ⟨_, fun _ _ => rfl, ?_⟩; go_big_quiet_on)) | (go_big_quiet_want; apply qf_load1 _ _ rfl _ _ rfl; (exact hC); rotate_left 1; (focus (intro _; simp [go_sem]; done)); rotate_right 1; assumption; assumption; (simp only [Act.put, lS]; go_big_quiet_on)) | (go_big_quiet_want; apply qf_loadA _ _ rfl _ _ rfl (sz := 32); (exact hC); rotate_left 1; (focus (intro _; simp [go_sem]; done)); (focus (intro _; simp [go_sem]; done)); rotate_right 1; assumption; assumption; assumption; (simp only [Act.put, lS]; go_big_quiet_on))); exact wpQuiet_nil rfl))
    (refine wpF_cst hPsk _ rfl (by rfl) (by decide) (by decide) rfl rfl (fun d hd => by cases hd; rfl) ?_; (simp only [Act.put, vqF, pS]))
    (refine wpF_mark hPsk 29 rfl rfl (by simp) rfl rfl rfl rfl (fun d hd => by cases hd; rfl) ?_; (simp only [Act.put, vqF, pS]))
    (refine wpF_cst hFirst _ rfl (by rfl) (by decide) (by decide) rfl rfl (fun d hd => by cases hd; rfl) ?_; (simp only [Act.put, vqF, pS]))
    (refine wpF_mark hFirst 31 rfl rfl (by simp) rfl rfl rfl rfl (fun d hd => by cases hd; rfl) ?_; (simp only [Act.put, vqF, pS]))
    (refine wpF_prt [ν 30, ν 32] [hPsk, hFirst] _ rfl (by rfl) (by simp) (by simp) ?_ (fun w hB hk => ⟨(hk 30 (by simp) rfl).2, (hk 32 (by simp) rfl).2, trivial⟩) rfl rfl (fun d hd => by cases hd; rfl) ?_; (focus (intro v hv; simp only [List.mem_cons, List.not_mem_nil, or_false] at hv; (repeat' (first | subst hv | rcases hv with rfl | hv)); all_goals first | rfl | assumption | exact hν _)); (simp only [Act.put, vqF, pS]))
    (refine wpF_appP 28 33 [hChosen, hShare, vecB hGroup 2] [hPsk, hFirst] rfl (fun w _ hB => ⟨f4.out.1, f4.out.2.below hB⟩) rfl (by simp) rfl rfl (by simp) (by simp) rfl rfl (fun d hd => by cases hd; rfl) ?_; (simp only [Act.put, vqF, pS]))
    exact wpF_nil ⟨rfl, rfl⟩
  · intro ν ν'; kernel_rfl
  intro ν w4 hν hB1 hD
  have f5 := Lib.hid (show PartsAt w4 (ν 34) ([hChosen, hShare, vecB hGroup 2] ++ [hPsk, hFirst]) from hD 34 (by simp))
  have hB := hB.trans (hB1.mono hB.size)
  obtain ⟨u4, hu4⟩ : ∃ u, u = ν 34 := ⟨_, rfl⟩
  rw [← hu4] at f5 ⊢
  clear hD hν hB1 hu4 f4
  go_wp2_with fail
  go_ret
  exact ⟨_, rfl, f5.out, hB⟩
end Go.Proofs.Ytnenoecmmelehaa
