/- Part of the proof: HBodyB. No conditions of its own. -/
import Derived.Below
import Derived.BigQuiet
import Derived.Deep.CutBlock
import Derived.Deep.DeepCutAuto
import Derived.Deep.Draws
import Derived.Deep.LoopGhost
import Derived.Deep.Quiet
import Derived.Deep.QuietTactic
import Derived.Deep.RegionLaw
import Derived.Great.BuildSlice
import Derived.Great.FillDense
import Derived.Laws.AppendOwn
import Derived.Laws.AppendOwnNone
import Derived.Laws.BytesArg
import Derived.Laws.Concat
import Derived.Laws.MakeOwn
import Derived.Lib.AppendZerosOnto
import Derived.Lib.Hide
import Derived.Lib.SlBytesConst
import Derived.StillTail
import Derived.Stop.BytesEq
import Derived.Test.YtnenoecmmelehaaProg
import Derived.WalkKit
import Derived.WalkLawsBesides
import Derived.WalkSpells
import Derived.Test.YtnenoecmmelehaaM14
namespace Go.Proofs.Ytnenoecmmelehaa
open Go.RowKit
set_option linter.unusedVariables false
set_option linter.unusedSimpArgs false

set_option maxRecDepth 100000 in
set_option maxHeartbeats 4000000 in
theorem body_2ff (r mk : List UInt8) (v1 v3 v4 v5 v6 : Value) (v2 : Value) (ses share : List UInt8) (life age : Int) (w : World) (h1 : SlB w v1 ses) (h2 : SlB w v2 share) (hs : ses.length ≤ 100000) (hs2 : share.length ≤ 100000) :
    Calls Try.prog 24 #[.agg (mD 2 r mk [v1, v2, v3, v4, v5, v6, .int .i64 life, .int .i64 age, .bool false, .bool false])] w fun e w' => ∃ v, e = .returned v ∧ SlB w' v ([hVersion, fx r, vecB ses 1, hSuite, vecB ([hChosen, hShare, vecB (hGroup ++ vecB share 2) 2]).flatten 2].flatten) ∧ Below w.heap.size w w' := by
  have H1 := Lib.hid h1
  have sv1 := h1.shape
  have H2 := Lib.hid h2
  have l1 : [ses].flatten.length ≤ 1000000 := by simp; omega
  have L1 := Lib.hid l1
  clear l1
  have l2 : ([hChosen, hShare, vecB (hGroup ++ vecB share 2) 2]).flatten.length ≤ 1000000 := by first | decide | (simp [vecB_len, hChosen, hShare, hPsk, hFirst, hGroup, hVersion, hSuite, fx_len, hAgain]; omega)
  have L2 := Lib.hid l2
  clear l2
  have l3 : [hVersion, fx r, vecB ses 1, hSuite, vecB ([hChosen, hShare, vecB (hGroup ++ vecB share 2) 2]).flatten 2].flatten.length ≤ 1000000 := by simp [vecB_len, hChosen, hShare, hPsk, hFirst, hGroup, hVersion, hSuite, fx_len, hAgain]; omega
  have L3 := Lib.hid l3
  clear l3
  have HS2 := Lib.hid hs2
  clear h1 h2 hs hs2
  go_enter Try.func24, Try.ntmps24
  go_upto_region 5 with (fail)
  obtain ⟨w0, hw0⟩ : ∃ w0, w0 = w.alloc (.cells (mD 2 r mk [v1, v2, v3, v4, v5, v6, .int .i64 life, .int .i64 age, .bool false, .bool false]) 30) := ⟨_, rfl⟩
  rw [← hw0]
  have hr : Row w0 w.heap.size 30 (mD 2 r mk [v1, v2, v3, v4, v5, v6, .int .i64 life, .int .i64 age, .bool false, .bool false]) := by rw [hw0]; exact Row.new _ _ _
  have hB : Below w.heap.size w w0 := by rw [hw0]; (repeat (first | (with_reducible exact Below.refl _ _) | ((with_reducible first | refine bSetRow ?_ ?_ _ | refine Below.alloc ?_ ?_ _ | refine Below.setCell ?_ ?_ _); rotate_left 1; (focus (first | (simp; done) | (simp; omega)))) | (with_reducible refine Below.drew ?_)))
  clear hw0
  have g65 : (mD 2 r mk [v1, v2, v3, v4, v5, v6, .int .i64 life, .int .i64 age, .bool false, .bool false])[65]? = some v1 := mD_65
  go_upto_region 8 with (fail)
  have hrd := hr.drew
  (refine wp_region_freeD 13 [34, 35, 39, 40, 41, 42, 44, 45, 46] [] shp (phi _ [(34, .cst hVersion), (35, .ful hVersion), (39, .prf [ses]), (40, .byt (vecB ses 1)), (41, .cst hSuite), (42, .ful hSuite), (44, .prt ([hChosen, hShare, vecB (hGroup ++ vecB share 2) 2])), (45, .byt (vecB ([hChosen, hShare, vecB (hGroup ++ vecB share 2) 2]).flatten 2)), (46, .prf [hVersion, fx r, vecB ses 1, hSuite, vecB ([hChosen, hShare, vecB (hGroup ++ vecB share 2) 2]).flatten 2])]) (by kernel_rfl) (by kernel_rfl) (by kernel_rfl) (phi_stab _ _) (phi_shp _ _) shp_inh ?_; simp only [List.take_succ_cons, List.take_zero, List.drop_succ_cons, List.drop_zero]; apply Exists.intro; apply Exists.intro; refine ⟨?_, ?_, ?_⟩)
  · intro ν hν
    (refine wpF_cst hVersion _ rfl (by rfl) (by decide) (by decide) rfl rfl (fun d hd => by cases hd; rfl) ?_; (simp only [Act.put, vqF, pS]))
    (refine wpF_mark hVersion 34 rfl rfl (by simp) rfl rfl rfl rfl (fun d hd => by cases hd; rfl) ?_; (simp only [Act.put, vqF, pS]))
    iterate 3 (apply wpF_q rfl; focus (intro C hC hG; (first | go_big_quiet_skip | (go_big_quiet_want; go_big_quiet_op; first | go_big_quiet_on | (refine ⟨_, fun _ _ => rfl, ?_⟩; go_big_quiet_on)) | (go_big_quiet_want; apply qf_load1 _ _ rfl _ _ rfl; (exact hC); rotate_left 1; (focus (intro _; simp [go_sem]; done)); rotate_right 1; assumption; assumption; (simp only [Act.put, lS]; go_big_quiet_on)) | (go_big_quiet_want; apply qf_loadA _ _ rfl _ _ rfl (sz := 32); (exact hC); rotate_left 1; (focus (intro _; simp [go_sem]; done)); (focus (intro _; simp [go_sem]; done)); rotate_right 1; assumption; assumption; assumption; (simp only [Act.put, lS]; go_big_quiet_on))); exact wpQuiet_nil rfl))
    (refine wpF_prt [v1] [ses] _ rfl (by rfl) (by simp) (by simp) ?_ (fun w hB' hk => ⟨(H1.out.below hB.drew).below hB', trivial⟩) rfl rfl (fun d hd => by cases hd; rfl) ?_; (focus (intro v hv; simp only [List.mem_cons, List.not_mem_nil, or_false] at hv; (repeat' (first | subst hv | rcases hv with rfl | hv)); all_goals first | rfl | assumption | exact hν _)); (simp only [Act.put, vqF, pS]))
    (apply wpF_free; (focus rfl); (focus rfl); (exact (fun w' _ hd => of_byt (k := 40) rfl ((show vecB [ses].flatten 1 = vecB ses 1 by simp) ▸ vec_any 1 _ [ses] w' (by decide) (hd 39 (by simp) rfl).2 L1.out (by simp)))); (focus (intro w; simp [go_sem]; done)); simp only [Act.put, vqF, pS])
    (refine wpF_cst hSuite _ rfl (by rfl) (by decide) (by decide) rfl rfl (fun d hd => by cases hd; rfl) ?_; (simp only [Act.put, vqF, pS]))
    (refine wpF_mark hSuite 41 rfl rfl (by simp) rfl rfl rfl rfl (fun d hd => by cases hd; rfl) ?_; (simp only [Act.put, vqF, pS]))
    (apply wpF_q rfl; focus (intro C hC hG; go_big_quiet_want; apply qf_loadM _ rfl _ rfl; (exact hC); assumption; (exact mD_sz); (simp only [Act.put, lS]; go_big_quiet_on); exact wpQuiet_nil rfl))
    (apply wpF_free; (focus rfl); (focus rfl); (exact (fun w' hB' hd => of_prt (k := 44) rfl (answers_ff r mk share 2 v1 v2 v3 v4 v5 v6 life age w' ((H2.out.below hB.drew).below hB') HS2.out))); (focus (intro w; simp [go_sem]; done)); simp only [Act.put, vqF, pS])
    (apply wpF_free; (focus rfl); (focus rfl); (exact (fun w' _ hd => of_byt (k := 45) rfl (vec_any 2 _ ([hChosen, hShare, vecB (hGroup ++ vecB share 2) 2]) w' (by decide) (hd 44 (by simp) rfl) L2.out (by simp)))); (focus (intro w; simp [go_sem]; done)); simp only [Act.put, vqF, pS])
    (refine wpF_prt [ν 35, .slice (some ⟨w.heap.size, 1, none⟩) 32 32, ν 40, ν 42, ν 45] [hVersion, fx r, vecB ses 1, hSuite, vecB ([hChosen, hShare, vecB (hGroup ++ vecB share 2) 2]).flatten 2] _ rfl (by rfl) (by simp) (by simp) ?_ (fun w hB' hk => ⟨(hk 35 (by simp) rfl).2, (SlB.rand hrd).below hB', hk 40 (by simp) rfl, (hk 42 (by simp) rfl).2, hk 45 (by simp) rfl, trivial⟩) rfl rfl (fun d hd => by cases hd; rfl) ?_; (focus (intro v hv; simp only [List.mem_cons, List.not_mem_nil, or_false] at hv; (repeat' (first | subst hv | rcases hv with rfl | hv)); all_goals first | rfl | assumption | exact hν _)); (simp only [Act.put, vqF, pS]))
    exact wpF_nil ⟨rfl, rfl⟩
  · intro ν ν'; kernel_rfl
  intro ν w2 hν hB1 hD
  have f46 := Lib.hid (phi_get (k := .prf [hVersion, fx r, vecB ses 1, hSuite, vecB ([hChosen, hShare, vecB (hGroup ++ vecB share 2) 2]).flatten 2]) (hD 46 (by simp)) rfl)
  have s_u46 : isSliceV (ν 46) = true := hν 46
  have hr := Row.below hr.drew hB1 hr.lt
  have hB := Below.trans hB.drew (hB1.mono hB.drew.size)
  obtain ⟨u46, hu46⟩ : ∃ u, u = ν 46 := ⟨_, rfl⟩
  rw [← hu46] at f46 s_u46 ⊢
  clear hu46
  clear hD hν hB1 hrd
  go_wp2_with fail
  refine (concat_any _ [hVersion, fx r, vecB ses 1, hSuite, vecB ([hChosen, hShare, vecB (hGroup ++ vecB share 2) 2]).flatten 2] _ (f46.out.2) L3.out (by simp)).mono ?_
  rintro e w3 ⟨v, rfl, hb, hb2⟩
  have HBB := Lib.hid hb.slb
  have hB := Below.trans hB (hb2.mono hB.size)
  clear hb hb2
  go_wp2_with fail
  go_ret
  exact ⟨_, rfl,  HBB.out, hB⟩
set_option maxRecDepth 100000 in
set_option maxHeartbeats 4000000 in
theorem body_2ft (r mk : List UInt8) (v1 v3 v4 v5 v6 : Value) (v2 : Value) (ses share : List UInt8) (life age : Int) (w : World) (h1 : SlB w v1 ses) (h2 : SlB w v2 share) (hs : ses.length ≤ 100000) (hs2 : share.length ≤ 100000) :
    Calls Try.prog 24 #[.agg (mD 2 r mk [v1, v2, v3, v4, v5, v6, .int .i64 life, .int .i64 age, .bool false, .bool true])] w fun e w' => ∃ v, e = .returned v ∧ SlB w' v ([hVersion, hAgain, vecB ses 1, hSuite, vecB ([hChosen, hShare, vecB hGroup 2]).flatten 2].flatten) ∧ Below w.heap.size w w' := by
  have H1 := Lib.hid h1
  have sv1 := h1.shape
  have H2 := Lib.hid h2
  have l1 : [ses].flatten.length ≤ 1000000 := by simp; omega
  have L1 := Lib.hid l1
  clear l1
  have l2 : ([hChosen, hShare, vecB hGroup 2]).flatten.length ≤ 1000000 := by first | decide | (simp [vecB_len, hChosen, hShare, hPsk, hFirst, hGroup, hVersion, hSuite, fx_len, hAgain]; omega)
  have L2 := Lib.hid l2
  clear l2
  have l3 : [hVersion, hAgain, vecB ses 1, hSuite, vecB ([hChosen, hShare, vecB hGroup 2]).flatten 2].flatten.length ≤ 1000000 := by simp [vecB_len, hChosen, hShare, hPsk, hFirst, hGroup, hVersion, hSuite, fx_len, hAgain]; omega
  have L3 := Lib.hid l3
  clear l3
  have HS2 := Lib.hid hs2
  clear h1 h2 hs hs2
  go_enter Try.func24, Try.ntmps24
  go_upto_region 5 with (fail)
  obtain ⟨w0, hw0⟩ : ∃ w0, w0 = w.alloc (.cells (mD 2 r mk [v1, v2, v3, v4, v5, v6, .int .i64 life, .int .i64 age, .bool false, .bool true]) 30) := ⟨_, rfl⟩
  rw [← hw0]
  have hr : Row w0 w.heap.size 30 (mD 2 r mk [v1, v2, v3, v4, v5, v6, .int .i64 life, .int .i64 age, .bool false, .bool true]) := by rw [hw0]; exact Row.new _ _ _
  have hB : Below w.heap.size w w0 := by rw [hw0]; (repeat (first | (with_reducible exact Below.refl _ _) | ((with_reducible first | refine bSetRow ?_ ?_ _ | refine Below.alloc ?_ ?_ _ | refine Below.setCell ?_ ?_ _); rotate_left 1; (focus (first | (simp; done) | (simp; omega)))) | (with_reducible refine Below.drew ?_)))
  clear hw0
  have g65 : (mD 2 r mk [v1, v2, v3, v4, v5, v6, .int .i64 life, .int .i64 age, .bool false, .bool true])[65]? = some v1 := mD_65
  go_upto_region 7 with (fail)
  (refine wp_region_seq 2 [32, 33] [] shp (phi _ [(32, .cst hAgain), (33, .ful hAgain)]) (by kernel_rfl) (phi_stab _ _) (phi_shp _ _) shp_inh ?_; simp only [List.take_succ_cons, List.take_zero, List.drop_succ_cons, List.drop_zero]; apply Exists.intro; apply Exists.intro; refine ⟨?_, ?_, ?_⟩)
  · intro ν hν
    (refine wpF_cst hAgain _ rfl (by rfl) (by decide) (by decide) rfl rfl (fun d hd => by cases hd; rfl) ?_; (simp only [Act.put, vqF, pS]))
    (refine wpF_mark hAgain 32 rfl rfl (by simp) rfl rfl rfl rfl (fun d hd => by cases hd; rfl) ?_; (simp only [Act.put, vqF, pS]))
    exact wpF_nil ⟨rfl, rfl⟩
  · intro ν ν'; kernel_rfl
  intro ν w1 hν hB1 hD
  have f3 := Lib.hid (phi_get (k := .ful hAgain) (hD 33 (by simp)) rfl)
  have s_u3 : isSliceV (ν 33) = true := hν 33
  have hr := Row.below hr hB1 hr.lt
  have hB := Below.trans hB (hB1.mono hB.size)
  obtain ⟨u3, hu3⟩ : ∃ u, u = ν 33 := ⟨_, rfl⟩
  rw [← hu3] at f3 s_u3 ⊢
  clear hu3
  clear hD hν hB1
  go_upto_region 8 with (fail)
  have hrd := hr.drew
  (refine wp_region_freeD 13 [34, 35, 39, 40, 41, 42, 44, 45, 46] [] shp (phi _ [(34, .cst hVersion), (35, .ful hVersion), (39, .prf [ses]), (40, .byt (vecB ses 1)), (41, .cst hSuite), (42, .ful hSuite), (44, .prt ([hChosen, hShare, vecB hGroup 2])), (45, .byt (vecB ([hChosen, hShare, vecB hGroup 2]).flatten 2)), (46, .prf [hVersion, hAgain, vecB ses 1, hSuite, vecB ([hChosen, hShare, vecB hGroup 2]).flatten 2])]) (by kernel_rfl) (by kernel_rfl) (by kernel_rfl) (phi_stab _ _) (phi_shp _ _) shp_inh ?_; simp only [List.take_succ_cons, List.take_zero, List.drop_succ_cons, List.drop_zero]; apply Exists.intro; apply Exists.intro; refine ⟨?_, ?_, ?_⟩)
  · intro ν hν
    (refine wpF_cst hVersion _ rfl (by rfl) (by decide) (by decide) rfl rfl (fun d hd => by cases hd; rfl) ?_; (simp only [Act.put, vqF, pS]))
    (refine wpF_mark hVersion 34 rfl rfl (by simp) rfl rfl rfl rfl (fun d hd => by cases hd; rfl) ?_; (simp only [Act.put, vqF, pS]))
    iterate 3 (apply wpF_q rfl; focus (intro C hC hG; (first | go_big_quiet_skip | (go_big_quiet_want; go_big_quiet_op; first | go_big_quiet_on | (refine ⟨_, fun _ _ => rfl, ?_⟩; go_big_quiet_on)) | (go_big_quiet_want; apply qf_load1 _ _ rfl _ _ rfl; (exact hC); rotate_left 1; (focus (intro _; simp [go_sem]; done)); rotate_right 1; assumption; assumption; (simp only [Act.put, lS]; go_big_quiet_on)) | (go_big_quiet_want; apply qf_loadA _ _ rfl _ _ rfl (sz := 32); (exact hC); rotate_left 1; (focus (intro _; simp [go_sem]; done)); (focus (intro _; simp [go_sem]; done)); rotate_right 1; assumption; assumption; assumption; (simp only [Act.put, lS]; go_big_quiet_on))); exact wpQuiet_nil rfl))
    (refine wpF_prt [v1] [ses] _ rfl (by rfl) (by simp) (by simp) ?_ (fun w hB' hk => ⟨(H1.out.below hB.drew).below hB', trivial⟩) rfl rfl (fun d hd => by cases hd; rfl) ?_; (focus (intro v hv; simp only [List.mem_cons, List.not_mem_nil, or_false] at hv; (repeat' (first | subst hv | rcases hv with rfl | hv)); all_goals first | rfl | assumption | exact hν _)); (simp only [Act.put, vqF, pS]))
    (apply wpF_free; (focus rfl); (focus rfl); (exact (fun w' _ hd => of_byt (k := 40) rfl ((show vecB [ses].flatten 1 = vecB ses 1 by simp) ▸ vec_any 1 _ [ses] w' (by decide) (hd 39 (by simp) rfl).2 L1.out (by simp)))); (focus (intro w; simp [go_sem]; done)); simp only [Act.put, vqF, pS])
    (refine wpF_cst hSuite _ rfl (by rfl) (by decide) (by decide) rfl rfl (fun d hd => by cases hd; rfl) ?_; (simp only [Act.put, vqF, pS]))
    (refine wpF_mark hSuite 41 rfl rfl (by simp) rfl rfl rfl rfl (fun d hd => by cases hd; rfl) ?_; (simp only [Act.put, vqF, pS]))
    (apply wpF_q rfl; focus (intro C hC hG; go_big_quiet_want; apply qf_loadM _ rfl _ rfl; (exact hC); assumption; (exact mD_sz); (simp only [Act.put, lS]; go_big_quiet_on); exact wpQuiet_nil rfl))
    (apply wpF_free; (focus rfl); (focus rfl); (exact (fun w' hB' hd => of_prt (k := 44) rfl (answers_ft r mk share 2 v1 v2 v3 v4 v5 v6 life age w' ((H2.out.below hB.drew).below hB') HS2.out))); (focus (intro w; simp [go_sem]; done)); simp only [Act.put, vqF, pS])
    (apply wpF_free; (focus rfl); (focus rfl); (exact (fun w' _ hd => of_byt (k := 45) rfl (vec_any 2 _ ([hChosen, hShare, vecB hGroup 2]) w' (by decide) (hd 44 (by simp) rfl) L2.out (by simp)))); (focus (intro w; simp [go_sem]; done)); simp only [Act.put, vqF, pS])
    (refine wpF_prt [ν 35, u3, ν 40, ν 42, ν 45] [hVersion, hAgain, vecB ses 1, hSuite, vecB ([hChosen, hShare, vecB hGroup 2]).flatten 2] _ rfl (by rfl) (by simp) (by simp) ?_ (fun w hB' hk => ⟨(hk 35 (by simp) rfl).2, f3.out.2.below (Below.trans (Below.refl _ w1).drew hB'), hk 40 (by simp) rfl, (hk 42 (by simp) rfl).2, hk 45 (by simp) rfl, trivial⟩) rfl rfl (fun d hd => by cases hd; rfl) ?_; (focus (intro v hv; simp only [List.mem_cons, List.not_mem_nil, or_false] at hv; (repeat' (first | subst hv | rcases hv with rfl | hv)); all_goals first | rfl | assumption | exact hν _)); (simp only [Act.put, vqF, pS]))
    exact wpF_nil ⟨rfl, rfl⟩
  · intro ν ν'; kernel_rfl
  intro ν w2 hν hB1 hD
  have f46 := Lib.hid (phi_get (k := .prf [hVersion, hAgain, vecB ses 1, hSuite, vecB ([hChosen, hShare, vecB hGroup 2]).flatten 2]) (hD 46 (by simp)) rfl)
  have s_u46 : isSliceV (ν 46) = true := hν 46
  have hr := Row.below hr.drew hB1 hr.lt
  have hB := Below.trans hB.drew (hB1.mono hB.drew.size)
  obtain ⟨u46, hu46⟩ : ∃ u, u = ν 46 := ⟨_, rfl⟩
  rw [← hu46] at f46 s_u46 ⊢
  clear hu46
  clear hD hν hB1 hrd
  go_wp2_with fail
  refine (concat_any _ [hVersion, hAgain, vecB ses 1, hSuite, vecB ([hChosen, hShare, vecB hGroup 2]).flatten 2] _ (f46.out.2) L3.out (by simp)).mono ?_
  rintro e w3 ⟨v, rfl, hb, hb2⟩
  have HBB := Lib.hid hb.slb
  have hB := Below.trans hB (hb2.mono hB.size)
  clear hb hb2
  go_wp2_with fail
  go_ret
  exact ⟨_, rfl,  HBB.out, hB⟩
set_option maxRecDepth 100000 in
set_option maxHeartbeats 4000000 in
theorem body_2tf (r mk : List UInt8) (v1 v3 v4 v5 v6 : Value) (v2 : Value) (ses share : List UInt8) (life age : Int) (w : World) (h1 : SlB w v1 ses) (h2 : SlB w v2 share) (hs : ses.length ≤ 100000) (hs2 : share.length ≤ 100000) :
    Calls Try.prog 24 #[.agg (mD 2 r mk [v1, v2, v3, v4, v5, v6, .int .i64 life, .int .i64 age, .bool true, .bool false])] w fun e w' => ∃ v, e = .returned v ∧ SlB w' v ([hVersion, fx r, vecB ses 1, hSuite, vecB ([hChosen, hShare, vecB (hGroup ++ vecB share 2) 2] ++ [hPsk, hFirst]).flatten 2].flatten) ∧ Below w.heap.size w w' := by
  have H1 := Lib.hid h1
  have sv1 := h1.shape
  have H2 := Lib.hid h2
  have l1 : [ses].flatten.length ≤ 1000000 := by simp; omega
  have L1 := Lib.hid l1
  clear l1
  have l2 : ([hChosen, hShare, vecB (hGroup ++ vecB share 2) 2] ++ [hPsk, hFirst]).flatten.length ≤ 1000000 := by first | decide | (simp [vecB_len, hChosen, hShare, hPsk, hFirst, hGroup, hVersion, hSuite, fx_len, hAgain]; omega)
  have L2 := Lib.hid l2
  clear l2
  have l3 : [hVersion, fx r, vecB ses 1, hSuite, vecB ([hChosen, hShare, vecB (hGroup ++ vecB share 2) 2] ++ [hPsk, hFirst]).flatten 2].flatten.length ≤ 1000000 := by simp [vecB_len, hChosen, hShare, hPsk, hFirst, hGroup, hVersion, hSuite, fx_len, hAgain]; omega
  have L3 := Lib.hid l3
  clear l3
  have HS2 := Lib.hid hs2
  clear h1 h2 hs hs2
  go_enter Try.func24, Try.ntmps24
  go_upto_region 5 with (fail)
  obtain ⟨w0, hw0⟩ : ∃ w0, w0 = w.alloc (.cells (mD 2 r mk [v1, v2, v3, v4, v5, v6, .int .i64 life, .int .i64 age, .bool true, .bool false]) 30) := ⟨_, rfl⟩
  rw [← hw0]
  have hr : Row w0 w.heap.size 30 (mD 2 r mk [v1, v2, v3, v4, v5, v6, .int .i64 life, .int .i64 age, .bool true, .bool false]) := by rw [hw0]; exact Row.new _ _ _
  have hB : Below w.heap.size w w0 := by rw [hw0]; (repeat (first | (with_reducible exact Below.refl _ _) | ((with_reducible first | refine bSetRow ?_ ?_ _ | refine Below.alloc ?_ ?_ _ | refine Below.setCell ?_ ?_ _); rotate_left 1; (focus (first | (simp; done) | (simp; omega)))) | (with_reducible refine Below.drew ?_)))
  clear hw0
  have g65 : (mD 2 r mk [v1, v2, v3, v4, v5, v6, .int .i64 life, .int .i64 age, .bool true, .bool false])[65]? = some v1 := mD_65
  go_upto_region 8 with (fail)
  have hrd := hr.drew
  (refine wp_region_freeD 13 [34, 35, 39, 40, 41, 42, 44, 45, 46] [] shp (phi _ [(34, .cst hVersion), (35, .ful hVersion), (39, .prf [ses]), (40, .byt (vecB ses 1)), (41, .cst hSuite), (42, .ful hSuite), (44, .prt ([hChosen, hShare, vecB (hGroup ++ vecB share 2) 2] ++ [hPsk, hFirst])), (45, .byt (vecB ([hChosen, hShare, vecB (hGroup ++ vecB share 2) 2] ++ [hPsk, hFirst]).flatten 2)), (46, .prf [hVersion, fx r, vecB ses 1, hSuite, vecB ([hChosen, hShare, vecB (hGroup ++ vecB share 2) 2] ++ [hPsk, hFirst]).flatten 2])]) (by kernel_rfl) (by kernel_rfl) (by kernel_rfl) (phi_stab _ _) (phi_shp _ _) shp_inh ?_; simp only [List.take_succ_cons, List.take_zero, List.drop_succ_cons, List.drop_zero]; apply Exists.intro; apply Exists.intro; refine ⟨?_, ?_, ?_⟩)
  · intro ν hν
    (refine wpF_cst hVersion _ rfl (by rfl) (by decide) (by decide) rfl rfl (fun d hd => by cases hd; rfl) ?_; (simp only [Act.put, vqF, pS]))
    (refine wpF_mark hVersion 34 rfl rfl (by simp) rfl rfl rfl rfl (fun d hd => by cases hd; rfl) ?_; (simp only [Act.put, vqF, pS]))
    iterate 3 (apply wpF_q rfl; focus (intro C hC hG; (first | go_big_quiet_skip | (go_big_quiet_want; go_big_quiet_op; first | go_big_quiet_on | (refine ⟨_, fun _ _ => rfl, ?_⟩; go_big_quiet_on)) | (go_big_quiet_want; apply qf_load1 _ _ rfl _ _ rfl; (exact hC); rotate_left 1; (focus (intro _; simp [go_sem]; done)); rotate_right 1; assumption; assumption; (simp only [Act.put, lS]; go_big_quiet_on)) | (go_big_quiet_want; apply qf_loadA _ _ rfl _ _ rfl (sz := 32); (exact hC); rotate_left 1; (focus (intro _; simp [go_sem]; done)); (focus (intro _; simp [go_sem]; done)); rotate_right 1; assumption; assumption; assumption; (simp only [Act.put, lS]; go_big_quiet_on))); exact wpQuiet_nil rfl))
    (refine wpF_prt [v1] [ses] _ rfl (by rfl) (by simp) (by simp) ?_ (fun w hB' hk => ⟨(H1.out.below hB.drew).below hB', trivial⟩) rfl rfl (fun d hd => by cases hd; rfl) ?_; (focus (intro v hv; simp only [List.mem_cons, List.not_mem_nil, or_false] at hv; (repeat' (first | subst hv | rcases hv with rfl | hv)); all_goals first | rfl | assumption | exact hν _)); (simp only [Act.put, vqF, pS]))
    (apply wpF_free; (focus rfl); (focus rfl); (exact (fun w' _ hd => of_byt (k := 40) rfl ((show vecB [ses].flatten 1 = vecB ses 1 by simp) ▸ vec_any 1 _ [ses] w' (by decide) (hd 39 (by simp) rfl).2 L1.out (by simp)))); (focus (intro w; simp [go_sem]; done)); simp only [Act.put, vqF, pS])
    (refine wpF_cst hSuite _ rfl (by rfl) (by decide) (by decide) rfl rfl (fun d hd => by cases hd; rfl) ?_; (simp only [Act.put, vqF, pS]))
    (refine wpF_mark hSuite 41 rfl rfl (by simp) rfl rfl rfl rfl (fun d hd => by cases hd; rfl) ?_; (simp only [Act.put, vqF, pS]))
    (apply wpF_q rfl; focus (intro C hC hG; go_big_quiet_want; apply qf_loadM _ rfl _ rfl; (exact hC); assumption; (exact mD_sz); (simp only [Act.put, lS]; go_big_quiet_on); exact wpQuiet_nil rfl))
    (apply wpF_free; (focus rfl); (focus rfl); (exact (fun w' hB' hd => of_prt (k := 44) rfl (answers_tf r mk share 2 v1 v2 v3 v4 v5 v6 life age w' ((H2.out.below hB.drew).below hB') HS2.out))); (focus (intro w; simp [go_sem]; done)); simp only [Act.put, vqF, pS])
    (apply wpF_free; (focus rfl); (focus rfl); (exact (fun w' _ hd => of_byt (k := 45) rfl (vec_any 2 _ ([hChosen, hShare, vecB (hGroup ++ vecB share 2) 2] ++ [hPsk, hFirst]) w' (by decide) (hd 44 (by simp) rfl) L2.out (by simp)))); (focus (intro w; simp [go_sem]; done)); simp only [Act.put, vqF, pS])
    (refine wpF_prt [ν 35, .slice (some ⟨w.heap.size, 1, none⟩) 32 32, ν 40, ν 42, ν 45] [hVersion, fx r, vecB ses 1, hSuite, vecB ([hChosen, hShare, vecB (hGroup ++ vecB share 2) 2] ++ [hPsk, hFirst]).flatten 2] _ rfl (by rfl) (by simp) (by simp) ?_ (fun w hB' hk => ⟨(hk 35 (by simp) rfl).2, (SlB.rand hrd).below hB', hk 40 (by simp) rfl, (hk 42 (by simp) rfl).2, hk 45 (by simp) rfl, trivial⟩) rfl rfl (fun d hd => by cases hd; rfl) ?_; (focus (intro v hv; simp only [List.mem_cons, List.not_mem_nil, or_false] at hv; (repeat' (first | subst hv | rcases hv with rfl | hv)); all_goals first | rfl | assumption | exact hν _)); (simp only [Act.put, vqF, pS]))
    exact wpF_nil ⟨rfl, rfl⟩
  · intro ν ν'; kernel_rfl
  intro ν w2 hν hB1 hD
  have f46 := Lib.hid (phi_get (k := .prf [hVersion, fx r, vecB ses 1, hSuite, vecB ([hChosen, hShare, vecB (hGroup ++ vecB share 2) 2] ++ [hPsk, hFirst]).flatten 2]) (hD 46 (by simp)) rfl)
  have s_u46 : isSliceV (ν 46) = true := hν 46
  have hr := Row.below hr.drew hB1 hr.lt
  have hB := Below.trans hB.drew (hB1.mono hB.drew.size)
  obtain ⟨u46, hu46⟩ : ∃ u, u = ν 46 := ⟨_, rfl⟩
  rw [← hu46] at f46 s_u46 ⊢
  clear hu46
  clear hD hν hB1 hrd
  go_wp2_with fail
  refine (concat_any _ [hVersion, fx r, vecB ses 1, hSuite, vecB ([hChosen, hShare, vecB (hGroup ++ vecB share 2) 2] ++ [hPsk, hFirst]).flatten 2] _ (f46.out.2) L3.out (by simp)).mono ?_
  rintro e w3 ⟨v, rfl, hb, hb2⟩
  have HBB := Lib.hid hb.slb
  have hB := Below.trans hB (hb2.mono hB.size)
  clear hb hb2
  go_wp2_with fail
  go_ret
  exact ⟨_, rfl,  HBB.out, hB⟩
set_option maxRecDepth 100000 in
set_option maxHeartbeats 4000000 in
theorem body_2tt (r mk : List UInt8) (v1 v3 v4 v5 v6 : Value) (v2 : Value) (ses share : List UInt8) (life age : Int) (w : World) (h1 : SlB w v1 ses) (h2 : SlB w v2 share) (hs : ses.length ≤ 100000) (hs2 : share.length ≤ 100000) :
    Calls Try.prog 24 #[.agg (mD 2 r mk [v1, v2, v3, v4, v5, v6, .int .i64 life, .int .i64 age, .bool true, .bool true])] w fun e w' => ∃ v, e = .returned v ∧ SlB w' v ([hVersion, hAgain, vecB ses 1, hSuite, vecB ([hChosen, hShare, vecB hGroup 2] ++ [hPsk, hFirst]).flatten 2].flatten) ∧ Below w.heap.size w w' := by
  have H1 := Lib.hid h1
  have sv1 := h1.shape
  have H2 := Lib.hid h2
  have l1 : [ses].flatten.length ≤ 1000000 := by simp; omega
  have L1 := Lib.hid l1
  clear l1
  have l2 : ([hChosen, hShare, vecB hGroup 2] ++ [hPsk, hFirst]).flatten.length ≤ 1000000 := by first | decide | (simp [vecB_len, hChosen, hShare, hPsk, hFirst, hGroup, hVersion, hSuite, fx_len, hAgain]; omega)
  have L2 := Lib.hid l2
  clear l2
  have l3 : [hVersion, hAgain, vecB ses 1, hSuite, vecB ([hChosen, hShare, vecB hGroup 2] ++ [hPsk, hFirst]).flatten 2].flatten.length ≤ 1000000 := by simp [vecB_len, hChosen, hShare, hPsk, hFirst, hGroup, hVersion, hSuite, fx_len, hAgain]; omega
  have L3 := Lib.hid l3
  clear l3
  have HS2 := Lib.hid hs2
  clear h1 h2 hs hs2
  go_enter Try.func24, Try.ntmps24
  go_upto_region 5 with (fail)
  obtain ⟨w0, hw0⟩ : ∃ w0, w0 = w.alloc (.cells (mD 2 r mk [v1, v2, v3, v4, v5, v6, .int .i64 life, .int .i64 age, .bool true, .bool true]) 30) := ⟨_, rfl⟩
  rw [← hw0]
  have hr : Row w0 w.heap.size 30 (mD 2 r mk [v1, v2, v3, v4, v5, v6, .int .i64 life, .int .i64 age, .bool true, .bool true]) := by rw [hw0]; exact Row.new _ _ _
  have hB : Below w.heap.size w w0 := by rw [hw0]; (repeat (first | (with_reducible exact Below.refl _ _) | ((with_reducible first | refine bSetRow ?_ ?_ _ | refine Below.alloc ?_ ?_ _ | refine Below.setCell ?_ ?_ _); rotate_left 1; (focus (first | (simp; done) | (simp; omega)))) | (with_reducible refine Below.drew ?_)))
  clear hw0
  have g65 : (mD 2 r mk [v1, v2, v3, v4, v5, v6, .int .i64 life, .int .i64 age, .bool true, .bool true])[65]? = some v1 := mD_65
  go_upto_region 7 with (fail)
  (refine wp_region_seq 2 [32, 33] [] shp (phi _ [(32, .cst hAgain), (33, .ful hAgain)]) (by kernel_rfl) (phi_stab _ _) (phi_shp _ _) shp_inh ?_; simp only [List.take_succ_cons, List.take_zero, List.drop_succ_cons, List.drop_zero]; apply Exists.intro; apply Exists.intro; refine ⟨?_, ?_, ?_⟩)
  · intro ν hν
    (refine wpF_cst hAgain _ rfl (by rfl) (by decide) (by decide) rfl rfl (fun d hd => by cases hd; rfl) ?_; (simp only [Act.put, vqF, pS]))
    (refine wpF_mark hAgain 32 rfl rfl (by simp) rfl rfl rfl rfl (fun d hd => by cases hd; rfl) ?_; (simp only [Act.put, vqF, pS]))
    exact wpF_nil ⟨rfl, rfl⟩
  · intro ν ν'; kernel_rfl
  intro ν w1 hν hB1 hD
  have f3 := Lib.hid (phi_get (k := .ful hAgain) (hD 33 (by simp)) rfl)
  have s_u3 : isSliceV (ν 33) = true := hν 33
  have hr := Row.below hr hB1 hr.lt
  have hB := Below.trans hB (hB1.mono hB.size)
  obtain ⟨u3, hu3⟩ : ∃ u, u = ν 33 := ⟨_, rfl⟩
  rw [← hu3] at f3 s_u3 ⊢
  clear hu3
  clear hD hν hB1
  go_upto_region 8 with (fail)
  have hrd := hr.drew
  (refine wp_region_freeD 13 [34, 35, 39, 40, 41, 42, 44, 45, 46] [] shp (phi _ [(34, .cst hVersion), (35, .ful hVersion), (39, .prf [ses]), (40, .byt (vecB ses 1)), (41, .cst hSuite), (42, .ful hSuite), (44, .prt ([hChosen, hShare, vecB hGroup 2] ++ [hPsk, hFirst])), (45, .byt (vecB ([hChosen, hShare, vecB hGroup 2] ++ [hPsk, hFirst]).flatten 2)), (46, .prf [hVersion, hAgain, vecB ses 1, hSuite, vecB ([hChosen, hShare, vecB hGroup 2] ++ [hPsk, hFirst]).flatten 2])]) (by kernel_rfl) (by kernel_rfl) (by kernel_rfl) (phi_stab _ _) (phi_shp _ _) shp_inh ?_; simp only [List.take_succ_cons, List.take_zero, List.drop_succ_cons, List.drop_zero]; apply Exists.intro; apply Exists.intro; refine ⟨?_, ?_, ?_⟩)
  · intro ν hν
    (refine wpF_cst hVersion _ rfl (by rfl) (by decide) (by decide) rfl rfl (fun d hd => by cases hd; rfl) ?_; (simp only [Act.put, vqF, pS]))
    (refine wpF_mark hVersion 34 rfl rfl (by simp) rfl rfl rfl rfl (fun d hd => by cases hd; rfl) ?_; (simp only [Act.put, vqF, pS]))
    iterate 3 (apply wpF_q rfl; focus (intro C hC hG; (first | go_big_quiet_skip | (go_big_quiet_want; go_big_quiet_op; first | go_big_quiet_on | (refine ⟨_, fun _ _ => rfl, ?_⟩; go_big_quiet_on)) | (go_big_quiet_want; apply qf_load1 _ _ rfl _ _ rfl; (exact hC); rotate_left 1; (focus (intro _; simp [go_sem]; done)); rotate_right 1; assumption; assumption; (simp only [Act.put, lS]; go_big_quiet_on)) | (go_big_quiet_want; apply qf_loadA _ _ rfl _ _ rfl (sz := 32); (exact hC); rotate_left 1; (focus (intro _; simp [go_sem]; done)); (focus (intro _; simp [go_sem]; done)); rotate_right 1; assumption; assumption; assumption; (simp only [Act.put, lS]; go_big_quiet_on))); exact wpQuiet_nil rfl))
    (refine wpF_prt [v1] [ses] _ rfl (by rfl) (by simp) (by simp) ?_ (fun w hB' hk => ⟨(H1.out.below hB.drew).below hB', trivial⟩) rfl rfl (fun d hd => by cases hd; rfl) ?_; (focus (intro v hv; simp only [List.mem_cons, List.not_mem_nil, or_false] at hv; (repeat' (first | subst hv | rcases hv with rfl | hv)); all_goals first | rfl | assumption | exact hν _)); (simp only [Act.put, vqF, pS]))
    (apply wpF_free; (focus rfl); (focus rfl); (exact (fun w' _ hd => of_byt (k := 40) rfl ((show vecB [ses].flatten 1 = vecB ses 1 by simp) ▸ vec_any 1 _ [ses] w' (by decide) (hd 39 (by simp) rfl).2 L1.out (by simp)))); (focus (intro w; simp [go_sem]; done)); simp only [Act.put, vqF, pS])
    (refine wpF_cst hSuite _ rfl (by rfl) (by decide) (by decide) rfl rfl (fun d hd => by cases hd; rfl) ?_; (simp only [Act.put, vqF, pS]))
    (refine wpF_mark hSuite 41 rfl rfl (by simp) rfl rfl rfl rfl (fun d hd => by cases hd; rfl) ?_; (simp only [Act.put, vqF, pS]))
    (apply wpF_q rfl; focus (intro C hC hG; go_big_quiet_want; apply qf_loadM _ rfl _ rfl; (exact hC); assumption; (exact mD_sz); (simp only [Act.put, lS]; go_big_quiet_on); exact wpQuiet_nil rfl))
    (apply wpF_free; (focus rfl); (focus rfl); (exact (fun w' hB' hd => of_prt (k := 44) rfl (answers_tt r mk share 2 v1 v2 v3 v4 v5 v6 life age w' ((H2.out.below hB.drew).below hB') HS2.out))); (focus (intro w; simp [go_sem]; done)); simp only [Act.put, vqF, pS])
    (apply wpF_free; (focus rfl); (focus rfl); (exact (fun w' _ hd => of_byt (k := 45) rfl (vec_any 2 _ ([hChosen, hShare, vecB hGroup 2] ++ [hPsk, hFirst]) w' (by decide) (hd 44 (by simp) rfl) L2.out (by simp)))); (focus (intro w; simp [go_sem]; done)); simp only [Act.put, vqF, pS])
    (refine wpF_prt [ν 35, u3, ν 40, ν 42, ν 45] [hVersion, hAgain, vecB ses 1, hSuite, vecB ([hChosen, hShare, vecB hGroup 2] ++ [hPsk, hFirst]).flatten 2] _ rfl (by rfl) (by simp) (by simp) ?_ (fun w hB' hk => ⟨(hk 35 (by simp) rfl).2, f3.out.2.below (Below.trans (Below.refl _ w1).drew hB'), hk 40 (by simp) rfl, (hk 42 (by simp) rfl).2, hk 45 (by simp) rfl, trivial⟩) rfl rfl (fun d hd => by cases hd; rfl) ?_; (focus (intro v hv; simp only [List.mem_cons, List.not_mem_nil, or_false] at hv; (repeat' (first | subst hv | rcases hv with rfl | hv)); all_goals first | rfl | assumption | exact hν _)); (simp only [Act.put, vqF, pS]))
    exact wpF_nil ⟨rfl, rfl⟩
  · intro ν ν'; kernel_rfl
  intro ν w2 hν hB1 hD
  have f46 := Lib.hid (phi_get (k := .prf [hVersion, hAgain, vecB ses 1, hSuite, vecB ([hChosen, hShare, vecB hGroup 2] ++ [hPsk, hFirst]).flatten 2]) (hD 46 (by simp)) rfl)
  have s_u46 : isSliceV (ν 46) = true := hν 46
  have hr := Row.below hr.drew hB1 hr.lt
  have hB := Below.trans hB.drew (hB1.mono hB.drew.size)
  obtain ⟨u46, hu46⟩ : ∃ u, u = ν 46 := ⟨_, rfl⟩
  rw [← hu46] at f46 s_u46 ⊢
  clear hu46
  clear hD hν hB1 hrd
  go_wp2_with fail
  refine (concat_any _ [hVersion, hAgain, vecB ses 1, hSuite, vecB ([hChosen, hShare, vecB hGroup 2] ++ [hPsk, hFirst]).flatten 2] _ (f46.out.2) L3.out (by simp)).mono ?_
  rintro e w3 ⟨v, rfl, hb, hb2⟩
  have HBB := Lib.hid hb.slb
  have hB := Below.trans hB (hb2.mono hB.size)
  clear hb hb2
  go_wp2_with fail
  go_ret
  exact ⟨_, rfl,  HBB.out, hB⟩
def certR (l : List (List UInt8)) : List (List UInt8) := l.flatMap fun c => [vecB c 3, hNone2]
theorem certR_step (l : List (List UInt8)) (k : Nat) (h : k < l.length) : certR (l.take k) ++ [vecB (l.getD k []) 3, hNone2] = certR (l.take (k + 1)) := by
  unfold certR
  rw [List.take_succ_eq_append_getElem h, List.flatMap_append]
  simp [h]
theorem certR_size (l : List (List UInt8)) : (certR l).length = 2 * l.length := by
  induction l with
  | nil => rfl
  | cons c l ih => simp only [certR, List.flatMap_cons, List.length_append, List.length_cons] at ih ⊢; simp only [List.length_nil]; omega
theorem certR_flat (l : List (List UInt8)) : (certR l).flatten = certsP l := by
  induction l with
  | nil => rfl
  | cons c l ih => simp only [certR, certsP, List.flatMap_cons, List.flatten_append] at ih ⊢; rw [ih]; simp
theorem certsP_len (l : List (List UInt8)) (h : ∀ c, c ∈ l → c.length ≤ 50000) : (certsP l).length ≤ l.length * 50005 := by
  induction l with
  | nil => simp [certsP]
  | cons c l ih =>
    have h1 := ih (fun d hd => h d (List.mem_cons_of_mem _ hd))
    have h2 := h c List.mem_cons_self
    simp only [certsP, List.flatMap_cons, List.length_append, List.length_cons, vecB_len] at h1 ⊢
    have : hNone2.length = 2 := rfl
    omega
theorem certR_len (l : List (List UInt8)) (hn : l.length ≤ 10) (h : ∀ c, c ∈ l → c.length ≤ 50000) : (certR l).flatten.length ≤ 1000000 := by
  rw [certR_flat]
  have := certsP_len l h
  omega
set_option maxRecDepth 100000 in
set_option maxHeartbeats 4000000 in
theorem body_11 (r mk : List UInt8) (v1 v2 v3 v4 v5 : Value) (a6 : Option Addr) (c6 : Nat) (certs : List (List UInt8)) (life age : Int) (psk retry : Bool) (w : World) (h6 : PartsAt w (.slice a6 certs.length c6) certs) (hn : certs.length ≤ 10) (hc : ∀ c, c ∈ certs → c.length ≤ 50000) :
    Calls Try.prog 24 #[.agg (mD 11 r mk [v1, v2, v3, v4, v5, .slice a6 certs.length c6, .int .i64 life, .int .i64 age, .bool psk, .bool retry])] w fun e w' => ∃ v, e = .returned v ∧ SlB w' v (hNone1 ++ vecB (certR certs).flatten 3) ∧ Below w.heap.size w w' := by
  have H6 := Lib.hid h6
  have HC := Lib.hid hc
  have l3 : (certR certs).flatten.length ≤ 1000000 := by exact certR_len certs hn hc
  have L3 := Lib.hid l3
  clear l3
  have l4 : hNone1.length + (vecB (certR certs).flatten 3).length ≤ 1000000000 := by have := certR_len certs hn hc; rw [vecB_len]; have e : hNone1.length = 1 := rfl; omega
  have LS4 := Lib.hid l4
  clear l4
  have l5 : 0 < (vecB (certR certs).flatten 3).length := by rw [vecB_len]; omega
  have LS5 := Lib.hid l5
  clear l5
  clear h6 hc
  go_enter Try.func24, Try.ntmps24
  go_upto_region 15 with (fail)
  obtain ⟨w0, hw0⟩ : ∃ w0, w0 = w.alloc (.cells (mD 11 r mk [v1, v2, v3, v4, v5, .slice a6 certs.length c6, .int .i64 life, .int .i64 age, .bool psk, .bool retry]) 30) := ⟨_, rfl⟩
  rw [← hw0]
  have hr : Row w0 w.heap.size 30 (mD 11 r mk [v1, v2, v3, v4, v5, .slice a6 certs.length c6, .int .i64 life, .int .i64 age, .bool psk, .bool retry]) := by rw [hw0]; exact Row.new _ _ _
  have hB : Below w.heap.size w w0 := by rw [hw0]; (repeat (first | (with_reducible exact Below.refl _ _) | ((with_reducible first | refine bSetRow ?_ ?_ _ | refine Below.alloc ?_ ?_ _ | refine Below.setCell ?_ ?_ _); rotate_left 1; (focus (first | (simp; done) | (simp; omega)))) | (with_reducible refine Below.drew ?_)))
  clear hw0
  go_wp2_with fail
  go_loopg [4, 6, 77] certs.length (fun g lv uv iv wr => ∃ k : Nat, g + k = certs.length ∧ iv = .int .i64 (k : Int) ∧ OwnP wr w.heap.size lv (certR (certs.take k)) ∧ Below w.heap.size w wr)
  case atStart => exact ⟨0, by omega, rfl, by rw [List.take_zero]; exact OwnP.nil _ _, hB⟩
  case round =>
    clear hr hB
    obtain ⟨k, hk, rfl, hO, hB⟩ := hrel
    by_cases h : k < certs.length
    · obtain ⟨a', cap', e', hp1, hp2, hp3⟩ := H6.out
      simp only [Value.slice.injEq] at e'
      obtain ⟨rfl, -, -⟩ := e'
      obtain ⟨g, o, v, ha, hcv, hsv⟩ := hp3 k h
      clear hp1 hp2 hp3
      subst ha
      have x0 : (0 : Int) ≤ (k : Int) := by omega
      have x1 : (k : Int) < (certs.length : Int) := by omega
      have x3 : ((k : Int)).toNat = k := by omega
      have hbd : (k : Int) + 1 ≤ 9223372036854775807 := by omega
      have hcw : wr.cell? ⟨g, o + k, none⟩ = some v := (hB.cell (World.block_lt_of_cell? w _ hcv)).trans hcv
      have hmem : certs.getD k [] ∈ certs := by
        rw [List.getD_eq_getElem?_getD, List.getElem?_eq_getElem h]
        exact List.getElem_mem h
      have hcl := HC.out _ hmem
      have hst := certR_step certs k h
      have hcs := certR_size (certs.take k)
      rw [List.length_take] at hcs
      have hcs2 : (certR (certs.take k)).length + [vecB (certs.getD k []) 3, hNone2].length ≤ 1000000 := by simp; omega
      obtain ⟨q, hq⟩ : ∃ q, q = certs.getD k [] := ⟨_, rfl⟩
      rw [← hq] at hsv hcl hst hcs2
      obtain ⟨X, hX⟩ : ∃ X, X = certR (certs.take k) := ⟨_, rfl⟩
      rw [← hX] at hO hst hcs2
      have sv := hsv.shape
      have hl1 : [q].flatten.length ≤ 1000000 := by simp; omega
      have HSV := Lib.hid hsv
      have HST := Lib.hid hst
      have HCS := Lib.hid hcs2
      have HO := Lib.hid hO
      have HL := Lib.hid hl1
      clear hsv hst hcs hcs2 hO hl1 hcl hmem hq hX hcv
      go_upto_region 18 with (fail)
      (refine wp_region_seq 7 [83, 84, 85, 86, 87] [] shp (phi _ [(83, .prf [q]), (84, .new (vecB q 3)), (85, .cst hNone2), (86, .new hNone2), (87, .prn [vecB q 3, hNone2])]) (by kernel_rfl) (phi_stab _ _) (phi_shp _ _) shp_inh ?_; simp only [List.take_succ_cons, List.take_zero, List.drop_succ_cons, List.drop_zero]; apply Exists.intro; apply Exists.intro; refine ⟨?_, ?_, ?_⟩)
      · intro ν hν
        iterate 2 (apply wpF_q rfl; focus (intro C hC hG; (first | go_big_quiet_skip | (go_big_quiet_want; go_big_quiet_op; first | go_big_quiet_on | (refine ⟨_, fun _ _ => rfl, ?_⟩; go_big_quiet_on)) | (go_big_quiet_want; apply qf_load1 _ _ rfl _ _ rfl; (exact hC); rotate_left 1; (focus (intro _; simp [go_sem]; done)); rotate_right 1; assumption; assumption; (simp only [Act.put, lS]; go_big_quiet_on)) | (go_big_quiet_want; apply qf_loadA _ _ rfl _ _ rfl (sz := 32); (exact hC); rotate_left 1; (focus (intro _; simp [go_sem]; done)); (focus (intro _; simp [go_sem]; done)); rotate_right 1; assumption; assumption; assumption; (simp only [Act.put, lS]; go_big_quiet_on))); exact wpQuiet_nil rfl))
        (refine wpF_prt [v] [q] _ rfl (by rfl) (by simp) (by simp) ?_ (fun w hB' hk => ⟨(HSV.out.below hB).below hB', trivial⟩) rfl rfl (fun d hd => by cases hd; rfl) ?_; (focus (intro v hv; simp only [List.mem_cons, List.not_mem_nil, or_false] at hv; (repeat' (first | subst hv | rcases hv with rfl | hv)); all_goals first | rfl | assumption | exact hν _)); (simp only [Act.put, vqF, pS]))
        (apply wpF_free; (focus rfl); (focus rfl); (exact (fun w' _ hd => of_new (k := 84) rfl ((show vecB [q].flatten 3 = vecB q 3 by simp) ▸ vec_any 3 _ [q] w' (by decide) (hd 83 (by simp) rfl).2 HL.out (by simp)))); (focus (intro w; simp [go_sem]; done)); simp only [Act.put, vqF, pS])
        (refine wpF_cst hNone2 _ rfl (by rfl) (by decide) (by decide) rfl rfl (fun d hd => by cases hd; rfl) ?_; (simp only [Act.put, vqF, pS]))
        (refine wpF_markN hNone2 85 rfl rfl (by simp) rfl rfl rfl rfl (fun d hd => by cases hd; rfl) ?_; (simp only [Act.put, vqF, pS]))
        (refine wpF_prn [ν 84, ν 86] [vecB q 3, hNone2] _ rfl (by rfl) (by simp) (by simp) ?_ (fun w hB hk => ⟨hk 84 (by simp) rfl, hk 86 (by simp) rfl, trivial⟩) rfl rfl (fun d hd => by cases hd; rfl) ?_; (focus (intro v hv; simp only [List.mem_cons, List.not_mem_nil, or_false] at hv; (first | subst hv | (rcases hv with rfl | rfl)); all_goals first | rfl | assumption | exact hν _)); (simp only [Act.put, vqF, pS]))
        exact wpF_nil ⟨rfl, rfl⟩
      · intro ν ν'; kernel_rfl
      intro ν w1 hν hB1 hD
      have f87 := Lib.hid (phi_get (k := .prn [vecB q 3, hNone2]) (hD 87 (by simp)) rfl)
      have s_u87 : isSliceV (ν 87) = true := hν 87
      have HO := Lib.hid (HO.out.soft hB1)
      have hB := Below.trans hB (hB1.mono hB.size)
      obtain ⟨u87, hu87⟩ : ∃ u, u = ν 87 := ⟨_, rfl⟩
      rw [← hu87] at f87 s_u87 ⊢
      clear hu87
      clear hD hν hB1
      clear hcw
      go_wp2_with (at_builtin; refine wpl_appendP rfl (.tmp 81) (.tmp 87) rfl w.heap.size _ X rfl HO.out _ [vecB q 3, hNone2] rfl f87.out HCS.out hB.size ?_)
      intro v' w' hO' hg'
      have hB' : Below w.heap.size w w' := HO.out.below (Nat.le_refl _) hB (Nat.le_refl _) hg'
      have HO' := Lib.hid (HST.out ▸ hO')
      clear hO' hg' hB
      go_wp2_with fail
      go_roundg (gk - 1)
      case measure => omega
      case rel => exact ⟨k + 1, by omega, by go_num, HO'.out, hB'⟩
    · obtain rfl : k = certs.length := by omega
      rw [List.take_length] at hO
      have HO := Lib.hid hO
      have so : isSliceV u4 = true := hO.parts.shape
      have x1 : ¬ (certs.length : Int) < (certs.length : Int) := by omega
      clear hO
      go_upto_region 20 with (fail)
      (refine wp_region_seq 5 [90, 91, 93, 94] [] shp (phi _ [(90, .cst hNone1), (91, .ful hNone1), (93, .byt (vecB (certR certs).flatten 3)), (94, .byt (hNone1 ++ vecB (certR certs).flatten 3))]) (by kernel_rfl) (phi_stab _ _) (phi_shp _ _) shp_inh ?_; simp only [List.take_succ_cons, List.take_zero, List.drop_succ_cons, List.drop_zero]; apply Exists.intro; apply Exists.intro; refine ⟨?_, ?_, ?_⟩)
      · intro ν hν
        (refine wpF_cst hNone1 _ rfl (by rfl) (by decide) (by decide) rfl rfl (fun d hd => by cases hd; rfl) ?_; (simp only [Act.put, vqF, pS]))
        (refine wpF_mark hNone1 90 rfl rfl (by simp) rfl rfl rfl rfl (fun d hd => by cases hd; rfl) ?_; (simp only [Act.put, vqF, pS]))
        (apply wpF_q rfl; focus (intro C hC hG; (first | go_big_quiet_skip | (go_big_quiet_want; go_big_quiet_op; first | go_big_quiet_on | (refine ⟨_, fun _ _ => rfl, ?_⟩; go_big_quiet_on)) | (go_big_quiet_want; apply qf_load1 _ _ rfl _ _ rfl; (exact hC); rotate_left 1; (focus (intro _; simp [go_sem]; done)); rotate_right 1; assumption; assumption; (simp only [Act.put, lS]; go_big_quiet_on)) | (go_big_quiet_want; apply qf_loadA _ _ rfl _ _ rfl (sz := 32); (exact hC); rotate_left 1; (focus (intro _; simp [go_sem]; done)); (focus (intro _; simp [go_sem]; done)); rotate_right 1; assumption; assumption; assumption; (simp only [Act.put, lS]; go_big_quiet_on))); exact wpQuiet_nil rfl))
        (apply wpF_free; (focus rfl); (focus rfl); (exact (fun w' hB' _ => of_byt (k := 93) rfl (vec_any 3 _ (certR certs) w' (by decide) (HO.out.parts.below hB') L3.out (by rw [certR_size]; omega)))); (focus (intro w; simp [go_sem]; done)); simp only [Act.put, vqF, pS])
        (refine wpF_app 91 93 hNone1 (vecB (certR certs).flatten 3) rfl rfl rfl (by simp) rfl rfl (by simp) rfl rfl LS5.out LS4.out rfl rfl (fun d hd => by cases hd; rfl) ?_; (simp only [Act.put, vqF, pS]))
        exact wpF_nil ⟨rfl, rfl⟩
      · intro ν ν'; kernel_rfl
      intro ν w1 hν hB1 hD
      have f := Lib.hid (phi_get (k := .byt (hNone1 ++ vecB (certR certs).flatten 3)) (hD 94 (by simp)) rfl)
      have s_u : isSliceV (ν 94) = true := hν 94
      have hB := Below.trans hB (hB1.mono hB.size)
      obtain ⟨u, hu⟩ : ∃ u, u = ν 94 := ⟨_, rfl⟩
      rw [← hu] at f s_u ⊢
      clear hu
      clear hD hν hB1
      go_wp2_with fail
      go_ret
      exact ⟨_, rfl, f.out, hB⟩
end Go.Proofs.Ytnenoecmmelehaa
