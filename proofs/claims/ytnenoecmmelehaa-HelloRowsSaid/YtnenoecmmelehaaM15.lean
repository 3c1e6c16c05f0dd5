/- Part of the proof: HOffers. No conditions of its own. -/
import Derived.Below
import Derived.BigQuiet
import Derived.Deep.CutBlock
import Derived.Deep.DeepCutAuto
import Derived.Deep.Draws
import Derived.Deep.LoopGhost
import Derived.Deep.Quiet
import Derived.Deep.QuietTactic
import Derived.Deep.RegionLaw
import Derived.Great.BuildSlice
import Derived.Great.FillDense
import Derived.Laws.AppendOwn
import Derived.Laws.AppendOwnNone
import Derived.Laws.BytesArg
import Derived.Laws.Concat
import Derived.Laws.MakeOwn
import Derived.Lib.AppendZerosOnto
import Derived.Lib.Hide
import Derived.Lib.SlBytesConst
import Derived.StillTail
import Derived.Stop.BytesEq
import Derived.Test.YtnenoecmmelehaaProg
import Derived.WalkKit
import Derived.WalkLawsBesides
import Derived.WalkSpells
import Derived.Test.YtnenoecmmelehaaM12
namespace Go.Proofs.Ytnenoecmmelehaa
open Go.RowKit
set_option linter.unusedVariables false

set_option maxRecDepth 100000 in
set_option maxHeartbeats 4000000 in
theorem offers_nf (r mk share ticket : List UInt8) (k : Int) (v1 v3 v4 v5 v6 : Value) (a2 : Option Addr) (c2 : Nat) (life : Int) (an : Nat) (retry : Bool) (w : World) (h3 : SlB w v3 ticket) (hb : share.length ≤ 100000) (hb3 : ticket.length ≤ 100000) (han : an < 4294967296) :
    Calls Try.prog 40 #[.agg (mD k r mk [v1, .slice a2 0 c2, v3, v4, v5, v6, .int .i64 life, .int .i64 (an : Int), .bool false, .bool retry])] w fun e w' => ∃ v, e = .returned v ∧ PartsAt w' v ([hAble, hShare, vecB (vecB ([] : List UInt8) 2) 2]) ∧ Below w.heap.size w w' := by
  have H3 := Lib.hid h3
  clear h3
  have hl := numB_len an 4
  have sv3 := H3.out.shape
  have G67 : (mD k r mk [v1, .slice a2 0 c2, v3, v4, v5, v6, .int .i64 life, .int .i64 (an : Int), .bool false, .bool retry])[67]? = some v3 := mD_67
  have G66 : (mD k r mk [v1, .slice a2 0 c2, v3, v4, v5, v6, .int .i64 life, .int .i64 (an : Int), .bool false, .bool retry])[66]? = some (.slice a2 0 c2) := mD_66
  have G72 : (mD k r mk [v1, .slice a2 0 c2, v3, v4, v5, v6, .int .i64 life, .int .i64 (an : Int), .bool false, .bool retry])[72]? = some (.int .i64 (an : Int)) := mD_72
  have lid : [vecB (vecB ticket 2 ++ numB an 4) 2, hBinder, fx mk].flatten.length ≤ 1000000 := by simp [vecB_len, numB_len, hBinder, fx_len]; omega
  have lid2 : [vecB ticket 2, numB an 4].flatten.length ≤ 1000000 := by simp [vecB_len, numB_len]; omega
  have lid3 : [ticket].flatten.length ≤ 1000000 := by simp; omega
  have lsh : [vecB ([] : List UInt8) 2].flatten.length ≤ 1000000 := by (first | decide | (simp [vecB_len, hGroup]; omega))
  have lsh2 : [([] : List UInt8)].flatten.length ≤ 1000000 := by (first | decide | (simp [vecB_len, hGroup]; omega))
  have lsh3 : [share].flatten.length ≤ 1000000 := by simp; omega
  have lsh4 : hGroup.length + (vecB share 2).length ≤ 1000000000 := by simp [vecB_len, hGroup]; omega
  have lsh5 : 0 < (vecB share 2).length := by rw [vecB_len]; omega
  have LI := Lib.hid lid
  have LI2 := Lib.hid lid2
  have LI3 := Lib.hid lid3
  have LS := Lib.hid lsh
  have LS2 := Lib.hid lsh2
  have LS3 := Lib.hid lsh3
  have LS4 := Lib.hid lsh4
  have LS5 := Lib.hid lsh5
  have HB := Lib.hid hb
  have HA := Lib.hid han
  clear hl lid lid2 lid3 lsh lsh2 lsh3 lsh4 lsh5 hb hb3 han
  go_enter Try.func40, Try.ntmps40
  go_upto_region 2 with (fail)
  obtain ⟨w0, hw0⟩ : ∃ w0, w0 = w.alloc (.cells (mD k r mk [v1, .slice a2 0 c2, v3, v4, v5, v6, .int .i64 life, .int .i64 (an : Int), .bool false, .bool retry]) 30) := ⟨_, rfl⟩
  rw [← hw0]
  have hr : Row w0 w.heap.size 30 (mD k r mk [v1, .slice a2 0 c2, v3, v4, v5, v6, .int .i64 life, .int .i64 (an : Int), .bool false, .bool retry]) := by rw [hw0]; exact Row.new _ _ _
  have hB : Below w.heap.size w w0 := by rw [hw0]; (repeat (first | (with_reducible exact Below.refl _ _) | ((with_reducible first | refine bSetRow ?_ ?_ _ | refine Below.alloc ?_ ?_ _ | refine Below.setCell ?_ ?_ _); rotate_left 1; (focus (first | (simp; done) | (simp; omega)))) | (with_reducible refine Below.drew ?_)))
  clear hw0
  obtain ⟨u3, hu3⟩ : ∃ u, u = Value.slice none 0 0 := ⟨_, rfl⟩
  have f3 := Lib.hid (show FK.holds (.byt []) 0 u3 w0 by rw [hu3]; exact ⟨none, 0, rfl, Nat.le_refl _, Nat.zero_le _, fun _ => rfl, fun _ h => by cases h⟩)
  have s_u3 : isSliceV u3 = true := by rw [hu3]; rfl
  go_upto_region 4 with (fail)
  (refine wp_region_seq 10 [17, 18, 19, 20, 22, 23, 24, 25, 26] [] shp (phi _ [(17, .cst hAble), (18, .ful hAble), (19, .cst hShare), (20, .ful hShare), (22, .prf [([] : List UInt8)]), (23, .byt (vecB ([] : List UInt8) 2)), (24, .prf [vecB ([] : List UInt8) 2]), (25, .byt (vecB (vecB ([] : List UInt8) 2) 2)), (26, .prf [hAble, hShare, vecB (vecB ([] : List UInt8) 2) 2])]) (by kernel_rfl) (phi_stab _ _) (phi_shp _ _) shp_inh ?_; simp only [List.take_succ_cons, List.take_zero, List.drop_succ_cons, List.drop_zero]; apply Exists.intro; apply Exists.intro; refine ⟨?_, ?_, ?_⟩)
  · intro ν hν
    (refine wpF_cst hAble _ rfl (by rfl) (by decide) (by decide) rfl rfl (fun d hd => by cases hd; rfl) ?_; (simp only [Act.put, vqF, pS]))
    (refine wpF_mark hAble 17 rfl rfl (by simp) rfl rfl rfl rfl (fun d hd => by cases hd; rfl) ?_; (simp only [Act.put, vqF, pS]))
    (refine wpF_cst hShare _ rfl (by rfl) (by decide) (by decide) rfl rfl (fun d hd => by cases hd; rfl) ?_; (simp only [Act.put, vqF, pS]))
    (refine wpF_mark hShare 19 rfl rfl (by simp) rfl rfl rfl rfl (fun d hd => by cases hd; rfl) ?_; (simp only [Act.put, vqF, pS]))
    (apply wpF_q rfl; focus (intro C hC hG; (first | go_big_quiet_skip | (go_big_quiet_want; go_big_quiet_op; first | go_big_quiet_on | (refine ⟨_, fun _ _ => rfl, ?_⟩; go_big_quiet_on)) | (go_big_quiet_want; apply qf_load1 _ _ rfl _ _ rfl; (exact hC); rotate_left 1; (focus (intro _; simp [go_sem]; done)); rotate_right 1; assumption; assumption; (simp only [Act.put, lS]; go_big_quiet_on)) | (go_big_quiet_want; apply qf_loadA _ _ rfl _ _ rfl (sz := 32); (exact hC); rotate_left 1; (focus (intro _; simp [go_sem]; done)); (focus (intro _; simp [go_sem]; done)); rotate_right 1; assumption; assumption; assumption; (simp only [Act.put, lS]; go_big_quiet_on))); exact wpQuiet_nil rfl))
    (refine wpF_prt [(.slice none 0 0)] [([] : List UInt8)] _ rfl (by rfl) (by simp) (by simp) ?_ (fun w hB' hk => ⟨hu3 ▸ f3.out.below hB', trivial⟩) rfl rfl (fun d hd => by cases hd; rfl) ?_; (focus (intro v hv; simp only [List.mem_cons, List.not_mem_nil, or_false] at hv; (repeat' (first | subst hv | rcases hv with rfl | hv)); all_goals first | rfl | assumption | exact hν _)); (simp only [Act.put, vqF, pS]))
    (apply wpF_free; (focus rfl); (focus rfl); (exact (fun w' _ hd => of_byt (k := 23) rfl ((show vecB [([] : List UInt8)].flatten 2 = vecB ([] : List UInt8) 2 by simp) ▸ vec_any 2 _ [([] : List UInt8)] w' (by decide) (hd 22 (by simp) rfl).2 LS2.out (by simp)))); (focus (intro w; simp [go_sem]; done)); simp only [Act.put, vqF, pS])
    (refine wpF_prt [ν 23] [vecB ([] : List UInt8) 2] _ rfl (by rfl) (by simp) (by simp) ?_ (fun w hB hk => ⟨hk 23 (by simp) rfl, trivial⟩) rfl rfl (fun d hd => by cases hd; rfl) ?_; (focus (intro v hv; simp only [List.mem_cons, List.not_mem_nil, or_false] at hv; (repeat' (first | subst hv | rcases hv with rfl | hv)); all_goals first | rfl | assumption | exact hν _)); (simp only [Act.put, vqF, pS]))
    (apply wpF_free; (focus rfl); (focus rfl); (exact (fun w' _ hd => of_byt (k := 25) rfl ((show vecB [vecB ([] : List UInt8) 2].flatten 2 = vecB (vecB ([] : List UInt8) 2) 2 by simp) ▸ vec_any 2 _ [vecB ([] : List UInt8) 2] w' (by decide) (hd 24 (by simp) rfl).2 LS.out (by simp)))); (focus (intro w; simp [go_sem]; done)); simp only [Act.put, vqF, pS])
    (refine wpF_prt [ν 18, ν 20, ν 25] [hAble, hShare, vecB (vecB ([] : List UInt8) 2) 2] _ rfl (by rfl) (by simp) (by simp) ?_ (fun w hB hk => ⟨(hk 18 (by simp) rfl).2, (hk 20 (by simp) rfl).2, hk 25 (by simp) rfl, trivial⟩) rfl rfl (fun d hd => by cases hd; rfl) ?_; (focus (intro v hv; simp only [List.mem_cons, List.not_mem_nil, or_false] at hv; (repeat' (first | subst hv | rcases hv with rfl | hv)); all_goals first | rfl | assumption | exact hν _)); (simp only [Act.put, vqF, pS]))
    exact wpF_nil ⟨rfl, rfl⟩
  · intro ν ν'; kernel_rfl
  intro ν w2 hν hB1 hD
  have f4 := Lib.hid (phi_get (k := .prf [hAble, hShare, vecB (vecB ([] : List UInt8) 2) 2]) (hD 26 (by simp)) rfl)
  have s_u4 : isSliceV (ν 26) = true := hν 26
  have hr := Row.below hr hB1 hr.lt
  have hB := Below.trans hB (hB1.mono hB.size)
  obtain ⟨u4, hu4⟩ : ∃ u, u = ν 26 := ⟨_, rfl⟩
  rw [← hu4] at f4 s_u4 ⊢
  clear hu4
  clear hD hν hB1
  clear f3
  go_wp2_with fail
  go_ret
  exact ⟨_, rfl, f4.out.2, hB⟩
set_option maxRecDepth 100000 in
set_option maxHeartbeats 4000000 in
theorem offers_nt (r mk share ticket : List UInt8) (k : Int) (v1 v3 v4 v5 v6 : Value) (a2 : Option Addr) (c2 : Nat) (life : Int) (an : Nat) (retry : Bool) (w : World) (h3 : SlB w v3 ticket) (hb : share.length ≤ 100000) (hb3 : ticket.length ≤ 100000) (han : an < 4294967296) :
    Calls Try.prog 40 #[.agg (mD k r mk [v1, .slice a2 0 c2, v3, v4, v5, v6, .int .i64 life, .int .i64 (an : Int), .bool true, .bool retry])] w fun e w' => ∃ v, e = .returned v ∧ PartsAt w' v ([hAble, hShare, vecB (vecB ([] : List UInt8) 2) 2] ++ [hModes, hPsk, vecB (vecB (vecB ticket 2 ++ numB an 4) 2 ++ (hBinder ++ fx mk)) 2]) ∧ Below w.heap.size w w' := by
  have H3 := Lib.hid h3
  clear h3
  have hl := numB_len an 4
  have sv3 := H3.out.shape
  have G67 : (mD k r mk [v1, .slice a2 0 c2, v3, v4, v5, v6, .int .i64 life, .int .i64 (an : Int), .bool true, .bool retry])[67]? = some v3 := mD_67
  have G66 : (mD k r mk [v1, .slice a2 0 c2, v3, v4, v5, v6, .int .i64 life, .int .i64 (an : Int), .bool true, .bool retry])[66]? = some (.slice a2 0 c2) := mD_66
  have G72 : (mD k r mk [v1, .slice a2 0 c2, v3, v4, v5, v6, .int .i64 life, .int .i64 (an : Int), .bool true, .bool retry])[72]? = some (.int .i64 (an : Int)) := mD_72
  have lid : [vecB (vecB ticket 2 ++ numB an 4) 2, hBinder, fx mk].flatten.length ≤ 1000000 := by simp [vecB_len, numB_len, hBinder, fx_len]; omega
  have lid2 : [vecB ticket 2, numB an 4].flatten.length ≤ 1000000 := by simp [vecB_len, numB_len]; omega
  have lid3 : [ticket].flatten.length ≤ 1000000 := by simp; omega
  have lsh : [vecB ([] : List UInt8) 2].flatten.length ≤ 1000000 := by (first | decide | (simp [vecB_len, hGroup]; omega))
  have lsh2 : [([] : List UInt8)].flatten.length ≤ 1000000 := by (first | decide | (simp [vecB_len, hGroup]; omega))
  have lsh3 : [share].flatten.length ≤ 1000000 := by simp; omega
  have lsh4 : hGroup.length + (vecB share 2).length ≤ 1000000000 := by simp [vecB_len, hGroup]; omega
  have lsh5 : 0 < (vecB share 2).length := by rw [vecB_len]; omega
  have LI := Lib.hid lid
  have LI2 := Lib.hid lid2
  have LI3 := Lib.hid lid3
  have LS := Lib.hid lsh
  have LS2 := Lib.hid lsh2
  have LS3 := Lib.hid lsh3
  have LS4 := Lib.hid lsh4
  have LS5 := Lib.hid lsh5
  have HB := Lib.hid hb
  have HA := Lib.hid han
  clear hl lid lid2 lid3 lsh lsh2 lsh3 lsh4 lsh5 hb hb3 han
  go_enter Try.func40, Try.ntmps40
  go_upto_region 2 with (fail)
  obtain ⟨w0, hw0⟩ : ∃ w0, w0 = w.alloc (.cells (mD k r mk [v1, .slice a2 0 c2, v3, v4, v5, v6, .int .i64 life, .int .i64 (an : Int), .bool true, .bool retry]) 30) := ⟨_, rfl⟩
  rw [← hw0]
  have hr : Row w0 w.heap.size 30 (mD k r mk [v1, .slice a2 0 c2, v3, v4, v5, v6, .int .i64 life, .int .i64 (an : Int), .bool true, .bool retry]) := by rw [hw0]; exact Row.new _ _ _
  have hB : Below w.heap.size w w0 := by rw [hw0]; (repeat (first | (with_reducible exact Below.refl _ _) | ((with_reducible first | refine bSetRow ?_ ?_ _ | refine Below.alloc ?_ ?_ _ | refine Below.setCell ?_ ?_ _); rotate_left 1; (focus (first | (simp; done) | (simp; omega)))) | (with_reducible refine Below.drew ?_)))
  clear hw0
  obtain ⟨u3, hu3⟩ : ∃ u, u = Value.slice none 0 0 := ⟨_, rfl⟩
  have f3 := Lib.hid (show FK.holds (.byt []) 0 u3 w0 by rw [hu3]; exact ⟨none, 0, rfl, Nat.le_refl _, Nat.zero_le _, fun _ => rfl, fun _ h => by cases h⟩)
  have s_u3 : isSliceV u3 = true := by rw [hu3]; rfl
  go_upto_region 4 with (fail)
  (refine wp_region_seq 10 [17, 18, 19, 20, 22, 23, 24, 25, 26] [] shp (phi _ [(17, .cst hAble), (18, .ful hAble), (19, .cst hShare), (20, .ful hShare), (22, .prf [([] : List UInt8)]), (23, .byt (vecB ([] : List UInt8) 2)), (24, .prf [vecB ([] : List UInt8) 2]), (25, .byt (vecB (vecB ([] : List UInt8) 2) 2)), (26, .prf [hAble, hShare, vecB (vecB ([] : List UInt8) 2) 2])]) (by kernel_rfl) (phi_stab _ _) (phi_shp _ _) shp_inh ?_; simp only [List.take_succ_cons, List.take_zero, List.drop_succ_cons, List.drop_zero]; apply Exists.intro; apply Exists.intro; refine ⟨?_, ?_, ?_⟩)
  · intro ν hν
    (refine wpF_cst hAble _ rfl (by rfl) (by decide) (by decide) rfl rfl (fun d hd => by cases hd; rfl) ?_; (simp only [Act.put, vqF, pS]))
    (refine wpF_mark hAble 17 rfl rfl (by simp) rfl rfl rfl rfl (fun d hd => by cases hd; rfl) ?_; (simp only [Act.put, vqF, pS]))
    (refine wpF_cst hShare _ rfl (by rfl) (by decide) (by decide) rfl rfl (fun d hd => by cases hd; rfl) ?_; (simp only [Act.put, vqF, pS]))
    (refine wpF_mark hShare 19 rfl rfl (by simp) rfl rfl rfl rfl (fun d hd => by cases hd; rfl) ?_; (simp only [Act.put, vqF, pS]))
    (apply wpF_q rfl; focus (intro C hC hG; (first | go_big_quiet_skip | (go_big_quiet_want; go_big_quiet_op; first | go_big_quiet_on | (refine ⟨_, fun _ _ => rfl, ?_⟩; go_big_quiet_on)) | (go_big_quiet_want; apply qf_load1 _ _ rfl _ _ rfl; (exact hC); rotate_left 1; (focus (intro _; simp [go_sem]; done)); rotate_right 1; assumption; assumption; (simp only [Act.put, lS]; go_big_quiet_on)) | (go_big_quiet_want; apply qf_loadA _ _ rfl _ _ rfl (sz := 32); (exact hC); rotate_left 1; (focus (intro _; simp [go_sem]; done)); (focus (intro _; simp [go_sem]; done)); rotate_right 1; assumption; assumption; assumption; (simp only [Act.put, lS]; go_big_quiet_on))); exact wpQuiet_nil rfl))
    (refine wpF_prt [(.slice none 0 0)] [([] : List UInt8)] _ rfl (by rfl) (by simp) (by simp) ?_ (fun w hB' hk => ⟨hu3 ▸ f3.out.below hB', trivial⟩) rfl rfl (fun d hd => by cases hd; rfl) ?_; (focus (intro v hv; simp only [List.mem_cons, List.not_mem_nil, or_false] at hv; (repeat' (first | subst hv | rcases hv with rfl | hv)); all_goals first | rfl | assumption | exact hν _)); (simp only [Act.put, vqF, pS]))
    (apply wpF_free; (focus rfl); (focus rfl); (exact (fun w' _ hd => of_byt (k := 23) rfl ((show vecB [([] : List UInt8)].flatten 2 = vecB ([] : List UInt8) 2 by simp) ▸ vec_any 2 _ [([] : List UInt8)] w' (by decide) (hd 22 (by simp) rfl).2 LS2.out (by simp)))); (focus (intro w; simp [go_sem]; done)); simp only [Act.put, vqF, pS])
    (refine wpF_prt [ν 23] [vecB ([] : List UInt8) 2] _ rfl (by rfl) (by simp) (by simp) ?_ (fun w hB hk => ⟨hk 23 (by simp) rfl, trivial⟩) rfl rfl (fun d hd => by cases hd; rfl) ?_; (focus (intro v hv; simp only [List.mem_cons, List.not_mem_nil, or_false] at hv; (repeat' (first | subst hv | rcases hv with rfl | hv)); all_goals first | rfl | assumption | exact hν _)); (simp only [Act.put, vqF, pS]))
    (apply wpF_free; (focus rfl); (focus rfl); (exact (fun w' _ hd => of_byt (k := 25) rfl ((show vecB [vecB ([] : List UInt8) 2].flatten 2 = vecB (vecB ([] : List UInt8) 2) 2 by simp) ▸ vec_any 2 _ [vecB ([] : List UInt8) 2] w' (by decide) (hd 24 (by simp) rfl).2 LS.out (by simp)))); (focus (intro w; simp [go_sem]; done)); simp only [Act.put, vqF, pS])
    (refine wpF_prt [ν 18, ν 20, ν 25] [hAble, hShare, vecB (vecB ([] : List UInt8) 2) 2] _ rfl (by rfl) (by simp) (by simp) ?_ (fun w hB hk => ⟨(hk 18 (by simp) rfl).2, (hk 20 (by simp) rfl).2, hk 25 (by simp) rfl, trivial⟩) rfl rfl (fun d hd => by cases hd; rfl) ?_; (focus (intro v hv; simp only [List.mem_cons, List.not_mem_nil, or_false] at hv; (repeat' (first | subst hv | rcases hv with rfl | hv)); all_goals first | rfl | assumption | exact hν _)); (simp only [Act.put, vqF, pS]))
    exact wpF_nil ⟨rfl, rfl⟩
  · intro ν ν'; kernel_rfl
  intro ν w2 hν hB1 hD
  have f4 := Lib.hid (phi_get (k := .prf [hAble, hShare, vecB (vecB ([] : List UInt8) 2) 2]) (hD 26 (by simp)) rfl)
  have s_u4 : isSliceV (ν 26) = true := hν 26
  have hr := Row.below hr hB1 hr.lt
  have hB := Below.trans hB (hB1.mono hB.size)
  obtain ⟨u4, hu4⟩ : ∃ u, u = ν 26 := ⟨_, rfl⟩
  rw [← hu4] at f4 s_u4 ⊢
  clear hu4
  clear hD hν hB1
  clear f3
  go_upto_region 6 with (fail)
  have hrd := hr.drew
  (refine wp_region_freeD 9 [31, 32, 35, 36, 37] [] shp (phi _ [(31, .prf [ticket]), (32, .byt (vecB ticket 2)), (35, .byt (numB an 4)), (36, .prf [vecB ticket 2, numB an 4]), (37, .byt (vecB (vecB ticket 2 ++ numB an 4) 2))]) (by kernel_rfl) (by kernel_rfl) (by kernel_rfl) (phi_stab _ _) (phi_shp _ _) shp_inh ?_; simp only [List.take_succ_cons, List.take_zero, List.drop_succ_cons, List.drop_zero]; apply Exists.intro; apply Exists.intro; refine ⟨?_, ?_, ?_⟩)
  · intro ν hν
    iterate 2 (apply wpF_q rfl; focus (intro C hC hG; (first | go_big_quiet_skip | (go_big_quiet_want; go_big_quiet_op; first | go_big_quiet_on | (refine ⟨_, fun _ _ => rfl, ?_⟩; go_big_quiet_on)) | (go_big_quiet_want; apply qf_load1 _ _ rfl _ _ rfl; (exact hC); rotate_left 1; (focus (intro _; simp [go_sem]; done)); rotate_right 1; assumption; assumption; (simp only [Act.put, lS]; go_big_quiet_on)) | (go_big_quiet_want; apply qf_loadA _ _ rfl _ _ rfl (sz := 32); (exact hC); rotate_left 1; (focus (intro _; simp [go_sem]; done)); (focus (intro _; simp [go_sem]; done)); rotate_right 1; assumption; assumption; assumption; (simp only [Act.put, lS]; go_big_quiet_on))); exact wpQuiet_nil rfl))
    (refine wpF_prt [v3] [ticket] _ rfl (by rfl) (by simp) (by simp) ?_ (fun w hB' hk => ⟨(H3.out.below hB.drew).below hB', trivial⟩) rfl rfl (fun d hd => by cases hd; rfl) ?_; (focus (intro v hv; simp only [List.mem_cons, List.not_mem_nil, or_false] at hv; (repeat' (first | subst hv | rcases hv with rfl | hv)); all_goals first | rfl | assumption | exact hν _)); (simp only [Act.put, vqF, pS]))
    (apply wpF_free; (focus rfl); (focus rfl); (exact (fun w' _ hd => of_byt (k := 32) rfl ((show vecB [ticket].flatten 2 = vecB ticket 2 by simp) ▸ vec_any 2 _ [ticket] w' (by decide) (hd 31 (by simp) rfl).2 LI3.out (by simp)))); (focus (intro w; simp [go_sem]; done)); simp only [Act.put, vqF, pS])
    iterate 2 (apply wpF_q rfl; focus (intro C hC hG; (first | go_big_quiet_skip | (go_big_quiet_want; go_big_quiet_op; first | go_big_quiet_on | (refine ⟨_, fun _ _ => rfl, ?_⟩; go_big_quiet_on)) | (go_big_quiet_want; apply qf_load1 _ _ rfl _ _ rfl; (exact hC); rotate_left 1; (focus (intro _; simp [go_sem]; done)); rotate_right 1; assumption; assumption; (simp only [Act.put, lS]; go_big_quiet_on)) | (go_big_quiet_want; apply qf_loadA _ _ rfl _ _ rfl (sz := 32); (exact hC); rotate_left 1; (focus (intro _; simp [go_sem]; done)); (focus (intro _; simp [go_sem]; done)); rotate_right 1; assumption; assumption; assumption; (simp only [Act.put, lS]; go_big_quiet_on))); exact wpQuiet_nil rfl))
    (apply wpF_free; (focus rfl); (focus rfl); (exact (fun w' _ _ => of_byt (k := 35) rfl (num_any an 4 w' HA.out (by decide)))); (focus (intro w; simp [go_sem]; done)); simp only [Act.put, vqF, pS])
    (refine wpF_prt [ν 32, ν 35] [vecB ticket 2, numB an 4] _ rfl (by rfl) (by simp) (by simp) ?_ (fun w hB hk => ⟨hk 32 (by simp) rfl, hk 35 (by simp) rfl, trivial⟩) rfl rfl (fun d hd => by cases hd; rfl) ?_; (focus (intro v hv; simp only [List.mem_cons, List.not_mem_nil, or_false] at hv; (repeat' (first | subst hv | rcases hv with rfl | hv)); all_goals first | rfl | assumption | exact hν _)); (simp only [Act.put, vqF, pS]))
    (apply wpF_free; (focus rfl); (focus rfl); (exact (fun w' _ hd => of_byt (k := 37) rfl ((show vecB [vecB ticket 2, numB an 4].flatten 2 = vecB (vecB ticket 2 ++ numB an 4) 2 by simp) ▸ vec_any 2 _ [vecB ticket 2, numB an 4] w' (by decide) (hd 36 (by simp) rfl).2 LI2.out (by simp)))); (focus (intro w; simp [go_sem]; done)); simp only [Act.put, vqF, pS])
    exact wpF_nil ⟨rfl, rfl⟩
  · intro ν ν'; kernel_rfl
  intro ν w3 hν hB1 hD
  have f5 := Lib.hid (phi_get (k := .byt (vecB (vecB ticket 2 ++ numB an 4) 2)) (hD 37 (by simp)) rfl)
  have s_u5 : isSliceV (ν 37) = true := hν 37
  have hr := Row.below hr.drew hB1 hr.lt
  have hB := Below.trans hB.drew (hB1.mono hB.drew.size)
  have hB4 : Below w2.heap.size w2 w3 := Below.trans (Below.refl _ w2).drew hB1
  obtain ⟨u5, hu5⟩ : ∃ u, u = ν 37 := ⟨_, rfl⟩
  rw [← hu5] at f5 s_u5 ⊢
  clear hu5
  clear hD hν hB1 hrd
  have f4 := Lib.hid (show FK.holds (.prf [hAble, hShare, vecB (vecB ([] : List UInt8) 2) 2]) 0 u4 w3 from ⟨f4.out.1, f4.out.2.below hB4⟩)
  go_upto_region 7 with (fail)
  (refine wp_region_seq 14 [39, 40, 41, 42, 44, 45, 48, 49, 50, 51] [] shp (phi _ [(39, .cst hModes), (40, .ful hModes), (41, .cst hPsk), (42, .ful hPsk), (44, .cst hBinder), (45, .ful hBinder), (48, .prf [vecB (vecB ticket 2 ++ numB an 4) 2, hBinder, fx mk]), (49, .byt (vecB (vecB (vecB ticket 2 ++ numB an 4) 2 ++ (hBinder ++ fx mk)) 2)), (50, .prf [hModes, hPsk, vecB (vecB (vecB ticket 2 ++ numB an 4) 2 ++ (hBinder ++ fx mk)) 2]), (51, .prt ([hAble, hShare, vecB (vecB ([] : List UInt8) 2) 2] ++ [hModes, hPsk, vecB (vecB (vecB ticket 2 ++ numB an 4) 2 ++ (hBinder ++ fx mk)) 2]))]) (by kernel_rfl) (phi_stab _ _) (phi_shp _ _) shp_inh ?_; simp only [List.take_succ_cons, List.take_zero, List.drop_succ_cons, List.drop_zero]; apply Exists.intro; apply Exists.intro; refine ⟨?_, ?_, ?_⟩)
  · intro ν hν
    (apply wpF_q rfl; focus (intro C hC hG; (first | go_big_quiet_skip | (go_big_quiet_want; go_big_quiet_op; first | go_big_quiet_on | (refine ⟨_, fun _ _ => rfl, ?_⟩; go_big_quiet_on)) | (go_big_quiet_want; apply qf_load1 _ _ rfl _ _ rfl; (exact hC); rotate_left 1; (focus (intro _; simp [go_sem]; done)); rotate_right 1; assumption; assumption; (simp only [Act.put, lS]; go_big_quiet_on)) | (go_big_quiet_want; apply qf_loadA _ _ rfl _ _ rfl (sz := 32); (exact hC); rotate_left 1; (focus (intro _; simp [go_sem]; done)); (focus (intro _; simp [go_sem]; done)); rotate_right 1; assumption; assumption; assumption; (simp only [Act.put, lS]; go_big_quiet_on))); exact wpQuiet_nil rfl))
    (refine wpF_cst hModes _ rfl (by rfl) (by decide) (by decide) rfl rfl (fun d hd => by cases hd; rfl) ?_; (simp only [Act.put, vqF, pS]))
    (refine wpF_mark hModes 39 rfl rfl (by simp) rfl rfl rfl rfl (fun d hd => by cases hd; rfl) ?_; (simp only [Act.put, vqF, pS]))
    (refine wpF_cst hPsk _ rfl (by rfl) (by decide) (by decide) rfl rfl (fun d hd => by cases hd; rfl) ?_; (simp only [Act.put, vqF, pS]))
    (refine wpF_mark hPsk 41 rfl rfl (by simp) rfl rfl rfl rfl (fun d hd => by cases hd; rfl) ?_; (simp only [Act.put, vqF, pS]))
    (apply wpF_q rfl; focus (intro C hC hG; (first | go_big_quiet_skip | (go_big_quiet_want; go_big_quiet_op; first | go_big_quiet_on | (refine ⟨_, fun _ _ => rfl, ?_⟩; go_big_quiet_on)) | (go_big_quiet_want; apply qf_load1 _ _ rfl _ _ rfl; (exact hC); rotate_left 1; (focus (intro _; simp [go_sem]; done)); rotate_right 1; assumption; assumption; (simp only [Act.put, lS]; go_big_quiet_on)) | (go_big_quiet_want; apply qf_loadA _ _ rfl _ _ rfl (sz := 32); (exact hC); rotate_left 1; (focus (intro _; simp [go_sem]; done)); (focus (intro _; simp [go_sem]; done)); rotate_right 1; assumption; assumption; assumption; (simp only [Act.put, lS]; go_big_quiet_on))); exact wpQuiet_nil rfl))
    (refine wpF_cst hBinder _ rfl (by rfl) (by decide) (by decide) rfl rfl (fun d hd => by cases hd; rfl) ?_; (simp only [Act.put, vqF, pS]))
    (refine wpF_mark hBinder 44 rfl rfl (by simp) rfl rfl rfl rfl (fun d hd => by cases hd; rfl) ?_; (simp only [Act.put, vqF, pS]))
    iterate 2 (apply wpF_q rfl; focus (intro C hC hG; (first | go_big_quiet_skip | (go_big_quiet_want; go_big_quiet_op; first | go_big_quiet_on | (refine ⟨_, fun _ _ => rfl, ?_⟩; go_big_quiet_on)) | (go_big_quiet_want; apply qf_load1 _ _ rfl _ _ rfl; (exact hC); rotate_left 1; (focus (intro _; simp [go_sem]; done)); rotate_right 1; assumption; assumption; (simp only [Act.put, lS]; go_big_quiet_on)) | (go_big_quiet_want; apply qf_loadA _ _ rfl _ _ rfl (sz := 32); (exact hC); rotate_left 1; (focus (intro _; simp [go_sem]; done)); (focus (intro _; simp [go_sem]; done)); rotate_right 1; assumption; assumption; assumption; (simp only [Act.put, lS]; go_big_quiet_on))); exact wpQuiet_nil rfl))
    (refine wpF_prt [u5, ν 45, .slice (some ⟨w.heap.size, 33, none⟩) 32 32] [vecB (vecB ticket 2 ++ numB an 4) 2, hBinder, fx mk] _ rfl (by rfl) (by simp) (by simp) ?_ (fun w hB hk => ⟨f5.out.below hB, (hk 45 (by simp) rfl).2, (SlB.markM hr).below hB, trivial⟩) rfl rfl (fun d hd => by cases hd; rfl) ?_; (focus (intro v hv; simp only [List.mem_cons, List.not_mem_nil, or_false] at hv; (repeat' (first | subst hv | rcases hv with rfl | hv)); all_goals first | rfl | assumption | exact hν _)); (simp only [Act.put, vqF, pS]))
    (apply wpF_free; (focus rfl); (focus rfl); (exact (fun w' _ hd => of_byt (k := 49) rfl ((show vecB [vecB (vecB ticket 2 ++ numB an 4) 2, hBinder, fx mk].flatten 2 = vecB (vecB (vecB ticket 2 ++ numB an 4) 2 ++ (hBinder ++ fx mk)) 2 by simp) ▸ vec_any 2 _ [vecB (vecB ticket 2 ++ numB an 4) 2, hBinder, fx mk] w' (by decide) (hd 48 (by simp) rfl).2 LI.out (by simp)))); (focus (intro w; simp [go_sem]; done)); simp only [Act.put, vqF, pS])
    (refine wpF_prt [ν 40, ν 42, ν 49] [hModes, hPsk, vecB (vecB (vecB ticket 2 ++ numB an 4) 2 ++ (hBinder ++ fx mk)) 2] _ rfl (by rfl) (by simp) (by simp) ?_ (fun w hB hk => ⟨(hk 40 (by simp) rfl).2, (hk 42 (by simp) rfl).2, hk 49 (by simp) rfl, trivial⟩) rfl rfl (fun d hd => by cases hd; rfl) ?_; (focus (intro v hv; simp only [List.mem_cons, List.not_mem_nil, or_false] at hv; (repeat' (first | subst hv | rcases hv with rfl | hv)); all_goals first | rfl | assumption | exact hν _)); (simp only [Act.put, vqF, pS]))
    (refine wpF_appP 38 50 [hAble, hShare, vecB (vecB ([] : List UInt8) 2) 2] [hModes, hPsk, vecB (vecB (vecB ticket 2 ++ numB an 4) 2 ++ (hBinder ++ fx mk)) 2] rfl (fun w _ hB => ⟨f4.out.1, f4.out.2.below hB⟩) rfl (by simp) rfl rfl (by simp) (by simp) rfl rfl (fun d hd => by cases hd; rfl) ?_; (simp only [Act.put, vqF, pS]))
    exact wpF_nil ⟨rfl, rfl⟩
  · intro ν ν'; kernel_rfl
  intro ν w4 hν hB1 hD
  have f6 := Lib.hid (phi_get (k := .prt ([hAble, hShare, vecB (vecB ([] : List UInt8) 2) 2] ++ [hModes, hPsk, vecB (vecB (vecB ticket 2 ++ numB an 4) 2 ++ (hBinder ++ fx mk)) 2])) (hD 51 (by simp)) rfl)
  have s_u6 : isSliceV (ν 51) = true := hν 51
  have hr := Row.below hr hB1 hr.lt
  have hB := Below.trans hB (hB1.mono hB.size)
  obtain ⟨u6, hu6⟩ : ∃ u, u = ν 51 := ⟨_, rfl⟩
  rw [← hu6] at f6 s_u6 ⊢
  clear hu6
  clear hD hν hB1
  go_wp2_with fail
  go_ret
  exact ⟨_, rfl, f6.out, hB⟩
set_option maxRecDepth 100000 in
set_option maxHeartbeats 4000000 in
theorem offers_sf (r mk share ticket : List UInt8) (k : Int) (v1 v3 v4 v5 v6 : Value) (a2 : Option Addr) (c2 : Nat) (life : Int) (an : Nat) (retry : Bool) (w : World) (h2 : SlB w (.slice a2 share.length c2) share) (h0 : 0 < share.length) (h3 : SlB w v3 ticket) (hb : share.length ≤ 100000) (hb3 : ticket.length ≤ 100000) (han : an < 4294967296) :
    Calls Try.prog 40 #[.agg (mD k r mk [v1, .slice a2 share.length c2, v3, v4, v5, v6, .int .i64 life, .int .i64 (an : Int), .bool false, .bool retry])] w fun e w' => ∃ v, e = .returned v ∧ PartsAt w' v ([hAble, hShare, vecB (vecB (hGroup ++ vecB share 2) 2) 2]) ∧ Below w.heap.size w w' := by
  have H3 := Lib.hid h3
  clear h3
  have hl := numB_len an 4
  have H2 := Lib.hid h2
  have sv2 := h2.shape
  have l0 : (0 : Int) < (share.length : Int) := by omega
  clear h2
  have sv3 := H3.out.shape
  have G67 : (mD k r mk [v1, .slice a2 share.length c2, v3, v4, v5, v6, .int .i64 life, .int .i64 (an : Int), .bool false, .bool retry])[67]? = some v3 := mD_67
  have G66 : (mD k r mk [v1, .slice a2 share.length c2, v3, v4, v5, v6, .int .i64 life, .int .i64 (an : Int), .bool false, .bool retry])[66]? = some (.slice a2 share.length c2) := mD_66
  have G72 : (mD k r mk [v1, .slice a2 share.length c2, v3, v4, v5, v6, .int .i64 life, .int .i64 (an : Int), .bool false, .bool retry])[72]? = some (.int .i64 (an : Int)) := mD_72
  have lid : [vecB (vecB ticket 2 ++ numB an 4) 2, hBinder, fx mk].flatten.length ≤ 1000000 := by simp [vecB_len, numB_len, hBinder, fx_len]; omega
  have lid2 : [vecB ticket 2, numB an 4].flatten.length ≤ 1000000 := by simp [vecB_len, numB_len]; omega
  have lid3 : [ticket].flatten.length ≤ 1000000 := by simp; omega
  have lsh : [vecB (hGroup ++ vecB share 2) 2].flatten.length ≤ 1000000 := by (first | decide | (simp [vecB_len, hGroup]; omega))
  have lsh2 : [(hGroup ++ vecB share 2)].flatten.length ≤ 1000000 := by (first | decide | (simp [vecB_len, hGroup]; omega))
  have lsh3 : [share].flatten.length ≤ 1000000 := by simp; omega
  have lsh4 : hGroup.length + (vecB share 2).length ≤ 1000000000 := by simp [vecB_len, hGroup]; omega
  have lsh5 : 0 < (vecB share 2).length := by rw [vecB_len]; omega
  have LI := Lib.hid lid
  have LI2 := Lib.hid lid2
  have LI3 := Lib.hid lid3
  have LS := Lib.hid lsh
  have LS2 := Lib.hid lsh2
  have LS3 := Lib.hid lsh3
  have LS4 := Lib.hid lsh4
  have LS5 := Lib.hid lsh5
  have HB := Lib.hid hb
  have HA := Lib.hid han
  clear hl lid lid2 lid3 lsh lsh2 lsh3 lsh4 lsh5 hb hb3 han
  go_enter Try.func40, Try.ntmps40
  go_upto_region 2 with (fail)
  obtain ⟨w0, hw0⟩ : ∃ w0, w0 = w.alloc (.cells (mD k r mk [v1, .slice a2 share.length c2, v3, v4, v5, v6, .int .i64 life, .int .i64 (an : Int), .bool false, .bool retry]) 30) := ⟨_, rfl⟩
  rw [← hw0]
  have hr : Row w0 w.heap.size 30 (mD k r mk [v1, .slice a2 share.length c2, v3, v4, v5, v6, .int .i64 life, .int .i64 (an : Int), .bool false, .bool retry]) := by rw [hw0]; exact Row.new _ _ _
  have hB : Below w.heap.size w w0 := by rw [hw0]; (repeat (first | (with_reducible exact Below.refl _ _) | ((with_reducible first | refine bSetRow ?_ ?_ _ | refine Below.alloc ?_ ?_ _ | refine Below.setCell ?_ ?_ _); rotate_left 1; (focus (first | (simp; done) | (simp; omega)))) | (with_reducible refine Below.drew ?_)))
  clear hw0
  go_upto_region 3 with (fail)
  (refine wp_region_seq 7 [10, 11, 14, 15, 16] [] shp (phi _ [(10, .cst hGroup), (11, .ful hGroup), (14, .prf [share]), (15, .byt (vecB share 2)), (16, .byt (hGroup ++ vecB share 2))]) (by kernel_rfl) (phi_stab _ _) (phi_shp _ _) shp_inh ?_; simp only [List.take_succ_cons, List.take_zero, List.drop_succ_cons, List.drop_zero]; apply Exists.intro; apply Exists.intro; refine ⟨?_, ?_, ?_⟩)
  · intro ν hν
    (refine wpF_cst hGroup _ rfl (by rfl) (by decide) (by decide) rfl rfl (fun d hd => by cases hd; rfl) ?_; (simp only [Act.put, vqF, pS]))
    (refine wpF_mark hGroup 10 rfl rfl (by simp) rfl rfl rfl rfl (fun d hd => by cases hd; rfl) ?_; (simp only [Act.put, vqF, pS]))
    iterate 2 (apply wpF_q rfl; focus (intro C hC hG; (first | go_big_quiet_skip | (go_big_quiet_want; go_big_quiet_op; first | go_big_quiet_on | (refine ⟨_, fun _ _ => rfl, ?_⟩; go_big_quiet_on)) | (go_big_quiet_want; apply qf_load1 _ _ rfl _ _ rfl; (exact hC); rotate_left 1; (focus (intro _; simp [go_sem]; done)); rotate_right 1; assumption; assumption; (simp only [Act.put, lS]; go_big_quiet_on)) | (go_big_quiet_want; apply qf_loadA _ _ rfl _ _ rfl (sz := 32); (exact hC); rotate_left 1; (focus (intro _; simp [go_sem]; done)); (focus (intro _; simp [go_sem]; done)); rotate_right 1; assumption; assumption; assumption; (simp only [Act.put, lS]; go_big_quiet_on))); exact wpQuiet_nil rfl))
    (refine wpF_prt [.slice a2 share.length c2] [share] _ rfl (by rfl) (by simp) (by simp) ?_ (fun w hB' hk => ⟨(H2.out.below hB).below hB', trivial⟩) rfl rfl (fun d hd => by cases hd; rfl) ?_; (focus (intro v hv; simp only [List.mem_cons, List.not_mem_nil, or_false] at hv; (repeat' (first | subst hv | rcases hv with rfl | hv)); all_goals first | rfl | assumption | exact hν _)); (simp only [Act.put, vqF, pS]))
    (apply wpF_free; (focus rfl); (focus rfl); (exact (fun w' _ hd => of_byt (k := 15) rfl ((show vecB [share].flatten 2 = vecB share 2 by simp) ▸ vec_any 2 _ [share] w' (by decide) (hd 14 (by simp) rfl).2 LS3.out (by simp)))); (focus (intro w; simp [go_sem]; done)); simp only [Act.put, vqF, pS])
    (refine wpF_app 11 15 hGroup (vecB share 2) rfl rfl rfl (by simp) rfl rfl (by simp) rfl rfl LS5.out LS4.out rfl rfl (fun d hd => by cases hd; rfl) ?_; (simp only [Act.put, vqF, pS]))
    exact wpF_nil ⟨rfl, rfl⟩
  · intro ν ν'; kernel_rfl
  intro ν w1 hν hB1 hD
  have f3 := Lib.hid (phi_get (k := .byt (hGroup ++ vecB share 2)) (hD 16 (by simp)) rfl)
  have s_u3 : isSliceV (ν 16) = true := hν 16
  have hr := Row.below hr hB1 hr.lt
  have hB := Below.trans hB (hB1.mono hB.size)
  obtain ⟨u3, hu3⟩ : ∃ u, u = ν 16 := ⟨_, rfl⟩
  rw [← hu3] at f3 s_u3 ⊢
  clear hu3
  clear hD hν hB1
  go_upto_region 4 with (fail)
  (refine wp_region_seq 10 [17, 18, 19, 20, 22, 23, 24, 25, 26] [] shp (phi _ [(17, .cst hAble), (18, .ful hAble), (19, .cst hShare), (20, .ful hShare), (22, .prf [(hGroup ++ vecB share 2)]), (23, .byt (vecB (hGroup ++ vecB share 2) 2)), (24, .prf [vecB (hGroup ++ vecB share 2) 2]), (25, .byt (vecB (vecB (hGroup ++ vecB share 2) 2) 2)), (26, .prf [hAble, hShare, vecB (vecB (hGroup ++ vecB share 2) 2) 2])]) (by kernel_rfl) (phi_stab _ _) (phi_shp _ _) shp_inh ?_; simp only [List.take_succ_cons, List.take_zero, List.drop_succ_cons, List.drop_zero]; apply Exists.intro; apply Exists.intro; refine ⟨?_, ?_, ?_⟩)
  · intro ν hν
    (refine wpF_cst hAble _ rfl (by rfl) (by decide) (by decide) rfl rfl (fun d hd => by cases hd; rfl) ?_; (simp only [Act.put, vqF, pS]))
    (refine wpF_mark hAble 17 rfl rfl (by simp) rfl rfl rfl rfl (fun d hd => by cases hd; rfl) ?_; (simp only [Act.put, vqF, pS]))
    (refine wpF_cst hShare _ rfl (by rfl) (by decide) (by decide) rfl rfl (fun d hd => by cases hd; rfl) ?_; (simp only [Act.put, vqF, pS]))
    (refine wpF_mark hShare 19 rfl rfl (by simp) rfl rfl rfl rfl (fun d hd => by cases hd; rfl) ?_; (simp only [Act.put, vqF, pS]))
    (apply wpF_q rfl; focus (intro C hC hG; (first | go_big_quiet_skip | (go_big_quiet_want; go_big_quiet_op; first | go_big_quiet_on | (refine ⟨_, fun _ _ => rfl, ?_⟩; go_big_quiet_on)) | (go_big_quiet_want; apply qf_load1 _ _ rfl _ _ rfl; (exact hC); rotate_left 1; (focus (intro _; simp [go_sem]; done)); rotate_right 1; assumption; assumption; (simp only [Act.put, lS]; go_big_quiet_on)) | (go_big_quiet_want; apply qf_loadA _ _ rfl _ _ rfl (sz := 32); (exact hC); rotate_left 1; (focus (intro _; simp [go_sem]; done)); (focus (intro _; simp [go_sem]; done)); rotate_right 1; assumption; assumption; assumption; (simp only [Act.put, lS]; go_big_quiet_on))); exact wpQuiet_nil rfl))
    (refine wpF_prt [u3] [(hGroup ++ vecB share 2)] _ rfl (by rfl) (by simp) (by simp) ?_ (fun w hB' hk => ⟨f3.out.below hB', trivial⟩) rfl rfl (fun d hd => by cases hd; rfl) ?_; (focus (intro v hv; simp only [List.mem_cons, List.not_mem_nil, or_false] at hv; (repeat' (first | subst hv | rcases hv with rfl | hv)); all_goals first | rfl | assumption | exact hν _)); (simp only [Act.put, vqF, pS]))
    (apply wpF_free; (focus rfl); (focus rfl); (exact (fun w' _ hd => of_byt (k := 23) rfl ((show vecB [(hGroup ++ vecB share 2)].flatten 2 = vecB (hGroup ++ vecB share 2) 2 by simp) ▸ vec_any 2 _ [(hGroup ++ vecB share 2)] w' (by decide) (hd 22 (by simp) rfl).2 LS2.out (by simp)))); (focus (intro w; simp [go_sem]; done)); simp only [Act.put, vqF, pS])
    (refine wpF_prt [ν 23] [vecB (hGroup ++ vecB share 2) 2] _ rfl (by rfl) (by simp) (by simp) ?_ (fun w hB hk => ⟨hk 23 (by simp) rfl, trivial⟩) rfl rfl (fun d hd => by cases hd; rfl) ?_; (focus (intro v hv; simp only [List.mem_cons, List.not_mem_nil, or_false] at hv; (repeat' (first | subst hv | rcases hv with rfl | hv)); all_goals first | rfl | assumption | exact hν _)); (simp only [Act.put, vqF, pS]))
    (apply wpF_free; (focus rfl); (focus rfl); (exact (fun w' _ hd => of_byt (k := 25) rfl ((show vecB [vecB (hGroup ++ vecB share 2) 2].flatten 2 = vecB (vecB (hGroup ++ vecB share 2) 2) 2 by simp) ▸ vec_any 2 _ [vecB (hGroup ++ vecB share 2) 2] w' (by decide) (hd 24 (by simp) rfl).2 LS.out (by simp)))); (focus (intro w; simp [go_sem]; done)); simp only [Act.put, vqF, pS])
    (refine wpF_prt [ν 18, ν 20, ν 25] [hAble, hShare, vecB (vecB (hGroup ++ vecB share 2) 2) 2] _ rfl (by rfl) (by simp) (by simp) ?_ (fun w hB hk => ⟨(hk 18 (by simp) rfl).2, (hk 20 (by simp) rfl).2, hk 25 (by simp) rfl, trivial⟩) rfl rfl (fun d hd => by cases hd; rfl) ?_; (focus (intro v hv; simp only [List.mem_cons, List.not_mem_nil, or_false] at hv; (repeat' (first | subst hv | rcases hv with rfl | hv)); all_goals first | rfl | assumption | exact hν _)); (simp only [Act.put, vqF, pS]))
    exact wpF_nil ⟨rfl, rfl⟩
  · intro ν ν'; kernel_rfl
  intro ν w2 hν hB1 hD
  have f4 := Lib.hid (phi_get (k := .prf [hAble, hShare, vecB (vecB (hGroup ++ vecB share 2) 2) 2]) (hD 26 (by simp)) rfl)
  have s_u4 : isSliceV (ν 26) = true := hν 26
  have hr := Row.below hr hB1 hr.lt
  have hB := Below.trans hB (hB1.mono hB.size)
  obtain ⟨u4, hu4⟩ : ∃ u, u = ν 26 := ⟨_, rfl⟩
  rw [← hu4] at f4 s_u4 ⊢
  clear hu4
  clear hD hν hB1
  clear f3
  go_wp2_with fail
  go_ret
  exact ⟨_, rfl, f4.out.2, hB⟩
set_option maxRecDepth 100000 in
set_option maxHeartbeats 4000000 in
theorem offers_st (r mk share ticket : List UInt8) (k : Int) (v1 v3 v4 v5 v6 : Value) (a2 : Option Addr) (c2 : Nat) (life : Int) (an : Nat) (retry : Bool) (w : World) (h2 : SlB w (.slice a2 share.length c2) share) (h0 : 0 < share.length) (h3 : SlB w v3 ticket) (hb : share.length ≤ 100000) (hb3 : ticket.length ≤ 100000) (han : an < 4294967296) :
    Calls Try.prog 40 #[.agg (mD k r mk [v1, .slice a2 share.length c2, v3, v4, v5, v6, .int .i64 life, .int .i64 (an : Int), .bool true, .bool retry])] w fun e w' => ∃ v, e = .returned v ∧ PartsAt w' v ([hAble, hShare, vecB (vecB (hGroup ++ vecB share 2) 2) 2] ++ [hModes, hPsk, vecB (vecB (vecB ticket 2 ++ numB an 4) 2 ++ (hBinder ++ fx mk)) 2]) ∧ Below w.heap.size w w' := by
  have H3 := Lib.hid h3
  clear h3
  have hl := numB_len an 4
  have H2 := Lib.hid h2
  have sv2 := h2.shape
  have l0 : (0 : Int) < (share.length : Int) := by omega
  clear h2
  have sv3 := H3.out.shape
  have G67 : (mD k r mk [v1, .slice a2 share.length c2, v3, v4, v5, v6, .int .i64 life, .int .i64 (an : Int), .bool true, .bool retry])[67]? = some v3 := mD_67
  have G66 : (mD k r mk [v1, .slice a2 share.length c2, v3, v4, v5, v6, .int .i64 life, .int .i64 (an : Int), .bool true, .bool retry])[66]? = some (.slice a2 share.length c2) := mD_66
  have G72 : (mD k r mk [v1, .slice a2 share.length c2, v3, v4, v5, v6, .int .i64 life, .int .i64 (an : Int), .bool true, .bool retry])[72]? = some (.int .i64 (an : Int)) := mD_72
  have lid : [vecB (vecB ticket 2 ++ numB an 4) 2, hBinder, fx mk].flatten.length ≤ 1000000 := by simp [vecB_len, numB_len, hBinder, fx_len]; omega
  have lid2 : [vecB ticket 2, numB an 4].flatten.length ≤ 1000000 := by simp [vecB_len, numB_len]; omega
  have lid3 : [ticket].flatten.length ≤ 1000000 := by simp; omega
  have lsh : [vecB (hGroup ++ vecB share 2) 2].flatten.length ≤ 1000000 := by (first | decide | (simp [vecB_len, hGroup]; omega))
  have lsh2 : [(hGroup ++ vecB share 2)].flatten.length ≤ 1000000 := by (first | decide | (simp [vecB_len, hGroup]; omega))
  have lsh3 : [share].flatten.length ≤ 1000000 := by simp; omega
  have lsh4 : hGroup.length + (vecB share 2).length ≤ 1000000000 := by simp [vecB_len, hGroup]; omega
  have lsh5 : 0 < (vecB share 2).length := by rw [vecB_len]; omega
  have LI := Lib.hid lid
  have LI2 := Lib.hid lid2
  have LI3 := Lib.hid lid3
  have LS := Lib.hid lsh
  have LS2 := Lib.hid lsh2
  have LS3 := Lib.hid lsh3
  have LS4 := Lib.hid lsh4
  have LS5 := Lib.hid lsh5
  have HB := Lib.hid hb
  have HA := Lib.hid han
  clear hl lid lid2 lid3 lsh lsh2 lsh3 lsh4 lsh5 hb hb3 han
  go_enter Try.func40, Try.ntmps40
  go_upto_region 2 with (fail)
  obtain ⟨w0, hw0⟩ : ∃ w0, w0 = w.alloc (.cells (mD k r mk [v1, .slice a2 share.length c2, v3, v4, v5, v6, .int .i64 life, .int .i64 (an : Int), .bool true, .bool retry]) 30) := ⟨_, rfl⟩
  rw [← hw0]
  have hr : Row w0 w.heap.size 30 (mD k r mk [v1, .slice a2 share.length c2, v3, v4, v5, v6, .int .i64 life, .int .i64 (an : Int), .bool true, .bool retry]) := by rw [hw0]; exact Row.new _ _ _
  have hB : Below w.heap.size w w0 := by rw [hw0]; (repeat (first | (with_reducible exact Below.refl _ _) | ((with_reducible first | refine bSetRow ?_ ?_ _ | refine Below.alloc ?_ ?_ _ | refine Below.setCell ?_ ?_ _); rotate_left 1; (focus (first | (simp; done) | (simp; omega)))) | (with_reducible refine Below.drew ?_)))
  clear hw0
  go_upto_region 3 with (fail)
  (refine wp_region_seq 7 [10, 11, 14, 15, 16] [] shp (phi _ [(10, .cst hGroup), (11, .ful hGroup), (14, .prf [share]), (15, .byt (vecB share 2)), (16, .byt (hGroup ++ vecB share 2))]) (by kernel_rfl) (phi_stab _ _) (phi_shp _ _) shp_inh ?_; simp only [List.take_succ_cons, List.take_zero, List.drop_succ_cons, List.drop_zero]; apply Exists.intro; apply Exists.intro; refine ⟨?_, ?_, ?_⟩)
  · intro ν hν
    (refine wpF_cst hGroup _ rfl (by rfl) (by decide) (by decide) rfl rfl (fun d hd => by cases hd; rfl) ?_; (simp only [Act.put, vqF, pS]))
    (refine wpF_mark hGroup 10 rfl rfl (by simp) rfl rfl rfl rfl (fun d hd => by cases hd; rfl) ?_; (simp only [Act.put, vqF, pS]))
    iterate 2 (apply wpF_q rfl; focus (intro C hC hG; (first | go_big_quiet_skip | (go_big_quiet_want; go_big_quiet_op; first | go_big_quiet_on | (refine ⟨_, fun _ _ => rfl, ?_⟩; go_big_quiet_on)) | (go_big_quiet_want; apply qf_load1 _ _ rfl _ _ rfl; (exact hC); rotate_left 1; (focus (intro _; simp [go_sem]; done)); rotate_right 1; assumption; assumption; (simp only [Act.put, lS]; go_big_quiet_on)) | (go_big_quiet_want; apply qf_loadA _ _ rfl _ _ rfl (sz := 32); (exact hC); rotate_left 1; (focus (intro _; simp [go_sem]; done)); (focus (intro _; simp [go_sem]; done)); rotate_right 1; assumption; assumption; assumption; (simp only [Act.put, lS]; go_big_quiet_on))); exact wpQuiet_nil rfl))
    (refine wpF_prt [.slice a2 share.length c2] [share] _ rfl (by rfl) (by simp) (by simp) ?_ (fun w hB' hk => ⟨(H2.out.below hB).below hB', trivial⟩) rfl rfl (fun d hd => by cases hd; rfl) ?_; (focus (intro v hv; simp only [List.mem_cons, List.not_mem_nil, or_false] at hv; (repeat' (first | subst hv | rcases hv with rfl | hv)); all_goals first | rfl | assumption | exact hν _)); (simp only [Act.put, vqF, pS]))
    (apply wpF_free; (focus rfl); (focus rfl); (exact (fun w' _ hd => of_byt (k := 15) rfl ((show vecB [share].flatten 2 = vecB share 2 by simp) ▸ vec_any 2 _ [share] w' (by decide) (hd 14 (by simp) rfl).2 LS3.out (by simp)))); (focus (intro w; simp [go_sem]; done)); simp only [Act.put, vqF, pS])
    (refine wpF_app 11 15 hGroup (vecB share 2) rfl rfl rfl (by simp) rfl rfl (by simp) rfl rfl LS5.out LS4.out rfl rfl (fun d hd => by cases hd; rfl) ?_; (simp only [Act.put, vqF, pS]))
    exact wpF_nil ⟨rfl, rfl⟩
  · intro ν ν'; kernel_rfl
  intro ν w1 hν hB1 hD
  have f3 := Lib.hid (phi_get (k := .byt (hGroup ++ vecB share 2)) (hD 16 (by simp)) rfl)
  have s_u3 : isSliceV (ν 16) = true := hν 16
  have hr := Row.below hr hB1 hr.lt
  have hB := Below.trans hB (hB1.mono hB.size)
  obtain ⟨u3, hu3⟩ : ∃ u, u = ν 16 := ⟨_, rfl⟩
  rw [← hu3] at f3 s_u3 ⊢
  clear hu3
  clear hD hν hB1
  go_upto_region 4 with (fail)
  (refine wp_region_seq 10 [17, 18, 19, 20, 22, 23, 24, 25, 26] [] shp (phi _ [(17, .cst hAble), (18, .ful hAble), (19, .cst hShare), (20, .ful hShare), (22, .prf [(hGroup ++ vecB share 2)]), (23, .byt (vecB (hGroup ++ vecB share 2) 2)), (24, .prf [vecB (hGroup ++ vecB share 2) 2]), (25, .byt (vecB (vecB (hGroup ++ vecB share 2) 2) 2)), (26, .prf [hAble, hShare, vecB (vecB (hGroup ++ vecB share 2) 2) 2])]) (by kernel_rfl) (phi_stab _ _) (phi_shp _ _) shp_inh ?_; simp only [List.take_succ_cons, List.take_zero, List.drop_succ_cons, List.drop_zero]; apply Exists.intro; apply Exists.intro; refine ⟨?_, ?_, ?_⟩)
  · intro ν hν
    (refine wpF_cst hAble _ rfl (by rfl) (by decide) (by decide) rfl rfl (fun d hd => by cases hd; rfl) ?_; (simp only [Act.put, vqF, pS]))
    (refine wpF_mark hAble 17 rfl rfl (by simp) rfl rfl rfl rfl (fun d hd => by cases hd; rfl) ?_; (simp only [Act.put, vqF, pS]))
    (refine wpF_cst hShare _ rfl (by rfl) (by decide) (by decide) rfl rfl (fun d hd => by cases hd; rfl) ?_; (simp only [Act.put, vqF, pS]))
    (refine wpF_mark hShare 19 rfl rfl (by simp) rfl rfl rfl rfl (fun d hd => by cases hd; rfl) ?_; (simp only [Act.put, vqF, pS]))
    (apply wpF_q rfl; focus (intro C hC hG; (first | go_big_quiet_skip | (go_big_quiet_want; go_big_quiet_op; first | go_big_quiet_on | (refine ⟨_, fun _ _ => rfl, ?_⟩; go_big_quiet_on)) | (go_big_quiet_want; apply qf_load1 _ _ rfl _ _ rfl; (exact hC); rotate_left 1; (focus (intro _; simp [go_sem]; done)); rotate_right 1; assumption; assumption; (simp only [Act.put, lS]; go_big_quiet_on)) | (go_big_quiet_want; apply qf_loadA _ _ rfl _ _ rfl (sz := 32); (exact hC); rotate_left 1; (focus (intro _; simp [go_sem]; done)); (focus (intro _; simp [go_sem]; done)); rotate_right 1; assumption; assumption; assumption; (simp only [Act.put, lS]; go_big_quiet_on))); exact wpQuiet_nil rfl))
    (refine wpF_prt [u3] [(hGroup ++ vecB share 2)] _ rfl (by rfl) (by simp) (by simp) ?_ (fun w hB' hk => ⟨f3.out.below hB', trivial⟩) rfl rfl (fun d hd => by cases hd; rfl) ?_; (focus (intro v hv; simp only [List.mem_cons, List.not_mem_nil, or_false] at hv; (repeat' (first | subst hv | rcases hv with rfl | hv)); all_goals first | rfl | assumption | exact hν _)); (simp only [Act.put, vqF, pS]))
    (apply wpF_free; (focus rfl); (focus rfl); (exact (fun w' _ hd => of_byt (k := 23) rfl ((show vecB [(hGroup ++ vecB share 2)].flatten 2 = vecB (hGroup ++ vecB share 2) 2 by simp) ▸ vec_any 2 _ [(hGroup ++ vecB share 2)] w' (by decide) (hd 22 (by simp) rfl).2 LS2.out (by simp)))); (focus (intro w; simp [go_sem]; done)); simp only [Act.put, vqF, pS])
    (refine wpF_prt [ν 23] [vecB (hGroup ++ vecB share 2) 2] _ rfl (by rfl) (by simp) (by simp) ?_ (fun w hB hk => ⟨hk 23 (by simp) rfl, trivial⟩) rfl rfl (fun d hd => by cases hd; rfl) ?_; (focus (intro v hv; simp only [List.mem_cons, List.not_mem_nil, or_false] at hv; (repeat' (first | subst hv | rcases hv with rfl | hv)); all_goals first | rfl | assumption | exact hν _)); (simp only [Act.put, vqF, pS]))
    (apply wpF_free; (focus rfl); (focus rfl); (exact (fun w' _ hd => of_byt (k := 25) rfl ((show vecB [vecB (hGroup ++ vecB share 2) 2].flatten 2 = vecB (vecB (hGroup ++ vecB share 2) 2) 2 by simp) ▸ vec_any 2 _ [vecB (hGroup ++ vecB share 2) 2] w' (by decide) (hd 24 (by simp) rfl).2 LS.out (by simp)))); (focus (intro w; simp [go_sem]; done)); simp only [Act.put, vqF, pS])
    (refine wpF_prt [ν 18, ν 20, ν 25] [hAble, hShare, vecB (vecB (hGroup ++ vecB share 2) 2) 2] _ rfl (by rfl) (by simp) (by simp) ?_ (fun w hB hk => ⟨(hk 18 (by simp) rfl).2, (hk 20 (by simp) rfl).2, hk 25 (by simp) rfl, trivial⟩) rfl rfl (fun d hd => by cases hd; rfl) ?_; (focus (intro v hv; simp only [List.mem_cons, List.not_mem_nil, or_false] at hv; (repeat' (first | subst hv | rcases hv with rfl | hv)); all_goals first | rfl | assumption | exact hν _)); (simp only [Act.put, vqF, pS]))
    exact wpF_nil ⟨rfl, rfl⟩
  · intro ν ν'; kernel_rfl
  intro ν w2 hν hB1 hD
  have f4 := Lib.hid (phi_get (k := .prf [hAble, hShare, vecB (vecB (hGroup ++ vecB share 2) 2) 2]) (hD 26 (by simp)) rfl)
  have s_u4 : isSliceV (ν 26) = true := hν 26
  have hr := Row.below hr hB1 hr.lt
  have hB := Below.trans hB (hB1.mono hB.size)
  obtain ⟨u4, hu4⟩ : ∃ u, u = ν 26 := ⟨_, rfl⟩
  rw [← hu4] at f4 s_u4 ⊢
  clear hu4
  clear hD hν hB1
  clear f3
  go_upto_region 6 with (fail)
  have hrd := hr.drew
  (refine wp_region_freeD 9 [31, 32, 35, 36, 37] [] shp (phi _ [(31, .prf [ticket]), (32, .byt (vecB ticket 2)), (35, .byt (numB an 4)), (36, .prf [vecB ticket 2, numB an 4]), (37, .byt (vecB (vecB ticket 2 ++ numB an 4) 2))]) (by kernel_rfl) (by kernel_rfl) (by kernel_rfl) (phi_stab _ _) (phi_shp _ _) shp_inh ?_; simp only [List.take_succ_cons, List.take_zero, List.drop_succ_cons, List.drop_zero]; apply Exists.intro; apply Exists.intro; refine ⟨?_, ?_, ?_⟩)
  · intro ν hν
    iterate 2 (apply wpF_q rfl; focus (intro C hC hG; (first | go_big_quiet_skip | (go_big_quiet_want; go_big_quiet_op; first | go_big_quiet_on | (refine ⟨_, fun _ _ => rfl, ?_⟩; go_big_quiet_on)) | (go_big_quiet_want; apply qf_load1 _ _ rfl _ _ rfl; (exact hC); rotate_left 1; (focus (intro _; simp [go_sem]; done)); rotate_right 1; assumption; assumption; (simp only [Act.put, lS]; go_big_quiet_on)) | (go_big_quiet_want; apply qf_loadA _ _ rfl _ _ rfl (sz := 32); (exact hC); rotate_left 1; (focus (intro _; simp [go_sem]; done)); (focus (intro _; simp [go_sem]; done)); rotate_right 1; assumption; assumption; assumption; (simp only [Act.put, lS]; go_big_quiet_on))); exact wpQuiet_nil rfl))
    (refine wpF_prt [v3] [ticket] _ rfl (by rfl) (by simp) (by simp) ?_ (fun w hB' hk => ⟨(H3.out.below hB.drew).below hB', trivial⟩) rfl rfl (fun d hd => by cases hd; rfl) ?_; (focus (intro v hv; simp only [List.mem_cons, List.not_mem_nil, or_false] at hv; (repeat' (first | subst hv | rcases hv with rfl | hv)); all_goals first | rfl | assumption | exact hν _)); (simp only [Act.put, vqF, pS]))
    (apply wpF_free; (focus rfl); (focus rfl); (exact (fun w' _ hd => of_byt (k := 32) rfl ((show vecB [ticket].flatten 2 = vecB ticket 2 by simp) ▸ vec_any 2 _ [ticket] w' (by decide) (hd 31 (by simp) rfl).2 LI3.out (by simp)))); (focus (intro w; simp [go_sem]; done)); simp only [Act.put, vqF, pS])
    iterate 2 (apply wpF_q rfl; focus (intro C hC hG; (first | go_big_quiet_skip | (go_big_quiet_want; go_big_quiet_op; first | go_big_quiet_on | (refine ⟨_, fun _ _ => rfl, ?_⟩; go_big_quiet_on)) | (go_big_quiet_want; apply qf_load1 _ _ rfl _ _ rfl; (exact hC); rotate_left 1; (focus (intro _; simp [go_sem]; done)); rotate_right 1; assumption; assumption; (simp only [Act.put, lS]; go_big_quiet_on)) | (go_big_quiet_want; apply qf_loadA _ _ rfl _ _ rfl (sz := 32); (exact hC); rotate_left 1; (focus (intro _; simp [go_sem]; done)); (focus (intro _; simp [go_sem]; done)); rotate_right 1; assumption; assumption; assumption; (simp only [Act.put, lS]; go_big_quiet_on))); exact wpQuiet_nil rfl))
    (apply wpF_free; (focus rfl); (focus rfl); (exact (fun w' _ _ => of_byt (k := 35) rfl (num_any an 4 w' HA.out (by decide)))); (focus (intro w; simp [go_sem]; done)); simp only [Act.put, vqF, pS])
    (refine wpF_prt [ν 32, ν 35] [vecB ticket 2, numB an 4] _ rfl (by rfl) (by simp) (by simp) ?_ (fun w hB hk => ⟨hk 32 (by simp) rfl, hk 35 (by simp) rfl, trivial⟩) rfl rfl (fun d hd => by cases hd; rfl) ?_; (focus (intro v hv; simp only [List.mem_cons, List.not_mem_nil, or_false] at hv; (repeat' (first | subst hv | rcases hv with rfl | hv)); all_goals first | rfl | assumption | exact hν _)); (simp only [Act.put, vqF, pS]))
    (apply wpF_free; (focus rfl); (focus rfl); (exact (fun w' _ hd => of_byt (k := 37) rfl ((show vecB [vecB ticket 2, numB an 4].flatten 2 = vecB (vecB ticket 2 ++ numB an 4) 2 by simp) ▸ vec_any 2 _ [vecB ticket 2, numB an 4] w' (by decide) (hd 36 (by simp) rfl).2 LI2.out (by simp)))); (focus (intro w; simp [go_sem]; done)); simp only [Act.put, vqF, pS])
    exact wpF_nil ⟨rfl, rfl⟩
  · intro ν ν'; kernel_rfl
  intro ν w3 hν hB1 hD
  have f5 := Lib.hid (phi_get (k := .byt (vecB (vecB ticket 2 ++ numB an 4) 2)) (hD 37 (by simp)) rfl)
  have s_u5 : isSliceV (ν 37) = true := hν 37
  have hr := Row.below hr.drew hB1 hr.lt
  have hB := Below.trans hB.drew (hB1.mono hB.drew.size)
  have hB4 : Below w2.heap.size w2 w3 := Below.trans (Below.refl _ w2).drew hB1
  obtain ⟨u5, hu5⟩ : ∃ u, u = ν 37 := ⟨_, rfl⟩
  rw [← hu5] at f5 s_u5 ⊢
  clear hu5
  clear hD hν hB1 hrd
  have f4 := Lib.hid (show FK.holds (.prf [hAble, hShare, vecB (vecB (hGroup ++ vecB share 2) 2) 2]) 0 u4 w3 from ⟨f4.out.1, f4.out.2.below hB4⟩)
  go_upto_region 7 with (fail)
  (refine wp_region_seq 14 [39, 40, 41, 42, 44, 45, 48, 49, 50, 51] [] shp (phi _ [(39, .cst hModes), (40, .ful hModes), (41, .cst hPsk), (42, .ful hPsk), (44, .cst hBinder), (45, .ful hBinder), (48, .prf [vecB (vecB ticket 2 ++ numB an 4) 2, hBinder, fx mk]), (49, .byt (vecB (vecB (vecB ticket 2 ++ numB an 4) 2 ++ (hBinder ++ fx mk)) 2)), (50, .prf [hModes, hPsk, vecB (vecB (vecB ticket 2 ++ numB an 4) 2 ++ (hBinder ++ fx mk)) 2]), (51, .prt ([hAble, hShare, vecB (vecB (hGroup ++ vecB share 2) 2) 2] ++ [hModes, hPsk, vecB (vecB (vecB ticket 2 ++ numB an 4) 2 ++ (hBinder ++ fx mk)) 2]))]) (by kernel_rfl) (phi_stab _ _) (phi_shp _ _) shp_inh ?_; simp only [List.take_succ_cons, List.take_zero, List.drop_succ_cons, List.drop_zero]; apply Exists.intro; apply Exists.intro; refine ⟨?_, ?_, ?_⟩)
  · intro ν hν
    (apply wpF_q rfl; focus (intro C hC hG; (first | go_big_quiet_skip | (go_big_quiet_want; go_big_quiet_op; first | go_big_quiet_on | (refine ⟨_, fun _ _ => rfl, ?_⟩; go_big_quiet_on)) | (go_big_quiet_want; apply qf_load1 _ _ rfl _ _ rfl; (exact hC); rotate_left 1; (focus (intro _; simp [go_sem]; done)); rotate_right 1; assumption; assumption; (simp only [Act.put, lS]; go_big_quiet_on)) | (go_big_quiet_want; apply qf_loadA _ _ rfl _ _ rfl (sz := 32); (exact hC); rotate_left 1; (focus (intro _; simp [go_sem]; done)); (focus (intro _; simp [go_sem]; done)); rotate_right 1; assumption; assumption; assumption; (simp only [Act.put, lS]; go_big_quiet_on))); exact wpQuiet_nil rfl))
    (refine wpF_cst hModes _ rfl (by rfl) (by decide) (by decide) rfl rfl (fun d hd => by cases hd; rfl) ?_; (simp only [Act.put, vqF, pS]))
    (refine wpF_mark hModes 39 rfl rfl (by simp) rfl rfl rfl rfl (fun d hd => by cases hd; rfl) ?_; (simp only [Act.put, vqF, pS]))
    (refine wpF_cst hPsk _ rfl (by rfl) (by decide) (by decide) rfl rfl (fun d hd => by cases hd; rfl) ?_; (simp only [Act.put, vqF, pS]))
    (refine wpF_mark hPsk 41 rfl rfl (by simp) rfl rfl rfl rfl (fun d hd => by cases hd; rfl) ?_; (simp only [Act.put, vqF, pS]))
    (apply wpF_q rfl; focus (intro C hC hG; (first | go_big_quiet_skip | (go_big_quiet_want; go_big_quiet_op; first | go_big_quiet_on | (refine ⟨_, fun _ _ => rfl, ?_⟩; go_big_quiet_on)) | (go_big_quiet_want; apply qf_load1 _ _ rfl _ _ rfl; (exact hC); rotate_left 1; (focus (intro _; simp [go_sem]; done)); rotate_right 1; assumption; assumption; (simp only [Act.put, lS]; go_big_quiet_on)) | (go_big_quiet_want; apply qf_loadA _ _ rfl _ _ rfl (sz := 32); (exact hC); rotate_left 1; (focus (intro _; simp [go_sem]; done)); (focus (intro _; simp [go_sem]; done)); rotate_right 1; assumption; assumption; assumption; (simp only [Act.put, lS]; go_big_quiet_on))); exact wpQuiet_nil rfl))
    (refine wpF_cst hBinder _ rfl (by rfl) (by decide) (by decide) rfl rfl (fun d hd => by cases hd; rfl) ?_; (simp only [Act.put, vqF, pS]))
    (refine wpF_mark hBinder 44 rfl rfl (by simp) rfl rfl rfl rfl (fun d hd => by cases hd; rfl) ?_; (simp only [Act.put, vqF, pS]))
    iterate 2 (apply wpF_q rfl; focus (intro C hC hG; (first | go_big_quiet_skip | (go_big_quiet_want; go_big_quiet_op; first | go_big_quiet_on | (refine ⟨_, fun _ _ => rfl, ?_⟩; go_big_quiet_on)) | (go_big_quiet_want; apply qf_load1 _ _ rfl _ _ rfl; (exact hC); rotate_left 1; (focus (intro _; simp [go_sem]; done)); rotate_right 1; assumption; assumption; (simp only [Act.put, lS]; go_big_quiet_on)) | (go_big_quiet_want; apply qf_loadA _ _ rfl _ _ rfl (sz := 32); (exact hC); rotate_left 1; (focus (intro _; simp [go_sem]; done)); (focus (intro _; simp [go_sem]; done)); rotate_right 1; assumption; assumption; assumption; (simp only [Act.put, lS]; go_big_quiet_on))); exact wpQuiet_nil rfl))
    (refine wpF_prt [u5, ν 45, .slice (some ⟨w.heap.size, 33, none⟩) 32 32] [vecB (vecB ticket 2 ++ numB an 4) 2, hBinder, fx mk] _ rfl (by rfl) (by simp) (by simp) ?_ (fun w hB hk => ⟨f5.out.below hB, (hk 45 (by simp) rfl).2, (SlB.markM hr).below hB, trivial⟩) rfl rfl (fun d hd => by cases hd; rfl) ?_; (focus (intro v hv; simp only [List.mem_cons, List.not_mem_nil, or_false] at hv; (repeat' (first | subst hv | rcases hv with rfl | hv)); all_goals first | rfl | assumption | exact hν _)); (simp only [Act.put, vqF, pS]))
    (apply wpF_free; (focus rfl); (focus rfl); (exact (fun w' _ hd => of_byt (k := 49) rfl ((show vecB [vecB (vecB ticket 2 ++ numB an 4) 2, hBinder, fx mk].flatten 2 = vecB (vecB (vecB ticket 2 ++ numB an 4) 2 ++ (hBinder ++ fx mk)) 2 by simp) ▸ vec_any 2 _ [vecB (vecB ticket 2 ++ numB an 4) 2, hBinder, fx mk] w' (by decide) (hd 48 (by simp) rfl).2 LI.out (by simp)))); (focus (intro w; simp [go_sem]; done)); simp only [Act.put, vqF, pS])
    (refine wpF_prt [ν 40, ν 42, ν 49] [hModes, hPsk, vecB (vecB (vecB ticket 2 ++ numB an 4) 2 ++ (hBinder ++ fx mk)) 2] _ rfl (by rfl) (by simp) (by simp) ?_ (fun w hB hk => ⟨(hk 40 (by simp) rfl).2, (hk 42 (by simp) rfl).2, hk 49 (by simp) rfl, trivial⟩) rfl rfl (fun d hd => by cases hd; rfl) ?_; (focus (intro v hv; simp only [List.mem_cons, List.not_mem_nil, or_false] at hv; (repeat' (first | subst hv | rcases hv with rfl | hv)); all_goals first | rfl | assumption | exact hν _)); (simp only [Act.put, vqF, pS]))
    (refine wpF_appP 38 50 [hAble, hShare, vecB (vecB (hGroup ++ vecB share 2) 2) 2] [hModes, hPsk, vecB (vecB (vecB ticket 2 ++ numB an 4) 2 ++ (hBinder ++ fx mk)) 2] rfl (fun w _ hB => ⟨f4.out.1, f4.out.2.below hB⟩) rfl (by simp) rfl rfl (by simp) (by simp) rfl rfl (fun d hd => by cases hd; rfl) ?_; (simp only [Act.put, vqF, pS]))
    exact wpF_nil ⟨rfl, rfl⟩
  · intro ν ν'; kernel_rfl
  intro ν w4 hν hB1 hD
  have f6 := Lib.hid (phi_get (k := .prt ([hAble, hShare, vecB (vecB (hGroup ++ vecB share 2) 2) 2] ++ [hModes, hPsk, vecB (vecB (vecB ticket 2 ++ numB an 4) 2 ++ (hBinder ++ fx mk)) 2])) (hD 51 (by simp)) rfl)
  have s_u6 : isSliceV (ν 51) = true := hν 51
  have hr := Row.below hr hB1 hr.lt
  have hB := Below.trans hB (hB1.mono hB.size)
  obtain ⟨u6, hu6⟩ : ∃ u, u = ν 51 := ⟨_, rfl⟩
  rw [← hu6] at f6 s_u6 ⊢
  clear hu6
  clear hD hν hB1
  go_wp2_with fail
  go_ret
  exact ⟨_, rfl, f6.out, hB⟩
end Go.Proofs.Ytnenoecmmelehaa
