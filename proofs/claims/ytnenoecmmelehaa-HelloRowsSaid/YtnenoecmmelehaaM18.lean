/- Part of the proof: HBodyC. No conditions of its own. -/
import Derived.Below
import Derived.BigQuiet
import Derived.Deep.CutBlock
import Derived.Deep.DeepCutAuto
import Derived.Deep.Draws
import Derived.Deep.LoopGhost
import Derived.Deep.Quiet
import Derived.Deep.QuietTactic
import Derived.Deep.RegionLaw
import Derived.Great.BuildSlice
import Derived.Great.FillDense
import Derived.Laws.AppendOwn
import Derived.Laws.AppendOwnNone
import Derived.Laws.BytesArg
import Derived.Laws.Concat
import Derived.Laws.MakeOwn
import Derived.Lib.AppendZerosOnto
import Derived.Lib.Hide
import Derived.Lib.SlBytesConst
import Derived.StillTail
import Derived.Stop.BytesEq
import Derived.Test.YtnenoecmmelehaaProg
import Derived.WalkKit
import Derived.WalkLawsBesides
import Derived.WalkSpells
import Derived.Test.YtnenoecmmelehaaM15
namespace Go.Proofs.Ytnenoecmmelehaa
open Go.RowKit
set_option linter.unusedVariables false
set_option linter.unusedSimpArgs false

set_option maxRecDepth 100000 in
set_option maxHeartbeats 4000000 in
theorem body_1nf (r mk : List UInt8) (v1 v3 v4 v5 v6 : Value) (a2 : Option Addr) (c2 : Nat) (ses share ticket : List UInt8) (life : Int) (an : Nat) (retry : Bool) (w : World) (h1 : SlB w v1 ses) (h3 : SlB w v3 ticket) (hs : ses.length ≤ 100000) (hs2 : share.length ≤ 100000) (hs3 : ticket.length ≤ 100000) (han : an < 4294967296) :
    Calls Try.prog 24 #[.agg (mD 1 r mk [v1, .slice a2 0 c2, v3, v4, v5, v6, .int .i64 life, .int .i64 (an : Int), .bool false, .bool retry])] w fun e w' => ∃ v, e = .returned v ∧ SlB w' v ([hVersion, fx r, vecB ses 1, hSuites, vecB ([hAble, hShare, vecB (vecB ([] : List UInt8) 2) 2]).flatten 2].flatten) ∧ Below w.heap.size w w' := by
  have H1 := Lib.hid h1
  have sv1 := h1.shape
  have H3 := Lib.hid h3
  have l1 : [ses].flatten.length ≤ 1000000 := by simp; omega
  have L1 := Lib.hid l1
  clear l1
  have l2 : ([hAble, hShare, vecB (vecB ([] : List UInt8) 2) 2]).flatten.length ≤ 1000000 := by first | decide | (simp [vecB_len, numB_len, hAble, hShare, hModes, hPsk, hBinder, hGroup, hVersion, hSuites, fx_len]; omega)
  have L2 := Lib.hid l2
  clear l2
  have l3 : [hVersion, fx r, vecB ses 1, hSuites, vecB ([hAble, hShare, vecB (vecB ([] : List UInt8) 2) 2]).flatten 2].flatten.length ≤ 1000000 := by simp [vecB_len, numB_len, hAble, hShare, hModes, hPsk, hBinder, hGroup, hVersion, hSuites, fx_len]; omega
  have L3 := Lib.hid l3
  clear l3
  have HS := Lib.hid hs
  have HS2 := Lib.hid hs2
  have HS3 := Lib.hid hs3
  have HAN := Lib.hid han
  clear h1 h3 hs hs2 hs3 han
  go_enter Try.func24, Try.ntmps24
  go_upto_region 3 with (fail)
  obtain ⟨w0, hw0⟩ : ∃ w0, w0 = w.alloc (.cells (mD 1 r mk [v1, .slice a2 0 c2, v3, v4, v5, v6, .int .i64 life, .int .i64 (an : Int), .bool false, .bool retry]) 30) := ⟨_, rfl⟩
  rw [← hw0]
  have hr : Row w0 w.heap.size 30 (mD 1 r mk [v1, .slice a2 0 c2, v3, v4, v5, v6, .int .i64 life, .int .i64 (an : Int), .bool false, .bool retry]) := by rw [hw0]; exact Row.new _ _ _
  have hB : Below w.heap.size w w0 := by rw [hw0]; (repeat (first | (with_reducible exact Below.refl _ _) | ((with_reducible first | refine bSetRow ?_ ?_ _ | refine Below.alloc ?_ ?_ _ | refine Below.setCell ?_ ?_ _); rotate_left 1; (focus (first | (simp; done) | (simp; omega)))) | (with_reducible refine Below.drew ?_)))
  clear hw0
  have g65 : (mD 1 r mk [v1, .slice a2 0 c2, v3, v4, v5, v6, .int .i64 life, .int .i64 (an : Int), .bool false, .bool retry])[65]? = some v1 := mD_65
  have hrd := hr.drew
  (refine wp_region_freeD 14 [11, 12, 17, 18, 19, 20, 22, 23, 24] [] shp (phi _ [(11, .cst hVersion), (12, .ful hVersion), (17, .prf [ses]), (18, .byt (vecB ses 1)), (19, .cst hSuites), (20, .ful hSuites), (22, .prt ([hAble, hShare, vecB (vecB ([] : List UInt8) 2) 2])), (23, .byt (vecB ([hAble, hShare, vecB (vecB ([] : List UInt8) 2) 2]).flatten 2)), (24, .prf [hVersion, fx r, vecB ses 1, hSuites, vecB ([hAble, hShare, vecB (vecB ([] : List UInt8) 2) 2]).flatten 2])]) (by kernel_rfl) (by kernel_rfl) (by kernel_rfl) (phi_stab _ _) (phi_shp _ _) shp_inh ?_; simp only [List.take_succ_cons, List.take_zero, List.drop_succ_cons, List.drop_zero]; apply Exists.intro; apply Exists.intro; refine ⟨?_, ?_, ?_⟩)
  · intro ν hν
    (refine wpF_cst hVersion _ rfl (by rfl) (by decide) (by decide) rfl rfl (fun d hd => by cases hd; rfl) ?_; (simp only [Act.put, vqF, pS]))
    (refine wpF_mark hVersion 11 rfl rfl (by simp) rfl rfl rfl rfl (fun d hd => by cases hd; rfl) ?_; (simp only [Act.put, vqF, pS]))
    iterate 4 (apply wpF_q rfl; focus (intro C hC hG; (first | go_big_quiet_skip | (go_big_quiet_want; go_big_quiet_op; first | go_big_quiet_on | (refine ⟨_, fun _ _ => rfl, ?_⟩; go_big_quiet_on)) | (go_big_quiet_want; apply qf_load1 _ _ rfl _ _ rfl; (exact hC); rotate_left 1; (focus (intro _; simp [go_sem]; done)); rotate_right 1; assumption; assumption; (simp only [Act.put, lS]; go_big_quiet_on)) | (go_big_quiet_want; apply qf_loadA _ _ rfl _ _ rfl (sz := 32); (exact hC); rotate_left 1; (focus (intro _; simp [go_sem]; done)); (focus (intro _; simp [go_sem]; done)); rotate_right 1; assumption; assumption; assumption; (simp only [Act.put, lS]; go_big_quiet_on))); exact wpQuiet_nil rfl))
    (refine wpF_prt [v1] [ses] _ rfl (by rfl) (by simp) (by simp) ?_ (fun w hB' hk => ⟨(H1.out.below hB.drew).below hB', trivial⟩) rfl rfl (fun d hd => by cases hd; rfl) ?_; (focus (intro v hv; simp only [List.mem_cons, List.not_mem_nil, or_false] at hv; (repeat' (first | subst hv | rcases hv with rfl | hv)); all_goals first | rfl | assumption | exact hν _)); (simp only [Act.put, vqF, pS]))
    (apply wpF_free; (focus rfl); (focus rfl); (exact (fun w' _ hd => of_byt (k := 18) rfl ((show vecB [ses].flatten 1 = vecB ses 1 by simp) ▸ vec_any 1 _ [ses] w' (by decide) (hd 17 (by simp) rfl).2 L1.out (by simp)))); (focus (intro w; simp [go_sem]; done)); simp only [Act.put, vqF, pS])
    (refine wpF_cst hSuites _ rfl (by rfl) (by decide) (by decide) rfl rfl (fun d hd => by cases hd; rfl) ?_; (simp only [Act.put, vqF, pS]))
    (refine wpF_mark hSuites 19 rfl rfl (by simp) rfl rfl rfl rfl (fun d hd => by cases hd; rfl) ?_; (simp only [Act.put, vqF, pS]))
    (apply wpF_q rfl; focus (intro C hC hG; go_big_quiet_want; apply qf_loadM _ rfl _ rfl; (exact hC); assumption; (exact mD_sz); (simp only [Act.put, lS]; go_big_quiet_on); exact wpQuiet_nil rfl))
    (apply wpF_free; (focus rfl); (focus rfl); (exact (fun w' hB' hd => of_prt (k := 22) rfl (offers_nf r mk share ticket 1 v1 v3 v4 v5 v6 a2 c2 life an retry w' ((H3.out.below hB.drew).below hB') HS2.out HS3.out HAN.out))); (focus (intro w; simp [go_sem]; done)); simp only [Act.put, vqF, pS])
    (apply wpF_free; (focus rfl); (focus rfl); (exact (fun w' _ hd => of_byt (k := 23) rfl (vec_any 2 _ ([hAble, hShare, vecB (vecB ([] : List UInt8) 2) 2]) w' (by decide) (hd 22 (by simp) rfl) L2.out (by simp)))); (focus (intro w; simp [go_sem]; done)); simp only [Act.put, vqF, pS])
    (refine wpF_prt [ν 12, .slice (some ⟨w.heap.size, 1, none⟩) 32 32, ν 18, ν 20, ν 23] [hVersion, fx r, vecB ses 1, hSuites, vecB ([hAble, hShare, vecB (vecB ([] : List UInt8) 2) 2]).flatten 2] _ rfl (by rfl) (by simp) (by simp) ?_ (fun w hB' hk => ⟨(hk 12 (by simp) rfl).2, (SlB.rand hrd).below hB', hk 18 (by simp) rfl, (hk 20 (by simp) rfl).2, hk 23 (by simp) rfl, trivial⟩) rfl rfl (fun d hd => by cases hd; rfl) ?_; (focus (intro v hv; simp only [List.mem_cons, List.not_mem_nil, or_false] at hv; (repeat' (first | subst hv | rcases hv with rfl | hv)); all_goals first | rfl | assumption | exact hν _)); (simp only [Act.put, vqF, pS]))
    exact wpF_nil ⟨rfl, rfl⟩
  · intro ν ν'; kernel_rfl
  intro ν w1 hν hB1 hD
  have f24 := Lib.hid (phi_get (k := .prf [hVersion, fx r, vecB ses 1, hSuites, vecB ([hAble, hShare, vecB (vecB ([] : List UInt8) 2) 2]).flatten 2]) (hD 24 (by simp)) rfl)
  have s_u24 : isSliceV (ν 24) = true := hν 24
  have hr := Row.below hr.drew hB1 hr.lt
  have hB := Below.trans hB.drew (hB1.mono hB.drew.size)
  obtain ⟨u24, hu24⟩ : ∃ u, u = ν 24 := ⟨_, rfl⟩
  rw [← hu24] at f24 s_u24 ⊢
  clear hu24
  clear hD hν hB1 hrd
  go_wp2_with fail
  refine (concat_any _ [hVersion, fx r, vecB ses 1, hSuites, vecB ([hAble, hShare, vecB (vecB ([] : List UInt8) 2) 2]).flatten 2] _ (f24.out.2) L3.out (by simp)).mono ?_
  rintro e w2 ⟨v, rfl, hb, hb2⟩
  have HBB := Lib.hid hb.slb
  have hB := Below.trans hB (hb2.mono hB.size)
  clear hb hb2
  go_wp2_with fail
  go_ret
  exact ⟨_, rfl,  HBB.out, hB⟩
set_option maxRecDepth 100000 in
set_option maxHeartbeats 4000000 in
theorem body_1nt (r mk : List UInt8) (v1 v3 v4 v5 v6 : Value) (a2 : Option Addr) (c2 : Nat) (ses share ticket : List UInt8) (life : Int) (an : Nat) (retry : Bool) (w : World) (h1 : SlB w v1 ses) (h3 : SlB w v3 ticket) (hs : ses.length ≤ 100000) (hs2 : share.length ≤ 100000) (hs3 : ticket.length ≤ 100000) (han : an < 4294967296) :
    Calls Try.prog 24 #[.agg (mD 1 r mk [v1, .slice a2 0 c2, v3, v4, v5, v6, .int .i64 life, .int .i64 (an : Int), .bool true, .bool retry])] w fun e w' => ∃ v, e = .returned v ∧ SlB w' v ([hVersion, fx r, vecB ses 1, hSuites, vecB ([hAble, hShare, vecB (vecB ([] : List UInt8) 2) 2] ++ [hModes, hPsk, vecB (vecB (vecB ticket 2 ++ numB an 4) 2 ++ (hBinder ++ fx mk)) 2]).flatten 2].flatten) ∧ Below w.heap.size w w' := by
  have H1 := Lib.hid h1
  have sv1 := h1.shape
  have H3 := Lib.hid h3
  have l1 : [ses].flatten.length ≤ 1000000 := by simp; omega
  have L1 := Lib.hid l1
  clear l1
  have l2 : ([hAble, hShare, vecB (vecB ([] : List UInt8) 2) 2] ++ [hModes, hPsk, vecB (vecB (vecB ticket 2 ++ numB an 4) 2 ++ (hBinder ++ fx mk)) 2]).flatten.length ≤ 1000000 := by first | decide | (simp [vecB_len, numB_len, hAble, hShare, hModes, hPsk, hBinder, hGroup, hVersion, hSuites, fx_len]; omega)
  have L2 := Lib.hid l2
  clear l2
  have l3 : [hVersion, fx r, vecB ses 1, hSuites, vecB ([hAble, hShare, vecB (vecB ([] : List UInt8) 2) 2] ++ [hModes, hPsk, vecB (vecB (vecB ticket 2 ++ numB an 4) 2 ++ (hBinder ++ fx mk)) 2]).flatten 2].flatten.length ≤ 1000000 := by simp [vecB_len, numB_len, hAble, hShare, hModes, hPsk, hBinder, hGroup, hVersion, hSuites, fx_len]; omega
  have L3 := Lib.hid l3
  clear l3
  have HS := Lib.hid hs
  have HS2 := Lib.hid hs2
  have HS3 := Lib.hid hs3
  have HAN := Lib.hid han
  clear h1 h3 hs hs2 hs3 han
  go_enter Try.func24, Try.ntmps24
  go_upto_region 3 with (fail)
  obtain ⟨w0, hw0⟩ : ∃ w0, w0 = w.alloc (.cells (mD 1 r mk [v1, .slice a2 0 c2, v3, v4, v5, v6, .int .i64 life, .int .i64 (an : Int), .bool true, .bool retry]) 30) := ⟨_, rfl⟩
  rw [← hw0]
  have hr : Row w0 w.heap.size 30 (mD 1 r mk [v1, .slice a2 0 c2, v3, v4, v5, v6, .int .i64 life, .int .i64 (an : Int), .bool true, .bool retry]) := by rw [hw0]; exact Row.new _ _ _
  have hB : Below w.heap.size w w0 := by rw [hw0]; (repeat (first | (with_reducible exact Below.refl _ _) | ((with_reducible first | refine bSetRow ?_ ?_ _ | refine Below.alloc ?_ ?_ _ | refine Below.setCell ?_ ?_ _); rotate_left 1; (focus (first | (simp; done) | (simp; omega)))) | (with_reducible refine Below.drew ?_)))
  clear hw0
  have g65 : (mD 1 r mk [v1, .slice a2 0 c2, v3, v4, v5, v6, .int .i64 life, .int .i64 (an : Int), .bool true, .bool retry])[65]? = some v1 := mD_65
  have hrd := hr.drew
  (refine wp_region_freeD 14 [11, 12, 17, 18, 19, 20, 22, 23, 24] [] shp (phi _ [(11, .cst hVersion), (12, .ful hVersion), (17, .prf [ses]), (18, .byt (vecB ses 1)), (19, .cst hSuites), (20, .ful hSuites), (22, .prt ([hAble, hShare, vecB (vecB ([] : List UInt8) 2) 2] ++ [hModes, hPsk, vecB (vecB (vecB ticket 2 ++ numB an 4) 2 ++ (hBinder ++ fx mk)) 2])), (23, .byt (vecB ([hAble, hShare, vecB (vecB ([] : List UInt8) 2) 2] ++ [hModes, hPsk, vecB (vecB (vecB ticket 2 ++ numB an 4) 2 ++ (hBinder ++ fx mk)) 2]).flatten 2)), (24, .prf [hVersion, fx r, vecB ses 1, hSuites, vecB ([hAble, hShare, vecB (vecB ([] : List UInt8) 2) 2] ++ [hModes, hPsk, vecB (vecB (vecB ticket 2 ++ numB an 4) 2 ++ (hBinder ++ fx mk)) 2]).flatten 2])]) (by kernel_rfl) (by kernel_rfl) (by kernel_rfl) (phi_stab _ _) (phi_shp _ _) shp_inh ?_; simp only [List.take_succ_cons, List.take_zero, List.drop_succ_cons, List.drop_zero]; apply Exists.intro; apply Exists.intro; refine ⟨?_, ?_, ?_⟩)
  · intro ν hν
    (refine wpF_cst hVersion _ rfl (by rfl) (by decide) (by decide) rfl rfl (fun d hd => by cases hd; rfl) ?_; (simp only [Act.put, vqF, pS]))
    (refine wpF_mark hVersion 11 rfl rfl (by simp) rfl rfl rfl rfl (fun d hd => by cases hd; rfl) ?_; (simp only [Act.put, vqF, pS]))
    iterate 4 (apply wpF_q rfl; focus (intro C hC hG; (first | go_big_quiet_skip | (go_big_quiet_want; go_big_quiet_op; first | go_big_quiet_on | (refine ⟨_, fun _ _ => rfl, ?_⟩; go_big_quiet_on)) | (go_big_quiet_want; apply qf_load1 _ _ rfl _ _ rfl; (exact hC); rotate_left 1; (focus (intro _; simp [go_sem]; done)); rotate_right 1; assumption; assumption; (simp only [Act.put, lS]; go_big_quiet_on)) | (go_big_quiet_want; apply qf_loadA _ _ rfl _ _ rfl (sz := 32); (exact hC); rotate_left 1; (focus (intro _; simp [go_sem]; done)); (focus (intro _; simp [go_sem]; done)); rotate_right 1; assumption; assumption; assumption; (simp only [Act.put, lS]; go_big_quiet_on))); exact wpQuiet_nil rfl))
    (refine wpF_prt [v1] [ses] _ rfl (by rfl) (by simp) (by simp) ?_ (fun w hB' hk => ⟨(H1.out.below hB.drew).below hB', trivial⟩) rfl rfl (fun d hd => by cases hd; rfl) ?_; (focus (intro v hv; simp only [List.mem_cons, List.not_mem_nil, or_false] at hv; (repeat' (first | subst hv | rcases hv with rfl | hv)); all_goals first | rfl | assumption | exact hν _)); (simp only [Act.put, vqF, pS]))
    (apply wpF_free; (focus rfl); (focus rfl); (exact (fun w' _ hd => of_byt (k := 18) rfl ((show vecB [ses].flatten 1 = vecB ses 1 by simp) ▸ vec_any 1 _ [ses] w' (by decide) (hd 17 (by simp) rfl).2 L1.out (by simp)))); (focus (intro w; simp [go_sem]; done)); simp only [Act.put, vqF, pS])
    (refine wpF_cst hSuites _ rfl (by rfl) (by decide) (by decide) rfl rfl (fun d hd => by cases hd; rfl) ?_; (simp only [Act.put, vqF, pS]))
    (refine wpF_mark hSuites 19 rfl rfl (by simp) rfl rfl rfl rfl (fun d hd => by cases hd; rfl) ?_; (simp only [Act.put, vqF, pS]))
    (apply wpF_q rfl; focus (intro C hC hG; go_big_quiet_want; apply qf_loadM _ rfl _ rfl; (exact hC); assumption; (exact mD_sz); (simp only [Act.put, lS]; go_big_quiet_on); exact wpQuiet_nil rfl))
    (apply wpF_free; (focus rfl); (focus rfl); (exact (fun w' hB' hd => of_prt (k := 22) rfl (offers_nt r mk share ticket 1 v1 v3 v4 v5 v6 a2 c2 life an retry w' ((H3.out.below hB.drew).below hB') HS2.out HS3.out HAN.out))); (focus (intro w; simp [go_sem]; done)); simp only [Act.put, vqF, pS])
    (apply wpF_free; (focus rfl); (focus rfl); (exact (fun w' _ hd => of_byt (k := 23) rfl (vec_any 2 _ ([hAble, hShare, vecB (vecB ([] : List UInt8) 2) 2] ++ [hModes, hPsk, vecB (vecB (vecB ticket 2 ++ numB an 4) 2 ++ (hBinder ++ fx mk)) 2]) w' (by decide) (hd 22 (by simp) rfl) L2.out (by simp)))); (focus (intro w; simp [go_sem]; done)); simp only [Act.put, vqF, pS])
    (refine wpF_prt [ν 12, .slice (some ⟨w.heap.size, 1, none⟩) 32 32, ν 18, ν 20, ν 23] [hVersion, fx r, vecB ses 1, hSuites, vecB ([hAble, hShare, vecB (vecB ([] : List UInt8) 2) 2] ++ [hModes, hPsk, vecB (vecB (vecB ticket 2 ++ numB an 4) 2 ++ (hBinder ++ fx mk)) 2]).flatten 2] _ rfl (by rfl) (by simp) (by simp) ?_ (fun w hB' hk => ⟨(hk 12 (by simp) rfl).2, (SlB.rand hrd).below hB', hk 18 (by simp) rfl, (hk 20 (by simp) rfl).2, hk 23 (by simp) rfl, trivial⟩) rfl rfl (fun d hd => by cases hd; rfl) ?_; (focus (intro v hv; simp only [List.mem_cons, List.not_mem_nil, or_false] at hv; (repeat' (first | subst hv | rcases hv with rfl | hv)); all_goals first | rfl | assumption | exact hν _)); (simp only [Act.put, vqF, pS]))
    exact wpF_nil ⟨rfl, rfl⟩
  · intro ν ν'; kernel_rfl
  intro ν w1 hν hB1 hD
  have f24 := Lib.hid (phi_get (k := .prf [hVersion, fx r, vecB ses 1, hSuites, vecB ([hAble, hShare, vecB (vecB ([] : List UInt8) 2) 2] ++ [hModes, hPsk, vecB (vecB (vecB ticket 2 ++ numB an 4) 2 ++ (hBinder ++ fx mk)) 2]).flatten 2]) (hD 24 (by simp)) rfl)
  have s_u24 : isSliceV (ν 24) = true := hν 24
  have hr := Row.below hr.drew hB1 hr.lt
  have hB := Below.trans hB.drew (hB1.mono hB.drew.size)
  obtain ⟨u24, hu24⟩ : ∃ u, u = ν 24 := ⟨_, rfl⟩
  rw [← hu24] at f24 s_u24 ⊢
  clear hu24
  clear hD hν hB1 hrd
  go_wp2_with fail
  refine (concat_any _ [hVersion, fx r, vecB ses 1, hSuites, vecB ([hAble, hShare, vecB (vecB ([] : List UInt8) 2) 2] ++ [hModes, hPsk, vecB (vecB (vecB ticket 2 ++ numB an 4) 2 ++ (hBinder ++ fx mk)) 2]).flatten 2] _ (f24.out.2) L3.out (by simp)).mono ?_
  rintro e w2 ⟨v, rfl, hb, hb2⟩
  have HBB := Lib.hid hb.slb
  have hB := Below.trans hB (hb2.mono hB.size)
  clear hb hb2
  go_wp2_with fail
  go_ret
  exact ⟨_, rfl,  HBB.out, hB⟩
set_option maxRecDepth 100000 in
set_option maxHeartbeats 4000000 in
theorem body_1sf (r mk : List UInt8) (v1 v3 v4 v5 v6 : Value) (a2 : Option Addr) (c2 : Nat) (ses share ticket : List UInt8) (life : Int) (an : Nat) (retry : Bool) (w : World) (h1 : SlB w v1 ses) (h2 : SlB w (.slice a2 share.length c2) share) (h0 : 0 < share.length) (h3 : SlB w v3 ticket) (hs : ses.length ≤ 100000) (hs2 : share.length ≤ 100000) (hs3 : ticket.length ≤ 100000) (han : an < 4294967296) :
    Calls Try.prog 24 #[.agg (mD 1 r mk [v1, .slice a2 share.length c2, v3, v4, v5, v6, .int .i64 life, .int .i64 (an : Int), .bool false, .bool retry])] w fun e w' => ∃ v, e = .returned v ∧ SlB w' v ([hVersion, fx r, vecB ses 1, hSuites, vecB ([hAble, hShare, vecB (vecB (hGroup ++ vecB share 2) 2) 2]).flatten 2].flatten) ∧ Below w.heap.size w w' := by
  have H1 := Lib.hid h1
  have sv1 := h1.shape
  have H3 := Lib.hid h3
  have H2 := Lib.hid h2
  have H0 := Lib.hid h0
  have l1 : [ses].flatten.length ≤ 1000000 := by simp; omega
  have L1 := Lib.hid l1
  clear l1
  have l2 : ([hAble, hShare, vecB (vecB (hGroup ++ vecB share 2) 2) 2]).flatten.length ≤ 1000000 := by first | decide | (simp [vecB_len, numB_len, hAble, hShare, hModes, hPsk, hBinder, hGroup, hVersion, hSuites, fx_len]; omega)
  have L2 := Lib.hid l2
  clear l2
  have l3 : [hVersion, fx r, vecB ses 1, hSuites, vecB ([hAble, hShare, vecB (vecB (hGroup ++ vecB share 2) 2) 2]).flatten 2].flatten.length ≤ 1000000 := by simp [vecB_len, numB_len, hAble, hShare, hModes, hPsk, hBinder, hGroup, hVersion, hSuites, fx_len]; omega
  have L3 := Lib.hid l3
  clear l3
  have HS := Lib.hid hs
  have HS2 := Lib.hid hs2
  have HS3 := Lib.hid hs3
  have HAN := Lib.hid han
  clear h1 h3 hs hs2 hs3 han h2 h0
  go_enter Try.func24, Try.ntmps24
  go_upto_region 3 with (fail)
  obtain ⟨w0, hw0⟩ : ∃ w0, w0 = w.alloc (.cells (mD 1 r mk [v1, .slice a2 share.length c2, v3, v4, v5, v6, .int .i64 life, .int .i64 (an : Int), .bool false, .bool retry]) 30) := ⟨_, rfl⟩
  rw [← hw0]
  have hr : Row w0 w.heap.size 30 (mD 1 r mk [v1, .slice a2 share.length c2, v3, v4, v5, v6, .int .i64 life, .int .i64 (an : Int), .bool false, .bool retry]) := by rw [hw0]; exact Row.new _ _ _
  have hB : Below w.heap.size w w0 := by rw [hw0]; (repeat (first | (with_reducible exact Below.refl _ _) | ((with_reducible first | refine bSetRow ?_ ?_ _ | refine Below.alloc ?_ ?_ _ | refine Below.setCell ?_ ?_ _); rotate_left 1; (focus (first | (simp; done) | (simp; omega)))) | (with_reducible refine Below.drew ?_)))
  clear hw0
  have g65 : (mD 1 r mk [v1, .slice a2 share.length c2, v3, v4, v5, v6, .int .i64 life, .int .i64 (an : Int), .bool false, .bool retry])[65]? = some v1 := mD_65
  have hrd := hr.drew
  (refine wp_region_freeD 14 [11, 12, 17, 18, 19, 20, 22, 23, 24] [] shp (phi _ [(11, .cst hVersion), (12, .ful hVersion), (17, .prf [ses]), (18, .byt (vecB ses 1)), (19, .cst hSuites), (20, .ful hSuites), (22, .prt ([hAble, hShare, vecB (vecB (hGroup ++ vecB share 2) 2) 2])), (23, .byt (vecB ([hAble, hShare, vecB (vecB (hGroup ++ vecB share 2) 2) 2]).flatten 2)), (24, .prf [hVersion, fx r, vecB ses 1, hSuites, vecB ([hAble, hShare, vecB (vecB (hGroup ++ vecB share 2) 2) 2]).flatten 2])]) (by kernel_rfl) (by kernel_rfl) (by kernel_rfl) (phi_stab _ _) (phi_shp _ _) shp_inh ?_; simp only [List.take_succ_cons, List.take_zero, List.drop_succ_cons, List.drop_zero]; apply Exists.intro; apply Exists.intro; refine ⟨?_, ?_, ?_⟩)
  · intro ν hν
    (refine wpF_cst hVersion _ rfl (by rfl) (by decide) (by decide) rfl rfl (fun d hd => by cases hd; rfl) ?_; (simp only [Act.put, vqF, pS]))
    (refine wpF_mark hVersion 11 rfl rfl (by simp) rfl rfl rfl rfl (fun d hd => by cases hd; rfl) ?_; (simp only [Act.put, vqF, pS]))
    iterate 4 (apply wpF_q rfl; focus (intro C hC hG; (first | go_big_quiet_skip | (go_big_quiet_want; go_big_quiet_op; first | go_big_quiet_on | (refine ⟨_, fun _ _ => rfl, ?_⟩; go_big_quiet_on)) | (go_big_quiet_want; apply qf_load1 _ _ rfl _ _ rfl; (exact hC); rotate_left 1; (focus (intro _; simp [go_sem]; done)); rotate_right 1; assumption; assumption; (simp only [Act.put, lS]; go_big_quiet_on)) | (go_big_quiet_want; apply qf_loadA _ _ rfl _ _ rfl (sz := 32); (exact hC); rotate_left 1; (focus (intro _; simp [go_sem]; done)); (focus (intro _; simp [go_sem]; done)); rotate_right 1; assumption; assumption; assumption; (simp only [Act.put, lS]; go_big_quiet_on))); exact wpQuiet_nil rfl))
    (refine wpF_prt [v1] [ses] _ rfl (by rfl) (by simp) (by simp) ?_ (fun w hB' hk => ⟨(H1.out.below hB.drew).below hB', trivial⟩) rfl rfl (fun d hd => by cases hd; rfl) ?_; (focus (intro v hv; simp only [List.mem_cons, List.not_mem_nil, or_false] at hv; (repeat' (first | subst hv | rcases hv with rfl | hv)); all_goals first | rfl | assumption | exact hν _)); (simp only [Act.put, vqF, pS]))
    (apply wpF_free; (focus rfl); (focus rfl); (exact (fun w' _ hd => of_byt (k := 18) rfl ((show vecB [ses].flatten 1 = vecB ses 1 by simp) ▸ vec_any 1 _ [ses] w' (by decide) (hd 17 (by simp) rfl).2 L1.out (by simp)))); (focus (intro w; simp [go_sem]; done)); simp only [Act.put, vqF, pS])
    (refine wpF_cst hSuites _ rfl (by rfl) (by decide) (by decide) rfl rfl (fun d hd => by cases hd; rfl) ?_; (simp only [Act.put, vqF, pS]))
    (refine wpF_mark hSuites 19 rfl rfl (by simp) rfl rfl rfl rfl (fun d hd => by cases hd; rfl) ?_; (simp only [Act.put, vqF, pS]))
    (apply wpF_q rfl; focus (intro C hC hG; go_big_quiet_want; apply qf_loadM _ rfl _ rfl; (exact hC); assumption; (exact mD_sz); (simp only [Act.put, lS]; go_big_quiet_on); exact wpQuiet_nil rfl))
    (apply wpF_free; (focus rfl); (focus rfl); (exact (fun w' hB' hd => of_prt (k := 22) rfl (offers_sf r mk share ticket 1 v1 v3 v4 v5 v6 a2 c2 life an retry w' ((H2.out.below hB.drew).below hB') H0.out ((H3.out.below hB.drew).below hB') HS2.out HS3.out HAN.out))); (focus (intro w; simp [go_sem]; done)); simp only [Act.put, vqF, pS])
    (apply wpF_free; (focus rfl); (focus rfl); (exact (fun w' _ hd => of_byt (k := 23) rfl (vec_any 2 _ ([hAble, hShare, vecB (vecB (hGroup ++ vecB share 2) 2) 2]) w' (by decide) (hd 22 (by simp) rfl) L2.out (by simp)))); (focus (intro w; simp [go_sem]; done)); simp only [Act.put, vqF, pS])
    (refine wpF_prt [ν 12, .slice (some ⟨w.heap.size, 1, none⟩) 32 32, ν 18, ν 20, ν 23] [hVersion, fx r, vecB ses 1, hSuites, vecB ([hAble, hShare, vecB (vecB (hGroup ++ vecB share 2) 2) 2]).flatten 2] _ rfl (by rfl) (by simp) (by simp) ?_ (fun w hB' hk => ⟨(hk 12 (by simp) rfl).2, (SlB.rand hrd).below hB', hk 18 (by simp) rfl, (hk 20 (by simp) rfl).2, hk 23 (by simp) rfl, trivial⟩) rfl rfl (fun d hd => by cases hd; rfl) ?_; (focus (intro v hv; simp only [List.mem_cons, List.not_mem_nil, or_false] at hv; (repeat' (first | subst hv | rcases hv with rfl | hv)); all_goals first | rfl | assumption | exact hν _)); (simp only [Act.put, vqF, pS]))
    exact wpF_nil ⟨rfl, rfl⟩
  · intro ν ν'; kernel_rfl
  intro ν w1 hν hB1 hD
  have f24 := Lib.hid (phi_get (k := .prf [hVersion, fx r, vecB ses 1, hSuites, vecB ([hAble, hShare, vecB (vecB (hGroup ++ vecB share 2) 2) 2]).flatten 2]) (hD 24 (by simp)) rfl)
  have s_u24 : isSliceV (ν 24) = true := hν 24
  have hr := Row.below hr.drew hB1 hr.lt
  have hB := Below.trans hB.drew (hB1.mono hB.drew.size)
  obtain ⟨u24, hu24⟩ : ∃ u, u = ν 24 := ⟨_, rfl⟩
  rw [← hu24] at f24 s_u24 ⊢
  clear hu24
  clear hD hν hB1 hrd
  go_wp2_with fail
  refine (concat_any _ [hVersion, fx r, vecB ses 1, hSuites, vecB ([hAble, hShare, vecB (vecB (hGroup ++ vecB share 2) 2) 2]).flatten 2] _ (f24.out.2) L3.out (by simp)).mono ?_
  rintro e w2 ⟨v, rfl, hb, hb2⟩
  have HBB := Lib.hid hb.slb
  have hB := Below.trans hB (hb2.mono hB.size)
  clear hb hb2
  go_wp2_with fail
  go_ret
  exact ⟨_, rfl,  HBB.out, hB⟩
set_option maxRecDepth 100000 in
set_option maxHeartbeats 4000000 in
theorem body_1st (r mk : List UInt8) (v1 v3 v4 v5 v6 : Value) (a2 : Option Addr) (c2 : Nat) (ses share ticket : List UInt8) (life : Int) (an : Nat) (retry : Bool) (w : World) (h1 : SlB w v1 ses) (h2 : SlB w (.slice a2 share.length c2) share) (h0 : 0 < share.length) (h3 : SlB w v3 ticket) (hs : ses.length ≤ 100000) (hs2 : share.length ≤ 100000) (hs3 : ticket.length ≤ 100000) (han : an < 4294967296) :
    Calls Try.prog 24 #[.agg (mD 1 r mk [v1, .slice a2 share.length c2, v3, v4, v5, v6, .int .i64 life, .int .i64 (an : Int), .bool true, .bool retry])] w fun e w' => ∃ v, e = .returned v ∧ SlB w' v ([hVersion, fx r, vecB ses 1, hSuites, vecB ([hAble, hShare, vecB (vecB (hGroup ++ vecB share 2) 2) 2] ++ [hModes, hPsk, vecB (vecB (vecB ticket 2 ++ numB an 4) 2 ++ (hBinder ++ fx mk)) 2]).flatten 2].flatten) ∧ Below w.heap.size w w' := by
  have H1 := Lib.hid h1
  have sv1 := h1.shape
  have H3 := Lib.hid h3
  have H2 := Lib.hid h2
  have H0 := Lib.hid h0
  have l1 : [ses].flatten.length ≤ 1000000 := by simp; omega
  have L1 := Lib.hid l1
  clear l1
  have l2 : ([hAble, hShare, vecB (vecB (hGroup ++ vecB share 2) 2) 2] ++ [hModes, hPsk, vecB (vecB (vecB ticket 2 ++ numB an 4) 2 ++ (hBinder ++ fx mk)) 2]).flatten.length ≤ 1000000 := by first | decide | (simp [vecB_len, numB_len, hAble, hShare, hModes, hPsk, hBinder, hGroup, hVersion, hSuites, fx_len]; omega)
  have L2 := Lib.hid l2
  clear l2
  have l3 : [hVersion, fx r, vecB ses 1, hSuites, vecB ([hAble, hShare, vecB (vecB (hGroup ++ vecB share 2) 2) 2] ++ [hModes, hPsk, vecB (vecB (vecB ticket 2 ++ numB an 4) 2 ++ (hBinder ++ fx mk)) 2]).flatten 2].flatten.length ≤ 1000000 := by simp [vecB_len, numB_len, hAble, hShare, hModes, hPsk, hBinder, hGroup, hVersion, hSuites, fx_len]; omega
  have L3 := Lib.hid l3
  clear l3
  have HS := Lib.hid hs
  have HS2 := Lib.hid hs2
  have HS3 := Lib.hid hs3
  have HAN := Lib.hid han
  clear h1 h3 hs hs2 hs3 han h2 h0
  go_enter Try.func24, Try.ntmps24
  go_upto_region 3 with (fail)
  obtain ⟨w0, hw0⟩ : ∃ w0, w0 = w.alloc (.cells (mD 1 r mk [v1, .slice a2 share.length c2, v3, v4, v5, v6, .int .i64 life, .int .i64 (an : Int), .bool true, .bool retry]) 30) := ⟨_, rfl⟩
  rw [← hw0]
  have hr : Row w0 w.heap.size 30 (mD 1 r mk [v1, .slice a2 share.length c2, v3, v4, v5, v6, .int .i64 life, .int .i64 (an : Int), .bool true, .bool retry]) := by rw [hw0]; exact Row.new _ _ _
  have hB : Below w.heap.size w w0 := by rw [hw0]; (repeat (first | (with_reducible exact Below.refl _ _) | ((with_reducible first | refine bSetRow ?_ ?_ _ | refine Below.alloc ?_ ?_ _ | refine Below.setCell ?_ ?_ _); rotate_left 1; (focus (first | (simp; done) | (simp; omega)))) | (with_reducible refine Below.drew ?_)))
  clear hw0
  have g65 : (mD 1 r mk [v1, .slice a2 share.length c2, v3, v4, v5, v6, .int .i64 life, .int .i64 (an : Int), .bool true, .bool retry])[65]? = some v1 := mD_65
  have hrd := hr.drew
  (refine wp_region_freeD 14 [11, 12, 17, 18, 19, 20, 22, 23, 24] [] shp (phi _ [(11, .cst hVersion), (12, .ful hVersion), (17, .prf [ses]), (18, .byt (vecB ses 1)), (19, .cst hSuites), (20, .ful hSuites), (22, .prt ([hAble, hShare, vecB (vecB (hGroup ++ vecB share 2) 2) 2] ++ [hModes, hPsk, vecB (vecB (vecB ticket 2 ++ numB an 4) 2 ++ (hBinder ++ fx mk)) 2])), (23, .byt (vecB ([hAble, hShare, vecB (vecB (hGroup ++ vecB share 2) 2) 2] ++ [hModes, hPsk, vecB (vecB (vecB ticket 2 ++ numB an 4) 2 ++ (hBinder ++ fx mk)) 2]).flatten 2)), (24, .prf [hVersion, fx r, vecB ses 1, hSuites, vecB ([hAble, hShare, vecB (vecB (hGroup ++ vecB share 2) 2) 2] ++ [hModes, hPsk, vecB (vecB (vecB ticket 2 ++ numB an 4) 2 ++ (hBinder ++ fx mk)) 2]).flatten 2])]) (by kernel_rfl) (by kernel_rfl) (by kernel_rfl) (phi_stab _ _) (phi_shp _ _) shp_inh ?_; simp only [List.take_succ_cons, List.take_zero, List.drop_succ_cons, List.drop_zero]; apply Exists.intro; apply Exists.intro; refine ⟨?_, ?_, ?_⟩)
  · intro ν hν
    (refine wpF_cst hVersion _ rfl (by rfl) (by decide) (by decide) rfl rfl (fun d hd => by cases hd; rfl) ?_; (simp only [Act.put, vqF, pS]))
    (refine wpF_mark hVersion 11 rfl rfl (by simp) rfl rfl rfl rfl (fun d hd => by cases hd; rfl) ?_; (simp only [Act.put, vqF, pS]))
    iterate 4 (apply wpF_q rfl; focus (intro C hC hG; (first | go_big_quiet_skip | (go_big_quiet_want; go_big_quiet_op; first | go_big_quiet_on | (refine ⟨_, fun _ _ => rfl, ?_⟩; go_big_quiet_on)) | (go_big_quiet_want; apply qf_load1 _ _ rfl _ _ rfl; (exact hC); rotate_left 1; (focus (intro _; simp [go_sem]; done)); rotate_right 1; assumption; assumption; (simp only [Act.put, lS]; go_big_quiet_on)) | (go_big_quiet_want; apply qf_loadA _ _ rfl _ _ rfl (sz := 32); (exact hC); rotate_left 1; (focus (intro _; simp [go_sem]; done)); (focus (intro _; simp [go_sem]; done)); rotate_right 1; assumption; assumption; assumption; (simp only [Act.put, lS]; go_big_quiet_on))); exact wpQuiet_nil rfl))
    (refine wpF_prt [v1] [ses] _ rfl (by rfl) (by simp) (by simp) ?_ (fun w hB' hk => ⟨(H1.out.below hB.drew).below hB', trivial⟩) rfl rfl (fun d hd => by cases hd; rfl) ?_; (focus (intro v hv; simp only [List.mem_cons, List.not_mem_nil, or_false] at hv; (repeat' (first | subst hv | rcases hv with rfl | hv)); all_goals first | rfl | assumption | exact hν _)); (simp only [Act.put, vqF, pS]))
    (apply wpF_free; (focus rfl); (focus rfl); (exact (fun w' _ hd => of_byt (k := 18) rfl ((show vecB [ses].flatten 1 = vecB ses 1 by simp) ▸ vec_any 1 _ [ses] w' (by decide) (hd 17 (by simp) rfl).2 L1.out (by simp)))); (focus (intro w; simp [go_sem]; done)); simp only [Act.put, vqF, pS])
    (refine wpF_cst hSuites _ rfl (by rfl) (by decide) (by decide) rfl rfl (fun d hd => by cases hd; rfl) ?_; (simp only [Act.put, vqF, pS]))
    (refine wpF_mark hSuites 19 rfl rfl (by simp) rfl rfl rfl rfl (fun d hd => by cases hd; rfl) ?_; (simp only [Act.put, vqF, pS]))
    (apply wpF_q rfl; focus (intro C hC hG; go_big_quiet_want; apply qf_loadM _ rfl _ rfl; (exact hC); assumption; (exact mD_sz); (simp only [Act.put, lS]; go_big_quiet_on); exact wpQuiet_nil rfl))
    (apply wpF_free; (focus rfl); (focus rfl); (exact (fun w' hB' hd => of_prt (k := 22) rfl (offers_st r mk share ticket 1 v1 v3 v4 v5 v6 a2 c2 life an retry w' ((H2.out.below hB.drew).below hB') H0.out ((H3.out.below hB.drew).below hB') HS2.out HS3.out HAN.out))); (focus (intro w; simp [go_sem]; done)); simp only [Act.put, vqF, pS])
    (apply wpF_free; (focus rfl); (focus rfl); (exact (fun w' _ hd => of_byt (k := 23) rfl (vec_any 2 _ ([hAble, hShare, vecB (vecB (hGroup ++ vecB share 2) 2) 2] ++ [hModes, hPsk, vecB (vecB (vecB ticket 2 ++ numB an 4) 2 ++ (hBinder ++ fx mk)) 2]) w' (by decide) (hd 22 (by simp) rfl) L2.out (by simp)))); (focus (intro w; simp [go_sem]; done)); simp only [Act.put, vqF, pS])
    (refine wpF_prt [ν 12, .slice (some ⟨w.heap.size, 1, none⟩) 32 32, ν 18, ν 20, ν 23] [hVersion, fx r, vecB ses 1, hSuites, vecB ([hAble, hShare, vecB (vecB (hGroup ++ vecB share 2) 2) 2] ++ [hModes, hPsk, vecB (vecB (vecB ticket 2 ++ numB an 4) 2 ++ (hBinder ++ fx mk)) 2]).flatten 2] _ rfl (by rfl) (by simp) (by simp) ?_ (fun w hB' hk => ⟨(hk 12 (by simp) rfl).2, (SlB.rand hrd).below hB', hk 18 (by simp) rfl, (hk 20 (by simp) rfl).2, hk 23 (by simp) rfl, trivial⟩) rfl rfl (fun d hd => by cases hd; rfl) ?_; (focus (intro v hv; simp only [List.mem_cons, List.not_mem_nil, or_false] at hv; (repeat' (first | subst hv | rcases hv with rfl | hv)); all_goals first | rfl | assumption | exact hν _)); (simp only [Act.put, vqF, pS]))
    exact wpF_nil ⟨rfl, rfl⟩
  · intro ν ν'; kernel_rfl
  intro ν w1 hν hB1 hD
  have f24 := Lib.hid (phi_get (k := .prf [hVersion, fx r, vecB ses 1, hSuites, vecB ([hAble, hShare, vecB (vecB (hGroup ++ vecB share 2) 2) 2] ++ [hModes, hPsk, vecB (vecB (vecB ticket 2 ++ numB an 4) 2 ++ (hBinder ++ fx mk)) 2]).flatten 2]) (hD 24 (by simp)) rfl)
  have s_u24 : isSliceV (ν 24) = true := hν 24
  have hr := Row.below hr.drew hB1 hr.lt
  have hB := Below.trans hB.drew (hB1.mono hB.drew.size)
  obtain ⟨u24, hu24⟩ : ∃ u, u = ν 24 := ⟨_, rfl⟩
  rw [← hu24] at f24 s_u24 ⊢
  clear hu24
  clear hD hν hB1 hrd
  go_wp2_with fail
  refine (concat_any _ [hVersion, fx r, vecB ses 1, hSuites, vecB ([hAble, hShare, vecB (vecB (hGroup ++ vecB share 2) 2) 2] ++ [hModes, hPsk, vecB (vecB (vecB ticket 2 ++ numB an 4) 2 ++ (hBinder ++ fx mk)) 2]).flatten 2] _ (f24.out.2) L3.out (by simp)).mono ?_
  rintro e w2 ⟨v, rfl, hb, hb2⟩
  have HBB := Lib.hid hb.slb
  have hB := Below.trans hB (hb2.mono hB.size)
  clear hb hb2
  go_wp2_with fail
  go_ret
  exact ⟨_, rfl,  HBB.out, hB⟩
end Go.Proofs.Ytnenoecmmelehaa
