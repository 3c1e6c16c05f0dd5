/- Part of the proof: HBody. No conditions of its own. -/
import Derived.Below
import Derived.BigQuiet
import Derived.Deep.CutBlock
import Derived.Deep.DeepCutAuto
import Derived.Deep.Draws
import Derived.Deep.LoopGhost
import Derived.Deep.Quiet
import Derived.Deep.QuietTactic
import Derived.Deep.RegionLaw
import Derived.Great.BuildSlice
import Derived.Great.FillDense
import Derived.Laws.AppendOwn
import Derived.Laws.AppendOwnNone
import Derived.Laws.BytesArg
import Derived.Laws.Concat
import Derived.Laws.MakeOwn
import Derived.Lib.AppendZerosOnto
import Derived.Lib.Hide
import Derived.Lib.SlBytesConst
import Derived.StillTail
import Derived.Stop.BytesEq
import Derived.Test.YtnenoecmmelehaaProg
import Derived.WalkKit
import Derived.WalkLawsBesides
import Derived.WalkSpells
import Derived.Test.YtnenoecmmelehaaM12
import Derived.Test.YtnenoecmmelehaaM13
namespace Go.Proofs.Ytnenoecmmelehaa
open Go.RowKit
set_option linter.unusedVariables false
set_option linter.unusedSimpArgs false

set_option maxRecDepth 100000 in
set_option maxHeartbeats 4000000 in
theorem body_20 (r mk : List UInt8) (v1 v3 v4 v5 v6 : Value) (v2 : Value) (life age : Int) (psk retry : Bool) (w : World)  :
    Calls Try.prog 24 #[.agg (mD 20 r mk [v1, v2, v3, v4, v5, v6, .int .i64 life, .int .i64 age, .bool psk, .bool retry])] w fun e w' => ∃ v, e = .returned v ∧ SlB w' v (fx mk) ∧ Below w.heap.size w w' := by
  go_enter Try.func24, Try.ntmps24
  go_upto_region 25 with (fail)
  obtain ⟨w0, hw0⟩ : ∃ w0, w0 = w.alloc (.cells (mD 20 r mk [v1, v2, v3, v4, v5, v6, .int .i64 life, .int .i64 age, .bool psk, .bool retry]) 30) := ⟨_, rfl⟩
  rw [← hw0]
  have hr : Row w0 w.heap.size 30 (mD 20 r mk [v1, v2, v3, v4, v5, v6, .int .i64 life, .int .i64 age, .bool psk, .bool retry]) := by rw [hw0]; exact Row.new _ _ _
  have hB : Below w.heap.size w w0 := by rw [hw0]; (repeat (first | (with_reducible exact Below.refl _ _) | ((with_reducible first | refine bSetRow ?_ ?_ _ | refine Below.alloc ?_ ?_ _ | refine Below.setCell ?_ ?_ _); rotate_left 1; (focus (first | (simp; done) | (simp; omega)))) | (with_reducible refine Below.drew ?_)))
  clear hw0
  (refine wp_region_seq 3 [110] [] shp (phi _ [(110, .byt (fx mk))]) (by kernel_rfl) (phi_stab _ _) (phi_shp _ _) shp_inh ?_; simp only [List.take_succ_cons, List.take_zero, List.drop_succ_cons, List.drop_zero]; apply Exists.intro; apply Exists.intro; refine ⟨?_, ?_, ?_⟩)
  · intro ν hν
    iterate 2 (apply wpF_q rfl; focus (intro C hC hG; (first | go_big_quiet_skip | (go_big_quiet_want; go_big_quiet_op; first | go_big_quiet_on | (refine ⟨_, fun _ _ => rfl, ?_⟩; go_big_quiet_on)) | (go_big_quiet_want; apply qf_load1 _ _ rfl _ _ rfl; (exact hC); rotate_left 1; (focus (intro _; simp [go_sem]; done)); rotate_right 1; assumption; assumption; (simp only [Act.put, lS]; go_big_quiet_on)) | (go_big_quiet_want; apply qf_loadA _ _ rfl _ _ rfl (sz := 32); (exact hC); rotate_left 1; (focus (intro _; simp [go_sem]; done)); (focus (intro _; simp [go_sem]; done)); rotate_right 1; assumption; assumption; assumption; (simp only [Act.put, lS]; go_big_quiet_on))); exact wpQuiet_nil rfl))
    (apply wpF_free; (focus rfl); (focus rfl); (exact (fun w' hB' _ => of_byt (k := 110) rfl (clone_any _ (fx mk) w' ((SlB.markM hr).below hB') (by rw [fx_len]; decide)))); (focus (intro w; simp [go_sem]; done)); simp only [Act.put, vqF, pS])
    exact wpF_nil ⟨rfl, rfl⟩
  · intro ν ν'; kernel_rfl
  intro ν w1 hν hB1 hD
  have f := Lib.hid (phi_get (k := .byt (fx mk)) (hD 110 (by simp)) rfl)
  have s_u : isSliceV (ν 110) = true := hν 110
  have hr := Row.below hr hB1 hr.lt
  have hB := Below.trans hB (hB1.mono hB.size)
  obtain ⟨u, hu⟩ : ∃ u, u = ν 110 := ⟨_, rfl⟩
  rw [← hu] at f s_u ⊢
  clear hu
  clear hD hν hB1
  go_wp2_with fail
  go_ret
  exact ⟨_, rfl, f.out, hB⟩
set_option maxRecDepth 100000 in
set_option maxHeartbeats 4000000 in
theorem body_8 (r mk : List UInt8) (v1 v3 v4 v5 v6 : Value) (v2 : Value) (life age : Int) (psk retry : Bool) (w : World)  :
    Calls Try.prog 24 #[.agg (mD 8 r mk [v1, v2, v3, v4, v5, v6, .int .i64 life, .int .i64 age, .bool psk, .bool retry])] w fun e w' => ∃ v, e = .returned v ∧ SlB w' v (hNone2) ∧ Below w.heap.size w w' := by
  go_enter Try.func24, Try.ntmps24
  go_upto_region 12 with (fail)
  obtain ⟨w0, hw0⟩ : ∃ w0, w0 = w.alloc (.cells (mD 8 r mk [v1, v2, v3, v4, v5, v6, .int .i64 life, .int .i64 age, .bool psk, .bool retry]) 30) := ⟨_, rfl⟩
  rw [← hw0]
  have hr : Row w0 w.heap.size 30 (mD 8 r mk [v1, v2, v3, v4, v5, v6, .int .i64 life, .int .i64 age, .bool psk, .bool retry]) := by rw [hw0]; exact Row.new _ _ _
  have hB : Below w.heap.size w w0 := by rw [hw0]; (repeat (first | (with_reducible exact Below.refl _ _) | ((with_reducible first | refine bSetRow ?_ ?_ _ | refine Below.alloc ?_ ?_ _ | refine Below.setCell ?_ ?_ _); rotate_left 1; (focus (first | (simp; done) | (simp; omega)))) | (with_reducible refine Below.drew ?_)))
  clear hw0
  (refine wp_region_seq 2 [70, 71] [] shp (phi _ [(70, .cst hNone2), (71, .ful hNone2)]) (by kernel_rfl) (phi_stab _ _) (phi_shp _ _) shp_inh ?_; simp only [List.take_succ_cons, List.take_zero, List.drop_succ_cons, List.drop_zero]; apply Exists.intro; apply Exists.intro; refine ⟨?_, ?_, ?_⟩)
  · intro ν hν
    (refine wpF_cst hNone2 _ rfl (by rfl) (by decide) (by decide) rfl rfl (fun d hd => by cases hd; rfl) ?_; (simp only [Act.put, vqF, pS]))
    (refine wpF_mark hNone2 70 rfl rfl (by simp) rfl rfl rfl rfl (fun d hd => by cases hd; rfl) ?_; (simp only [Act.put, vqF, pS]))
    exact wpF_nil ⟨rfl, rfl⟩
  · intro ν ν'; kernel_rfl
  intro ν w1 hν hB1 hD
  have f := Lib.hid (phi_get (k := .ful hNone2) (hD 71 (by simp)) rfl)
  have s_u : isSliceV (ν 71) = true := hν 71
  have hr := Row.below hr hB1 hr.lt
  have hB := Below.trans hB (hB1.mono hB.size)
  obtain ⟨u, hu⟩ : ∃ u, u = ν 71 := ⟨_, rfl⟩
  rw [← hu] at f s_u ⊢
  clear hu
  clear hD hν hB1
  go_wp2_with fail
  go_ret
  exact ⟨_, rfl, f.out.2, hB⟩
set_option maxRecDepth 100000 in
set_option maxHeartbeats 4000000 in
theorem body_13 (r mk : List UInt8) (v1 v3 v4 v5 v6 : Value) (v2 : Value) (life age : Int) (psk retry : Bool) (w : World)  :
    Calls Try.prog 24 #[.agg (mD 13 r mk [v1, v2, v3, v4, v5, v6, .int .i64 life, .int .i64 age, .bool psk, .bool retry])] w fun e w' => ∃ v, e = .returned v ∧ SlB w' v (hAsked) ∧ Below w.heap.size w w' := by
  go_enter Try.func24, Try.ntmps24
  go_upto_region 22 with (fail)
  obtain ⟨w0, hw0⟩ : ∃ w0, w0 = w.alloc (.cells (mD 13 r mk [v1, v2, v3, v4, v5, v6, .int .i64 life, .int .i64 age, .bool psk, .bool retry]) 30) := ⟨_, rfl⟩
  rw [← hw0]
  have hr : Row w0 w.heap.size 30 (mD 13 r mk [v1, v2, v3, v4, v5, v6, .int .i64 life, .int .i64 age, .bool psk, .bool retry]) := by rw [hw0]; exact Row.new _ _ _
  have hB : Below w.heap.size w w0 := by rw [hw0]; (repeat (first | (with_reducible exact Below.refl _ _) | ((with_reducible first | refine bSetRow ?_ ?_ _ | refine Below.alloc ?_ ?_ _ | refine Below.setCell ?_ ?_ _); rotate_left 1; (focus (first | (simp; done) | (simp; omega)))) | (with_reducible refine Below.drew ?_)))
  clear hw0
  (refine wp_region_seq 2 [97, 98] [] shp (phi _ [(97, .cst hAsked), (98, .ful hAsked)]) (by kernel_rfl) (phi_stab _ _) (phi_shp _ _) shp_inh ?_; simp only [List.take_succ_cons, List.take_zero, List.drop_succ_cons, List.drop_zero]; apply Exists.intro; apply Exists.intro; refine ⟨?_, ?_, ?_⟩)
  · intro ν hν
    (refine wpF_cst hAsked _ rfl (by rfl) (by decide) (by decide) rfl rfl (fun d hd => by cases hd; rfl) ?_; (simp only [Act.put, vqF, pS]))
    (refine wpF_mark hAsked 97 rfl rfl (by simp) rfl rfl rfl rfl (fun d hd => by cases hd; rfl) ?_; (simp only [Act.put, vqF, pS]))
    exact wpF_nil ⟨rfl, rfl⟩
  · intro ν ν'; kernel_rfl
  intro ν w1 hν hB1 hD
  have f := Lib.hid (phi_get (k := .ful hAsked) (hD 98 (by simp)) rfl)
  have s_u : isSliceV (ν 98) = true := hν 98
  have hr := Row.below hr hB1 hr.lt
  have hB := Below.trans hB (hB1.mono hB.size)
  obtain ⟨u, hu⟩ : ∃ u, u = ν 98 := ⟨_, rfl⟩
  rw [← hu] at f s_u ⊢
  clear hu
  clear hD hν hB1
  go_wp2_with fail
  go_ret
  exact ⟨_, rfl, f.out.2, hB⟩
set_option maxRecDepth 100000 in
set_option maxHeartbeats 4000000 in
theorem body_15 (r mk : List UInt8) (v1 v3 v4 v5 v6 : Value) (v2 : Value) (sig : List UInt8) (life age : Int) (psk retry : Bool) (w : World) (h5 : SlB w v5 sig) (hs5 : sig.length ≤ 100000) :
    Calls Try.prog 24 #[.agg (mD 15 r mk [v1, v2, v3, v4, v5, v6, .int .i64 life, .int .i64 age, .bool psk, .bool retry])] w fun e w' => ∃ v, e = .returned v ∧ SlB w' v (hSigned ++ vecB sig 2) ∧ Below w.heap.size w w' := by
  have H5 := Lib.hid h5
  have sv5 := h5.shape
  have l1 : [sig].flatten.length ≤ 1000000 := by simp; omega
  have L1 := Lib.hid l1
  clear l1
  have l4 : hSigned.length + (vecB sig 2).length ≤ 1000000000 := by simp [vecB_len, hSigned]; omega
  have LS4 := Lib.hid l4
  clear l4
  have l5 : 0 < (vecB sig 2).length := by rw [vecB_len]; omega
  have LS5 := Lib.hid l5
  clear l5
  clear h5 hs5
  go_enter Try.func24, Try.ntmps24
  go_upto_region 24 with (fail)
  obtain ⟨w0, hw0⟩ : ∃ w0, w0 = w.alloc (.cells (mD 15 r mk [v1, v2, v3, v4, v5, v6, .int .i64 life, .int .i64 age, .bool psk, .bool retry]) 30) := ⟨_, rfl⟩
  rw [← hw0]
  have hr : Row w0 w.heap.size 30 (mD 15 r mk [v1, v2, v3, v4, v5, v6, .int .i64 life, .int .i64 age, .bool psk, .bool retry]) := by rw [hw0]; exact Row.new _ _ _
  have hB : Below w.heap.size w w0 := by rw [hw0]; (repeat (first | (with_reducible exact Below.refl _ _) | ((with_reducible first | refine bSetRow ?_ ?_ _ | refine Below.alloc ?_ ?_ _ | refine Below.setCell ?_ ?_ _); rotate_left 1; (focus (first | (simp; done) | (simp; omega)))) | (with_reducible refine Below.drew ?_)))
  clear hw0
  have g69 : (mD 15 r mk [v1, v2, v3, v4, v5, v6, .int .i64 life, .int .i64 age, .bool psk, .bool retry])[69]? = some v5 := mD_69
  (refine wp_region_seq 7 [101, 102, 105, 106, 107] [] shp (phi _ [(101, .cst hSigned), (102, .ful hSigned), (105, .prf [sig]), (106, .byt (vecB sig 2)), (107, .byt (hSigned ++ vecB sig 2))]) (by kernel_rfl) (phi_stab _ _) (phi_shp _ _) shp_inh ?_; simp only [List.take_succ_cons, List.take_zero, List.drop_succ_cons, List.drop_zero]; apply Exists.intro; apply Exists.intro; refine ⟨?_, ?_, ?_⟩)
  · intro ν hν
    (refine wpF_cst hSigned _ rfl (by rfl) (by decide) (by decide) rfl rfl (fun d hd => by cases hd; rfl) ?_; (simp only [Act.put, vqF, pS]))
    (refine wpF_mark hSigned 101 rfl rfl (by simp) rfl rfl rfl rfl (fun d hd => by cases hd; rfl) ?_; (simp only [Act.put, vqF, pS]))
    iterate 2 (apply wpF_q rfl; focus (intro C hC hG; (first | go_big_quiet_skip | (go_big_quiet_want; go_big_quiet_op; first | go_big_quiet_on | (refine ⟨_, fun _ _ => rfl, ?_⟩; go_big_quiet_on)) | (go_big_quiet_want; apply qf_load1 _ _ rfl _ _ rfl; (exact hC); rotate_left 1; (focus (intro _; simp [go_sem]; done)); rotate_right 1; assumption; assumption; (simp only [Act.put, lS]; go_big_quiet_on)) | (go_big_quiet_want; apply qf_loadA _ _ rfl _ _ rfl (sz := 32); (exact hC); rotate_left 1; (focus (intro _; simp [go_sem]; done)); (focus (intro _; simp [go_sem]; done)); rotate_right 1; assumption; assumption; assumption; (simp only [Act.put, lS]; go_big_quiet_on))); exact wpQuiet_nil rfl))
    (refine wpF_prt [v5] [sig] _ rfl (by rfl) (by simp) (by simp) ?_ (fun w hB' hk => ⟨(H5.out.below hB).below hB', trivial⟩) rfl rfl (fun d hd => by cases hd; rfl) ?_; (focus (intro v hv; simp only [List.mem_cons, List.not_mem_nil, or_false] at hv; (repeat' (first | subst hv | rcases hv with rfl | hv)); all_goals first | rfl | assumption | exact hν _)); (simp only [Act.put, vqF, pS]))
    (apply wpF_free; (focus rfl); (focus rfl); (exact (fun w' _ hd => of_byt (k := 106) rfl ((show vecB [sig].flatten 2 = vecB sig 2 by simp) ▸ vec_any 2 _ [sig] w' (by decide) (hd 105 (by simp) rfl).2 L1.out (by simp)))); (focus (intro w; simp [go_sem]; done)); simp only [Act.put, vqF, pS])
    (refine wpF_app 102 106 hSigned (vecB sig 2) rfl rfl rfl (by simp) rfl rfl (by simp) rfl rfl LS5.out LS4.out rfl rfl (fun d hd => by cases hd; rfl) ?_; (simp only [Act.put, vqF, pS]))
    exact wpF_nil ⟨rfl, rfl⟩
  · intro ν ν'; kernel_rfl
  intro ν w1 hν hB1 hD
  have f := Lib.hid (phi_get (k := .byt (hSigned ++ vecB sig 2)) (hD 107 (by simp)) rfl)
  have s_u : isSliceV (ν 107) = true := hν 107
  have hr := Row.below hr hB1 hr.lt
  have hB := Below.trans hB (hB1.mono hB.size)
  obtain ⟨u, hu⟩ : ∃ u, u = ν 107 := ⟨_, rfl⟩
  rw [← hu] at f s_u ⊢
  clear hu
  clear hD hν hB1
  go_wp2_with fail
  go_ret
  exact ⟨_, rfl, f.out, hB⟩
set_option maxRecDepth 100000 in
set_option maxHeartbeats 4000000 in
theorem body_4 (r mk : List UInt8) (v1 v3 v4 v5 v6 : Value) (v2 : Value) (ticket nonce : List UInt8) (ln an : Nat) (psk retry : Bool) (w : World) (h3 : SlB w v3 ticket) (h4 : SlB w v4 nonce) (hs3 : ticket.length ≤ 100000) (hs4 : nonce.length ≤ 100000) (hln : ln < 4294967296) (han : an < 4294967296) :
    Calls Try.prog 24 #[.agg (mD 4 r mk [v1, v2, v3, v4, v5, v6, .int .i64 (ln : Int), .int .i64 (an : Int), .bool psk, .bool retry])] w fun e w' => ∃ v, e = .returned v ∧ SlB w' v ([numB ln 4, numB an 4, vecB nonce 1, vecB ticket 2, hNone2].flatten) ∧ Below w.heap.size w w' := by
  have H3 := Lib.hid h3
  have H4 := Lib.hid h4
  have sv3 := h3.shape
  have sv4 := h4.shape
  have l1 : [nonce].flatten.length ≤ 1000000 := by simp; omega
  have L1 := Lib.hid l1
  clear l1
  have l2 : [ticket].flatten.length ≤ 1000000 := by simp; omega
  have L2 := Lib.hid l2
  clear l2
  have l3 : [numB ln 4, numB an 4, vecB nonce 1, vecB ticket 2, hNone2].flatten.length ≤ 1000000 := by simp [vecB_len, numB_len, hNone2]; omega
  have L3 := Lib.hid l3
  clear l3
  have HLN := Lib.hid hln
  have HAN := Lib.hid han
  clear h3 h4 hs3 hs4 hln han
  go_enter Try.func24, Try.ntmps24
  go_upto_region 10 with (fail)
  obtain ⟨w0, hw0⟩ : ∃ w0, w0 = w.alloc (.cells (mD 4 r mk [v1, v2, v3, v4, v5, v6, .int .i64 (ln : Int), .int .i64 (an : Int), .bool psk, .bool retry]) 30) := ⟨_, rfl⟩
  rw [← hw0]
  have hr : Row w0 w.heap.size 30 (mD 4 r mk [v1, v2, v3, v4, v5, v6, .int .i64 (ln : Int), .int .i64 (an : Int), .bool psk, .bool retry]) := by rw [hw0]; exact Row.new _ _ _
  have hB : Below w.heap.size w w0 := by rw [hw0]; (repeat (first | (with_reducible exact Below.refl _ _) | ((with_reducible first | refine bSetRow ?_ ?_ _ | refine Below.alloc ?_ ?_ _ | refine Below.setCell ?_ ?_ _); rotate_left 1; (focus (first | (simp; done) | (simp; omega)))) | (with_reducible refine Below.drew ?_)))
  clear hw0
  have g67 : (mD 4 r mk [v1, v2, v3, v4, v5, v6, .int .i64 (ln : Int), .int .i64 (an : Int), .bool psk, .bool retry])[67]? = some v3 := mD_67
  have g68 : (mD 4 r mk [v1, v2, v3, v4, v5, v6, .int .i64 (ln : Int), .int .i64 (an : Int), .bool psk, .bool retry])[68]? = some v4 := mD_68
  have g71 : (mD 4 r mk [v1, v2, v3, v4, v5, v6, .int .i64 (ln : Int), .int .i64 (an : Int), .bool psk, .bool retry])[71]? = some (.int .i64 (ln : Int)) := mD_71
  have g72 : (mD 4 r mk [v1, v2, v3, v4, v5, v6, .int .i64 (ln : Int), .int .i64 (an : Int), .bool psk, .bool retry])[72]? = some (.int .i64 (an : Int)) := mD_72
  have hrd := hr.drew
  (refine wp_region_freeD 17 [52, 55, 58, 59, 62, 63, 64, 65, 66] [] shp (phi _ [(52, .byt (numB ln 4)), (55, .byt (numB an 4)), (58, .prf [nonce]), (59, .byt (vecB nonce 1)), (62, .prf [ticket]), (63, .byt (vecB ticket 2)), (64, .cst hNone2), (65, .ful hNone2), (66, .prf [numB ln 4, numB an 4, vecB nonce 1, vecB ticket 2, hNone2])]) (by kernel_rfl) (by kernel_rfl) (by kernel_rfl) (phi_stab _ _) (phi_shp _ _) shp_inh ?_; simp only [List.take_succ_cons, List.take_zero, List.drop_succ_cons, List.drop_zero]; apply Exists.intro; apply Exists.intro; refine ⟨?_, ?_, ?_⟩)
  · intro ν hν
    iterate 2 (apply wpF_q rfl; focus (intro C hC hG; (first | go_big_quiet_skip | (go_big_quiet_want; go_big_quiet_op; first | go_big_quiet_on | (refine ⟨_, fun _ _ => rfl, ?_⟩; go_big_quiet_on)) | (go_big_quiet_want; apply qf_load1 _ _ rfl _ _ rfl; (exact hC); rotate_left 1; (focus (intro _; simp [go_sem]; done)); rotate_right 1; assumption; assumption; (simp only [Act.put, lS]; go_big_quiet_on)) | (go_big_quiet_want; apply qf_loadA _ _ rfl _ _ rfl (sz := 32); (exact hC); rotate_left 1; (focus (intro _; simp [go_sem]; done)); (focus (intro _; simp [go_sem]; done)); rotate_right 1; assumption; assumption; assumption; (simp only [Act.put, lS]; go_big_quiet_on))); exact wpQuiet_nil rfl))
    (apply wpF_free; (focus rfl); (focus rfl); (exact (fun w' _ _ => of_byt (k := 52) rfl (num_any ln 4 w' HLN.out (by decide)))); (focus (intro w; simp [go_sem]; done)); simp only [Act.put, vqF, pS])
    iterate 2 (apply wpF_q rfl; focus (intro C hC hG; (first | go_big_quiet_skip | (go_big_quiet_want; go_big_quiet_op; first | go_big_quiet_on | (refine ⟨_, fun _ _ => rfl, ?_⟩; go_big_quiet_on)) | (go_big_quiet_want; apply qf_load1 _ _ rfl _ _ rfl; (exact hC); rotate_left 1; (focus (intro _; simp [go_sem]; done)); rotate_right 1; assumption; assumption; (simp only [Act.put, lS]; go_big_quiet_on)) | (go_big_quiet_want; apply qf_loadA _ _ rfl _ _ rfl (sz := 32); (exact hC); rotate_left 1; (focus (intro _; simp [go_sem]; done)); (focus (intro _; simp [go_sem]; done)); rotate_right 1; assumption; assumption; assumption; (simp only [Act.put, lS]; go_big_quiet_on))); exact wpQuiet_nil rfl))
    (apply wpF_free; (focus rfl); (focus rfl); (exact (fun w' _ _ => of_byt (k := 55) rfl (num_any an 4 w' HAN.out (by decide)))); (focus (intro w; simp [go_sem]; done)); simp only [Act.put, vqF, pS])
    iterate 2 (apply wpF_q rfl; focus (intro C hC hG; (first | go_big_quiet_skip | (go_big_quiet_want; go_big_quiet_op; first | go_big_quiet_on | (refine ⟨_, fun _ _ => rfl, ?_⟩; go_big_quiet_on)) | (go_big_quiet_want; apply qf_load1 _ _ rfl _ _ rfl; (exact hC); rotate_left 1; (focus (intro _; simp [go_sem]; done)); rotate_right 1; assumption; assumption; (simp only [Act.put, lS]; go_big_quiet_on)) | (go_big_quiet_want; apply qf_loadA _ _ rfl _ _ rfl (sz := 32); (exact hC); rotate_left 1; (focus (intro _; simp [go_sem]; done)); (focus (intro _; simp [go_sem]; done)); rotate_right 1; assumption; assumption; assumption; (simp only [Act.put, lS]; go_big_quiet_on))); exact wpQuiet_nil rfl))
    (refine wpF_prt [v4] [nonce] _ rfl (by rfl) (by simp) (by simp) ?_ (fun w hB' hk => ⟨(H4.out.below hB.drew).below hB', trivial⟩) rfl rfl (fun d hd => by cases hd; rfl) ?_; (focus (intro v hv; simp only [List.mem_cons, List.not_mem_nil, or_false] at hv; (repeat' (first | subst hv | rcases hv with rfl | hv)); all_goals first | rfl | assumption | exact hν _)); (simp only [Act.put, vqF, pS]))
    (apply wpF_free; (focus rfl); (focus rfl); (exact (fun w' _ hd => of_byt (k := 59) rfl ((show vecB [nonce].flatten 1 = vecB nonce 1 by simp) ▸ vec_any 1 _ [nonce] w' (by decide) (hd 58 (by simp) rfl).2 L1.out (by simp)))); (focus (intro w; simp [go_sem]; done)); simp only [Act.put, vqF, pS])
    iterate 2 (apply wpF_q rfl; focus (intro C hC hG; (first | go_big_quiet_skip | (go_big_quiet_want; go_big_quiet_op; first | go_big_quiet_on | (refine ⟨_, fun _ _ => rfl, ?_⟩; go_big_quiet_on)) | (go_big_quiet_want; apply qf_load1 _ _ rfl _ _ rfl; (exact hC); rotate_left 1; (focus (intro _; simp [go_sem]; done)); rotate_right 1; assumption; assumption; (simp only [Act.put, lS]; go_big_quiet_on)) | (go_big_quiet_want; apply qf_loadA _ _ rfl _ _ rfl (sz := 32); (exact hC); rotate_left 1; (focus (intro _; simp [go_sem]; done)); (focus (intro _; simp [go_sem]; done)); rotate_right 1; assumption; assumption; assumption; (simp only [Act.put, lS]; go_big_quiet_on))); exact wpQuiet_nil rfl))
    (refine wpF_prt [v3] [ticket] _ rfl (by rfl) (by simp) (by simp) ?_ (fun w hB' hk => ⟨(H3.out.below hB.drew).below hB', trivial⟩) rfl rfl (fun d hd => by cases hd; rfl) ?_; (focus (intro v hv; simp only [List.mem_cons, List.not_mem_nil, or_false] at hv; (repeat' (first | subst hv | rcases hv with rfl | hv)); all_goals first | rfl | assumption | exact hν _)); (simp only [Act.put, vqF, pS]))
    (apply wpF_free; (focus rfl); (focus rfl); (exact (fun w' _ hd => of_byt (k := 63) rfl ((show vecB [ticket].flatten 2 = vecB ticket 2 by simp) ▸ vec_any 2 _ [ticket] w' (by decide) (hd 62 (by simp) rfl).2 L2.out (by simp)))); (focus (intro w; simp [go_sem]; done)); simp only [Act.put, vqF, pS])
    (refine wpF_cst hNone2 _ rfl (by rfl) (by decide) (by decide) rfl rfl (fun d hd => by cases hd; rfl) ?_; (simp only [Act.put, vqF, pS]))
    (refine wpF_mark hNone2 64 rfl rfl (by simp) rfl rfl rfl rfl (fun d hd => by cases hd; rfl) ?_; (simp only [Act.put, vqF, pS]))
    (refine wpF_prt [ν 52, ν 55, ν 59, ν 63, ν 65] [numB ln 4, numB an 4, vecB nonce 1, vecB ticket 2, hNone2] _ rfl (by rfl) (by simp) (by simp) ?_ (fun w hB' hk => ⟨hk 52 (by simp) rfl, hk 55 (by simp) rfl, hk 59 (by simp) rfl, hk 63 (by simp) rfl, (hk 65 (by simp) rfl).2, trivial⟩) rfl rfl (fun d hd => by cases hd; rfl) ?_; (focus (intro v hv; simp only [List.mem_cons, List.not_mem_nil, or_false] at hv; (repeat' (first | subst hv | rcases hv with rfl | hv)); all_goals first | rfl | assumption | exact hν _)); (simp only [Act.put, vqF, pS]))
    exact wpF_nil ⟨rfl, rfl⟩
  · intro ν ν'; kernel_rfl
  intro ν w1 hν hB1 hD
  have f66 := Lib.hid (phi_get (k := .prf [numB ln 4, numB an 4, vecB nonce 1, vecB ticket 2, hNone2]) (hD 66 (by simp)) rfl)
  have s_u66 : isSliceV (ν 66) = true := hν 66
  have hr := Row.below hr.drew hB1 hr.lt
  have hB := Below.trans hB.drew (hB1.mono hB.drew.size)
  obtain ⟨u66, hu66⟩ : ∃ u, u = ν 66 := ⟨_, rfl⟩
  rw [← hu66] at f66 s_u66 ⊢
  clear hu66
  clear hD hν hB1 hrd
  go_wp2_with fail
  refine (concat_any _ [numB ln 4, numB an 4, vecB nonce 1, vecB ticket 2, hNone2] _ (f66.out.2) L3.out (by simp)).mono ?_
  rintro e w2 ⟨v, rfl, hb, hb2⟩
  have HBB := Lib.hid hb.slb
  have hB := Below.trans hB (hb2.mono hB.size)
  clear hb hb2
  go_wp2_with fail
  go_ret
  exact ⟨_, rfl,  HBB.out, hB⟩
end Go.Proofs.Ytnenoecmmelehaa
