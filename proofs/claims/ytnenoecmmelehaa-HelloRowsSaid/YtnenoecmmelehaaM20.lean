/- Part of the proof: HWriteB. No conditions of its own. -/
import Derived.Below
import Derived.BigQuiet
import Derived.Deep.CutBlock
import Derived.Deep.DeepCutAuto
import Derived.Deep.Draws
import Derived.Deep.LoopGhost
import Derived.Deep.Quiet
import Derived.Deep.QuietTactic
import Derived.Deep.RegionLaw
import Derived.Great.BuildSlice
import Derived.Great.FillDense
import Derived.Laws.AppendOwn
import Derived.Laws.AppendOwnNone
import Derived.Laws.BytesArg
import Derived.Laws.Concat
import Derived.Laws.MakeOwn
import Derived.Lib.AppendZerosOnto
import Derived.Lib.Hide
import Derived.Lib.SlBytesConst
import Derived.StillTail
import Derived.Stop.BytesEq
import Derived.Test.YtnenoecmmelehaaProg
import Derived.WalkKit
import Derived.WalkLawsBesides
import Derived.WalkSpells
import Derived.Test.YtnenoecmmelehaaM12
namespace Go.Proofs.Ytnenoecmmelehaa
open Go.RowKit
set_option linter.unusedVariables false
set_option linter.unusedSimpArgs false

set_option maxRecDepth 100000 in
set_option maxHeartbeats 4000000 in
theorem write_1 (r mk b : List UInt8) (v1 v2 v3 v4 v5 v6 : Value) (life age : Int) (psk retry : Bool) (w : World) (hl : b.length ≤ 1000000)
    (hright : ∀ W, Below w.heap.size w W → Calls Try.prog 22 #[.agg (mD 1 r mk [v1, v2, v3, v4, v5, v6, .int .i64 life, .int .i64 age, .bool psk, .bool retry])] W fun e w' => e = .returned (.bool true) ∧ Below W.heap.size W w')
    (hbody : ∀ W, Below w.heap.size w W → Calls Try.prog 24 #[.agg (mD 1 r mk [v1, v2, v3, v4, v5, v6, .int .i64 life, .int .i64 age, .bool psk, .bool retry])] W fun e w' => ∃ v, e = .returned v ∧ SlB w' v b ∧ Below W.heap.size W w') :
    Calls Try.prog 11 #[.agg (mD 1 r mk [v1, v2, v3, v4, v5, v6, .int .i64 life, .int .i64 age, .bool psk, .bool retry])] w fun e w' => ∃ v, e = .returned (.tuple #[v, .int .i64 0]) ∧ Buf 5 w' w.heap.size v ([1] ++ vecB b 3) ∧ Below w.heap.size w w' := by
  have HR := Lib.hid hright
  have HBO := Lib.hid hbody
  have L1 := Lib.hid (show [b].flatten.length ≤ 1000000 by simpa using hl)
  have L2 := Lib.hid (show [(1 : UInt8)].length + (vecB b 3).length ≤ 1000000000 by rw [vecB_len]; simp; omega)
  have L3 := Lib.hid (show 0 < (vecB b 3).length by rw [vecB_len]; omega)
  clear hright hbody hl
  go_enter Try.func11, Try.ntmps11
  go_wp2_with fail
  refine (HR.out _ (by (repeat (first | (with_reducible exact Below.refl _ _) | ((with_reducible first | refine bSetRow ?_ ?_ _ | refine Below.alloc ?_ ?_ _ | refine Below.setCell ?_ ?_ _); rotate_left 1; (focus (first | (simp; done) | (simp; omega)))) | (with_reducible refine Below.drew ?_))))).mono ?_
  rintro e w0 ⟨rfl, hb0⟩
  have hr : Row w0 w.heap.size 30 (mD 1 r mk [v1, v2, v3, v4, v5, v6, .int .i64 life, .int .i64 age, .bool psk, .bool retry]) := (Row.new w 30 (mD 1 r mk [v1, v2, v3, v4, v5, v6, .int .i64 life, .int .i64 age, .bool psk, .bool retry])).below hb0 (Row.new w 30 (mD 1 r mk [v1, v2, v3, v4, v5, v6, .int .i64 life, .int .i64 age, .bool psk, .bool retry])).lt
  have hB : Below w.heap.size w w0 := Below.trans (by (repeat (first | (with_reducible exact Below.refl _ _) | ((with_reducible first | refine bSetRow ?_ ?_ _ | refine Below.alloc ?_ ?_ _ | refine Below.setCell ?_ ?_ _); rotate_left 1; (focus (first | (simp; done) | (simp; omega)))) | (with_reducible refine Below.drew ?_)))) (hb0.mono (by simp))
  clear hb0
  go_upto_region 3 with (fail)
  have g0 : (mD 1 r mk [v1, v2, v3, v4, v5, v6, .int .i64 life, .int .i64 age, .bool psk, .bool retry])[0]? = some (.int .i64 1) := mD_0
  have hrd := hr.drew
  (refine wp_region_freeD 8 [10, 12, 13, 14] [] shp (phi _ [(10, .cst [1]), (12, .byt b), (13, .prf [b]), (14, .byt (vecB b 3))]) (by kernel_rfl) (by kernel_rfl) (by kernel_rfl) (phi_stab _ _) (phi_shp _ _) shp_inh ?_; simp only [List.take_succ_cons, List.take_zero, List.drop_succ_cons, List.drop_zero]; apply Exists.intro; apply Exists.intro; refine ⟨?_, ?_, ?_⟩)
  · intro ν hν
    iterate 3 (apply wpF_q rfl; focus (intro C hC hG; (first | go_big_quiet_skip | (go_big_quiet_want; go_big_quiet_op; first | go_big_quiet_on | (refine ⟨_, fun _ _ => rfl, ?_⟩; go_big_quiet_on)) | (go_big_quiet_want; apply qf_load1 _ _ rfl _ _ rfl; (exact hC); rotate_left 1; (focus (intro _; simp [go_sem]; done)); rotate_right 1; assumption; assumption; (simp only [Act.put, lS]; go_big_quiet_on)) | (go_big_quiet_want; apply qf_loadA _ _ rfl _ _ rfl (sz := 32); (exact hC); rotate_left 1; (focus (intro _; simp [go_sem]; done)); (focus (intro _; simp [go_sem]; done)); rotate_right 1; assumption; assumption; assumption; (simp only [Act.put, lS]; go_big_quiet_on))); exact wpQuiet_nil rfl))
    (refine wpF_cst [1] _ rfl (by rfl) (by decide) (by decide) rfl rfl (fun d hd => by cases hd; rfl) ?_; (simp only [Act.put, vqF, pS]))
    (apply wpF_q rfl; focus (intro C hC hG; go_big_quiet_want; apply qf_loadM _ rfl _ rfl; (exact hC); assumption; (exact mD_sz); (simp only [Act.put, lS]; go_big_quiet_on); exact wpQuiet_nil rfl))
    (apply wpF_free; (focus rfl); (focus rfl); (exact (fun w' hB' _ => by exact (HBO.out w' (hB.drew.trans (hB'.mono hB.drew.size))).mono fun e w'' ⟨v, h1, h2, h3⟩ => ⟨v, h1, fun d hd => by cases hd; exact h2, h3⟩)); (focus (intro w; simp [go_sem]; done)); simp only [Act.put, vqF, pS])
    (refine wpF_prt [ν 12] [b] _ rfl (by rfl) (by simp) (by simp) ?_ (fun w hB' hk => ⟨hk 12 (by simp) rfl, trivial⟩) rfl rfl (fun d hd => by cases hd; rfl) ?_; (focus (intro v hv; simp only [List.mem_cons, List.not_mem_nil, or_false] at hv; (repeat' (first | subst hv | rcases hv with rfl | hv)); all_goals first | rfl | assumption | exact hν _)); (simp only [Act.put, vqF, pS]))
    (apply wpF_free; (focus rfl); (focus rfl); (exact (fun w' _ hd => of_byt (k := 14) rfl ((show vecB [b].flatten 3 = vecB b 3 by simp) ▸ vec_any 3 _ [b] w' (by decide) (hd 13 (by simp) rfl).2 L1.out (by simp)))); (focus (intro w; simp [go_sem]; done)); simp only [Act.put, vqF, pS])
    exact wpF_nil ⟨rfl, rfl⟩
  · intro ν ν'; kernel_rfl
  intro ν w1 hν hB1 hD
  have f10 := Lib.hid (phi_get (k := .cst [1]) (hD 10 (by simp)) rfl)
  have s_u10 : isSliceV (ν 10) = true := hν 10
  have f14 := Lib.hid (phi_get (k := .byt (vecB b 3)) (hD 14 (by simp)) rfl)
  have s_u14 : isSliceV (ν 14) = true := hν 14
  have hr := Row.below hr.drew hB1 hr.lt
  have hB := Below.trans hB.drew (hB1.mono hB.drew.size)
  obtain ⟨u10, hu10⟩ : ∃ u, u = ν 10 := ⟨_, rfl⟩
  rw [← hu10] at f10 s_u10 ⊢
  clear hu10
  obtain ⟨u14, hu14⟩ : ∃ u, u = ν 14 := ⟨_, rfl⟩
  rw [← hu14] at f14 s_u14 ⊢
  clear hu14
  clear hD hν hB1 hrd
  obtain ⟨g, f, e10, hg, _, hh⟩ := f10.out
  obtain ⟨v', w', hap, hbuf, hbel⟩ := run_app_full w1 g 0 [1] (vecB b 3) u14 0 (SlB.rowAt hh rfl (by decide)) f14.out L3.out L2.out
  have HF := Lib.hid (hbuf.low hB.size)
  have hB := Below.trans hB (hbel.mono hB.size)
  have HAP := Lib.hid (show ∀ ty, (Builtin.append_ #[27, 27] ty #[.slice (some ⟨g, 0, none⟩) [(1 : UInt8)].length [(1 : UInt8)].length, u14]).run Try.prog w1 = .ok v' w' from fun _ => hap)
  have HE := Lib.hid e10
  clear hh hap hbuf hbel hg hr
  refine wpl_run rfl (.tmp 10) (.tmp 14) _ _ rfl (v := u10) (u := u14) rfl rfl (fun ty => by rw [HE.out]; exact HAP.out ty) ?_
  simp only [Act.put, lS]
  go_wp2_with fail
  go_ret2
  exact ⟨_, rfl, HF.out, hB⟩
set_option maxRecDepth 100000 in
set_option maxHeartbeats 4000000 in
theorem write_2 (r mk b : List UInt8) (v1 v2 v3 v4 v5 v6 : Value) (life age : Int) (psk retry : Bool) (w : World) (hl : b.length ≤ 1000000)
    (hright : ∀ W, Below w.heap.size w W → Calls Try.prog 22 #[.agg (mD 2 r mk [v1, v2, v3, v4, v5, v6, .int .i64 life, .int .i64 age, .bool psk, .bool retry])] W fun e w' => e = .returned (.bool true) ∧ Below W.heap.size W w')
    (hbody : ∀ W, Below w.heap.size w W → Calls Try.prog 24 #[.agg (mD 2 r mk [v1, v2, v3, v4, v5, v6, .int .i64 life, .int .i64 age, .bool psk, .bool retry])] W fun e w' => ∃ v, e = .returned v ∧ SlB w' v b ∧ Below W.heap.size W w') :
    Calls Try.prog 11 #[.agg (mD 2 r mk [v1, v2, v3, v4, v5, v6, .int .i64 life, .int .i64 age, .bool psk, .bool retry])] w fun e w' => ∃ v, e = .returned (.tuple #[v, .int .i64 0]) ∧ Buf 5 w' w.heap.size v ([2] ++ vecB b 3) ∧ Below w.heap.size w w' := by
  have HR := Lib.hid hright
  have HBO := Lib.hid hbody
  have L1 := Lib.hid (show [b].flatten.length ≤ 1000000 by simpa using hl)
  have L2 := Lib.hid (show [(2 : UInt8)].length + (vecB b 3).length ≤ 1000000000 by rw [vecB_len]; simp; omega)
  have L3 := Lib.hid (show 0 < (vecB b 3).length by rw [vecB_len]; omega)
  clear hright hbody hl
  go_enter Try.func11, Try.ntmps11
  go_wp2_with fail
  refine (HR.out _ (by (repeat (first | (with_reducible exact Below.refl _ _) | ((with_reducible first | refine bSetRow ?_ ?_ _ | refine Below.alloc ?_ ?_ _ | refine Below.setCell ?_ ?_ _); rotate_left 1; (focus (first | (simp; done) | (simp; omega)))) | (with_reducible refine Below.drew ?_))))).mono ?_
  rintro e w0 ⟨rfl, hb0⟩
  have hr : Row w0 w.heap.size 30 (mD 2 r mk [v1, v2, v3, v4, v5, v6, .int .i64 life, .int .i64 age, .bool psk, .bool retry]) := (Row.new w 30 (mD 2 r mk [v1, v2, v3, v4, v5, v6, .int .i64 life, .int .i64 age, .bool psk, .bool retry])).below hb0 (Row.new w 30 (mD 2 r mk [v1, v2, v3, v4, v5, v6, .int .i64 life, .int .i64 age, .bool psk, .bool retry])).lt
  have hB : Below w.heap.size w w0 := Below.trans (by (repeat (first | (with_reducible exact Below.refl _ _) | ((with_reducible first | refine bSetRow ?_ ?_ _ | refine Below.alloc ?_ ?_ _ | refine Below.setCell ?_ ?_ _); rotate_left 1; (focus (first | (simp; done) | (simp; omega)))) | (with_reducible refine Below.drew ?_)))) (hb0.mono (by simp))
  clear hb0
  go_upto_region 3 with (fail)
  have g0 : (mD 2 r mk [v1, v2, v3, v4, v5, v6, .int .i64 life, .int .i64 age, .bool psk, .bool retry])[0]? = some (.int .i64 2) := mD_0
  have hrd := hr.drew
  (refine wp_region_freeD 8 [10, 12, 13, 14] [] shp (phi _ [(10, .cst [2]), (12, .byt b), (13, .prf [b]), (14, .byt (vecB b 3))]) (by kernel_rfl) (by kernel_rfl) (by kernel_rfl) (phi_stab _ _) (phi_shp _ _) shp_inh ?_; simp only [List.take_succ_cons, List.take_zero, List.drop_succ_cons, List.drop_zero]; apply Exists.intro; apply Exists.intro; refine ⟨?_, ?_, ?_⟩)
  · intro ν hν
    iterate 3 (apply wpF_q rfl; focus (intro C hC hG; (first | go_big_quiet_skip | (go_big_quiet_want; go_big_quiet_op; first | go_big_quiet_on | (refine ⟨_, fun _ _ => rfl, ?_⟩; go_big_quiet_on)) | (go_big_quiet_want; apply qf_load1 _ _ rfl _ _ rfl; (exact hC); rotate_left 1; (focus (intro _; simp [go_sem]; done)); rotate_right 1; assumption; assumption; (simp only [Act.put, lS]; go_big_quiet_on)) | (go_big_quiet_want; apply qf_loadA _ _ rfl _ _ rfl (sz := 32); (exact hC); rotate_left 1; (focus (intro _; simp [go_sem]; done)); (focus (intro _; simp [go_sem]; done)); rotate_right 1; assumption; assumption; assumption; (simp only [Act.put, lS]; go_big_quiet_on))); exact wpQuiet_nil rfl))
    (refine wpF_cst [2] _ rfl (by rfl) (by decide) (by decide) rfl rfl (fun d hd => by cases hd; rfl) ?_; (simp only [Act.put, vqF, pS]))
    (apply wpF_q rfl; focus (intro C hC hG; go_big_quiet_want; apply qf_loadM _ rfl _ rfl; (exact hC); assumption; (exact mD_sz); (simp only [Act.put, lS]; go_big_quiet_on); exact wpQuiet_nil rfl))
    (apply wpF_free; (focus rfl); (focus rfl); (exact (fun w' hB' _ => by exact (HBO.out w' (hB.drew.trans (hB'.mono hB.drew.size))).mono fun e w'' ⟨v, h1, h2, h3⟩ => ⟨v, h1, fun d hd => by cases hd; exact h2, h3⟩)); (focus (intro w; simp [go_sem]; done)); simp only [Act.put, vqF, pS])
    (refine wpF_prt [ν 12] [b] _ rfl (by rfl) (by simp) (by simp) ?_ (fun w hB' hk => ⟨hk 12 (by simp) rfl, trivial⟩) rfl rfl (fun d hd => by cases hd; rfl) ?_; (focus (intro v hv; simp only [List.mem_cons, List.not_mem_nil, or_false] at hv; (repeat' (first | subst hv | rcases hv with rfl | hv)); all_goals first | rfl | assumption | exact hν _)); (simp only [Act.put, vqF, pS]))
    (apply wpF_free; (focus rfl); (focus rfl); (exact (fun w' _ hd => of_byt (k := 14) rfl ((show vecB [b].flatten 3 = vecB b 3 by simp) ▸ vec_any 3 _ [b] w' (by decide) (hd 13 (by simp) rfl).2 L1.out (by simp)))); (focus (intro w; simp [go_sem]; done)); simp only [Act.put, vqF, pS])
    exact wpF_nil ⟨rfl, rfl⟩
  · intro ν ν'; kernel_rfl
  intro ν w1 hν hB1 hD
  have f10 := Lib.hid (phi_get (k := .cst [2]) (hD 10 (by simp)) rfl)
  have s_u10 : isSliceV (ν 10) = true := hν 10
  have f14 := Lib.hid (phi_get (k := .byt (vecB b 3)) (hD 14 (by simp)) rfl)
  have s_u14 : isSliceV (ν 14) = true := hν 14
  have hr := Row.below hr.drew hB1 hr.lt
  have hB := Below.trans hB.drew (hB1.mono hB.drew.size)
  obtain ⟨u10, hu10⟩ : ∃ u, u = ν 10 := ⟨_, rfl⟩
  rw [← hu10] at f10 s_u10 ⊢
  clear hu10
  obtain ⟨u14, hu14⟩ : ∃ u, u = ν 14 := ⟨_, rfl⟩
  rw [← hu14] at f14 s_u14 ⊢
  clear hu14
  clear hD hν hB1 hrd
  obtain ⟨g, f, e10, hg, _, hh⟩ := f10.out
  obtain ⟨v', w', hap, hbuf, hbel⟩ := run_app_full w1 g 0 [2] (vecB b 3) u14 0 (SlB.rowAt hh rfl (by decide)) f14.out L3.out L2.out
  have HF := Lib.hid (hbuf.low hB.size)
  have hB := Below.trans hB (hbel.mono hB.size)
  have HAP := Lib.hid (show ∀ ty, (Builtin.append_ #[27, 27] ty #[.slice (some ⟨g, 0, none⟩) [(2 : UInt8)].length [(2 : UInt8)].length, u14]).run Try.prog w1 = .ok v' w' from fun _ => hap)
  have HE := Lib.hid e10
  clear hh hap hbuf hbel hg hr
  refine wpl_run rfl (.tmp 10) (.tmp 14) _ _ rfl (v := u10) (u := u14) rfl rfl (fun ty => by rw [HE.out]; exact HAP.out ty) ?_
  simp only [Act.put, lS]
  go_wp2_with fail
  go_ret2
  exact ⟨_, rfl, HF.out, hB⟩
set_option maxRecDepth 100000 in
set_option maxHeartbeats 4000000 in
theorem write_4 (r mk b : List UInt8) (v1 v2 v3 v4 v5 v6 : Value) (life age : Int) (psk retry : Bool) (w : World) (hl : b.length ≤ 1000000)
    (hright : ∀ W, Below w.heap.size w W → Calls Try.prog 22 #[.agg (mD 4 r mk [v1, v2, v3, v4, v5, v6, .int .i64 life, .int .i64 age, .bool psk, .bool retry])] W fun e w' => e = .returned (.bool true) ∧ Below W.heap.size W w')
    (hbody : ∀ W, Below w.heap.size w W → Calls Try.prog 24 #[.agg (mD 4 r mk [v1, v2, v3, v4, v5, v6, .int .i64 life, .int .i64 age, .bool psk, .bool retry])] W fun e w' => ∃ v, e = .returned v ∧ SlB w' v b ∧ Below W.heap.size W w') :
    Calls Try.prog 11 #[.agg (mD 4 r mk [v1, v2, v3, v4, v5, v6, .int .i64 life, .int .i64 age, .bool psk, .bool retry])] w fun e w' => ∃ v, e = .returned (.tuple #[v, .int .i64 0]) ∧ Buf 5 w' w.heap.size v ([4] ++ vecB b 3) ∧ Below w.heap.size w w' := by
  have HR := Lib.hid hright
  have HBO := Lib.hid hbody
  have L1 := Lib.hid (show [b].flatten.length ≤ 1000000 by simpa using hl)
  have L2 := Lib.hid (show [(4 : UInt8)].length + (vecB b 3).length ≤ 1000000000 by rw [vecB_len]; simp; omega)
  have L3 := Lib.hid (show 0 < (vecB b 3).length by rw [vecB_len]; omega)
  clear hright hbody hl
  go_enter Try.func11, Try.ntmps11
  go_wp2_with fail
  refine (HR.out _ (by (repeat (first | (with_reducible exact Below.refl _ _) | ((with_reducible first | refine bSetRow ?_ ?_ _ | refine Below.alloc ?_ ?_ _ | refine Below.setCell ?_ ?_ _); rotate_left 1; (focus (first | (simp; done) | (simp; omega)))) | (with_reducible refine Below.drew ?_))))).mono ?_
  rintro e w0 ⟨rfl, hb0⟩
  have hr : Row w0 w.heap.size 30 (mD 4 r mk [v1, v2, v3, v4, v5, v6, .int .i64 life, .int .i64 age, .bool psk, .bool retry]) := (Row.new w 30 (mD 4 r mk [v1, v2, v3, v4, v5, v6, .int .i64 life, .int .i64 age, .bool psk, .bool retry])).below hb0 (Row.new w 30 (mD 4 r mk [v1, v2, v3, v4, v5, v6, .int .i64 life, .int .i64 age, .bool psk, .bool retry])).lt
  have hB : Below w.heap.size w w0 := Below.trans (by (repeat (first | (with_reducible exact Below.refl _ _) | ((with_reducible first | refine bSetRow ?_ ?_ _ | refine Below.alloc ?_ ?_ _ | refine Below.setCell ?_ ?_ _); rotate_left 1; (focus (first | (simp; done) | (simp; omega)))) | (with_reducible refine Below.drew ?_)))) (hb0.mono (by simp))
  clear hb0
  go_upto_region 3 with (fail)
  have g0 : (mD 4 r mk [v1, v2, v3, v4, v5, v6, .int .i64 life, .int .i64 age, .bool psk, .bool retry])[0]? = some (.int .i64 4) := mD_0
  have hrd := hr.drew
  (refine wp_region_freeD 8 [10, 12, 13, 14] [] shp (phi _ [(10, .cst [4]), (12, .byt b), (13, .prf [b]), (14, .byt (vecB b 3))]) (by kernel_rfl) (by kernel_rfl) (by kernel_rfl) (phi_stab _ _) (phi_shp _ _) shp_inh ?_; simp only [List.take_succ_cons, List.take_zero, List.drop_succ_cons, List.drop_zero]; apply Exists.intro; apply Exists.intro; refine ⟨?_, ?_, ?_⟩)
  · intro ν hν
    iterate 3 (apply wpF_q rfl; focus (intro C hC hG; (first | go_big_quiet_skip | (go_big_quiet_want; go_big_quiet_op; first | go_big_quiet_on | (refine ⟨_, fun _ _ => rfl, ?_⟩; go_big_quiet_on)) | (go_big_quiet_want; apply qf_load1 _ _ rfl _ _ rfl; (exact hC); rotate_left 1; (focus (intro _; simp [go_sem]; done)); rotate_right 1; assumption; assumption; (simp only [Act.put, lS]; go_big_quiet_on)) | (go_big_quiet_want; apply qf_loadA _ _ rfl _ _ rfl (sz := 32); (exact hC); rotate_left 1; (focus (intro _; simp [go_sem]; done)); (focus (intro _; simp [go_sem]; done)); rotate_right 1; assumption; assumption; assumption; (simp only [Act.put, lS]; go_big_quiet_on))); exact wpQuiet_nil rfl))
    (refine wpF_cst [4] _ rfl (by rfl) (by decide) (by decide) rfl rfl (fun d hd => by cases hd; rfl) ?_; (simp only [Act.put, vqF, pS]))
    (apply wpF_q rfl; focus (intro C hC hG; go_big_quiet_want; apply qf_loadM _ rfl _ rfl; (exact hC); assumption; (exact mD_sz); (simp only [Act.put, lS]; go_big_quiet_on); exact wpQuiet_nil rfl))
    (apply wpF_free; (focus rfl); (focus rfl); (exact (fun w' hB' _ => by exact (HBO.out w' (hB.drew.trans (hB'.mono hB.drew.size))).mono fun e w'' ⟨v, h1, h2, h3⟩ => ⟨v, h1, fun d hd => by cases hd; exact h2, h3⟩)); (focus (intro w; simp [go_sem]; done)); simp only [Act.put, vqF, pS])
    (refine wpF_prt [ν 12] [b] _ rfl (by rfl) (by simp) (by simp) ?_ (fun w hB' hk => ⟨hk 12 (by simp) rfl, trivial⟩) rfl rfl (fun d hd => by cases hd; rfl) ?_; (focus (intro v hv; simp only [List.mem_cons, List.not_mem_nil, or_false] at hv; (repeat' (first | subst hv | rcases hv with rfl | hv)); all_goals first | rfl | assumption | exact hν _)); (simp only [Act.put, vqF, pS]))
    (apply wpF_free; (focus rfl); (focus rfl); (exact (fun w' _ hd => of_byt (k := 14) rfl ((show vecB [b].flatten 3 = vecB b 3 by simp) ▸ vec_any 3 _ [b] w' (by decide) (hd 13 (by simp) rfl).2 L1.out (by simp)))); (focus (intro w; simp [go_sem]; done)); simp only [Act.put, vqF, pS])
    exact wpF_nil ⟨rfl, rfl⟩
  · intro ν ν'; kernel_rfl
  intro ν w1 hν hB1 hD
  have f10 := Lib.hid (phi_get (k := .cst [4]) (hD 10 (by simp)) rfl)
  have s_u10 : isSliceV (ν 10) = true := hν 10
  have f14 := Lib.hid (phi_get (k := .byt (vecB b 3)) (hD 14 (by simp)) rfl)
  have s_u14 : isSliceV (ν 14) = true := hν 14
  have hr := Row.below hr.drew hB1 hr.lt
  have hB := Below.trans hB.drew (hB1.mono hB.drew.size)
  obtain ⟨u10, hu10⟩ : ∃ u, u = ν 10 := ⟨_, rfl⟩
  rw [← hu10] at f10 s_u10 ⊢
  clear hu10
  obtain ⟨u14, hu14⟩ : ∃ u, u = ν 14 := ⟨_, rfl⟩
  rw [← hu14] at f14 s_u14 ⊢
  clear hu14
  clear hD hν hB1 hrd
  obtain ⟨g, f, e10, hg, _, hh⟩ := f10.out
  obtain ⟨v', w', hap, hbuf, hbel⟩ := run_app_full w1 g 0 [4] (vecB b 3) u14 0 (SlB.rowAt hh rfl (by decide)) f14.out L3.out L2.out
  have HF := Lib.hid (hbuf.low hB.size)
  have hB := Below.trans hB (hbel.mono hB.size)
  have HAP := Lib.hid (show ∀ ty, (Builtin.append_ #[27, 27] ty #[.slice (some ⟨g, 0, none⟩) [(4 : UInt8)].length [(4 : UInt8)].length, u14]).run Try.prog w1 = .ok v' w' from fun _ => hap)
  have HE := Lib.hid e10
  clear hh hap hbuf hbel hg hr
  refine wpl_run rfl (.tmp 10) (.tmp 14) _ _ rfl (v := u10) (u := u14) rfl rfl (fun ty => by rw [HE.out]; exact HAP.out ty) ?_
  simp only [Act.put, lS]
  go_wp2_with fail
  go_ret2
  exact ⟨_, rfl, HF.out, hB⟩
set_option maxRecDepth 100000 in
set_option maxHeartbeats 4000000 in
theorem write_8 (r mk b : List UInt8) (v1 v2 v3 v4 v5 v6 : Value) (life age : Int) (psk retry : Bool) (w : World) (hl : b.length ≤ 1000000)
    (hright : ∀ W, Below w.heap.size w W → Calls Try.prog 22 #[.agg (mD 8 r mk [v1, v2, v3, v4, v5, v6, .int .i64 life, .int .i64 age, .bool psk, .bool retry])] W fun e w' => e = .returned (.bool true) ∧ Below W.heap.size W w')
    (hbody : ∀ W, Below w.heap.size w W → Calls Try.prog 24 #[.agg (mD 8 r mk [v1, v2, v3, v4, v5, v6, .int .i64 life, .int .i64 age, .bool psk, .bool retry])] W fun e w' => ∃ v, e = .returned v ∧ SlB w' v b ∧ Below W.heap.size W w') :
    Calls Try.prog 11 #[.agg (mD 8 r mk [v1, v2, v3, v4, v5, v6, .int .i64 life, .int .i64 age, .bool psk, .bool retry])] w fun e w' => ∃ v, e = .returned (.tuple #[v, .int .i64 0]) ∧ Buf 5 w' w.heap.size v ([8] ++ vecB b 3) ∧ Below w.heap.size w w' := by
  have HR := Lib.hid hright
  have HBO := Lib.hid hbody
  have L1 := Lib.hid (show [b].flatten.length ≤ 1000000 by simpa using hl)
  have L2 := Lib.hid (show [(8 : UInt8)].length + (vecB b 3).length ≤ 1000000000 by rw [vecB_len]; simp; omega)
  have L3 := Lib.hid (show 0 < (vecB b 3).length by rw [vecB_len]; omega)
  clear hright hbody hl
  go_enter Try.func11, Try.ntmps11
  go_wp2_with fail
  refine (HR.out _ (by (repeat (first | (with_reducible exact Below.refl _ _) | ((with_reducible first | refine bSetRow ?_ ?_ _ | refine Below.alloc ?_ ?_ _ | refine Below.setCell ?_ ?_ _); rotate_left 1; (focus (first | (simp; done) | (simp; omega)))) | (with_reducible refine Below.drew ?_))))).mono ?_
  rintro e w0 ⟨rfl, hb0⟩
  have hr : Row w0 w.heap.size 30 (mD 8 r mk [v1, v2, v3, v4, v5, v6, .int .i64 life, .int .i64 age, .bool psk, .bool retry]) := (Row.new w 30 (mD 8 r mk [v1, v2, v3, v4, v5, v6, .int .i64 life, .int .i64 age, .bool psk, .bool retry])).below hb0 (Row.new w 30 (mD 8 r mk [v1, v2, v3, v4, v5, v6, .int .i64 life, .int .i64 age, .bool psk, .bool retry])).lt
  have hB : Below w.heap.size w w0 := Below.trans (by (repeat (first | (with_reducible exact Below.refl _ _) | ((with_reducible first | refine bSetRow ?_ ?_ _ | refine Below.alloc ?_ ?_ _ | refine Below.setCell ?_ ?_ _); rotate_left 1; (focus (first | (simp; done) | (simp; omega)))) | (with_reducible refine Below.drew ?_)))) (hb0.mono (by simp))
  clear hb0
  go_upto_region 3 with (fail)
  have g0 : (mD 8 r mk [v1, v2, v3, v4, v5, v6, .int .i64 life, .int .i64 age, .bool psk, .bool retry])[0]? = some (.int .i64 8) := mD_0
  have hrd := hr.drew
  (refine wp_region_freeD 8 [10, 12, 13, 14] [] shp (phi _ [(10, .cst [8]), (12, .byt b), (13, .prf [b]), (14, .byt (vecB b 3))]) (by kernel_rfl) (by kernel_rfl) (by kernel_rfl) (phi_stab _ _) (phi_shp _ _) shp_inh ?_; simp only [List.take_succ_cons, List.take_zero, List.drop_succ_cons, List.drop_zero]; apply Exists.intro; apply Exists.intro; refine ⟨?_, ?_, ?_⟩)
  · intro ν hν
    iterate 3 (apply wpF_q rfl; focus (intro C hC hG; (first | go_big_quiet_skip | (go_big_quiet_want; go_big_quiet_op; first | go_big_quiet_on | (refine ⟨_, fun _ _ => rfl, ?_⟩; go_big_quiet_on)) | (go_big_quiet_want; apply qf_load1 _ _ rfl _ _ rfl; (exact hC); rotate_left 1; (focus (intro _; simp [go_sem]; done)); rotate_right 1; assumption; assumption; (simp only [Act.put, lS]; go_big_quiet_on)) | (go_big_quiet_want; apply qf_loadA _ _ rfl _ _ rfl (sz := 32); (exact hC); rotate_left 1; (focus (intro _; simp [go_sem]; done)); (focus (intro _; simp [go_sem]; done)); rotate_right 1; assumption; assumption; assumption; (simp only [Act.put, lS]; go_big_quiet_on))); exact wpQuiet_nil rfl))
    (refine wpF_cst [8] _ rfl (by rfl) (by decide) (by decide) rfl rfl (fun d hd => by cases hd; rfl) ?_; (simp only [Act.put, vqF, pS]))
    (apply wpF_q rfl; focus (intro C hC hG; go_big_quiet_want; apply qf_loadM _ rfl _ rfl; (exact hC); assumption; (exact mD_sz); (simp only [Act.put, lS]; go_big_quiet_on); exact wpQuiet_nil rfl))
    (apply wpF_free; (focus rfl); (focus rfl); (exact (fun w' hB' _ => by exact (HBO.out w' (hB.drew.trans (hB'.mono hB.drew.size))).mono fun e w'' ⟨v, h1, h2, h3⟩ => ⟨v, h1, fun d hd => by cases hd; exact h2, h3⟩)); (focus (intro w; simp [go_sem]; done)); simp only [Act.put, vqF, pS])
    (refine wpF_prt [ν 12] [b] _ rfl (by rfl) (by simp) (by simp) ?_ (fun w hB' hk => ⟨hk 12 (by simp) rfl, trivial⟩) rfl rfl (fun d hd => by cases hd; rfl) ?_; (focus (intro v hv; simp only [List.mem_cons, List.not_mem_nil, or_false] at hv; (repeat' (first | subst hv | rcases hv with rfl | hv)); all_goals first | rfl | assumption | exact hν _)); (simp only [Act.put, vqF, pS]))
    (apply wpF_free; (focus rfl); (focus rfl); (exact (fun w' _ hd => of_byt (k := 14) rfl ((show vecB [b].flatten 3 = vecB b 3 by simp) ▸ vec_any 3 _ [b] w' (by decide) (hd 13 (by simp) rfl).2 L1.out (by simp)))); (focus (intro w; simp [go_sem]; done)); simp only [Act.put, vqF, pS])
    exact wpF_nil ⟨rfl, rfl⟩
  · intro ν ν'; kernel_rfl
  intro ν w1 hν hB1 hD
  have f10 := Lib.hid (phi_get (k := .cst [8]) (hD 10 (by simp)) rfl)
  have s_u10 : isSliceV (ν 10) = true := hν 10
  have f14 := Lib.hid (phi_get (k := .byt (vecB b 3)) (hD 14 (by simp)) rfl)
  have s_u14 : isSliceV (ν 14) = true := hν 14
  have hr := Row.below hr.drew hB1 hr.lt
  have hB := Below.trans hB.drew (hB1.mono hB.drew.size)
  obtain ⟨u10, hu10⟩ : ∃ u, u = ν 10 := ⟨_, rfl⟩
  rw [← hu10] at f10 s_u10 ⊢
  clear hu10
  obtain ⟨u14, hu14⟩ : ∃ u, u = ν 14 := ⟨_, rfl⟩
  rw [← hu14] at f14 s_u14 ⊢
  clear hu14
  clear hD hν hB1 hrd
  obtain ⟨g, f, e10, hg, _, hh⟩ := f10.out
  obtain ⟨v', w', hap, hbuf, hbel⟩ := run_app_full w1 g 0 [8] (vecB b 3) u14 0 (SlB.rowAt hh rfl (by decide)) f14.out L3.out L2.out
  have HF := Lib.hid (hbuf.low hB.size)
  have hB := Below.trans hB (hbel.mono hB.size)
  have HAP := Lib.hid (show ∀ ty, (Builtin.append_ #[27, 27] ty #[.slice (some ⟨g, 0, none⟩) [(8 : UInt8)].length [(8 : UInt8)].length, u14]).run Try.prog w1 = .ok v' w' from fun _ => hap)
  have HE := Lib.hid e10
  clear hh hap hbuf hbel hg hr
  refine wpl_run rfl (.tmp 10) (.tmp 14) _ _ rfl (v := u10) (u := u14) rfl rfl (fun ty => by rw [HE.out]; exact HAP.out ty) ?_
  simp only [Act.put, lS]
  go_wp2_with fail
  go_ret2
  exact ⟨_, rfl, HF.out, hB⟩
set_option maxRecDepth 100000 in
set_option maxHeartbeats 4000000 in
theorem write_11 (r mk b : List UInt8) (v1 v2 v3 v4 v5 v6 : Value) (life age : Int) (psk retry : Bool) (w : World) (hl : b.length ≤ 1000000)
    (hright : ∀ W, Below w.heap.size w W → Calls Try.prog 22 #[.agg (mD 11 r mk [v1, v2, v3, v4, v5, v6, .int .i64 life, .int .i64 age, .bool psk, .bool retry])] W fun e w' => e = .returned (.bool true) ∧ Below W.heap.size W w')
    (hbody : ∀ W, Below w.heap.size w W → Calls Try.prog 24 #[.agg (mD 11 r mk [v1, v2, v3, v4, v5, v6, .int .i64 life, .int .i64 age, .bool psk, .bool retry])] W fun e w' => ∃ v, e = .returned v ∧ SlB w' v b ∧ Below W.heap.size W w') :
    Calls Try.prog 11 #[.agg (mD 11 r mk [v1, v2, v3, v4, v5, v6, .int .i64 life, .int .i64 age, .bool psk, .bool retry])] w fun e w' => ∃ v, e = .returned (.tuple #[v, .int .i64 0]) ∧ Buf 5 w' w.heap.size v ([11] ++ vecB b 3) ∧ Below w.heap.size w w' := by
  have HR := Lib.hid hright
  have HBO := Lib.hid hbody
  have L1 := Lib.hid (show [b].flatten.length ≤ 1000000 by simpa using hl)
  have L2 := Lib.hid (show [(11 : UInt8)].length + (vecB b 3).length ≤ 1000000000 by rw [vecB_len]; simp; omega)
  have L3 := Lib.hid (show 0 < (vecB b 3).length by rw [vecB_len]; omega)
  clear hright hbody hl
  go_enter Try.func11, Try.ntmps11
  go_wp2_with fail
  refine (HR.out _ (by (repeat (first | (with_reducible exact Below.refl _ _) | ((with_reducible first | refine bSetRow ?_ ?_ _ | refine Below.alloc ?_ ?_ _ | refine Below.setCell ?_ ?_ _); rotate_left 1; (focus (first | (simp; done) | (simp; omega)))) | (with_reducible refine Below.drew ?_))))).mono ?_
  rintro e w0 ⟨rfl, hb0⟩
  have hr : Row w0 w.heap.size 30 (mD 11 r mk [v1, v2, v3, v4, v5, v6, .int .i64 life, .int .i64 age, .bool psk, .bool retry]) := (Row.new w 30 (mD 11 r mk [v1, v2, v3, v4, v5, v6, .int .i64 life, .int .i64 age, .bool psk, .bool retry])).below hb0 (Row.new w 30 (mD 11 r mk [v1, v2, v3, v4, v5, v6, .int .i64 life, .int .i64 age, .bool psk, .bool retry])).lt
  have hB : Below w.heap.size w w0 := Below.trans (by (repeat (first | (with_reducible exact Below.refl _ _) | ((with_reducible first | refine bSetRow ?_ ?_ _ | refine Below.alloc ?_ ?_ _ | refine Below.setCell ?_ ?_ _); rotate_left 1; (focus (first | (simp; done) | (simp; omega)))) | (with_reducible refine Below.drew ?_)))) (hb0.mono (by simp))
  clear hb0
  go_upto_region 3 with (fail)
  have g0 : (mD 11 r mk [v1, v2, v3, v4, v5, v6, .int .i64 life, .int .i64 age, .bool psk, .bool retry])[0]? = some (.int .i64 11) := mD_0
  have hrd := hr.drew
  (refine wp_region_freeD 8 [10, 12, 13, 14] [] shp (phi _ [(10, .cst [11]), (12, .byt b), (13, .prf [b]), (14, .byt (vecB b 3))]) (by kernel_rfl) (by kernel_rfl) (by kernel_rfl) (phi_stab _ _) (phi_shp _ _) shp_inh ?_; simp only [List.take_succ_cons, List.take_zero, List.drop_succ_cons, List.drop_zero]; apply Exists.intro; apply Exists.intro; refine ⟨?_, ?_, ?_⟩)
  · intro ν hν
    iterate 3 (apply wpF_q rfl; focus (intro C hC hG; (first | go_big_quiet_skip | (go_big_quiet_want; go_big_quiet_op; first | go_big_quiet_on | (refine ⟨_, fun _ _ => rfl, ?_⟩; go_big_quiet_on)) | (go_big_quiet_want; apply qf_load1 _ _ rfl _ _ rfl; (exact hC); rotate_left 1; (focus (intro _; simp [go_sem]; done)); rotate_right 1; assumption; assumption; (simp only [Act.put, lS]; go_big_quiet_on)) | (go_big_quiet_want; apply qf_loadA _ _ rfl _ _ rfl (sz := 32); (exact hC); rotate_left 1; (focus (intro _; simp [go_sem]; done)); (focus (intro _; simp [go_sem]; done)); rotate_right 1; assumption; assumption; assumption; (simp only [Act.put, lS]; go_big_quiet_on))); exact wpQuiet_nil rfl))
    (refine wpF_cst [11] _ rfl (by rfl) (by decide) (by decide) rfl rfl (fun d hd => by cases hd; rfl) ?_; (simp only [Act.put, vqF, pS]))
    (apply wpF_q rfl; focus (intro C hC hG; go_big_quiet_want; apply qf_loadM _ rfl _ rfl; (exact hC); assumption; (exact mD_sz); (simp only [Act.put, lS]; go_big_quiet_on); exact wpQuiet_nil rfl))
    (apply wpF_free; (focus rfl); (focus rfl); (exact (fun w' hB' _ => by exact (HBO.out w' (hB.drew.trans (hB'.mono hB.drew.size))).mono fun e w'' ⟨v, h1, h2, h3⟩ => ⟨v, h1, fun d hd => by cases hd; exact h2, h3⟩)); (focus (intro w; simp [go_sem]; done)); simp only [Act.put, vqF, pS])
    (refine wpF_prt [ν 12] [b] _ rfl (by rfl) (by simp) (by simp) ?_ (fun w hB' hk => ⟨hk 12 (by simp) rfl, trivial⟩) rfl rfl (fun d hd => by cases hd; rfl) ?_; (focus (intro v hv; simp only [List.mem_cons, List.not_mem_nil, or_false] at hv; (repeat' (first | subst hv | rcases hv with rfl | hv)); all_goals first | rfl | assumption | exact hν _)); (simp only [Act.put, vqF, pS]))
    (apply wpF_free; (focus rfl); (focus rfl); (exact (fun w' _ hd => of_byt (k := 14) rfl ((show vecB [b].flatten 3 = vecB b 3 by simp) ▸ vec_any 3 _ [b] w' (by decide) (hd 13 (by simp) rfl).2 L1.out (by simp)))); (focus (intro w; simp [go_sem]; done)); simp only [Act.put, vqF, pS])
    exact wpF_nil ⟨rfl, rfl⟩
  · intro ν ν'; kernel_rfl
  intro ν w1 hν hB1 hD
  have f10 := Lib.hid (phi_get (k := .cst [11]) (hD 10 (by simp)) rfl)
  have s_u10 : isSliceV (ν 10) = true := hν 10
  have f14 := Lib.hid (phi_get (k := .byt (vecB b 3)) (hD 14 (by simp)) rfl)
  have s_u14 : isSliceV (ν 14) = true := hν 14
  have hr := Row.below hr.drew hB1 hr.lt
  have hB := Below.trans hB.drew (hB1.mono hB.drew.size)
  obtain ⟨u10, hu10⟩ : ∃ u, u = ν 10 := ⟨_, rfl⟩
  rw [← hu10] at f10 s_u10 ⊢
  clear hu10
  obtain ⟨u14, hu14⟩ : ∃ u, u = ν 14 := ⟨_, rfl⟩
  rw [← hu14] at f14 s_u14 ⊢
  clear hu14
  clear hD hν hB1 hrd
  obtain ⟨g, f, e10, hg, _, hh⟩ := f10.out
  obtain ⟨v', w', hap, hbuf, hbel⟩ := run_app_full w1 g 0 [11] (vecB b 3) u14 0 (SlB.rowAt hh rfl (by decide)) f14.out L3.out L2.out
  have HF := Lib.hid (hbuf.low hB.size)
  have hB := Below.trans hB (hbel.mono hB.size)
  have HAP := Lib.hid (show ∀ ty, (Builtin.append_ #[27, 27] ty #[.slice (some ⟨g, 0, none⟩) [(11 : UInt8)].length [(11 : UInt8)].length, u14]).run Try.prog w1 = .ok v' w' from fun _ => hap)
  have HE := Lib.hid e10
  clear hh hap hbuf hbel hg hr
  refine wpl_run rfl (.tmp 10) (.tmp 14) _ _ rfl (v := u10) (u := u14) rfl rfl (fun ty => by rw [HE.out]; exact HAP.out ty) ?_
  simp only [Act.put, lS]
  go_wp2_with fail
  go_ret2
  exact ⟨_, rfl, HF.out, hB⟩
set_option maxRecDepth 100000 in
set_option maxHeartbeats 4000000 in
theorem write_13 (r mk b : List UInt8) (v1 v2 v3 v4 v5 v6 : Value) (life age : Int) (psk retry : Bool) (w : World) (hl : b.length ≤ 1000000)
    (hright : ∀ W, Below w.heap.size w W → Calls Try.prog 22 #[.agg (mD 13 r mk [v1, v2, v3, v4, v5, v6, .int .i64 life, .int .i64 age, .bool psk, .bool retry])] W fun e w' => e = .returned (.bool true) ∧ Below W.heap.size W w')
    (hbody : ∀ W, Below w.heap.size w W → Calls Try.prog 24 #[.agg (mD 13 r mk [v1, v2, v3, v4, v5, v6, .int .i64 life, .int .i64 age, .bool psk, .bool retry])] W fun e w' => ∃ v, e = .returned v ∧ SlB w' v b ∧ Below W.heap.size W w') :
    Calls Try.prog 11 #[.agg (mD 13 r mk [v1, v2, v3, v4, v5, v6, .int .i64 life, .int .i64 age, .bool psk, .bool retry])] w fun e w' => ∃ v, e = .returned (.tuple #[v, .int .i64 0]) ∧ Buf 5 w' w.heap.size v ([13] ++ vecB b 3) ∧ Below w.heap.size w w' := by
  have HR := Lib.hid hright
  have HBO := Lib.hid hbody
  have L1 := Lib.hid (show [b].flatten.length ≤ 1000000 by simpa using hl)
  have L2 := Lib.hid (show [(13 : UInt8)].length + (vecB b 3).length ≤ 1000000000 by rw [vecB_len]; simp; omega)
  have L3 := Lib.hid (show 0 < (vecB b 3).length by rw [vecB_len]; omega)
  clear hright hbody hl
  go_enter Try.func11, Try.ntmps11
  go_wp2_with fail
  refine (HR.out _ (by (repeat (first | (with_reducible exact Below.refl _ _) | ((with_reducible first | refine bSetRow ?_ ?_ _ | refine Below.alloc ?_ ?_ _ | refine Below.setCell ?_ ?_ _); rotate_left 1; (focus (first | (simp; done) | (simp; omega)))) | (with_reducible refine Below.drew ?_))))).mono ?_
  rintro e w0 ⟨rfl, hb0⟩
  have hr : Row w0 w.heap.size 30 (mD 13 r mk [v1, v2, v3, v4, v5, v6, .int .i64 life, .int .i64 age, .bool psk, .bool retry]) := (Row.new w 30 (mD 13 r mk [v1, v2, v3, v4, v5, v6, .int .i64 life, .int .i64 age, .bool psk, .bool retry])).below hb0 (Row.new w 30 (mD 13 r mk [v1, v2, v3, v4, v5, v6, .int .i64 life, .int .i64 age, .bool psk, .bool retry])).lt
  have hB : Below w.heap.size w w0 := Below.trans (by (repeat (first | (with_reducible exact Below.refl _ _) | ((with_reducible first | refine bSetRow ?_ ?_ _ | refine Below.alloc ?_ ?_ _ | refine Below.setCell ?_ ?_ _); rotate_left 1; (focus (first | (simp; done) | (simp; omega)))) | (with_reducible refine Below.drew ?_)))) (hb0.mono (by simp))
  clear hb0
  go_upto_region 3 with (fail)
  have g0 : (mD 13 r mk [v1, v2, v3, v4, v5, v6, .int .i64 life, .int .i64 age, .bool psk, .bool retry])[0]? = some (.int .i64 13) := mD_0
  have hrd := hr.drew
  (refine wp_region_freeD 8 [10, 12, 13, 14] [] shp (phi _ [(10, .cst [13]), (12, .byt b), (13, .prf [b]), (14, .byt (vecB b 3))]) (by kernel_rfl) (by kernel_rfl) (by kernel_rfl) (phi_stab _ _) (phi_shp _ _) shp_inh ?_; simp only [List.take_succ_cons, List.take_zero, List.drop_succ_cons, List.drop_zero]; apply Exists.intro; apply Exists.intro; refine ⟨?_, ?_, ?_⟩)
  · intro ν hν
    iterate 3 (apply wpF_q rfl; focus (intro C hC hG; (first | go_big_quiet_skip | (go_big_quiet_want; go_big_quiet_op; first | go_big_quiet_on | (refine ⟨_, fun _ _ => rfl, ?_⟩; go_big_quiet_on)) | (go_big_quiet_want; apply qf_load1 _ _ rfl _ _ rfl; (exact hC); rotate_left 1; (focus (intro _; simp [go_sem]; done)); rotate_right 1; assumption; assumption; (simp only [Act.put, lS]; go_big_quiet_on)) | (go_big_quiet_want; apply qf_loadA _ _ rfl _ _ rfl (sz := 32); (exact hC); rotate_left 1; (focus (intro _; simp [go_sem]; done)); (focus (intro _; simp [go_sem]; done)); rotate_right 1; assumption; assumption; assumption; (simp only [Act.put, lS]; go_big_quiet_on))); exact wpQuiet_nil rfl))
    (refine wpF_cst [13] _ rfl (by rfl) (by decide) (by decide) rfl rfl (fun d hd => by cases hd; rfl) ?_; (simp only [Act.put, vqF, pS]))
    (apply wpF_q rfl; focus (intro C hC hG; go_big_quiet_want; apply qf_loadM _ rfl _ rfl; (exact hC); assumption; (exact mD_sz); (simp only [Act.put, lS]; go_big_quiet_on); exact wpQuiet_nil rfl))
    (apply wpF_free; (focus rfl); (focus rfl); (exact (fun w' hB' _ => by exact (HBO.out w' (hB.drew.trans (hB'.mono hB.drew.size))).mono fun e w'' ⟨v, h1, h2, h3⟩ => ⟨v, h1, fun d hd => by cases hd; exact h2, h3⟩)); (focus (intro w; simp [go_sem]; done)); simp only [Act.put, vqF, pS])
    (refine wpF_prt [ν 12] [b] _ rfl (by rfl) (by simp) (by simp) ?_ (fun w hB' hk => ⟨hk 12 (by simp) rfl, trivial⟩) rfl rfl (fun d hd => by cases hd; rfl) ?_; (focus (intro v hv; simp only [List.mem_cons, List.not_mem_nil, or_false] at hv; (repeat' (first | subst hv | rcases hv with rfl | hv)); all_goals first | rfl | assumption | exact hν _)); (simp only [Act.put, vqF, pS]))
    (apply wpF_free; (focus rfl); (focus rfl); (exact (fun w' _ hd => of_byt (k := 14) rfl ((show vecB [b].flatten 3 = vecB b 3 by simp) ▸ vec_any 3 _ [b] w' (by decide) (hd 13 (by simp) rfl).2 L1.out (by simp)))); (focus (intro w; simp [go_sem]; done)); simp only [Act.put, vqF, pS])
    exact wpF_nil ⟨rfl, rfl⟩
  · intro ν ν'; kernel_rfl
  intro ν w1 hν hB1 hD
  have f10 := Lib.hid (phi_get (k := .cst [13]) (hD 10 (by simp)) rfl)
  have s_u10 : isSliceV (ν 10) = true := hν 10
  have f14 := Lib.hid (phi_get (k := .byt (vecB b 3)) (hD 14 (by simp)) rfl)
  have s_u14 : isSliceV (ν 14) = true := hν 14
  have hr := Row.below hr.drew hB1 hr.lt
  have hB := Below.trans hB.drew (hB1.mono hB.drew.size)
  obtain ⟨u10, hu10⟩ : ∃ u, u = ν 10 := ⟨_, rfl⟩
  rw [← hu10] at f10 s_u10 ⊢
  clear hu10
  obtain ⟨u14, hu14⟩ : ∃ u, u = ν 14 := ⟨_, rfl⟩
  rw [← hu14] at f14 s_u14 ⊢
  clear hu14
  clear hD hν hB1 hrd
  obtain ⟨g, f, e10, hg, _, hh⟩ := f10.out
  obtain ⟨v', w', hap, hbuf, hbel⟩ := run_app_full w1 g 0 [13] (vecB b 3) u14 0 (SlB.rowAt hh rfl (by decide)) f14.out L3.out L2.out
  have HF := Lib.hid (hbuf.low hB.size)
  have hB := Below.trans hB (hbel.mono hB.size)
  have HAP := Lib.hid (show ∀ ty, (Builtin.append_ #[27, 27] ty #[.slice (some ⟨g, 0, none⟩) [(13 : UInt8)].length [(13 : UInt8)].length, u14]).run Try.prog w1 = .ok v' w' from fun _ => hap)
  have HE := Lib.hid e10
  clear hh hap hbuf hbel hg hr
  refine wpl_run rfl (.tmp 10) (.tmp 14) _ _ rfl (v := u10) (u := u14) rfl rfl (fun ty => by rw [HE.out]; exact HAP.out ty) ?_
  simp only [Act.put, lS]
  go_wp2_with fail
  go_ret2
  exact ⟨_, rfl, HF.out, hB⟩
set_option maxRecDepth 100000 in
set_option maxHeartbeats 4000000 in
theorem write_15 (r mk b : List UInt8) (v1 v2 v3 v4 v5 v6 : Value) (life age : Int) (psk retry : Bool) (w : World) (hl : b.length ≤ 1000000)
    (hright : ∀ W, Below w.heap.size w W → Calls Try.prog 22 #[.agg (mD 15 r mk [v1, v2, v3, v4, v5, v6, .int .i64 life, .int .i64 age, .bool psk, .bool retry])] W fun e w' => e = .returned (.bool true) ∧ Below W.heap.size W w')
    (hbody : ∀ W, Below w.heap.size w W → Calls Try.prog 24 #[.agg (mD 15 r mk [v1, v2, v3, v4, v5, v6, .int .i64 life, .int .i64 age, .bool psk, .bool retry])] W fun e w' => ∃ v, e = .returned v ∧ SlB w' v b ∧ Below W.heap.size W w') :
    Calls Try.prog 11 #[.agg (mD 15 r mk [v1, v2, v3, v4, v5, v6, .int .i64 life, .int .i64 age, .bool psk, .bool retry])] w fun e w' => ∃ v, e = .returned (.tuple #[v, .int .i64 0]) ∧ Buf 5 w' w.heap.size v ([15] ++ vecB b 3) ∧ Below w.heap.size w w' := by
  have HR := Lib.hid hright
  have HBO := Lib.hid hbody
  have L1 := Lib.hid (show [b].flatten.length ≤ 1000000 by simpa using hl)
  have L2 := Lib.hid (show [(15 : UInt8)].length + (vecB b 3).length ≤ 1000000000 by rw [vecB_len]; simp; omega)
  have L3 := Lib.hid (show 0 < (vecB b 3).length by rw [vecB_len]; omega)
  clear hright hbody hl
  go_enter Try.func11, Try.ntmps11
  go_wp2_with fail
  refine (HR.out _ (by (repeat (first | (with_reducible exact Below.refl _ _) | ((with_reducible first | refine bSetRow ?_ ?_ _ | refine Below.alloc ?_ ?_ _ | refine Below.setCell ?_ ?_ _); rotate_left 1; (focus (first | (simp; done) | (simp; omega)))) | (with_reducible refine Below.drew ?_))))).mono ?_
  rintro e w0 ⟨rfl, hb0⟩
  have hr : Row w0 w.heap.size 30 (mD 15 r mk [v1, v2, v3, v4, v5, v6, .int .i64 life, .int .i64 age, .bool psk, .bool retry]) := (Row.new w 30 (mD 15 r mk [v1, v2, v3, v4, v5, v6, .int .i64 life, .int .i64 age, .bool psk, .bool retry])).below hb0 (Row.new w 30 (mD 15 r mk [v1, v2, v3, v4, v5, v6, .int .i64 life, .int .i64 age, .bool psk, .bool retry])).lt
  have hB : Below w.heap.size w w0 := Below.trans (by (repeat (first | (with_reducible exact Below.refl _ _) | ((with_reducible first | refine bSetRow ?_ ?_ _ | refine Below.alloc ?_ ?_ _ | refine Below.setCell ?_ ?_ _); rotate_left 1; (focus (first | (simp; done) | (simp; omega)))) | (with_reducible refine Below.drew ?_)))) (hb0.mono (by simp))
  clear hb0
  go_upto_region 3 with (fail)
  have g0 : (mD 15 r mk [v1, v2, v3, v4, v5, v6, .int .i64 life, .int .i64 age, .bool psk, .bool retry])[0]? = some (.int .i64 15) := mD_0
  have hrd := hr.drew
  (refine wp_region_freeD 8 [10, 12, 13, 14] [] shp (phi _ [(10, .cst [15]), (12, .byt b), (13, .prf [b]), (14, .byt (vecB b 3))]) (by kernel_rfl) (by kernel_rfl) (by kernel_rfl) (phi_stab _ _) (phi_shp _ _) shp_inh ?_; simp only [List.take_succ_cons, List.take_zero, List.drop_succ_cons, List.drop_zero]; apply Exists.intro; apply Exists.intro; refine ⟨?_, ?_, ?_⟩)
  · intro ν hν
    iterate 3 (apply wpF_q rfl; focus (intro C hC hG; (first | go_big_quiet_skip | (go_big_quiet_want; go_big_quiet_op; first | go_big_quiet_on | (refine ⟨_, fun _ _ => rfl, ?_⟩; go_big_quiet_on)) | (go_big_quiet_want; apply qf_load1 _ _ rfl _ _ rfl; (exact hC); rotate_left 1; (focus (intro _; simp [go_sem]; done)); rotate_right 1; assumption; assumption; (simp only [Act.put, lS]; go_big_quiet_on)) | (go_big_quiet_want; apply qf_loadA _ _ rfl _ _ rfl (sz := 32); (exact hC); rotate_left 1; (focus (intro _; simp [go_sem]; done)); (focus (intro _; simp [go_sem]; done)); rotate_right 1; assumption; assumption; assumption; (simp only [Act.put, lS]; go_big_quiet_on))); exact wpQuiet_nil rfl))
    (refine wpF_cst [15] _ rfl (by rfl) (by decide) (by decide) rfl rfl (fun d hd => by cases hd; rfl) ?_; (simp only [Act.put, vqF, pS]))
    (apply wpF_q rfl; focus (intro C hC hG; go_big_quiet_want; apply qf_loadM _ rfl _ rfl; (exact hC); assumption; (exact mD_sz); (simp only [Act.put, lS]; go_big_quiet_on); exact wpQuiet_nil rfl))
    (apply wpF_free; (focus rfl); (focus rfl); (exact (fun w' hB' _ => by exact (HBO.out w' (hB.drew.trans (hB'.mono hB.drew.size))).mono fun e w'' ⟨v, h1, h2, h3⟩ => ⟨v, h1, fun d hd => by cases hd; exact h2, h3⟩)); (focus (intro w; simp [go_sem]; done)); simp only [Act.put, vqF, pS])
    (refine wpF_prt [ν 12] [b] _ rfl (by rfl) (by simp) (by simp) ?_ (fun w hB' hk => ⟨hk 12 (by simp) rfl, trivial⟩) rfl rfl (fun d hd => by cases hd; rfl) ?_; (focus (intro v hv; simp only [List.mem_cons, List.not_mem_nil, or_false] at hv; (repeat' (first | subst hv | rcases hv with rfl | hv)); all_goals first | rfl | assumption | exact hν _)); (simp only [Act.put, vqF, pS]))
    (apply wpF_free; (focus rfl); (focus rfl); (exact (fun w' _ hd => of_byt (k := 14) rfl ((show vecB [b].flatten 3 = vecB b 3 by simp) ▸ vec_any 3 _ [b] w' (by decide) (hd 13 (by simp) rfl).2 L1.out (by simp)))); (focus (intro w; simp [go_sem]; done)); simp only [Act.put, vqF, pS])
    exact wpF_nil ⟨rfl, rfl⟩
  · intro ν ν'; kernel_rfl
  intro ν w1 hν hB1 hD
  have f10 := Lib.hid (phi_get (k := .cst [15]) (hD 10 (by simp)) rfl)
  have s_u10 : isSliceV (ν 10) = true := hν 10
  have f14 := Lib.hid (phi_get (k := .byt (vecB b 3)) (hD 14 (by simp)) rfl)
  have s_u14 : isSliceV (ν 14) = true := hν 14
  have hr := Row.below hr.drew hB1 hr.lt
  have hB := Below.trans hB.drew (hB1.mono hB.drew.size)
  obtain ⟨u10, hu10⟩ : ∃ u, u = ν 10 := ⟨_, rfl⟩
  rw [← hu10] at f10 s_u10 ⊢
  clear hu10
  obtain ⟨u14, hu14⟩ : ∃ u, u = ν 14 := ⟨_, rfl⟩
  rw [← hu14] at f14 s_u14 ⊢
  clear hu14
  clear hD hν hB1 hrd
  obtain ⟨g, f, e10, hg, _, hh⟩ := f10.out
  obtain ⟨v', w', hap, hbuf, hbel⟩ := run_app_full w1 g 0 [15] (vecB b 3) u14 0 (SlB.rowAt hh rfl (by decide)) f14.out L3.out L2.out
  have HF := Lib.hid (hbuf.low hB.size)
  have hB := Below.trans hB (hbel.mono hB.size)
  have HAP := Lib.hid (show ∀ ty, (Builtin.append_ #[27, 27] ty #[.slice (some ⟨g, 0, none⟩) [(15 : UInt8)].length [(15 : UInt8)].length, u14]).run Try.prog w1 = .ok v' w' from fun _ => hap)
  have HE := Lib.hid e10
  clear hh hap hbuf hbel hg hr
  refine wpl_run rfl (.tmp 10) (.tmp 14) _ _ rfl (v := u10) (u := u14) rfl rfl (fun ty => by rw [HE.out]; exact HAP.out ty) ?_
  simp only [Act.put, lS]
  go_wp2_with fail
  go_ret2
  exact ⟨_, rfl, HF.out, hB⟩
set_option maxRecDepth 100000 in
set_option maxHeartbeats 4000000 in
theorem write_20 (r mk b : List UInt8) (v1 v2 v3 v4 v5 v6 : Value) (life age : Int) (psk retry : Bool) (w : World) (hl : b.length ≤ 1000000)
    (hright : ∀ W, Below w.heap.size w W → Calls Try.prog 22 #[.agg (mD 20 r mk [v1, v2, v3, v4, v5, v6, .int .i64 life, .int .i64 age, .bool psk, .bool retry])] W fun e w' => e = .returned (.bool true) ∧ Below W.heap.size W w')
    (hbody : ∀ W, Below w.heap.size w W → Calls Try.prog 24 #[.agg (mD 20 r mk [v1, v2, v3, v4, v5, v6, .int .i64 life, .int .i64 age, .bool psk, .bool retry])] W fun e w' => ∃ v, e = .returned v ∧ SlB w' v b ∧ Below W.heap.size W w') :
    Calls Try.prog 11 #[.agg (mD 20 r mk [v1, v2, v3, v4, v5, v6, .int .i64 life, .int .i64 age, .bool psk, .bool retry])] w fun e w' => ∃ v, e = .returned (.tuple #[v, .int .i64 0]) ∧ Buf 5 w' w.heap.size v ([20] ++ vecB b 3) ∧ Below w.heap.size w w' := by
  have HR := Lib.hid hright
  have HBO := Lib.hid hbody
  have L1 := Lib.hid (show [b].flatten.length ≤ 1000000 by simpa using hl)
  have L2 := Lib.hid (show [(20 : UInt8)].length + (vecB b 3).length ≤ 1000000000 by rw [vecB_len]; simp; omega)
  have L3 := Lib.hid (show 0 < (vecB b 3).length by rw [vecB_len]; omega)
  clear hright hbody hl
  go_enter Try.func11, Try.ntmps11
  go_wp2_with fail
  refine (HR.out _ (by (repeat (first | (with_reducible exact Below.refl _ _) | ((with_reducible first | refine bSetRow ?_ ?_ _ | refine Below.alloc ?_ ?_ _ | refine Below.setCell ?_ ?_ _); rotate_left 1; (focus (first | (simp; done) | (simp; omega)))) | (with_reducible refine Below.drew ?_))))).mono ?_
  rintro e w0 ⟨rfl, hb0⟩
  have hr : Row w0 w.heap.size 30 (mD 20 r mk [v1, v2, v3, v4, v5, v6, .int .i64 life, .int .i64 age, .bool psk, .bool retry]) := (Row.new w 30 (mD 20 r mk [v1, v2, v3, v4, v5, v6, .int .i64 life, .int .i64 age, .bool psk, .bool retry])).below hb0 (Row.new w 30 (mD 20 r mk [v1, v2, v3, v4, v5, v6, .int .i64 life, .int .i64 age, .bool psk, .bool retry])).lt
  have hB : Below w.heap.size w w0 := Below.trans (by (repeat (first | (with_reducible exact Below.refl _ _) | ((with_reducible first | refine bSetRow ?_ ?_ _ | refine Below.alloc ?_ ?_ _ | refine Below.setCell ?_ ?_ _); rotate_left 1; (focus (first | (simp; done) | (simp; omega)))) | (with_reducible refine Below.drew ?_)))) (hb0.mono (by simp))
  clear hb0
  go_upto_region 3 with (fail)
  have g0 : (mD 20 r mk [v1, v2, v3, v4, v5, v6, .int .i64 life, .int .i64 age, .bool psk, .bool retry])[0]? = some (.int .i64 20) := mD_0
  have hrd := hr.drew
  (refine wp_region_freeD 8 [10, 12, 13, 14] [] shp (phi _ [(10, .cst [20]), (12, .byt b), (13, .prf [b]), (14, .byt (vecB b 3))]) (by kernel_rfl) (by kernel_rfl) (by kernel_rfl) (phi_stab _ _) (phi_shp _ _) shp_inh ?_; simp only [List.take_succ_cons, List.take_zero, List.drop_succ_cons, List.drop_zero]; apply Exists.intro; apply Exists.intro; refine ⟨?_, ?_, ?_⟩)
  · intro ν hν
    iterate 3 (apply wpF_q rfl; focus (intro C hC hG; (first | go_big_quiet_skip | (go_big_quiet_want; go_big_quiet_op; first | go_big_quiet_on | (refine ⟨_, fun _ _ => rfl, ?_⟩; go_big_quiet_on)) | (go_big_quiet_want; apply qf_load1 _ _ rfl _ _ rfl; (exact hC); rotate_left 1; (focus (intro _; simp [go_sem]; done)); rotate_right 1; assumption; assumption; (simp only [Act.put, lS]; go_big_quiet_on)) | (go_big_quiet_want; apply qf_loadA _ _ rfl _ _ rfl (sz := 32); (exact hC); rotate_left 1; (focus (intro _; simp [go_sem]; done)); (focus (intro _; simp [go_sem]; done)); rotate_right 1; assumption; assumption; assumption; (simp only [Act.put, lS]; go_big_quiet_on))); exact wpQuiet_nil rfl))
    (refine wpF_cst [20] _ rfl (by rfl) (by decide) (by decide) rfl rfl (fun d hd => by cases hd; rfl) ?_; (simp only [Act.put, vqF, pS]))
    (apply wpF_q rfl; focus (intro C hC hG; go_big_quiet_want; apply qf_loadM _ rfl _ rfl; (exact hC); assumption; (exact mD_sz); (simp only [Act.put, lS]; go_big_quiet_on); exact wpQuiet_nil rfl))
    (apply wpF_free; (focus rfl); (focus rfl); (exact (fun w' hB' _ => by exact (HBO.out w' (hB.drew.trans (hB'.mono hB.drew.size))).mono fun e w'' ⟨v, h1, h2, h3⟩ => ⟨v, h1, fun d hd => by cases hd; exact h2, h3⟩)); (focus (intro w; simp [go_sem]; done)); simp only [Act.put, vqF, pS])
    (refine wpF_prt [ν 12] [b] _ rfl (by rfl) (by simp) (by simp) ?_ (fun w hB' hk => ⟨hk 12 (by simp) rfl, trivial⟩) rfl rfl (fun d hd => by cases hd; rfl) ?_; (focus (intro v hv; simp only [List.mem_cons, List.not_mem_nil, or_false] at hv; (repeat' (first | subst hv | rcases hv with rfl | hv)); all_goals first | rfl | assumption | exact hν _)); (simp only [Act.put, vqF, pS]))
    (apply wpF_free; (focus rfl); (focus rfl); (exact (fun w' _ hd => of_byt (k := 14) rfl ((show vecB [b].flatten 3 = vecB b 3 by simp) ▸ vec_any 3 _ [b] w' (by decide) (hd 13 (by simp) rfl).2 L1.out (by simp)))); (focus (intro w; simp [go_sem]; done)); simp only [Act.put, vqF, pS])
    exact wpF_nil ⟨rfl, rfl⟩
  · intro ν ν'; kernel_rfl
  intro ν w1 hν hB1 hD
  have f10 := Lib.hid (phi_get (k := .cst [20]) (hD 10 (by simp)) rfl)
  have s_u10 : isSliceV (ν 10) = true := hν 10
  have f14 := Lib.hid (phi_get (k := .byt (vecB b 3)) (hD 14 (by simp)) rfl)
  have s_u14 : isSliceV (ν 14) = true := hν 14
  have hr := Row.below hr.drew hB1 hr.lt
  have hB := Below.trans hB.drew (hB1.mono hB.drew.size)
  obtain ⟨u10, hu10⟩ : ∃ u, u = ν 10 := ⟨_, rfl⟩
  rw [← hu10] at f10 s_u10 ⊢
  clear hu10
  obtain ⟨u14, hu14⟩ : ∃ u, u = ν 14 := ⟨_, rfl⟩
  rw [← hu14] at f14 s_u14 ⊢
  clear hu14
  clear hD hν hB1 hrd
  obtain ⟨g, f, e10, hg, _, hh⟩ := f10.out
  obtain ⟨v', w', hap, hbuf, hbel⟩ := run_app_full w1 g 0 [20] (vecB b 3) u14 0 (SlB.rowAt hh rfl (by decide)) f14.out L3.out L2.out
  have HF := Lib.hid (hbuf.low hB.size)
  have hB := Below.trans hB (hbel.mono hB.size)
  have HAP := Lib.hid (show ∀ ty, (Builtin.append_ #[27, 27] ty #[.slice (some ⟨g, 0, none⟩) [(20 : UInt8)].length [(20 : UInt8)].length, u14]).run Try.prog w1 = .ok v' w' from fun _ => hap)
  have HE := Lib.hid e10
  clear hh hap hbuf hbel hg hr
  refine wpl_run rfl (.tmp 10) (.tmp 14) _ _ rfl (v := u10) (u := u14) rfl rfl (fun ty => by rw [HE.out]; exact HAP.out ty) ?_
  simp only [Act.put, lS]
  go_wp2_with fail
  go_ret2
  exact ⟨_, rfl, HF.out, hB⟩
end Go.Proofs.Ytnenoecmmelehaa
