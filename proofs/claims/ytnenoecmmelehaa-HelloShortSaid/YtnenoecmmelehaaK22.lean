/- Part of the proof: HRef, HRefBody. No conditions of its own. -/
import Derived.Below
import Derived.BigQuiet
import Derived.Deep.CutBlock
import Derived.Deep.DeepCutAuto
import Derived.Deep.Draws
import Derived.Deep.LoopGhost
import Derived.Deep.Quiet
import Derived.Deep.QuietTactic
import Derived.Deep.RegionLaw
import Derived.Great.BuildSlice
import Derived.Great.FillDense
import Derived.Laws.AppendOwn
import Derived.Laws.AppendOwnNone
import Derived.Laws.BytesArg
import Derived.Laws.Concat
import Derived.Laws.MakeOwn
import Derived.Lib.AppendZerosOnto
import Derived.Lib.BufferWrite
import Derived.Lib.Hide
import Derived.Lib.SlBytesConst
import Derived.StillTail
import Derived.Stop.BytesEq
import Derived.Test.YtnenoecmmelehaaProg
import Derived.WalkKit
import Derived.WalkLawsBesides
import Derived.WalkSpells
import Derived.Test.YtnenoecmmelehaaK09
import Derived.Test.YtnenoecmmelehaaK10
import Derived.Test.YtnenoecmmelehaaK21
import Derived.Test.YtnenoecmmelehaaK12
namespace Go.Proofs.Ytnenoecmmelehaa
open Go.RowKit
set_option linter.unusedVariables false

section
variable (ρ : Operand → Value) (dst : Option Tmp) (x : Operand) (type : TypeId) (pos : String) (after : Array Edge) (guard : Option (Nat × Bool)) (w : World)
theorem agg_rmsg (w : World) : (isAgg 25).run Try.prog w = .ok true w := by kernel_rfl
theorem siz_rmsg (w : World) : (sizeOf 25).run Try.prog w = .ok 75 w := by kernel_rfl
theorem run_loadR (hx : plainPtr (ρ x) = true) (h0 : offOf (ρ x) = 0) (h3 : (row w (blkOf (ρ x))).isSome = true) (hs : rowSize w (blkOf (ρ x)) = 75) :
    (execOp ρ { dst, op := .load 25 x, type, pos, after, guard }).run Try.prog w = .ok (.value (.agg (rowCells w (blkOf (ρ x))))) w := by
  have hz := szR_of (siz_rmsg w)
  have := run_load_r (P := Try.prog) ρ dst 25 x type pos after guard w (agg_rmsg w) hx h3 (by rw [hz]; exact siz_rmsg w) (by rw [h0, hz, hs]; exact Nat.le_refl _)
  rw [this, h0, hz, sub_all]
  obtain ⟨⟨t, cs⟩, hr⟩ := Option.isSome_iff_exists.1 h3
  simp only [rowSize, hr, Option.map_some, Option.getD_some] at hs
  simp only [rowCells, hr, Option.map_some, Option.getD_some, hs]
end
theorem one_str (b : ByteArray) : Value.oneCell' (.string b) = true := rfl
theorem one_sli (a : Option Addr) (n c : Nat) : Value.oneCell' (.slice a n c) = true := rfl
theorem one_boo (b : Bool) : Value.oneCell' (.bool b) = true := rfl
theorem mD_one {k : Int} {r mk : List UInt8} {v0 v1 v2 v3 v4 v5 v6 v7 v8 v9 : Value} : allOne (mD k r mk [v0, v1, v2, v3, v4, v5, v6, v7, v8, v9]) = (v0.oneCell' && (v1.oneCell' && (v2.oneCell' && (v3.oneCell' && (v4.oneCell' && (v5.oneCell' && (v6.oneCell' && (v7.oneCell' && (v8.oneCell' && v9.oneCell'))))))))) := by
  unfold mD mC
  rw [allOne_lit, List.all_append, List.all_append, List.all_append]
  have h : ∀ l : List UInt8, (l.map B).all Value.oneCell' = true := fun l => List.all_eq_true.2 fun v hv => by obtain ⟨y, _, rfl⟩ := List.mem_map.1 hv; rfl
  rw [h, h]
  simp [oneCell_int]
theorem over_zM (k : Int) (r mk : List UInt8) (v0 v1 v2 v3 v4 v5 v6 v7 v8 v9 : Value) : over zMsg 0 (mD k r mk [v0, v1, v2, v3, v4, v5, v6, v7, v8, v9]) = mD k r mk [v0, v1, v2, v3, v4, v5, v6, v7, v8, v9] := over_all _ _ (zMsg_size.trans mD_sz.symm)
attribute [go_sem ↓] run_loadR over_zM
attribute [go_sem] one_str one_sli one_boo mD_one
attribute [go_sem] zero_msg zMsg_size
theorem refbareD (k : Int) (r mk s1 s2 s3 s4 s5 : List UInt8) (ac : Option Addr) (n cc : Nat) (life age : Int) (psk retry : Bool) (w : World) :
    Calls Try.prog 42 #[.agg (mD k r mk [S s1, S s2, S s3, S s4, S s5, .slice ac n cc, .int .i64 life, .int .i64 age, .bool psk, .bool retry])] w fun e w' => e = .returned (.bool (bareB (fx r) (fx mk) (s1.length + s2.length + s3.length + s4.length + s5.length + n) life age psk retry)) ∧ Below w.heap.size w w' :=
  (refbare_any k (fx r) (fx mk) s1 s2 s3 s4 s5 ac n cc life age psk retry w (fx_len _) (fx_len _)).mono fun e w' ⟨he, hb⟩ => ⟨he.trans (congrArg (fun b => Ending.returned (Value.bool b)) (by
    unfold bareB
    simp only [nil_len]
    rw [Bool.eq_iff_iff]
    simp only [Bool.and_eq_true, decide_eq_true_eq, beq_iff_eq, Nat.add_eq_zero_iff]
    grind)), hb⟩
theorem hVersion_len : hVersion.length = 2 := rfl
theorem hSuites_len : hSuites.length = 6 := rfl
theorem hSuite_len : hSuite.length = 3 := rfl
theorem hAsked_len : hAsked.length = 11 := rfl
theorem hSigned_len : hSigned.length = 2 := rfl
theorem hNone2_len : hNone2.length = 2 := rfl
theorem hNone1_len : hNone1.length = 1 := rfl
theorem hAgain_len : hAgain.length = 32 := rfl
theorem gen_wp {c : Code} {Q : Exit → Act → World → Prop} {a : Act} {w : World} (R : World → Prop) (h : R w) (k : ∀ w, R w → Code.wp Try.prog c Q a w) : Code.wp Try.prog c Q a w := k w h
section
variable {ops : Array Oper} {W : World} {φ : Tmp → Value → World → Prop} {ν : Tmp → Value} {done : List Tmp} {o : Oper} {a : Act} {C : World → Prop} {K : Act → Prop}
theorem qf_loadR (x : Operand) (ho : o.op = .load 25 x) (g : Nat) (hx : a.eval x = .pointer (some ⟨g, 0, none⟩)) (t : TypeId) (cs : Array Value) (hC : ∀ w, C w → PreV W ops φ ν done o w) (hr : Row W g t cs) (hs : cs.size = 75) (hk : K (a.put o.dst (.agg cs))) : o.quiet Try.prog a C K :=
  qf_loadA _ x ho g 0 hx t cs hC hr agg_rmsg 75 siz_rmsg (by omega) cs (sub_all cs 75 hs) hk
theorem qf_add (l m : List UInt8) (x y : Operand) (ty : TypeId) (ho : o.op = .binOp .add 9 x y ty) (hx : a.eval x = S l) (hy : a.eval y = S m) (hl : l.length + m.length ≤ 1000000000) (hk : K (a.put o.dst (S (l ++ m)))) : o.quiet Try.prog a C K := by
  refine ⟨S (l ++ m), fun w' hw' => ?_, hk⟩
  have h := add_S l m hl w'
  unfold Oper.quietAt execOp
  simp only [ho, hx, hy]
  simp [binOp, eqGuard, h, Oper.quietUpon]
end
theorem hLS : hVersion.length = 2 ∧ hSuites.length = 6 ∧ hSuite.length = 3 ∧ hAble.length = 23 ∧ hChosen.length = 6 ∧ hShare.length = 2 ∧ hGroup.length = 2 ∧ hModes.length = 6 ∧ hPsk.length = 2 ∧ hBinder.length = 3 ∧ hFirst.length = 4 ∧ hAsked.length = 11 ∧ hSigned.length = 2 ∧ hNone2.length = 2 ∧ hNone1.length = 1 ∧ hAgain.length = 32 := ⟨rfl, rfl, rfl, rfl, rfl, rfl, rfl, rfl, rfl, rfl, rfl, rfl, rfl, rfl, rfl, rfl⟩
end Go.Proofs.Ytnenoecmmelehaa

namespace Go.Proofs.Ytnenoecmmelehaa
open Go.RowKit
set_option linter.unusedVariables false
set_option linter.unusedSimpArgs false

set_option maxRecDepth 100000 in
set_option maxHeartbeats 4000000 in
theorem refbody_8 (r mk ses sh ti no sg : List UInt8) (ac : Option Addr) (n cc : Nat) (life age : Int) (psk : Bool) (retry : Bool) (w : World) :
    Calls Try.prog 25 #[.agg (mD 8 r mk [S ses, S sh, S ti, S no, S sg, .slice ac n cc, .int .i64 life, .int .i64 age, .bool psk, .bool retry])] w fun e w' => e = .returned (.tuple #[S hNone2, .bool (bareB (fx r) (fx mk) (ses.length + sh.length + ti.length + no.length + sg.length + n) life age psk retry)]) ∧ Below w.heap.size w w' := by
  have hbare : ∀ w, Calls Try.prog 42 #[.agg (mD 8 r mk [S ses, S sh, S ti, S no, S sg, .slice ac n cc, .int .i64 life, .int .i64 age, .bool psk, .bool retry])] w fun e w' => e = .returned (.bool (bareB (fx r) (fx mk) (ses.length + sh.length + ti.length + no.length + sg.length + n) life age psk retry)) ∧ Below w.heap.size w w' := fun w => refbareD _ _ _ _ _ _ _ _ _ _ _ _ _ _ _ w
  obtain ⟨bb, hbb⟩ : ∃ bb, bb = bareB (fx r) (fx mk) (ses.length + sh.length + ti.length + no.length + sg.length + n) life age psk retry := ⟨_, rfl⟩
  rw [← hbb] at hbare ⊢
  have HBARE := Lib.hid hbare
  clear hbare hbb
  go_enter Try.func25, Try.ntmps25
  go_wp2_with fail
  refine (HBARE.out _).mono ?_
  rintro e w1 ⟨rfl, hb1⟩
  go_wp2_with fail
  go_ret2
  exact ⟨rfl, Below.trans (by (repeat (first | (with_reducible exact Below.refl _ _) | ((with_reducible first | refine bSetRow ?_ ?_ _ | refine Below.alloc ?_ ?_ _ | refine Below.setCell ?_ ?_ _); rotate_left 1; (focus (first | (simp; done) | (simp; omega)))) | (with_reducible refine Below.drew ?_)))) (hb1.mono (by first | (simp; done) | (simp; omega) | omega))⟩
set_option maxRecDepth 100000 in
set_option maxHeartbeats 4000000 in
theorem refbody_13 (r mk ses sh ti no sg : List UInt8) (ac : Option Addr) (n cc : Nat) (life age : Int) (psk : Bool) (retry : Bool) (w : World) :
    Calls Try.prog 25 #[.agg (mD 13 r mk [S ses, S sh, S ti, S no, S sg, .slice ac n cc, .int .i64 life, .int .i64 age, .bool psk, .bool retry])] w fun e w' => e = .returned (.tuple #[S hAsked, .bool (bareB (fx r) (fx mk) (ses.length + sh.length + ti.length + no.length + sg.length + n) life age psk retry)]) ∧ Below w.heap.size w w' := by
  have hbare : ∀ w, Calls Try.prog 42 #[.agg (mD 13 r mk [S ses, S sh, S ti, S no, S sg, .slice ac n cc, .int .i64 life, .int .i64 age, .bool psk, .bool retry])] w fun e w' => e = .returned (.bool (bareB (fx r) (fx mk) (ses.length + sh.length + ti.length + no.length + sg.length + n) life age psk retry)) ∧ Below w.heap.size w w' := fun w => refbareD _ _ _ _ _ _ _ _ _ _ _ _ _ _ _ w
  obtain ⟨bb, hbb⟩ : ∃ bb, bb = bareB (fx r) (fx mk) (ses.length + sh.length + ti.length + no.length + sg.length + n) life age psk retry := ⟨_, rfl⟩
  rw [← hbb] at hbare ⊢
  have HBARE := Lib.hid hbare
  clear hbare hbb
  go_enter Try.func25, Try.ntmps25
  go_wp2_with fail
  refine (HBARE.out _).mono ?_
  rintro e w1 ⟨rfl, hb1⟩
  go_wp2_with fail
  go_ret2
  exact ⟨rfl, Below.trans (by (repeat (first | (with_reducible exact Below.refl _ _) | ((with_reducible first | refine bSetRow ?_ ?_ _ | refine Below.alloc ?_ ?_ _ | refine Below.setCell ?_ ?_ _); rotate_left 1; (focus (first | (simp; done) | (simp; omega)))) | (with_reducible refine Below.drew ?_)))) (hb1.mono (by first | (simp; done) | (simp; omega) | omega))⟩
set_option maxRecDepth 100000 in
set_option maxHeartbeats 4000000 in
theorem refbody_20 (r mk ses sh ti no sg : List UInt8) (ac : Option Addr) (n cc : Nat) (life age : Int) (psk : Bool) (retry : Bool) (w : World) :
    Calls Try.prog 25 #[.agg (mD 20 r mk [S ses, S sh, S ti, S no, S sg, .slice ac n cc, .int .i64 life, .int .i64 age, .bool psk, .bool retry])] w fun e w' => e = .returned (.tuple #[S (fx mk), .bool (bareB (fx r) (fx zero32) (ses.length + sh.length + ti.length + no.length + sg.length + n) life age psk retry)]) ∧ Below w.heap.size w w' := by
  have hbare : ∀ w, Calls Try.prog 42 #[.agg (mD 20 r zero32 [S ses, S sh, S ti, S no, S sg, .slice ac n cc, .int .i64 life, .int .i64 age, .bool psk, .bool retry])] w fun e w' => e = .returned (.bool (bareB (fx r) (fx zero32) (ses.length + sh.length + ti.length + no.length + sg.length + n) life age psk retry)) ∧ Below w.heap.size w w' := fun w => refbareD _ _ _ _ _ _ _ _ _ _ _ _ _ _ _ w
  obtain ⟨bb, hbb⟩ : ∃ bb, bb = bareB (fx r) (fx zero32) (ses.length + sh.length + ti.length + no.length + sg.length + n) life age psk retry := ⟨_, rfl⟩
  rw [← hbb] at hbare ⊢
  have HBARE := Lib.hid hbare
  clear hbare hbb
  go_enter Try.func25, Try.ntmps25
  go_upto_region 54 with (fail)
  refine gen_wp (fun w0 => Row w0 w.heap.size 25 (mD 20 r mk [S ses, S sh, S ti, S no, S sg, .slice ac n cc, .int .i64 life, .int .i64 age, .bool psk, .bool retry]) ∧ Row w0 (w.heap.size + 1) 25 (mD 20 r zero32 [S ses, S sh, S ti, S no, S sg, .slice ac n cc, .int .i64 life, .int .i64 age, .bool psk, .bool retry]) ∧ Below w.heap.size w w0) ⟨by show row _ _ = _; simp [go_sem], by show row _ _ = _; simp [go_sem], by (repeat (first | (with_reducible exact Below.refl _ _) | ((with_reducible first | refine bSetRow ?_ ?_ _ | refine Below.alloc ?_ ?_ _ | refine Below.setCell ?_ ?_ _); rotate_left 1; (focus (first | (simp; done) | (simp; omega)))) | (with_reducible refine Below.drew ?_)))⟩ ?_
  rintro w0 ⟨hr, hr2, hB⟩
  have hrd := hr.drew
  have hr2d := hr2.drew
  (refine wp_region_freeD 5 [] [] shp (phi _ []) (by kernel_rfl) (by kernel_rfl) (by kernel_rfl) (phi_stab _ _) (phi_shp _ _) shp_inh ?_; simp only [List.take_succ_cons, List.take_zero, List.drop_succ_cons, List.drop_zero]; apply Exists.intro; apply Exists.intro; refine ⟨?_, ?_, ?_⟩)
  · intro ν hν
    iterate 2 (apply wpF_q rfl; focus (intro C hC hG; (first | go_big_quiet_skip | (go_big_quiet_want; go_big_quiet_op; first | go_big_quiet_on | (refine ⟨_, fun _ _ => rfl, ?_⟩; go_big_quiet_on)) | (go_big_quiet_want; apply qf_load1 _ _ rfl _ _ rfl; (exact hC); rotate_left 1; (focus (intro _; simp [go_sem]; done)); rotate_right 1; assumption; assumption; (simp only [Act.put, lS]; go_big_quiet_on)) | (go_big_quiet_want; apply qf_loadA _ _ rfl _ _ rfl (sz := 32); (exact hC); rotate_left 1; (focus (intro _; simp [go_sem]; done)); (focus (intro _; simp [go_sem]; done)); rotate_right 1; assumption; assumption; assumption; (simp only [Act.put, lS]; go_big_quiet_on))); exact wpQuiet_nil rfl))
    (apply wpF_q rfl; focus (intro C hC hG; go_big_quiet_want; apply qf_conv; (focus rfl); (exact hC); (focus rfl); (exact Try.underlying27); (exact Try.underlying5); (exact Try.underlying9); (exact (fun w hB _ => (SlB.markM hrd).below hB)); (simp only [Act.put, lS]; go_big_quiet_on); exact wpQuiet_nil rfl))
    (apply wpF_q rfl; focus (intro C hC hG; go_big_quiet_want; apply qf_loadR _ rfl _ rfl; (exact hC); assumption; (exact mD_sz); (simp only [Act.put, lS]; go_big_quiet_on); exact wpQuiet_nil rfl))
    (apply wpF_q rfl; focus (intro C hC hG; go_big_quiet_want; apply qf_call; (exact hC); (exact hG); (exact (fun w' _ _ => HBARE.out w')); (focus (intro w; simp [go_sem]; done)); (simp only [Act.put, lS]; go_big_quiet_on); exact wpQuiet_nil rfl))
    exact wpF_nil ⟨rfl, rfl⟩
  · intro ν ν'; kernel_rfl
  intro ν w1 hν hB1 hD
  have hr := Row.below hr.drew hB1 hr.lt
  have hr2 := Row.below hr2.drew hB1 hr2.lt
  have hB := Below.trans hB.drew (hB1.mono hB.drew.size)
  clear hD hν hB1 hrd hr2d
  go_wp2_with fail
  go_ret2
  exact ⟨rfl, hB⟩
end Go.Proofs.Ytnenoecmmelehaa
