/- Part of the proof: HRefBodyE. No conditions of its own. -/
import Derived.Below
import Derived.BigQuiet
import Derived.ChangeOld
import Derived.Deep.CutBlock
import Derived.Deep.DeepCutAuto
import Derived.Deep.Draws
import Derived.Deep.LoopGhost
import Derived.Deep.Quiet
import Derived.Deep.QuietTactic
import Derived.Deep.RegionLaw
import Derived.Great.BuildSlice
import Derived.Great.FillDense
import Derived.Laws.AppendOwn
import Derived.Laws.AppendOwnNone
import Derived.Laws.BytesArg
import Derived.Laws.Concat
import Derived.Laws.MakeOwn
import Derived.Lib.AppendZerosOnto
import Derived.Lib.BufferWrite
import Derived.Lib.Hide
import Derived.Lib.SlBytesConst
import Derived.OpenShut
import Derived.ProofKit
import Derived.ShutString
import Derived.StillTail
import Derived.Stop.BytesEq
import Derived.Test.YtnenoecmmelehaaProg
import Derived.WalkKit
import Derived.WalkLawsBesides
import Derived.WalkSpells
import Derived.Test.YtnenoecmmelehaaK12
import Derived.Test.YtnenoecmmelehaaK21
import Derived.Test.YtnenoecmmelehaaK22
import Derived.Test.YtnenoecmmelehaaK24
namespace Go.Proofs.Ytnenoecmmelehaa
open Go.RowKit
set_option linter.unusedVariables false
set_option linter.unusedSimpArgs false

theorem gen_wplB {l : List Oper} {ops : Array Oper} {Q : Exit → Act → World → Prop} {a : Act} {w : World} (R : World → Prop) (h : R w) (k : ∀ w, R w → wpList Try.prog ops Q l a w) : wpList Try.prog ops Q l a w := k w h
theorem wpl_storeA {ops : Array Oper} {rest : List Oper} {o : Oper} {a : Act} {w : World} {Q : Exit → Act → World → Prop} (x y : Operand) (ho : o.op = .store 22 x y) (hgd : o.guard = none) (hd : o.dst = none) (g : Nat) (hx : a.eval x = .pointer (some ⟨g, 0, none⟩)) (vs : List UInt8) (hy : a.eval y = .agg (AB vs)) (hv : vs.length = 32) (t : TypeId) (cs : Array Value) (hr : Row w g t cs) (hc : cs.size = 32)
    (h : wpList Try.prog ops Q rest (a.put none undef) (w.setRow g (AB vs))) : wpList Try.prog ops Q (o :: rest) a w :=
  wpList_plain hgd fun _ hK => by
    have hsz : (AB vs).size = 32 := (AB_size vs).trans hv
    have hrun : (execOp a.eval o).run Try.prog w = .ok .skip (w.setRow g (AB vs)) := by
      obtain ⟨dst, op, type, pos, after, guard⟩ := o
      dsimp only at ho
      subst ho
      have := run_store_r (P := Try.prog) a.eval dst 22 x y type pos after guard w (by rw [hy]; rfl) (by rw [hx]; rfl) (by rw [hx, blkOf_mk, hr]; rfl) (by rw [hy, cells_agg, hsz]; kernel_rfl) (by rw [hx, hy, cells_agg, hsz, offOf_mk, blkOf_mk, rowSize, hr]; simp [hc]) (by rw [hy, cells_agg]; exact allOne_AB vs)
      rw [this, hx, hy, blkOf_mk, offOf_mk, cells_agg, rowCells, hr]
      simp only [Option.map_some, Option.getD_some]
      rw [over_all _ _ (hc.trans hsz.symm)]
    have h1 : wpList Try.prog ops Q rest (a.put o.dst undef) (w.setRow g (AB vs)) := by rw [hd]; exact h
    unfold Oper.wp
    rw [hrun]
    exact hK _ _ h1
set_option maxRecDepth 100000 in
set_option maxHeartbeats 4000000 in
theorem refbody_2rf (r mk ses ti no sg : List UInt8) (ac : Option Addr) (n cc : Nat) (life age : Int)  (w : World) (hbv : bareB (fx zero32) (fx mk) (([] : List UInt8).length + ([] : List UInt8).length + ti.length + no.length + sg.length + n) life age false false = true) (hs : ses.length ≤ 32) (hz : (fx r == zero32) = true) :
    Calls Try.prog 25 #[.agg (mD 2 r mk [S ses, S [], S ti, S no, S sg, .slice ac n cc, .int .i64 life, .int .i64 age, .bool false, .bool true])] w fun e w' => e = .returned (.tuple #[S (hVersion ++ hAgain ++ vecB ses 1 ++ hSuite ++ vecB ((hChosen ++ hShare) ++ ([0, 2] ++ hGroup)) 2), .bool true]) ∧ Below w.heap.size w w' := by
  have hbare : ∀ w, Calls Try.prog 42 #[.agg (mD 2 zero32 mk [S [], S [], S ti, S no, S sg, .slice ac n cc, .int .i64 life, .int .i64 age, .bool false, .bool false])] w fun e w' => e = .returned (.bool (bareB (fx zero32) (fx mk) (([] : List UInt8).length + ([] : List UInt8).length + ti.length + no.length + sg.length + n) life age false false)) ∧ Below w.heap.size w w' := fun w => refbareD _ _ _ _ _ _ _ _ _ _ _ _ _ _ _ w
  rw [hbv] at hbare
  have HBARE := Lib.hid hbare
  clear hbare hbv
  have HS := Lib.hid hs
  have x1 : ¬ (32 : Int) < (ses.length : Int) := by omega
  clear hs
  have he1 : ∀ w, (Op.equalIn 10000 22 (.agg (AB (fx r))) (.agg #[.int .u8 0, .int .u8 0, .int .u8 0, .int .u8 0, .int .u8 0, .int .u8 0, .int .u8 0, .int .u8 0, .int .u8 0, .int .u8 0, .int .u8 0, .int .u8 0, .int .u8 0, .int .u8 0, .int .u8 0, .int .u8 0, .int .u8 0, .int .u8 0, .int .u8 0, .int .u8 0, .int .u8 0, .int .u8 0, .int .u8 0, .int .u8 0, .int .u8 0, .int .u8 0, .int .u8 0, .int .u8 0, .int .u8 0, .int .u8 0, .int .u8 0, .int .u8 0])).run Try.prog w = .ok true w := fun w => by
    have := equal32 (fx r) zero32 (fx_len _) rfl w
    rw [zero32_lit, hz] at this
    exact this
  clear hz
  go_enter Try.func25, Try.ntmps25
  go_upto_region 18 with (fail)
  refine gen_wp (fun w0 => Row w0 w.heap.size 25 (mD 2 r mk [S ses, S [], S ti, S no, S sg, .slice ac n cc, .int .i64 life, .int .i64 age, .bool false, .bool true]) ∧ Row w0 (w.heap.size + 1) 25 (mD 2 zero32 mk [S [], S [], S ti, S no, S sg, .slice ac n cc, .int .i64 life, .int .i64 age, .bool false, .bool false]) ∧ Below w.heap.size w w0) ⟨by show row _ _ = _; simp [go_sem], by show row _ _ = _; simp [go_sem], by (repeat (first | (with_reducible exact Below.refl _ _) | ((with_reducible first | refine bSetRow ?_ ?_ _ | refine Below.alloc ?_ ?_ _ | refine Below.setCell ?_ ?_ _); rotate_left 1; (focus (first | (simp; done) | (simp; omega)))) | (with_reducible refine Below.drew ?_)))⟩ ?_
  rintro w0 ⟨hr, hr2, hB⟩
  have g65 : (mD 2 r mk [S ses, S [], S ti, S no, S sg, .slice ac n cc, .int .i64 life, .int .i64 age, .bool false, .bool true])[65]? = some (S ses) := mD_65
  have g66 : (mD 2 r mk [S ses, S [], S ti, S no, S sg, .slice ac n cc, .int .i64 life, .int .i64 age, .bool false, .bool true])[66]? = some (S []) := mD_66
  have g73 : (mD 2 r mk [S ses, S [], S ti, S no, S sg, .slice ac n cc, .int .i64 life, .int .i64 age, .bool false, .bool true])[73]? = some (.bool false) := mD_73
  have g74 : (mD 2 r mk [S ses, S [], S ti, S no, S sg, .slice ac n cc, .int .i64 life, .int .i64 age, .bool false, .bool true])[74]? = some (.bool true) := mD_74
  have gR : sub (mD 2 r mk [S ses, S [], S ti, S no, S sg, .slice ac n cc, .int .i64 life, .int .i64 age, .bool false, .bool true]) 1 32 = AB (fx r) := mD_R
  have gz : 1 + 32 ≤ (mD 2 r mk [S ses, S [], S ti, S no, S sg, .slice ac n cc, .int .i64 life, .int .i64 age, .bool false, .bool true]).size := by rw [mD_sz]; decide
  have hrd := hr.drew
  have hr2d := hr2.drew
  (refine wp_region_freeD 44 [] [] shp (phi _ []) (by kernel_rfl) (by kernel_rfl) (by kernel_rfl) (phi_stab _ _) (phi_shp _ _) shp_inh ?_; simp only [List.take_succ_cons, List.take_zero, List.drop_succ_cons, List.drop_zero]; apply Exists.intro; apply Exists.intro; refine ⟨?_, ?_, ?_⟩)
  · intro ν hν
    (apply wpF_q rfl; focus (intro C hC hG; go_big_quiet_want; apply qf_loadR _ rfl _ rfl; (exact hC); assumption; (exact mD_sz); (simp only [Act.put, lS]; go_big_quiet_on); exact wpQuiet_nil rfl))
    (apply wpF_q rfl; focus (intro C hC hG; go_big_quiet_want; apply qf_call; (exact hC); (exact hG); (exact (fun w' _ _ => HBARE.out w')); (focus (intro w; simp [go_sem]; done)); (simp only [Act.put, lS]; go_big_quiet_on); exact wpQuiet_nil rfl))
    iterate 42 (apply wpF_q rfl; focus (intro C hC hG; (first | go_big_quiet_skip | (go_big_quiet_want; go_big_quiet_op; first | go_big_quiet_on | (refine ⟨_, fun _ _ => rfl, ?_⟩; go_big_quiet_on)) | (go_big_quiet_want; apply qf_load1 _ _ rfl _ _ rfl; (exact hC); rotate_left 1; (focus (intro _; simp [go_sem]; done)); rotate_right 1; assumption; assumption; (simp only [Act.put, lS]; go_big_quiet_on)) | (go_big_quiet_want; apply qf_loadA _ _ rfl _ _ rfl (sz := 32); (exact hC); rotate_left 1; (focus (intro _; simp [go_sem]; done)); (focus (intro _; simp [go_sem]; done)); rotate_right 1; assumption; assumption; assumption; (simp only [Act.put, lS]; go_big_quiet_on))); exact wpQuiet_nil rfl))
    exact wpF_nil ⟨rfl, rfl⟩
  · intro ν ν'; kernel_rfl
  intro ν w1 hν hB1 hD
  have hr := Row.below hr.drew hB1 hr.lt
  have hr2 := Row.below hr2.drew hB1 hr2.lt
  have hB := Below.trans hB.drew (hB1.mono hB.drew.size)
  clear hD hν hB1
  try clear hrd
  try clear hr2d
  have hr1lt := hr.lt
  have hs1 := hB.size
  have HZ7 := Lib.hid (show (AB (fx r)).size = 32 from (AB_size _).trans (fx_len _))
  clear he1
  go_wp2_with (refine wpl_storeA (.tmp 7) (.tmp 166) rfl rfl rfl _ rfl (fx r) rfl (fx_len _) _ _ (Row.new _ _ _) rfl ?_; simp only [Act.put]; refine gen_wplB (fun w0 => Row w0 w.heap.size 25 (mD 2 r mk [S ses, S [], S ti, S no, S sg, .slice ac n cc, .int .i64 life, .int .i64 age, .bool false, .bool true]) ∧ Row w0 w1.heap.size 22 (AB (fx r)) ∧ Below w.heap.size w w0) ⟨(hr.alloc _).setRowOther _ _ (by omega), (Row.new _ _ _).setRow _, bSetRow (hB.alloc hB.size _) hB.size _⟩ ?_; clear hr hB; rintro w3 ⟨hr, hr7, hB⟩)
  refine (special_any _).mono ?_
  rintro e w4 ⟨rfl, hb2⟩
  have hr := Row.below hr hb2 hr.lt
  have hr7 := Row.below hr7 hb2 hr7.lt
  have hB := Below.trans hB (hb2.mono hB.size)
  clear hb2
  go_upto_region 23 with (refine wpl_storeA (.tmp 7) (.tmp 169) rfl rfl rfl _ rfl hAgain rfl rfl _ _ hr7 HZ7.out ?_; simp only [Act.put]; refine gen_wplB (fun w0 => Row w0 w.heap.size 25 (mD 2 r mk [S ses, S [], S ti, S no, S sg, .slice ac n cc, .int .i64 life, .int .i64 age, .bool false, .bool true]) ∧ Row w0 w1.heap.size 22 (AB hAgain) ∧ Below w.heap.size w w0) ⟨hr.setRowOther _ _ (by omega), hr7.setRow _, bSetRow hB (by omega) _⟩ ?_; clear hr hr7 hB; rintro w5 ⟨hr, hr7, hB⟩)
  (refine wp_region_seq 2 [] [] shp (phi _ []) (by kernel_rfl) (phi_stab _ _) (phi_shp _ _) shp_inh ?_; simp only [List.take_succ_cons, List.take_zero, List.drop_succ_cons, List.drop_zero]; apply Exists.intro; apply Exists.intro; refine ⟨?_, ?_, ?_⟩)
  · intro ν hν
    have HS' := HS.out
    (apply wpF_q rfl; focus (intro C hC hG; (first | go_big_quiet_skip | (go_big_quiet_want; go_big_quiet_op; first | go_big_quiet_on | (refine ⟨_, fun _ _ => rfl, ?_⟩; go_big_quiet_on)) | (go_big_quiet_want; apply qf_load1 _ _ rfl _ _ rfl; (exact hC); rotate_left 1; (focus (intro _; simp [go_sem]; done)); rotate_right 1; assumption; assumption; (simp only [Act.put, lS]; go_big_quiet_on)) | (go_big_quiet_want; apply qf_loadA _ _ rfl _ _ rfl (sz := 32); (exact hC); rotate_left 1; (focus (intro _; simp [go_sem]; done)); (focus (intro _; simp [go_sem]; done)); rotate_right 1; assumption; assumption; assumption; (simp only [Act.put, lS]; go_big_quiet_on))); exact wpQuiet_nil rfl))
    (apply wpF_q rfl; focus (intro C hC hG; go_big_quiet_want; apply qf_add (hChosen ++ hShare) ([0, 2] ++ hGroup) _ _ _ rfl rfl rfl; (focus (first | decide | (simp only [List.length_append, List.length_nil, List.length_cons, vecB_len, numB_len, fx_len, hLS]; omega))); (simp only [Act.put, lS]; go_big_quiet_on); exact wpQuiet_nil rfl))
    exact wpF_nil ⟨rfl, rfl⟩
  · intro ν ν'; kernel_rfl
  intro ν w6 hν hB1 hD
  have hr := Row.below hr hB1 hr.lt
  have hr7 := Row.below hr7 hB1 hr7.lt
  have hB := Below.trans hB (hB1.mono hB.size)
  clear hD hν hB1
  go_upto_region 27 with (fail)
  have hrd := hr.drew
  have hr7d := hr7.drew
  (refine wp_region_freeD 11 [] [] shp (phi _ []) (by kernel_rfl) (by kernel_rfl) (by kernel_rfl) (phi_stab _ _) (phi_shp _ _) shp_inh ?_; simp only [List.take_succ_cons, List.take_zero, List.drop_succ_cons, List.drop_zero]; apply Exists.intro; apply Exists.intro; refine ⟨?_, ?_, ?_⟩)
  · intro ν hν
    have HS' := HS.out
    (apply wpF_q rfl; focus (intro C hC hG; (first | go_big_quiet_skip | (go_big_quiet_want; go_big_quiet_op; first | go_big_quiet_on | (refine ⟨_, fun _ _ => rfl, ?_⟩; go_big_quiet_on)) | (go_big_quiet_want; apply qf_load1 _ _ rfl _ _ rfl; (exact hC); rotate_left 1; (focus (intro _; simp [go_sem]; done)); rotate_right 1; assumption; assumption; (simp only [Act.put, lS]; go_big_quiet_on)) | (go_big_quiet_want; apply qf_loadA _ _ rfl _ _ rfl (sz := 32); (exact hC); rotate_left 1; (focus (intro _; simp [go_sem]; done)); (focus (intro _; simp [go_sem]; done)); rotate_right 1; assumption; assumption; assumption; (simp only [Act.put, lS]; go_big_quiet_on))); exact wpQuiet_nil rfl))
    (apply wpF_q rfl; focus (intro C hC hG; go_big_quiet_want; apply qf_conv; (focus rfl); (exact hC); (focus rfl); (exact Try.underlying27); (exact Try.underlying5); (exact Try.underlying9); (exact (fun w hB _ => (SlB.of_row hr7d (by decide) (by decide)).below hB)); (simp only [Act.put, lS]; go_big_quiet_on); exact wpQuiet_nil rfl))
    (apply wpF_q rfl; focus (intro C hC hG; go_big_quiet_want; apply qf_add hVersion hAgain _ _ _ rfl rfl rfl; (focus (first | decide | (simp only [List.length_append, List.length_nil, List.length_cons, vecB_len, numB_len, fx_len, hLS]; omega))); (simp only [Act.put, lS]; go_big_quiet_on); exact wpQuiet_nil rfl))
    iterate 2 (apply wpF_q rfl; focus (intro C hC hG; (first | go_big_quiet_skip | (go_big_quiet_want; go_big_quiet_op; first | go_big_quiet_on | (refine ⟨_, fun _ _ => rfl, ?_⟩; go_big_quiet_on)) | (go_big_quiet_want; apply qf_load1 _ _ rfl _ _ rfl; (exact hC); rotate_left 1; (focus (intro _; simp [go_sem]; done)); rotate_right 1; assumption; assumption; (simp only [Act.put, lS]; go_big_quiet_on)) | (go_big_quiet_want; apply qf_loadA _ _ rfl _ _ rfl (sz := 32); (exact hC); rotate_left 1; (focus (intro _; simp [go_sem]; done)); (focus (intro _; simp [go_sem]; done)); rotate_right 1; assumption; assumption; assumption; (simp only [Act.put, lS]; go_big_quiet_on))); exact wpQuiet_nil rfl))
    (apply wpF_q rfl; focus (intro C hC hG; go_big_quiet_want; apply qf_call; (exact hC); (exact hG); (exact (fun w' _ _ => refvec_any ses 1 w' (by omega) (by decide))); (focus (intro w; simp [go_sem]; done)); (simp only [Act.put, lS]; go_big_quiet_on); exact wpQuiet_nil rfl))
    (apply wpF_q rfl; focus (intro C hC hG; go_big_quiet_want; apply qf_add (hVersion ++ hAgain) (vecB ses 1) _ _ _ rfl rfl rfl; (focus (first | decide | (simp only [List.length_append, List.length_nil, List.length_cons, vecB_len, numB_len, fx_len, hLS]; omega))); (simp only [Act.put, lS]; go_big_quiet_on); exact wpQuiet_nil rfl))
    (apply wpF_q rfl; focus (intro C hC hG; go_big_quiet_want; apply qf_add (hVersion ++ hAgain ++ vecB ses 1) hSuite _ _ _ rfl rfl rfl; (focus (first | decide | (simp only [List.length_append, List.length_nil, List.length_cons, vecB_len, numB_len, fx_len, hLS]; omega))); (simp only [Act.put, lS]; go_big_quiet_on); exact wpQuiet_nil rfl))
    (apply wpF_q rfl; focus (intro C hC hG; (first | go_big_quiet_skip | (go_big_quiet_want; go_big_quiet_op; first | go_big_quiet_on | (refine ⟨_, fun _ _ => rfl, ?_⟩; go_big_quiet_on)) | (go_big_quiet_want; apply qf_load1 _ _ rfl _ _ rfl; (exact hC); rotate_left 1; (focus (intro _; simp [go_sem]; done)); rotate_right 1; assumption; assumption; (simp only [Act.put, lS]; go_big_quiet_on)) | (go_big_quiet_want; apply qf_loadA _ _ rfl _ _ rfl (sz := 32); (exact hC); rotate_left 1; (focus (intro _; simp [go_sem]; done)); (focus (intro _; simp [go_sem]; done)); rotate_right 1; assumption; assumption; assumption; (simp only [Act.put, lS]; go_big_quiet_on))); exact wpQuiet_nil rfl))
    (apply wpF_q rfl; focus (intro C hC hG; go_big_quiet_want; apply qf_call; (exact hC); (exact hG); (exact (fun w' _ _ => refvec_any ((hChosen ++ hShare) ++ ([0, 2] ++ hGroup)) 2 w' (by simp only [List.length_append, vecB_len, numB_len, fx_len, List.length_nil, List.length_cons, hLS]; omega) (by decide))); (focus (intro w; simp [go_sem]; done)); (simp only [Act.put, lS]; go_big_quiet_on); exact wpQuiet_nil rfl))
    (apply wpF_q rfl; focus (intro C hC hG; go_big_quiet_want; apply qf_add (hVersion ++ hAgain ++ vecB ses 1 ++ hSuite) (vecB ((hChosen ++ hShare) ++ ([0, 2] ++ hGroup)) 2) _ _ _ rfl rfl rfl; (focus (first | decide | (simp only [List.length_append, List.length_nil, List.length_cons, vecB_len, numB_len, fx_len, hLS]; omega))); (simp only [Act.put, lS]; go_big_quiet_on); exact wpQuiet_nil rfl))
    exact wpF_nil ⟨rfl, rfl⟩
  · intro ν ν'; kernel_rfl
  intro ν w6 hν hB1 hD
  have hr := Row.below hr.drew hB1 hr.lt
  have hr7 := Row.below hr7.drew hB1 hr7.lt
  have hB := Below.trans hB.drew (hB1.mono hB.drew.size)
  clear hD hν hB1
  try clear hrd
  try clear hr7d
  obtain ⟨RS, hRS⟩ : ∃ RS, RS = hVersion ++ hAgain ++ vecB ses 1 ++ hSuite ++ vecB ((hChosen ++ hShare) ++ ([0, 2] ++ hGroup)) 2 := ⟨_, rfl⟩
  rw [← hRS]
  have HRS := Lib.hid hRS
  clear hRS gR gz g65 g66 g73 g74 hr hr7 hr1lt hs1
  go_wp2_with fail
  go_ret2
  exact ⟨congrArg (fun s => Ending.returned (Value.tuple #[S s, Value.bool true])) (by rw [HRS.out]; first | done | (simp only [List.append_assoc]; done) | simp), hB⟩
set_option maxRecDepth 100000 in
set_option maxHeartbeats 4000000 in
theorem refbody_2nf (r mk ses sh ti no sg : List UInt8) (ac : Option Addr) (n cc : Nat) (life age : Int)  (w : World) (hbv : bareB (fx zero32) (fx mk) (([] : List UInt8).length + ([] : List UInt8).length + ti.length + no.length + sg.length + n) life age false false = true) (hs : ses.length ≤ 32) (h65 : sh.length = 65) (ha : (fx r == hAgain) = false) :
    Calls Try.prog 25 #[.agg (mD 2 r mk [S ses, S sh, S ti, S no, S sg, .slice ac n cc, .int .i64 life, .int .i64 age, .bool false, .bool false])] w fun e w' => e = .returned (.tuple #[S (hVersion ++ fx r ++ vecB ses 1 ++ hSuite ++ vecB ((hChosen ++ hShare) ++ vecB (hGroup ++ vecB sh 2) 2) 2), .bool true]) ∧ Below w.heap.size w w' := by
  have hbare : ∀ w, Calls Try.prog 42 #[.agg (mD 2 zero32 mk [S [], S [], S ti, S no, S sg, .slice ac n cc, .int .i64 life, .int .i64 age, .bool false, .bool false])] w fun e w' => e = .returned (.bool (bareB (fx zero32) (fx mk) (([] : List UInt8).length + ([] : List UInt8).length + ti.length + no.length + sg.length + n) life age false false)) ∧ Below w.heap.size w w' := fun w => refbareD _ _ _ _ _ _ _ _ _ _ _ _ _ _ _ w
  rw [hbv] at hbare
  have HBARE := Lib.hid hbare
  clear hbare hbv
  have HS := Lib.hid hs
  have H65 := Lib.hid h65
  have x1 : ¬ (32 : Int) < (ses.length : Int) := by omega
  clear hs
  have y1 : ((sh.length : Int) == 65) = true := by simp; omega
  have y2 : (sh.length : Int) = 65 := by omega
  have y3 : ((sh.length : Int) != 65) = false := by simp; omega
  clear h65
  have he2 : ∀ w, (Op.equalIn 10000 22 (.agg (AB (fx r))) (.agg (AB hAgain))).run Try.prog w = .ok false w := fun w => by
    have := equal32 (fx r) hAgain (fx_len _) rfl w
    rw [ha] at this
    exact this
  clear ha
  go_enter Try.func25, Try.ntmps25
  go_upto_region 18 with (fail)
  refine gen_wp (fun w0 => Row w0 w.heap.size 25 (mD 2 r mk [S ses, S sh, S ti, S no, S sg, .slice ac n cc, .int .i64 life, .int .i64 age, .bool false, .bool false]) ∧ Row w0 (w.heap.size + 1) 25 (mD 2 zero32 mk [S [], S [], S ti, S no, S sg, .slice ac n cc, .int .i64 life, .int .i64 age, .bool false, .bool false]) ∧ Below w.heap.size w w0) ⟨by show row _ _ = _; simp [go_sem], by show row _ _ = _; simp [go_sem], by (repeat (first | (with_reducible exact Below.refl _ _) | ((with_reducible first | refine bSetRow ?_ ?_ _ | refine Below.alloc ?_ ?_ _ | refine Below.setCell ?_ ?_ _); rotate_left 1; (focus (first | (simp; done) | (simp; omega)))) | (with_reducible refine Below.drew ?_)))⟩ ?_
  rintro w0 ⟨hr, hr2, hB⟩
  have g65 : (mD 2 r mk [S ses, S sh, S ti, S no, S sg, .slice ac n cc, .int .i64 life, .int .i64 age, .bool false, .bool false])[65]? = some (S ses) := mD_65
  have g66 : (mD 2 r mk [S ses, S sh, S ti, S no, S sg, .slice ac n cc, .int .i64 life, .int .i64 age, .bool false, .bool false])[66]? = some (S sh) := mD_66
  have g73 : (mD 2 r mk [S ses, S sh, S ti, S no, S sg, .slice ac n cc, .int .i64 life, .int .i64 age, .bool false, .bool false])[73]? = some (.bool false) := mD_73
  have g74 : (mD 2 r mk [S ses, S sh, S ti, S no, S sg, .slice ac n cc, .int .i64 life, .int .i64 age, .bool false, .bool false])[74]? = some (.bool false) := mD_74
  have gR : sub (mD 2 r mk [S ses, S sh, S ti, S no, S sg, .slice ac n cc, .int .i64 life, .int .i64 age, .bool false, .bool false]) 1 32 = AB (fx r) := mD_R
  have gz : 1 + 32 ≤ (mD 2 r mk [S ses, S sh, S ti, S no, S sg, .slice ac n cc, .int .i64 life, .int .i64 age, .bool false, .bool false]).size := by rw [mD_sz]; decide
  have hrd := hr.drew
  have hr2d := hr2.drew
  (refine wp_region_freeD 44 [] [] shp (phi _ []) (by kernel_rfl) (by kernel_rfl) (by kernel_rfl) (phi_stab _ _) (phi_shp _ _) shp_inh ?_; simp only [List.take_succ_cons, List.take_zero, List.drop_succ_cons, List.drop_zero]; apply Exists.intro; apply Exists.intro; refine ⟨?_, ?_, ?_⟩)
  · intro ν hν
    (apply wpF_q rfl; focus (intro C hC hG; go_big_quiet_want; apply qf_loadR _ rfl _ rfl; (exact hC); assumption; (exact mD_sz); (simp only [Act.put, lS]; go_big_quiet_on); exact wpQuiet_nil rfl))
    (apply wpF_q rfl; focus (intro C hC hG; go_big_quiet_want; apply qf_call; (exact hC); (exact hG); (exact (fun w' _ _ => HBARE.out w')); (focus (intro w; simp [go_sem]; done)); (simp only [Act.put, lS]; go_big_quiet_on); exact wpQuiet_nil rfl))
    iterate 38 (apply wpF_q rfl; focus (intro C hC hG; (first | go_big_quiet_skip | (go_big_quiet_want; go_big_quiet_op; first | go_big_quiet_on | (refine ⟨_, fun _ _ => rfl, ?_⟩; go_big_quiet_on)) | (go_big_quiet_want; apply qf_load1 _ _ rfl _ _ rfl; (exact hC); rotate_left 1; (focus (intro _; simp [go_sem]; done)); rotate_right 1; assumption; assumption; (simp only [Act.put, lS]; go_big_quiet_on)) | (go_big_quiet_want; apply qf_loadA _ _ rfl _ _ rfl (sz := 32); (exact hC); rotate_left 1; (focus (intro _; simp [go_sem]; done)); (focus (intro _; simp [go_sem]; done)); rotate_right 1; assumption; assumption; assumption; (simp only [Act.put, lS]; go_big_quiet_on))); exact wpQuiet_nil rfl))
    (apply wpF_q rfl; focus (intro C hC hG; go_big_quiet_want; apply qf_call; (exact hC); (exact hG); (exact (fun w' _ _ => special_any w')); (focus (intro w; simp [go_sem]; done)); (simp only [Act.put, lS]; go_big_quiet_on); exact wpQuiet_nil rfl))
    iterate 3 (apply wpF_q rfl; focus (intro C hC hG; (first | go_big_quiet_skip | (go_big_quiet_want; go_big_quiet_op; first | go_big_quiet_on | (refine ⟨_, fun _ _ => rfl, ?_⟩; go_big_quiet_on)) | (go_big_quiet_want; apply qf_load1 _ _ rfl _ _ rfl; (exact hC); rotate_left 1; (focus (intro _; simp [go_sem]; done)); rotate_right 1; assumption; assumption; (simp only [Act.put, lS]; go_big_quiet_on)) | (go_big_quiet_want; apply qf_loadA _ _ rfl _ _ rfl (sz := 32); (exact hC); rotate_left 1; (focus (intro _; simp [go_sem]; done)); (focus (intro _; simp [go_sem]; done)); rotate_right 1; assumption; assumption; assumption; (simp only [Act.put, lS]; go_big_quiet_on))); exact wpQuiet_nil rfl))
    exact wpF_nil ⟨rfl, rfl⟩
  · intro ν ν'; kernel_rfl
  intro ν w1 hν hB1 hD
  have hr := Row.below hr.drew hB1 hr.lt
  have hr2 := Row.below hr2.drew hB1 hr2.lt
  have hB := Below.trans hB.drew (hB1.mono hB.drew.size)
  clear hD hν hB1
  try clear hrd
  try clear hr2d
  have hr1lt := hr.lt
  have hs1 := hB.size
  have HZ7 := Lib.hid (show (AB (fx r)).size = 32 from (AB_size _).trans (fx_len _))
  clear he2
  go_upto_region 24 with (refine wpl_storeA (.tmp 7) (.tmp 166) rfl rfl rfl _ rfl (fx r) rfl (fx_len _) _ _ (Row.new _ _ _) rfl ?_; simp only [Act.put]; refine gen_wplB (fun w0 => Row w0 w.heap.size 25 (mD 2 r mk [S ses, S sh, S ti, S no, S sg, .slice ac n cc, .int .i64 life, .int .i64 age, .bool false, .bool false]) ∧ Row w0 w1.heap.size 22 (AB (fx r)) ∧ Below w.heap.size w w0) ⟨(hr.alloc _).setRowOther _ _ (by omega), (Row.new _ _ _).setRow _, bSetRow (hB.alloc hB.size _) hB.size _⟩ ?_; clear hr hB; rintro w3 ⟨hr, hr7, hB⟩)
  (refine wp_region_seq 7 [] [] shp (phi _ []) (by kernel_rfl) (phi_stab _ _) (phi_shp _ _) shp_inh ?_; simp only [List.take_succ_cons, List.take_zero, List.drop_succ_cons, List.drop_zero]; apply Exists.intro; apply Exists.intro; refine ⟨?_, ?_, ?_⟩)
  · intro ν hν
    have HS' := HS.out
    have H65' := H65.out
    iterate 3 (apply wpF_q rfl; focus (intro C hC hG; (first | go_big_quiet_skip | (go_big_quiet_want; go_big_quiet_op; first | go_big_quiet_on | (refine ⟨_, fun _ _ => rfl, ?_⟩; go_big_quiet_on)) | (go_big_quiet_want; apply qf_load1 _ _ rfl _ _ rfl; (exact hC); rotate_left 1; (focus (intro _; simp [go_sem]; done)); rotate_right 1; assumption; assumption; (simp only [Act.put, lS]; go_big_quiet_on)) | (go_big_quiet_want; apply qf_loadA _ _ rfl _ _ rfl (sz := 32); (exact hC); rotate_left 1; (focus (intro _; simp [go_sem]; done)); (focus (intro _; simp [go_sem]; done)); rotate_right 1; assumption; assumption; assumption; (simp only [Act.put, lS]; go_big_quiet_on))); exact wpQuiet_nil rfl))
    (apply wpF_q rfl; focus (intro C hC hG; go_big_quiet_want; apply qf_call; (exact hC); (exact hG); (exact (fun w' _ _ => refvec_any sh 2 w' (by omega) (by decide))); (focus (intro w; simp [go_sem]; done)); (simp only [Act.put, lS]; go_big_quiet_on); exact wpQuiet_nil rfl))
    (apply wpF_q rfl; focus (intro C hC hG; go_big_quiet_want; apply qf_add hGroup (vecB sh 2) _ _ _ rfl rfl rfl; (focus (first | decide | (simp only [List.length_append, List.length_nil, List.length_cons, vecB_len, numB_len, fx_len, hLS]; omega))); (simp only [Act.put, lS]; go_big_quiet_on); exact wpQuiet_nil rfl))
    (apply wpF_q rfl; focus (intro C hC hG; go_big_quiet_want; apply qf_call; (exact hC); (exact hG); (exact (fun w' _ _ => refvec_any (hGroup ++ vecB sh 2) 2 w' (by simp only [List.length_append, vecB_len, numB_len, fx_len, List.length_nil, List.length_cons, hLS]; omega) (by decide))); (focus (intro w; simp [go_sem]; done)); (simp only [Act.put, lS]; go_big_quiet_on); exact wpQuiet_nil rfl))
    (apply wpF_q rfl; focus (intro C hC hG; go_big_quiet_want; apply qf_add (hChosen ++ hShare) (vecB (hGroup ++ vecB sh 2) 2) _ _ _ rfl rfl rfl; (focus (first | decide | (simp only [List.length_append, List.length_nil, List.length_cons, vecB_len, numB_len, fx_len, hLS]; omega))); (simp only [Act.put, lS]; go_big_quiet_on); exact wpQuiet_nil rfl))
    exact wpF_nil ⟨rfl, rfl⟩
  · intro ν ν'; kernel_rfl
  intro ν w4 hν hB1 hD
  have hr := Row.below hr hB1 hr.lt
  have hr7 := Row.below hr7 hB1 hr7.lt
  have hB := Below.trans hB (hB1.mono hB.size)
  clear hD hν hB1
  go_upto_region 27 with (fail)
  have hrd := hr.drew
  have hr7d := hr7.drew
  (refine wp_region_freeD 11 [] [] shp (phi _ []) (by kernel_rfl) (by kernel_rfl) (by kernel_rfl) (phi_stab _ _) (phi_shp _ _) shp_inh ?_; simp only [List.take_succ_cons, List.take_zero, List.drop_succ_cons, List.drop_zero]; apply Exists.intro; apply Exists.intro; refine ⟨?_, ?_, ?_⟩)
  · intro ν hν
    have HS' := HS.out
    have H65' := H65.out
    (apply wpF_q rfl; focus (intro C hC hG; (first | go_big_quiet_skip | (go_big_quiet_want; go_big_quiet_op; first | go_big_quiet_on | (refine ⟨_, fun _ _ => rfl, ?_⟩; go_big_quiet_on)) | (go_big_quiet_want; apply qf_load1 _ _ rfl _ _ rfl; (exact hC); rotate_left 1; (focus (intro _; simp [go_sem]; done)); rotate_right 1; assumption; assumption; (simp only [Act.put, lS]; go_big_quiet_on)) | (go_big_quiet_want; apply qf_loadA _ _ rfl _ _ rfl (sz := 32); (exact hC); rotate_left 1; (focus (intro _; simp [go_sem]; done)); (focus (intro _; simp [go_sem]; done)); rotate_right 1; assumption; assumption; assumption; (simp only [Act.put, lS]; go_big_quiet_on))); exact wpQuiet_nil rfl))
    (apply wpF_q rfl; focus (intro C hC hG; go_big_quiet_want; apply qf_conv; (focus rfl); (exact hC); (focus rfl); (exact Try.underlying27); (exact Try.underlying5); (exact Try.underlying9); (exact (fun w hB _ => (SlB.of_row hr7d (fx_len _) (by decide)).below hB)); (simp only [Act.put, lS]; go_big_quiet_on); exact wpQuiet_nil rfl))
    (apply wpF_q rfl; focus (intro C hC hG; go_big_quiet_want; apply qf_add hVersion (fx r) _ _ _ rfl rfl rfl; (focus (first | decide | (simp only [List.length_append, List.length_nil, List.length_cons, vecB_len, numB_len, fx_len, hLS]; omega))); (simp only [Act.put, lS]; go_big_quiet_on); exact wpQuiet_nil rfl))
    iterate 2 (apply wpF_q rfl; focus (intro C hC hG; (first | go_big_quiet_skip | (go_big_quiet_want; go_big_quiet_op; first | go_big_quiet_on | (refine ⟨_, fun _ _ => rfl, ?_⟩; go_big_quiet_on)) | (go_big_quiet_want; apply qf_load1 _ _ rfl _ _ rfl; (exact hC); rotate_left 1; (focus (intro _; simp [go_sem]; done)); rotate_right 1; assumption; assumption; (simp only [Act.put, lS]; go_big_quiet_on)) | (go_big_quiet_want; apply qf_loadA _ _ rfl _ _ rfl (sz := 32); (exact hC); rotate_left 1; (focus (intro _; simp [go_sem]; done)); (focus (intro _; simp [go_sem]; done)); rotate_right 1; assumption; assumption; assumption; (simp only [Act.put, lS]; go_big_quiet_on))); exact wpQuiet_nil rfl))
    (apply wpF_q rfl; focus (intro C hC hG; go_big_quiet_want; apply qf_call; (exact hC); (exact hG); (exact (fun w' _ _ => refvec_any ses 1 w' (by omega) (by decide))); (focus (intro w; simp [go_sem]; done)); (simp only [Act.put, lS]; go_big_quiet_on); exact wpQuiet_nil rfl))
    (apply wpF_q rfl; focus (intro C hC hG; go_big_quiet_want; apply qf_add (hVersion ++ (fx r)) (vecB ses 1) _ _ _ rfl rfl rfl; (focus (first | decide | (simp only [List.length_append, List.length_nil, List.length_cons, vecB_len, numB_len, fx_len, hLS]; omega))); (simp only [Act.put, lS]; go_big_quiet_on); exact wpQuiet_nil rfl))
    (apply wpF_q rfl; focus (intro C hC hG; go_big_quiet_want; apply qf_add (hVersion ++ (fx r) ++ vecB ses 1) hSuite _ _ _ rfl rfl rfl; (focus (first | decide | (simp only [List.length_append, List.length_nil, List.length_cons, vecB_len, numB_len, fx_len, hLS]; omega))); (simp only [Act.put, lS]; go_big_quiet_on); exact wpQuiet_nil rfl))
    (apply wpF_q rfl; focus (intro C hC hG; (first | go_big_quiet_skip | (go_big_quiet_want; go_big_quiet_op; first | go_big_quiet_on | (refine ⟨_, fun _ _ => rfl, ?_⟩; go_big_quiet_on)) | (go_big_quiet_want; apply qf_load1 _ _ rfl _ _ rfl; (exact hC); rotate_left 1; (focus (intro _; simp [go_sem]; done)); rotate_right 1; assumption; assumption; (simp only [Act.put, lS]; go_big_quiet_on)) | (go_big_quiet_want; apply qf_loadA _ _ rfl _ _ rfl (sz := 32); (exact hC); rotate_left 1; (focus (intro _; simp [go_sem]; done)); (focus (intro _; simp [go_sem]; done)); rotate_right 1; assumption; assumption; assumption; (simp only [Act.put, lS]; go_big_quiet_on))); exact wpQuiet_nil rfl))
    (apply wpF_q rfl; focus (intro C hC hG; go_big_quiet_want; apply qf_call; (exact hC); (exact hG); (exact (fun w' _ _ => refvec_any ((hChosen ++ hShare) ++ vecB (hGroup ++ vecB sh 2) 2) 2 w' (by simp only [List.length_append, vecB_len, numB_len, fx_len, List.length_nil, List.length_cons, hLS]; omega) (by decide))); (focus (intro w; simp [go_sem]; done)); (simp only [Act.put, lS]; go_big_quiet_on); exact wpQuiet_nil rfl))
    (apply wpF_q rfl; focus (intro C hC hG; go_big_quiet_want; apply qf_add (hVersion ++ (fx r) ++ vecB ses 1 ++ hSuite) (vecB ((hChosen ++ hShare) ++ vecB (hGroup ++ vecB sh 2) 2) 2) _ _ _ rfl rfl rfl; (focus (first | decide | (simp only [List.length_append, List.length_nil, List.length_cons, vecB_len, numB_len, fx_len, hLS]; omega))); (simp only [Act.put, lS]; go_big_quiet_on); exact wpQuiet_nil rfl))
    exact wpF_nil ⟨rfl, rfl⟩
  · intro ν ν'; kernel_rfl
  intro ν w6 hν hB1 hD
  have hr := Row.below hr.drew hB1 hr.lt
  have hr7 := Row.below hr7.drew hB1 hr7.lt
  have hB := Below.trans hB.drew (hB1.mono hB.drew.size)
  clear hD hν hB1
  try clear hrd
  try clear hr7d
  obtain ⟨RS, hRS⟩ : ∃ RS, RS = hVersion ++ fx r ++ vecB ses 1 ++ hSuite ++ vecB ((hChosen ++ hShare) ++ vecB (hGroup ++ vecB sh 2) 2) 2 := ⟨_, rfl⟩
  rw [← hRS]
  have HRS := Lib.hid hRS
  clear hRS gR gz g65 g66 g73 g74 hr hr7 hr1lt hs1 y1 y2 y3
  go_wp2_with fail
  go_ret2
  exact ⟨congrArg (fun s => Ending.returned (Value.tuple #[S s, Value.bool true])) (by rw [HRS.out]; first | done | (simp only [List.append_assoc]; done) | simp), hB⟩
set_option maxRecDepth 100000 in
set_option maxHeartbeats 4000000 in
theorem refbody_2nt (r mk ses sh ti no sg : List UInt8) (ac : Option Addr) (n cc : Nat) (life age : Int)  (w : World) (hbv : bareB (fx zero32) (fx mk) (([] : List UInt8).length + ([] : List UInt8).length + ti.length + no.length + sg.length + n) life age false false = true) (hs : ses.length ≤ 32) (h65 : sh.length = 65) (ha : (fx r == hAgain) = false) :
    Calls Try.prog 25 #[.agg (mD 2 r mk [S ses, S sh, S ti, S no, S sg, .slice ac n cc, .int .i64 life, .int .i64 age, .bool true, .bool false])] w fun e w' => e = .returned (.tuple #[S (hVersion ++ fx r ++ vecB ses 1 ++ hSuite ++ vecB ((hChosen ++ hShare) ++ vecB (hGroup ++ vecB sh 2) 2 ++ (hPsk ++ hFirst)) 2), .bool true]) ∧ Below w.heap.size w w' := by
  have hbare : ∀ w, Calls Try.prog 42 #[.agg (mD 2 zero32 mk [S [], S [], S ti, S no, S sg, .slice ac n cc, .int .i64 life, .int .i64 age, .bool false, .bool false])] w fun e w' => e = .returned (.bool (bareB (fx zero32) (fx mk) (([] : List UInt8).length + ([] : List UInt8).length + ti.length + no.length + sg.length + n) life age false false)) ∧ Below w.heap.size w w' := fun w => refbareD _ _ _ _ _ _ _ _ _ _ _ _ _ _ _ w
  rw [hbv] at hbare
  have HBARE := Lib.hid hbare
  clear hbare hbv
  have HS := Lib.hid hs
  have H65 := Lib.hid h65
  have x1 : ¬ (32 : Int) < (ses.length : Int) := by omega
  clear hs
  have y1 : ((sh.length : Int) == 65) = true := by simp; omega
  have y2 : (sh.length : Int) = 65 := by omega
  have y3 : ((sh.length : Int) != 65) = false := by simp; omega
  clear h65
  have he2 : ∀ w, (Op.equalIn 10000 22 (.agg (AB (fx r))) (.agg (AB hAgain))).run Try.prog w = .ok false w := fun w => by
    have := equal32 (fx r) hAgain (fx_len _) rfl w
    rw [ha] at this
    exact this
  clear ha
  go_enter Try.func25, Try.ntmps25
  go_upto_region 18 with (fail)
  refine gen_wp (fun w0 => Row w0 w.heap.size 25 (mD 2 r mk [S ses, S sh, S ti, S no, S sg, .slice ac n cc, .int .i64 life, .int .i64 age, .bool true, .bool false]) ∧ Row w0 (w.heap.size + 1) 25 (mD 2 zero32 mk [S [], S [], S ti, S no, S sg, .slice ac n cc, .int .i64 life, .int .i64 age, .bool false, .bool false]) ∧ Below w.heap.size w w0) ⟨by show row _ _ = _; simp [go_sem], by show row _ _ = _; simp [go_sem], by (repeat (first | (with_reducible exact Below.refl _ _) | ((with_reducible first | refine bSetRow ?_ ?_ _ | refine Below.alloc ?_ ?_ _ | refine Below.setCell ?_ ?_ _); rotate_left 1; (focus (first | (simp; done) | (simp; omega)))) | (with_reducible refine Below.drew ?_)))⟩ ?_
  rintro w0 ⟨hr, hr2, hB⟩
  have g65 : (mD 2 r mk [S ses, S sh, S ti, S no, S sg, .slice ac n cc, .int .i64 life, .int .i64 age, .bool true, .bool false])[65]? = some (S ses) := mD_65
  have g66 : (mD 2 r mk [S ses, S sh, S ti, S no, S sg, .slice ac n cc, .int .i64 life, .int .i64 age, .bool true, .bool false])[66]? = some (S sh) := mD_66
  have g73 : (mD 2 r mk [S ses, S sh, S ti, S no, S sg, .slice ac n cc, .int .i64 life, .int .i64 age, .bool true, .bool false])[73]? = some (.bool true) := mD_73
  have g74 : (mD 2 r mk [S ses, S sh, S ti, S no, S sg, .slice ac n cc, .int .i64 life, .int .i64 age, .bool true, .bool false])[74]? = some (.bool false) := mD_74
  have gR : sub (mD 2 r mk [S ses, S sh, S ti, S no, S sg, .slice ac n cc, .int .i64 life, .int .i64 age, .bool true, .bool false]) 1 32 = AB (fx r) := mD_R
  have gz : 1 + 32 ≤ (mD 2 r mk [S ses, S sh, S ti, S no, S sg, .slice ac n cc, .int .i64 life, .int .i64 age, .bool true, .bool false]).size := by rw [mD_sz]; decide
  have hrd := hr.drew
  have hr2d := hr2.drew
  (refine wp_region_freeD 44 [] [] shp (phi _ []) (by kernel_rfl) (by kernel_rfl) (by kernel_rfl) (phi_stab _ _) (phi_shp _ _) shp_inh ?_; simp only [List.take_succ_cons, List.take_zero, List.drop_succ_cons, List.drop_zero]; apply Exists.intro; apply Exists.intro; refine ⟨?_, ?_, ?_⟩)
  · intro ν hν
    (apply wpF_q rfl; focus (intro C hC hG; go_big_quiet_want; apply qf_loadR _ rfl _ rfl; (exact hC); assumption; (exact mD_sz); (simp only [Act.put, lS]; go_big_quiet_on); exact wpQuiet_nil rfl))
    (apply wpF_q rfl; focus (intro C hC hG; go_big_quiet_want; apply qf_call; (exact hC); (exact hG); (exact (fun w' _ _ => HBARE.out w')); (focus (intro w; simp [go_sem]; done)); (simp only [Act.put, lS]; go_big_quiet_on); exact wpQuiet_nil rfl))
    iterate 38 (apply wpF_q rfl; focus (intro C hC hG; (first | go_big_quiet_skip | (go_big_quiet_want; go_big_quiet_op; first | go_big_quiet_on | (refine ⟨_, fun _ _ => rfl, ?_⟩; go_big_quiet_on)) | (go_big_quiet_want; apply qf_load1 _ _ rfl _ _ rfl; (exact hC); rotate_left 1; (focus (intro _; simp [go_sem]; done)); rotate_right 1; assumption; assumption; (simp only [Act.put, lS]; go_big_quiet_on)) | (go_big_quiet_want; apply qf_loadA _ _ rfl _ _ rfl (sz := 32); (exact hC); rotate_left 1; (focus (intro _; simp [go_sem]; done)); (focus (intro _; simp [go_sem]; done)); rotate_right 1; assumption; assumption; assumption; (simp only [Act.put, lS]; go_big_quiet_on))); exact wpQuiet_nil rfl))
    (apply wpF_q rfl; focus (intro C hC hG; go_big_quiet_want; apply qf_call; (exact hC); (exact hG); (exact (fun w' _ _ => special_any w')); (focus (intro w; simp [go_sem]; done)); (simp only [Act.put, lS]; go_big_quiet_on); exact wpQuiet_nil rfl))
    iterate 3 (apply wpF_q rfl; focus (intro C hC hG; (first | go_big_quiet_skip | (go_big_quiet_want; go_big_quiet_op; first | go_big_quiet_on | (refine ⟨_, fun _ _ => rfl, ?_⟩; go_big_quiet_on)) | (go_big_quiet_want; apply qf_load1 _ _ rfl _ _ rfl; (exact hC); rotate_left 1; (focus (intro _; simp [go_sem]; done)); rotate_right 1; assumption; assumption; (simp only [Act.put, lS]; go_big_quiet_on)) | (go_big_quiet_want; apply qf_loadA _ _ rfl _ _ rfl (sz := 32); (exact hC); rotate_left 1; (focus (intro _; simp [go_sem]; done)); (focus (intro _; simp [go_sem]; done)); rotate_right 1; assumption; assumption; assumption; (simp only [Act.put, lS]; go_big_quiet_on))); exact wpQuiet_nil rfl))
    exact wpF_nil ⟨rfl, rfl⟩
  · intro ν ν'; kernel_rfl
  intro ν w1 hν hB1 hD
  have hr := Row.below hr.drew hB1 hr.lt
  have hr2 := Row.below hr2.drew hB1 hr2.lt
  have hB := Below.trans hB.drew (hB1.mono hB.drew.size)
  clear hD hν hB1
  try clear hrd
  try clear hr2d
  have hr1lt := hr.lt
  have hs1 := hB.size
  have HZ7 := Lib.hid (show (AB (fx r)).size = 32 from (AB_size _).trans (fx_len _))
  clear he2
  go_upto_region 24 with (refine wpl_storeA (.tmp 7) (.tmp 166) rfl rfl rfl _ rfl (fx r) rfl (fx_len _) _ _ (Row.new _ _ _) rfl ?_; simp only [Act.put]; refine gen_wplB (fun w0 => Row w0 w.heap.size 25 (mD 2 r mk [S ses, S sh, S ti, S no, S sg, .slice ac n cc, .int .i64 life, .int .i64 age, .bool true, .bool false]) ∧ Row w0 w1.heap.size 22 (AB (fx r)) ∧ Below w.heap.size w w0) ⟨(hr.alloc _).setRowOther _ _ (by omega), (Row.new _ _ _).setRow _, bSetRow (hB.alloc hB.size _) hB.size _⟩ ?_; clear hr hB; rintro w3 ⟨hr, hr7, hB⟩)
  (refine wp_region_seq 7 [] [] shp (phi _ []) (by kernel_rfl) (phi_stab _ _) (phi_shp _ _) shp_inh ?_; simp only [List.take_succ_cons, List.take_zero, List.drop_succ_cons, List.drop_zero]; apply Exists.intro; apply Exists.intro; refine ⟨?_, ?_, ?_⟩)
  · intro ν hν
    have HS' := HS.out
    have H65' := H65.out
    iterate 3 (apply wpF_q rfl; focus (intro C hC hG; (first | go_big_quiet_skip | (go_big_quiet_want; go_big_quiet_op; first | go_big_quiet_on | (refine ⟨_, fun _ _ => rfl, ?_⟩; go_big_quiet_on)) | (go_big_quiet_want; apply qf_load1 _ _ rfl _ _ rfl; (exact hC); rotate_left 1; (focus (intro _; simp [go_sem]; done)); rotate_right 1; assumption; assumption; (simp only [Act.put, lS]; go_big_quiet_on)) | (go_big_quiet_want; apply qf_loadA _ _ rfl _ _ rfl (sz := 32); (exact hC); rotate_left 1; (focus (intro _; simp [go_sem]; done)); (focus (intro _; simp [go_sem]; done)); rotate_right 1; assumption; assumption; assumption; (simp only [Act.put, lS]; go_big_quiet_on))); exact wpQuiet_nil rfl))
    (apply wpF_q rfl; focus (intro C hC hG; go_big_quiet_want; apply qf_call; (exact hC); (exact hG); (exact (fun w' _ _ => refvec_any sh 2 w' (by omega) (by decide))); (focus (intro w; simp [go_sem]; done)); (simp only [Act.put, lS]; go_big_quiet_on); exact wpQuiet_nil rfl))
    (apply wpF_q rfl; focus (intro C hC hG; go_big_quiet_want; apply qf_add hGroup (vecB sh 2) _ _ _ rfl rfl rfl; (focus (first | decide | (simp only [List.length_append, List.length_nil, List.length_cons, vecB_len, numB_len, fx_len, hLS]; omega))); (simp only [Act.put, lS]; go_big_quiet_on); exact wpQuiet_nil rfl))
    (apply wpF_q rfl; focus (intro C hC hG; go_big_quiet_want; apply qf_call; (exact hC); (exact hG); (exact (fun w' _ _ => refvec_any (hGroup ++ vecB sh 2) 2 w' (by simp only [List.length_append, vecB_len, numB_len, fx_len, List.length_nil, List.length_cons, hLS]; omega) (by decide))); (focus (intro w; simp [go_sem]; done)); (simp only [Act.put, lS]; go_big_quiet_on); exact wpQuiet_nil rfl))
    (apply wpF_q rfl; focus (intro C hC hG; go_big_quiet_want; apply qf_add (hChosen ++ hShare) (vecB (hGroup ++ vecB sh 2) 2) _ _ _ rfl rfl rfl; (focus (first | decide | (simp only [List.length_append, List.length_nil, List.length_cons, vecB_len, numB_len, fx_len, hLS]; omega))); (simp only [Act.put, lS]; go_big_quiet_on); exact wpQuiet_nil rfl))
    exact wpF_nil ⟨rfl, rfl⟩
  · intro ν ν'; kernel_rfl
  intro ν w4 hν hB1 hD
  have hr := Row.below hr hB1 hr.lt
  have hr7 := Row.below hr7 hB1 hr7.lt
  have hB := Below.trans hB (hB1.mono hB.size)
  clear hD hν hB1
  go_upto_region 26 with (fail)
  (refine wp_region_seq 2 [] [] shp (phi _ []) (by kernel_rfl) (phi_stab _ _) (phi_shp _ _) shp_inh ?_; simp only [List.take_succ_cons, List.take_zero, List.drop_succ_cons, List.drop_zero]; apply Exists.intro; apply Exists.intro; refine ⟨?_, ?_, ?_⟩)
  · intro ν hν
    have HS' := HS.out
    have H65' := H65.out
    (apply wpF_q rfl; focus (intro C hC hG; (first | go_big_quiet_skip | (go_big_quiet_want; go_big_quiet_op; first | go_big_quiet_on | (refine ⟨_, fun _ _ => rfl, ?_⟩; go_big_quiet_on)) | (go_big_quiet_want; apply qf_load1 _ _ rfl _ _ rfl; (exact hC); rotate_left 1; (focus (intro _; simp [go_sem]; done)); rotate_right 1; assumption; assumption; (simp only [Act.put, lS]; go_big_quiet_on)) | (go_big_quiet_want; apply qf_loadA _ _ rfl _ _ rfl (sz := 32); (exact hC); rotate_left 1; (focus (intro _; simp [go_sem]; done)); (focus (intro _; simp [go_sem]; done)); rotate_right 1; assumption; assumption; assumption; (simp only [Act.put, lS]; go_big_quiet_on))); exact wpQuiet_nil rfl))
    (apply wpF_q rfl; focus (intro C hC hG; go_big_quiet_want; apply qf_add ((hChosen ++ hShare) ++ vecB (hGroup ++ vecB sh 2) 2) (hPsk ++ hFirst) _ _ _ rfl rfl rfl; (focus (first | decide | (simp only [List.length_append, List.length_nil, List.length_cons, vecB_len, numB_len, fx_len, hLS]; omega))); (simp only [Act.put, lS]; go_big_quiet_on); exact wpQuiet_nil rfl))
    exact wpF_nil ⟨rfl, rfl⟩
  · intro ν ν'; kernel_rfl
  intro ν w5 hν hB1 hD
  have hr := Row.below hr hB1 hr.lt
  have hr7 := Row.below hr7 hB1 hr7.lt
  have hB := Below.trans hB (hB1.mono hB.size)
  clear hD hν hB1
  go_upto_region 27 with (fail)
  have hrd := hr.drew
  have hr7d := hr7.drew
  (refine wp_region_freeD 11 [] [] shp (phi _ []) (by kernel_rfl) (by kernel_rfl) (by kernel_rfl) (phi_stab _ _) (phi_shp _ _) shp_inh ?_; simp only [List.take_succ_cons, List.take_zero, List.drop_succ_cons, List.drop_zero]; apply Exists.intro; apply Exists.intro; refine ⟨?_, ?_, ?_⟩)
  · intro ν hν
    have HS' := HS.out
    have H65' := H65.out
    (apply wpF_q rfl; focus (intro C hC hG; (first | go_big_quiet_skip | (go_big_quiet_want; go_big_quiet_op; first | go_big_quiet_on | (refine ⟨_, fun _ _ => rfl, ?_⟩; go_big_quiet_on)) | (go_big_quiet_want; apply qf_load1 _ _ rfl _ _ rfl; (exact hC); rotate_left 1; (focus (intro _; simp [go_sem]; done)); rotate_right 1; assumption; assumption; (simp only [Act.put, lS]; go_big_quiet_on)) | (go_big_quiet_want; apply qf_loadA _ _ rfl _ _ rfl (sz := 32); (exact hC); rotate_left 1; (focus (intro _; simp [go_sem]; done)); (focus (intro _; simp [go_sem]; done)); rotate_right 1; assumption; assumption; assumption; (simp only [Act.put, lS]; go_big_quiet_on))); exact wpQuiet_nil rfl))
    (apply wpF_q rfl; focus (intro C hC hG; go_big_quiet_want; apply qf_conv; (focus rfl); (exact hC); (focus rfl); (exact Try.underlying27); (exact Try.underlying5); (exact Try.underlying9); (exact (fun w hB _ => (SlB.of_row hr7d (fx_len _) (by decide)).below hB)); (simp only [Act.put, lS]; go_big_quiet_on); exact wpQuiet_nil rfl))
    (apply wpF_q rfl; focus (intro C hC hG; go_big_quiet_want; apply qf_add hVersion (fx r) _ _ _ rfl rfl rfl; (focus (first | decide | (simp only [List.length_append, List.length_nil, List.length_cons, vecB_len, numB_len, fx_len, hLS]; omega))); (simp only [Act.put, lS]; go_big_quiet_on); exact wpQuiet_nil rfl))
    iterate 2 (apply wpF_q rfl; focus (intro C hC hG; (first | go_big_quiet_skip | (go_big_quiet_want; go_big_quiet_op; first | go_big_quiet_on | (refine ⟨_, fun _ _ => rfl, ?_⟩; go_big_quiet_on)) | (go_big_quiet_want; apply qf_load1 _ _ rfl _ _ rfl; (exact hC); rotate_left 1; (focus (intro _; simp [go_sem]; done)); rotate_right 1; assumption; assumption; (simp only [Act.put, lS]; go_big_quiet_on)) | (go_big_quiet_want; apply qf_loadA _ _ rfl _ _ rfl (sz := 32); (exact hC); rotate_left 1; (focus (intro _; simp [go_sem]; done)); (focus (intro _; simp [go_sem]; done)); rotate_right 1; assumption; assumption; assumption; (simp only [Act.put, lS]; go_big_quiet_on))); exact wpQuiet_nil rfl))
    (apply wpF_q rfl; focus (intro C hC hG; go_big_quiet_want; apply qf_call; (exact hC); (exact hG); (exact (fun w' _ _ => refvec_any ses 1 w' (by omega) (by decide))); (focus (intro w; simp [go_sem]; done)); (simp only [Act.put, lS]; go_big_quiet_on); exact wpQuiet_nil rfl))
    (apply wpF_q rfl; focus (intro C hC hG; go_big_quiet_want; apply qf_add (hVersion ++ (fx r)) (vecB ses 1) _ _ _ rfl rfl rfl; (focus (first | decide | (simp only [List.length_append, List.length_nil, List.length_cons, vecB_len, numB_len, fx_len, hLS]; omega))); (simp only [Act.put, lS]; go_big_quiet_on); exact wpQuiet_nil rfl))
    (apply wpF_q rfl; focus (intro C hC hG; go_big_quiet_want; apply qf_add (hVersion ++ (fx r) ++ vecB ses 1) hSuite _ _ _ rfl rfl rfl; (focus (first | decide | (simp only [List.length_append, List.length_nil, List.length_cons, vecB_len, numB_len, fx_len, hLS]; omega))); (simp only [Act.put, lS]; go_big_quiet_on); exact wpQuiet_nil rfl))
    (apply wpF_q rfl; focus (intro C hC hG; (first | go_big_quiet_skip | (go_big_quiet_want; go_big_quiet_op; first | go_big_quiet_on | (refine ⟨_, fun _ _ => rfl, ?_⟩; go_big_quiet_on)) | (go_big_quiet_want; apply qf_load1 _ _ rfl _ _ rfl; (exact hC); rotate_left 1; (focus (intro _; simp [go_sem]; done)); rotate_right 1; assumption; assumption; (simp only [Act.put, lS]; go_big_quiet_on)) | (go_big_quiet_want; apply qf_loadA _ _ rfl _ _ rfl (sz := 32); (exact hC); rotate_left 1; (focus (intro _; simp [go_sem]; done)); (focus (intro _; simp [go_sem]; done)); rotate_right 1; assumption; assumption; assumption; (simp only [Act.put, lS]; go_big_quiet_on))); exact wpQuiet_nil rfl))
    (apply wpF_q rfl; focus (intro C hC hG; go_big_quiet_want; apply qf_call; (exact hC); (exact hG); (exact (fun w' _ _ => refvec_any ((hChosen ++ hShare) ++ vecB (hGroup ++ vecB sh 2) 2 ++ (hPsk ++ hFirst)) 2 w' (by simp only [List.length_append, vecB_len, numB_len, fx_len, List.length_nil, List.length_cons, hLS]; omega) (by decide))); (focus (intro w; simp [go_sem]; done)); (simp only [Act.put, lS]; go_big_quiet_on); exact wpQuiet_nil rfl))
    (apply wpF_q rfl; focus (intro C hC hG; go_big_quiet_want; apply qf_add (hVersion ++ (fx r) ++ vecB ses 1 ++ hSuite) (vecB ((hChosen ++ hShare) ++ vecB (hGroup ++ vecB sh 2) 2 ++ (hPsk ++ hFirst)) 2) _ _ _ rfl rfl rfl; (focus (first | decide | (simp only [List.length_append, List.length_nil, List.length_cons, vecB_len, numB_len, fx_len, hLS]; omega))); (simp only [Act.put, lS]; go_big_quiet_on); exact wpQuiet_nil rfl))
    exact wpF_nil ⟨rfl, rfl⟩
  · intro ν ν'; kernel_rfl
  intro ν w6 hν hB1 hD
  have hr := Row.below hr.drew hB1 hr.lt
  have hr7 := Row.below hr7.drew hB1 hr7.lt
  have hB := Below.trans hB.drew (hB1.mono hB.drew.size)
  clear hD hν hB1
  try clear hrd
  try clear hr7d
  obtain ⟨RS, hRS⟩ : ∃ RS, RS = hVersion ++ fx r ++ vecB ses 1 ++ hSuite ++ vecB ((hChosen ++ hShare) ++ vecB (hGroup ++ vecB sh 2) 2 ++ (hPsk ++ hFirst)) 2 := ⟨_, rfl⟩
  rw [← hRS]
  have HRS := Lib.hid hRS
  clear hRS gR gz g65 g66 g73 g74 hr hr7 hr1lt hs1 y1 y2 y3
  go_wp2_with fail
  go_ret2
  exact ⟨congrArg (fun s => Ending.returned (Value.tuple #[S s, Value.bool true])) (by rw [HRS.out]; first | done | (simp only [List.append_assoc]; done) | simp), hB⟩
end Go.Proofs.Ytnenoecmmelehaa
