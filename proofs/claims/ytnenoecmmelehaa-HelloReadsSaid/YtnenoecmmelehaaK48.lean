/- Part of the proof: HGuessC. No conditions of its own. -/
import Derived.Below
import Derived.BigQuiet
import Derived.Deep.CutBlock
import Derived.Deep.DeepCutAuto
import Derived.Deep.Draws
import Derived.Deep.LoopGhost
import Derived.Deep.Quiet
import Derived.Deep.QuietTactic
import Derived.Deep.RegionLaw
import Derived.Great.BuildSlice
import Derived.Great.FillDense
import Derived.Laws.AppendOwn
import Derived.Laws.AppendOwnNone
import Derived.Laws.BytesArg
import Derived.Laws.Concat
import Derived.Laws.MakeOwn
import Derived.Lib.AppendZerosOnto
import Derived.Lib.BufferWrite
import Derived.Lib.Hide
import Derived.Lib.SlBytesConst
import Derived.StillTail
import Derived.Stop.BytesEq
import Derived.Test.YtnenoecmmelehaaProg
import Derived.WalkKit
import Derived.WalkLawsBesides
import Derived.WalkSpells
import Derived.Test.YtnenoecmmelehaaK21
import Derived.Test.YtnenoecmmelehaaK29
namespace Go.Proofs.Ytnenoecmmelehaa
open Go.RowKit
set_option linter.unusedVariables false
set_option linter.unusedSimpArgs false

set_option maxRecDepth 100000 in
set_option maxHeartbeats 4000000 in
theorem guess_w2a (b : List UInt8) (w : World) (hl : b.length ≤ 1000000) (hag : atP b 2 32 = hAgain) :
    Calls Try.prog 31 #[.int .i64 2, S b] w fun e w' => ∃ C, e = .returned (.agg C) ∧ RMsgAt w' C ({ emptyM 2 with session := atP b 35 (g_n b), retry := true }) ∧ Below w.heap.size w w' := by
  have m1 := fun ts t w => run_min_nat (getP b 34 1) 32 (g_n b) rfl _ 32 rfl rfl ts t w
  have u0 : g_n b ≤ 32 := Nat.min_le_right _ _
  have u1 : (0 : Int) ≤ (g_n b : Int) := by omega
  have u2 : (g_n b : Int) ≤ 32 := by omega
  clear u0
  have HAG := Lib.hid hag
  clear hag
  have HQ := Lib.hid (show g_n b ≤ 32 ∧ True ∧ True from ⟨Nat.min_le_right _ _, trivial, trivial⟩)
  go_enter Try.func31, Try.ntmps31
  go_upto_region 2 with (fail)
  obtain ⟨g5, hg5⟩ : ∃ g, g = w.heap.size + 1 := ⟨_, rfl⟩
  rw [← hg5]
  refine gen_wp (fun w0 => GSt w g5 w0 (mD 2 zero32 zero32 [Value.string ⟨#[]⟩, Value.string ⟨#[]⟩, Value.string ⟨#[]⟩, Value.string ⟨#[]⟩, Value.string ⟨#[]⟩, .slice none 0 0, Value.int .i64 0, Value.int .i64 0, Value.bool false, Value.bool false])) (GSt.start hg5) ?_
  clear hg5
  rintro w0 hP
  have hm := hP.msg
  have ha := hP.ans
  have n5 : w.heap.size ≠ g5 := by have := hP.lt; omega
  go_wp2_with fail
  refine gen_wpC (fun w0 => GSt w g5 w0 (mD 2 zero32 zero32 [Value.string ⟨#[]⟩, Value.string ⟨#[]⟩, Value.string ⟨#[]⟩, Value.string ⟨#[]⟩, Value.string ⟨#[]⟩, .slice none 0 0, Value.int .i64 0, Value.int .i64 0, Value.bool false, Value.bool false])) (hP) ?_
  clear hP hm ha
  rintro w0 hP
  refine (at_anyI b _ _ (2) (32) _ hl (by obtain ⟨q1, q2, q3⟩ := HQ.out; omega) (by obtain ⟨q1, q2, q3⟩ := HQ.out; omega) (by obtain ⟨q1, q2, q3⟩ := HQ.out; omega) (by obtain ⟨q1, q2, q3⟩ := HQ.out; omega)).mono ?_
  rintro e w1 ⟨rfl, hB⟩
  have hP := hP.call hB
  have hm := hP.msg
  have ha := hP.ans
  clear hB
  go_wp2_with fail
  refine gen_wpC (fun w0 => GSt w g5 w0 (mD 2 zero32 zero32 [Value.string ⟨#[]⟩, Value.string ⟨#[]⟩, Value.string ⟨#[]⟩, Value.string ⟨#[]⟩, Value.string ⟨#[]⟩, .slice none 0 0, Value.int .i64 0, Value.int .i64 0, Value.bool false, Value.bool false])) (hP) ?_
  clear hP hm ha
  rintro w0 hP
  refine (arr_any (atP b (2) (32)) (takeV_len _ _) _).mono ?_
  rintro e w1 ⟨rfl, hB⟩
  have hP := hP.call hB
  have hx32 := (AB_size (atP b (2) (32))).trans (takeV_len _ _)
  have hm := hP.msg
  have ha := hP.ans
  clear hB
  go_wp2_with fail
  refine gen_wpC (fun w0 => GSt w g5 w0 (mD 2 (atP b (2) (32)) zero32 [Value.string ⟨#[]⟩, Value.string ⟨#[]⟩, Value.string ⟨#[]⟩, Value.string ⟨#[]⟩, Value.string ⟨#[]⟩, .slice none 0 0, Value.int .i64 0, Value.int .i64 0, Value.bool false, Value.bool false])) ((hP).setR (by first | rfl | exact mD_oRa _ _ _ _ _ _)) ?_
  clear hP hm ha
  rintro w0 hP
  refine (get_anyI b _ _ (34) (1) _ hl (by obtain ⟨q1, q2, q3⟩ := HQ.out; omega) (by obtain ⟨q1, q2, q3⟩ := HQ.out; omega) (by obtain ⟨q1, q2, q3⟩ := HQ.out; omega) (by obtain ⟨q1, q2, q3⟩ := HQ.out; omega)).mono ?_
  rintro e w1 ⟨rfl, hB⟩
  have hP := hP.call hB
  have hm := hP.msg
  have ha := hP.ans
  clear hB
  go_wp2_with fail
  refine gen_wpC (fun w0 => GSt w g5 w0 (mD 2 (atP b (2) (32)) zero32 [Value.string ⟨#[]⟩, Value.string ⟨#[]⟩, Value.string ⟨#[]⟩, Value.string ⟨#[]⟩, Value.string ⟨#[]⟩, .slice none 0 0, Value.int .i64 0, Value.int .i64 0, Value.bool false, Value.bool false])) (hP) ?_
  clear hP hm ha
  rintro w0 hP
  refine (at_anyI b _ _ (35) (g_n b) _ hl (by obtain ⟨q1, q2, q3⟩ := HQ.out; omega) (by obtain ⟨q1, q2, q3⟩ := HQ.out; omega) (by obtain ⟨q1, q2, q3⟩ := HQ.out; omega) (by obtain ⟨q1, q2, q3⟩ := HQ.out; omega)).mono ?_
  rintro e w1 ⟨rfl, hB⟩
  have hP := hP.call hB
  have hm := hP.msg
  have ha := hP.ans
  clear hB
  go_upto_region 20 with (fail)
  refine gen_wp (fun w0 => GSt w g5 w0 (mD 2 (atP b (2) (32)) zero32 [S (atP b (35) (g_n b)), Value.string ⟨#[]⟩, Value.string ⟨#[]⟩, Value.string ⟨#[]⟩, Value.string ⟨#[]⟩, .slice none 0 0, Value.int .i64 0, Value.int .i64 0, Value.bool false, Value.bool false])) ((hP).set 65 _ mD_s65) ?_
  clear hP hm ha
  rintro w0 hP
  obtain ⟨C, hC⟩ : ∃ C, C = (mD 2 (atP b (2) (32)) zero32 [S (atP b (35) (g_n b)), Value.string ⟨#[]⟩, Value.string ⟨#[]⟩, Value.string ⟨#[]⟩, Value.string ⟨#[]⟩, .slice none 0 0, Value.int .i64 0, Value.int .i64 0, Value.bool false, Value.bool false]) := ⟨_, rfl⟩
  have gR : sub C 1 32 = AB (atP b 2 32) := by rw [hC, mD_R, fx_of (show (atP b 2 32).length = 32 from takeV_len _ _)]
  have z1 : 1 + 32 ≤ C.size := by rw [hC, mD_sz]; decide
  have hrd : Row w0.drew g5 25 C := hC ▸ hP.msg.drew
  (refine wp_region_freeD 3 [] [] shp (phi _ []) (by kernel_rfl) (by kernel_rfl) (by kernel_rfl) (phi_stab _ _) (phi_shp _ _) shp_inh ?_; simp only [List.take_succ_cons, List.take_zero, List.drop_succ_cons, List.drop_zero]; apply Exists.intro; apply Exists.intro; refine ⟨?_, ?_, ?_⟩)
  · intro ν hν
    iterate 2 (apply wpF_q rfl; focus (intro C hC hG; (first | go_big_quiet_skip | (go_big_quiet_want; go_big_quiet_op; first | go_big_quiet_on | (refine ⟨_, fun _ _ => rfl, ?_⟩; go_big_quiet_on)) | (go_big_quiet_want; apply qf_load1 _ _ rfl _ _ rfl; (exact hC); rotate_left 1; (focus (intro _; simp [go_sem]; done)); rotate_right 1; assumption; assumption; (simp only [Act.put, lS]; go_big_quiet_on)) | (go_big_quiet_want; apply qf_loadA _ _ rfl _ _ rfl (sz := 32); (exact hC); rotate_left 1; (focus (intro _; simp [go_sem]; done)); (focus (intro _; simp [go_sem]; done)); rotate_right 1; assumption; assumption; assumption; (simp only [Act.put, lS]; go_big_quiet_on))); exact wpQuiet_nil rfl))
    (apply wpF_q rfl; focus (intro C hC hG; go_big_quiet_want; apply qf_call; (exact hC); (exact hG); (exact (fun w' _ _ => special_any w')); (focus (intro w; simp [go_sem]; done)); (simp only [Act.put, lS]; go_big_quiet_on); exact wpQuiet_nil rfl))
    exact wpF_nil ⟨rfl, rfl⟩
  · intro ν ν'; kernel_rfl
  intro ν w1 hν hB1 hD
  have hP := hP.call (((Below.refl _ w0).drew).trans (hB1.mono (Nat.le_refl _)))
  have hm := hP.msg
  have ha := hP.ans
  clear hD hν hB1 hrd gR z1 hC C
  have he : ∀ w, (Op.equalIn 10000 22 (.agg (AB (atP b 2 32))) (.agg (AB hAgain))).run Try.prog w = .ok true w := fun w => by rw [equal32 _ _ (show (atP b 2 32).length = 32 from takeV_len _ _) rfl, beq_iff_eq.2 HAG.out]
  go_wp2_with fail
  have hF := GSt.fin (C := (mD 2 zero32 zero32 [S (atP b (35) (g_n b)), Value.string ⟨#[]⟩, Value.string ⟨#[]⟩, Value.string ⟨#[]⟩, Value.string ⟨#[]⟩, .slice none 0 0, Value.int .i64 0, Value.int .i64 0, Value.bool false, Value.bool true])) (((hP.setR (C0 := (mD 2 zero32 zero32 [S (atP b (35) (g_n b)), Value.string ⟨#[]⟩, Value.string ⟨#[]⟩, Value.string ⟨#[]⟩, Value.string ⟨#[]⟩, .slice none 0 0, Value.int .i64 0, Value.int .i64 0, Value.bool false, Value.bool false])) (C' := (mD 2 zero32 zero32 [S (atP b (35) (g_n b)), Value.string ⟨#[]⟩, Value.string ⟨#[]⟩, Value.string ⟨#[]⟩, Value.string ⟨#[]⟩, .slice none 0 0, Value.int .i64 0, Value.int .i64 0, Value.bool false, Value.bool false])) rfl)).set 74 _ mD_s74)
  exact ret_row (.inl rfl) rfl w.heap.size _ _ 75 _ rfl hF.1 Try.underlying25 rfl (by kernel_rfl) mD_sz ⟨_, rfl, ⟨none, 0, rfl, strs_nil _, rfl, rfl⟩, hF.2⟩
set_option maxRecDepth 100000 in
set_option maxHeartbeats 4000000 in
theorem guess_w2p (b : List UInt8) (w : World) (hl : b.length ≤ 1000000) (hag : atP b 2 32 ≠ hAgain) (hq : 50 + g_n b + 69 < b.length) :
    Calls Try.prog 31 #[.int .i64 2, S b] w fun e w' => ∃ C, e = .returned (.agg C) ∧ RMsgAt w' C ({ emptyM 2 with random := atP b 2 32, session := atP b 35 (g_n b), share := atP b (50 + g_n b + 4) 65, psk := true }) ∧ Below w.heap.size w w' := by
  have m1 := fun ts t w => run_min_nat (getP b 34 1) 32 (g_n b) rfl _ 32 rfl rfl ts t w
  have u0 : g_n b ≤ 32 := Nat.min_le_right _ _
  have u1 : (0 : Int) ≤ (g_n b : Int) := by omega
  have u2 : (g_n b : Int) ≤ 32 := by omega
  clear u0
  have HAG := Lib.hid hag
  clear hag
  have HQ := Lib.hid (show g_n b ≤ 32 ∧ True ∧ True from ⟨Nat.min_le_right _ _, trivial, trivial⟩)
  go_enter Try.func31, Try.ntmps31
  go_upto_region 2 with (fail)
  obtain ⟨g5, hg5⟩ : ∃ g, g = w.heap.size + 1 := ⟨_, rfl⟩
  rw [← hg5]
  refine gen_wp (fun w0 => GSt w g5 w0 (mD 2 zero32 zero32 [Value.string ⟨#[]⟩, Value.string ⟨#[]⟩, Value.string ⟨#[]⟩, Value.string ⟨#[]⟩, Value.string ⟨#[]⟩, .slice none 0 0, Value.int .i64 0, Value.int .i64 0, Value.bool false, Value.bool false])) (GSt.start hg5) ?_
  clear hg5
  rintro w0 hP
  have hm := hP.msg
  have ha := hP.ans
  have n5 : w.heap.size ≠ g5 := by have := hP.lt; omega
  go_wp2_with fail
  refine gen_wpC (fun w0 => GSt w g5 w0 (mD 2 zero32 zero32 [Value.string ⟨#[]⟩, Value.string ⟨#[]⟩, Value.string ⟨#[]⟩, Value.string ⟨#[]⟩, Value.string ⟨#[]⟩, .slice none 0 0, Value.int .i64 0, Value.int .i64 0, Value.bool false, Value.bool false])) (hP) ?_
  clear hP hm ha
  rintro w0 hP
  refine (at_anyI b _ _ (2) (32) _ hl (by obtain ⟨q1, q2, q3⟩ := HQ.out; omega) (by obtain ⟨q1, q2, q3⟩ := HQ.out; omega) (by obtain ⟨q1, q2, q3⟩ := HQ.out; omega) (by obtain ⟨q1, q2, q3⟩ := HQ.out; omega)).mono ?_
  rintro e w1 ⟨rfl, hB⟩
  have hP := hP.call hB
  have hm := hP.msg
  have ha := hP.ans
  clear hB
  go_wp2_with fail
  refine gen_wpC (fun w0 => GSt w g5 w0 (mD 2 zero32 zero32 [Value.string ⟨#[]⟩, Value.string ⟨#[]⟩, Value.string ⟨#[]⟩, Value.string ⟨#[]⟩, Value.string ⟨#[]⟩, .slice none 0 0, Value.int .i64 0, Value.int .i64 0, Value.bool false, Value.bool false])) (hP) ?_
  clear hP hm ha
  rintro w0 hP
  refine (arr_any (atP b (2) (32)) (takeV_len _ _) _).mono ?_
  rintro e w1 ⟨rfl, hB⟩
  have hP := hP.call hB
  have hx32 := (AB_size (atP b (2) (32))).trans (takeV_len _ _)
  have hm := hP.msg
  have ha := hP.ans
  clear hB
  go_wp2_with fail
  refine gen_wpC (fun w0 => GSt w g5 w0 (mD 2 (atP b (2) (32)) zero32 [Value.string ⟨#[]⟩, Value.string ⟨#[]⟩, Value.string ⟨#[]⟩, Value.string ⟨#[]⟩, Value.string ⟨#[]⟩, .slice none 0 0, Value.int .i64 0, Value.int .i64 0, Value.bool false, Value.bool false])) ((hP).setR (by first | rfl | exact mD_oRa _ _ _ _ _ _)) ?_
  clear hP hm ha
  rintro w0 hP
  refine (get_anyI b _ _ (34) (1) _ hl (by obtain ⟨q1, q2, q3⟩ := HQ.out; omega) (by obtain ⟨q1, q2, q3⟩ := HQ.out; omega) (by obtain ⟨q1, q2, q3⟩ := HQ.out; omega) (by obtain ⟨q1, q2, q3⟩ := HQ.out; omega)).mono ?_
  rintro e w1 ⟨rfl, hB⟩
  have hP := hP.call hB
  have hm := hP.msg
  have ha := hP.ans
  clear hB
  go_wp2_with fail
  refine gen_wpC (fun w0 => GSt w g5 w0 (mD 2 (atP b (2) (32)) zero32 [Value.string ⟨#[]⟩, Value.string ⟨#[]⟩, Value.string ⟨#[]⟩, Value.string ⟨#[]⟩, Value.string ⟨#[]⟩, .slice none 0 0, Value.int .i64 0, Value.int .i64 0, Value.bool false, Value.bool false])) (hP) ?_
  clear hP hm ha
  rintro w0 hP
  refine (at_anyI b _ _ (35) (g_n b) _ hl (by obtain ⟨q1, q2, q3⟩ := HQ.out; omega) (by obtain ⟨q1, q2, q3⟩ := HQ.out; omega) (by obtain ⟨q1, q2, q3⟩ := HQ.out; omega) (by obtain ⟨q1, q2, q3⟩ := HQ.out; omega)).mono ?_
  rintro e w1 ⟨rfl, hB⟩
  have hP := hP.call hB
  have hm := hP.msg
  have ha := hP.ans
  clear hB
  go_upto_region 20 with (fail)
  refine gen_wp (fun w0 => GSt w g5 w0 (mD 2 (atP b (2) (32)) zero32 [S (atP b (35) (g_n b)), Value.string ⟨#[]⟩, Value.string ⟨#[]⟩, Value.string ⟨#[]⟩, Value.string ⟨#[]⟩, .slice none 0 0, Value.int .i64 0, Value.int .i64 0, Value.bool false, Value.bool false])) ((hP).set 65 _ mD_s65) ?_
  clear hP hm ha
  rintro w0 hP
  obtain ⟨C, hC⟩ : ∃ C, C = (mD 2 (atP b (2) (32)) zero32 [S (atP b (35) (g_n b)), Value.string ⟨#[]⟩, Value.string ⟨#[]⟩, Value.string ⟨#[]⟩, Value.string ⟨#[]⟩, .slice none 0 0, Value.int .i64 0, Value.int .i64 0, Value.bool false, Value.bool false]) := ⟨_, rfl⟩
  have gR : sub C 1 32 = AB (atP b 2 32) := by rw [hC, mD_R, fx_of (show (atP b 2 32).length = 32 from takeV_len _ _)]
  have z1 : 1 + 32 ≤ C.size := by rw [hC, mD_sz]; decide
  have hrd : Row w0.drew g5 25 C := hC ▸ hP.msg.drew
  (refine wp_region_freeD 3 [] [] shp (phi _ []) (by kernel_rfl) (by kernel_rfl) (by kernel_rfl) (phi_stab _ _) (phi_shp _ _) shp_inh ?_; simp only [List.take_succ_cons, List.take_zero, List.drop_succ_cons, List.drop_zero]; apply Exists.intro; apply Exists.intro; refine ⟨?_, ?_, ?_⟩)
  · intro ν hν
    iterate 2 (apply wpF_q rfl; focus (intro C hC hG; (first | go_big_quiet_skip | (go_big_quiet_want; go_big_quiet_op; first | go_big_quiet_on | (refine ⟨_, fun _ _ => rfl, ?_⟩; go_big_quiet_on)) | (go_big_quiet_want; apply qf_load1 _ _ rfl _ _ rfl; (exact hC); rotate_left 1; (focus (intro _; simp [go_sem]; done)); rotate_right 1; assumption; assumption; (simp only [Act.put, lS]; go_big_quiet_on)) | (go_big_quiet_want; apply qf_loadA _ _ rfl _ _ rfl (sz := 32); (exact hC); rotate_left 1; (focus (intro _; simp [go_sem]; done)); (focus (intro _; simp [go_sem]; done)); rotate_right 1; assumption; assumption; assumption; (simp only [Act.put, lS]; go_big_quiet_on))); exact wpQuiet_nil rfl))
    (apply wpF_q rfl; focus (intro C hC hG; go_big_quiet_want; apply qf_call; (exact hC); (exact hG); (exact (fun w' _ _ => special_any w')); (focus (intro w; simp [go_sem]; done)); (simp only [Act.put, lS]; go_big_quiet_on); exact wpQuiet_nil rfl))
    exact wpF_nil ⟨rfl, rfl⟩
  · intro ν ν'; kernel_rfl
  intro ν w1 hν hB1 hD
  have hP := hP.call (((Below.refl _ w0).drew).trans (hB1.mono (Nat.le_refl _)))
  have hm := hP.msg
  have ha := hP.ans
  clear hD hν hB1 hrd gR z1 hC C
  have he : ∀ w, (Op.equalIn 10000 22 (.agg (AB (atP b 2 32))) (.agg (AB hAgain))).run Try.prog w = .ok false w := fun w => by rw [equal32 _ _ (show (atP b 2 32).length = 32 from takeV_len _ _) rfl, beq_false_of_ne HAG.out]
  go_wp2_with fail
  refine gen_wpC (fun w0 => GSt w g5 w0 (mD 2 (atP b (2) (32)) zero32 [S (atP b (35) (g_n b)), Value.string ⟨#[]⟩, Value.string ⟨#[]⟩, Value.string ⟨#[]⟩, Value.string ⟨#[]⟩, .slice none 0 0, Value.int .i64 0, Value.int .i64 0, Value.bool false, Value.bool false])) (hP) ?_
  clear hP hm ha
  rintro w0 hP
  refine (at_anyI b _ _ (50 + g_n b + 4) (65) _ hl (by obtain ⟨q1, q2, q3⟩ := HQ.out; omega) (by obtain ⟨q1, q2, q3⟩ := HQ.out; omega) (by obtain ⟨q1, q2, q3⟩ := HQ.out; omega) (by obtain ⟨q1, q2, q3⟩ := HQ.out; omega)).mono ?_
  rintro e w1 ⟨rfl, hB⟩
  have hP := hP.call hB
  have hm := hP.msg
  have ha := hP.ans
  clear hB
  have xq : decide ((35 : Int) + (g_n b : Int) + 3 + 2 + 6 + 4 + 69 < (b.length : Int)) = true := by rw [decide_eq_true_eq]; omega
  clear hq
  go_wp2_with fail
  have hF := GSt.fin (C := (mD 2 (atP b (2) (32)) zero32 [S (atP b (35) (g_n b)), S (atP b (50 + g_n b + 4) (65)), Value.string ⟨#[]⟩, Value.string ⟨#[]⟩, Value.string ⟨#[]⟩, .slice none 0 0, Value.int .i64 0, Value.int .i64 0, Value.bool true, Value.bool false])) (((hP).set 66 _ mD_s66).set 73 _ mD_s73)
  exact ret_row (.inl rfl) rfl w.heap.size _ _ 75 _ rfl hF.1 Try.underlying25 rfl (by kernel_rfl) mD_sz ⟨_, rfl, ⟨none, 0, rfl, strs_nil _, takeV_len _ _, rfl⟩, hF.2⟩
set_option maxRecDepth 100000 in
set_option maxHeartbeats 4000000 in
theorem guess_w2n (b : List UInt8) (w : World) (hl : b.length ≤ 1000000) (hag : atP b 2 32 ≠ hAgain) (hq : ¬ 50 + g_n b + 69 < b.length) :
    Calls Try.prog 31 #[.int .i64 2, S b] w fun e w' => ∃ C, e = .returned (.agg C) ∧ RMsgAt w' C ({ emptyM 2 with random := atP b 2 32, session := atP b 35 (g_n b), share := atP b (50 + g_n b + 4) 65, psk := false }) ∧ Below w.heap.size w w' := by
  have m1 := fun ts t w => run_min_nat (getP b 34 1) 32 (g_n b) rfl _ 32 rfl rfl ts t w
  have u0 : g_n b ≤ 32 := Nat.min_le_right _ _
  have u1 : (0 : Int) ≤ (g_n b : Int) := by omega
  have u2 : (g_n b : Int) ≤ 32 := by omega
  clear u0
  have HAG := Lib.hid hag
  clear hag
  have HQ := Lib.hid (show g_n b ≤ 32 ∧ True ∧ True from ⟨Nat.min_le_right _ _, trivial, trivial⟩)
  go_enter Try.func31, Try.ntmps31
  go_upto_region 2 with (fail)
  obtain ⟨g5, hg5⟩ : ∃ g, g = w.heap.size + 1 := ⟨_, rfl⟩
  rw [← hg5]
  refine gen_wp (fun w0 => GSt w g5 w0 (mD 2 zero32 zero32 [Value.string ⟨#[]⟩, Value.string ⟨#[]⟩, Value.string ⟨#[]⟩, Value.string ⟨#[]⟩, Value.string ⟨#[]⟩, .slice none 0 0, Value.int .i64 0, Value.int .i64 0, Value.bool false, Value.bool false])) (GSt.start hg5) ?_
  clear hg5
  rintro w0 hP
  have hm := hP.msg
  have ha := hP.ans
  have n5 : w.heap.size ≠ g5 := by have := hP.lt; omega
  go_wp2_with fail
  refine gen_wpC (fun w0 => GSt w g5 w0 (mD 2 zero32 zero32 [Value.string ⟨#[]⟩, Value.string ⟨#[]⟩, Value.string ⟨#[]⟩, Value.string ⟨#[]⟩, Value.string ⟨#[]⟩, .slice none 0 0, Value.int .i64 0, Value.int .i64 0, Value.bool false, Value.bool false])) (hP) ?_
  clear hP hm ha
  rintro w0 hP
  refine (at_anyI b _ _ (2) (32) _ hl (by obtain ⟨q1, q2, q3⟩ := HQ.out; omega) (by obtain ⟨q1, q2, q3⟩ := HQ.out; omega) (by obtain ⟨q1, q2, q3⟩ := HQ.out; omega) (by obtain ⟨q1, q2, q3⟩ := HQ.out; omega)).mono ?_
  rintro e w1 ⟨rfl, hB⟩
  have hP := hP.call hB
  have hm := hP.msg
  have ha := hP.ans
  clear hB
  go_wp2_with fail
  refine gen_wpC (fun w0 => GSt w g5 w0 (mD 2 zero32 zero32 [Value.string ⟨#[]⟩, Value.string ⟨#[]⟩, Value.string ⟨#[]⟩, Value.string ⟨#[]⟩, Value.string ⟨#[]⟩, .slice none 0 0, Value.int .i64 0, Value.int .i64 0, Value.bool false, Value.bool false])) (hP) ?_
  clear hP hm ha
  rintro w0 hP
  refine (arr_any (atP b (2) (32)) (takeV_len _ _) _).mono ?_
  rintro e w1 ⟨rfl, hB⟩
  have hP := hP.call hB
  have hx32 := (AB_size (atP b (2) (32))).trans (takeV_len _ _)
  have hm := hP.msg
  have ha := hP.ans
  clear hB
  go_wp2_with fail
  refine gen_wpC (fun w0 => GSt w g5 w0 (mD 2 (atP b (2) (32)) zero32 [Value.string ⟨#[]⟩, Value.string ⟨#[]⟩, Value.string ⟨#[]⟩, Value.string ⟨#[]⟩, Value.string ⟨#[]⟩, .slice none 0 0, Value.int .i64 0, Value.int .i64 0, Value.bool false, Value.bool false])) ((hP).setR (by first | rfl | exact mD_oRa _ _ _ _ _ _)) ?_
  clear hP hm ha
  rintro w0 hP
  refine (get_anyI b _ _ (34) (1) _ hl (by obtain ⟨q1, q2, q3⟩ := HQ.out; omega) (by obtain ⟨q1, q2, q3⟩ := HQ.out; omega) (by obtain ⟨q1, q2, q3⟩ := HQ.out; omega) (by obtain ⟨q1, q2, q3⟩ := HQ.out; omega)).mono ?_
  rintro e w1 ⟨rfl, hB⟩
  have hP := hP.call hB
  have hm := hP.msg
  have ha := hP.ans
  clear hB
  go_wp2_with fail
  refine gen_wpC (fun w0 => GSt w g5 w0 (mD 2 (atP b (2) (32)) zero32 [Value.string ⟨#[]⟩, Value.string ⟨#[]⟩, Value.string ⟨#[]⟩, Value.string ⟨#[]⟩, Value.string ⟨#[]⟩, .slice none 0 0, Value.int .i64 0, Value.int .i64 0, Value.bool false, Value.bool false])) (hP) ?_
  clear hP hm ha
  rintro w0 hP
  refine (at_anyI b _ _ (35) (g_n b) _ hl (by obtain ⟨q1, q2, q3⟩ := HQ.out; omega) (by obtain ⟨q1, q2, q3⟩ := HQ.out; omega) (by obtain ⟨q1, q2, q3⟩ := HQ.out; omega) (by obtain ⟨q1, q2, q3⟩ := HQ.out; omega)).mono ?_
  rintro e w1 ⟨rfl, hB⟩
  have hP := hP.call hB
  have hm := hP.msg
  have ha := hP.ans
  clear hB
  go_upto_region 20 with (fail)
  refine gen_wp (fun w0 => GSt w g5 w0 (mD 2 (atP b (2) (32)) zero32 [S (atP b (35) (g_n b)), Value.string ⟨#[]⟩, Value.string ⟨#[]⟩, Value.string ⟨#[]⟩, Value.string ⟨#[]⟩, .slice none 0 0, Value.int .i64 0, Value.int .i64 0, Value.bool false, Value.bool false])) ((hP).set 65 _ mD_s65) ?_
  clear hP hm ha
  rintro w0 hP
  obtain ⟨C, hC⟩ : ∃ C, C = (mD 2 (atP b (2) (32)) zero32 [S (atP b (35) (g_n b)), Value.string ⟨#[]⟩, Value.string ⟨#[]⟩, Value.string ⟨#[]⟩, Value.string ⟨#[]⟩, .slice none 0 0, Value.int .i64 0, Value.int .i64 0, Value.bool false, Value.bool false]) := ⟨_, rfl⟩
  have gR : sub C 1 32 = AB (atP b 2 32) := by rw [hC, mD_R, fx_of (show (atP b 2 32).length = 32 from takeV_len _ _)]
  have z1 : 1 + 32 ≤ C.size := by rw [hC, mD_sz]; decide
  have hrd : Row w0.drew g5 25 C := hC ▸ hP.msg.drew
  (refine wp_region_freeD 3 [] [] shp (phi _ []) (by kernel_rfl) (by kernel_rfl) (by kernel_rfl) (phi_stab _ _) (phi_shp _ _) shp_inh ?_; simp only [List.take_succ_cons, List.take_zero, List.drop_succ_cons, List.drop_zero]; apply Exists.intro; apply Exists.intro; refine ⟨?_, ?_, ?_⟩)
  · intro ν hν
    iterate 2 (apply wpF_q rfl; focus (intro C hC hG; (first | go_big_quiet_skip | (go_big_quiet_want; go_big_quiet_op; first | go_big_quiet_on | (refine ⟨_, fun _ _ => rfl, ?_⟩; go_big_quiet_on)) | (go_big_quiet_want; apply qf_load1 _ _ rfl _ _ rfl; (exact hC); rotate_left 1; (focus (intro _; simp [go_sem]; done)); rotate_right 1; assumption; assumption; (simp only [Act.put, lS]; go_big_quiet_on)) | (go_big_quiet_want; apply qf_loadA _ _ rfl _ _ rfl (sz := 32); (exact hC); rotate_left 1; (focus (intro _; simp [go_sem]; done)); (focus (intro _; simp [go_sem]; done)); rotate_right 1; assumption; assumption; assumption; (simp only [Act.put, lS]; go_big_quiet_on))); exact wpQuiet_nil rfl))
    (apply wpF_q rfl; focus (intro C hC hG; go_big_quiet_want; apply qf_call; (exact hC); (exact hG); (exact (fun w' _ _ => special_any w')); (focus (intro w; simp [go_sem]; done)); (simp only [Act.put, lS]; go_big_quiet_on); exact wpQuiet_nil rfl))
    exact wpF_nil ⟨rfl, rfl⟩
  · intro ν ν'; kernel_rfl
  intro ν w1 hν hB1 hD
  have hP := hP.call (((Below.refl _ w0).drew).trans (hB1.mono (Nat.le_refl _)))
  have hm := hP.msg
  have ha := hP.ans
  clear hD hν hB1 hrd gR z1 hC C
  have he : ∀ w, (Op.equalIn 10000 22 (.agg (AB (atP b 2 32))) (.agg (AB hAgain))).run Try.prog w = .ok false w := fun w => by rw [equal32 _ _ (show (atP b 2 32).length = 32 from takeV_len _ _) rfl, beq_false_of_ne HAG.out]
  go_wp2_with fail
  refine gen_wpC (fun w0 => GSt w g5 w0 (mD 2 (atP b (2) (32)) zero32 [S (atP b (35) (g_n b)), Value.string ⟨#[]⟩, Value.string ⟨#[]⟩, Value.string ⟨#[]⟩, Value.string ⟨#[]⟩, .slice none 0 0, Value.int .i64 0, Value.int .i64 0, Value.bool false, Value.bool false])) (hP) ?_
  clear hP hm ha
  rintro w0 hP
  refine (at_anyI b _ _ (50 + g_n b + 4) (65) _ hl (by obtain ⟨q1, q2, q3⟩ := HQ.out; omega) (by obtain ⟨q1, q2, q3⟩ := HQ.out; omega) (by obtain ⟨q1, q2, q3⟩ := HQ.out; omega) (by obtain ⟨q1, q2, q3⟩ := HQ.out; omega)).mono ?_
  rintro e w1 ⟨rfl, hB⟩
  have hP := hP.call hB
  have hm := hP.msg
  have ha := hP.ans
  clear hB
  have xq : decide ((35 : Int) + (g_n b : Int) + 3 + 2 + 6 + 4 + 69 < (b.length : Int)) = false := by rw [decide_eq_false_iff_not]; omega
  clear hq
  go_wp2_with fail
  have hF := GSt.fin (C := (mD 2 (atP b (2) (32)) zero32 [S (atP b (35) (g_n b)), S (atP b (50 + g_n b + 4) (65)), Value.string ⟨#[]⟩, Value.string ⟨#[]⟩, Value.string ⟨#[]⟩, .slice none 0 0, Value.int .i64 0, Value.int .i64 0, Value.bool false, Value.bool false])) (((hP).set 66 _ mD_s66).set 73 _ mD_s73)
  exact ret_row (.inl rfl) rfl w.heap.size _ _ 75 _ rfl hF.1 Try.underlying25 rfl (by kernel_rfl) mD_sz ⟨_, rfl, ⟨none, 0, rfl, strs_nil _, takeV_len _ _, rfl⟩, hF.2⟩
end Go.Proofs.Ytnenoecmmelehaa
