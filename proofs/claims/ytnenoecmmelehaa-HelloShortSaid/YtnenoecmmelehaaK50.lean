/- Part of the proof: HGuessE, HGuessF. No conditions of its own. -/
import Derived.Below
import Derived.BigQuiet
import Derived.Deep.CutBlock
import Derived.Deep.DeepCutAuto
import Derived.Deep.Draws
import Derived.Deep.LoopGhost
import Derived.Deep.Quiet
import Derived.Deep.QuietTactic
import Derived.Deep.RegionLaw
import Derived.Great.BuildSlice
import Derived.Great.FillDense
import Derived.Laws.AppendOwn
import Derived.Laws.AppendOwnNone
import Derived.Laws.BytesArg
import Derived.Laws.Concat
import Derived.Laws.MakeOwn
import Derived.Lib.AppendZerosOnto
import Derived.Lib.BufferWrite
import Derived.Lib.Hide
import Derived.Lib.SlBytesConst
import Derived.StillTail
import Derived.Stop.BytesEq
import Derived.Test.YtnenoecmmelehaaProg
import Derived.WalkKit
import Derived.WalkLawsBesides
import Derived.WalkSpells
import Derived.Test.YtnenoecmmelehaaK29
import Derived.ChangeOld
import Derived.Lib.ConvBytes
import Derived.OpenShut
import Derived.ProofKit
import Derived.ShutString
import Derived.Test.YtnenoecmmelehaaK45
namespace Go.Proofs.Ytnenoecmmelehaa
open Go.RowKit
set_option linter.unusedVariables false
set_option linter.unusedSimpArgs false

set_option maxRecDepth 100000 in
set_option maxHeartbeats 4000000 in
theorem guess_w1np (b : List UInt8) (w : World) (hl : b.length ≤ 1000000) (hs : ¬ 0 < getP b (g_p b - 2) 2) (hq : g_q b < b.length) :
    Calls Try.prog 31 #[.int .i64 1, S b] w fun e w' => ∃ C, e = .returned (.agg C) ∧ RMsgAt w' C ({ emptyM 1 with random := atP b 2 32, session := atP b 35 (g_n b), share := [], psk := true, ticket := atP b (g_q b + 14) (g_t b), age := (getP b (g_q b + 14 + g_t b) 4 : Int), mark := atP b (g_q b + 14 + g_t b + 7) 32 }) ∧ Below w.heap.size w w' := by
  have m1 := fun ts t w => run_min_nat (getP b 34 1) 32 (g_n b) rfl _ 32 rfl rfl ts t w
  have u0 : g_n b ≤ 32 := Nat.min_le_right _ _
  have u1 : (0 : Int) ≤ (g_n b : Int) := by omega
  have u2 : (g_n b : Int) ≤ 32 := by omega
  have m2 := fun ts t w => run_min_nat (getP b (g_q b + 12) 2) 1000 (g_t b) rfl _ 1000 rfl rfl ts t w
  have HH := Lib.hid (⟨hs, hq⟩ : _ ∧ _)
  have p1 : g_p b = 72 + g_n b := rfl
  have p2 : g_q b = g_p b := by unfold g_q; rw [if_neg hs]
  have z1 : ¬ (0 : Int) < (getP b (g_p b - 2) 2 : Int) := by omega
  have z2 : decide ((35 : Int) + (g_n b : Int) + 6 + 2 + 7 + 8 + 8 + 6 < (b.length : Int)) = true := by rw [decide_eq_true_eq]; omega
  have u3 : g_t b ≤ 1000 := Nat.min_le_right _ _
  have u4 : (0 : Int) ≤ (g_t b : Int) := by omega
  have u5 : (g_t b : Int) ≤ 1000 := by omega
  have HQ := Lib.hid (show g_p b = 72 + g_n b ∧ g_q b = g_p b ∧ g_n b ≤ 32 ∧ g_t b ≤ 1000 from ⟨p1, p2, u0, u3⟩)
  clear p1 p2 u0 u3 hs hq
  go_enter Try.func31, Try.ntmps31
  go_upto_region 2 with (fail)
  obtain ⟨g5, hg5⟩ : ∃ g, g = w.heap.size + 1 := ⟨_, rfl⟩
  rw [← hg5]
  refine gen_wp (fun w0 => GSt w g5 w0 (mD 1 zero32 zero32 [Value.string ⟨#[]⟩, Value.string ⟨#[]⟩, Value.string ⟨#[]⟩, Value.string ⟨#[]⟩, Value.string ⟨#[]⟩, .slice none 0 0, Value.int .i64 0, Value.int .i64 0, Value.bool false, Value.bool false])) (GSt.start hg5) ?_
  clear hg5
  rintro w0 hP
  have hm := hP.msg
  have ha := hP.ans
  have n5 : w.heap.size ≠ g5 := by have := hP.lt; omega
  go_wp2_with fail
  refine gen_wpC (fun w0 => GSt w g5 w0 (mD 1 zero32 zero32 [Value.string ⟨#[]⟩, Value.string ⟨#[]⟩, Value.string ⟨#[]⟩, Value.string ⟨#[]⟩, Value.string ⟨#[]⟩, .slice none 0 0, Value.int .i64 0, Value.int .i64 0, Value.bool false, Value.bool false])) (hP) ?_
  clear hP hm ha
  rintro w0 hP
  refine (at_anyI b _ _ (2) (32) _ hl (by obtain ⟨q1, q2, q3, q4⟩ := HQ.out; omega) (by obtain ⟨q1, q2, q3, q4⟩ := HQ.out; omega) (by obtain ⟨q1, q2, q3, q4⟩ := HQ.out; omega) (by obtain ⟨q1, q2, q3, q4⟩ := HQ.out; omega)).mono ?_
  rintro e w1 ⟨rfl, hB⟩
  have hP := hP.call hB
  have hm := hP.msg
  have ha := hP.ans
  clear hB
  go_wp2_with fail
  refine gen_wpC (fun w0 => GSt w g5 w0 (mD 1 zero32 zero32 [Value.string ⟨#[]⟩, Value.string ⟨#[]⟩, Value.string ⟨#[]⟩, Value.string ⟨#[]⟩, Value.string ⟨#[]⟩, .slice none 0 0, Value.int .i64 0, Value.int .i64 0, Value.bool false, Value.bool false])) (hP) ?_
  clear hP hm ha
  rintro w0 hP
  refine (arr_any (atP b (2) (32)) (takeV_len _ _) _).mono ?_
  rintro e w1 ⟨rfl, hB⟩
  have hP := hP.call hB
  have hx32 := (AB_size (atP b (2) (32))).trans (takeV_len _ _)
  have hm := hP.msg
  have ha := hP.ans
  clear hB
  go_wp2_with fail
  refine gen_wpC (fun w0 => GSt w g5 w0 (mD 1 (atP b (2) (32)) zero32 [Value.string ⟨#[]⟩, Value.string ⟨#[]⟩, Value.string ⟨#[]⟩, Value.string ⟨#[]⟩, Value.string ⟨#[]⟩, .slice none 0 0, Value.int .i64 0, Value.int .i64 0, Value.bool false, Value.bool false])) ((hP).setR (C0 := (mD 1 (atP b (2) (32)) zero32 [Value.string ⟨#[]⟩, Value.string ⟨#[]⟩, Value.string ⟨#[]⟩, Value.string ⟨#[]⟩, Value.string ⟨#[]⟩, .slice none 0 0, Value.int .i64 0, Value.int .i64 0, Value.bool false, Value.bool false])) (C' := (mD 1 (atP b (2) (32)) zero32 [Value.string ⟨#[]⟩, Value.string ⟨#[]⟩, Value.string ⟨#[]⟩, Value.string ⟨#[]⟩, Value.string ⟨#[]⟩, .slice none 0 0, Value.int .i64 0, Value.int .i64 0, Value.bool false, Value.bool false])) rfl) ?_
  clear hP hm ha
  rintro w0 hP
  refine (get_anyI b _ _ (34) (1) _ hl (by obtain ⟨q1, q2, q3, q4⟩ := HQ.out; omega) (by obtain ⟨q1, q2, q3, q4⟩ := HQ.out; omega) (by obtain ⟨q1, q2, q3, q4⟩ := HQ.out; omega) (by obtain ⟨q1, q2, q3, q4⟩ := HQ.out; omega)).mono ?_
  rintro e w1 ⟨rfl, hB⟩
  have hP := hP.call hB
  have hm := hP.msg
  have ha := hP.ans
  clear hB
  go_wp2_with fail
  refine gen_wpC (fun w0 => GSt w g5 w0 (mD 1 (atP b (2) (32)) zero32 [Value.string ⟨#[]⟩, Value.string ⟨#[]⟩, Value.string ⟨#[]⟩, Value.string ⟨#[]⟩, Value.string ⟨#[]⟩, .slice none 0 0, Value.int .i64 0, Value.int .i64 0, Value.bool false, Value.bool false])) (hP) ?_
  clear hP hm ha
  rintro w0 hP
  refine (at_anyI b _ _ (35) (g_n b) _ hl (by obtain ⟨q1, q2, q3, q4⟩ := HQ.out; omega) (by obtain ⟨q1, q2, q3, q4⟩ := HQ.out; omega) (by obtain ⟨q1, q2, q3, q4⟩ := HQ.out; omega) (by obtain ⟨q1, q2, q3, q4⟩ := HQ.out; omega)).mono ?_
  rintro e w1 ⟨rfl, hB⟩
  have hP := hP.call hB
  have hm := hP.msg
  have ha := hP.ans
  clear hB
  go_wp2_with fail
  refine gen_wpC (fun w0 => GSt w g5 w0 (mD 1 (atP b (2) (32)) zero32 [S (atP b (35) (g_n b)), Value.string ⟨#[]⟩, Value.string ⟨#[]⟩, Value.string ⟨#[]⟩, Value.string ⟨#[]⟩, .slice none 0 0, Value.int .i64 0, Value.int .i64 0, Value.bool false, Value.bool false])) ((hP).set 65 (S (atP b (35) (g_n b))) mD_s65) ?_
  clear hP hm ha
  rintro w0 hP
  refine (get_anyI b _ _ (g_p b - 2) (2) _ hl (by obtain ⟨q1, q2, q3, q4⟩ := HQ.out; omega) (by obtain ⟨q1, q2, q3, q4⟩ := HQ.out; omega) (by obtain ⟨q1, q2, q3, q4⟩ := HQ.out; omega) (by obtain ⟨q1, q2, q3, q4⟩ := HQ.out; omega)).mono ?_
  rintro e w1 ⟨rfl, hB⟩
  have hP := hP.call hB
  have hm := hP.msg
  have ha := hP.ans
  clear hB
  go_wp2_with fail
  refine gen_wpC (fun w0 => GSt w g5 w0 (mD 1 (atP b (2) (32)) zero32 [S (atP b (35) (g_n b)), Value.string ⟨#[]⟩, Value.string ⟨#[]⟩, Value.string ⟨#[]⟩, Value.string ⟨#[]⟩, .slice none 0 0, Value.int .i64 0, Value.int .i64 0, Value.bool true, Value.bool false])) ((hP).set 73 (Value.bool true) mD_s73) ?_
  clear hP hm ha
  rintro w0 hP
  refine (get_anyI b _ _ (g_q b + 12) (2) _ hl (by obtain ⟨q1, q2, q3, q4⟩ := HQ.out; omega) (by obtain ⟨q1, q2, q3, q4⟩ := HQ.out; omega) (by obtain ⟨q1, q2, q3, q4⟩ := HQ.out; omega) (by obtain ⟨q1, q2, q3, q4⟩ := HQ.out; omega)).mono ?_
  rintro e w1 ⟨rfl, hB⟩
  have hP := hP.call hB
  have hm := hP.msg
  have ha := hP.ans
  clear hB
  go_wp2_with fail
  refine gen_wpC (fun w0 => GSt w g5 w0 (mD 1 (atP b (2) (32)) zero32 [S (atP b (35) (g_n b)), Value.string ⟨#[]⟩, Value.string ⟨#[]⟩, Value.string ⟨#[]⟩, Value.string ⟨#[]⟩, .slice none 0 0, Value.int .i64 0, Value.int .i64 0, Value.bool true, Value.bool false])) (hP) ?_
  clear hP hm ha
  rintro w0 hP
  refine (at_anyI b _ _ (g_q b + 14) (g_t b) _ hl (by obtain ⟨q1, q2, q3, q4⟩ := HQ.out; omega) (by obtain ⟨q1, q2, q3, q4⟩ := HQ.out; omega) (by obtain ⟨q1, q2, q3, q4⟩ := HQ.out; omega) (by obtain ⟨q1, q2, q3, q4⟩ := HQ.out; omega)).mono ?_
  rintro e w1 ⟨rfl, hB⟩
  have hP := hP.call hB
  have hm := hP.msg
  have ha := hP.ans
  clear hB
  go_wp2_with fail
  refine gen_wpC (fun w0 => GSt w g5 w0 (mD 1 (atP b (2) (32)) zero32 [S (atP b (35) (g_n b)), Value.string ⟨#[]⟩, Value.string ⟨#[]⟩, Value.string ⟨#[]⟩, Value.string ⟨#[]⟩, .slice none 0 0, Value.int .i64 0, Value.int .i64 0, Value.bool true, Value.bool false])) (hP) ?_
  clear hP hm ha
  rintro w0 hP
  refine (get_anyI b _ _ (g_q b + 14 + g_t b) (4) _ hl (by obtain ⟨q1, q2, q3, q4⟩ := HQ.out; omega) (by obtain ⟨q1, q2, q3, q4⟩ := HQ.out; omega) (by obtain ⟨q1, q2, q3, q4⟩ := HQ.out; omega) (by obtain ⟨q1, q2, q3, q4⟩ := HQ.out; omega)).mono ?_
  rintro e w1 ⟨rfl, hB⟩
  have hP := hP.call hB
  have hm := hP.msg
  have ha := hP.ans
  clear hB
  go_wp2_with fail
  refine gen_wpC (fun w0 => GSt w g5 w0 (mD 1 (atP b (2) (32)) zero32 [S (atP b (35) (g_n b)), Value.string ⟨#[]⟩, Value.string ⟨#[]⟩, Value.string ⟨#[]⟩, Value.string ⟨#[]⟩, .slice none 0 0, Value.int .i64 0, Value.int .i64 0, Value.bool true, Value.bool false])) (hP) ?_
  clear hP hm ha
  rintro w0 hP
  refine (at_anyI b _ _ (g_q b + 14 + g_t b + 7) (32) _ hl (by obtain ⟨q1, q2, q3, q4⟩ := HQ.out; omega) (by obtain ⟨q1, q2, q3, q4⟩ := HQ.out; omega) (by obtain ⟨q1, q2, q3, q4⟩ := HQ.out; omega) (by obtain ⟨q1, q2, q3, q4⟩ := HQ.out; omega)).mono ?_
  rintro e w1 ⟨rfl, hB⟩
  have hP := hP.call hB
  have hm := hP.msg
  have ha := hP.ans
  clear hB
  go_wp2_with fail
  refine gen_wpC (fun w0 => GSt w g5 w0 (mD 1 (atP b (2) (32)) zero32 [S (atP b (35) (g_n b)), Value.string ⟨#[]⟩, Value.string ⟨#[]⟩, Value.string ⟨#[]⟩, Value.string ⟨#[]⟩, .slice none 0 0, Value.int .i64 0, Value.int .i64 0, Value.bool true, Value.bool false])) (hP) ?_
  clear hP hm ha
  rintro w0 hP
  refine (arr_any (atP b (g_q b + 14 + g_t b + 7) (32)) (takeV_len _ _) _).mono ?_
  rintro e w1 ⟨rfl, hB⟩
  have hP := hP.call hB
  have hx32 := (AB_size (atP b (g_q b + 14 + g_t b + 7) (32))).trans (takeV_len _ _)
  have hm := hP.msg
  have ha := hP.ans
  clear hB
  go_wp2_with fail
  have hF := GSt.fin (C := (mD 1 (atP b (2) (32)) (atP b (g_q b + 14 + g_t b + 7) (32)) [S (atP b (35) (g_n b)), Value.string ⟨#[]⟩, S (atP b (g_q b + 14) (g_t b)), Value.string ⟨#[]⟩, Value.string ⟨#[]⟩, .slice none 0 0, Value.int .i64 0, Value.int .i64 ((getP b (g_q b + 14 + g_t b) (4)) : Int), Value.bool true, Value.bool false])) ((((hP).set 67 (S (atP b (g_q b + 14) (g_t b))) mD_s67).set 72 (Value.int .i64 ((getP b (g_q b + 14 + g_t b) (4)) : Int)) mD_s72).setR (C0 := (mD 1 (atP b (2) (32)) (atP b (g_q b + 14 + g_t b + 7) (32)) [S (atP b (35) (g_n b)), Value.string ⟨#[]⟩, S (atP b (g_q b + 14) (g_t b)), Value.string ⟨#[]⟩, Value.string ⟨#[]⟩, .slice none 0 0, Value.int .i64 0, Value.int .i64 ((getP b (g_q b + 14 + g_t b) (4)) : Int), Value.bool true, Value.bool false])) (C' := (mD 1 (atP b (2) (32)) (atP b (g_q b + 14 + g_t b + 7) (32)) [S (atP b (35) (g_n b)), Value.string ⟨#[]⟩, S (atP b (g_q b + 14) (g_t b)), Value.string ⟨#[]⟩, Value.string ⟨#[]⟩, .slice none 0 0, Value.int .i64 0, Value.int .i64 ((getP b (g_q b + 14 + g_t b) (4)) : Int), Value.bool true, Value.bool false])) rfl)
  exact ret_row (.inl rfl) rfl w.heap.size _ _ 75 _ rfl hF.1 Try.underlying25 rfl (by kernel_rfl) mD_sz ⟨_, rfl, ⟨none, 0, rfl, strs_nil _, takeV_len _ _, takeV_len _ _⟩, hF.2⟩
set_option maxRecDepth 100000 in
set_option maxHeartbeats 4000000 in
theorem guess_w1nn (b : List UInt8) (w : World) (hl : b.length ≤ 1000000) (hs : ¬ 0 < getP b (g_p b - 2) 2) (hq : ¬ g_q b < b.length) :
    Calls Try.prog 31 #[.int .i64 1, S b] w fun e w' => ∃ C, e = .returned (.agg C) ∧ RMsgAt w' C ({ emptyM 1 with random := atP b 2 32, session := atP b 35 (g_n b), share := [], psk := false }) ∧ Below w.heap.size w w' := by
  have m1 := fun ts t w => run_min_nat (getP b 34 1) 32 (g_n b) rfl _ 32 rfl rfl ts t w
  have u0 : g_n b ≤ 32 := Nat.min_le_right _ _
  have u1 : (0 : Int) ≤ (g_n b : Int) := by omega
  have u2 : (g_n b : Int) ≤ 32 := by omega
  have m2 := fun ts t w => run_min_nat (getP b (g_q b + 12) 2) 1000 (g_t b) rfl _ 1000 rfl rfl ts t w
  have HH := Lib.hid (⟨hs, hq⟩ : _ ∧ _)
  have p1 : g_p b = 72 + g_n b := rfl
  have p2 : g_q b = g_p b := by unfold g_q; rw [if_neg hs]
  have z1 : ¬ (0 : Int) < (getP b (g_p b - 2) 2 : Int) := by omega
  have z2 : decide ((35 : Int) + (g_n b : Int) + 6 + 2 + 7 + 8 + 8 + 6 < (b.length : Int)) = false := by rw [decide_eq_false_iff_not]; omega
  have u3 : g_t b ≤ 1000 := Nat.min_le_right _ _
  have u4 : (0 : Int) ≤ (g_t b : Int) := by omega
  have u5 : (g_t b : Int) ≤ 1000 := by omega
  have HQ := Lib.hid (show g_p b = 72 + g_n b ∧ g_q b = g_p b ∧ g_n b ≤ 32 ∧ g_t b ≤ 1000 from ⟨p1, p2, u0, u3⟩)
  clear p1 p2 u0 u3 hs hq
  go_enter Try.func31, Try.ntmps31
  go_upto_region 2 with (fail)
  obtain ⟨g5, hg5⟩ : ∃ g, g = w.heap.size + 1 := ⟨_, rfl⟩
  rw [← hg5]
  refine gen_wp (fun w0 => GSt w g5 w0 (mD 1 zero32 zero32 [Value.string ⟨#[]⟩, Value.string ⟨#[]⟩, Value.string ⟨#[]⟩, Value.string ⟨#[]⟩, Value.string ⟨#[]⟩, .slice none 0 0, Value.int .i64 0, Value.int .i64 0, Value.bool false, Value.bool false])) (GSt.start hg5) ?_
  clear hg5
  rintro w0 hP
  have hm := hP.msg
  have ha := hP.ans
  have n5 : w.heap.size ≠ g5 := by have := hP.lt; omega
  go_wp2_with fail
  refine gen_wpC (fun w0 => GSt w g5 w0 (mD 1 zero32 zero32 [Value.string ⟨#[]⟩, Value.string ⟨#[]⟩, Value.string ⟨#[]⟩, Value.string ⟨#[]⟩, Value.string ⟨#[]⟩, .slice none 0 0, Value.int .i64 0, Value.int .i64 0, Value.bool false, Value.bool false])) (hP) ?_
  clear hP hm ha
  rintro w0 hP
  refine (at_anyI b _ _ (2) (32) _ hl (by obtain ⟨q1, q2, q3, q4⟩ := HQ.out; omega) (by obtain ⟨q1, q2, q3, q4⟩ := HQ.out; omega) (by obtain ⟨q1, q2, q3, q4⟩ := HQ.out; omega) (by obtain ⟨q1, q2, q3, q4⟩ := HQ.out; omega)).mono ?_
  rintro e w1 ⟨rfl, hB⟩
  have hP := hP.call hB
  have hm := hP.msg
  have ha := hP.ans
  clear hB
  go_wp2_with fail
  refine gen_wpC (fun w0 => GSt w g5 w0 (mD 1 zero32 zero32 [Value.string ⟨#[]⟩, Value.string ⟨#[]⟩, Value.string ⟨#[]⟩, Value.string ⟨#[]⟩, Value.string ⟨#[]⟩, .slice none 0 0, Value.int .i64 0, Value.int .i64 0, Value.bool false, Value.bool false])) (hP) ?_
  clear hP hm ha
  rintro w0 hP
  refine (arr_any (atP b (2) (32)) (takeV_len _ _) _).mono ?_
  rintro e w1 ⟨rfl, hB⟩
  have hP := hP.call hB
  have hx32 := (AB_size (atP b (2) (32))).trans (takeV_len _ _)
  have hm := hP.msg
  have ha := hP.ans
  clear hB
  go_wp2_with fail
  refine gen_wpC (fun w0 => GSt w g5 w0 (mD 1 (atP b (2) (32)) zero32 [Value.string ⟨#[]⟩, Value.string ⟨#[]⟩, Value.string ⟨#[]⟩, Value.string ⟨#[]⟩, Value.string ⟨#[]⟩, .slice none 0 0, Value.int .i64 0, Value.int .i64 0, Value.bool false, Value.bool false])) ((hP).setR (C0 := (mD 1 (atP b (2) (32)) zero32 [Value.string ⟨#[]⟩, Value.string ⟨#[]⟩, Value.string ⟨#[]⟩, Value.string ⟨#[]⟩, Value.string ⟨#[]⟩, .slice none 0 0, Value.int .i64 0, Value.int .i64 0, Value.bool false, Value.bool false])) (C' := (mD 1 (atP b (2) (32)) zero32 [Value.string ⟨#[]⟩, Value.string ⟨#[]⟩, Value.string ⟨#[]⟩, Value.string ⟨#[]⟩, Value.string ⟨#[]⟩, .slice none 0 0, Value.int .i64 0, Value.int .i64 0, Value.bool false, Value.bool false])) rfl) ?_
  clear hP hm ha
  rintro w0 hP
  refine (get_anyI b _ _ (34) (1) _ hl (by obtain ⟨q1, q2, q3, q4⟩ := HQ.out; omega) (by obtain ⟨q1, q2, q3, q4⟩ := HQ.out; omega) (by obtain ⟨q1, q2, q3, q4⟩ := HQ.out; omega) (by obtain ⟨q1, q2, q3, q4⟩ := HQ.out; omega)).mono ?_
  rintro e w1 ⟨rfl, hB⟩
  have hP := hP.call hB
  have hm := hP.msg
  have ha := hP.ans
  clear hB
  go_wp2_with fail
  refine gen_wpC (fun w0 => GSt w g5 w0 (mD 1 (atP b (2) (32)) zero32 [Value.string ⟨#[]⟩, Value.string ⟨#[]⟩, Value.string ⟨#[]⟩, Value.string ⟨#[]⟩, Value.string ⟨#[]⟩, .slice none 0 0, Value.int .i64 0, Value.int .i64 0, Value.bool false, Value.bool false])) (hP) ?_
  clear hP hm ha
  rintro w0 hP
  refine (at_anyI b _ _ (35) (g_n b) _ hl (by obtain ⟨q1, q2, q3, q4⟩ := HQ.out; omega) (by obtain ⟨q1, q2, q3, q4⟩ := HQ.out; omega) (by obtain ⟨q1, q2, q3, q4⟩ := HQ.out; omega) (by obtain ⟨q1, q2, q3, q4⟩ := HQ.out; omega)).mono ?_
  rintro e w1 ⟨rfl, hB⟩
  have hP := hP.call hB
  have hm := hP.msg
  have ha := hP.ans
  clear hB
  go_wp2_with fail
  refine gen_wpC (fun w0 => GSt w g5 w0 (mD 1 (atP b (2) (32)) zero32 [S (atP b (35) (g_n b)), Value.string ⟨#[]⟩, Value.string ⟨#[]⟩, Value.string ⟨#[]⟩, Value.string ⟨#[]⟩, .slice none 0 0, Value.int .i64 0, Value.int .i64 0, Value.bool false, Value.bool false])) ((hP).set 65 (S (atP b (35) (g_n b))) mD_s65) ?_
  clear hP hm ha
  rintro w0 hP
  refine (get_anyI b _ _ (g_p b - 2) (2) _ hl (by obtain ⟨q1, q2, q3, q4⟩ := HQ.out; omega) (by obtain ⟨q1, q2, q3, q4⟩ := HQ.out; omega) (by obtain ⟨q1, q2, q3, q4⟩ := HQ.out; omega) (by obtain ⟨q1, q2, q3, q4⟩ := HQ.out; omega)).mono ?_
  rintro e w1 ⟨rfl, hB⟩
  have hP := hP.call hB
  have hm := hP.msg
  have ha := hP.ans
  clear hB
  go_wp2_with fail
  have hF := GSt.fin (C := (mD 1 (atP b (2) (32)) zero32 [S (atP b (35) (g_n b)), Value.string ⟨#[]⟩, Value.string ⟨#[]⟩, Value.string ⟨#[]⟩, Value.string ⟨#[]⟩, .slice none 0 0, Value.int .i64 0, Value.int .i64 0, Value.bool false, Value.bool false])) (hP)
  exact ret_row (.inl rfl) rfl w.heap.size _ _ 75 _ rfl hF.1 Try.underlying25 rfl (by kernel_rfl) mD_sz ⟨_, rfl, ⟨none, 0, rfl, strs_nil _, takeV_len _ _, rfl⟩, hF.2⟩
end Go.Proofs.Ytnenoecmmelehaa

namespace Go.Proofs.Ytnenoecmmelehaa
open Go.RowKit
set_option linter.unusedVariables false
set_option linter.unusedSimpArgs false

def certQ (vc : Value) : Array Value := mD 11 zero32 zero32 [.string ⟨#[]⟩, .string ⟨#[]⟩, .string ⟨#[]⟩, .string ⟨#[]⟩, .string ⟨#[]⟩, vc, .int .i64 0, .int .i64 0, .bool false, .bool false]
theorem certQ_70 (vc : Value) : (certQ vc)[70]? = some vc := by unfold certQ; exact mD_70
theorem certQ_g70 (vc : Value) (h : 70 < (certQ vc).size) : (certQ vc)[70] = vc := by
  have := certQ_70 vc
  rw [Array.getElem?_eq_getElem h] at this
  exact Option.some.inj this
theorem certQ_sz (vc : Value) : (certQ vc).size = 75 := by unfold certQ; exact mD_sz
theorem certQ_s70 (vc u : Value) : (certQ vc).setIfInBounds 70 u = certQ u := by unfold certQ; exact mD_s70
theorem certQ_one (a : Option Addr) (n c : Nat) : allOne (certQ (.slice a n c)) = true := by unfold certQ; rw [mD_one]; rfl
theorem certQ_over (vc : Value) : over zMsg 0 (certQ vc) = certQ vc := over_all _ _ (zMsg_size.trans (certQ_sz _).symm)
attribute [local go_sem ↓] certQ_70
attribute [local go_sem] certQ_g70 certQ_sz certQ_s70 certQ_one certQ_over
theorem certsG_go {b : List UInt8} {n p : Nat} (h : p < b.length) : certsG b (n + 1) p = atP b (p + 3) (min (getP b p 3) 2048) :: certsG b n (p + 3 + min (getP b p 3) 2048 + 2) := by rw [certsG, if_pos h]
theorem certsG_no {b : List UInt8} {n p : Nat} (h : n = 0 ∨ ¬ p < b.length) : certsG b n p = [] := by
  cases n with
  | zero => rfl
  | succ n => rw [certsG, if_neg (by omega)]
theorem guess_end {b : List UInt8} {w w1 : World} {g5 : Nat} {vc : Value} {ds : List (List UInt8)} (hP : GSt w g5 w1 (certQ vc)) (hO : StrB w1 (g5 + 1) vc ds) (he : certsG b 6 4 = ds) :
    Row (w1.setRow w.heap.size (certQ vc)) w.heap.size 25 (certQ vc) ∧ RMsgT (w1.setRow w.heap.size (certQ vc)) (certQ vc) (guess11 b) ∧ Below w.heap.size w (w1.setRow w.heap.size (certQ vc)) := by
  have hF := hP.fin
  have hs0 := hO.keptT (grownBy_setR w1 w.heap.size (certQ vc)) hP.ans (by decide)
  have hs := hs0.strs
  refine ⟨hF.1, ?_, hF.2⟩
  unfold guess11
  rw [he]
  obtain ⟨a, c, rfl, _⟩ := id hs
  exact ⟨⟨a, c, rfl, hs, rfl, rfl⟩, .inr ⟨_, _, certQ_70 _, hs0⟩⟩
set_option maxRecDepth 100000 in
set_option maxHeartbeats 4000000 in
theorem guess_w11 (b : List UInt8) (w : World) (hl : b.length ≤ 1000000) :
    Calls Try.prog 31 #[.int .i64 11, S b] w fun e w' => ∃ C, e = .returned (.agg C) ∧ RMsgT w' C (guess11 b) ∧ Below w.heap.size w w' := by
  go_enter Try.func31, Try.ntmps31
  go_upto_region 2 with (fail)
  obtain ⟨g5, hg5⟩ : ∃ g, g = w.heap.size + 1 := ⟨_, rfl⟩
  rw [← hg5]
  refine gen_wp (fun w0 => GSt w g5 w0 (certQ (.slice none 0 0))) (GSt.start hg5) ?_
  clear hg5
  rintro w0 hP
  have HP0 := Lib.hid hP
  clear hP
  go_wp2_with fail
  go_loopg [12, 13] 6 (fun g pv iv wr => ∃ (i p : Nat) (vc : Value) (ds : List (List UInt8)), g + i = 6 ∧ pv = .int .i64 (p : Int) ∧ iv = .int .i64 (i : Int) ∧ GSt w g5 wr (certQ vc) ∧ StrB wr (g5 + 1) vc ds ∧ ds.length = i ∧ p ≤ 4 + i * 3000 ∧ certsG b 6 4 = ds ++ certsG b g p)
  case atStart => exact ⟨0, 4, _, [], by omega, rfl, rfl, HP0.out, StrB.nil _ _, rfl, by omega, rfl⟩
  case round =>
    clear HP0
    obtain ⟨i, p, vc, ds, hi, rfl, rfl, hP, hO, hds, hp, hce⟩ := hrel
    obtain ⟨avc, cvc, rfl, -⟩ := hO.mk'
    have HDS := Lib.hid hds
    clear hds
    have hm := hP.msg
    have ha := hP.ans
    have n5 : w.heap.size ≠ g5 := by have := hP.lt; omega
    have hg5lt := hm.lt
    by_cases h : i < 6 ∧ p < b.length
    · obtain ⟨h1, h2⟩ := h
      have x1 : (i : Int) < 6 := by omega
      have x2 : (p : Int) < (b.length : Int) := by omega
      have x3 : (0 : Int) ≤ (i : Int) := by omega
      have x4 : (0 : Int) ≤ (p : Int) := by omega
      have x5 : (p : Int) ≤ 30000 := by omega
      obtain ⟨n, hn⟩ : ∃ n, n = min (getP b p 3) 2048 := ⟨_, rfl⟩
      have m1 := fun ts t w => run_min_nat (getP b p 3) 2048 n hn _ 2048 rfl rfl ts t w
      have hn8 : n ≤ 2048 := by omega
      have x6 : (0 : Int) ≤ (n : Int) := by omega
      have x7 : (n : Int) ≤ 2048 := by omega
      obtain ⟨q, hq⟩ : ∃ q, q = atP b (p + 3) n := ⟨_, rfl⟩
      have HAT := Lib.hid (fun w' => at_anyI b ((p : Int) + 3) (n : Int) (p + 3) n w' hl (by omega) rfl (by omega) (by omega))
      rw [← hq] at HAT
      have HCE := Lib.hid (show certsG b 6 4 = (ds ++ [q]) ++ certsG b (gk - 1) (p + 3 + n + 2) by
        obtain ⟨k, rfl⟩ : ∃ k, gk = k + 1 := ⟨gk - 1, by omega⟩
        rw [hce, certsG_go h2, ← hn, ← hq]
        simp)
      have HO := Lib.hid hO
      have HPG := Lib.hid hP
      clear hce hq hn hO hP h1 h2
      go_wp2_with fail
      refine (get_anyI b _ _ p 3 _ hl rfl rfl (by omega) (by decide)).mono ?_
      rintro e w1 ⟨rfl, hB1⟩
      have hP := HPG.out.call hB1
      have hO := HO.out.grow hB1
      have HO1 := Lib.hid hO
      have HPG1 := Lib.hid hP
      clear hm ha HO HPG hO hB1
      have hr3 := hP.msg
      have hlt3 := hr3.lt
      obtain ⟨D, hD⟩ : ∃ D, D = certQ (.slice avc ds.length cvc) := ⟨_, rfl⟩
      have f70 : D[70]? = some (.slice avc ds.length cvc) := by rw [hD]; exact certQ_70 _
      rw [← hD] at hr3
      have hr3d := hr3.drew
      clear hP
      go_upto_region 36 with (fail)
      have c1 : IntKind.i64.wrap ((p : Int) + 3) = (p : Int) + 3 := by rw [IntKind.wrap_i64]; omega
      (refine wp_region_freeD 8 [171] [] shp (phi _ [(171, .str [q])]) (by kernel_rfl) (by kernel_rfl) (by kernel_rfl) (phi_stab _ _) (phi_shp _ _) shp_inh ?_; simp only [List.take_succ_cons, List.take_zero, List.drop_succ_cons, List.drop_zero]; apply Exists.intro; apply Exists.intro; refine ⟨?_, ?_, ?_⟩)
      · intro ν hν
        iterate 6 (apply wpF_q rfl; focus (intro C hC hG; (first | go_big_quiet_skip | (go_big_quiet_want; go_big_quiet_op; first | go_big_quiet_on | (refine ⟨_, fun _ _ => rfl, ?_⟩; go_big_quiet_on)) | (go_big_quiet_want; apply qf_load1 _ _ rfl _ _ rfl; (exact hC); rotate_left 1; (focus (intro _; simp [go_sem]; done)); rotate_right 1; assumption; assumption; (simp only [Act.put, lS]; go_big_quiet_on)) | (go_big_quiet_want; apply qf_loadA _ _ rfl _ _ rfl (sz := 32); (exact hC); rotate_left 1; (focus (intro _; simp [go_sem]; done)); (focus (intro _; simp [go_sem]; done)); rotate_right 1; assumption; assumption; assumption; (simp only [Act.put, lS]; go_big_quiet_on))); exact wpQuiet_nil rfl))
        (apply wpF_q rfl; focus (intro C hC hG; go_big_quiet_want; apply qf_call; (exact hC); (exact hG); (exact (fun w' _ _ => HAT.out w')); (focus (intro w; simp [go_sem]; done)); (simp only [Act.put, lS]; go_big_quiet_on); exact wpQuiet_nil rfl))
        (refine wpF_strs [q] _ rfl (by rfl) (by simp) (by simp) rfl rfl (fun d hd => by cases hd; rfl) ?_; (simp only [Act.put, vqF, pS]))
        exact wpF_nil ⟨rfl, rfl⟩
      · intro ν ν'; kernel_rfl
      intro ν w2 hν hB2 hDD
      have f171 := Lib.hid (phi_get (k := .str [q]) (hDD 171 (by simp)) rfl)
      have s171 : isSliceV (ν 171) = true := hν 171
      have hBd : Below w1.heap.size w1 w2 := (Below.drew (Below.refl _ _)).trans (hB2.mono (Nat.le_refl _))
      have hP2 := HPG1.out.call hBd
      have HO2 := Lib.hid (HO1.out.grow hBd)
      have HP2 := Lib.hid hP2
      have hr3 := hP2.msg
      have hra := hP2.ans
      have hg5w : g5 + 1 ≤ w2.heap.size := hr3.lt
      have HCS := Lib.hid (show ds.length + [q].length ≤ 1000000 by have := HDS.out; simp; omega)
      obtain ⟨u, hu⟩ : ∃ u, u = ν 171 := ⟨_, rfl⟩
      rw [← hu] at f171 s171 ⊢
      clear hu hDD hν hB2 hBd hr3d HO1 HPG1 c1 hP2 hD f70
      go_wp2_with (at_builtin; refine wpl_appendStr rfl (.tmp 165) (.tmp 171) rfl (g5 + 1) _ ds rfl HO2.out _ [q] rfl f171.out HCS.out hg5w ?_)
      intro v' w' hO' hg'
      have hB' : Below w.heap.size w w' := HO2.out.below2 (by have := HP2.out.lt; omega) HP2.out.bel (Nat.le_refl _) hg'
      have hr3 := HO2.out.row hg' hr3 (by decide)
      have hra := HO2.out.row hg' hra (by decide)
      have HP3 := Lib.hid (⟨hra, hr3, hB', HP2.out.lt⟩ : GSt w g5 w' (certQ (.slice avc ds.length cvc)))
      have sv' : isSliceV v' = true := hO'.shape
      have ov' := (one_slice sv').1
      try simp only [Act.put, lS]
      refine wpl_val rfl (.pointer (some ⟨g5, 70, none⟩)) ?_ ?_
      · simp [go_sem]
      try simp only [Act.put, lS]
      refine wpl_storeC rfl 23 (.tmp 173) (.tmp 172) rfl rfl g5 70 v' rfl rfl ov' (by kernel_rfl) hr3 (by rw [certQ_sz]; decide) ?_
      refine gen_wpl (fun w4 => GSt w g5 w4 (certQ v') ∧ StrB w4 (g5 + 1) v' (ds ++ [q])) ⟨HP3.out.set 70 v' (certQ_s70 _ _), hO'.keptT (grownBy_setC w' g5 70 v') hr3 (by decide)⟩ ?_
      clear hO' hg' hr3 hra hB' HO2 HP2 HP3 f171 s171 ov' sv'
      rintro w4 ⟨hP4, hO4⟩
      have HP4 := Lib.hid hP4
      have HO4 := Lib.hid hO4
      clear hP4 hO4
      go_wp2_with fail
      go_roundg (gk - 1)
      case measure => omega
      case rel => exact ⟨i + 1, p + 3 + n + 2, v', ds ++ [q], by omega, congrArg (Value.int .i64) (by omega), congrArg (Value.int .i64) (by omega), HP4.out, HO4.out, by rw [List.length_append, HDS.out]; rfl, by omega, HCE.out⟩
    · have hne := certsG_no (b := b) (n := gk) (p := p) (by omega)
      rw [hne, List.append_nil] at hce
      have HO := Lib.hid hO
      have HPG := Lib.hid hP
      have HCE := Lib.hid hce
      clear hce hne hO hP
      have x1 : ¬ (i : Int) < 6 ∨ ((i : Int) < 6 ∧ ¬ (p : Int) < (b.length : Int)) := by omega
      clear h
      rcases x1 with x1 | ⟨x1, x2⟩
      · go_wp2_with fail
        obtain ⟨hE1, hE2, hE3⟩ := guess_end HPG.out HO.out HCE.out
        exact ret_row (.inl rfl) rfl w.heap.size _ _ 75 _ rfl hE1 Try.underlying25 rfl (by kernel_rfl) (certQ_sz _) ⟨_, rfl, hE2, hE3⟩
      · go_wp2_with fail
        obtain ⟨hE1, hE2, hE3⟩ := guess_end HPG.out HO.out HCE.out
        exact ret_row (.inl rfl) rfl w.heap.size _ _ 75 _ rfl hE1 Try.underlying25 rfl (by kernel_rfl) (certQ_sz _) ⟨_, rfl, hE2, hE3⟩
end Go.Proofs.Ytnenoecmmelehaa
