/- Part of the proof: HGuessD. No conditions of its own. -/
import Derived.Below
import Derived.BigQuiet
import Derived.Deep.CutBlock
import Derived.Deep.DeepCutAuto
import Derived.Deep.Draws
import Derived.Deep.LoopGhost
import Derived.Deep.Quiet
import Derived.Deep.QuietTactic
import Derived.Deep.RegionLaw
import Derived.Great.BuildSlice
import Derived.Great.FillDense
import Derived.Laws.AppendOwn
import Derived.Laws.AppendOwnNone
import Derived.Laws.BytesArg
import Derived.Laws.Concat
import Derived.Laws.MakeOwn
import Derived.Lib.AppendZerosOnto
import Derived.Lib.BufferWrite
import Derived.Lib.Hide
import Derived.Lib.SlBytesConst
import Derived.StillTail
import Derived.Stop.BytesEq
import Derived.Test.YtnenoecmmelehaaProg
import Derived.WalkKit
import Derived.WalkLawsBesides
import Derived.WalkSpells
import Derived.Test.YtnenoecmmelehaaK29
namespace Go.Proofs.Ytnenoecmmelehaa
open Go.RowKit
set_option linter.unusedVariables false
set_option linter.unusedSimpArgs false

set_option maxRecDepth 100000 in
set_option maxHeartbeats 4000000 in
theorem guess_w1sp (b : List UInt8) (w : World) (hl : b.length ≤ 1000000) (hs : 0 < getP b (g_p b - 2) 2) (hq : g_q b < b.length) :
    Calls Try.prog 31 #[.int .i64 1, S b] w fun e w' => ∃ C, e = .returned (.agg C) ∧ RMsgAt w' C ({ emptyM 1 with random := atP b 2 32, session := atP b 35 (g_n b), share := atP b (g_p b + 4) 65, psk := true, ticket := atP b (g_q b + 14) (g_t b), age := (getP b (g_q b + 14 + g_t b) 4 : Int), mark := atP b (g_q b + 14 + g_t b + 7) 32 }) ∧ Below w.heap.size w w' := by
  have m1 := fun ts t w => run_min_nat (getP b 34 1) 32 (g_n b) rfl _ 32 rfl rfl ts t w
  have u0 : g_n b ≤ 32 := Nat.min_le_right _ _
  have u1 : (0 : Int) ≤ (g_n b : Int) := by omega
  have u2 : (g_n b : Int) ≤ 32 := by omega
  have m2 := fun ts t w => run_min_nat (getP b (g_q b + 12) 2) 1000 (g_t b) rfl _ 1000 rfl rfl ts t w
  have HH := Lib.hid (⟨hs, hq⟩ : _ ∧ _)
  have p1 : g_p b = 72 + g_n b := rfl
  have p2 : g_q b = g_p b + 69 := by unfold g_q; rw [if_pos hs]
  have z1 : (0 : Int) < (getP b (g_p b - 2) 2 : Int) := by omega
  have z2 : decide ((35 : Int) + (g_n b : Int) + 6 + 2 + 7 + 8 + 8 + 6 + 69 < (b.length : Int)) = true := by rw [decide_eq_true_eq]; omega
  have u3 : g_t b ≤ 1000 := Nat.min_le_right _ _
  have u4 : (0 : Int) ≤ (g_t b : Int) := by omega
  have u5 : (g_t b : Int) ≤ 1000 := by omega
  have HQ := Lib.hid (show g_p b = 72 + g_n b ∧ g_q b = g_p b + 69 ∧ g_n b ≤ 32 ∧ g_t b ≤ 1000 from ⟨p1, p2, u0, u3⟩)
  clear p1 p2 u0 u3 hs hq
  go_enter Try.func31, Try.ntmps31
  go_upto_region 2 with (fail)
  obtain ⟨g5, hg5⟩ : ∃ g, g = w.heap.size + 1 := ⟨_, rfl⟩
  rw [← hg5]
  refine gen_wp (fun w0 => GSt w g5 w0 (mD 1 zero32 zero32 [Value.string ⟨#[]⟩, Value.string ⟨#[]⟩, Value.string ⟨#[]⟩, Value.string ⟨#[]⟩, Value.string ⟨#[]⟩, .slice none 0 0, Value.int .i64 0, Value.int .i64 0, Value.bool false, Value.bool false])) (GSt.start hg5) ?_
  clear hg5
  rintro w0 hP
  have hm := hP.msg
  have ha := hP.ans
  have n5 : w.heap.size ≠ g5 := by have := hP.lt; omega
  go_wp2_with fail
  refine gen_wpC (fun w0 => GSt w g5 w0 (mD 1 zero32 zero32 [Value.string ⟨#[]⟩, Value.string ⟨#[]⟩, Value.string ⟨#[]⟩, Value.string ⟨#[]⟩, Value.string ⟨#[]⟩, .slice none 0 0, Value.int .i64 0, Value.int .i64 0, Value.bool false, Value.bool false])) (hP) ?_
  clear hP hm ha
  rintro w0 hP
  refine (at_anyI b _ _ (2) (32) _ hl (by obtain ⟨q1, q2, q3, q4⟩ := HQ.out; omega) (by obtain ⟨q1, q2, q3, q4⟩ := HQ.out; omega) (by obtain ⟨q1, q2, q3, q4⟩ := HQ.out; omega) (by obtain ⟨q1, q2, q3, q4⟩ := HQ.out; omega)).mono ?_
  rintro e w1 ⟨rfl, hB⟩
  have hP := hP.call hB
  have hm := hP.msg
  have ha := hP.ans
  clear hB
  go_wp2_with fail
  refine gen_wpC (fun w0 => GSt w g5 w0 (mD 1 zero32 zero32 [Value.string ⟨#[]⟩, Value.string ⟨#[]⟩, Value.string ⟨#[]⟩, Value.string ⟨#[]⟩, Value.string ⟨#[]⟩, .slice none 0 0, Value.int .i64 0, Value.int .i64 0, Value.bool false, Value.bool false])) (hP) ?_
  clear hP hm ha
  rintro w0 hP
  refine (arr_any (atP b (2) (32)) (takeV_len _ _) _).mono ?_
  rintro e w1 ⟨rfl, hB⟩
  have hP := hP.call hB
  have hx32 := (AB_size (atP b (2) (32))).trans (takeV_len _ _)
  have hm := hP.msg
  have ha := hP.ans
  clear hB
  go_wp2_with fail
  refine gen_wpC (fun w0 => GSt w g5 w0 (mD 1 (atP b (2) (32)) zero32 [Value.string ⟨#[]⟩, Value.string ⟨#[]⟩, Value.string ⟨#[]⟩, Value.string ⟨#[]⟩, Value.string ⟨#[]⟩, .slice none 0 0, Value.int .i64 0, Value.int .i64 0, Value.bool false, Value.bool false])) ((hP).setR (C0 := (mD 1 (atP b (2) (32)) zero32 [Value.string ⟨#[]⟩, Value.string ⟨#[]⟩, Value.string ⟨#[]⟩, Value.string ⟨#[]⟩, Value.string ⟨#[]⟩, .slice none 0 0, Value.int .i64 0, Value.int .i64 0, Value.bool false, Value.bool false])) (C' := (mD 1 (atP b (2) (32)) zero32 [Value.string ⟨#[]⟩, Value.string ⟨#[]⟩, Value.string ⟨#[]⟩, Value.string ⟨#[]⟩, Value.string ⟨#[]⟩, .slice none 0 0, Value.int .i64 0, Value.int .i64 0, Value.bool false, Value.bool false])) rfl) ?_
  clear hP hm ha
  rintro w0 hP
  refine (get_anyI b _ _ (34) (1) _ hl (by obtain ⟨q1, q2, q3, q4⟩ := HQ.out; omega) (by obtain ⟨q1, q2, q3, q4⟩ := HQ.out; omega) (by obtain ⟨q1, q2, q3, q4⟩ := HQ.out; omega) (by obtain ⟨q1, q2, q3, q4⟩ := HQ.out; omega)).mono ?_
  rintro e w1 ⟨rfl, hB⟩
  have hP := hP.call hB
  have hm := hP.msg
  have ha := hP.ans
  clear hB
  go_wp2_with fail
  refine gen_wpC (fun w0 => GSt w g5 w0 (mD 1 (atP b (2) (32)) zero32 [Value.string ⟨#[]⟩, Value.string ⟨#[]⟩, Value.string ⟨#[]⟩, Value.string ⟨#[]⟩, Value.string ⟨#[]⟩, .slice none 0 0, Value.int .i64 0, Value.int .i64 0, Value.bool false, Value.bool false])) (hP) ?_
  clear hP hm ha
  rintro w0 hP
  refine (at_anyI b _ _ (35) (g_n b) _ hl (by obtain ⟨q1, q2, q3, q4⟩ := HQ.out; omega) (by obtain ⟨q1, q2, q3, q4⟩ := HQ.out; omega) (by obtain ⟨q1, q2, q3, q4⟩ := HQ.out; omega) (by obtain ⟨q1, q2, q3, q4⟩ := HQ.out; omega)).mono ?_
  rintro e w1 ⟨rfl, hB⟩
  have hP := hP.call hB
  have hm := hP.msg
  have ha := hP.ans
  clear hB
  go_wp2_with fail
  refine gen_wpC (fun w0 => GSt w g5 w0 (mD 1 (atP b (2) (32)) zero32 [S (atP b (35) (g_n b)), Value.string ⟨#[]⟩, Value.string ⟨#[]⟩, Value.string ⟨#[]⟩, Value.string ⟨#[]⟩, .slice none 0 0, Value.int .i64 0, Value.int .i64 0, Value.bool false, Value.bool false])) ((hP).set 65 (S (atP b (35) (g_n b))) mD_s65) ?_
  clear hP hm ha
  rintro w0 hP
  refine (get_anyI b _ _ (g_p b - 2) (2) _ hl (by obtain ⟨q1, q2, q3, q4⟩ := HQ.out; omega) (by obtain ⟨q1, q2, q3, q4⟩ := HQ.out; omega) (by obtain ⟨q1, q2, q3, q4⟩ := HQ.out; omega) (by obtain ⟨q1, q2, q3, q4⟩ := HQ.out; omega)).mono ?_
  rintro e w1 ⟨rfl, hB⟩
  have hP := hP.call hB
  have hm := hP.msg
  have ha := hP.ans
  clear hB
  go_wp2_with fail
  refine gen_wpC (fun w0 => GSt w g5 w0 (mD 1 (atP b (2) (32)) zero32 [S (atP b (35) (g_n b)), Value.string ⟨#[]⟩, Value.string ⟨#[]⟩, Value.string ⟨#[]⟩, Value.string ⟨#[]⟩, .slice none 0 0, Value.int .i64 0, Value.int .i64 0, Value.bool false, Value.bool false])) (hP) ?_
  clear hP hm ha
  rintro w0 hP
  refine (at_anyI b _ _ (g_p b + 4) (65) _ hl (by obtain ⟨q1, q2, q3, q4⟩ := HQ.out; omega) (by obtain ⟨q1, q2, q3, q4⟩ := HQ.out; omega) (by obtain ⟨q1, q2, q3, q4⟩ := HQ.out; omega) (by obtain ⟨q1, q2, q3, q4⟩ := HQ.out; omega)).mono ?_
  rintro e w1 ⟨rfl, hB⟩
  have hP := hP.call hB
  have hm := hP.msg
  have ha := hP.ans
  clear hB
  go_wp2_with fail
  refine gen_wpC (fun w0 => GSt w g5 w0 (mD 1 (atP b (2) (32)) zero32 [S (atP b (35) (g_n b)), S (atP b (g_p b + 4) (65)), Value.string ⟨#[]⟩, Value.string ⟨#[]⟩, Value.string ⟨#[]⟩, .slice none 0 0, Value.int .i64 0, Value.int .i64 0, Value.bool true, Value.bool false])) (((hP).set 66 (S (atP b (g_p b + 4) (65))) mD_s66).set 73 (Value.bool true) mD_s73) ?_
  clear hP hm ha
  rintro w0 hP
  refine (get_anyI b _ _ (g_q b + 12) (2) _ hl (by obtain ⟨q1, q2, q3, q4⟩ := HQ.out; omega) (by obtain ⟨q1, q2, q3, q4⟩ := HQ.out; omega) (by obtain ⟨q1, q2, q3, q4⟩ := HQ.out; omega) (by obtain ⟨q1, q2, q3, q4⟩ := HQ.out; omega)).mono ?_
  rintro e w1 ⟨rfl, hB⟩
  have hP := hP.call hB
  have hm := hP.msg
  have ha := hP.ans
  clear hB
  go_wp2_with fail
  refine gen_wpC (fun w0 => GSt w g5 w0 (mD 1 (atP b (2) (32)) zero32 [S (atP b (35) (g_n b)), S (atP b (g_p b + 4) (65)), Value.string ⟨#[]⟩, Value.string ⟨#[]⟩, Value.string ⟨#[]⟩, .slice none 0 0, Value.int .i64 0, Value.int .i64 0, Value.bool true, Value.bool false])) (hP) ?_
  clear hP hm ha
  rintro w0 hP
  refine (at_anyI b _ _ (g_q b + 14) (g_t b) _ hl (by obtain ⟨q1, q2, q3, q4⟩ := HQ.out; omega) (by obtain ⟨q1, q2, q3, q4⟩ := HQ.out; omega) (by obtain ⟨q1, q2, q3, q4⟩ := HQ.out; omega) (by obtain ⟨q1, q2, q3, q4⟩ := HQ.out; omega)).mono ?_
  rintro e w1 ⟨rfl, hB⟩
  have hP := hP.call hB
  have hm := hP.msg
  have ha := hP.ans
  clear hB
  go_wp2_with fail
  refine gen_wpC (fun w0 => GSt w g5 w0 (mD 1 (atP b (2) (32)) zero32 [S (atP b (35) (g_n b)), S (atP b (g_p b + 4) (65)), Value.string ⟨#[]⟩, Value.string ⟨#[]⟩, Value.string ⟨#[]⟩, .slice none 0 0, Value.int .i64 0, Value.int .i64 0, Value.bool true, Value.bool false])) (hP) ?_
  clear hP hm ha
  rintro w0 hP
  refine (get_anyI b _ _ (g_q b + 14 + g_t b) (4) _ hl (by obtain ⟨q1, q2, q3, q4⟩ := HQ.out; omega) (by obtain ⟨q1, q2, q3, q4⟩ := HQ.out; omega) (by obtain ⟨q1, q2, q3, q4⟩ := HQ.out; omega) (by obtain ⟨q1, q2, q3, q4⟩ := HQ.out; omega)).mono ?_
  rintro e w1 ⟨rfl, hB⟩
  have hP := hP.call hB
  have hm := hP.msg
  have ha := hP.ans
  clear hB
  go_wp2_with fail
  refine gen_wpC (fun w0 => GSt w g5 w0 (mD 1 (atP b (2) (32)) zero32 [S (atP b (35) (g_n b)), S (atP b (g_p b + 4) (65)), Value.string ⟨#[]⟩, Value.string ⟨#[]⟩, Value.string ⟨#[]⟩, .slice none 0 0, Value.int .i64 0, Value.int .i64 0, Value.bool true, Value.bool false])) (hP) ?_
  clear hP hm ha
  rintro w0 hP
  refine (at_anyI b _ _ (g_q b + 14 + g_t b + 7) (32) _ hl (by obtain ⟨q1, q2, q3, q4⟩ := HQ.out; omega) (by obtain ⟨q1, q2, q3, q4⟩ := HQ.out; omega) (by obtain ⟨q1, q2, q3, q4⟩ := HQ.out; omega) (by obtain ⟨q1, q2, q3, q4⟩ := HQ.out; omega)).mono ?_
  rintro e w1 ⟨rfl, hB⟩
  have hP := hP.call hB
  have hm := hP.msg
  have ha := hP.ans
  clear hB
  go_wp2_with fail
  refine gen_wpC (fun w0 => GSt w g5 w0 (mD 1 (atP b (2) (32)) zero32 [S (atP b (35) (g_n b)), S (atP b (g_p b + 4) (65)), Value.string ⟨#[]⟩, Value.string ⟨#[]⟩, Value.string ⟨#[]⟩, .slice none 0 0, Value.int .i64 0, Value.int .i64 0, Value.bool true, Value.bool false])) (hP) ?_
  clear hP hm ha
  rintro w0 hP
  refine (arr_any (atP b (g_q b + 14 + g_t b + 7) (32)) (takeV_len _ _) _).mono ?_
  rintro e w1 ⟨rfl, hB⟩
  have hP := hP.call hB
  have hx32 := (AB_size (atP b (g_q b + 14 + g_t b + 7) (32))).trans (takeV_len _ _)
  have hm := hP.msg
  have ha := hP.ans
  clear hB
  go_wp2_with fail
  have hF := GSt.fin (C := (mD 1 (atP b (2) (32)) (atP b (g_q b + 14 + g_t b + 7) (32)) [S (atP b (35) (g_n b)), S (atP b (g_p b + 4) (65)), S (atP b (g_q b + 14) (g_t b)), Value.string ⟨#[]⟩, Value.string ⟨#[]⟩, .slice none 0 0, Value.int .i64 0, Value.int .i64 ((getP b (g_q b + 14 + g_t b) (4)) : Int), Value.bool true, Value.bool false])) ((((hP).set 67 (S (atP b (g_q b + 14) (g_t b))) mD_s67).set 72 (Value.int .i64 ((getP b (g_q b + 14 + g_t b) (4)) : Int)) mD_s72).setR (C0 := (mD 1 (atP b (2) (32)) (atP b (g_q b + 14 + g_t b + 7) (32)) [S (atP b (35) (g_n b)), S (atP b (g_p b + 4) (65)), S (atP b (g_q b + 14) (g_t b)), Value.string ⟨#[]⟩, Value.string ⟨#[]⟩, .slice none 0 0, Value.int .i64 0, Value.int .i64 ((getP b (g_q b + 14 + g_t b) (4)) : Int), Value.bool true, Value.bool false])) (C' := (mD 1 (atP b (2) (32)) (atP b (g_q b + 14 + g_t b + 7) (32)) [S (atP b (35) (g_n b)), S (atP b (g_p b + 4) (65)), S (atP b (g_q b + 14) (g_t b)), Value.string ⟨#[]⟩, Value.string ⟨#[]⟩, .slice none 0 0, Value.int .i64 0, Value.int .i64 ((getP b (g_q b + 14 + g_t b) (4)) : Int), Value.bool true, Value.bool false])) rfl)
  exact ret_row (.inl rfl) rfl w.heap.size _ _ 75 _ rfl hF.1 Try.underlying25 rfl (by kernel_rfl) mD_sz ⟨_, rfl, ⟨none, 0, rfl, strs_nil _, takeV_len _ _, takeV_len _ _⟩, hF.2⟩
set_option maxRecDepth 100000 in
set_option maxHeartbeats 4000000 in
theorem guess_w1sn (b : List UInt8) (w : World) (hl : b.length ≤ 1000000) (hs : 0 < getP b (g_p b - 2) 2) (hq : ¬ g_q b < b.length) :
    Calls Try.prog 31 #[.int .i64 1, S b] w fun e w' => ∃ C, e = .returned (.agg C) ∧ RMsgAt w' C ({ emptyM 1 with random := atP b 2 32, session := atP b 35 (g_n b), share := atP b (g_p b + 4) 65, psk := false }) ∧ Below w.heap.size w w' := by
  have m1 := fun ts t w => run_min_nat (getP b 34 1) 32 (g_n b) rfl _ 32 rfl rfl ts t w
  have u0 : g_n b ≤ 32 := Nat.min_le_right _ _
  have u1 : (0 : Int) ≤ (g_n b : Int) := by omega
  have u2 : (g_n b : Int) ≤ 32 := by omega
  have m2 := fun ts t w => run_min_nat (getP b (g_q b + 12) 2) 1000 (g_t b) rfl _ 1000 rfl rfl ts t w
  have HH := Lib.hid (⟨hs, hq⟩ : _ ∧ _)
  have p1 : g_p b = 72 + g_n b := rfl
  have p2 : g_q b = g_p b + 69 := by unfold g_q; rw [if_pos hs]
  have z1 : (0 : Int) < (getP b (g_p b - 2) 2 : Int) := by omega
  have z2 : decide ((35 : Int) + (g_n b : Int) + 6 + 2 + 7 + 8 + 8 + 6 + 69 < (b.length : Int)) = false := by rw [decide_eq_false_iff_not]; omega
  have u3 : g_t b ≤ 1000 := Nat.min_le_right _ _
  have u4 : (0 : Int) ≤ (g_t b : Int) := by omega
  have u5 : (g_t b : Int) ≤ 1000 := by omega
  have HQ := Lib.hid (show g_p b = 72 + g_n b ∧ g_q b = g_p b + 69 ∧ g_n b ≤ 32 ∧ g_t b ≤ 1000 from ⟨p1, p2, u0, u3⟩)
  clear p1 p2 u0 u3 hs hq
  go_enter Try.func31, Try.ntmps31
  go_upto_region 2 with (fail)
  obtain ⟨g5, hg5⟩ : ∃ g, g = w.heap.size + 1 := ⟨_, rfl⟩
  rw [← hg5]
  refine gen_wp (fun w0 => GSt w g5 w0 (mD 1 zero32 zero32 [Value.string ⟨#[]⟩, Value.string ⟨#[]⟩, Value.string ⟨#[]⟩, Value.string ⟨#[]⟩, Value.string ⟨#[]⟩, .slice none 0 0, Value.int .i64 0, Value.int .i64 0, Value.bool false, Value.bool false])) (GSt.start hg5) ?_
  clear hg5
  rintro w0 hP
  have hm := hP.msg
  have ha := hP.ans
  have n5 : w.heap.size ≠ g5 := by have := hP.lt; omega
  go_wp2_with fail
  refine gen_wpC (fun w0 => GSt w g5 w0 (mD 1 zero32 zero32 [Value.string ⟨#[]⟩, Value.string ⟨#[]⟩, Value.string ⟨#[]⟩, Value.string ⟨#[]⟩, Value.string ⟨#[]⟩, .slice none 0 0, Value.int .i64 0, Value.int .i64 0, Value.bool false, Value.bool false])) (hP) ?_
  clear hP hm ha
  rintro w0 hP
  refine (at_anyI b _ _ (2) (32) _ hl (by obtain ⟨q1, q2, q3, q4⟩ := HQ.out; omega) (by obtain ⟨q1, q2, q3, q4⟩ := HQ.out; omega) (by obtain ⟨q1, q2, q3, q4⟩ := HQ.out; omega) (by obtain ⟨q1, q2, q3, q4⟩ := HQ.out; omega)).mono ?_
  rintro e w1 ⟨rfl, hB⟩
  have hP := hP.call hB
  have hm := hP.msg
  have ha := hP.ans
  clear hB
  go_wp2_with fail
  refine gen_wpC (fun w0 => GSt w g5 w0 (mD 1 zero32 zero32 [Value.string ⟨#[]⟩, Value.string ⟨#[]⟩, Value.string ⟨#[]⟩, Value.string ⟨#[]⟩, Value.string ⟨#[]⟩, .slice none 0 0, Value.int .i64 0, Value.int .i64 0, Value.bool false, Value.bool false])) (hP) ?_
  clear hP hm ha
  rintro w0 hP
  refine (arr_any (atP b (2) (32)) (takeV_len _ _) _).mono ?_
  rintro e w1 ⟨rfl, hB⟩
  have hP := hP.call hB
  have hx32 := (AB_size (atP b (2) (32))).trans (takeV_len _ _)
  have hm := hP.msg
  have ha := hP.ans
  clear hB
  go_wp2_with fail
  refine gen_wpC (fun w0 => GSt w g5 w0 (mD 1 (atP b (2) (32)) zero32 [Value.string ⟨#[]⟩, Value.string ⟨#[]⟩, Value.string ⟨#[]⟩, Value.string ⟨#[]⟩, Value.string ⟨#[]⟩, .slice none 0 0, Value.int .i64 0, Value.int .i64 0, Value.bool false, Value.bool false])) ((hP).setR (C0 := (mD 1 (atP b (2) (32)) zero32 [Value.string ⟨#[]⟩, Value.string ⟨#[]⟩, Value.string ⟨#[]⟩, Value.string ⟨#[]⟩, Value.string ⟨#[]⟩, .slice none 0 0, Value.int .i64 0, Value.int .i64 0, Value.bool false, Value.bool false])) (C' := (mD 1 (atP b (2) (32)) zero32 [Value.string ⟨#[]⟩, Value.string ⟨#[]⟩, Value.string ⟨#[]⟩, Value.string ⟨#[]⟩, Value.string ⟨#[]⟩, .slice none 0 0, Value.int .i64 0, Value.int .i64 0, Value.bool false, Value.bool false])) rfl) ?_
  clear hP hm ha
  rintro w0 hP
  refine (get_anyI b _ _ (34) (1) _ hl (by obtain ⟨q1, q2, q3, q4⟩ := HQ.out; omega) (by obtain ⟨q1, q2, q3, q4⟩ := HQ.out; omega) (by obtain ⟨q1, q2, q3, q4⟩ := HQ.out; omega) (by obtain ⟨q1, q2, q3, q4⟩ := HQ.out; omega)).mono ?_
  rintro e w1 ⟨rfl, hB⟩
  have hP := hP.call hB
  have hm := hP.msg
  have ha := hP.ans
  clear hB
  go_wp2_with fail
  refine gen_wpC (fun w0 => GSt w g5 w0 (mD 1 (atP b (2) (32)) zero32 [Value.string ⟨#[]⟩, Value.string ⟨#[]⟩, Value.string ⟨#[]⟩, Value.string ⟨#[]⟩, Value.string ⟨#[]⟩, .slice none 0 0, Value.int .i64 0, Value.int .i64 0, Value.bool false, Value.bool false])) (hP) ?_
  clear hP hm ha
  rintro w0 hP
  refine (at_anyI b _ _ (35) (g_n b) _ hl (by obtain ⟨q1, q2, q3, q4⟩ := HQ.out; omega) (by obtain ⟨q1, q2, q3, q4⟩ := HQ.out; omega) (by obtain ⟨q1, q2, q3, q4⟩ := HQ.out; omega) (by obtain ⟨q1, q2, q3, q4⟩ := HQ.out; omega)).mono ?_
  rintro e w1 ⟨rfl, hB⟩
  have hP := hP.call hB
  have hm := hP.msg
  have ha := hP.ans
  clear hB
  go_wp2_with fail
  refine gen_wpC (fun w0 => GSt w g5 w0 (mD 1 (atP b (2) (32)) zero32 [S (atP b (35) (g_n b)), Value.string ⟨#[]⟩, Value.string ⟨#[]⟩, Value.string ⟨#[]⟩, Value.string ⟨#[]⟩, .slice none 0 0, Value.int .i64 0, Value.int .i64 0, Value.bool false, Value.bool false])) ((hP).set 65 (S (atP b (35) (g_n b))) mD_s65) ?_
  clear hP hm ha
  rintro w0 hP
  refine (get_anyI b _ _ (g_p b - 2) (2) _ hl (by obtain ⟨q1, q2, q3, q4⟩ := HQ.out; omega) (by obtain ⟨q1, q2, q3, q4⟩ := HQ.out; omega) (by obtain ⟨q1, q2, q3, q4⟩ := HQ.out; omega) (by obtain ⟨q1, q2, q3, q4⟩ := HQ.out; omega)).mono ?_
  rintro e w1 ⟨rfl, hB⟩
  have hP := hP.call hB
  have hm := hP.msg
  have ha := hP.ans
  clear hB
  go_wp2_with fail
  refine gen_wpC (fun w0 => GSt w g5 w0 (mD 1 (atP b (2) (32)) zero32 [S (atP b (35) (g_n b)), Value.string ⟨#[]⟩, Value.string ⟨#[]⟩, Value.string ⟨#[]⟩, Value.string ⟨#[]⟩, .slice none 0 0, Value.int .i64 0, Value.int .i64 0, Value.bool false, Value.bool false])) (hP) ?_
  clear hP hm ha
  rintro w0 hP
  refine (at_anyI b _ _ (g_p b + 4) (65) _ hl (by obtain ⟨q1, q2, q3, q4⟩ := HQ.out; omega) (by obtain ⟨q1, q2, q3, q4⟩ := HQ.out; omega) (by obtain ⟨q1, q2, q3, q4⟩ := HQ.out; omega) (by obtain ⟨q1, q2, q3, q4⟩ := HQ.out; omega)).mono ?_
  rintro e w1 ⟨rfl, hB⟩
  have hP := hP.call hB
  have hm := hP.msg
  have ha := hP.ans
  clear hB
  go_wp2_with fail
  have hF := GSt.fin (C := (mD 1 (atP b (2) (32)) zero32 [S (atP b (35) (g_n b)), S (atP b (g_p b + 4) (65)), Value.string ⟨#[]⟩, Value.string ⟨#[]⟩, Value.string ⟨#[]⟩, .slice none 0 0, Value.int .i64 0, Value.int .i64 0, Value.bool false, Value.bool false])) ((hP).set 66 (S (atP b (g_p b + 4) (65))) mD_s66)
  exact ret_row (.inl rfl) rfl w.heap.size _ _ 75 _ rfl hF.1 Try.underlying25 rfl (by kernel_rfl) mD_sz ⟨_, rfl, ⟨none, 0, rfl, strs_nil _, takeV_len _ _, rfl⟩, hF.2⟩
end Go.Proofs.Ytnenoecmmelehaa
