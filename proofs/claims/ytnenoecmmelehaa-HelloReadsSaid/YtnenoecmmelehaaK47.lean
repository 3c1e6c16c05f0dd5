/- Part of the proof: HGuessB. No conditions of its own. -/
import Derived.Below
import Derived.BigQuiet
import Derived.Deep.CutBlock
import Derived.Deep.DeepCutAuto
import Derived.Deep.Draws
import Derived.Deep.LoopGhost
import Derived.Deep.Quiet
import Derived.Deep.QuietTactic
import Derived.Deep.RegionLaw
import Derived.Great.BuildSlice
import Derived.Great.FillDense
import Derived.Laws.AppendOwn
import Derived.Laws.AppendOwnNone
import Derived.Laws.BytesArg
import Derived.Laws.Concat
import Derived.Laws.MakeOwn
import Derived.Lib.AppendZerosOnto
import Derived.Lib.BufferWrite
import Derived.Lib.Hide
import Derived.Lib.SlBytesConst
import Derived.StillTail
import Derived.Stop.BytesEq
import Derived.Test.YtnenoecmmelehaaProg
import Derived.WalkKit
import Derived.WalkLawsBesides
import Derived.WalkSpells
import Derived.Test.YtnenoecmmelehaaK29
namespace Go.Proofs.Ytnenoecmmelehaa
open Go.RowKit
set_option linter.unusedVariables false
set_option linter.unusedSimpArgs false

set_option maxRecDepth 100000 in
set_option maxHeartbeats 4000000 in
theorem guess_e (k : Int) (b : List UInt8) (w : World) (hl : b.length ≤ 1000000) (h1 : k ≠ 1) (h2 : k ≠ 2) (h4 : k ≠ 4) (h11 : k ≠ 11) (h15 : k ≠ 15) (h20 : k ≠ 20) :
    Calls Try.prog 31 #[.int .i64 k, S b] w fun e w' => ∃ C, e = .returned (.agg C) ∧ RMsgAt w' C (emptyM k) ∧ Below w.heap.size w w' := by
  have HQ := Lib.hid (show True ∧ True ∧ True from ⟨trivial, trivial, trivial⟩)
  go_enter Try.func31, Try.ntmps31
  go_upto_region 2 with (fail)
  obtain ⟨g5, hg5⟩ : ∃ g, g = w.heap.size + 1 := ⟨_, rfl⟩
  rw [← hg5]
  refine gen_wp (fun w0 => GSt w g5 w0 (mD k zero32 zero32 [Value.string ⟨#[]⟩, Value.string ⟨#[]⟩, Value.string ⟨#[]⟩, Value.string ⟨#[]⟩, Value.string ⟨#[]⟩, .slice none 0 0, Value.int .i64 0, Value.int .i64 0, Value.bool false, Value.bool false])) (GSt.start hg5) ?_
  clear hg5
  rintro w0 hP
  have hm := hP.msg
  have ha := hP.ans
  have n5 : w.heap.size ≠ g5 := by have := hP.lt; omega
  go_wp2_with fail
  have hF := GSt.fin (C := (mD k zero32 zero32 [Value.string ⟨#[]⟩, Value.string ⟨#[]⟩, Value.string ⟨#[]⟩, Value.string ⟨#[]⟩, Value.string ⟨#[]⟩, .slice none 0 0, Value.int .i64 0, Value.int .i64 0, Value.bool false, Value.bool false])) (hP)
  exact ret_row (.inl rfl) rfl w.heap.size _ _ 75 _ rfl hF.1 Try.underlying25 rfl (by kernel_rfl) mD_sz ⟨_, rfl, ⟨none, 0, rfl, strs_nil _, rfl, rfl⟩, hF.2⟩
set_option maxRecDepth 100000 in
set_option maxHeartbeats 4000000 in
theorem guess_w20 (b : List UInt8) (w : World) (hl : b.length ≤ 1000000) :
    Calls Try.prog 31 #[.int .i64 20, S b] w fun e w' => ∃ C, e = .returned (.agg C) ∧ RMsgAt w' C (guess20 b) ∧ Below w.heap.size w w' := by
  have HQ := Lib.hid (show True ∧ True ∧ True from ⟨trivial, trivial, trivial⟩)
  go_enter Try.func31, Try.ntmps31
  go_upto_region 2 with (fail)
  obtain ⟨g5, hg5⟩ : ∃ g, g = w.heap.size + 1 := ⟨_, rfl⟩
  rw [← hg5]
  refine gen_wp (fun w0 => GSt w g5 w0 (mD 20 zero32 zero32 [Value.string ⟨#[]⟩, Value.string ⟨#[]⟩, Value.string ⟨#[]⟩, Value.string ⟨#[]⟩, Value.string ⟨#[]⟩, .slice none 0 0, Value.int .i64 0, Value.int .i64 0, Value.bool false, Value.bool false])) (GSt.start hg5) ?_
  clear hg5
  rintro w0 hP
  have hm := hP.msg
  have ha := hP.ans
  have n5 : w.heap.size ≠ g5 := by have := hP.lt; omega
  go_wp2_with fail
  refine gen_wpC (fun w0 => GSt w g5 w0 (mD 20 zero32 zero32 [Value.string ⟨#[]⟩, Value.string ⟨#[]⟩, Value.string ⟨#[]⟩, Value.string ⟨#[]⟩, Value.string ⟨#[]⟩, .slice none 0 0, Value.int .i64 0, Value.int .i64 0, Value.bool false, Value.bool false])) (hP) ?_
  clear hP hm ha
  rintro w0 hP
  refine (at_anyI b _ _ (0) (32) _ hl (by obtain ⟨q1, q2, q3⟩ := HQ.out; omega) (by obtain ⟨q1, q2, q3⟩ := HQ.out; omega) (by obtain ⟨q1, q2, q3⟩ := HQ.out; omega) (by obtain ⟨q1, q2, q3⟩ := HQ.out; omega)).mono ?_
  rintro e w1 ⟨rfl, hB⟩
  have hP := hP.call hB
  have hm := hP.msg
  have ha := hP.ans
  clear hB
  go_wp2_with fail
  refine gen_wpC (fun w0 => GSt w g5 w0 (mD 20 zero32 zero32 [Value.string ⟨#[]⟩, Value.string ⟨#[]⟩, Value.string ⟨#[]⟩, Value.string ⟨#[]⟩, Value.string ⟨#[]⟩, .slice none 0 0, Value.int .i64 0, Value.int .i64 0, Value.bool false, Value.bool false])) (hP) ?_
  clear hP hm ha
  rintro w0 hP
  refine (arr_any (atP b (0) (32)) (takeV_len _ _) _).mono ?_
  rintro e w1 ⟨rfl, hB⟩
  have hP := hP.call hB
  have hx32 := (AB_size (atP b (0) (32))).trans (takeV_len _ _)
  have hm := hP.msg
  have ha := hP.ans
  clear hB
  go_wp2_with fail
  have hF := GSt.fin (C := (mD 20 zero32 (atP b (0) (32)) [Value.string ⟨#[]⟩, Value.string ⟨#[]⟩, Value.string ⟨#[]⟩, Value.string ⟨#[]⟩, Value.string ⟨#[]⟩, .slice none 0 0, Value.int .i64 0, Value.int .i64 0, Value.bool false, Value.bool false])) ((hP).setR (by first | rfl | exact mD_oMa _ _ _ _ _ _))
  exact ret_row (.inl rfl) rfl w.heap.size _ _ 75 _ rfl hF.1 Try.underlying25 rfl (by kernel_rfl) mD_sz ⟨_, rfl, ⟨none, 0, rfl, strs_nil _, rfl, takeV_len _ _⟩, hF.2⟩
set_option maxRecDepth 100000 in
set_option maxHeartbeats 4000000 in
theorem guess_w15 (b : List UInt8) (w : World) (hl : b.length ≤ 1000000) :
    Calls Try.prog 31 #[.int .i64 15, S b] w fun e w' => ∃ C, e = .returned (.agg C) ∧ RMsgAt w' C (guess15 b) ∧ Below w.heap.size w w' := by
  have m1 := fun ts t w => run_min_nat (getP b 2 2) 100 (min (getP b 2 2) 100) rfl _ 100 rfl rfl ts t w
  have HQ := Lib.hid (show min (getP b 2 2) 100 ≤ 100 ∧ True ∧ True from ⟨Nat.min_le_right _ _, trivial, trivial⟩)
  go_enter Try.func31, Try.ntmps31
  go_upto_region 2 with (fail)
  obtain ⟨g5, hg5⟩ : ∃ g, g = w.heap.size + 1 := ⟨_, rfl⟩
  rw [← hg5]
  refine gen_wp (fun w0 => GSt w g5 w0 (mD 15 zero32 zero32 [Value.string ⟨#[]⟩, Value.string ⟨#[]⟩, Value.string ⟨#[]⟩, Value.string ⟨#[]⟩, Value.string ⟨#[]⟩, .slice none 0 0, Value.int .i64 0, Value.int .i64 0, Value.bool false, Value.bool false])) (GSt.start hg5) ?_
  clear hg5
  rintro w0 hP
  have hm := hP.msg
  have ha := hP.ans
  have n5 : w.heap.size ≠ g5 := by have := hP.lt; omega
  go_wp2_with fail
  refine gen_wpC (fun w0 => GSt w g5 w0 (mD 15 zero32 zero32 [Value.string ⟨#[]⟩, Value.string ⟨#[]⟩, Value.string ⟨#[]⟩, Value.string ⟨#[]⟩, Value.string ⟨#[]⟩, .slice none 0 0, Value.int .i64 0, Value.int .i64 0, Value.bool false, Value.bool false])) (hP) ?_
  clear hP hm ha
  rintro w0 hP
  refine (get_anyI b _ _ (2) (2) _ hl (by obtain ⟨q1, q2, q3⟩ := HQ.out; omega) (by obtain ⟨q1, q2, q3⟩ := HQ.out; omega) (by obtain ⟨q1, q2, q3⟩ := HQ.out; omega) (by obtain ⟨q1, q2, q3⟩ := HQ.out; omega)).mono ?_
  rintro e w1 ⟨rfl, hB⟩
  have hP := hP.call hB
  have hm := hP.msg
  have ha := hP.ans
  clear hB
  go_wp2_with fail
  refine gen_wpC (fun w0 => GSt w g5 w0 (mD 15 zero32 zero32 [Value.string ⟨#[]⟩, Value.string ⟨#[]⟩, Value.string ⟨#[]⟩, Value.string ⟨#[]⟩, Value.string ⟨#[]⟩, .slice none 0 0, Value.int .i64 0, Value.int .i64 0, Value.bool false, Value.bool false])) (hP) ?_
  clear hP hm ha
  rintro w0 hP
  refine (at_anyI b _ _ (4) (min (getP b 2 2) 100) _ hl (by obtain ⟨q1, q2, q3⟩ := HQ.out; omega) (by obtain ⟨q1, q2, q3⟩ := HQ.out; omega) (by obtain ⟨q1, q2, q3⟩ := HQ.out; omega) (by obtain ⟨q1, q2, q3⟩ := HQ.out; omega)).mono ?_
  rintro e w1 ⟨rfl, hB⟩
  have hP := hP.call hB
  have hm := hP.msg
  have ha := hP.ans
  clear hB
  go_wp2_with fail
  have hF := GSt.fin (C := (mD 15 zero32 zero32 [Value.string ⟨#[]⟩, Value.string ⟨#[]⟩, Value.string ⟨#[]⟩, Value.string ⟨#[]⟩, S (atP b (4) (min (getP b 2 2) 100)), .slice none 0 0, Value.int .i64 0, Value.int .i64 0, Value.bool false, Value.bool false])) ((hP).set 69 _ mD_s69)
  exact ret_row (.inl rfl) rfl w.heap.size _ _ 75 _ rfl hF.1 Try.underlying25 rfl (by kernel_rfl) mD_sz ⟨_, rfl, ⟨none, 0, rfl, strs_nil _, rfl, rfl⟩, hF.2⟩
set_option maxRecDepth 100000 in
set_option maxHeartbeats 4000000 in
theorem guess_w4 (b : List UInt8) (w : World) (hl : b.length ≤ 1000000) :
    Calls Try.prog 31 #[.int .i64 4, S b] w fun e w' => ∃ C, e = .returned (.agg C) ∧ RMsgAt w' C (guess4 b) ∧ Below w.heap.size w w' := by
  have m1 := fun ts t w => run_min_nat (getP b 8 1) 8 (g_4 b) rfl _ 8 rfl rfl ts t w
  have m2 := fun ts t w => run_min_nat (getP b (9 + g_4 b) 2) 1000 (min (getP b (9 + g_4 b) 2) 1000) rfl _ 1000 rfl rfl ts t w
  have u0 : g_4 b ≤ 8 := Nat.min_le_right _ _
  have u1 : (0 : Int) ≤ (g_4 b : Int) := by omega
  have u2 : (g_4 b : Int) ≤ 8 := by omega
  clear u0
  have HQ := Lib.hid (show g_4 b ≤ 8 ∧ min (getP b (9 + g_4 b) 2) 1000 ≤ 1000 ∧ True from ⟨Nat.min_le_right _ _, Nat.min_le_right _ _, trivial⟩)
  go_enter Try.func31, Try.ntmps31
  go_upto_region 2 with (fail)
  obtain ⟨g5, hg5⟩ : ∃ g, g = w.heap.size + 1 := ⟨_, rfl⟩
  rw [← hg5]
  refine gen_wp (fun w0 => GSt w g5 w0 (mD 4 zero32 zero32 [Value.string ⟨#[]⟩, Value.string ⟨#[]⟩, Value.string ⟨#[]⟩, Value.string ⟨#[]⟩, Value.string ⟨#[]⟩, .slice none 0 0, Value.int .i64 0, Value.int .i64 0, Value.bool false, Value.bool false])) (GSt.start hg5) ?_
  clear hg5
  rintro w0 hP
  have hm := hP.msg
  have ha := hP.ans
  have n5 : w.heap.size ≠ g5 := by have := hP.lt; omega
  go_wp2_with fail
  refine gen_wpC (fun w0 => GSt w g5 w0 (mD 4 zero32 zero32 [Value.string ⟨#[]⟩, Value.string ⟨#[]⟩, Value.string ⟨#[]⟩, Value.string ⟨#[]⟩, Value.string ⟨#[]⟩, .slice none 0 0, Value.int .i64 0, Value.int .i64 0, Value.bool false, Value.bool false])) (hP) ?_
  clear hP hm ha
  rintro w0 hP
  refine (get_anyI b _ _ (0) (4) _ hl (by obtain ⟨q1, q2, q3⟩ := HQ.out; omega) (by obtain ⟨q1, q2, q3⟩ := HQ.out; omega) (by obtain ⟨q1, q2, q3⟩ := HQ.out; omega) (by obtain ⟨q1, q2, q3⟩ := HQ.out; omega)).mono ?_
  rintro e w1 ⟨rfl, hB⟩
  have hP := hP.call hB
  have hm := hP.msg
  have ha := hP.ans
  clear hB
  go_wp2_with fail
  refine gen_wpC (fun w0 => GSt w g5 w0 (mD 4 zero32 zero32 [Value.string ⟨#[]⟩, Value.string ⟨#[]⟩, Value.string ⟨#[]⟩, Value.string ⟨#[]⟩, Value.string ⟨#[]⟩, .slice none 0 0, Value.int .i64 0, Value.int .i64 0, Value.bool false, Value.bool false])) (hP) ?_
  clear hP hm ha
  rintro w0 hP
  refine (get_anyI b _ _ (4) (4) _ hl (by obtain ⟨q1, q2, q3⟩ := HQ.out; omega) (by obtain ⟨q1, q2, q3⟩ := HQ.out; omega) (by obtain ⟨q1, q2, q3⟩ := HQ.out; omega) (by obtain ⟨q1, q2, q3⟩ := HQ.out; omega)).mono ?_
  rintro e w1 ⟨rfl, hB⟩
  have hP := hP.call hB
  have hm := hP.msg
  have ha := hP.ans
  clear hB
  go_wp2_with fail
  refine gen_wpC (fun w0 => GSt w g5 w0 (mD 4 zero32 zero32 [Value.string ⟨#[]⟩, Value.string ⟨#[]⟩, Value.string ⟨#[]⟩, Value.string ⟨#[]⟩, Value.string ⟨#[]⟩, .slice none 0 0, Value.int .i64 ((getP b (0) (4)) : Int), Value.int .i64 ((getP b (4) (4)) : Int), Value.bool false, Value.bool false])) (((hP).set 71 _ mD_s71).set 72 _ mD_s72) ?_
  clear hP hm ha
  rintro w0 hP
  refine (get_anyI b _ _ (8) (1) _ hl (by obtain ⟨q1, q2, q3⟩ := HQ.out; omega) (by obtain ⟨q1, q2, q3⟩ := HQ.out; omega) (by obtain ⟨q1, q2, q3⟩ := HQ.out; omega) (by obtain ⟨q1, q2, q3⟩ := HQ.out; omega)).mono ?_
  rintro e w1 ⟨rfl, hB⟩
  have hP := hP.call hB
  have hm := hP.msg
  have ha := hP.ans
  clear hB
  go_wp2_with fail
  refine gen_wpC (fun w0 => GSt w g5 w0 (mD 4 zero32 zero32 [Value.string ⟨#[]⟩, Value.string ⟨#[]⟩, Value.string ⟨#[]⟩, Value.string ⟨#[]⟩, Value.string ⟨#[]⟩, .slice none 0 0, Value.int .i64 ((getP b (0) (4)) : Int), Value.int .i64 ((getP b (4) (4)) : Int), Value.bool false, Value.bool false])) (hP) ?_
  clear hP hm ha
  rintro w0 hP
  refine (at_anyI b _ _ (9) (g_4 b) _ hl (by obtain ⟨q1, q2, q3⟩ := HQ.out; omega) (by obtain ⟨q1, q2, q3⟩ := HQ.out; omega) (by obtain ⟨q1, q2, q3⟩ := HQ.out; omega) (by obtain ⟨q1, q2, q3⟩ := HQ.out; omega)).mono ?_
  rintro e w1 ⟨rfl, hB⟩
  have hP := hP.call hB
  have hm := hP.msg
  have ha := hP.ans
  clear hB
  go_wp2_with fail
  refine gen_wpC (fun w0 => GSt w g5 w0 (mD 4 zero32 zero32 [Value.string ⟨#[]⟩, Value.string ⟨#[]⟩, Value.string ⟨#[]⟩, S (atP b (9) (g_4 b)), Value.string ⟨#[]⟩, .slice none 0 0, Value.int .i64 ((getP b (0) (4)) : Int), Value.int .i64 ((getP b (4) (4)) : Int), Value.bool false, Value.bool false])) ((hP).set 68 _ mD_s68) ?_
  clear hP hm ha
  rintro w0 hP
  refine (get_anyI b _ _ (9 + g_4 b) (2) _ hl (by obtain ⟨q1, q2, q3⟩ := HQ.out; omega) (by obtain ⟨q1, q2, q3⟩ := HQ.out; omega) (by obtain ⟨q1, q2, q3⟩ := HQ.out; omega) (by obtain ⟨q1, q2, q3⟩ := HQ.out; omega)).mono ?_
  rintro e w1 ⟨rfl, hB⟩
  have hP := hP.call hB
  have hm := hP.msg
  have ha := hP.ans
  clear hB
  go_wp2_with fail
  refine gen_wpC (fun w0 => GSt w g5 w0 (mD 4 zero32 zero32 [Value.string ⟨#[]⟩, Value.string ⟨#[]⟩, Value.string ⟨#[]⟩, S (atP b (9) (g_4 b)), Value.string ⟨#[]⟩, .slice none 0 0, Value.int .i64 ((getP b (0) (4)) : Int), Value.int .i64 ((getP b (4) (4)) : Int), Value.bool false, Value.bool false])) (hP) ?_
  clear hP hm ha
  rintro w0 hP
  refine (at_anyI b _ _ (9 + g_4 b + 2) (min (getP b (9 + g_4 b) 2) 1000) _ hl (by obtain ⟨q1, q2, q3⟩ := HQ.out; omega) (by obtain ⟨q1, q2, q3⟩ := HQ.out; omega) (by obtain ⟨q1, q2, q3⟩ := HQ.out; omega) (by obtain ⟨q1, q2, q3⟩ := HQ.out; omega)).mono ?_
  rintro e w1 ⟨rfl, hB⟩
  have hP := hP.call hB
  have hm := hP.msg
  have ha := hP.ans
  clear hB
  go_wp2_with fail
  have hF := GSt.fin (C := (mD 4 zero32 zero32 [Value.string ⟨#[]⟩, Value.string ⟨#[]⟩, S (atP b (9 + g_4 b + 2) (min (getP b (9 + g_4 b) 2) 1000)), S (atP b (9) (g_4 b)), Value.string ⟨#[]⟩, .slice none 0 0, Value.int .i64 ((getP b (0) (4)) : Int), Value.int .i64 ((getP b (4) (4)) : Int), Value.bool false, Value.bool false])) ((hP).set 67 _ mD_s67)
  exact ret_row (.inl rfl) rfl w.heap.size _ _ 75 _ rfl hF.1 Try.underlying25 rfl (by kernel_rfl) mD_sz ⟨_, rfl, ⟨none, 0, rfl, strs_nil _, rfl, rfl⟩, hF.2⟩
end Go.Proofs.Ytnenoecmmelehaa
