/- Part of the proof: HParseC. No conditions of its own. -/
import Derived.Below
import Derived.BigQuiet
import Derived.ChangeOld
import Derived.Deep.CutBlock
import Derived.Deep.DeepCutAuto
import Derived.Deep.Draws
import Derived.Deep.LoopGhost
import Derived.Deep.Quiet
import Derived.Deep.QuietTactic
import Derived.Deep.RegionLaw
import Derived.Great.BuildSlice
import Derived.Great.FillDense
import Derived.Laws.AppendOwn
import Derived.Laws.AppendOwnNone
import Derived.Laws.BytesArg
import Derived.Laws.Concat
import Derived.Laws.MakeOwn
import Derived.Lib.AppendZerosOnto
import Derived.Lib.BufferWrite
import Derived.Lib.ConvBytes
import Derived.Lib.Hide
import Derived.Lib.SlBytesConst
import Derived.OpenShut
import Derived.ProofKit
import Derived.ShutString
import Derived.StillTail
import Derived.Stop.BytesEq
import Derived.Test.YtnenoecmmelehaaProg
import Derived.WalkKit
import Derived.WalkLawsBesides
import Derived.WalkSpells
import Derived.Test.YtnenoecmmelehaaM25
namespace Go.Proofs.Ytnenoecmmelehaa
open Go.RowKit
set_option linter.unusedVariables false
set_option linter.unusedSimpArgs false

set_option maxRecDepth 100000 in
set_option maxHeartbeats 4000000 in
theorem parse_w2a (vb : Value) (b : List UInt8) (w : World) (h : SlB w vb b) (hl : b.length ≤ 1000000) (hag : takeV 32 (takeR 2 b) = hAgain) :
    Calls Try.prog 28 #[.int .i64 2, vb] w fun e w' => ∃ C, e = .returned (.agg C) ∧ MsgN w' w.heap.size C ({ emptyM 2 with session := cvV 1 32 (p_l1 b), retry := true }) ∧ Below w.heap.size w w' := by
  have HAG := Lib.hid hag
  clear hag
  have HS := Lib.hid h
  obtain ⟨a, cap, rfl, _⟩ := h
  go_enter Try.func28, Try.ntmps28
  go_upto_region 3 with (refine wpl_val rfl (.agg (mD 2 zero32 zero32 [.slice none 0 0, .slice none 0 0, .slice none 0 0, .slice none 0 0, .slice none 0 0, .slice none 0 0, Value.int .i64 0, Value.int .i64 0, Value.bool false, Value.bool false])) (exec_built _ _ _ _ _ _ rfl (by kernel_rfl) (built_kind 2) _) ?_)
  obtain ⟨g5, hg5⟩ : ∃ g, g = w.heap.size + 1 := ⟨_, rfl⟩
  obtain ⟨g6, hg6⟩ : ∃ g, g = w.heap.size + 1 + 1 := ⟨_, rfl⟩
  rw [← hg6, ← hg5]
  refine gen_wp (fun w0 => PSt w g5 g6 w0 (mD 2 zero32 zero32 [.slice none 0 0, .slice none 0 0, .slice none 0 0, .slice none 0 0, .slice none 0 0, .slice none 0 0, Value.int .i64 0, Value.int .i64 0, Value.bool false, Value.bool false]) b false []) (PSt.start HS.out hl hg5 hg6 (zH_size.trans mD_sz.symm)) ?_
  clear hg5 hg6 HS
  rintro w0 hP
  have hm := hP.msg
  have ha := hP.ans
  have n6 : w.heap.size ≠ g6 := by have := hP.lt5; have := hP.lt6; omega
  have n5 : w.heap.size ≠ g5 := by have := hP.lt5; omega
  have n56 : g5 ≠ g6 := by have := hP.lt6; omega
  go_wp2_with fail
  refine gen_wpC (fun w0 => PSt w g5 g6 w0 (mD 2 zero32 zero32 [.slice none 0 0, .slice none 0 0, .slice none 0 0, .slice none 0 0, .slice none 0 0, .slice none 0 0, Value.int .i64 0, Value.int .i64 0, Value.bool false, Value.bool false]) b (false) []) (hP) ?_
  clear hP hm ha
  rintro w0 hP
  refine (take_any _ _ 2 _ _ _ hP.cur (by decide) hP.len).mono ?_
  rintro e w1 ⟨v, rfl, -, hc, hg⟩
  have hP := hP.call hg hc (takeR_len _ _)
  have hm := hP.msg
  have ha := hP.ans
  clear hc hg
  go_wp2_with fail
  refine gen_wpC (fun w0 => PSt w g5 g6 w0 (mD 2 zero32 zero32 [.slice none 0 0, .slice none 0 0, .slice none 0 0, .slice none 0 0, .slice none 0 0, .slice none 0 0, Value.int .i64 0, Value.int .i64 0, Value.bool false, Value.bool false]) (takeR 2 b) ((false) || shortB 2 b) []) (hP) ?_
  clear hP hm ha
  rintro w0 hP
  refine (cword_any _ _ _ _ _ hP.cur hP.bel.size hP.len).mono ?_
  rintro e w1 ⟨rfl, hc, hg⟩
  have hP := hP.call hg hc (takeR_len _ _)
  have hx32 := (AB_size (takeV 32 (takeR 2 b))).trans (takeV_len _ _)
  have hm := hP.msg
  have ha := hP.ans
  clear hc hg
  go_wp2_with fail
  refine gen_wpC (fun w0 => PSt w g5 g6 w0 (mD 2 (takeV 32 (takeR 2 b)) zero32 [.slice none 0 0, .slice none 0 0, .slice none 0 0, .slice none 0 0, .slice none 0 0, .slice none 0 0, Value.int .i64 0, Value.int .i64 0, Value.bool false, Value.bool false]) (takeR 32 (takeR 2 b)) (((false) || shortB 2 b) || shortB 32 (takeR 2 b)) []) (hP.setR (by first | rfl | exact mD_oRt _ _ _ _ _)) ?_
  clear hP hm ha
  rintro w0 hP
  have hlt6 := hP.msg.lt
  refine (cvec_any _ _ 1 32 _ _ _ hP.cur (by decide) (by decide) hP.len).mono ?_
  rintro e w1 ⟨v, rfl, hb, hc, hg⟩
  have hP := (hP.call hg hc (cvR_len _ _ _)).add hb.slt (fun ad had => Nat.le_trans hlt6 (hb.addr ad had))
  obtain ⟨a1, c1, rfl, _⟩ := hb.slb
  clear hb hlt6
  have hm := hP.msg
  have ha := hP.ans
  clear hc hg
  go_wp2_with fail
  refine gen_wpC (fun w0 => PSt w g5 g6 w0 (mD 2 (takeV 32 (takeR 2 b)) zero32 [Value.slice a1 (cvV 1 32 (takeR 32 (takeR 2 b))).length c1, .slice none 0 0, .slice none 0 0, .slice none 0 0, .slice none 0 0, .slice none 0 0, Value.int .i64 0, Value.int .i64 0, Value.bool false, Value.bool false]) (cvR 1 32 (takeR 32 (takeR 2 b))) ((((false) || shortB 2 b) || shortB 32 (takeR 2 b)) || cvB 1 32 (takeR 32 (takeR 2 b))) [(Value.slice a1 (cvV 1 32 (takeR 32 (takeR 2 b))).length c1, (cvV 1 32 (takeR 32 (takeR 2 b))))]) ((hP).set 65 _ mD_s65) ?_
  clear hP hm ha
  rintro w0 hP
  refine (take_any _ _ 17 _ _ _ hP.cur (by decide) hP.len).mono ?_
  rintro e w1 ⟨v, rfl, -, hc, hg⟩
  have hP := hP.call hg hc (takeR_len _ _)
  have hm := hP.msg
  have ha := hP.ans
  clear hc hg
  have hcv : (convert 27 9 (.slice (some ⟨g6, 1, none⟩) 32 32)).run Try.prog w1 = .ok (S (takeV 32 (takeR 2 b))) w1 := by have := run_conv_slb (P := Try.prog) w1 _ _ _ Try.underlying27 Try.underlying5 Try.underlying9 _ _ (SlB.rand hm); rwa [fx_of (takeV_len _ _)] at this
  have xe : ((takeV 32 (takeR 2 b)) == [207, 33, 173, 116, 229, 154, 97, 17, 190, 29, 140, 2, 30, 101, 184, 145, 194, 162, 17, 22, 122, 187, 140, 94, 7, 158, 9, 226, 200, 168, 51, 156]) = true := by rw [HAG.out]; rfl
  obtain ⟨X, hX⟩ : ∃ X, X = (takeV 32 (takeR 2 b)) := ⟨_, rfl⟩
  rw [← hX] at hcv xe
  have HX := Lib.hid hX
  clear hX HAG
  go_wp2_with fail
  have hF := PSt.fin (C := (mD 2 zero32 zero32 [Value.slice a1 (cvV 1 32 (takeR 32 (takeR 2 b))).length c1, .slice none 0 0, .slice none 0 0, .slice none 0 0, .slice none 0 0, .slice none 0 0, Value.int .i64 0, Value.int .i64 0, Value.bool false, Value.bool true])) (((hP.setR (C0 := (mD 2 zero32 zero32 [Value.slice a1 (cvV 1 32 (takeR 32 (takeR 2 b))).length c1, .slice none 0 0, .slice none 0 0, .slice none 0 0, .slice none 0 0, .slice none 0 0, Value.int .i64 0, Value.int .i64 0, Value.bool false, Value.bool false])) (C' := (mD 2 zero32 zero32 [Value.slice a1 (cvV 1 32 (takeR 32 (takeR 2 b))).length c1, .slice none 0 0, .slice none 0 0, .slice none 0 0, .slice none 0 0, .slice none 0 0, Value.int .i64 0, Value.int .i64 0, Value.bool false, Value.bool false])) rfl)).set 74 _ mD_s74)
  exact ret_row (.inl rfl) rfl w.heap.size _ _ 75 _ rfl hF.2.1 Try.underlying30 rfl (by kernel_rfl) mD_sz ⟨_, rfl, ⟨_, _, _, _, _, _, [], rfl, rfl, rfl, SlNs.five (hF.1 _ (List.mem_cons_self ..)) (SlN.nil _ _) (SlN.nil _ _) (SlN.nil _ _) (SlN.nil _ _), World.ownsRow_nil _ _ _ _, trivial, fun v hv => by cases hv⟩, hF.2.2⟩
set_option maxRecDepth 100000 in
set_option maxHeartbeats 4000000 in
theorem parse_w2p (vb : Value) (b : List UInt8) (w : World) (h : SlB w vb b) (hl : b.length ≤ 1000000) (hag : takeV 32 (takeR 2 b) ≠ hAgain) (hq : 0 < (cvR 2 65 (p_l3 17 b)).length) :
    Calls Try.prog 28 #[.int .i64 2, vb] w fun e w' => ∃ C, e = .returned (.agg C) ∧ MsgN w' w.heap.size C ({ emptyM 2 with random := takeV 32 (takeR 2 b), session := cvV 1 32 (p_l1 b), share := cvV 2 65 (p_l3 17 b), psk := true }) ∧ Below w.heap.size w w' := by
  replace hq : 0 < (cvR 2 65 (takeR 17 (cvR 1 32 (takeR 32 (takeR 2 b))))).length := hq
  have HAG := Lib.hid hag
  clear hag
  have HS := Lib.hid h
  obtain ⟨a, cap, rfl, _⟩ := h
  go_enter Try.func28, Try.ntmps28
  go_upto_region 3 with (refine wpl_val rfl (.agg (mD 2 zero32 zero32 [.slice none 0 0, .slice none 0 0, .slice none 0 0, .slice none 0 0, .slice none 0 0, .slice none 0 0, Value.int .i64 0, Value.int .i64 0, Value.bool false, Value.bool false])) (exec_built _ _ _ _ _ _ rfl (by kernel_rfl) (built_kind 2) _) ?_)
  obtain ⟨g5, hg5⟩ : ∃ g, g = w.heap.size + 1 := ⟨_, rfl⟩
  obtain ⟨g6, hg6⟩ : ∃ g, g = w.heap.size + 1 + 1 := ⟨_, rfl⟩
  rw [← hg6, ← hg5]
  refine gen_wp (fun w0 => PSt w g5 g6 w0 (mD 2 zero32 zero32 [.slice none 0 0, .slice none 0 0, .slice none 0 0, .slice none 0 0, .slice none 0 0, .slice none 0 0, Value.int .i64 0, Value.int .i64 0, Value.bool false, Value.bool false]) b false []) (PSt.start HS.out hl hg5 hg6 (zH_size.trans mD_sz.symm)) ?_
  clear hg5 hg6 HS
  rintro w0 hP
  have hm := hP.msg
  have ha := hP.ans
  have n6 : w.heap.size ≠ g6 := by have := hP.lt5; have := hP.lt6; omega
  have n5 : w.heap.size ≠ g5 := by have := hP.lt5; omega
  have n56 : g5 ≠ g6 := by have := hP.lt6; omega
  go_wp2_with fail
  refine gen_wpC (fun w0 => PSt w g5 g6 w0 (mD 2 zero32 zero32 [.slice none 0 0, .slice none 0 0, .slice none 0 0, .slice none 0 0, .slice none 0 0, .slice none 0 0, Value.int .i64 0, Value.int .i64 0, Value.bool false, Value.bool false]) b (false) []) (hP) ?_
  clear hP hm ha
  rintro w0 hP
  refine (take_any _ _ 2 _ _ _ hP.cur (by decide) hP.len).mono ?_
  rintro e w1 ⟨v, rfl, -, hc, hg⟩
  have hP := hP.call hg hc (takeR_len _ _)
  have hm := hP.msg
  have ha := hP.ans
  clear hc hg
  go_wp2_with fail
  refine gen_wpC (fun w0 => PSt w g5 g6 w0 (mD 2 zero32 zero32 [.slice none 0 0, .slice none 0 0, .slice none 0 0, .slice none 0 0, .slice none 0 0, .slice none 0 0, Value.int .i64 0, Value.int .i64 0, Value.bool false, Value.bool false]) (takeR 2 b) ((false) || shortB 2 b) []) (hP) ?_
  clear hP hm ha
  rintro w0 hP
  refine (cword_any _ _ _ _ _ hP.cur hP.bel.size hP.len).mono ?_
  rintro e w1 ⟨rfl, hc, hg⟩
  have hP := hP.call hg hc (takeR_len _ _)
  have hx32 := (AB_size (takeV 32 (takeR 2 b))).trans (takeV_len _ _)
  have hm := hP.msg
  have ha := hP.ans
  clear hc hg
  go_wp2_with fail
  refine gen_wpC (fun w0 => PSt w g5 g6 w0 (mD 2 (takeV 32 (takeR 2 b)) zero32 [.slice none 0 0, .slice none 0 0, .slice none 0 0, .slice none 0 0, .slice none 0 0, .slice none 0 0, Value.int .i64 0, Value.int .i64 0, Value.bool false, Value.bool false]) (takeR 32 (takeR 2 b)) (((false) || shortB 2 b) || shortB 32 (takeR 2 b)) []) (hP.setR (by first | rfl | exact mD_oRt _ _ _ _ _)) ?_
  clear hP hm ha
  rintro w0 hP
  have hlt6 := hP.msg.lt
  refine (cvec_any _ _ 1 32 _ _ _ hP.cur (by decide) (by decide) hP.len).mono ?_
  rintro e w1 ⟨v, rfl, hb, hc, hg⟩
  have hP := (hP.call hg hc (cvR_len _ _ _)).add hb.slt (fun ad had => Nat.le_trans hlt6 (hb.addr ad had))
  obtain ⟨a1, c1, rfl, _⟩ := hb.slb
  clear hb hlt6
  have hm := hP.msg
  have ha := hP.ans
  clear hc hg
  go_wp2_with fail
  refine gen_wpC (fun w0 => PSt w g5 g6 w0 (mD 2 (takeV 32 (takeR 2 b)) zero32 [Value.slice a1 (cvV 1 32 (takeR 32 (takeR 2 b))).length c1, .slice none 0 0, .slice none 0 0, .slice none 0 0, .slice none 0 0, .slice none 0 0, Value.int .i64 0, Value.int .i64 0, Value.bool false, Value.bool false]) (cvR 1 32 (takeR 32 (takeR 2 b))) ((((false) || shortB 2 b) || shortB 32 (takeR 2 b)) || cvB 1 32 (takeR 32 (takeR 2 b))) [(Value.slice a1 (cvV 1 32 (takeR 32 (takeR 2 b))).length c1, (cvV 1 32 (takeR 32 (takeR 2 b))))]) ((hP).set 65 _ mD_s65) ?_
  clear hP hm ha
  rintro w0 hP
  refine (take_any _ _ 17 _ _ _ hP.cur (by decide) hP.len).mono ?_
  rintro e w1 ⟨v, rfl, -, hc, hg⟩
  have hP := hP.call hg hc (takeR_len _ _)
  have hm := hP.msg
  have ha := hP.ans
  clear hc hg
  have hcv : (convert 27 9 (.slice (some ⟨g6, 1, none⟩) 32 32)).run Try.prog w1 = .ok (S (takeV 32 (takeR 2 b))) w1 := by have := run_conv_slb (P := Try.prog) w1 _ _ _ Try.underlying27 Try.underlying5 Try.underlying9 _ _ (SlB.rand hm); rwa [fx_of (takeV_len _ _)] at this
  have xe : ((takeV 32 (takeR 2 b)) == [207, 33, 173, 116, 229, 154, 97, 17, 190, 29, 140, 2, 30, 101, 184, 145, 194, 162, 17, 22, 122, 187, 140, 94, 7, 158, 9, 226, 200, 168, 51, 156]) = false := beq_false_of_ne HAG.out
  obtain ⟨X, hX⟩ : ∃ X, X = (takeV 32 (takeR 2 b)) := ⟨_, rfl⟩
  rw [← hX] at hcv xe
  have HX := Lib.hid hX
  clear hX HAG
  go_wp2_with fail
  refine gen_wpC (fun w0 => PSt w g5 g6 w0 (mD 2 (takeV 32 (takeR 2 b)) zero32 [Value.slice a1 (cvV 1 32 (takeR 32 (takeR 2 b))).length c1, .slice none 0 0, .slice none 0 0, .slice none 0 0, .slice none 0 0, .slice none 0 0, Value.int .i64 0, Value.int .i64 0, Value.bool false, Value.bool false]) (takeR 17 (cvR 1 32 (takeR 32 (takeR 2 b)))) (((((false) || shortB 2 b) || shortB 32 (takeR 2 b)) || cvB 1 32 (takeR 32 (takeR 2 b))) || shortB 17 (cvR 1 32 (takeR 32 (takeR 2 b)))) [(Value.slice a1 (cvV 1 32 (takeR 32 (takeR 2 b))).length c1, (cvV 1 32 (takeR 32 (takeR 2 b))))]) (hP) ?_
  clear hP hm ha
  rintro w0 hP
  have hlt6 := hP.msg.lt
  refine (cvec_any _ _ 2 65 _ _ _ hP.cur (by decide) (by decide) hP.len).mono ?_
  rintro e w1 ⟨v, rfl, hb, hc, hg⟩
  have hP := (hP.call hg hc (cvR_len _ _ _)).add hb.slt (fun ad had => Nat.le_trans hlt6 (hb.addr ad had))
  obtain ⟨a2, c2, rfl, _⟩ := hb.slb
  clear hb hlt6
  have hm := hP.msg
  have ha := hP.ans
  clear hc hg
  obtain ⟨vc, hrc, hsc, -⟩ := hP.cur
  obtain ⟨ac, cc, rfl, -⟩ := hsc
  have xq : (0 : Int) < ((cvR 2 65 (takeR 17 (cvR 1 32 (takeR 32 (takeR 2 b))))).length : Int) := by omega
  go_wp2_with fail
  have hF := PSt.fin (C := (mD 2 (takeV 32 (takeR 2 b)) zero32 [Value.slice a1 (cvV 1 32 (takeR 32 (takeR 2 b))).length c1, Value.slice a2 (cvV 2 65 (takeR 17 (cvR 1 32 (takeR 32 (takeR 2 b))))).length c2, .slice none 0 0, .slice none 0 0, .slice none 0 0, .slice none 0 0, Value.int .i64 0, Value.int .i64 0, Value.bool true, Value.bool false])) (((hP).set 66 _ mD_s66).set 73 _ mD_s73)
  exact ret_row (.inl rfl) rfl w.heap.size _ _ 75 _ rfl hF.2.1 Try.underlying30 rfl (by kernel_rfl) mD_sz ⟨_, rfl, ⟨_, _, _, _, _, _, [], rfl, takeV_len _ _, rfl, SlNs.five (hF.1 _ (List.mem_cons_of_mem _ (List.mem_cons_self ..))) (hF.1 _ (List.mem_cons_self ..)) (SlN.nil _ _) (SlN.nil _ _) (SlN.nil _ _), World.ownsRow_nil _ _ _ _, trivial, fun v hv => by cases hv⟩, hF.2.2⟩
set_option maxRecDepth 100000 in
set_option maxHeartbeats 4000000 in
theorem parse_w2n (vb : Value) (b : List UInt8) (w : World) (h : SlB w vb b) (hl : b.length ≤ 1000000) (hag : takeV 32 (takeR 2 b) ≠ hAgain) (hq : ¬ 0 < (cvR 2 65 (p_l3 17 b)).length) :
    Calls Try.prog 28 #[.int .i64 2, vb] w fun e w' => ∃ C, e = .returned (.agg C) ∧ MsgN w' w.heap.size C ({ emptyM 2 with random := takeV 32 (takeR 2 b), session := cvV 1 32 (p_l1 b), share := cvV 2 65 (p_l3 17 b), psk := false }) ∧ Below w.heap.size w w' := by
  replace hq : ¬ 0 < (cvR 2 65 (takeR 17 (cvR 1 32 (takeR 32 (takeR 2 b))))).length := hq
  have HAG := Lib.hid hag
  clear hag
  have HS := Lib.hid h
  obtain ⟨a, cap, rfl, _⟩ := h
  go_enter Try.func28, Try.ntmps28
  go_upto_region 3 with (refine wpl_val rfl (.agg (mD 2 zero32 zero32 [.slice none 0 0, .slice none 0 0, .slice none 0 0, .slice none 0 0, .slice none 0 0, .slice none 0 0, Value.int .i64 0, Value.int .i64 0, Value.bool false, Value.bool false])) (exec_built _ _ _ _ _ _ rfl (by kernel_rfl) (built_kind 2) _) ?_)
  obtain ⟨g5, hg5⟩ : ∃ g, g = w.heap.size + 1 := ⟨_, rfl⟩
  obtain ⟨g6, hg6⟩ : ∃ g, g = w.heap.size + 1 + 1 := ⟨_, rfl⟩
  rw [← hg6, ← hg5]
  refine gen_wp (fun w0 => PSt w g5 g6 w0 (mD 2 zero32 zero32 [.slice none 0 0, .slice none 0 0, .slice none 0 0, .slice none 0 0, .slice none 0 0, .slice none 0 0, Value.int .i64 0, Value.int .i64 0, Value.bool false, Value.bool false]) b false []) (PSt.start HS.out hl hg5 hg6 (zH_size.trans mD_sz.symm)) ?_
  clear hg5 hg6 HS
  rintro w0 hP
  have hm := hP.msg
  have ha := hP.ans
  have n6 : w.heap.size ≠ g6 := by have := hP.lt5; have := hP.lt6; omega
  have n5 : w.heap.size ≠ g5 := by have := hP.lt5; omega
  have n56 : g5 ≠ g6 := by have := hP.lt6; omega
  go_wp2_with fail
  refine gen_wpC (fun w0 => PSt w g5 g6 w0 (mD 2 zero32 zero32 [.slice none 0 0, .slice none 0 0, .slice none 0 0, .slice none 0 0, .slice none 0 0, .slice none 0 0, Value.int .i64 0, Value.int .i64 0, Value.bool false, Value.bool false]) b (false) []) (hP) ?_
  clear hP hm ha
  rintro w0 hP
  refine (take_any _ _ 2 _ _ _ hP.cur (by decide) hP.len).mono ?_
  rintro e w1 ⟨v, rfl, -, hc, hg⟩
  have hP := hP.call hg hc (takeR_len _ _)
  have hm := hP.msg
  have ha := hP.ans
  clear hc hg
  go_wp2_with fail
  refine gen_wpC (fun w0 => PSt w g5 g6 w0 (mD 2 zero32 zero32 [.slice none 0 0, .slice none 0 0, .slice none 0 0, .slice none 0 0, .slice none 0 0, .slice none 0 0, Value.int .i64 0, Value.int .i64 0, Value.bool false, Value.bool false]) (takeR 2 b) ((false) || shortB 2 b) []) (hP) ?_
  clear hP hm ha
  rintro w0 hP
  refine (cword_any _ _ _ _ _ hP.cur hP.bel.size hP.len).mono ?_
  rintro e w1 ⟨rfl, hc, hg⟩
  have hP := hP.call hg hc (takeR_len _ _)
  have hx32 := (AB_size (takeV 32 (takeR 2 b))).trans (takeV_len _ _)
  have hm := hP.msg
  have ha := hP.ans
  clear hc hg
  go_wp2_with fail
  refine gen_wpC (fun w0 => PSt w g5 g6 w0 (mD 2 (takeV 32 (takeR 2 b)) zero32 [.slice none 0 0, .slice none 0 0, .slice none 0 0, .slice none 0 0, .slice none 0 0, .slice none 0 0, Value.int .i64 0, Value.int .i64 0, Value.bool false, Value.bool false]) (takeR 32 (takeR 2 b)) (((false) || shortB 2 b) || shortB 32 (takeR 2 b)) []) (hP.setR (by first | rfl | exact mD_oRt _ _ _ _ _)) ?_
  clear hP hm ha
  rintro w0 hP
  have hlt6 := hP.msg.lt
  refine (cvec_any _ _ 1 32 _ _ _ hP.cur (by decide) (by decide) hP.len).mono ?_
  rintro e w1 ⟨v, rfl, hb, hc, hg⟩
  have hP := (hP.call hg hc (cvR_len _ _ _)).add hb.slt (fun ad had => Nat.le_trans hlt6 (hb.addr ad had))
  obtain ⟨a1, c1, rfl, _⟩ := hb.slb
  clear hb hlt6
  have hm := hP.msg
  have ha := hP.ans
  clear hc hg
  go_wp2_with fail
  refine gen_wpC (fun w0 => PSt w g5 g6 w0 (mD 2 (takeV 32 (takeR 2 b)) zero32 [Value.slice a1 (cvV 1 32 (takeR 32 (takeR 2 b))).length c1, .slice none 0 0, .slice none 0 0, .slice none 0 0, .slice none 0 0, .slice none 0 0, Value.int .i64 0, Value.int .i64 0, Value.bool false, Value.bool false]) (cvR 1 32 (takeR 32 (takeR 2 b))) ((((false) || shortB 2 b) || shortB 32 (takeR 2 b)) || cvB 1 32 (takeR 32 (takeR 2 b))) [(Value.slice a1 (cvV 1 32 (takeR 32 (takeR 2 b))).length c1, (cvV 1 32 (takeR 32 (takeR 2 b))))]) ((hP).set 65 _ mD_s65) ?_
  clear hP hm ha
  rintro w0 hP
  refine (take_any _ _ 17 _ _ _ hP.cur (by decide) hP.len).mono ?_
  rintro e w1 ⟨v, rfl, -, hc, hg⟩
  have hP := hP.call hg hc (takeR_len _ _)
  have hm := hP.msg
  have ha := hP.ans
  clear hc hg
  have hcv : (convert 27 9 (.slice (some ⟨g6, 1, none⟩) 32 32)).run Try.prog w1 = .ok (S (takeV 32 (takeR 2 b))) w1 := by have := run_conv_slb (P := Try.prog) w1 _ _ _ Try.underlying27 Try.underlying5 Try.underlying9 _ _ (SlB.rand hm); rwa [fx_of (takeV_len _ _)] at this
  have xe : ((takeV 32 (takeR 2 b)) == [207, 33, 173, 116, 229, 154, 97, 17, 190, 29, 140, 2, 30, 101, 184, 145, 194, 162, 17, 22, 122, 187, 140, 94, 7, 158, 9, 226, 200, 168, 51, 156]) = false := beq_false_of_ne HAG.out
  obtain ⟨X, hX⟩ : ∃ X, X = (takeV 32 (takeR 2 b)) := ⟨_, rfl⟩
  rw [← hX] at hcv xe
  have HX := Lib.hid hX
  clear hX HAG
  go_wp2_with fail
  refine gen_wpC (fun w0 => PSt w g5 g6 w0 (mD 2 (takeV 32 (takeR 2 b)) zero32 [Value.slice a1 (cvV 1 32 (takeR 32 (takeR 2 b))).length c1, .slice none 0 0, .slice none 0 0, .slice none 0 0, .slice none 0 0, .slice none 0 0, Value.int .i64 0, Value.int .i64 0, Value.bool false, Value.bool false]) (takeR 17 (cvR 1 32 (takeR 32 (takeR 2 b)))) (((((false) || shortB 2 b) || shortB 32 (takeR 2 b)) || cvB 1 32 (takeR 32 (takeR 2 b))) || shortB 17 (cvR 1 32 (takeR 32 (takeR 2 b)))) [(Value.slice a1 (cvV 1 32 (takeR 32 (takeR 2 b))).length c1, (cvV 1 32 (takeR 32 (takeR 2 b))))]) (hP) ?_
  clear hP hm ha
  rintro w0 hP
  have hlt6 := hP.msg.lt
  refine (cvec_any _ _ 2 65 _ _ _ hP.cur (by decide) (by decide) hP.len).mono ?_
  rintro e w1 ⟨v, rfl, hb, hc, hg⟩
  have hP := (hP.call hg hc (cvR_len _ _ _)).add hb.slt (fun ad had => Nat.le_trans hlt6 (hb.addr ad had))
  obtain ⟨a2, c2, rfl, _⟩ := hb.slb
  clear hb hlt6
  have hm := hP.msg
  have ha := hP.ans
  clear hc hg
  obtain ⟨vc, hrc, hsc, -⟩ := hP.cur
  obtain ⟨ac, cc, rfl, -⟩ := hsc
  have xq : ¬ (0 : Int) < ((cvR 2 65 (takeR 17 (cvR 1 32 (takeR 32 (takeR 2 b))))).length : Int) := by omega
  go_wp2_with fail
  have hF := PSt.fin (C := (mD 2 (takeV 32 (takeR 2 b)) zero32 [Value.slice a1 (cvV 1 32 (takeR 32 (takeR 2 b))).length c1, Value.slice a2 (cvV 2 65 (takeR 17 (cvR 1 32 (takeR 32 (takeR 2 b))))).length c2, .slice none 0 0, .slice none 0 0, .slice none 0 0, .slice none 0 0, Value.int .i64 0, Value.int .i64 0, Value.bool false, Value.bool false])) (((hP).set 66 _ mD_s66).set 73 _ mD_s73)
  exact ret_row (.inl rfl) rfl w.heap.size _ _ 75 _ rfl hF.2.1 Try.underlying30 rfl (by kernel_rfl) mD_sz ⟨_, rfl, ⟨_, _, _, _, _, _, [], rfl, takeV_len _ _, rfl, SlNs.five (hF.1 _ (List.mem_cons_of_mem _ (List.mem_cons_self ..))) (hF.1 _ (List.mem_cons_self ..)) (SlN.nil _ _) (SlN.nil _ _) (SlN.nil _ _), World.ownsRow_nil _ _ _ _, trivial, fun v hv => by cases hv⟩, hF.2.2⟩
end Go.Proofs.Ytnenoecmmelehaa
