/- Part of the proof: HParseB. No conditions of its own. -/
import Derived.Below
import Derived.BigQuiet
import Derived.ChangeOld
import Derived.Deep.CutBlock
import Derived.Deep.DeepCutAuto
import Derived.Deep.Draws
import Derived.Deep.LoopGhost
import Derived.Deep.Quiet
import Derived.Deep.QuietTactic
import Derived.Deep.RegionLaw
import Derived.Great.BuildSlice
import Derived.Great.FillDense
import Derived.Laws.AppendOwn
import Derived.Laws.AppendOwnNone
import Derived.Laws.BytesArg
import Derived.Laws.Concat
import Derived.Laws.MakeOwn
import Derived.Lib.AppendZerosOnto
import Derived.Lib.BufferWrite
import Derived.Lib.ConvBytes
import Derived.Lib.Hide
import Derived.Lib.SlBytesConst
import Derived.OpenShut
import Derived.ProofKit
import Derived.ShutString
import Derived.StillTail
import Derived.Stop.BytesEq
import Derived.Test.YtnenoecmmelehaaProg
import Derived.WalkKit
import Derived.WalkLawsBesides
import Derived.WalkSpells
import Derived.Test.YtnenoecmmelehaaM25
namespace Go.Proofs.Ytnenoecmmelehaa
open Go.RowKit
set_option linter.unusedVariables false
set_option linter.unusedSimpArgs false

set_option maxRecDepth 100000 in
set_option maxHeartbeats 4000000 in
theorem parse_e (k : Int) (vb : Value) (b : List UInt8) (w : World) (h : SlB w vb b) (hl : b.length ≤ 1000000) (h1 : k ≠ 1) (h2 : k ≠ 2) (h4 : k ≠ 4) (h11 : k ≠ 11) (h15 : k ≠ 15) (h20 : k ≠ 20) :
    Calls Try.prog 28 #[.int .i64 k, vb] w fun e w' => ∃ C, e = .returned (.agg C) ∧ MsgN w' w.heap.size C (emptyM k) ∧ Below w.heap.size w w' := by
  have HS := Lib.hid h
  obtain ⟨a, cap, rfl, _⟩ := h
  go_enter Try.func28, Try.ntmps28
  go_upto_region 3 with (refine wpl_val rfl (.agg (mD k zero32 zero32 [.slice none 0 0, .slice none 0 0, .slice none 0 0, .slice none 0 0, .slice none 0 0, .slice none 0 0, Value.int .i64 0, Value.int .i64 0, Value.bool false, Value.bool false])) (exec_built _ _ _ _ _ _ rfl (by kernel_rfl) (built_kind k) _) ?_)
  obtain ⟨g5, hg5⟩ : ∃ g, g = w.heap.size + 1 := ⟨_, rfl⟩
  obtain ⟨g6, hg6⟩ : ∃ g, g = w.heap.size + 1 + 1 := ⟨_, rfl⟩
  rw [← hg6, ← hg5]
  refine gen_wp (fun w0 => PSt w g5 g6 w0 (mD k zero32 zero32 [.slice none 0 0, .slice none 0 0, .slice none 0 0, .slice none 0 0, .slice none 0 0, .slice none 0 0, Value.int .i64 0, Value.int .i64 0, Value.bool false, Value.bool false]) b false []) (PSt.start HS.out hl hg5 hg6 (zH_size.trans mD_sz.symm)) ?_
  clear hg5 hg6 HS
  rintro w0 hP
  have hm := hP.msg
  have ha := hP.ans
  have n6 : w.heap.size ≠ g6 := by have := hP.lt5; have := hP.lt6; omega
  have n5 : w.heap.size ≠ g5 := by have := hP.lt5; omega
  have n56 : g5 ≠ g6 := by have := hP.lt6; omega
  go_wp2_with fail
  have hF := PSt.fin (C := (mD k zero32 zero32 [.slice none 0 0, .slice none 0 0, .slice none 0 0, .slice none 0 0, .slice none 0 0, .slice none 0 0, Value.int .i64 0, Value.int .i64 0, Value.bool false, Value.bool false])) (hP)
  exact ret_row (.inl rfl) rfl w.heap.size _ _ 75 _ rfl hF.2.1 Try.underlying30 rfl (by kernel_rfl) mD_sz ⟨_, rfl, ⟨_, _, _, _, _, _, [], rfl, rfl, rfl, SlNs.five (SlN.nil _ _) (SlN.nil _ _) (SlN.nil _ _) (SlN.nil _ _) (SlN.nil _ _), World.ownsRow_nil _ _ _ _, trivial, fun v hv => by cases hv⟩, hF.2.2⟩
set_option maxRecDepth 100000 in
set_option maxHeartbeats 4000000 in
theorem parse_w20 (vb : Value) (b : List UInt8) (w : World) (h : SlB w vb b) (hl : b.length ≤ 1000000) :
    Calls Try.prog 28 #[.int .i64 20, vb] w fun e w' => ∃ C, e = .returned (.agg C) ∧ MsgN w' w.heap.size C (parse20 b) ∧ Below w.heap.size w w' := by
  have HS := Lib.hid h
  obtain ⟨a, cap, rfl, _⟩ := h
  go_enter Try.func28, Try.ntmps28
  go_upto_region 3 with (refine wpl_val rfl (.agg (mD 20 zero32 zero32 [.slice none 0 0, .slice none 0 0, .slice none 0 0, .slice none 0 0, .slice none 0 0, .slice none 0 0, Value.int .i64 0, Value.int .i64 0, Value.bool false, Value.bool false])) (exec_built _ _ _ _ _ _ rfl (by kernel_rfl) (built_kind 20) _) ?_)
  obtain ⟨g5, hg5⟩ : ∃ g, g = w.heap.size + 1 := ⟨_, rfl⟩
  obtain ⟨g6, hg6⟩ : ∃ g, g = w.heap.size + 1 + 1 := ⟨_, rfl⟩
  rw [← hg6, ← hg5]
  refine gen_wp (fun w0 => PSt w g5 g6 w0 (mD 20 zero32 zero32 [.slice none 0 0, .slice none 0 0, .slice none 0 0, .slice none 0 0, .slice none 0 0, .slice none 0 0, Value.int .i64 0, Value.int .i64 0, Value.bool false, Value.bool false]) b false []) (PSt.start HS.out hl hg5 hg6 (zH_size.trans mD_sz.symm)) ?_
  clear hg5 hg6 HS
  rintro w0 hP
  have hm := hP.msg
  have ha := hP.ans
  have n6 : w.heap.size ≠ g6 := by have := hP.lt5; have := hP.lt6; omega
  have n5 : w.heap.size ≠ g5 := by have := hP.lt5; omega
  have n56 : g5 ≠ g6 := by have := hP.lt6; omega
  go_wp2_with fail
  refine gen_wpC (fun w0 => PSt w g5 g6 w0 (mD 20 zero32 zero32 [.slice none 0 0, .slice none 0 0, .slice none 0 0, .slice none 0 0, .slice none 0 0, .slice none 0 0, Value.int .i64 0, Value.int .i64 0, Value.bool false, Value.bool false]) b (false) []) (hP) ?_
  clear hP hm ha
  rintro w0 hP
  refine (cword_any _ _ _ _ _ hP.cur hP.bel.size hP.len).mono ?_
  rintro e w1 ⟨rfl, hc, hg⟩
  have hP := hP.call hg hc (takeR_len _ _)
  have hx32 := (AB_size (takeV 32 b)).trans (takeV_len _ _)
  have hm := hP.msg
  have ha := hP.ans
  clear hc hg
  go_wp2_with fail
  have hF := PSt.fin (C := (mD 20 zero32 (takeV 32 b) [.slice none 0 0, .slice none 0 0, .slice none 0 0, .slice none 0 0, .slice none 0 0, .slice none 0 0, Value.int .i64 0, Value.int .i64 0, Value.bool false, Value.bool false])) (hP.setR (by first | rfl | exact mD_oMt _ _ _ _ _))
  exact ret_row (.inl rfl) rfl w.heap.size _ _ 75 _ rfl hF.2.1 Try.underlying30 rfl (by kernel_rfl) mD_sz ⟨_, rfl, ⟨_, _, _, _, _, _, [], rfl, rfl, takeV_len _ _, SlNs.five (SlN.nil _ _) (SlN.nil _ _) (SlN.nil _ _) (SlN.nil _ _) (SlN.nil _ _), World.ownsRow_nil _ _ _ _, trivial, fun v hv => by cases hv⟩, hF.2.2⟩
set_option maxRecDepth 100000 in
set_option maxHeartbeats 4000000 in
theorem parse_w15 (vb : Value) (b : List UInt8) (w : World) (h : SlB w vb b) (hl : b.length ≤ 1000000) :
    Calls Try.prog 28 #[.int .i64 15, vb] w fun e w' => ∃ C, e = .returned (.agg C) ∧ MsgN w' w.heap.size C (parse15 b) ∧ Below w.heap.size w w' := by
  have HS := Lib.hid h
  obtain ⟨a, cap, rfl, _⟩ := h
  go_enter Try.func28, Try.ntmps28
  go_upto_region 3 with (refine wpl_val rfl (.agg (mD 15 zero32 zero32 [.slice none 0 0, .slice none 0 0, .slice none 0 0, .slice none 0 0, .slice none 0 0, .slice none 0 0, Value.int .i64 0, Value.int .i64 0, Value.bool false, Value.bool false])) (exec_built _ _ _ _ _ _ rfl (by kernel_rfl) (built_kind 15) _) ?_)
  obtain ⟨g5, hg5⟩ : ∃ g, g = w.heap.size + 1 := ⟨_, rfl⟩
  obtain ⟨g6, hg6⟩ : ∃ g, g = w.heap.size + 1 + 1 := ⟨_, rfl⟩
  rw [← hg6, ← hg5]
  refine gen_wp (fun w0 => PSt w g5 g6 w0 (mD 15 zero32 zero32 [.slice none 0 0, .slice none 0 0, .slice none 0 0, .slice none 0 0, .slice none 0 0, .slice none 0 0, Value.int .i64 0, Value.int .i64 0, Value.bool false, Value.bool false]) b false []) (PSt.start HS.out hl hg5 hg6 (zH_size.trans mD_sz.symm)) ?_
  clear hg5 hg6 HS
  rintro w0 hP
  have hm := hP.msg
  have ha := hP.ans
  have n6 : w.heap.size ≠ g6 := by have := hP.lt5; have := hP.lt6; omega
  have n5 : w.heap.size ≠ g5 := by have := hP.lt5; omega
  have n56 : g5 ≠ g6 := by have := hP.lt6; omega
  go_wp2_with fail
  refine gen_wpC (fun w0 => PSt w g5 g6 w0 (mD 15 zero32 zero32 [.slice none 0 0, .slice none 0 0, .slice none 0 0, .slice none 0 0, .slice none 0 0, .slice none 0 0, Value.int .i64 0, Value.int .i64 0, Value.bool false, Value.bool false]) b (false) []) (hP) ?_
  clear hP hm ha
  rintro w0 hP
  refine (take_any _ _ 2 _ _ _ hP.cur (by decide) hP.len).mono ?_
  rintro e w1 ⟨v, rfl, -, hc, hg⟩
  have hP := hP.call hg hc (takeR_len _ _)
  have hm := hP.msg
  have ha := hP.ans
  clear hc hg
  go_wp2_with fail
  refine gen_wpC (fun w0 => PSt w g5 g6 w0 (mD 15 zero32 zero32 [.slice none 0 0, .slice none 0 0, .slice none 0 0, .slice none 0 0, .slice none 0 0, .slice none 0 0, Value.int .i64 0, Value.int .i64 0, Value.bool false, Value.bool false]) (takeR 2 b) ((false) || shortB 2 b) []) (hP) ?_
  clear hP hm ha
  rintro w0 hP
  have hlt6 := hP.msg.lt
  refine (cvec_any _ _ 2 100 _ _ _ hP.cur (by decide) (by decide) hP.len).mono ?_
  rintro e w1 ⟨v, rfl, hb, hc, hg⟩
  have hP := (hP.call hg hc (cvR_len _ _ _)).add hb.slt (fun ad had => Nat.le_trans hlt6 (hb.addr ad had))
  obtain ⟨a1, c1, rfl, _⟩ := hb.slb
  clear hb hlt6
  have hm := hP.msg
  have ha := hP.ans
  clear hc hg
  go_wp2_with fail
  have hF := PSt.fin (C := (mD 15 zero32 zero32 [.slice none 0 0, .slice none 0 0, .slice none 0 0, .slice none 0 0, Value.slice a1 (cvV 2 100 (takeR 2 b)).length c1, .slice none 0 0, Value.int .i64 0, Value.int .i64 0, Value.bool false, Value.bool false])) ((hP).set 69 _ mD_s69)
  exact ret_row (.inl rfl) rfl w.heap.size _ _ 75 _ rfl hF.2.1 Try.underlying30 rfl (by kernel_rfl) mD_sz ⟨_, rfl, ⟨_, _, _, _, _, _, [], rfl, rfl, rfl, SlNs.five (SlN.nil _ _) (SlN.nil _ _) (SlN.nil _ _) (SlN.nil _ _) (hF.1 _ (List.mem_cons_self ..)), World.ownsRow_nil _ _ _ _, trivial, fun v hv => by cases hv⟩, hF.2.2⟩
set_option maxRecDepth 100000 in
set_option maxHeartbeats 4000000 in
theorem parse_w4 (vb : Value) (b : List UInt8) (w : World) (h : SlB w vb b) (hl : b.length ≤ 1000000) :
    Calls Try.prog 28 #[.int .i64 4, vb] w fun e w' => ∃ C, e = .returned (.agg C) ∧ MsgN w' w.heap.size C (parse4 b) ∧ Below w.heap.size w w' := by
  have HS := Lib.hid h
  obtain ⟨a, cap, rfl, _⟩ := h
  go_enter Try.func28, Try.ntmps28
  go_upto_region 3 with (refine wpl_val rfl (.agg (mD 4 zero32 zero32 [.slice none 0 0, .slice none 0 0, .slice none 0 0, .slice none 0 0, .slice none 0 0, .slice none 0 0, Value.int .i64 0, Value.int .i64 0, Value.bool false, Value.bool false])) (exec_built _ _ _ _ _ _ rfl (by kernel_rfl) (built_kind 4) _) ?_)
  obtain ⟨g5, hg5⟩ : ∃ g, g = w.heap.size + 1 := ⟨_, rfl⟩
  obtain ⟨g6, hg6⟩ : ∃ g, g = w.heap.size + 1 + 1 := ⟨_, rfl⟩
  rw [← hg6, ← hg5]
  refine gen_wp (fun w0 => PSt w g5 g6 w0 (mD 4 zero32 zero32 [.slice none 0 0, .slice none 0 0, .slice none 0 0, .slice none 0 0, .slice none 0 0, .slice none 0 0, Value.int .i64 0, Value.int .i64 0, Value.bool false, Value.bool false]) b false []) (PSt.start HS.out hl hg5 hg6 (zH_size.trans mD_sz.symm)) ?_
  clear hg5 hg6 HS
  rintro w0 hP
  have hm := hP.msg
  have ha := hP.ans
  have n6 : w.heap.size ≠ g6 := by have := hP.lt5; have := hP.lt6; omega
  have n5 : w.heap.size ≠ g5 := by have := hP.lt5; omega
  have n56 : g5 ≠ g6 := by have := hP.lt6; omega
  go_wp2_with fail
  refine gen_wpC (fun w0 => PSt w g5 g6 w0 (mD 4 zero32 zero32 [.slice none 0 0, .slice none 0 0, .slice none 0 0, .slice none 0 0, .slice none 0 0, .slice none 0 0, Value.int .i64 0, Value.int .i64 0, Value.bool false, Value.bool false]) b (false) []) (hP) ?_
  clear hP hm ha
  rintro w0 hP
  refine (cnum_any _ _ 4 _ _ _ hP.cur (by decide) hP.len).mono ?_
  rintro e w1 ⟨rfl, hc, hg⟩
  have hP := hP.call hg hc (takeR_len _ _)
  have hm := hP.msg
  have ha := hP.ans
  clear hc hg
  go_wp2_with fail
  refine gen_wpC (fun w0 => PSt w g5 g6 w0 (mD 4 zero32 zero32 [.slice none 0 0, .slice none 0 0, .slice none 0 0, .slice none 0 0, .slice none 0 0, .slice none 0 0, Value.int .i64 0, Value.int .i64 0, Value.bool false, Value.bool false]) (takeR 4 b) ((false) || shortB 4 b) []) (hP) ?_
  clear hP hm ha
  rintro w0 hP
  refine (cnum_any _ _ 4 _ _ _ hP.cur (by decide) hP.len).mono ?_
  rintro e w1 ⟨rfl, hc, hg⟩
  have hP := hP.call hg hc (takeR_len _ _)
  have hm := hP.msg
  have ha := hP.ans
  clear hc hg
  go_wp2_with fail
  refine gen_wpC (fun w0 => PSt w g5 g6 w0 (mD 4 zero32 zero32 [.slice none 0 0, .slice none 0 0, .slice none 0 0, .slice none 0 0, .slice none 0 0, .slice none 0 0, Value.int .i64 (valP (takeV 4 b) : Int), Value.int .i64 (valP (takeV 4 (takeR 4 b)) : Int), Value.bool false, Value.bool false]) (takeR 4 (takeR 4 b)) (((false) || shortB 4 b) || shortB 4 (takeR 4 b)) []) (((hP).set 71 _ mD_s71).set 72 _ mD_s72) ?_
  clear hP hm ha
  rintro w0 hP
  have hlt6 := hP.msg.lt
  refine (cvec_any _ _ 1 8 _ _ _ hP.cur (by decide) (by decide) hP.len).mono ?_
  rintro e w1 ⟨v, rfl, hb, hc, hg⟩
  have hP := (hP.call hg hc (cvR_len _ _ _)).add hb.slt (fun ad had => Nat.le_trans hlt6 (hb.addr ad had))
  obtain ⟨a1, c1, rfl, _⟩ := hb.slb
  clear hb hlt6
  have hm := hP.msg
  have ha := hP.ans
  clear hc hg
  go_wp2_with fail
  refine gen_wpC (fun w0 => PSt w g5 g6 w0 (mD 4 zero32 zero32 [.slice none 0 0, .slice none 0 0, .slice none 0 0, .slice none 0 0, .slice none 0 0, .slice none 0 0, Value.int .i64 (valP (takeV 4 b) : Int), Value.int .i64 (valP (takeV 4 (takeR 4 b)) : Int), Value.bool false, Value.bool false]) (cvR 1 8 (takeR 4 (takeR 4 b))) ((((false) || shortB 4 b) || shortB 4 (takeR 4 b)) || cvB 1 8 (takeR 4 (takeR 4 b))) [(Value.slice a1 (cvV 1 8 (takeR 4 (takeR 4 b))).length c1, (cvV 1 8 (takeR 4 (takeR 4 b))))]) (hP) ?_
  clear hP hm ha
  rintro w0 hP
  have hlt6 := hP.msg.lt
  refine (cvec_any _ _ 2 1000 _ _ _ hP.cur (by decide) (by decide) hP.len).mono ?_
  rintro e w1 ⟨v, rfl, hb, hc, hg⟩
  have hP := (hP.call hg hc (cvR_len _ _ _)).add hb.slt (fun ad had => Nat.le_trans hlt6 (hb.addr ad had))
  obtain ⟨a2, c2, rfl, _⟩ := hb.slb
  clear hb hlt6
  have hm := hP.msg
  have ha := hP.ans
  clear hc hg
  go_wp2_with fail
  have hF := PSt.fin (C := (mD 4 zero32 zero32 [.slice none 0 0, .slice none 0 0, Value.slice a2 (cvV 2 1000 (cvR 1 8 (takeR 4 (takeR 4 b)))).length c2, Value.slice a1 (cvV 1 8 (takeR 4 (takeR 4 b))).length c1, .slice none 0 0, .slice none 0 0, Value.int .i64 (valP (takeV 4 b) : Int), Value.int .i64 (valP (takeV 4 (takeR 4 b)) : Int), Value.bool false, Value.bool false])) (((hP).set 68 _ mD_s68).set 67 _ mD_s67)
  exact ret_row (.inl rfl) rfl w.heap.size _ _ 75 _ rfl hF.2.1 Try.underlying30 rfl (by kernel_rfl) mD_sz ⟨_, rfl, ⟨_, _, _, _, _, _, [], rfl, rfl, rfl, SlNs.five (SlN.nil _ _) (SlN.nil _ _) (hF.1 _ (List.mem_cons_self ..)) (hF.1 _ (List.mem_cons_of_mem _ (List.mem_cons_self ..))) (SlN.nil _ _), World.ownsRow_nil _ _ _ _, trivial, fun v hv => by cases hv⟩, hF.2.2⟩
end Go.Proofs.Ytnenoecmmelehaa
