/- Part of the proof: HParseD. No conditions of its own. -/
import Derived.Below
import Derived.BigQuiet
import Derived.ChangeOld
import Derived.Deep.CutBlock
import Derived.Deep.DeepCutAuto
import Derived.Deep.Draws
import Derived.Deep.LoopGhost
import Derived.Deep.Quiet
import Derived.Deep.QuietTactic
import Derived.Deep.RegionLaw
import Derived.Great.BuildSlice
import Derived.Great.FillDense
import Derived.Laws.AppendOwn
import Derived.Laws.AppendOwnNone
import Derived.Laws.BytesArg
import Derived.Laws.Concat
import Derived.Laws.MakeOwn
import Derived.Lib.AppendZerosOnto
import Derived.Lib.BufferWrite
import Derived.Lib.ConvBytes
import Derived.Lib.Hide
import Derived.Lib.SlBytesConst
import Derived.OpenShut
import Derived.ProofKit
import Derived.ShutString
import Derived.StillTail
import Derived.Stop.BytesEq
import Derived.Test.YtnenoecmmelehaaProg
import Derived.WalkKit
import Derived.WalkLawsBesides
import Derived.WalkSpells
import Derived.Test.YtnenoecmmelehaaM25
namespace Go.Proofs.Ytnenoecmmelehaa
open Go.RowKit
set_option linter.unusedVariables false
set_option linter.unusedSimpArgs false

theorem MsgN.of {w : World} {base : Nat} {m : MsgP} {k life age : Int} {r mk s1 s2 s3 s4 s5 : List UInt8} {v1 v2 v3 v4 v5 : Value} {psk retry : Bool} (e0 : m.kind = k) (e1 : m.random = r) (e2 : m.mark = mk) (e3 : m.session = s1) (e4 : m.share = s2) (e5 : m.ticket = s3) (e6 : m.nonce = s4) (e7 : m.sig = s5) (e8 : m.certs = []) (e9 : m.life = life) (e10 : m.age = age) (e11 : m.psk = psk) (e12 : m.retry = retry)
    (hr : r.length = 32) (hm : mk.length = 32) (hs : SlNs w base [(v1, s1), (v2, s2), (v3, s3), (v4, s4), (v5, s5)]) : MsgN w base (mD k r mk [v1, v2, v3, v4, v5, .slice none 0 0, .int .i64 life, .int .i64 age, .bool psk, .bool retry]) m := by
  subst e0 e1 e2 e3 e4 e5 e6 e7 e9 e10 e11 e12
  exact ⟨_, _, _, _, _, _, [], rfl, hr, hm, hs, by rw [e8]; exact World.ownsRow_nil _ _ _ _, by rw [e8]; trivial, fun v hv => by cases hv⟩
set_option maxRecDepth 100000 in
set_option maxHeartbeats 4000000 in
theorem parse_w1sp (vb : Value) (b : List UInt8) (w : World) (h : SlB w vb b) (hl : b.length ≤ 1000000) (hs : 4 < (cvV 2 69 (p_l3 35 b)).length) (hq : 0 < (p_l4 b).length) :
    Calls Try.prog 28 #[.int .i64 1, vb] w fun e w' => ∃ C, e = .returned (.agg C) ∧ MsgN w' w.heap.size C ({ emptyM 1 with random := takeV 32 (takeR 2 b), session := cvV 1 32 (p_l1 b), share := (cvV 2 69 (p_l3 35 b)).drop 4, psk := true, ticket := cvV 2 1000 (p_l5 b), age := (valP (takeV 4 (p_l6 b)) : Int), mark := takeV 32 (takeR 3 (takeR 4 (p_l6 b))) }) ∧ Below w.heap.size w w' := by
  replace hs : 4 < (cvV 2 69 (takeR 35 (cvR 1 32 (takeR 32 (takeR 2 b))))).length := hs
  replace hq : 0 < (cvR 2 69 (takeR 35 (cvR 1 32 (takeR 32 (takeR 2 b))))).length := hq
  have HS := Lib.hid h
  obtain ⟨a, cap, rfl, _⟩ := h
  go_enter Try.func28, Try.ntmps28
  go_upto_region 3 with (refine wpl_val rfl (.agg (mD 1 zero32 zero32 [.slice none 0 0, .slice none 0 0, .slice none 0 0, .slice none 0 0, .slice none 0 0, .slice none 0 0, Value.int .i64 0, Value.int .i64 0, Value.bool false, Value.bool false])) (exec_built _ _ _ _ _ _ rfl (by kernel_rfl) (built_kind 1) _) ?_)
  obtain ⟨g5, hg5⟩ : ∃ g, g = w.heap.size + 1 := ⟨_, rfl⟩
  obtain ⟨g6, hg6⟩ : ∃ g, g = w.heap.size + 1 + 1 := ⟨_, rfl⟩
  rw [← hg6, ← hg5]
  refine gen_wp (fun w0 => PSt w g5 g6 w0 (mD 1 zero32 zero32 [.slice none 0 0, .slice none 0 0, .slice none 0 0, .slice none 0 0, .slice none 0 0, .slice none 0 0, Value.int .i64 0, Value.int .i64 0, Value.bool false, Value.bool false]) b false []) (PSt.start HS.out hl hg5 hg6 (zH_size.trans mD_sz.symm)) ?_
  clear hg5 hg6 HS
  rintro w0 hP
  have hm := hP.msg
  have ha := hP.ans
  have n6 : w.heap.size ≠ g6 := by have := hP.lt5; have := hP.lt6; omega
  have n5 : w.heap.size ≠ g5 := by have := hP.lt5; omega
  have n56 : g5 ≠ g6 := by have := hP.lt6; omega
  go_wp2_with fail
  refine gen_wpC (fun w0 => PSt w g5 g6 w0 (mD 1 zero32 zero32 [.slice none 0 0, .slice none 0 0, .slice none 0 0, .slice none 0 0, .slice none 0 0, .slice none 0 0, Value.int .i64 0, Value.int .i64 0, Value.bool false, Value.bool false]) b (false) []) (hP) ?_
  clear hP hm ha
  rintro w0 hP
  refine (take_any _ _ 2 _ _ _ hP.cur (by decide) hP.len).mono ?_
  rintro e w1 ⟨v, rfl, -, hc, hg⟩
  have hP := hP.call hg hc (takeR_len _ _)
  have hm := hP.msg
  have ha := hP.ans
  clear hc hg
  go_wp2_with fail
  refine gen_wpC (fun w0 => PSt w g5 g6 w0 (mD 1 zero32 zero32 [.slice none 0 0, .slice none 0 0, .slice none 0 0, .slice none 0 0, .slice none 0 0, .slice none 0 0, Value.int .i64 0, Value.int .i64 0, Value.bool false, Value.bool false]) (takeR 2 b) ((false) || shortB 2 b) []) (hP) ?_
  clear hP hm ha
  rintro w0 hP
  refine (cword_any _ _ _ _ _ hP.cur hP.bel.size hP.len).mono ?_
  rintro e w1 ⟨rfl, hc, hg⟩
  have hP := hP.call hg hc (takeR_len _ _)
  have hx32 := (AB_size (takeV 32 (takeR 2 b))).trans (takeV_len _ _)
  have hm := hP.msg
  have ha := hP.ans
  clear hc hg
  go_wp2_with fail
  refine gen_wpC (fun w0 => PSt w g5 g6 w0 (mD 1 (takeV 32 (takeR 2 b)) zero32 [.slice none 0 0, .slice none 0 0, .slice none 0 0, .slice none 0 0, .slice none 0 0, .slice none 0 0, Value.int .i64 0, Value.int .i64 0, Value.bool false, Value.bool false]) (takeR 32 (takeR 2 b)) (((false) || shortB 2 b) || shortB 32 (takeR 2 b)) []) (hP.setR (by first | rfl | exact mD_oRt _ _ _ _ _)) ?_
  clear hP hm ha
  rintro w0 hP
  have hlt6 := hP.msg.lt
  refine (cvec_any _ _ 1 32 _ _ _ hP.cur (by decide) (by decide) hP.len).mono ?_
  rintro e w1 ⟨v, rfl, hb, hc, hg⟩
  have hP := (hP.call hg hc (cvR_len _ _ _)).add hb.slt (fun ad had => Nat.le_trans hlt6 (hb.addr ad had))
  obtain ⟨a1, c1, rfl, _⟩ := hb.slb
  clear hb hlt6
  have hm := hP.msg
  have ha := hP.ans
  clear hc hg
  go_wp2_with fail
  refine gen_wpC (fun w0 => PSt w g5 g6 w0 (mD 1 (takeV 32 (takeR 2 b)) zero32 [Value.slice a1 (cvV 1 32 (takeR 32 (takeR 2 b))).length c1, .slice none 0 0, .slice none 0 0, .slice none 0 0, .slice none 0 0, .slice none 0 0, Value.int .i64 0, Value.int .i64 0, Value.bool false, Value.bool false]) (cvR 1 32 (takeR 32 (takeR 2 b))) ((((false) || shortB 2 b) || shortB 32 (takeR 2 b)) || cvB 1 32 (takeR 32 (takeR 2 b))) [(Value.slice a1 (cvV 1 32 (takeR 32 (takeR 2 b))).length c1, (cvV 1 32 (takeR 32 (takeR 2 b))))]) ((hP).set 65 _ mD_s65) ?_
  clear hP hm ha
  rintro w0 hP
  refine (take_any _ _ 35 _ _ _ hP.cur (by decide) hP.len).mono ?_
  rintro e w1 ⟨v, rfl, -, hc, hg⟩
  have hP := hP.call hg hc (takeR_len _ _)
  have hm := hP.msg
  have ha := hP.ans
  clear hc hg
  go_wp2_with fail
  refine gen_wpC (fun w0 => PSt w g5 g6 w0 (mD 1 (takeV 32 (takeR 2 b)) zero32 [Value.slice a1 (cvV 1 32 (takeR 32 (takeR 2 b))).length c1, .slice none 0 0, .slice none 0 0, .slice none 0 0, .slice none 0 0, .slice none 0 0, Value.int .i64 0, Value.int .i64 0, Value.bool false, Value.bool false]) (takeR 35 (cvR 1 32 (takeR 32 (takeR 2 b)))) (((((false) || shortB 2 b) || shortB 32 (takeR 2 b)) || cvB 1 32 (takeR 32 (takeR 2 b))) || shortB 35 (cvR 1 32 (takeR 32 (takeR 2 b)))) [(Value.slice a1 (cvV 1 32 (takeR 32 (takeR 2 b))).length c1, (cvV 1 32 (takeR 32 (takeR 2 b))))]) (hP) ?_
  clear hP hm ha
  rintro w0 hP
  have hlt6 := hP.msg.lt
  have hcv := cvec_any g5 w.heap.size 2 69 _ _ _ hP.cur (by decide) (by decide) hP.len
  have hYl := cvR_len 2 69 (takeR 35 (cvR 1 32 (takeR 32 (takeR 2 b))))
  have HSQ := Lib.hid (⟨hs, hq⟩ : _ ∧ _)
  clear hs hq
  obtain ⟨X, hX⟩ : ∃ X, X = (cvV 2 69 (takeR 35 (cvR 1 32 (takeR 32 (takeR 2 b))))) := ⟨_, rfl⟩
  obtain ⟨Y, hY⟩ : ∃ Y, Y = (cvR 2 69 (takeR 35 (cvR 1 32 (takeR 32 (takeR 2 b))))) := ⟨_, rfl⟩
  obtain ⟨hs, hq⟩ := HSQ.out
  rw [← hX] at hs hcv
  rw [← hY] at hq hcv hYl
  have HXY := Lib.hid (⟨hX, hY⟩ : _ ∧ _)
  clear hX hY HSQ
  refine hcv.mono ?_
  rintro e w1 ⟨v, rfl, hb, hc, hg⟩
  clear hcv
  obtain ⟨z, hP⟩ : ∃ z, PSt w g5 g6 w1 (mD 1 (takeV 32 (takeR 2 b)) zero32 [Value.slice a1 (cvV 1 32 (takeR 32 (takeR 2 b))).length c1, .slice none 0 0, .slice none 0 0, .slice none 0 0, .slice none 0 0, .slice none 0 0, Value.int .i64 0, Value.int .i64 0, Value.bool false, Value.bool false]) Y z [(Value.slice a1 (cvV 1 32 (takeR 32 (takeR 2 b))).length c1, (cvV 1 32 (takeR 32 (takeR 2 b))))] := ⟨_, hP.call hg hc hYl⟩
  have hslb := hb.slt
  obtain ⟨gs, cs, cur, rfl, hgs, hrs, k1, k2, k3, -⟩ := hb.open (by omega)
  have hsd : SlT w1 (.slice (some ⟨gs, 4, none⟩) (X.length - 4) (cs - 4)) (X.drop 4) := ⟨by have := hslb.1.dropAt (n := 4) (by omega); rwa [show (some ⟨gs, 0, none⟩ : Option Addr).map (fun ad => ad.add 4) = some ⟨gs, 4, none⟩ from rfl] at this, fun ad h => by obtain rfl := Option.some.inj h; exact ⟨_, _, hrs.heap⟩⟩
  have hP := hP.add hsd (fun ad h => by obtain rfl := Option.some.inj h; exact Nat.le_trans hlt6 hgs)
  have hn4 : cs ≠ 4 := by omega
  have x4 : (4 : Int) < (X.length : Int) := by omega
  have x5 : 4 ≤ X.length := by omega
  have x6 : X.length ≤ cs := k1
  clear hb hlt6 hslb hgs hrs k1 k2 k3 hsd
  have hm := hP.msg
  have ha := hP.ans
  clear hc hg
  obtain ⟨vc, hrc, hsc, -⟩ := hP.cur
  obtain ⟨ac, cc, rfl, -⟩ := hsc
  have xq : (0 : Int) < (Y.length : Int) := by omega
  clear hs hq hYl
  go_wp2_with fail
  refine gen_wpC (fun w0 => PSt w g5 g6 w0 (mD 1 (takeV 32 (takeR 2 b)) zero32 [Value.slice a1 (cvV 1 32 (takeR 32 (takeR 2 b))).length c1, Value.slice (some ⟨gs, 4, none⟩) (X.length - 4) (cs - 4), .slice none 0 0, .slice none 0 0, .slice none 0 0, .slice none 0 0, Value.int .i64 0, Value.int .i64 0, Value.bool true, Value.bool false]) Y (z) [(Value.slice (some ⟨gs, 4, none⟩) (X.length - 4) (cs - 4), X.drop 4), (Value.slice a1 (cvV 1 32 (takeR 32 (takeR 2 b))).length c1, (cvV 1 32 (takeR 32 (takeR 2 b))))]) (((hP).set 66 _ mD_s66).set 73 _ mD_s73) ?_
  clear hP hm ha
  rintro w0 hP
  refine (take_any _ _ 12 _ _ _ hP.cur (by decide) hP.len).mono ?_
  rintro e w1 ⟨v, rfl, -, hc, hg⟩
  have hP := hP.call hg hc (takeR_len _ _)
  have hm := hP.msg
  have ha := hP.ans
  clear hc hg
  go_wp2_with fail
  refine gen_wpC (fun w0 => PSt w g5 g6 w0 (mD 1 (takeV 32 (takeR 2 b)) zero32 [Value.slice a1 (cvV 1 32 (takeR 32 (takeR 2 b))).length c1, Value.slice (some ⟨gs, 4, none⟩) (X.length - 4) (cs - 4), .slice none 0 0, .slice none 0 0, .slice none 0 0, .slice none 0 0, Value.int .i64 0, Value.int .i64 0, Value.bool true, Value.bool false]) (takeR 12 Y) ((z) || shortB 12 Y) [(Value.slice (some ⟨gs, 4, none⟩) (X.length - 4) (cs - 4), X.drop 4), (Value.slice a1 (cvV 1 32 (takeR 32 (takeR 2 b))).length c1, (cvV 1 32 (takeR 32 (takeR 2 b))))]) (hP) ?_
  clear hP hm ha
  rintro w0 hP
  have hlt6 := hP.msg.lt
  refine (cvec_any _ _ 2 1000 _ _ _ hP.cur (by decide) (by decide) hP.len).mono ?_
  rintro e w1 ⟨v, rfl, hb, hc, hg⟩
  have hP := (hP.call hg hc (cvR_len _ _ _)).add hb.slt (fun ad had => Nat.le_trans hlt6 (hb.addr ad had))
  obtain ⟨a3, c3, rfl, _⟩ := hb.slb
  clear hb hlt6
  have hm := hP.msg
  have ha := hP.ans
  clear hc hg
  go_wp2_with fail
  refine gen_wpC (fun w0 => PSt w g5 g6 w0 (mD 1 (takeV 32 (takeR 2 b)) zero32 [Value.slice a1 (cvV 1 32 (takeR 32 (takeR 2 b))).length c1, Value.slice (some ⟨gs, 4, none⟩) (X.length - 4) (cs - 4), Value.slice a3 (cvV 2 1000 (takeR 12 Y)).length c3, .slice none 0 0, .slice none 0 0, .slice none 0 0, Value.int .i64 0, Value.int .i64 0, Value.bool true, Value.bool false]) (cvR 2 1000 (takeR 12 Y)) (((z) || shortB 12 Y) || cvB 2 1000 (takeR 12 Y)) [(Value.slice a3 (cvV 2 1000 (takeR 12 Y)).length c3, (cvV 2 1000 (takeR 12 Y))), (Value.slice (some ⟨gs, 4, none⟩) (X.length - 4) (cs - 4), X.drop 4), (Value.slice a1 (cvV 1 32 (takeR 32 (takeR 2 b))).length c1, (cvV 1 32 (takeR 32 (takeR 2 b))))]) ((hP).set 67 _ mD_s67) ?_
  clear hP hm ha
  rintro w0 hP
  refine (cnum_any _ _ 4 _ _ _ hP.cur (by decide) hP.len).mono ?_
  rintro e w1 ⟨rfl, hc, hg⟩
  have hP := hP.call hg hc (takeR_len _ _)
  have hm := hP.msg
  have ha := hP.ans
  clear hc hg
  go_wp2_with fail
  refine gen_wpC (fun w0 => PSt w g5 g6 w0 (mD 1 (takeV 32 (takeR 2 b)) zero32 [Value.slice a1 (cvV 1 32 (takeR 32 (takeR 2 b))).length c1, Value.slice (some ⟨gs, 4, none⟩) (X.length - 4) (cs - 4), Value.slice a3 (cvV 2 1000 (takeR 12 Y)).length c3, .slice none 0 0, .slice none 0 0, .slice none 0 0, Value.int .i64 0, Value.int .i64 (valP (takeV 4 (cvR 2 1000 (takeR 12 Y))) : Int), Value.bool true, Value.bool false]) (takeR 4 (cvR 2 1000 (takeR 12 Y))) ((((z) || shortB 12 Y) || cvB 2 1000 (takeR 12 Y)) || shortB 4 (cvR 2 1000 (takeR 12 Y))) [(Value.slice a3 (cvV 2 1000 (takeR 12 Y)).length c3, (cvV 2 1000 (takeR 12 Y))), (Value.slice (some ⟨gs, 4, none⟩) (X.length - 4) (cs - 4), X.drop 4), (Value.slice a1 (cvV 1 32 (takeR 32 (takeR 2 b))).length c1, (cvV 1 32 (takeR 32 (takeR 2 b))))]) ((hP).set 72 _ mD_s72) ?_
  clear hP hm ha
  rintro w0 hP
  refine (take_any _ _ 3 _ _ _ hP.cur (by decide) hP.len).mono ?_
  rintro e w1 ⟨v, rfl, -, hc, hg⟩
  have hP := hP.call hg hc (takeR_len _ _)
  have hm := hP.msg
  have ha := hP.ans
  clear hc hg
  go_wp2_with fail
  refine gen_wpC (fun w0 => PSt w g5 g6 w0 (mD 1 (takeV 32 (takeR 2 b)) zero32 [Value.slice a1 (cvV 1 32 (takeR 32 (takeR 2 b))).length c1, Value.slice (some ⟨gs, 4, none⟩) (X.length - 4) (cs - 4), Value.slice a3 (cvV 2 1000 (takeR 12 Y)).length c3, .slice none 0 0, .slice none 0 0, .slice none 0 0, Value.int .i64 0, Value.int .i64 (valP (takeV 4 (cvR 2 1000 (takeR 12 Y))) : Int), Value.bool true, Value.bool false]) (takeR 3 (takeR 4 (cvR 2 1000 (takeR 12 Y)))) (((((z) || shortB 12 Y) || cvB 2 1000 (takeR 12 Y)) || shortB 4 (cvR 2 1000 (takeR 12 Y))) || shortB 3 (takeR 4 (cvR 2 1000 (takeR 12 Y)))) [(Value.slice a3 (cvV 2 1000 (takeR 12 Y)).length c3, (cvV 2 1000 (takeR 12 Y))), (Value.slice (some ⟨gs, 4, none⟩) (X.length - 4) (cs - 4), X.drop 4), (Value.slice a1 (cvV 1 32 (takeR 32 (takeR 2 b))).length c1, (cvV 1 32 (takeR 32 (takeR 2 b))))]) (hP) ?_
  clear hP hm ha
  rintro w0 hP
  refine (cword_any _ _ _ _ _ hP.cur hP.bel.size hP.len).mono ?_
  rintro e w1 ⟨rfl, hc, hg⟩
  have hP := hP.call hg hc (takeR_len _ _)
  have hx32 := (AB_size (takeV 32 (takeR 3 (takeR 4 (cvR 2 1000 (takeR 12 Y)))))).trans (takeV_len _ _)
  have hm := hP.msg
  have ha := hP.ans
  clear hc hg
  go_wp2_with fail
  have hF := PSt.fin (C := (mD 1 (takeV 32 (takeR 2 b)) (takeV 32 (takeR 3 (takeR 4 (cvR 2 1000 (takeR 12 Y))))) [Value.slice a1 (cvV 1 32 (takeR 32 (takeR 2 b))).length c1, Value.slice (some ⟨gs, 4, none⟩) (X.length - 4) (cs - 4), Value.slice a3 (cvV 2 1000 (takeR 12 Y)).length c3, .slice none 0 0, .slice none 0 0, .slice none 0 0, Value.int .i64 0, Value.int .i64 (valP (takeV 4 (cvR 2 1000 (takeR 12 Y))) : Int), Value.bool true, Value.bool false])) (hP.setR (by first | rfl | exact mD_oMt _ _ _ _ _))
  obtain ⟨hX, hY⟩ := HXY.out
  have e4 : p_l4 b = Y := hY.symm
  have e5 : (cvV 2 69 (p_l3 35 b)) = X := hX.symm
  unfold p_l1
  unfold p_l6 p_l5; rw [e4]
  try rw [e5]
  exact ret_row (.inl rfl) rfl w.heap.size _ _ 75 _ rfl hF.2.1 Try.underlying30 rfl (by kernel_rfl) mD_sz ⟨_, rfl, MsgN.of rfl rfl rfl rfl rfl rfl rfl rfl rfl rfl rfl rfl rfl (takeV_len _ _) (takeV_len _ _) (SlNs.five (hF.1 _ (List.mem_cons_of_mem _ (List.mem_cons_of_mem _ (List.mem_cons_self ..)))) (hF.1 _ (List.mem_cons_of_mem _ (List.mem_cons_self ..))) (hF.1 _ (List.mem_cons_self ..)) (SlN.nil _ _) (SlN.nil _ _)), hF.2.2⟩
set_option maxRecDepth 100000 in
set_option maxHeartbeats 4000000 in
theorem parse_w1sn (vb : Value) (b : List UInt8) (w : World) (h : SlB w vb b) (hl : b.length ≤ 1000000) (hs : 4 < (cvV 2 69 (p_l3 35 b)).length) (hq : ¬ 0 < (p_l4 b).length) :
    Calls Try.prog 28 #[.int .i64 1, vb] w fun e w' => ∃ C, e = .returned (.agg C) ∧ MsgN w' w.heap.size C ({ emptyM 1 with random := takeV 32 (takeR 2 b), session := cvV 1 32 (p_l1 b), share := (cvV 2 69 (p_l3 35 b)).drop 4, psk := false }) ∧ Below w.heap.size w w' := by
  replace hs : 4 < (cvV 2 69 (takeR 35 (cvR 1 32 (takeR 32 (takeR 2 b))))).length := hs
  replace hq : ¬ 0 < (cvR 2 69 (takeR 35 (cvR 1 32 (takeR 32 (takeR 2 b))))).length := hq
  have HS := Lib.hid h
  obtain ⟨a, cap, rfl, _⟩ := h
  go_enter Try.func28, Try.ntmps28
  go_upto_region 3 with (refine wpl_val rfl (.agg (mD 1 zero32 zero32 [.slice none 0 0, .slice none 0 0, .slice none 0 0, .slice none 0 0, .slice none 0 0, .slice none 0 0, Value.int .i64 0, Value.int .i64 0, Value.bool false, Value.bool false])) (exec_built _ _ _ _ _ _ rfl (by kernel_rfl) (built_kind 1) _) ?_)
  obtain ⟨g5, hg5⟩ : ∃ g, g = w.heap.size + 1 := ⟨_, rfl⟩
  obtain ⟨g6, hg6⟩ : ∃ g, g = w.heap.size + 1 + 1 := ⟨_, rfl⟩
  rw [← hg6, ← hg5]
  refine gen_wp (fun w0 => PSt w g5 g6 w0 (mD 1 zero32 zero32 [.slice none 0 0, .slice none 0 0, .slice none 0 0, .slice none 0 0, .slice none 0 0, .slice none 0 0, Value.int .i64 0, Value.int .i64 0, Value.bool false, Value.bool false]) b false []) (PSt.start HS.out hl hg5 hg6 (zH_size.trans mD_sz.symm)) ?_
  clear hg5 hg6 HS
  rintro w0 hP
  have hm := hP.msg
  have ha := hP.ans
  have n6 : w.heap.size ≠ g6 := by have := hP.lt5; have := hP.lt6; omega
  have n5 : w.heap.size ≠ g5 := by have := hP.lt5; omega
  have n56 : g5 ≠ g6 := by have := hP.lt6; omega
  go_wp2_with fail
  refine gen_wpC (fun w0 => PSt w g5 g6 w0 (mD 1 zero32 zero32 [.slice none 0 0, .slice none 0 0, .slice none 0 0, .slice none 0 0, .slice none 0 0, .slice none 0 0, Value.int .i64 0, Value.int .i64 0, Value.bool false, Value.bool false]) b (false) []) (hP) ?_
  clear hP hm ha
  rintro w0 hP
  refine (take_any _ _ 2 _ _ _ hP.cur (by decide) hP.len).mono ?_
  rintro e w1 ⟨v, rfl, -, hc, hg⟩
  have hP := hP.call hg hc (takeR_len _ _)
  have hm := hP.msg
  have ha := hP.ans
  clear hc hg
  go_wp2_with fail
  refine gen_wpC (fun w0 => PSt w g5 g6 w0 (mD 1 zero32 zero32 [.slice none 0 0, .slice none 0 0, .slice none 0 0, .slice none 0 0, .slice none 0 0, .slice none 0 0, Value.int .i64 0, Value.int .i64 0, Value.bool false, Value.bool false]) (takeR 2 b) ((false) || shortB 2 b) []) (hP) ?_
  clear hP hm ha
  rintro w0 hP
  refine (cword_any _ _ _ _ _ hP.cur hP.bel.size hP.len).mono ?_
  rintro e w1 ⟨rfl, hc, hg⟩
  have hP := hP.call hg hc (takeR_len _ _)
  have hx32 := (AB_size (takeV 32 (takeR 2 b))).trans (takeV_len _ _)
  have hm := hP.msg
  have ha := hP.ans
  clear hc hg
  go_wp2_with fail
  refine gen_wpC (fun w0 => PSt w g5 g6 w0 (mD 1 (takeV 32 (takeR 2 b)) zero32 [.slice none 0 0, .slice none 0 0, .slice none 0 0, .slice none 0 0, .slice none 0 0, .slice none 0 0, Value.int .i64 0, Value.int .i64 0, Value.bool false, Value.bool false]) (takeR 32 (takeR 2 b)) (((false) || shortB 2 b) || shortB 32 (takeR 2 b)) []) (hP.setR (by first | rfl | exact mD_oRt _ _ _ _ _)) ?_
  clear hP hm ha
  rintro w0 hP
  have hlt6 := hP.msg.lt
  refine (cvec_any _ _ 1 32 _ _ _ hP.cur (by decide) (by decide) hP.len).mono ?_
  rintro e w1 ⟨v, rfl, hb, hc, hg⟩
  have hP := (hP.call hg hc (cvR_len _ _ _)).add hb.slt (fun ad had => Nat.le_trans hlt6 (hb.addr ad had))
  obtain ⟨a1, c1, rfl, _⟩ := hb.slb
  clear hb hlt6
  have hm := hP.msg
  have ha := hP.ans
  clear hc hg
  go_wp2_with fail
  refine gen_wpC (fun w0 => PSt w g5 g6 w0 (mD 1 (takeV 32 (takeR 2 b)) zero32 [Value.slice a1 (cvV 1 32 (takeR 32 (takeR 2 b))).length c1, .slice none 0 0, .slice none 0 0, .slice none 0 0, .slice none 0 0, .slice none 0 0, Value.int .i64 0, Value.int .i64 0, Value.bool false, Value.bool false]) (cvR 1 32 (takeR 32 (takeR 2 b))) ((((false) || shortB 2 b) || shortB 32 (takeR 2 b)) || cvB 1 32 (takeR 32 (takeR 2 b))) [(Value.slice a1 (cvV 1 32 (takeR 32 (takeR 2 b))).length c1, (cvV 1 32 (takeR 32 (takeR 2 b))))]) ((hP).set 65 _ mD_s65) ?_
  clear hP hm ha
  rintro w0 hP
  refine (take_any _ _ 35 _ _ _ hP.cur (by decide) hP.len).mono ?_
  rintro e w1 ⟨v, rfl, -, hc, hg⟩
  have hP := hP.call hg hc (takeR_len _ _)
  have hm := hP.msg
  have ha := hP.ans
  clear hc hg
  go_wp2_with fail
  refine gen_wpC (fun w0 => PSt w g5 g6 w0 (mD 1 (takeV 32 (takeR 2 b)) zero32 [Value.slice a1 (cvV 1 32 (takeR 32 (takeR 2 b))).length c1, .slice none 0 0, .slice none 0 0, .slice none 0 0, .slice none 0 0, .slice none 0 0, Value.int .i64 0, Value.int .i64 0, Value.bool false, Value.bool false]) (takeR 35 (cvR 1 32 (takeR 32 (takeR 2 b)))) (((((false) || shortB 2 b) || shortB 32 (takeR 2 b)) || cvB 1 32 (takeR 32 (takeR 2 b))) || shortB 35 (cvR 1 32 (takeR 32 (takeR 2 b)))) [(Value.slice a1 (cvV 1 32 (takeR 32 (takeR 2 b))).length c1, (cvV 1 32 (takeR 32 (takeR 2 b))))]) (hP) ?_
  clear hP hm ha
  rintro w0 hP
  have hlt6 := hP.msg.lt
  have hcv := cvec_any g5 w.heap.size 2 69 _ _ _ hP.cur (by decide) (by decide) hP.len
  have hYl := cvR_len 2 69 (takeR 35 (cvR 1 32 (takeR 32 (takeR 2 b))))
  have HSQ := Lib.hid (⟨hs, hq⟩ : _ ∧ _)
  clear hs hq
  obtain ⟨X, hX⟩ : ∃ X, X = (cvV 2 69 (takeR 35 (cvR 1 32 (takeR 32 (takeR 2 b))))) := ⟨_, rfl⟩
  obtain ⟨Y, hY⟩ : ∃ Y, Y = (cvR 2 69 (takeR 35 (cvR 1 32 (takeR 32 (takeR 2 b))))) := ⟨_, rfl⟩
  obtain ⟨hs, hq⟩ := HSQ.out
  rw [← hX] at hs hcv
  rw [← hY] at hq hcv hYl
  have HXY := Lib.hid (⟨hX, hY⟩ : _ ∧ _)
  clear hX hY HSQ
  refine hcv.mono ?_
  rintro e w1 ⟨v, rfl, hb, hc, hg⟩
  clear hcv
  obtain ⟨z, hP⟩ : ∃ z, PSt w g5 g6 w1 (mD 1 (takeV 32 (takeR 2 b)) zero32 [Value.slice a1 (cvV 1 32 (takeR 32 (takeR 2 b))).length c1, .slice none 0 0, .slice none 0 0, .slice none 0 0, .slice none 0 0, .slice none 0 0, Value.int .i64 0, Value.int .i64 0, Value.bool false, Value.bool false]) Y z [(Value.slice a1 (cvV 1 32 (takeR 32 (takeR 2 b))).length c1, (cvV 1 32 (takeR 32 (takeR 2 b))))] := ⟨_, hP.call hg hc hYl⟩
  have hslb := hb.slt
  obtain ⟨gs, cs, cur, rfl, hgs, hrs, k1, k2, k3, -⟩ := hb.open (by omega)
  have hsd : SlT w1 (.slice (some ⟨gs, 4, none⟩) (X.length - 4) (cs - 4)) (X.drop 4) := ⟨by have := hslb.1.dropAt (n := 4) (by omega); rwa [show (some ⟨gs, 0, none⟩ : Option Addr).map (fun ad => ad.add 4) = some ⟨gs, 4, none⟩ from rfl] at this, fun ad h => by obtain rfl := Option.some.inj h; exact ⟨_, _, hrs.heap⟩⟩
  have hP := hP.add hsd (fun ad h => by obtain rfl := Option.some.inj h; exact Nat.le_trans hlt6 hgs)
  have hn4 : cs ≠ 4 := by omega
  have x4 : (4 : Int) < (X.length : Int) := by omega
  have x5 : 4 ≤ X.length := by omega
  have x6 : X.length ≤ cs := k1
  clear hb hlt6 hslb hgs hrs k1 k2 k3 hsd
  have hm := hP.msg
  have ha := hP.ans
  clear hc hg
  obtain ⟨vc, hrc, hsc, -⟩ := hP.cur
  obtain ⟨ac, cc, rfl, -⟩ := hsc
  have xq : ¬ (0 : Int) < (Y.length : Int) := by omega
  clear hs hq hYl
  go_wp2_with fail
  have hF := PSt.fin (C := (mD 1 (takeV 32 (takeR 2 b)) zero32 [Value.slice a1 (cvV 1 32 (takeR 32 (takeR 2 b))).length c1, Value.slice (some ⟨gs, 4, none⟩) (X.length - 4) (cs - 4), .slice none 0 0, .slice none 0 0, .slice none 0 0, .slice none 0 0, Value.int .i64 0, Value.int .i64 0, Value.bool false, Value.bool false])) ((hP).set 66 _ mD_s66)
  obtain ⟨hX, hY⟩ := HXY.out
  have e4 : p_l4 b = Y := hY.symm
  have e5 : (cvV 2 69 (p_l3 35 b)) = X := hX.symm
  unfold p_l1
  try rw [e5]
  exact ret_row (.inl rfl) rfl w.heap.size _ _ 75 _ rfl hF.2.1 Try.underlying30 rfl (by kernel_rfl) mD_sz ⟨_, rfl, MsgN.of rfl rfl rfl rfl rfl rfl rfl rfl rfl rfl rfl rfl rfl (takeV_len _ _) (rfl) (SlNs.five (hF.1 _ (List.mem_cons_of_mem _ (List.mem_cons_self ..))) (hF.1 _ (List.mem_cons_self ..)) (SlN.nil _ _) (SlN.nil _ _) (SlN.nil _ _)), hF.2.2⟩
set_option maxRecDepth 100000 in
set_option maxHeartbeats 4000000 in
theorem parse_w1np (vb : Value) (b : List UInt8) (w : World) (h : SlB w vb b) (hl : b.length ≤ 1000000) (hs : ¬ 4 < (cvV 2 69 (p_l3 35 b)).length) (hq : 0 < (p_l4 b).length) :
    Calls Try.prog 28 #[.int .i64 1, vb] w fun e w' => ∃ C, e = .returned (.agg C) ∧ MsgN w' w.heap.size C ({ emptyM 1 with random := takeV 32 (takeR 2 b), session := cvV 1 32 (p_l1 b), share := [], psk := true, ticket := cvV 2 1000 (p_l5 b), age := (valP (takeV 4 (p_l6 b)) : Int), mark := takeV 32 (takeR 3 (takeR 4 (p_l6 b))) }) ∧ Below w.heap.size w w' := by
  replace hs : ¬ 4 < (cvV 2 69 (takeR 35 (cvR 1 32 (takeR 32 (takeR 2 b))))).length := hs
  replace hq : 0 < (cvR 2 69 (takeR 35 (cvR 1 32 (takeR 32 (takeR 2 b))))).length := hq
  have HS := Lib.hid h
  obtain ⟨a, cap, rfl, _⟩ := h
  go_enter Try.func28, Try.ntmps28
  go_upto_region 3 with (refine wpl_val rfl (.agg (mD 1 zero32 zero32 [.slice none 0 0, .slice none 0 0, .slice none 0 0, .slice none 0 0, .slice none 0 0, .slice none 0 0, Value.int .i64 0, Value.int .i64 0, Value.bool false, Value.bool false])) (exec_built _ _ _ _ _ _ rfl (by kernel_rfl) (built_kind 1) _) ?_)
  obtain ⟨g5, hg5⟩ : ∃ g, g = w.heap.size + 1 := ⟨_, rfl⟩
  obtain ⟨g6, hg6⟩ : ∃ g, g = w.heap.size + 1 + 1 := ⟨_, rfl⟩
  rw [← hg6, ← hg5]
  refine gen_wp (fun w0 => PSt w g5 g6 w0 (mD 1 zero32 zero32 [.slice none 0 0, .slice none 0 0, .slice none 0 0, .slice none 0 0, .slice none 0 0, .slice none 0 0, Value.int .i64 0, Value.int .i64 0, Value.bool false, Value.bool false]) b false []) (PSt.start HS.out hl hg5 hg6 (zH_size.trans mD_sz.symm)) ?_
  clear hg5 hg6 HS
  rintro w0 hP
  have hm := hP.msg
  have ha := hP.ans
  have n6 : w.heap.size ≠ g6 := by have := hP.lt5; have := hP.lt6; omega
  have n5 : w.heap.size ≠ g5 := by have := hP.lt5; omega
  have n56 : g5 ≠ g6 := by have := hP.lt6; omega
  go_wp2_with fail
  refine gen_wpC (fun w0 => PSt w g5 g6 w0 (mD 1 zero32 zero32 [.slice none 0 0, .slice none 0 0, .slice none 0 0, .slice none 0 0, .slice none 0 0, .slice none 0 0, Value.int .i64 0, Value.int .i64 0, Value.bool false, Value.bool false]) b (false) []) (hP) ?_
  clear hP hm ha
  rintro w0 hP
  refine (take_any _ _ 2 _ _ _ hP.cur (by decide) hP.len).mono ?_
  rintro e w1 ⟨v, rfl, -, hc, hg⟩
  have hP := hP.call hg hc (takeR_len _ _)
  have hm := hP.msg
  have ha := hP.ans
  clear hc hg
  go_wp2_with fail
  refine gen_wpC (fun w0 => PSt w g5 g6 w0 (mD 1 zero32 zero32 [.slice none 0 0, .slice none 0 0, .slice none 0 0, .slice none 0 0, .slice none 0 0, .slice none 0 0, Value.int .i64 0, Value.int .i64 0, Value.bool false, Value.bool false]) (takeR 2 b) ((false) || shortB 2 b) []) (hP) ?_
  clear hP hm ha
  rintro w0 hP
  refine (cword_any _ _ _ _ _ hP.cur hP.bel.size hP.len).mono ?_
  rintro e w1 ⟨rfl, hc, hg⟩
  have hP := hP.call hg hc (takeR_len _ _)
  have hx32 := (AB_size (takeV 32 (takeR 2 b))).trans (takeV_len _ _)
  have hm := hP.msg
  have ha := hP.ans
  clear hc hg
  go_wp2_with fail
  refine gen_wpC (fun w0 => PSt w g5 g6 w0 (mD 1 (takeV 32 (takeR 2 b)) zero32 [.slice none 0 0, .slice none 0 0, .slice none 0 0, .slice none 0 0, .slice none 0 0, .slice none 0 0, Value.int .i64 0, Value.int .i64 0, Value.bool false, Value.bool false]) (takeR 32 (takeR 2 b)) (((false) || shortB 2 b) || shortB 32 (takeR 2 b)) []) (hP.setR (by first | rfl | exact mD_oRt _ _ _ _ _)) ?_
  clear hP hm ha
  rintro w0 hP
  have hlt6 := hP.msg.lt
  refine (cvec_any _ _ 1 32 _ _ _ hP.cur (by decide) (by decide) hP.len).mono ?_
  rintro e w1 ⟨v, rfl, hb, hc, hg⟩
  have hP := (hP.call hg hc (cvR_len _ _ _)).add hb.slt (fun ad had => Nat.le_trans hlt6 (hb.addr ad had))
  obtain ⟨a1, c1, rfl, _⟩ := hb.slb
  clear hb hlt6
  have hm := hP.msg
  have ha := hP.ans
  clear hc hg
  go_wp2_with fail
  refine gen_wpC (fun w0 => PSt w g5 g6 w0 (mD 1 (takeV 32 (takeR 2 b)) zero32 [Value.slice a1 (cvV 1 32 (takeR 32 (takeR 2 b))).length c1, .slice none 0 0, .slice none 0 0, .slice none 0 0, .slice none 0 0, .slice none 0 0, Value.int .i64 0, Value.int .i64 0, Value.bool false, Value.bool false]) (cvR 1 32 (takeR 32 (takeR 2 b))) ((((false) || shortB 2 b) || shortB 32 (takeR 2 b)) || cvB 1 32 (takeR 32 (takeR 2 b))) [(Value.slice a1 (cvV 1 32 (takeR 32 (takeR 2 b))).length c1, (cvV 1 32 (takeR 32 (takeR 2 b))))]) ((hP).set 65 _ mD_s65) ?_
  clear hP hm ha
  rintro w0 hP
  refine (take_any _ _ 35 _ _ _ hP.cur (by decide) hP.len).mono ?_
  rintro e w1 ⟨v, rfl, -, hc, hg⟩
  have hP := hP.call hg hc (takeR_len _ _)
  have hm := hP.msg
  have ha := hP.ans
  clear hc hg
  go_wp2_with fail
  refine gen_wpC (fun w0 => PSt w g5 g6 w0 (mD 1 (takeV 32 (takeR 2 b)) zero32 [Value.slice a1 (cvV 1 32 (takeR 32 (takeR 2 b))).length c1, .slice none 0 0, .slice none 0 0, .slice none 0 0, .slice none 0 0, .slice none 0 0, Value.int .i64 0, Value.int .i64 0, Value.bool false, Value.bool false]) (takeR 35 (cvR 1 32 (takeR 32 (takeR 2 b)))) (((((false) || shortB 2 b) || shortB 32 (takeR 2 b)) || cvB 1 32 (takeR 32 (takeR 2 b))) || shortB 35 (cvR 1 32 (takeR 32 (takeR 2 b)))) [(Value.slice a1 (cvV 1 32 (takeR 32 (takeR 2 b))).length c1, (cvV 1 32 (takeR 32 (takeR 2 b))))]) (hP) ?_
  clear hP hm ha
  rintro w0 hP
  have hlt6 := hP.msg.lt
  have hcv := cvec_any g5 w.heap.size 2 69 _ _ _ hP.cur (by decide) (by decide) hP.len
  have hYl := cvR_len 2 69 (takeR 35 (cvR 1 32 (takeR 32 (takeR 2 b))))
  have HSQ := Lib.hid (⟨hs, hq⟩ : _ ∧ _)
  clear hs hq
  obtain ⟨X, hX⟩ : ∃ X, X = (cvV 2 69 (takeR 35 (cvR 1 32 (takeR 32 (takeR 2 b))))) := ⟨_, rfl⟩
  obtain ⟨Y, hY⟩ : ∃ Y, Y = (cvR 2 69 (takeR 35 (cvR 1 32 (takeR 32 (takeR 2 b))))) := ⟨_, rfl⟩
  obtain ⟨hs, hq⟩ := HSQ.out
  rw [← hX] at hs hcv
  rw [← hY] at hq hcv hYl
  have HXY := Lib.hid (⟨hX, hY⟩ : _ ∧ _)
  clear hX hY HSQ
  refine hcv.mono ?_
  rintro e w1 ⟨v, rfl, hb, hc, hg⟩
  clear hcv
  obtain ⟨z, hP⟩ : ∃ z, PSt w g5 g6 w1 (mD 1 (takeV 32 (takeR 2 b)) zero32 [Value.slice a1 (cvV 1 32 (takeR 32 (takeR 2 b))).length c1, .slice none 0 0, .slice none 0 0, .slice none 0 0, .slice none 0 0, .slice none 0 0, Value.int .i64 0, Value.int .i64 0, Value.bool false, Value.bool false]) Y z [(Value.slice a1 (cvV 1 32 (takeR 32 (takeR 2 b))).length c1, (cvV 1 32 (takeR 32 (takeR 2 b))))] := ⟨_, hP.call hg hc hYl⟩
  obtain ⟨a2, c2, rfl, _⟩ := hb.slb
  have x4 : ¬ (4 : Int) < (X.length : Int) := by omega
  clear hb hlt6
  have hm := hP.msg
  have ha := hP.ans
  clear hc hg
  obtain ⟨vc, hrc, hsc, -⟩ := hP.cur
  obtain ⟨ac, cc, rfl, -⟩ := hsc
  have xq : (0 : Int) < (Y.length : Int) := by omega
  clear hs hq hYl
  go_wp2_with fail
  refine gen_wpC (fun w0 => PSt w g5 g6 w0 (mD 1 (takeV 32 (takeR 2 b)) zero32 [Value.slice a1 (cvV 1 32 (takeR 32 (takeR 2 b))).length c1, .slice none 0 0, .slice none 0 0, .slice none 0 0, .slice none 0 0, .slice none 0 0, Value.int .i64 0, Value.int .i64 0, Value.bool true, Value.bool false]) Y (z) [(Value.slice a1 (cvV 1 32 (takeR 32 (takeR 2 b))).length c1, (cvV 1 32 (takeR 32 (takeR 2 b))))]) ((hP).set 73 _ mD_s73) ?_
  clear hP hm ha
  rintro w0 hP
  refine (take_any _ _ 12 _ _ _ hP.cur (by decide) hP.len).mono ?_
  rintro e w1 ⟨v, rfl, -, hc, hg⟩
  have hP := hP.call hg hc (takeR_len _ _)
  have hm := hP.msg
  have ha := hP.ans
  clear hc hg
  go_wp2_with fail
  refine gen_wpC (fun w0 => PSt w g5 g6 w0 (mD 1 (takeV 32 (takeR 2 b)) zero32 [Value.slice a1 (cvV 1 32 (takeR 32 (takeR 2 b))).length c1, .slice none 0 0, .slice none 0 0, .slice none 0 0, .slice none 0 0, .slice none 0 0, Value.int .i64 0, Value.int .i64 0, Value.bool true, Value.bool false]) (takeR 12 Y) ((z) || shortB 12 Y) [(Value.slice a1 (cvV 1 32 (takeR 32 (takeR 2 b))).length c1, (cvV 1 32 (takeR 32 (takeR 2 b))))]) (hP) ?_
  clear hP hm ha
  rintro w0 hP
  have hlt6 := hP.msg.lt
  refine (cvec_any _ _ 2 1000 _ _ _ hP.cur (by decide) (by decide) hP.len).mono ?_
  rintro e w1 ⟨v, rfl, hb, hc, hg⟩
  have hP := (hP.call hg hc (cvR_len _ _ _)).add hb.slt (fun ad had => Nat.le_trans hlt6 (hb.addr ad had))
  obtain ⟨a3, c3, rfl, _⟩ := hb.slb
  clear hb hlt6
  have hm := hP.msg
  have ha := hP.ans
  clear hc hg
  go_wp2_with fail
  refine gen_wpC (fun w0 => PSt w g5 g6 w0 (mD 1 (takeV 32 (takeR 2 b)) zero32 [Value.slice a1 (cvV 1 32 (takeR 32 (takeR 2 b))).length c1, .slice none 0 0, Value.slice a3 (cvV 2 1000 (takeR 12 Y)).length c3, .slice none 0 0, .slice none 0 0, .slice none 0 0, Value.int .i64 0, Value.int .i64 0, Value.bool true, Value.bool false]) (cvR 2 1000 (takeR 12 Y)) (((z) || shortB 12 Y) || cvB 2 1000 (takeR 12 Y)) [(Value.slice a3 (cvV 2 1000 (takeR 12 Y)).length c3, (cvV 2 1000 (takeR 12 Y))), (Value.slice a1 (cvV 1 32 (takeR 32 (takeR 2 b))).length c1, (cvV 1 32 (takeR 32 (takeR 2 b))))]) ((hP).set 67 _ mD_s67) ?_
  clear hP hm ha
  rintro w0 hP
  refine (cnum_any _ _ 4 _ _ _ hP.cur (by decide) hP.len).mono ?_
  rintro e w1 ⟨rfl, hc, hg⟩
  have hP := hP.call hg hc (takeR_len _ _)
  have hm := hP.msg
  have ha := hP.ans
  clear hc hg
  go_wp2_with fail
  refine gen_wpC (fun w0 => PSt w g5 g6 w0 (mD 1 (takeV 32 (takeR 2 b)) zero32 [Value.slice a1 (cvV 1 32 (takeR 32 (takeR 2 b))).length c1, .slice none 0 0, Value.slice a3 (cvV 2 1000 (takeR 12 Y)).length c3, .slice none 0 0, .slice none 0 0, .slice none 0 0, Value.int .i64 0, Value.int .i64 (valP (takeV 4 (cvR 2 1000 (takeR 12 Y))) : Int), Value.bool true, Value.bool false]) (takeR 4 (cvR 2 1000 (takeR 12 Y))) ((((z) || shortB 12 Y) || cvB 2 1000 (takeR 12 Y)) || shortB 4 (cvR 2 1000 (takeR 12 Y))) [(Value.slice a3 (cvV 2 1000 (takeR 12 Y)).length c3, (cvV 2 1000 (takeR 12 Y))), (Value.slice a1 (cvV 1 32 (takeR 32 (takeR 2 b))).length c1, (cvV 1 32 (takeR 32 (takeR 2 b))))]) ((hP).set 72 _ mD_s72) ?_
  clear hP hm ha
  rintro w0 hP
  refine (take_any _ _ 3 _ _ _ hP.cur (by decide) hP.len).mono ?_
  rintro e w1 ⟨v, rfl, -, hc, hg⟩
  have hP := hP.call hg hc (takeR_len _ _)
  have hm := hP.msg
  have ha := hP.ans
  clear hc hg
  go_wp2_with fail
  refine gen_wpC (fun w0 => PSt w g5 g6 w0 (mD 1 (takeV 32 (takeR 2 b)) zero32 [Value.slice a1 (cvV 1 32 (takeR 32 (takeR 2 b))).length c1, .slice none 0 0, Value.slice a3 (cvV 2 1000 (takeR 12 Y)).length c3, .slice none 0 0, .slice none 0 0, .slice none 0 0, Value.int .i64 0, Value.int .i64 (valP (takeV 4 (cvR 2 1000 (takeR 12 Y))) : Int), Value.bool true, Value.bool false]) (takeR 3 (takeR 4 (cvR 2 1000 (takeR 12 Y)))) (((((z) || shortB 12 Y) || cvB 2 1000 (takeR 12 Y)) || shortB 4 (cvR 2 1000 (takeR 12 Y))) || shortB 3 (takeR 4 (cvR 2 1000 (takeR 12 Y)))) [(Value.slice a3 (cvV 2 1000 (takeR 12 Y)).length c3, (cvV 2 1000 (takeR 12 Y))), (Value.slice a1 (cvV 1 32 (takeR 32 (takeR 2 b))).length c1, (cvV 1 32 (takeR 32 (takeR 2 b))))]) (hP) ?_
  clear hP hm ha
  rintro w0 hP
  refine (cword_any _ _ _ _ _ hP.cur hP.bel.size hP.len).mono ?_
  rintro e w1 ⟨rfl, hc, hg⟩
  have hP := hP.call hg hc (takeR_len _ _)
  have hx32 := (AB_size (takeV 32 (takeR 3 (takeR 4 (cvR 2 1000 (takeR 12 Y)))))).trans (takeV_len _ _)
  have hm := hP.msg
  have ha := hP.ans
  clear hc hg
  go_wp2_with fail
  have hF := PSt.fin (C := (mD 1 (takeV 32 (takeR 2 b)) (takeV 32 (takeR 3 (takeR 4 (cvR 2 1000 (takeR 12 Y))))) [Value.slice a1 (cvV 1 32 (takeR 32 (takeR 2 b))).length c1, .slice none 0 0, Value.slice a3 (cvV 2 1000 (takeR 12 Y)).length c3, .slice none 0 0, .slice none 0 0, .slice none 0 0, Value.int .i64 0, Value.int .i64 (valP (takeV 4 (cvR 2 1000 (takeR 12 Y))) : Int), Value.bool true, Value.bool false])) (hP.setR (by first | rfl | exact mD_oMt _ _ _ _ _))
  obtain ⟨hX, hY⟩ := HXY.out
  have e4 : p_l4 b = Y := hY.symm
  have e5 : (cvV 2 69 (p_l3 35 b)) = X := hX.symm
  unfold p_l1
  unfold p_l6 p_l5; rw [e4]
  try rw [e5]
  exact ret_row (.inl rfl) rfl w.heap.size _ _ 75 _ rfl hF.2.1 Try.underlying30 rfl (by kernel_rfl) mD_sz ⟨_, rfl, MsgN.of rfl rfl rfl rfl rfl rfl rfl rfl rfl rfl rfl rfl rfl (takeV_len _ _) (takeV_len _ _) (SlNs.five (hF.1 _ (List.mem_cons_of_mem _ (List.mem_cons_self ..))) (SlN.nil _ _) (hF.1 _ (List.mem_cons_self ..)) (SlN.nil _ _) (SlN.nil _ _)), hF.2.2⟩
set_option maxRecDepth 100000 in
set_option maxHeartbeats 4000000 in
theorem parse_w1nn (vb : Value) (b : List UInt8) (w : World) (h : SlB w vb b) (hl : b.length ≤ 1000000) (hs : ¬ 4 < (cvV 2 69 (p_l3 35 b)).length) (hq : ¬ 0 < (p_l4 b).length) :
    Calls Try.prog 28 #[.int .i64 1, vb] w fun e w' => ∃ C, e = .returned (.agg C) ∧ MsgN w' w.heap.size C ({ emptyM 1 with random := takeV 32 (takeR 2 b), session := cvV 1 32 (p_l1 b), share := [], psk := false }) ∧ Below w.heap.size w w' := by
  replace hs : ¬ 4 < (cvV 2 69 (takeR 35 (cvR 1 32 (takeR 32 (takeR 2 b))))).length := hs
  replace hq : ¬ 0 < (cvR 2 69 (takeR 35 (cvR 1 32 (takeR 32 (takeR 2 b))))).length := hq
  have HS := Lib.hid h
  obtain ⟨a, cap, rfl, _⟩ := h
  go_enter Try.func28, Try.ntmps28
  go_upto_region 3 with (refine wpl_val rfl (.agg (mD 1 zero32 zero32 [.slice none 0 0, .slice none 0 0, .slice none 0 0, .slice none 0 0, .slice none 0 0, .slice none 0 0, Value.int .i64 0, Value.int .i64 0, Value.bool false, Value.bool false])) (exec_built _ _ _ _ _ _ rfl (by kernel_rfl) (built_kind 1) _) ?_)
  obtain ⟨g5, hg5⟩ : ∃ g, g = w.heap.size + 1 := ⟨_, rfl⟩
  obtain ⟨g6, hg6⟩ : ∃ g, g = w.heap.size + 1 + 1 := ⟨_, rfl⟩
  rw [← hg6, ← hg5]
  refine gen_wp (fun w0 => PSt w g5 g6 w0 (mD 1 zero32 zero32 [.slice none 0 0, .slice none 0 0, .slice none 0 0, .slice none 0 0, .slice none 0 0, .slice none 0 0, Value.int .i64 0, Value.int .i64 0, Value.bool false, Value.bool false]) b false []) (PSt.start HS.out hl hg5 hg6 (zH_size.trans mD_sz.symm)) ?_
  clear hg5 hg6 HS
  rintro w0 hP
  have hm := hP.msg
  have ha := hP.ans
  have n6 : w.heap.size ≠ g6 := by have := hP.lt5; have := hP.lt6; omega
  have n5 : w.heap.size ≠ g5 := by have := hP.lt5; omega
  have n56 : g5 ≠ g6 := by have := hP.lt6; omega
  go_wp2_with fail
  refine gen_wpC (fun w0 => PSt w g5 g6 w0 (mD 1 zero32 zero32 [.slice none 0 0, .slice none 0 0, .slice none 0 0, .slice none 0 0, .slice none 0 0, .slice none 0 0, Value.int .i64 0, Value.int .i64 0, Value.bool false, Value.bool false]) b (false) []) (hP) ?_
  clear hP hm ha
  rintro w0 hP
  refine (take_any _ _ 2 _ _ _ hP.cur (by decide) hP.len).mono ?_
  rintro e w1 ⟨v, rfl, -, hc, hg⟩
  have hP := hP.call hg hc (takeR_len _ _)
  have hm := hP.msg
  have ha := hP.ans
  clear hc hg
  go_wp2_with fail
  refine gen_wpC (fun w0 => PSt w g5 g6 w0 (mD 1 zero32 zero32 [.slice none 0 0, .slice none 0 0, .slice none 0 0, .slice none 0 0, .slice none 0 0, .slice none 0 0, Value.int .i64 0, Value.int .i64 0, Value.bool false, Value.bool false]) (takeR 2 b) ((false) || shortB 2 b) []) (hP) ?_
  clear hP hm ha
  rintro w0 hP
  refine (cword_any _ _ _ _ _ hP.cur hP.bel.size hP.len).mono ?_
  rintro e w1 ⟨rfl, hc, hg⟩
  have hP := hP.call hg hc (takeR_len _ _)
  have hx32 := (AB_size (takeV 32 (takeR 2 b))).trans (takeV_len _ _)
  have hm := hP.msg
  have ha := hP.ans
  clear hc hg
  go_wp2_with fail
  refine gen_wpC (fun w0 => PSt w g5 g6 w0 (mD 1 (takeV 32 (takeR 2 b)) zero32 [.slice none 0 0, .slice none 0 0, .slice none 0 0, .slice none 0 0, .slice none 0 0, .slice none 0 0, Value.int .i64 0, Value.int .i64 0, Value.bool false, Value.bool false]) (takeR 32 (takeR 2 b)) (((false) || shortB 2 b) || shortB 32 (takeR 2 b)) []) (hP.setR (by first | rfl | exact mD_oRt _ _ _ _ _)) ?_
  clear hP hm ha
  rintro w0 hP
  have hlt6 := hP.msg.lt
  refine (cvec_any _ _ 1 32 _ _ _ hP.cur (by decide) (by decide) hP.len).mono ?_
  rintro e w1 ⟨v, rfl, hb, hc, hg⟩
  have hP := (hP.call hg hc (cvR_len _ _ _)).add hb.slt (fun ad had => Nat.le_trans hlt6 (hb.addr ad had))
  obtain ⟨a1, c1, rfl, _⟩ := hb.slb
  clear hb hlt6
  have hm := hP.msg
  have ha := hP.ans
  clear hc hg
  go_wp2_with fail
  refine gen_wpC (fun w0 => PSt w g5 g6 w0 (mD 1 (takeV 32 (takeR 2 b)) zero32 [Value.slice a1 (cvV 1 32 (takeR 32 (takeR 2 b))).length c1, .slice none 0 0, .slice none 0 0, .slice none 0 0, .slice none 0 0, .slice none 0 0, Value.int .i64 0, Value.int .i64 0, Value.bool false, Value.bool false]) (cvR 1 32 (takeR 32 (takeR 2 b))) ((((false) || shortB 2 b) || shortB 32 (takeR 2 b)) || cvB 1 32 (takeR 32 (takeR 2 b))) [(Value.slice a1 (cvV 1 32 (takeR 32 (takeR 2 b))).length c1, (cvV 1 32 (takeR 32 (takeR 2 b))))]) ((hP).set 65 _ mD_s65) ?_
  clear hP hm ha
  rintro w0 hP
  refine (take_any _ _ 35 _ _ _ hP.cur (by decide) hP.len).mono ?_
  rintro e w1 ⟨v, rfl, -, hc, hg⟩
  have hP := hP.call hg hc (takeR_len _ _)
  have hm := hP.msg
  have ha := hP.ans
  clear hc hg
  go_wp2_with fail
  refine gen_wpC (fun w0 => PSt w g5 g6 w0 (mD 1 (takeV 32 (takeR 2 b)) zero32 [Value.slice a1 (cvV 1 32 (takeR 32 (takeR 2 b))).length c1, .slice none 0 0, .slice none 0 0, .slice none 0 0, .slice none 0 0, .slice none 0 0, Value.int .i64 0, Value.int .i64 0, Value.bool false, Value.bool false]) (takeR 35 (cvR 1 32 (takeR 32 (takeR 2 b)))) (((((false) || shortB 2 b) || shortB 32 (takeR 2 b)) || cvB 1 32 (takeR 32 (takeR 2 b))) || shortB 35 (cvR 1 32 (takeR 32 (takeR 2 b)))) [(Value.slice a1 (cvV 1 32 (takeR 32 (takeR 2 b))).length c1, (cvV 1 32 (takeR 32 (takeR 2 b))))]) (hP) ?_
  clear hP hm ha
  rintro w0 hP
  have hlt6 := hP.msg.lt
  have hcv := cvec_any g5 w.heap.size 2 69 _ _ _ hP.cur (by decide) (by decide) hP.len
  have hYl := cvR_len 2 69 (takeR 35 (cvR 1 32 (takeR 32 (takeR 2 b))))
  have HSQ := Lib.hid (⟨hs, hq⟩ : _ ∧ _)
  clear hs hq
  obtain ⟨X, hX⟩ : ∃ X, X = (cvV 2 69 (takeR 35 (cvR 1 32 (takeR 32 (takeR 2 b))))) := ⟨_, rfl⟩
  obtain ⟨Y, hY⟩ : ∃ Y, Y = (cvR 2 69 (takeR 35 (cvR 1 32 (takeR 32 (takeR 2 b))))) := ⟨_, rfl⟩
  obtain ⟨hs, hq⟩ := HSQ.out
  rw [← hX] at hs hcv
  rw [← hY] at hq hcv hYl
  have HXY := Lib.hid (⟨hX, hY⟩ : _ ∧ _)
  clear hX hY HSQ
  refine hcv.mono ?_
  rintro e w1 ⟨v, rfl, hb, hc, hg⟩
  clear hcv
  obtain ⟨z, hP⟩ : ∃ z, PSt w g5 g6 w1 (mD 1 (takeV 32 (takeR 2 b)) zero32 [Value.slice a1 (cvV 1 32 (takeR 32 (takeR 2 b))).length c1, .slice none 0 0, .slice none 0 0, .slice none 0 0, .slice none 0 0, .slice none 0 0, Value.int .i64 0, Value.int .i64 0, Value.bool false, Value.bool false]) Y z [(Value.slice a1 (cvV 1 32 (takeR 32 (takeR 2 b))).length c1, (cvV 1 32 (takeR 32 (takeR 2 b))))] := ⟨_, hP.call hg hc hYl⟩
  obtain ⟨a2, c2, rfl, _⟩ := hb.slb
  have x4 : ¬ (4 : Int) < (X.length : Int) := by omega
  clear hb hlt6
  have hm := hP.msg
  have ha := hP.ans
  clear hc hg
  obtain ⟨vc, hrc, hsc, -⟩ := hP.cur
  obtain ⟨ac, cc, rfl, -⟩ := hsc
  have xq : ¬ (0 : Int) < (Y.length : Int) := by omega
  clear hs hq hYl
  go_wp2_with fail
  have hF := PSt.fin (C := (mD 1 (takeV 32 (takeR 2 b)) zero32 [Value.slice a1 (cvV 1 32 (takeR 32 (takeR 2 b))).length c1, .slice none 0 0, .slice none 0 0, .slice none 0 0, .slice none 0 0, .slice none 0 0, Value.int .i64 0, Value.int .i64 0, Value.bool false, Value.bool false])) (hP)
  obtain ⟨hX, hY⟩ := HXY.out
  have e4 : p_l4 b = Y := hY.symm
  have e5 : (cvV 2 69 (p_l3 35 b)) = X := hX.symm
  unfold p_l1
  try rw [e5]
  exact ret_row (.inl rfl) rfl w.heap.size _ _ 75 _ rfl hF.2.1 Try.underlying30 rfl (by kernel_rfl) mD_sz ⟨_, rfl, MsgN.of rfl rfl rfl rfl rfl rfl rfl rfl rfl rfl rfl rfl rfl (takeV_len _ _) (rfl) (SlNs.five (hF.1 _ (List.mem_cons_self ..)) (SlN.nil _ _) (SlN.nil _ _) (SlN.nil _ _) (SlN.nil _ _)), hF.2.2⟩
end Go.Proofs.Ytnenoecmmelehaa
