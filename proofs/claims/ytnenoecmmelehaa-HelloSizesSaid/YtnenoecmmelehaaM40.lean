/- Part of the proof: HelloSizes. No conditions of its own. -/
import Derived.Below
import Derived.BigQuiet
import Derived.ChangeOld
import Derived.Deep.AppendLies
import Derived.Deep.CutBlock
import Derived.Deep.DeepCutAuto
import Derived.Deep.Draws
import Derived.Deep.LoopGhost
import Derived.Deep.Quiet
import Derived.Deep.QuietTactic
import Derived.Deep.RegionLaw
import Derived.Great.BuildSlice
import Derived.Great.FillDense
import Derived.Laws.AppendOwn
import Derived.Laws.AppendOwnNone
import Derived.Laws.BytesArg
import Derived.Laws.Concat
import Derived.Laws.MakeOwn
import Derived.Lib.AppendZerosOnto
import Derived.Lib.BufferWrite
import Derived.Lib.ConvBytes
import Derived.Lib.Hide
import Derived.Lib.SlBytesConst
import Derived.OpenShut
import Derived.ProofKit
import Derived.ShutString
import Derived.StillTail
import Derived.Stop.BytesEq
import Derived.Test.YtnenoecmmelehaaProg
import Derived.WalkKit
import Derived.WalkLawsBesides
import Derived.WalkSpells
import Derived.WideMake
import Derived.Test.YtnenoecmmelehaaM21
import Derived.Test.YtnenoecmmelehaaM34
import Derived.Test.YtnenoecmmelehaaM36
import Derived.Test.YtnenoecmmelehaaM39
namespace Go.Proofs.Ytnenoecmmelehaa
open Go.RowKit
set_option linter.unusedVariables false
set_option linter.unusedSimpArgs false

theorem RMsgAt.sizeS {w : World} {C : Array Value} {m : MsgP} (h : RMsgAt w C m) : C.size = 75 ∧ allOne C = true ∧ over zMsg 0 C = C := by
  obtain ⟨a, c, rfl, _⟩ := h
  exact ⟨mD_sz, by rw [mD_one]; rfl, over_all _ _ (zMsg_size.trans mD_sz.symm)⟩
/-! ### the map -/
def szE : Array MapEntry := #[{ key := .int .i64 8, val := .int .i64 6, born := 0 }, { key := .int .i64 13, val := .int .i64 15, born := 1 }, { key := .int .i64 20, val := .int .i64 36, born := 2 }]
def szV (k : Int) : Int := if k = 8 then 6 else if k = 13 then 15 else if k = 20 then 36 else 0
def szB (k : Int) : Bool := decide (k = 8) || decide (k = 13) || decide (k = 20)
theorem run_insI (w : World) (r clock : Nat) (es : Array MapEntry) (k : Int) (val : Value) (hb : w.heap[r]? = some (.map es clock)) (hf : Instr.findNow (.int .i64) (.int .i64 k) es.toList 0 = some none) :
    (Instr.mapUpdate 51 (.map (some r)) (.int .i64 k) val).run Try.prog w = .ok () { w with heap := w.heap.setIfInBounds r (.map (es.push { key := .int .i64 k, val := val, born := clock }) (clock + 1)) } := by
  have hc : (Instr.checkKey false 10000 3 (.int .i64 k)).run Try.prog w = .ok () w := MapKept.run_checkKey (k := .int .i64 k) Try.underlying3 (by simp [MapKept.IsKey]) false 9999
  simp [Instr.mapUpdate, run_underlying Try.underlying51, MapKept.run_getObj_map hb, hc, MapKept.run_findKey Try.underlying3 hf, MapKept.run_setObj_map _ hb, Result.andThen]
theorem find_sz (k : Int) : Instr.findNow (.int .i64) (.int .i64 k) szE.toList 0 = some (if k = 8 then some (0, .int .i64 6) else if k = 13 then some (1, .int .i64 15) else if k = 20 then some (2, .int .i64 36) else none) := by
  by_cases h1 : k = 8
  · subst h1; rfl
  by_cases h2 : k = 13
  · subst h2; rfl
  by_cases h3 : k = 20
  · subst h3; rfl
  rw [if_neg h1, if_neg h2, if_neg h3]
  simp [szE, Instr.findNow, Instr.sameNow, beq_false_of_ne h1, beq_false_of_ne h2, beq_false_of_ne h3]
theorem run_lookI (w : World) (r clock : Nat) (k : Int) (hb : w.heap[r]? = some (.map szE clock)) :
    (Instr.lookup 51 (.map (some r)) (.int .i64 k) true).run Try.prog w = .ok (.tuple #[.int .i64 (szV k), .bool (szB k)]) w := by
  have hc : (Instr.checkKey szE.isEmpty 10000 3 (.int .i64 k)).run Try.prog w = .ok () w := MapKept.run_checkKey (k := .int .i64 k) Try.underlying3 (by simp [MapKept.IsKey]) _ 9999
  have hz : (zeroValue 3).run Try.prog w = .ok (.int .i64 0) w := by kernel_rfl
  have hf := MapKept.run_findKey (w := w) Try.underlying3 (find_sz k)
  by_cases h1 : k = 8
  · subst h1
    simp [Instr.lookup, run_underlying Try.underlying51, MapKept.run_getObj_map hb, hc, hf, Result.andThen, szV, szB]
  by_cases h2 : k = 13
  · subst h2
    simp [Instr.lookup, run_underlying Try.underlying51, MapKept.run_getObj_map hb, hc, hf, Result.andThen, szV, szB]
  by_cases h3 : k = 20
  · subst h3
    simp [Instr.lookup, run_underlying Try.underlying51, MapKept.run_getObj_map hb, hc, hf, Result.andThen, szV, szB]
  simp [Instr.lookup, run_underlying Try.underlying51, MapKept.run_getObj_map hb, hc, hf, hz, Result.andThen, szV, szB, h1, h2, h3]
theorem set_map {w : World} {r : Nat} {o o' : Obj} (hb : w.heap[r]? = some o) : ({ w with heap := w.heap.setIfInBounds r o' } : World).heap[r]? = some o' := by
  have := (Array.getElem?_eq_some_iff.1 hb).1
  simp [this]
theorem below_map {w : World} {r base : Nat} {o : Obj} (h : base ≤ r) : Below base w { w with heap := w.heap.setIfInBounds r o } :=
  ⟨rfl, rfl, rfl, by simp, fun k hk => by simp [Array.getElem?_setIfInBounds_ne (show r ≠ k by omega)]⟩
theorem wpl_ins {w : World} {ops : Array Oper} {rest : List Oper} {o : Oper} {a : Act} {Q : Exit → Act → World → Prop} (hgd : o.guard = none) (hd : o.dst = none) (m : Operand) (k v : Int) (ho : o.op = .insert 51 m (.const (.int .i64 k)) (.const (.int .i64 v)))
    (r : Nat) (hm : a.eval m = .map (some r)) (clock : Nat) (es : Array MapEntry) (hb : w.heap[r]? = some (.map es clock)) (hf : Instr.findNow (.int .i64) (.int .i64 k) es.toList 0 = some none)
    (h : wpList Try.prog ops Q rest a { w with heap := w.heap.setIfInBounds r (.map (es.push { key := .int .i64 k, val := .int .i64 v, born := clock }) (clock + 1)) }) : wpList Try.prog ops Q (o :: rest) a w :=
  wpList_plain hgd fun _ hK => by
    have hr := run_insI w r clock es k (.int .i64 v) hb hf
    unfold Oper.wp execOp
    simp only [ho, hm]
    simp [Act.eval, hr, Result.andThen]
    exact hK _ _ (by rw [hd]; exact h)
theorem wpl_ins3 {w : World} {ops : Array Oper} {rest : List Oper} {o1 o2 o3 : Oper} {a : Act} {Q : Exit → Act → World → Prop} (g1 : o1.guard = none) (g2 : o2.guard = none) (g3 : o3.guard = none) (d1 : o1.dst = none) (d2 : o2.dst = none) (d3 : o3.dst = none) (m : Operand)
    (h1 : o1.op = .insert 51 m (.const (.int .i64 8)) (.const (.int .i64 6))) (h2 : o2.op = .insert 51 m (.const (.int .i64 13)) (.const (.int .i64 15))) (h3 : o3.op = .insert 51 m (.const (.int .i64 20)) (.const (.int .i64 36)))
    (r : Nat) (hm : a.eval m = .map (some r)) (hb : w.heap[r]? = some (.map #[] 0)) (base : Nat) (hbase : base ≤ r)
    (h : ∀ w', w'.heap[r]? = some (.map szE 3) → Below base w w' → wpList Try.prog ops Q rest a w') : wpList Try.prog ops Q (o1 :: o2 :: o3 :: rest) a w := by
  refine wpl_ins g1 d1 m 8 6 h1 r hm 0 #[] hb rfl ?_
  refine wpl_ins g2 d2 m 13 15 h2 r hm 1 _ (set_map hb) rfl ?_
  refine wpl_ins g3 d3 m 20 36 h3 r hm 2 _ (set_map (set_map hb)) rfl ?_
  exact h _ (set_map (set_map (set_map hb))) (((below_map hbase).trans (below_map hbase)).trans (below_map hbase))
/-! ### the cells -/
theorem mD_fxR (k : Int) (r mk : List UInt8) (l : List Value) : mD k (fx r) mk l = mD k r mk l := by unfold mD; rw [fx_of (fx_len _)]
theorem mD_fxM (k : Int) (r mk : List UInt8) (l : List Value) : mD k r (fx mk) l = mD k r mk l := by unfold mD; rw [fx_of (fx_len _)]
theorem mD_oRf (k : Int) (x r mk : List UInt8) (l : List Value) : over (mD k r mk l) 1 (AB (fx x)) = mD k x mk l := by rw [mD_oR _ (fx_len _), mD_fxR]
theorem mD_oMf (k : Int) (x r mk : List UInt8) (l : List Value) : over (mD k r mk l) 33 (AB (fx x)) = mD k r x l := by rw [mD_oM _ (fx_len _), mD_fxM]
theorem mD_setR {k : Int} {r mk : List UInt8} {l : List Value} (i : Nat) (h : i < 32) (z : UInt8) : (mD k r mk l).setIfInBounds (1 + i) (B z) = mD k ((fx r).set i z) mk l := by
  unfold mD mC
  apply Array.ext'
  rw [Array.toList_setIfInBounds]
  rw [fx_of (show ((fx r).set i z).length = 32 by rw [List.length_set, fx_len])]
  rw [List.set_append_right _ _ (by simp)]
  rw [List.set_append_left _ _ (by first | (simp [fx_len]; done) | (simp [fx_len]; omega))]
  rw [List.map_set]
  simp
theorem mD_setM {k : Int} {r mk : List UInt8} {l : List Value} (i : Nat) (h : i < 32) (z : UInt8) : (mD k r mk l).setIfInBounds (33 + i) (B z) = mD k r ((fx mk).set i z) l := by
  unfold mD mC
  apply Array.ext'
  rw [Array.toList_setIfInBounds]
  rw [fx_of (show ((fx mk).set i z).length = 32 by rw [List.length_set, fx_len])]
  rw [List.set_append_right _ _ (by simp; omega)]
  rw [List.set_append_right _ _ (by first | (simp [fx_len]; done) | (simp [fx_len]; omega))]
  rw [List.set_append_left _ _ (by first | (simp [fx_len]; done) | (simp [fx_len]; omega))]
  rw [List.map_set]
  have : 33 + i - [Value.int IntKind.i64 k].length - (List.map B (fx r)).length = i := by simp only [List.length_cons, List.length_nil, List.length_map, fx_len]; omega
  rw [this]
theorem RMsgT.keptG {w w' : World} {C D : Array Value} {m : MsgP} {g : Nat} (h : RMsgT w C m) (hg : w.grownBy w' (some g)) (hr : Row w g 25 D) : RMsgT w' C m := by
  obtain ⟨⟨a, c, e, hs, h1, h2⟩, h3⟩ := h
  rcases h3 with h3 | ⟨base, v, h4, h5⟩
  · refine ⟨⟨a, c, e, ?_, h1, h2⟩, .inl h3⟩
    obtain ⟨a', c', e', k1, k2, _⟩ := hs
    exact ⟨a', c', e', k1, k2, fun i hi => by rw [h3] at hi; cases hi⟩
  · have h6 := h5.keptT hg hr (by decide)
    refine ⟨⟨a, c, e, ?_, h1, h2⟩, .inr ⟨base, v, h4, h6⟩⟩
    rw [e, mD_70] at h4
    rw [Option.some.inj h4]
    exact h6.strs
theorem turn_small {m : MsgP} (h : SmallM m) (R M : List UInt8) : SmallM (turnP m R M) := ⟨h.session, h.share, h.ticket, h.nonce, h.sig, h.certs, h.cert⟩
attribute [local go_sem] mD_oRf mD_oMf fx_len
theorem gen_K {K : Act → World → Prop} {a : Act} {w : World} (R : World → Prop) (h : R w) (k : ∀ w, R w → K a w) : K a w := k w h
theorem RMsgAt.strsOf {w : World} {C : Array Value} {m : MsgP} (h : RMsgAt w C m) {a : Option Addr} {c : Nat} (hc : C[70]? = some (.slice a m.certs.length c)) : StrsAt w (.slice a m.certs.length c) m.certs := by
  obtain ⟨a', c', e, hs, _⟩ := h
  rw [e, mD_70] at hc
  rw [← Option.some.inj hc]
  exact hs
def SzSt (w : World) (g0 g7 : Nat) (n : MsgP) (C E : Array Value) (wr : World) : Prop := Row wr g0 25 C ∧ Row wr g7 25 E ∧ RMsgT wr C n ∧ Below w.heap.size w wr
theorem SzSt.cell {w wr : World} {g0 g7 : Nat} {n : MsgP} {C E E' : Array Value} (h : SzSt w g0 g7 n C E wr) (hne : g0 ≠ g7) (hle : w.heap.size ≤ g7) (i : Nat) (v : Value) (hE : E.setIfInBounds i v = E') : SzSt w g0 g7 n C E' (wr.setCell ⟨g7, i, none⟩ v) :=
  ⟨h.1.setOther _ _ hne, hE ▸ h.2.1.set i v, h.2.2.1.keptG (grownBy_set _ _ _ _) h.2.1, h.2.2.2.setCell (p := ⟨g7, i, none⟩) hle v⟩
theorem SzSt.row {w wr : World} {g0 g7 : Nat} {n : MsgP} {C E : Array Value} (h : SzSt w g0 g7 n C E wr) (hne : g0 ≠ g7) (hle : w.heap.size ≤ g7) (E' : Array Value) : SzSt w g0 g7 n C E' (wr.setRow g7 E') :=
  ⟨h.1.setRowOther _ _ hne, h.2.1.setRow E', h.2.2.1.keptR h.2.1 E', bSetRow h.2.2.2 hle E'⟩
theorem SzSt.below {w wr w' : World} {g0 g7 : Nat} {n : MsgP} {C E : Array Value} (h : SzSt w g0 g7 n C E wr) (hb : Below wr.heap.size wr w') : SzSt w g0 g7 n C E w' :=
  ⟨Row.below h.1 hb h.1.lt, Row.below h.2.1 hb h.2.1.lt, h.2.2.1.below hb, h.2.2.2.trans (hb.mono h.2.2.2.size)⟩
set_option maxRecDepth 100000 in
set_option maxHeartbeats 4000000 in
theorem hsizes (C : Array Value) (m : MsgP) (y : UInt8) (w : World) (h : RMsgAt w C m) : Calls Try.prog 7 #[.agg C, B y] w fun e w' => e = .returned (.bool true) ∧ Below w.heap.size w w' := by
  obtain ⟨hz, h1c, _⟩ := h.sizeS
  have H := Lib.hid h
  clear h
  go_enter Try.func7, Try.ntmps7
  go_wp2_with fail
  refine gen_wpC (fun w0 => Row w0 w.heap.size 25 C ∧ Below w.heap.size w w0) ⟨Row.new _ _ _, (Below.refl _ _).alloc (Nat.le_refl _) _⟩ ?_
  rintro w0 ⟨hr, hB⟩
  refine (tame_atT (H.out.below hB)).mono ?_
  rintro e w1 ⟨C2, rfl, h2, hB1⟩
  obtain ⟨hz2, h1c2, _⟩ := h2.1.sizeS
  have ho2 := over_C hz hz2
  have hr := Row.below hr hB1 hr.lt
  have hB := hB.trans (hB1.mono hB.size)
  have H2 := Lib.hid h2
  have hlt := hr.lt
  clear h2 hB1 H
  go_wp2_with fail
  refine gen_wpC (fun w2 => Row w2 w.heap.size 25 C2 ∧ RMsgT w2 C2 (tameP m) ∧ Below w.heap.size w w2) ⟨hr.setRow C2, H2.out.keptR hr C2, bSetRow hB (Nat.le_refl _) _⟩ ?_
  clear hr hB hlt H2
  rintro w2 ⟨hr, h2, hB⟩
  refine (to_at h2.1 (tameP_small m)).mono ?_
  rintro e w3 ⟨D, rfl, hD, hB3⟩
  have hr := Row.below hr hB3 hr.lt
  have hB := hB.trans (hB3.mono hB.size)
  have HD := Lib.hid hD
  have h2 := h2.below hB3
  have f0 : (tameP m).random.length = 32 ∧ (tameP m).mark.length = 32 := by obtain ⟨a', c', e, _, e1, e2⟩ := h2.1; exact ⟨e1, e2⟩
  have H2 := Lib.hid h2
  clear hB3 hD h2
  go_wp2_with fail
  refine (write_at HD.out (tameP_small m)).mono ?_
  rintro e w4 ⟨v, rfl, hb, hB4⟩
  have hr := Row.below hr hB4 hr.lt
  have hB := hB.trans (hB4.mono hB.size)
  have H2 := Lib.hid (H2.out.below hB4)
  have hsm := tameP_small m
  obtain ⟨n, hn⟩ : ∃ n : MsgP, n = tameP m := ⟨_, rfl⟩
  rw [← hn] at f0 hb H2 hsm ⊢
  have hout : outW n = if rightP n then writeP n else [] := rfl
  have herr : errW n = if rightP n then 0 else 2 := rfl
  have HS := Lib.hid hb.slb
  obtain ⟨va, vc, rfl, _⟩ := hb.slb
  have HSM := Lib.hid hsm
  clear hb hB4 HD hn hsm
  cases hrt : rightP n with
  | false =>
    rw [hrt] at hout herr
    have herr : errW n = 2 := herr
    rw [herr]
    clear hout herr hrt
    go_wp2_with fail
    refine (hellos_any w4).mono ?_
    rintro e w5 ⟨rfl, hB5⟩
    have hB := hB.trans (hB5.mono hB.size)
    clear hB5 H2 HS HSM
    go_wp2_with fail
    refine (hellos_any w5).mono ?_
    rintro e w6 ⟨rfl, hB6⟩
    have HB := Lib.hid (hB.trans (hB6.mono hB.size))
    clear hB6 hB
    go_wp2_with fail
    go_ret
    exact ⟨rfl, HB.out⟩
  | true =>
    rw [hrt, if_pos rfl] at hout herr
    have HRT := Lib.hid hrt
    have hlen := body_small (m := n) hrt f0.1 f0.2
    have hwl := write_len n
    obtain ⟨O, hO⟩ : ∃ O, O = writeP n := ⟨_, rfl⟩
    rw [hout] at HS ⊢
    rw [herr]
    rw [← hO] at hwl HS ⊢
    have ol1 : (O.length : Int) ≤ 32772 := by omega
    have HO := Lib.hid hO
    have HF := Lib.hid f0
    clear hout herr hrt hwl hlen hO f0
    go_wp2_with fail
    refine (hellos_any w4).mono ?_
    rintro e w5 ⟨rfl, hB5⟩
    have hr := Row.below hr hB5 hr.lt
    have h2 := H2.out.below hB5
    have HBW := Lib.hid (hB.trans (hB5.mono hB.size))
    have hd5 : w.heap.size ≤ w5.heap.size := HBW.out.size
    have hlt0 := hr.lt
    obtain ⟨kd, hkd⟩ : ∃ k, k = n.kind := ⟨_, rfl⟩
    obtain ⟨ps, hps⟩ : ∃ k, k = n.psk := ⟨_, rfl⟩
    obtain ⟨rt, hrt⟩ : ∃ k, k = n.retry := ⟨_, rfl⟩
    obtain ⟨ac, cc, hC2, hst, -⟩ := id h2.1
    obtain ⟨L, hL⟩ : ∃ L, L = [S n.session, S n.share, S n.ticket, S n.nonce, S n.sig, .slice ac n.certs.length cc, .int .i64 n.life, .int .i64 n.age, .bool ps, .bool rt] := ⟨_, rfl⟩
    rw [← hkd, ← hps, ← hrt, ← hL] at hC2
    have c4 : C2[4]? = some (B (gb (fx n.random) 3)) := by rw [hC2]; exact mD_cR 3 (by decide)
    have s4 : ∀ z, C2.setIfInBounds 4 (B z) = mD kd ((fx n.random).set 3 z) n.mark L := fun z => by rw [hC2]; exact mD_setR 3 (by decide) z
    obtain ⟨x3, hx3⟩ : ∃ x, x = gb (fx n.random) 3 := ⟨_, rfl⟩
    rw [← hx3] at c4
    have S4 := Lib.hid s4
    have HC2 := Lib.hid hC2
    have HL := Lib.hid hL
    have HK := Lib.hid (⟨hkd, hps, hrt⟩ : _ ∧ _ ∧ _)
    have H2 := Lib.hid h2
    clear hB hB5 s4 hx3 hC2 hL hkd hps hrt hst h2
    go_upto_region 6 with (fail)
    obtain ⟨g7, hg7⟩ : ∃ g, g = w5.heap.size := ⟨_, rfl⟩
    have hBn : Below w5.heap.size w5 ((w5.alloc (.cells zMsg 25)).setRow w5.heap.size C2) := bSetRow ((Below.refl _ _).alloc (Nat.le_refl _) _) (Nat.le_refl _) _
    refine gen_wp (SzSt w w.heap.size g7 n C2 C2) ⟨Row.below hr hBn hr.lt, by rw [hg7]; exact (Row.new _ _ _).setRow C2, H2.out.below hBn, HBW.out.trans (hBn.mono HBW.out.size)⟩ ?_
    rw [← hg7]
    have hne : w.heap.size ≠ g7 := by omega
    have hne' : g7 ≠ w.heap.size := by omega
    have hle : w.heap.size ≤ g7 := by omega
    clear hg7 hBn hr H2 HBW hd5 hlt0
    rintro w6 hS
    have hc4 : w6.cell? ⟨g7, 4, none⟩ = some (B x3) := by rw [hS.2.1.cell]; exact c4
    have hf4 : w6.frozen? ⟨g7, 4, none⟩ = false := hS.2.1.frozen 4
    have HS6 := Lib.hid hS
    clear hS
    obtain ⟨R1, hR1⟩ : ∃ R, R = (fx n.random).set 3 (xr x3 y) := ⟨_, rfl⟩
    have hR32 : R1.length = 32 := by rw [hR1, List.length_set, fx_len]
    have hs4 := S4.out (xr x3 y)
    rw [← hR1] at hs4
    have HS4 := Lib.hid hs4
    clear hs4 hR1 S4
    go_upto_region 7 with (fail)
    have c38 : (mD kd R1 n.mark L)[38]? = some (B (gb (fx n.mark) 5)) := mD_cM 5 (by decide)
    have s38 : ∀ z, (mD kd R1 n.mark L).setIfInBounds 38 (B z) = mD kd R1 ((fx n.mark).set 5 z) L := fun z => mD_setM 5 (by decide) z
    obtain ⟨x5, hx5⟩ : ∃ x, x = gb (fx n.mark) 5 := ⟨_, rfl⟩
    rw [← hx5] at c38
    obtain ⟨D1, hD1⟩ : ∃ D, D = mD kd R1 n.mark L := ⟨_, rfl⟩
    rw [← hD1] at c38 s38 HS4
    refine gen_wp (SzSt w w.heap.size g7 n C2 D1) (HS6.out.cell hne hle 4 _ HS4.out) ?_
    clear HS4 HS6 hc4 hf4 c4 hx5 hD1
    rintro w7 hS
    have hc38 : w7.cell? ⟨g7, 38, none⟩ = some (B x5) := by rw [hS.2.1.cell]; exact c38
    have hf38 : w7.frozen? ⟨g7, 38, none⟩ = false := hS.2.1.frozen 38
    have HS7 := Lib.hid hS
    obtain ⟨M1, hM1⟩ : ∃ R, R = (fx n.mark).set 5 (xr x5 y) := ⟨_, rfl⟩
    have hM32 : M1.length = 32 := by rw [hM1, List.length_set, fx_len]
    have hs38 := s38 (xr x5 y)
    rw [← hM1] at hs38
    have HS38 := Lib.hid hs38
    clear hs38 hM1 s38 hS
    go_upto_region 8 with (fail)
    refine gen_wp (SzSt w w.heap.size g7 n C2 (mD kd R1 M1 L)) (HS7.out.cell hne hle 38 _ HS38.out) ?_
    clear HS38 HS7 hc38 hf38 c38
    rintro w8 hS
    obtain ⟨kR, hkR⟩ : ∃ b, b = ((decide (kd ≠ 1) && decide (kd ≠ 2)) || rt) := ⟨_, rfl⟩
    obtain ⟨kM, hkM⟩ : ∃ b, b = ((decide (kd = 1) && !ps) || (decide (kd ≠ 1) && decide (kd ≠ 20))) := ⟨_, rfl⟩
    have HKR := Lib.hid hkR
    have HKM := Lib.hid hkM
    have HS8 := Lib.hid hS
    rw [HC2.out, HL.out] at hS
    have hr := hS.1
    have hr7 := hS.2.1
    have hRM := Lib.hid (⟨hR32, hM32⟩ : _ ∧ _)
    clear hkR hkM hS hR32 hM32
    go_cut [54] (fun t wr => t = .bool kR ∧ wr = w8)
    case first =>
      have hkR := HKR.out
      by_cases h1 : kd = 1
      · subst h1
        obtain rfl : kR = rt := by rw [hkR]; simp
        clear hkR
        go_wp2_with fail
        go_meet
        case rel => exact ⟨rfl, rfl⟩
      · have h1b : (kd == 1) = false := beq_false_of_ne h1
        have h1n : (kd != 1) = true := by rw [bne_iff_ne]; exact h1
        by_cases h2 : kd = 2
        · subst h2
          obtain rfl : kR = rt := by rw [hkR]; simp
          clear hkR h1b h1n h1
          go_wp2_with fail
          go_meet
          case rel => exact ⟨rfl, rfl⟩
        · have h2b : (kd == 2) = false := beq_false_of_ne h2
          have h2n : (kd != 2) = true := by rw [bne_iff_ne]; exact h2
          obtain rfl : kR = true := by rw [hkR]; simp [h1, h2]
          clear hkR
          go_wp2_with fail
          go_meet
          case rel => exact ⟨rfl, rfl⟩
    case rest =>
    obtain ⟨rfl, hw⟩ := hcut
    obtain rfl := hw.symm
    clear hw
    go_upto_if 54 with (fail)
    go_cut [] (fun wr => SzSt w w.heap.size g7 n C2 (mD kd (if kR = true then n.random else R1) M1 L) wr)
    case first =>
      have HLL := Lib.hid (HS8.out.row hne hle (mD kd n.random M1 L))
      rw [HL.out] at HLL
      clear HKR
      cases kR with
      | true =>
        go_wp2_with fail
        go_meet
        case rel => rw [HL.out]; exact HLL.out
      | false =>
        go_wp2_with fail
        go_meet
        case rel => exact HS8.out
    case rest =>
    have hS := hcut
    clear hcut HS8 hr hr7
    obtain ⟨R2, hR2⟩ : ∃ R, R = if kR = true then n.random else R1 := ⟨_, rfl⟩
    rw [← hR2] at hS
    have HR2 := Lib.hid hR2
    refine gen_K (SzSt w w.heap.size g7 n C2 (mD kd R2 M1 L)) hS ?_
    clear hS hR2
    rintro w9 hS
    have HS9 := Lib.hid hS
    rw [HC2.out, HL.out] at hS
    have hr := hS.1
    have hr7 := hS.2.1
    clear hS
    go_upto_region 10 with (fail)
    go_cut [75] (fun t wr => t = .bool kM ∧ wr = w9)
    case first =>
      have hkM := HKM.out
      by_cases h1 : kd = 1
      · subst h1
        obtain rfl : kM = !ps := by rw [hkM]; simp
        clear hkM
        cases ps with
        | true =>
          go_wp2_with fail
          go_meet
          case rel => exact ⟨rfl, rfl⟩
        | false =>
          go_wp2_with fail
          go_meet
          case rel => exact ⟨rfl, rfl⟩
      · have h1b : (kd == 1) = false := beq_false_of_ne h1
        have h1n : (kd != 1) = true := by rw [bne_iff_ne]; exact h1
        by_cases h2 : kd = 20
        · subst h2
          obtain rfl : kM = false := by rw [hkM]; simp
          clear hkM h1b h1n h1
          go_wp2_with fail
          go_meet
          case rel => exact ⟨rfl, rfl⟩
        · have h2b : (kd == 20) = false := beq_false_of_ne h2
          have h2n : (kd != 20) = true := by rw [bne_iff_ne]; exact h2
          obtain rfl : kM = true := by rw [hkM]; simp [h1, h2]
          clear hkM
          go_wp2_with fail
          go_meet
          case rel => exact ⟨rfl, rfl⟩
    case rest =>
    obtain ⟨rfl, hw⟩ := hcut
    obtain rfl := hw.symm
    clear hw
    go_upto_if 75 with (fail)
    go_cut [] (fun wr => SzSt w w.heap.size g7 n C2 (mD kd R2 (if kM = true then n.mark else M1) L) wr)
    case first =>
      have HLL := Lib.hid (HS9.out.row hne hle (mD kd R2 n.mark L))
      rw [HL.out] at HLL
      clear HKM
      cases kM with
      | true =>
        go_wp2_with fail
        go_meet
        case rel => rw [HL.out]; exact HLL.out
      | false =>
        go_wp2_with fail
        go_meet
        case rel => exact HS9.out
    case rest =>
    have hS := hcut
    clear hcut HS9 hr hr7
    obtain ⟨M2, hM2⟩ : ∃ R, R = if kM = true then n.mark else M1 := ⟨_, rfl⟩
    rw [← hM2] at hS
    have HM2 := Lib.hid hM2
    clear hM2
    obtain ⟨n2, hn2⟩ : ∃ n2, n2 = turnP n R1 M1 := ⟨_, rfl⟩
    have hRR : R2 = n2.random ∧ M2 = n2.mark := by
      rw [hn2, HR2.out, HM2.out, HKR.out, HKM.out, HK.out.1, HK.out.2.1, HK.out.2.2]
      exact ⟨rfl, rfl⟩
    have hm2 : RMsgAt wc (mD kd R2 M2 L) n2 := by
      refine ⟨ac, cc, ?_, ?_, ?_⟩
      · rw [hRR.1, hRR.2, HL.out, HK.out.1, HK.out.2.1, HK.out.2.2, hn2]; rfl
      · rw [hn2]
        exact hS.2.2.1.1.strsOf (by rw [HC2.out, HL.out]; exact mD_70)
      · rw [hn2]; exact turn_len HF.out.1 HF.out.2 hRM.out.1 hRM.out.2
    have hsm2 : SmallM n2 := by rw [hn2]; exact turn_small HSM.out R1 M1
    have hlen2 : (writeP n2).length = O.length := by rw [HO.out, hn2]; exact write_turn HF.out.1 HF.out.2 hRM.out.1 hRM.out.2
    have hri := turn_right R1 M1 HRT.out
    rw [← hn2] at hri
    have HRI := Lib.hid hri
    have HN2 := Lib.hid hlen2
    have hsz := write_sizes (m := n) HF.out.2
    rw [← HO.out, ← HK.out.1] at hsz
    have HSZ := Lib.hid hsz
    obtain ⟨hz7, h17, _⟩ := hm2.sizeS
    have h27 := hm2
    obtain ⟨E2, hE2⟩ : ∃ E, E = mD kd R2 M2 L := ⟨_, rfl⟩
    have e1 : E2.size = 75 := by rw [hE2]; exact hz7
    have HE2 := Lib.hid (⟨hE2, hRR⟩ : _ ∧ _ ∧ _)
    rw [← hE2] at hS hm2
    have HM := Lib.hid hm2
    have HSM2 := Lib.hid hsm2
    clear hri hlen2 hn2 hRR hsz hm2 hsm2 hz7 h17 h27 hE2 HR2 HM2 HKR HKM hRM
    refine gen_K (fun w10 => SzSt w w.heap.size g7 n C2 E2 w10 ∧ RMsgAt w10 E2 n2) ⟨hS, HM.out⟩ ?_
    clear hS HM
    rintro w10 ⟨hS, hM⟩
    have HS := Lib.hid hS
    have HM := Lib.hid hM
    have hr := hS.1
    have hr7 := hS.2.1
    clear hS hM
    go_wp2_with fail
    refine (to_at HM.out HSM2.out).mono ?_
    rintro e w11 ⟨D2, rfl, hD2, hB11⟩
    have HS := Lib.hid (HS.out.below hB11)
    have HD2 := Lib.hid hD2
    have hr := HS.out.1
    have hr7 := HS.out.2.1
    clear hD2 hB11 HM
    go_wp2_with fail
    refine (write_at HD2.out HSM2.out).mono ?_
    rintro e w12 ⟨v2, rfl, hb2, hB12⟩
    have HS := Lib.hid (HS.out.below hB12)
    have hr := HS.out.1
    have hr7 := HS.out.2.1
    obtain ⟨va2, vc2, rfl, _⟩ := hb2.slb
    have c0 : C2[0]? = some (.int .i64 kd) := by rw [HC2.out]; exact mD_0
    have c0' : ∀ h : 0 < C2.size, C2[0] = .int .i64 kd := fun h => by
      have := c0
      rw [Array.getElem?_eq_getElem h] at this
      exact Option.some.inj this
    clear hb2 hB12 HD2 HSM2
    cases hr2 : rightP n2 with
    | false =>
      have herr2 : errW n2 = 2 := by unfold errW; rw [hr2]; rfl
      rw [herr2]
      have hka : kd = 2 ∧ n2.random = hAgain := by
        rcases HRI.out with h | h
        · rw [hr2] at h; cases h
        · exact ⟨HK.out.1.trans h.1, h.2⟩
      obtain ⟨rfl, ha2⟩ := hka
      have s1 : sub E2 1 32 = AB hAgain := by rw [HE2.out.1, mD_R, HE2.out.2.1, ha2]; rfl
      have z1 : 1 + 32 ≤ E2.size := by omega
      have heq : ∀ w, (Op.equalIn 10000 22 (.agg (AB hAgain)) (.agg (AB hAgain))).run Try.prog w = .ok true w := fun w => by
        rw [equal32 hAgain hAgain rfl rfl w]; rfl
      have HEQ := Lib.hid heq
      clear hr2 herr2 ha2 heq e1
      go_upto_region 14 with (fail)
      have hrd := hr.drew
      have hr7d := hr7.drew
      refine wp_region_free 7 [] (fun d v w' => True) (by kernel_rfl) (by kernel_rfl) (by kernel_rfl) (fun _ _ _ _ _ _ => trivial) ?h
      simp only [List.take_succ_cons, List.take_zero, List.drop_succ_cons, List.drop_zero]
      apply Exists.intro
      apply Exists.intro
      refine ⟨?_, ?_, ?_⟩
      · intro ν
        iterate 6 (apply wpF_q rfl; focus (intro C hC hG; (first | go_big_quiet_skip | (go_big_quiet_want; go_big_quiet_op; first | go_big_quiet_on | (refine ⟨_, fun _ _ => rfl, ?_⟩; go_big_quiet_on)) | (go_big_quiet_want; apply qf_load1 _ _ rfl _ _ rfl; (exact hC); rotate_left 1; (focus (intro _; simp [go_sem]; done)); rotate_right 1; assumption; assumption; (simp only [Act.put, lS]; go_big_quiet_on)) | (go_big_quiet_want; apply qf_loadA _ _ rfl _ _ rfl (sz := 32); (exact hC); rotate_left 1; (focus (intro _; simp [go_sem]; done)); (focus (intro _; simp [go_sem]; done)); rotate_right 1; assumption; assumption; assumption; (simp only [Act.put, lS]; go_big_quiet_on))); exact wpQuiet_nil rfl))
        (apply wpF_q rfl; focus (intro C hC hG; go_big_quiet_want; apply qf_call; (exact hC); (exact hG); (exact (fun w' _ _ => special_any w')); (focus (intro w; simp [go_sem]; done)); (simp only [Act.put, lS]; go_big_quiet_on); exact wpQuiet_nil rfl))
        exact wpF_nil ⟨rfl, rfl⟩
      · intro ν ν'; kernel_rfl
      intro ν w13 hB13 hDD
      have HB := Lib.hid ((HS.out.below ((Below.drew (Below.refl _ _)).trans hB13)).2.2.2)
      have heq := HEQ.out
      clear hDD hB13 hrd hr7d hr hr7 s1 z1
      go_wp2_with fail
      go_ret
      exact ⟨rfl, HB.out⟩
    | true =>
      have herr2 : errW n2 = 0 := by unfold errW; rw [hr2]; rfl
      have hl2 : (outW n2).length = O.length := by unfold outW; rw [hr2, if_pos rfl]; exact HN2.out
      rw [herr2, hl2]
      have hmm := @run_makeMap Try.prog
      clear hr2 herr2 hl2 e1
      have c69 : C2[69]? = some (S n.sig) := by rw [HC2.out, HL.out]; exact mD_69
      have c69' : ∀ h : 69 < C2.size, C2[69] = S n.sig := fun h => by
        have := c69
        rw [Array.getElem?_eq_getElem h] at this
        exact Option.some.inj this
      have hsig : (n.sig.length : Int) ≤ 1000000 := by have := HSM.out.sig; omega
      go_upto_region 17 with (refine wpl_ins3 rfl rfl rfl rfl rfl rfl (.tmp 96) rfl rfl rfl _ rfl (heap_alloc_new w12 _) _ (Nat.le_refl _) ?_; intro wm hm hBm; have hlk := run_lookI wm _ _ kd hm; have hBm2 : Below w12.heap.size w12 wm := ((Below.refl _ _).alloc (Nat.le_refl _) _).trans hBm; have HS := Lib.hid (HS.out.below hBm2); have hr := HS.out.1; have hr7 := HS.out.2.1; clear hBm hBm2 hmm hm)
      have HB := Lib.hid HS.out.2.2.2
      clear hr7 HS
      by_cases h15 : kd = 15
      · subst h15
        have h15b : ((O.length : Int) == 8 + (n.sig.length : Int)) = true := by rw [beq_iff_eq]; have := HSZ.out.2.2.2 rfl; omega
        have hvb : szB 15 = false := rfl
        go_wp2_with fail
        go_ret
        exact ⟨rfl, HB.out⟩
      · have h15n : (kd != 15) = true := by rw [bne_iff_ne]; exact h15
        cases hvb : szB kd with
        | false =>
          go_wp2_with fail
          go_ret
          exact ⟨rfl, HB.out⟩
        | true =>
          have hsv : ((O.length : Int) == szV kd) = true := by
            have h1 := hvb
            unfold szB at h1
            simp only [Bool.or_eq_true, decide_eq_true_eq] at h1
            have h2 := HSZ.out
            rw [beq_iff_eq]
            unfold szV
            rcases h1 with (h1 | h1) | h1
            · rw [if_pos h1]; have := h2.1 h1; omega
            · rw [if_neg (by omega), if_pos h1]; have := h2.2.1 h1; omega
            · rw [if_neg (by omega), if_neg (by omega), if_pos h1]; have := h2.2.2.1 h1; omega
          go_wp2_with fail
          go_ret
          exact ⟨rfl, HB.out⟩
end Go.Proofs.Ytnenoecmmelehaa
