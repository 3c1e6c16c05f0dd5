/- Part of the proof: HRows. No conditions of its own. -/
import Derived.Below
import Derived.BigQuiet
import Derived.ChangeOld
import Derived.Deep.AppendLies
import Derived.Deep.CutBlock
import Derived.Deep.DeepCutAuto
import Derived.Deep.Draws
import Derived.Deep.LoopGhost
import Derived.Deep.MidRow
import Derived.Deep.Quiet
import Derived.Deep.QuietTactic
import Derived.Deep.RegionLaw
import Derived.Great.BuildSlice
import Derived.Great.FillDense
import Derived.Laws.AppendOwn
import Derived.Laws.AppendOwnNone
import Derived.Laws.BytesArg
import Derived.Laws.Concat
import Derived.Laws.MakeOwn
import Derived.Lib.AppendZerosOnto
import Derived.Lib.BufferWrite
import Derived.Lib.ConvBytes
import Derived.Lib.Hide
import Derived.Lib.SlBytesConst
import Derived.OpenShut
import Derived.ProofKit
import Derived.ShutString
import Derived.StillTail
import Derived.Stop.BytesEq
import Derived.Test.YtnenoecmmelehaaProg
import Derived.WalkKit
import Derived.WalkLawsBesides
import Derived.WalkSpells
import Derived.Test.YtnenoecmmelehaaM36
namespace Go.Proofs.Ytnenoecmmelehaa
open Go.RowKit
set_option linter.unusedVariables false
set_option linter.unusedSimpArgs false

theorem info_rmsg : (Try.prog.info? 25).map (fun i => (i.zero, i.size, i.bytes)) = some (some (.agg zMsg), 75, 200) := by kernel_rfl
theorem RMsgAt.sizeR {w : World} {C : Array Value} {m : MsgP} (h : RMsgAt w C m) : C.size = 75 ∧ allOne C = true ∧ over zMsg 0 C = C := by
  obtain ⟨a, c, rfl, _⟩ := h
  exact ⟨mD_sz, by rw [mD_one]; rfl, over_all _ _ (zMsg_size.trans mD_sz.symm)⟩
theorem RMsgT.keptX {w w' : World} {C D : Array Value} {m : MsgP} {g : Nat} {t : TypeId} (h : RMsgT w C m) (hg : w.grownBy w' (some g)) (hr : Row w g t D) (ht : t ≠ 9) : RMsgT w' C m := by
  obtain ⟨⟨a, c, e, hs, h1, h2⟩, h3⟩ := h
  rcases h3 with h3 | ⟨base, v, h4, h5⟩
  · refine ⟨⟨a, c, e, ?_, h1, h2⟩, .inl h3⟩
    obtain ⟨a', c', e', k1, k2, _⟩ := hs
    exact ⟨a', c', e', k1, k2, fun i hi => by rw [h3] at hi; cases hi⟩
  · have h6 := h5.keptT hg hr ht
    refine ⟨⟨a, c, e, ?_, h1, h2⟩, .inr ⟨base, v, h4, h6⟩⟩
    rw [e, mD_70] at h4
    rw [Option.some.inj h4]
    exact h6.strs
theorem below_of_none {w w' : World} (hg : w.grownBy w' none) : Below w.heap.size w w' := (Below.refl _ w).grown hg (Nat.le_refl _) (fun k e => by cases e)
def cellsL (ps : List (Array Value × MsgP)) : List Value := ps.flatMap fun p => p.1.toList
def allP (ps : List (Array Value × MsgP)) : List UInt8 := ps.flatMap fun p => writeP p.2
structure OwnM (w : World) (base : Nat) (v : Value) (ps : List (Array Value × MsgP)) : Prop where
  own : w.ownsRow base 25 75 v ps.length (cellsL ps)
  msg : ∀ p, p ∈ ps → RMsgT w p.1 p.2
theorem OwnM.nil (w : World) (base : Nat) : OwnM w base (.slice none 0 0) [] := ⟨World.ownsRow_nil _ _ _ _, fun p hp => by cases hp⟩
theorem OwnM.below {w w' : World} {base : Nat} {v : Value} {ps : List (Array Value × MsgP)} (h : OwnM w base v ps) (hb : Below w.heap.size w w') : OwnM w' base v ps :=
  ⟨⟨h.own.1, h.own.2.imp id fun ⟨g, cap, cur, hv, hg, hh, h1⟩ => ⟨g, cap, cur, hv, hg, (hb.block g (Array.getElem?_eq_some_iff.1 hh).1).trans hh, h1⟩⟩, fun p hp => (h.msg p hp).below hb⟩
theorem OwnM.kept {w w' : World} {base : Nat} {v : Value} {ps : List (Array Value × MsgP)} (h : OwnM w base v ps) {g : Nat} {t : TypeId} {cs : Array Value} (hg : w.grownBy w' (some g)) (hr : Row w g t cs) (h1 : t ≠ 25) (h2 : t ≠ 9) : OwnM w' base v ps :=
  ⟨World.ownsRow.kept h.own hg (.inr (ownsRow_ne h.own hr h1)), fun p hp => (h.msg p hp).keptX hg hr h2⟩
theorem Buf.row {w : World} {base : Nat} {v : Value} {l : List UInt8} (h : Buf 5 w base v l) : v.ownBlock = none ∨ ∃ g cs, v.ownBlock = some g ∧ Row w g 5 cs := by
  rcases h.2 with ⟨rfl, _⟩ | ⟨g, cap, cur, rfl, _, hh, _⟩
  · exact .inl rfl
  · exact .inr ⟨g, cur, rfl, Row.of_heap hh⟩
theorem OwnM.row {w : World} {base : Nat} {v : Value} {ps : List (Array Value × MsgP)} (h : OwnM w base v ps) : v.ownBlock = none ∨ ∃ g cs, v.ownBlock = some g ∧ Row w g 25 cs := by
  rcases h.own.2 with ⟨rfl, _⟩ | ⟨g, cap, cur, rfl, _, hh, _⟩
  · exact .inl rfl
  · exact .inr ⟨g, cur, rfl, Row.of_heap hh⟩
theorem OwnM.keptB {w w' : World} {base b2 : Nat} {v v2 : Value} {ps : List (Array Value × MsgP)} {l : List UInt8} (h : OwnM w base v ps) (hb : Buf 5 w b2 v2 l) (hg : w.grownBy w' v2.ownBlock) : OwnM w' base v ps := by
  rcases hb.row with e | ⟨g, cs, e, hr⟩
  · rw [e] at hg; exact h.below (below_of_none hg)
  · rw [e] at hg; exact h.kept hg hr (by decide) (by decide)
theorem Buf.keptM {w w' : World} {base b2 : Nat} {v v2 : Value} {ps : List (Array Value × MsgP)} {l : List UInt8} (h : OwnM w base v ps) (hb : Buf 5 w b2 v2 l) (hg : w.grownBy w' v.ownBlock) : Buf 5 w' b2 v2 l := by
  rcases h.row with e | ⟨g, cs, e, hr⟩
  · rw [e] at hg; exact hb.grow (below_of_none hg)
  · rw [e] at hg; exact World.ownsRow.kept hb hg (.inr (ownsRow_ne hb hr (by decide)))
theorem RMsgT.keptM {w w' : World} {base : Nat} {v : Value} {ps : List (Array Value × MsgP)} {C : Array Value} {m : MsgP} (h : OwnM w base v ps) (k : RMsgT w C m) (hg : w.grownBy w' v.ownBlock) : RMsgT w' C m := by
  rcases h.row with e | ⟨g, cs, e, hr⟩
  · rw [e] at hg; exact k.below (below_of_none hg)
  · rw [e] at hg; exact k.keptX hg hr (by decide)
theorem RMsgT.keptB {w w' : World} {base : Nat} {v : Value} {l : List UInt8} {C : Array Value} {m : MsgP} (h : Buf 5 w base v l) (k : RMsgT w C m) (hg : w.grownBy w' v.ownBlock) : RMsgT w' C m := by
  rcases h.row with e | ⟨g, cs, e, hr⟩
  · rw [e] at hg; exact k.below (below_of_none hg)
  · rw [e] at hg; exact k.keptX hg hr (by decide)
theorem run_appM (w : World) (base : Nat) (v : Value) (ps : List (Array Value × MsgP)) (h : OwnM w base v ps) (C : Array Value) (m : MsgP) (hm : RMsgT w C m) (b : Nat) (hc : w.rangeAt b 0 C.toList) (hlen : ps.length ≤ 1000) (hbase : base ≤ w.heap.size) (ty : TypeId) :
    ∃ v' w', (Builtin.append_ #[48, 48] ty #[v, .slice (some ⟨b, 0, none⟩) 1 1]).run Try.prog w = .ok v' w' ∧ OwnM w' base v' (ps ++ [(C, m)]) ∧ w.grownBy w' v.ownBlock := by
  obtain ⟨i, hi, hz, hs1, hb1⟩ := info_any info_rmsg
  obtain ⟨h75, h1, _⟩ := hm.1.sizeR
  obtain ⟨v', w', hr, k1, k2, _⟩ := run_append_own (P := Try.prog) w base 48 ty 25 i _ 75 200 Try.underlying48 hi hz hs1 hb1 zMsg_size (by decide) v ps.length (cellsL ps) h.own ⟨b, 0, none⟩ 1 1 C.toList (by simp [h75]) (fun j u hj => by
      rw [Addr.add_lit]; exact hc j u hj) (List.all_eq_true.1 h1) (by unfold maxLen; omega) (by omega) hbase
  refine ⟨v', w', hr, ⟨?_, fun p hp => ?_⟩, k2⟩
  · have : cellsL (ps ++ [(C, m)]) = cellsL ps ++ C.toList := by simp [cellsL]
    rw [this, List.length_append]
    exact k1
  · rcases List.mem_append.1 hp with hp | hp
    · exact RMsgT.keptM h (h.msg p hp) k2
    · obtain rfl := List.mem_singleton.1 hp
      exact RMsgT.keptM h hm k2
theorem wp_appM {o : Oper} {a : Act} {w : World} {K : Act → World → Prop} {Q : Exit → Act → World → Prop} (s x : Operand)
    (ho : o.op = .call { callee := .builtin .append, args := #[s, x], argTypes := #[48, 48] })
    (base : Nat) (v : Value) (ps : List (Array Value × MsgP)) (hs : a.eval s = v) (h : OwnM w base v ps) (C : Array Value) (m : MsgP) (hm : RMsgT w C m) (b : Nat) (hx : a.eval x = .slice (some ⟨b, 0, none⟩) 1 1) (hc : w.rangeAt b 0 C.toList) (hlen : ps.length ≤ 1000) (hbase : base ≤ w.heap.size)
    (hK : ∀ v' w', OwnM w' base v' (ps ++ [(C, m)]) → w.grownBy w' v.ownBlock → K (a.put o.dst v') w') : o.wp Try.prog a w K Q := by
  obtain ⟨v', w', hr, h1, h2⟩ := run_appM w base v ps h C m hm b hc hlen hbase o.type
  unfold Oper.wp execOp
  simp only [ho, resolve, invoke, builtin, Sem.run_bind, Sem.run_pure, Result.andThen_ok, List.map_toArray, List.map_cons, List.map_nil, hs, hx, hr]
  exact hK v' w' h1 h2
theorem run_appB (w : World) (base : Nat) (v : Value) (l : List UInt8) (hb : Buf 5 w base v l) (vx : Value) (m : List UInt8) (hS : SlB w vx m) (hlen : l.length + m.length ≤ 1000000) (hbase : base ≤ w.heap.size) (ty : TypeId) :
    ∃ v' w', (Builtin.append_ #[27, 27] ty #[v, vx]).run Try.prog w = .ok v' w' ∧ Buf 5 w' base v' (l ++ m) ∧ w.grownBy w' v.ownBlock := by
  obtain ⟨i, hi, hz, hs1, hb1⟩ := info_any info_u8
  obtain ⟨ad, cap, rfl, h1, h2, h3, h4⟩ := hS
  cases ad with
  | none =>
    have hm : m = [] := List.eq_nil_of_length_eq_zero (by have := h3 rfl; omega)
    subst hm
    obtain rfl : cap = 0 := h3 rfl
    exact ⟨v, w, run_append_owned_none (P := Try.prog) (w := w) base 27 ty 5 i 1 Try.underlying27 hi v l.length (l.map B) hb, by simpa using hb, World.grownBy.refl w _⟩
  | some ad =>
    obtain ⟨hsp, hc⟩ := h4 _ rfl
    obtain ⟨b, o', sp⟩ := ad
    simp only at hsp
    subst hsp
    obtain ⟨v', w', hr, k1, k2, _⟩ := run_append_own (P := Try.prog) w base 27 ty 5 i _ 1 1 Try.underlying27 hi hz hs1 hb1 rfl (by decide) v l.length (l.map B) hb ⟨b, o', none⟩ m.length cap (m.map B) (by simp) (fun j u hj => by
        have hj' : j < m.length := by simpa using (List.getElem?_eq_some_iff.1 hj).1
        rw [Addr.add_lit, hc j hj']
        simpa [gb, hj'] using hj) (fun u hu => by obtain ⟨y, _, rfl⟩ := List.mem_map.1 hu; rfl) (by unfold maxLen; omega) (by omega) hbase
    exact ⟨v', w', hr, by simpa [Buf] using k1, k2⟩
theorem wp_appB {o : Oper} {a : Act} {w : World} {K : Act → World → Prop} {Q : Exit → Act → World → Prop} (s x : Operand)
    (ho : o.op = .call { callee := .builtin .append, args := #[s, x], argTypes := #[27, 27] })
    (base : Nat) (v : Value) (l : List UInt8) (hs : a.eval s = v) (hb : Buf 5 w base v l) (vx : Value) (m : List UInt8) (hx : a.eval x = vx) (hS : SlB w vx m)
    (hlen : l.length + m.length ≤ 1000000) (hbase : base ≤ w.heap.size)
    (h : ∀ v' w', Buf 5 w' base v' (l ++ m) → w.grownBy w' v.ownBlock → K (a.put o.dst v') w') : o.wp Try.prog a w K Q := by
  obtain ⟨v', w', hr, h1, h2⟩ := run_appB w base v l hb vx m hS hlen hbase o.type
  unfold Oper.wp execOp
  simp only [ho, resolve, invoke, builtin, Sem.run_bind, Sem.run_pure, Result.andThen_ok, List.map_toArray, List.map_cons, List.map_nil, hs, hx, hr]
  exact h v' w' h1 h2
theorem cellsL_get : ∀ (ps : List (Array Value × MsgP)), (∀ p, p ∈ ps → p.1.size = 75) → ∀ (i : Nat) (p : Array Value × MsgP), ps[i]? = some p → ∀ j, j < 75 → (cellsL ps)[i * 75 + j]? = p.1[j]?
  | [], _, i, p, h, _, _ => by cases h
  | q :: ps, hs, 0, p, h, j, hj => by
    obtain rfl : q = p := by simpa using h
    have := hs q (by simp)
    unfold cellsL
    rw [List.flatMap_cons, List.getElem?_append_left (by simp; omega)]
    simp
  | q :: ps, hs, i + 1, p, h, j, hj => by
    have hq := hs q (by simp)
    have ih := cellsL_get ps (fun p hp => hs p (by simp [hp])) i p (by simpa using h) j hj
    unfold cellsL at ih ⊢
    rw [List.flatMap_cons, List.getElem?_append_right (by simp; omega)]
    rw [← ih]
    congr 1
    simp [hq]
    omega
theorem OwnM.get {w : World} {base : Nat} {v : Value} {ps : List (Array Value × MsgP)} (h : OwnM w base v ps) {i : Nat} {p : Array Value × MsgP} (hi : ps[i]? = some p) : ∃ g cap, v = .slice (some ⟨g, 0, none⟩) ps.length cap ∧ w.rangeAt g (i * 75) p.1.toList := by
  have hl := (List.getElem?_eq_some_iff.1 hi).1
  have hsz : ∀ p, p ∈ ps → p.1.size = 75 := fun p hp => (h.msg p hp).1.sizeR.1
  rcases h.own.2 with ⟨rfl, h0⟩ | ⟨g, cap, cur, rfl, _, hh, _, _, _, ht⟩
  · omega
  · refine ⟨g, cap, rfl, fun j u hj => ?_⟩
    have hjl : j < 75 := by
      have h1 := (List.getElem?_eq_some_iff.1 hj).1
      have h2 := hsz p (List.mem_of_getElem? hi)
      simp at h1
      omega
    have h1 := cellsL_get ps hsz i p hi j hjl
    rw [show p.1[j]? = p.1.toList[j]? by simp, hj] at h1
    rw [← ht] at h1
    rw [List.getElem?_take] at h1
    split at h1
    · rw [(Row.of_heap hh).cell, ← Array.getElem?_toList]
      exact h1
    · cases h1
theorem OwnM.form {w : World} {base : Nat} {v : Value} {ps : List (Array Value × MsgP)} (h : OwnM w base v ps) : ∃ a c, v = .slice a ps.length c := by
  rcases h.own.2 with ⟨rfl, h0⟩ | ⟨g, cap, cur, rfl, _⟩
  · exact ⟨none, 0, by rw [h0]⟩
  · exact ⟨_, _, rfl⟩
/-! ### the door -/
def MsgsIn (w : World) (v : Value) (ms : List MsgP) : Prop :=
  ∃ a cap, v = .slice a ms.length cap ∧ ms.length ≤ cap ∧ cap ≤ maxLen ∧ ∀ i m, ms[i]? = some m → ∃ g o C, a = some ⟨g, o, none⟩ ∧ w.rangeAt g (o + i * 75) C.toList ∧ RMsgAt w C m
end Go.Proofs.Ytnenoecmmelehaa
