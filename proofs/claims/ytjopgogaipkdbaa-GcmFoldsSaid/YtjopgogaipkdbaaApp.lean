/- 'append(s, x...)' of a slice of bytes onto one that the call itself has made. -/
import Derived.Test.YtjopgogaipkdbaaNewSpec
import Derived.Laws.AppendOwnNone
import Derived.Deep.RegionLaw
namespace Go.Proofs.Ytjopgogaipkdbaa
open Go.RowKit

theorem wpl_appendS {P : Program} {w : World} {ops : Array Oper} {rest : List Oper} {o : Oper} {a : Act} {Q : Exit → Act → World → Prop} (hgd : o.guard = none) (s x : Operand) (t : TypeId)
    (ho : o.op = .call { callee := .builtin .append, args := #[s, x], argTypes := #[t, t] })
    {e : TypeId} (ht : P.underlying t = some (.slice e)) (hinf : (P.info? e).map (fun i => (i.zero, i.size, i.bytes)) = some (some (.int .u8 0), 1, 1))
    (base : Nat) (v : Value) (l : List UInt8) (hs : a.eval s = v) (hbuf : Buf e w base v l) (vx : Value) (m : List UInt8) (hx : a.eval x = vx) (hS : SlB w vx m)
    (hlen : l.length + m.length ≤ 140737488355328) (hbase : base ≤ w.heap.size)
    (h : ∀ v' w', Buf e w' base v' (l ++ m) → w.grownBy w' v.ownBlock → wpList P ops Q rest (a.put o.dst v') w') : wpList P ops Q (o :: rest) a w := by
  obtain ⟨i0, hi, hz0, hz1, hz2⟩ := info_parts hinf
  obtain ⟨ad, cap, rfl, h1, h2, h3, h4⟩ := hS
  cases ad with
  | none =>
    have hm : m = [] := List.eq_nil_of_length_eq_zero (by have := h3 rfl; omega)
    subst hm
    obtain rfl : cap = 0 := h3 rfl
    refine wpList_append_own_none hgd s x t ho base e i0 1 ht hi v l.length (l.map B) hs hbuf hx ?_
    have := h v w (by simpa using hbuf) (World.grownBy.refl w _)
    exact this
  | some ad =>
    obtain ⟨hsp, hc⟩ := h4 _ rfl
    obtain ⟨b, o', sp⟩ := ad
    simp only at hsp
    subst hsp
    refine wpList_append_own w hgd s x t ho base e i0 (.int .u8 0) 1 1 ht hi hz0 hz1 hz2 rfl (by decide) v l.length (l.map B) hs hbuf ⟨b, o', none⟩ m.length cap (m.map B) hx (by simp) ?_ ?_ (by unfold maxLen; omega) (by omega) hbase ?_
    · intro j u hj
      have hj' : j < m.length := by simpa using (List.getElem?_eq_some_iff.1 hj).1
      rw [Addr.add_lit, hc j hj']
      simpa [gb, hj'] using hj
    · intro u hu
      obtain ⟨y, _, rfl⟩ := List.mem_map.1 hu
      rfl
    · intro v' w' hb hg _
      exact h v' w' (by simpa [Buf] using hb) hg
/-- An empty slice that is not nil. -/
theorem Buf.empty {e : TypeId} (w : World) (base g : Nat) (hg : g = w.heap.size) (hb : base ≤ g) : Buf e (w.alloc (.cells #[] e)) base (.slice (some ⟨g, 0, none⟩) 0 0) [] :=
  ⟨by simp, .inr ⟨g, 0, #[], rfl, hb, by rw [hg]; exact heap_alloc_new w _, Nat.le_refl _, Nat.zero_le _, by simp, by simp⟩⟩
/-- The first m bytes of a slice. -/
theorem SlB.take {w : World} {a : Option Addr} {n cap : Nat} {l : List UInt8} (h : SlB w (.slice a n cap) l) (m : Nat) (hm : m ≤ n) : SlB w (.slice a m cap) (l.take m) := by
  obtain ⟨a', cap', hv, h1, h2, h3, h4⟩ := h
  simp only [Value.slice.injEq] at hv
  obtain ⟨rfl, rfl, rfl⟩ := hv
  have hlen : (l.take m).length = m := by simp; omega
  refine ⟨a, cap, by rw [hlen], by omega, h2, h3, fun ad had => ⟨(h4 ad had).1, fun i hi => ?_⟩⟩
  rw [(h4 ad had).2 i (by omega)]
  simp [gb, show i < m by omega]
theorem SlB.len {w : World} {a : Option Addr} {n cap : Nat} {l : List UInt8} (h : SlB w (.slice a n cap) l) : l.length = n := by
  obtain ⟨a', cap', hv, _⟩ := h
  simp only [Value.slice.injEq] at hv
  exact hv.2.1.symm
theorem Pre.set {cur : Array Value} {l : List UInt8} (h : Pre cur l) (k : Nat) (x : UInt8) (_hk : k < l.length) : Pre (cur.setIfInBounds k (B x)) (l.set k x) := by
  have h' : cur.toList.take l.length = l.map B := h
  unfold Pre
  rw [List.length_set, Array.toList_setIfInBounds, List.take_set, h', List.map_set]
theorem KeyAt.setCell {tk te t : TypeId} {w : World} {p : Value} {W : List UInt8} {m g : Nat} {cu : Array Value} (h : KeyAt tk te w p W m) (hr : Row w g t cu) (h1 : t ≠ tk) (h2 : t ≠ te) (i : Nat) (v : Value) : KeyAt tk te (w.setCell ⟨g, i, none⟩ v) p W m := by
  obtain ⟨kb, kk, cap, cur, e1, e2, e3, e4⟩ := h
  have n1 : kb ≠ g := by
    rintro rfl
    have := hr.symm.trans e2
    simp only [Option.some.injEq, Prod.mk.injEq] at this
    exact h1 this.1
  have n2 : kk ≠ g := by
    rintro rfl
    have := hr.symm.trans e3
    simp only [Option.some.injEq, Prod.mk.injEq] at this
    exact h2 this.1
  exact ⟨kb, kk, cap, cur, e1, e2.setOther _ _ n1, e3.setOther _ _ n2, e4⟩
end Go.Proofs.Ytjopgogaipkdbaa
