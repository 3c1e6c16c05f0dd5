/- What block's New reckons: the rounds' keys; how slices of bytes lie in memory. -/
import Derived.Test.YtjopgogaipkdbaaReadySpec
namespace Go.Proofs.Ytjopgogaipkdbaa
open Go.RowKit

/-- A slice of bytes that reads as l. -/
def SlB (w : World) (v : Value) (l : List UInt8) : Prop :=
  ∃ (a : Option Addr) (cap : Nat), v = .slice a l.length cap ∧ l.length ≤ cap ∧ cap ≤ maxLen ∧ (a = none → cap = 0) ∧
    ∀ ad, a = some ad → ad.spot = none ∧ ∀ i, i < l.length → w.cell? ⟨ad.block, ad.off + i, none⟩ = some (B (gb l i))
theorem SlB.below {w w' : World} {v : Value} {l : List UInt8} (h : SlB w v l) (hb : Below w.heap.size w w') : SlB w' v l := by
  obtain ⟨a, cap, hv, h1, h2, h3, h4⟩ := h
  refine ⟨a, cap, hv, h1, h2, h3, fun ad had => ⟨(h4 ad had).1, fun i hi => ?_⟩⟩
  have hc := (h4 ad had).2 i hi
  exact (hb.cell (World.block_lt_of_cell? w _ hc)).trans hc
theorem SlB.addr {w : World} {v : Value} {l : List UInt8} (h : SlB w v l) (hl : 0 < l.length) : ∃ b o cap, v = .slice (some ⟨b, o, none⟩) l.length cap ∧ l.length ≤ cap ∧ cap ≤ maxLen ∧ b < w.heap.size ∧
    ∀ i, i < l.length → w.cell? ⟨b, o + i, none⟩ = some (B (gb l i)) := by
  obtain ⟨a, cap, hv, h1, h2, h3, h4⟩ := h
  cases a with
  | none => have := h3 rfl; omega
  | some ad =>
    obtain ⟨b, o, s⟩ := ad
    obtain ⟨hs, hc⟩ := h4 _ rfl
    simp only at hs
    subst hs
    exact ⟨b, o, cap, hv, h1, h2, World.block_lt_of_cell? w _ (hc 0 hl), hc⟩
/-- The row cur begins with the bytes l. -/
def Pre (cur : Array Value) (l : List UInt8) : Prop := cur.toList.take l.length = l.map B
theorem Pre.get {cur : Array Value} {l : List UInt8} (h : Pre cur l) (i : Nat) (hi : i < l.length) : cur[i]? = some (B (gb l i)) := by
  have : (cur.toList.take l.length)[i]? = (l.map B)[i]? := by rw [h]
  rw [List.getElem?_take, if_pos hi] at this
  simp only [Array.getElem?_toList] at this
  rw [this]
  simp [gb, hi]
theorem Pre.size {cur : Array Value} {l : List UInt8} (h : Pre cur l) : l.length ≤ cur.size := by
  have := congrArg List.length h
  simp only [List.length_take, List.length_map, Array.length_toList] at this
  omega
theorem Pre.sub {cur : Array Value} {l : List UInt8} (h : Pre cur l) (o n : Nat) (hn : o + n ≤ l.length) : sub cur o n = AB ((l.drop o).take n) := by
  have hs := h.size
  apply Array.ext
  · simp [Go.Proofs.Ytjopgogaipkdbaa.sub, AB]; omega
  · intro i h1 h2
    have hi : i < n := by simp [Go.Proofs.Ytjopgogaipkdbaa.sub] at h1; omega
    have hg := h.get (o + i) (by omega)
    have e1 : (Go.Proofs.Ytjopgogaipkdbaa.sub cur o n)[i]? = cur[o + i]? := by
      simp only [Go.Proofs.Ytjopgogaipkdbaa.sub, Array.getElem?_extract]
      rw [if_pos (by omega)]
    have e2 : (AB ((l.drop o).take n))[i]? = some (B (gb l (o + i))) := by
      rw [AB_get _ _ (by simp; omega)]
      congr 2
      simp [gb, hi, List.getElem?_drop]
    have : (Go.Proofs.Ytjopgogaipkdbaa.sub cur o n)[i]? = (AB ((l.drop o).take n))[i]? := by rw [e1, e2, hg]
    rw [Array.getElem?_eq_getElem h1, Array.getElem?_eq_getElem h2] at this
    exact Option.some.inj this
/-- A slice of bytes that the call itself has made. -/
def Buf (e : TypeId) (w : World) (base : Nat) (v : Value) (l : List UInt8) : Prop := w.ownsRow base e 1 v l.length (l.map B)
theorem Buf.open {e : TypeId} {w : World} {base : Nat} {v : Value} {l : List UInt8} (h : Buf e w base v l) (hl : 0 < l.length) :
    ∃ g cap cur, v = .slice (some ⟨g, 0, none⟩) l.length cap ∧ base ≤ g ∧ Row w g e cur ∧ l.length ≤ cap ∧ cap ≤ maxLen ∧ cur.size = cap ∧ Pre cur l := by
  rcases h.2 with ⟨_, h0⟩ | ⟨g, cap, cur, hv, hg, hh, h1, h2, h3, h4⟩
  · omega
  · exact ⟨g, cap, cur, hv, hg, Row.of_heap hh, h1, h2, by simpa using h3, by simpa [Pre] using h4⟩
theorem Buf.slb {e : TypeId} {w : World} {base : Nat} {v : Value} {l : List UInt8} (h : Buf e w base v l) : SlB w v l := by
  rcases h.2 with ⟨hv, h0⟩ | ⟨g, cap, cur, hv, hg, hh, h1, h2, h3, h4⟩
  · have : l = [] := List.eq_nil_of_length_eq_zero h0
    subst this
    exact ⟨none, 0, hv, Nat.le_refl _, Nat.zero_le _, fun _ => rfl, fun _ h => by cases h⟩
  · refine ⟨_, cap, hv, h1, h2, fun h => (by cases h), fun ad had => ?_⟩
    obtain rfl := Option.some.inj had
    refine ⟨rfl, fun i hi => ?_⟩
    have hp : Pre cur l := by simpa [Pre] using h4
    exact ((Row.of_heap hh).cell _).trans (by rw [Nat.zero_add]; exact hp.get i hi)

theorem Buf.mk' {e : TypeId} {w : World} {base g cap : Nat} {cur : Array Value} {l : List UInt8} (hr : Row w g e cur) (hp : Pre cur l) (h1 : l.length ≤ cap) (h2 : cap ≤ maxLen) (h3 : cur.size = cap) (hg : base ≤ g) :
    Buf e w base (.slice (some ⟨g, 0, none⟩) l.length cap) l :=
  ⟨by simp, .inr ⟨g, cap, cur, rfl, hg, hr.heap, h1, h2, by simpa using h3, by simpa [Pre] using hp⟩⟩
theorem Buf.alloc {e : TypeId} {w : World} {base : Nat} {v : Value} {l : List UInt8} (h : Buf e w base v l) (o : Obj) : Buf e (w.alloc o) base v l := World.ownsRow.alloc h o
theorem Buf.kept {e : TypeId} {w w' : World} {base : Nat} {v : Value} {l : List UInt8} {r : Option Nat} (h : Buf e w base v l) (hg : w.grownBy w' r) (hne : v.ownBlock = none ∨ v.ownBlock ≠ r) : Buf e w' base v l := World.ownsRow.kept h hg hne
theorem Buf.lt {e : TypeId} {w : World} {base : Nat} {v : Value} {l : List UInt8} (h : Buf e w base v l) (k : Nat) (hk : v.ownBlock = some k) : base ≤ k ∧ k < w.heap.size := World.ownsRow.lt h k hk
/-- 'append(s, x)' of one byte, laid in a new block of its own. -/
theorem wpl_append1 {P : Program} {w : World} {ops : Array Oper} {rest : List Oper} {o : Oper} {a : Act} {Q : Exit → Act → World → Prop} (hgd : o.guard = none) (s x : Operand) (t : TypeId)
    (ho : o.op = .call { callee := .builtin .append, args := #[s, x], argTypes := #[t, t] })
    {e : TypeId} (ht : P.underlying t = some (.slice e)) (hinf : (P.info? e).map (fun i => (i.zero, i.size, i.bytes)) = some (some (.int .u8 0), 1, 1))
    (base : Nat) (v : Value) (l : List UInt8) (hs : a.eval s = v) (hbuf : Buf e w base v l) (g : Nat) (y : UInt8) (hx : a.eval x = .slice (some ⟨g, 0, none⟩) 1 1) (hcell : w.cell? ⟨g, 0, none⟩ = some (B y))
    (hlen : l.length + 1 ≤ 140737488355328) (hbase : base ≤ w.heap.size)
    (h : ∀ v' w', Buf e w' base v' (l ++ [y]) → w.grownBy w' v.ownBlock → wpList P ops Q rest (a.put o.dst v') w') : wpList P ops Q (o :: rest) a w := by
  obtain ⟨i0, hi, hz0, hz1, hz2⟩ := info_parts hinf
  refine wpList_append_own w hgd s x t ho base e i0 (.int .u8 0) 1 1 ht hi hz0 hz1 hz2 rfl (by decide) v l.length (l.map B) hs hbuf ⟨g, 0, none⟩ 1 1 [B y] hx rfl ?_ ?_ (by unfold maxLen; omega) (by omega) hbase ?_
  · intro j u hj
    match j, hj with
    | 0, hj => simp only [List.getElem?_cons_zero, Option.some.injEq] at hj; subst hj; rw [Addr.add_zero']; exact hcell
  · intro u hu; obtain rfl := List.mem_singleton.1 hu; rfl
  · intro v' w' h1 h2 _
    exact h v' w' (by simpa [Buf] using h1) h2
theorem slice_eq {a : Option Addr} {n n' c c' : Nat} (h1 : n = n') (h2 : c = c') : Value.slice a n c = Value.slice a n' c' := by rw [h1, h2]
/-- Two rows of other types are two blocks. -/
theorem ownsRow_ne {w : World} {base : Nat} {e t : TypeId} {size : Nat} {v : Value} {n : Nat} {xs : List Value} {g : Nat} {cur : Array Value} (h : w.ownsRow base e size v n xs) (hr : Row w g t cur) (hte : t ≠ e) : v.ownBlock ≠ some g := by
  intro e1
  rcases h.2 with ⟨rfl, _⟩ | ⟨g', cap, cur', rfl, _, hh, _⟩
  · simp [Value.ownBlock] at e1
  · simp only [Value.ownBlock, Option.some.injEq] at e1
    subst e1
    have := hr.heap
    rw [hh] at this
    simp only [Option.some.injEq, Obj.cells.injEq] at this
    exact hte this.2.1.symm
/-- 256 noughts, under a name that the walk's own rules do not open. -/
def z256 : List UInt8 := List.replicate 256 0
/-! ### the rounds' keys -/
/-- The last word, turned as the place asks: by a power's byte and the box. -/
def wx (n i : Nat) (c : UInt8) (w : List UInt8) (j : Nat) : UInt8 :=
  let l := w.length
  if i % n = 0 then (if j = 0 then xr (gb boxT (gb w (l - 4 + 1)).toNat) c else gb boxT (gb w (l - 4 + (j + 1) % 4)).toNat)
  else if n = 8 ∧ i % n = 4 then gb boxT (gb w (l - 4 + j)).toNat
  else gb w (l - 4 + j)
/-- One step: the first j bytes of the next word. -/
def wj (n i : Nat) (c : UInt8) (w : List UInt8) (j : Nat) : List UInt8 :=
  w ++ (List.range j).map fun k => xr (gb w (w.length - n * 4 + k)) (wx n i c w k)
structure Ks where
  w : List UInt8
  c : UInt8
def ks (n : Nat) (key : List UInt8) : Nat → Ks
  | 0 => ⟨key, 1⟩
  | m + 1 => let s := ks n key m; ⟨wj n (n + m) s.c s.w 4, if (n + m) % n = 0 then dbl s.c else s.c⟩
theorem wj_len (n i : Nat) (c : UInt8) (w : List UInt8) (j : Nat) : (wj n i c w j).length = w.length + j := by simp [wj]
theorem ks_len (n : Nat) (key : List UInt8) (h : key.length = n * 4) (m : Nat) : (ks n key m).w.length = n * 4 + m * 4 := by
  induction m with
  | zero => simp [ks, h]
  | succ m ih => simp only [ks, wj_len, ih]; omega
/-- All the rounds' keys, one behind the other. -/
def expand (key : List UInt8) : List UInt8 := (ks (key.length / 4) key (3 * (key.length / 4) + 28)).w
theorem expand_len (key : List UInt8) (h : key.length % 4 = 0) : (expand key).length = 16 * (key.length / 4 + 7) := by
  unfold expand
  rw [ks_len _ _ (by omega)]
  omega
theorem gb_append_left (a b : List UInt8) (i : Nat) (h : i < a.length) : gb (a ++ b) i = gb a i := by
  simp [gb, List.getElem?_append_left h]
theorem wj_step (n i : Nat) (c : UInt8) (w : List UInt8) (j : Nat) (hn : 1 ≤ n) (hl : n * 4 ≤ w.length) (hj : j < 4) :
    wj n i c w j ++ [xr (gb (wj n i c w j) (w.length - n * 4 + j)) (wx n i c w j)] = wj n i c w (j + 1) := by
  have e : gb (wj n i c w j) (w.length - n * 4 + j) = gb w (w.length - n * 4 + j) := by
    unfold wj
    by_cases h : w.length - n * 4 + j < w.length
    · exact gb_append_left _ _ _ h
    · omega
  rw [e]
  simp [wj, List.range_succ]

section
variable {n i : Nat} {c : UInt8} {W X : List UInt8}
theorem wx_turn (hX : ∀ j, j < 4 → gb X j = gb W (W.length - 4 + j)) (h : i % n = 0) :
    (List.range 4).map (wx n i c W) = [xr (gb boxT (gb X 1).toNat) c, gb boxT (gb X 2).toNat, gb boxT (gb X 3).toNat, gb boxT (gb X 0).toNat] := by
  rw [hX 0 (by omega), hX 1 (by omega), hX 2 (by omega), hX 3 (by omega)]
  simp [List.range_succ, wx, h]
theorem wx_sub (hX : ∀ j, j < 4 → gb X j = gb W (W.length - 4 + j)) (h : ¬ i % n = 0) (h8 : n = 8 ∧ i % n = 4) :
    (List.range 4).map (wx n i c W) = [gb boxT (gb X 0).toNat, gb boxT (gb X 1).toNat, gb boxT (gb X 2).toNat, gb boxT (gb X 3).toNat] := by
  rw [hX 0 (by omega), hX 1 (by omega), hX 2 (by omega), hX 3 (by omega)]
  simp only [List.range_succ, List.range_zero, List.map_cons, List.map_nil, List.nil_append, List.cons_append, wx, if_neg h, if_pos h8]
theorem wx_plain (hX : ∀ j, j < 4 → gb X j = gb W (W.length - 4 + j)) (hl : X.length = 4) (h : ¬ i % n = 0) (h8 : ¬ (n = 8 ∧ i % n = 4)) :
    (List.range 4).map (wx n i c W) = X := by
  apply gb_ext (by simp [hl])
  intro j hj
  rw [hX j (by omega)]
  simp [gb, wx, h, h8, show j < 4 by omega]
end

/-! ### a Key in memory -/
/-- What p leads to: a Key with the m rounds' keys W. -/
def KeyAt (tk te : TypeId) (w : World) (p : Value) (W : List UInt8) (m : Nat) : Prop :=
  ∃ kb kk cap cur, p = .pointer (some ⟨kb, 0, none⟩) ∧ Row w kb tk (keyC boxT boxK (.slice (some ⟨kk, 0, none⟩) m cap)) ∧ Row w kk te cur ∧ W.length = 16 * m ∧ Pre cur W ∧ m ≤ cap ∧ cap ≤ maxLen
theorem KeyAt.below {tk te : TypeId} {w w' : World} {p : Value} {W : List UInt8} {m : Nat} (h : KeyAt tk te w p W m) (hb : Below w.heap.size w w') : KeyAt tk te w' p W m := by
  obtain ⟨kb, kk, cap, cur, h1, h2, h3, h4⟩ := h
  exact ⟨kb, kk, cap, cur, h1, h2.below hb h2.lt, h3.below hb h3.lt, h4⟩
end Go.Proofs.Ytjopgogaipkdbaa
