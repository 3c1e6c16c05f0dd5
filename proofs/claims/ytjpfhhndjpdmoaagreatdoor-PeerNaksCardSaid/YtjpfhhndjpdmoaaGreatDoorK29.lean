/- Part of the proof: State. No conditions of its own. -/
import Derived.ArgAppend
import Derived.BigQuiet
import Derived.Deep.DeepCutAuto
import Derived.Deep.LoopGhost
import Derived.Deep.Quiet
import Derived.Deep.QuietTactic
import Derived.Deep.RegionLaw
import Derived.Laws.AppendOwnNone
import Derived.Laws.BitsAllLaws
import Derived.Lib.Hide
import Derived.Maps.AppendAt
import Derived.StillTail
import Derived.Test.YtjpfhhndjpdmoaaGreatDoorProg
import Derived.WalkKit
import Derived.Test.YtjpfhhndjpdmoaaGreatDoorK28
namespace Go.Proofs.YtjpfhhndjpdmoaaGreatDoor
open Go.RowKit
set_option linter.unusedVariables false
set_option linter.unusedSimpArgs false

/-! ### plain laws -/
theorem pressAll_snoc (h : List UInt32) : ∀ (k : Nat) (X : List UInt8), pressAll h (k + 1) X = pressS (pressAll h k X) ((X.drop (64 * k)).take 64)
  | 0, X => by simp [pressAll]
  | k + 1, X => by
    rw [pressAll, pressAll_snoc _ k (X.drop 64)]
    rw [show pressAll h (k + 1) X = pressAll (pressS h (X.take 64)) k (X.drop 64) from rfl]
    rw [List.drop_drop, show 64 + 64 * k = 64 * (k + 1) by omega]
theorem pressAll_add (h : List UInt32) (X : List UInt8) (a : Nat) : ∀ b, pressAll h (a + b) X = pressAll (pressAll h a X) b (X.drop (64 * a))
  | 0 => rfl
  | b + 1 => by
    rw [← Nat.add_assoc, pressAll_snoc, pressAll_snoc, pressAll_add h X a b, List.drop_drop]
    congr 3
    omega
theorem pressAll_pre (h : List UInt32) (X p : List UInt8) : ∀ k, 64 * k ≤ X.length → pressAll h k (X ++ p) = pressAll h k X
  | 0, _ => rfl
  | k + 1, hk => by
    rw [pressAll_snoc, pressAll_snoc, pressAll_pre h X p k (by omega)]
    congr 1
    rw [List.drop_append_of_le_length (by omega), List.take_append_of_le_length (by rw [List.length_drop]; omega)]
theorem pressAll_len (h : List UInt32) (X : List UInt8) (hh : h.length = 8) : ∀ k, (pressAll h k X).length = 8
  | 0 => hh
  | k + 1 => by rw [pressAll_snoc]; rfl
def hS (L : List UInt8) : List UInt32 := pressAll startS (L.length / 64) L
def waitS (L : List UInt8) : List UInt8 := L.drop (64 * (L.length / 64))
theorem hS_len (L : List UInt8) : (hS L).length = 8 := pressAll_len _ _ rfl _
theorem waitS_len (L : List UInt8) : (waitS L).length = L.length % 64 := by unfold waitS; rw [List.length_drop]; omega
/-! ### the cells -/
def f8 (h : List UInt32) : List UInt32 := (List.range 8).map (gw h)
theorem f8_len (h : List UInt32) : (f8 h).length = 8 := by simp [f8]
theorem f8_of {h : List UInt32} (hh : h.length = 8) : f8 h = h := by
  apply List.ext_getElem?
  intro i
  by_cases hi : i < 8
  · simp [f8, gw, hi, show i < h.length by omega]
  · rw [List.getElem?_eq_none (by rw [f8_len]; omega), List.getElem?_eq_none (by omega)]
def stC (h : List UInt32) (v : Value) (n : Int) : Array Value := ((f8 h).map D ++ [v, .int .i64 n]).toArray
section
variable {h : List UInt32} {v u : Value} {n m : Int}
theorem stC_sz : (stC h v n).size = 10 := by simp [stC, f8_len]
theorem stC_8 : (stC h v n)[8]? = some v := by
  unfold stC
  rw [List.getElem?_toArray, List.getElem?_append_right (by simp [f8_len])]
  simp [f8_len]
theorem stC_9 : (stC h v n)[9]? = some (.int .i64 n) := by
  unfold stC
  rw [List.getElem?_toArray, List.getElem?_append_right (by simp [f8_len])]
  simp [f8_len]
theorem stC_h : sub (stC h v n) 0 8 = AD (f8 h) := by
  apply Array.ext'
  have : ((f8 h).map D).length = 8 := by simp [f8_len]
  simp [sub, stC, AD, List.take_append_of_le_length, this]
theorem stC_oh (x : List UInt32) (hx : x.length = 8) : over (stC h v n) 0 (AD x) = stC x v n := by
  unfold over stC
  apply Array.ext'
  have e : ((f8 h).map D).length = 8 := by simp [f8_len]
  rw [f8_of hx]
  simp [AD, hx]
  rw [List.drop_append_of_le_length (by omega), List.drop_eq_nil_of_le (by omega)]
  rfl
theorem stC_s8 : (stC h v n).setIfInBounds 8 u = stC h u n := by
  unfold stC
  apply Array.ext'
  rw [Array.toList_setIfInBounds]
  rw [List.set_append_right _ _ (by simp [f8_len])]
  simp [f8_len]
theorem stC_s9 : (stC h v n).setIfInBounds 9 (.int .i64 m) = stC h v m := by
  unfold stC
  apply Array.ext'
  rw [Array.toList_setIfInBounds]
  rw [List.set_append_right _ _ (by simp [f8_len])]
  simp [f8_len]
end
theorem stC_f8 (h : List UInt32) (v : Value) (n : Int) (hh : h.length = 8) : sub (stC h v n) 0 8 = AD h := by rw [stC_h, f8_of hh]
/-! ### the bytes that wait -/
def OwnW (w : World) (B0 : Nat) (v : Value) (l : List UInt8) : Prop :=
  (v = .slice none 0 0 ∧ l = []) ∨ ∃ b o cap cur, v = .slice (some ⟨b, o, none⟩) l.length cap ∧ B0 ≤ b ∧ Row w b 5 cur ∧ l.length ≤ cap ∧ o + cap ≤ cur.size ∧ cap ≤ maxLen ∧ ∀ i, i < l.length → cur[o + i]? = some (B (gb l i))
theorem OwnW.slb {w : World} {B0 : Nat} {v : Value} {l : List UInt8} (h : OwnW w B0 v l) : SlB w v l := by
  rcases h with ⟨rfl, rfl⟩ | ⟨b, o, cap, cur, rfl, _, hr, h1, h2, h3, h4⟩
  · exact ⟨none, 0, rfl, Nat.le_refl _, Nat.zero_le _, fun _ => rfl, fun _ h => by cases h⟩
  · refine ⟨_, cap, rfl, h1, h3, (fun h => by cases h), fun ad had => ?_⟩
    obtain rfl := Option.some.inj had
    exact ⟨rfl, fun i hi => (hr.cell _).trans (h4 i hi)⟩
theorem OwnW.row {w : World} {B0 : Nat} {v : Value} {l : List UInt8} (h : OwnW w B0 v l) : v.ownBlock = none ∨ ∃ b cs, v.ownBlock = some b ∧ B0 ≤ b ∧ Row w b 5 cs := by
  rcases h with ⟨rfl, rfl⟩ | ⟨b, o, cap, cur, rfl, hb, hr, _⟩
  · exact .inl rfl
  · exact .inr ⟨b, cur, rfl, hb, hr⟩
theorem OwnW.congr {w w' : World} {B0 : Nat} {v : Value} {l : List UInt8} (h : OwnW w B0 v l) (hk : ∀ k, v.ownBlock = some k → w'.heap[k]? = w.heap[k]?) : OwnW w' B0 v l := by
  rcases h with h | ⟨b, o, cap, cur, rfl, hb, hr, rest⟩
  · exact .inl h
  · exact .inr ⟨b, o, cap, cur, rfl, hb, (row_congr (hk b rfl)).trans hr, rest⟩
theorem OwnW.below {w w' : World} {B0 : Nat} {v : Value} {l : List UInt8} (h : OwnW w B0 v l) (hb : Below w.heap.size w w') : OwnW w' B0 v l :=
  h.congr fun k hk => by
    rcases h.row with e | ⟨b, cs, e, _, hr⟩
    · rw [e] at hk; cases hk
    · rw [e] at hk
      obtain rfl := Option.some.inj hk
      exact hb.block _ hr.lt
theorem OwnW.of_buf {w : World} {B0 : Nat} {v : Value} {l : List UInt8} (h : Buf 5 w B0 v l) : OwnW w B0 v l := by
  rcases h.2 with ⟨rfl, h0⟩ | ⟨g, cap, cur, rfl, hg, hh, h1, h2, h3, h4⟩
  · exact .inl ⟨rfl, List.eq_nil_of_length_eq_zero h0⟩
  · refine .inr ⟨g, 0, cap, cur, rfl, hg, Row.of_heap hh, h1, by omega, h2, fun i hi => ?_⟩
    have hp : Pre cur l := by simpa [Pre] using h4
    rw [Nat.zero_add]
    exact hp.get i hi
theorem OwnW.drop {w : World} {B0 b o cap n : Nat} {l : List UInt8} (h : OwnW w B0 (.slice (some ⟨b, o, none⟩) l.length cap) l) (hn : n ≤ l.length) : OwnW w B0 (.slice (some ⟨b, o + n, none⟩) (l.length - n) (cap - n)) (l.drop n) := by
  rcases h with ⟨e, _⟩ | ⟨b', o', cap', cur, e, hb, hr, h1, h2, h3, h4⟩
  · cases e
  · obtain ⟨e1, _, rfl⟩ := Value.slice.inj e
    obtain ⟨rfl, rfl, _⟩ := Addr.mk.inj (Option.some.inj e1)
    refine .inr ⟨b, o + n, cap - n, cur, by rw [List.length_drop], hb, hr, by rw [List.length_drop]; omega, by omega, by omega, fun i hi => ?_⟩
    rw [List.length_drop] at hi
    rw [Nat.add_assoc, h4 (n + i) (by omega)]
    simp [gb]
theorem OwnW.zero {w : World} {B0 b o cap : Nat} {l : List UInt8} (h : OwnW w B0 (.slice (some ⟨b, o, none⟩) l.length cap) l) : OwnW w B0 (.slice (some ⟨b, o, none⟩) 0 0) [] := by
  rcases h with ⟨e, _⟩ | ⟨b', o', cap', cur, e, hb, hr, h1, h2, h3, h4⟩
  · cases e
  · obtain ⟨e1, _, rfl⟩ := Value.slice.inj e
    obtain ⟨rfl, rfl, _⟩ := Addr.mk.inj (Option.some.inj e1)
    exact .inr ⟨b, o, 0, cur, rfl, hb, hr, Nat.le_refl _, by omega, Nat.zero_le _, fun i hi => absurd hi (Nat.not_lt_zero i)⟩
theorem info_u8S : (Tryz.prog.info? 5).map (fun i => (i.zero, i.size, i.bytes)) = some (some (.int .u8 0), 1, 1) := by kernel_rfl
theorem row_setCells {b : Nat} {t : TypeId} : ∀ (vs : List Value) (o : Nat) (w : World) (cur : Array Value), Row w b t cur → o + vs.length ≤ cur.size →
    ∃ cur', Row (w.setCells b o vs) b t cur' ∧ cur'.size = cur.size ∧ (∀ i, i < o → cur'[i]? = cur[i]?) ∧ ∀ j u, vs[j]? = some u → cur'[o + j]? = some u
  | [], o, w, cur, hr, _ => ⟨cur, hr, rfl, fun _ _ => rfl, fun j u h => by cases h⟩
  | v :: vs, o, w, cur, hr, hl => by
    simp only [List.length_cons] at hl
    obtain ⟨cur', h1, h2, h3, h4⟩ := row_setCells vs (o + 1) (w.setCell ⟨b, o, none⟩ v) (cur.setIfInBounds o v) (hr.set o v) (by simp; omega)
    refine ⟨cur', h1, by rw [h2]; simp, fun i hi => ?_, fun j u hj => ?_⟩
    · rw [h3 i (by omega), Array.getElem?_setIfInBounds_ne (by omega)]
    · match j, hj with
      | 0, hj =>
        obtain rfl : v = u := by simpa using hj
        rw [Nat.add_zero, h3 o (by omega)]
        simp [show o < cur.size by omega]
      | j + 1, hj =>
        have := h4 j u (by simpa using hj)
        rw [show o + (j + 1) = o + 1 + j by omega]
        exact this
theorem heap_setCells (b : Nat) : ∀ (vs : List Value) (o : Nat) (w : World), (w.setCells b o vs).os = w.os ∧ (w.setCells b o vs).tape = w.tape ∧ (w.setCells b o vs).output = w.output ∧ (w.setCells b o vs).heap.size = w.heap.size ∧ ∀ k, k ≠ b → (w.setCells b o vs).heap[k]? = w.heap[k]?
  | [], o, w => ⟨rfl, rfl, rfl, rfl, fun _ _ => rfl⟩
  | v :: vs, o, w => by
    obtain ⟨h1, h2, h3, h4, h5⟩ := heap_setCells b vs (o + 1) (w.setCell ⟨b, o, none⟩ v)
    exact ⟨h1, h2, h3, by rw [World.setCells, h4]; simp, fun k hk => (h5 k hk).trans (heap_setCell_other w _ k v hk)⟩
theorem grownBy_setCells (w : World) (b : Nat) (vs : List Value) (o : Nat) : w.grownBy (w.setCells b o vs) (some b) := by
  obtain ⟨h1, h2, h3, h4, h5⟩ := heap_setCells b vs o w
  exact ⟨h1, h2, h3, Nat.le_of_eq h4.symm, fun k hk hne => h5 k (fun e => hne (by rw [e]))⟩
theorem run_appW (w : World) (B0 : Nat) (v : Value) (l : List UInt8) (h : OwnW w B0 v l) (vx : Value) (m : List UInt8) (hS : SlB w vx m) (hlen : l.length + m.length ≤ 1000000000) (hbase : B0 ≤ w.heap.size) (ty : TypeId) :
    ∃ v' w', (Builtin.append_ #[22, 22] ty #[v, vx]).run Tryz.prog w = .ok v' w' ∧ OwnW w' B0 v' (l ++ m) ∧ w.grownBy w' v.ownBlock ∧ (v'.ownBlock = v.ownBlock ∨ v'.ownBlock = some w.heap.size) := by
  obtain ⟨i, hi, hz, hs1, hb1⟩ := info_parts info_u8S
  have hB : ∀ (l : List UInt8) u, u ∈ l.map B → u.oneCell' = true := fun l u hu => by obtain ⟨y, _, rfl⟩ := List.mem_map.1 hu; rfl
  obtain ⟨ad, capx, rfl, k1, k2, k3, k4⟩ := hS
  have hsrc : ∀ (w' : World), w' = w → ∀ (ax : Addr), ad = some ax → ∀ j u, (m.map B)[j]? = some u → w'.cell? (ax.add j) = some u := fun w' hw ax e j u hj => by
    subst hw
    obtain ⟨hsp, hc⟩ := k4 ax e
    obtain ⟨b', o', sp⟩ := ax
    simp only at hsp
    subst hsp
    have hj' : j < m.length := by simpa using (List.getElem?_eq_some_iff.1 hj).1
    rw [Addr.add_lit, hc j hj']
    simpa [gb, hj'] using hj
  rcases h with ⟨rfl, rfl⟩ | ⟨b, o, cap, cur, rfl, hb, hr, h1, h2, h3, h4⟩
  · cases ad with
    | none =>
      have hm : m = [] := List.eq_nil_of_length_eq_zero (by have := k3 rfl; omega)
      subst hm
      obtain rfl : capx = 0 := k3 rfl
      exact ⟨.slice none 0 0, w, run_append_owned_none (P := Tryz.prog) (w := w) B0 22 ty 5 i 1 Tryz.underlying22 hi (.slice none 0 0) 0 [] (World.ownsRow_nil _ _ _ _), .inl ⟨rfl, rfl⟩, World.grownBy.refl w _, .inl rfl⟩
    | some ax =>
      obtain ⟨v', w', hrun, q1, q2, _, q4⟩ := run_append_own_at (P := Tryz.prog) w B0 22 ty 5 i _ 1 1 Tryz.underlying22 hi hz hs1 hb1 rfl (by decide) (.slice none 0 0) 0 [] (World.ownsRow_nil _ _ _ _) ax m.length capx (m.map B) (by simp) (hsrc w rfl ax rfl) (hB m) (by unfold maxLen; omega) (by omega) hbase
      exact ⟨v', w', hrun, OwnW.of_buf (by simpa [Buf] using q1), q2, q4⟩
  · cases ad with
    | none =>
      have hm : m = [] := List.eq_nil_of_length_eq_zero (by have := k3 rfl; omega)
      subst hm
      obtain rfl : capx = 0 := k3 rfl
      refine ⟨.slice (some ⟨b, o, none⟩) l.length cap, w, ?_, by rw [List.append_nil]; exact .inr ⟨b, o, cap, cur, rfl, hb, hr, h1, h2, h3, h4⟩, World.grownBy.refl w _, .inl rfl⟩
      simp [Builtin.append_, run_underlying Tryz.underlying22, sizeOf, typeInfo, hi, Builtin.lenOf, Builtin.firstCells, h1, storeCells]
    | some ax =>
      by_cases hroom : l.length + m.length ≤ cap
      · have hrun := run_append_room_cells (P := Tryz.prog) (w := w) 22 ty 5 i Tryz.underlying22 hi b o l.length cap ax m.length capx (m.map B) (by simp [hs1]) (hsrc w rfl ax rfl) (hB m) hroom (fun j hj => by
          simp only [List.length_map] at hj
          rw [hr.cell, hs1, Array.getElem?_eq_getElem (by omega)]; rfl) (fun j hj => hr.frozen _)
        rw [hs1, Nat.mul_one] at hrun
        obtain ⟨cur', c1, c2, c3, c4⟩ := row_setCells (m.map B) (o + l.length) w cur hr (by simp; omega)
        refine ⟨_, _, hrun, .inr ⟨b, o, cap, cur', by rw [List.length_append], hb, c1, by rw [List.length_append]; exact hroom, by rw [c2]; exact h2, h3, fun j hj => ?_⟩, grownBy_setCells w b _ _, .inl rfl⟩
        rw [List.length_append] at hj
        by_cases hjl : j < l.length
        · rw [c3 _ (by omega), h4 j hjl, show gb (l ++ m) j = gb l j by simp [gb, List.getElem?_append_left hjl]]
        · have := c4 (j - l.length) (B (gb m (j - l.length))) (by simp [gb, show j - l.length < m.length by omega])
          rw [show o + l.length + (j - l.length) = o + j by omega] at this
          rw [this]
          simp [gb, List.getElem?_append_right (show l.length ≤ j by omega)]
      · have hold : ∀ j u, (l.map B)[j]? = some u → w.cell? ((⟨b, o, none⟩ : Addr).add j) = some u := fun j u hj => by
          have hj' : j < l.length := by simpa using (List.getElem?_eq_some_iff.1 hj).1
          rw [Addr.add_lit, hr.cell, h4 j hj']
          simpa [gb, hj'] using hj
        have hbd : Builtin.nextslicecap (l.length + m.length) cap * i.bytes ≤ 281474976710656 := by
          rw [hb1, Nat.mul_one]
          exact Nat.le_trans (nextslicecap_le (by omega)) (by omega)
        have hrun := run_append_grow (P := Tryz.prog) (w := w) 22 ty 5 i _ Tryz.underlying22 hi hz ⟨b, o, none⟩ l.length cap (l.map B) (by simp [hs1]) hold ax m.length capx (m.map B) (by simp [hs1]) (hsrc w rfl ax rfl) (by omega) (by omega) hbd
        have hge := grownCap_ge w (l.length + m.length) cap 5
        have hcm := grownCap_le_maxLen w (l.length + m.length) cap 5 (by unfold maxLen; omega)
        refine ⟨_, _, hrun, .inr ⟨w.heap.size, 0, _, _, by rw [List.length_append], hbase, Row.newAt w.drew _ _ _ rfl, by rw [List.length_append]; exact hge, ?_, hcm, fun j hj => ?_⟩, ⟨rfl, rfl, rfl, by simp, fun k hk _ => Below.heap_alloc w.drew _ k hk⟩, .inr rfl⟩
        · simp only [Array.size_append, List.size_toArray, List.length_map, size_zeroCells]
          show 0 + _ ≤ _ + _ + _ * 1
          omega
        · rw [List.length_append] at hj
          rw [Nat.zero_add, Array.getElem?_append_left (by simp; omega)]
          have e : (List.map B l).toArray ++ (List.map B m).toArray = ((l ++ m).map B).toArray := by rw [List.map_append]; simp
          rw [e, List.getElem?_toArray, List.getElem?_map, List.getElem?_eq_getElem (by rw [List.length_append]; exact hj)]
          simp [gb, hj]
end Go.Proofs.YtjpfhhndjpdmoaaGreatDoor
