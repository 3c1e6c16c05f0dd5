/- How a law's argument of slices of bytes is read. -/
import Derived.Test.YtjopgogaipkdbaaFew
import Derived.Test.YtjopgogaipkdbaaDoor
namespace Go.Proofs.Ytjopgogaipkdbaa
open Go.RowKit
section
variable {H : Type} {enc : TypeId × Value → H} {P : Program} {w : World} {held : Bool}
theorem part_cell {t e : TypeId} {vp : Value} {fuel : Nat} {y : DataW H × List MemPlace} (ht : P.underlying t = some (.slice e)) (he : P.underlying e = some (.int .u8)) (hc : P.cellsOf e = 1)
    (hf : DataW.trod enc P w 0 (fun _ => true) held fuel t [vp] = some y) : ∃ l : List UInt8, l.length ≤ maxLen ∧ PB w vp l := by
  rcases Go.ChangeShapes.open_ints ht he hc hf with ⟨hcs, _⟩ | ⟨x, len, cap, zs, hcs, _, hl, hm, hz, _, hcell, hwz⟩
  · simp at hcs
    subst hcs
    exact ⟨[], Nat.zero_le _, none, 0, rfl, Nat.le_refl _, Nat.zero_le _, fun _ => rfl, fun h => absurd h (by decide)⟩
  · simp at hcs
    subst hcs
    rw [if_pos rfl] at hz
    have hzs : ∀ i, i < cap → zs.getD i 0 = ((UInt8.ofNat (zs.getD i 0).toNat).toNat : Int) := by
      intro i hi
      have hmem : zs.getD i 0 ∈ zs := by
        rw [List.getD_eq_getElem?_getD, List.getElem?_eq_getElem (by omega)]
        exact List.getElem_mem _
      obtain ⟨y, hy⟩ := wf_byte (hwz _ hmem)
      rw [hy]
      simp
    have hlen : ((zs.take len).map fun k => UInt8.ofNat k.toNat).length = len := by simp; omega
    refine ⟨(zs.take len).map fun k => UInt8.ofNat k.toNat, by rw [hlen]; omega, some x, cap, by rw [hlen], by omega, hm, (fun h => by cases h), fun h0 => ?_⟩
    have hs : x.spot = none := by
      have h1 := hcell 0 (by omega)
      cases hx : x.spot with
      | none => rfl
      | some s =>
        exfalso
        have : w.cell? x = none := by
          unfold World.cell?
          cases hh : w.heap[x.block]? with
          | none => rfl
          | some o => cases o <;> simp [hx]
        rw [show x.add 0 = x from rfl, this] at h1
        cases h1
    refine ⟨some x, cap, by rw [hlen], by omega, hm, (fun h => by cases h), fun ad had => ?_⟩
    obtain rfl := Option.some.inj had
    refine ⟨hs, fun i hi => ?_⟩
    have hi' : i < len := by omega
    have h1 := hcell i (by omega)
    obtain ⟨b, o, s⟩ := x
    simp only at hs
    subst hs
    rw [Addr.add_lit] at h1
    rw [h1, hzs i (by omega)]
    simp [gb, hi', show i < zs.length by omega]
theorem open_parts {r : Reach} {b0 : Nat} {t es e : TypeId} {v : Value} {d : DataW H} {ps : List MemPlace} (ht : P.underlying t = some (.slice es)) (hes : P.underlying es = some (.slice e)) (he : P.underlying e = some (.int .u8)) (hc1 : P.cellsOf es = 1) (hc : P.cellsOf e = 1)
    (hval : Value.okWide P w r b0 t v) (hd : DataW.Trod enc P w 0 (fun _ => true) held t v d ps) : ∃ parts, PtsIn w v parts := by
  obtain ⟨a, len, cap, rfl⟩ := Go.WideShapes.okWide_slice ht hval
  obtain ⟨fuel, hf⟩ := hd
  rcases DataW.trod_slice ht hf with ⟨hcs, _⟩ | ⟨x, l, c, elems, rest, n, _, hcs, _, _, hl, hm, hlen, hel, _, _⟩
  · simp [Value.cells] at hcs
    obtain ⟨rfl, rfl, rfl⟩ := hcs
    exact ⟨[], none, 0, rfl, Nat.le_refl _, Nat.zero_le _, fun i hi => absurd hi (Nat.not_lt_zero i)⟩
  · simp [Value.cells] at hcs
    obtain ⟨rfl, rfl, rfl⟩ := hcs
    have hs : x.spot = none := by
      simp only [Value.okWide, ht, Cell.okWide, Cell.ok] at hval
      exact hval.2.2.2.1
    have each : ∀ i, ∃ q, i < len → ∃ u, w.cell? (x.add i) = some u ∧ PB w u q := fun i => by
      by_cases hi : i < len
      · have h1 := hel i hi
        rw [List.getElem?_eq_getElem (by omega), hc1, Nat.mul_one, Option.bind_eq_some_iff] at h1
        obtain ⟨cs', hcs, hy⟩ := h1
        obtain ⟨u, rfl⟩ : ∃ u, cs' = [u] := by
          rcases Go.ChangeShapes.open_ints hes he hc hy with ⟨h, _⟩ | ⟨_, _, _, _, h, _⟩
          · exact ⟨_, h⟩
          · exact ⟨_, h⟩
        obtain ⟨q, _, hq⟩ := part_cell hes he hc hy
        exact ⟨q, fun _ => ⟨u, Go.ChangeShapes.cell_of_cells?_one hcs, hq⟩⟩
      · exact ⟨[], fun h => absurd h hi⟩
    obtain ⟨f, hf⟩ := Classical.axiomOfChoice each
    have hpl : ((List.range len).map f).length = len := by simp
    refine ⟨(List.range len).map f, some x, cap, by rw [hpl], by omega, hm, fun i hi => ?_⟩
    rw [hpl] at hi
    obtain ⟨u, hu, hq⟩ := hf i hi
    obtain ⟨b, o, sp⟩ := x
    simp only at hs
    subst hs
    rw [Addr.add_lit] at hu
    have hgd : ((List.range len).map f).getD i [] = f i := by simp [hi]
    exact ⟨b, o, u, rfl, hu, by rw [hgd]; exact hq⟩
end
end Go.Proofs.Ytjopgogaipkdbaa
