/- How a law's arguments are read: arrays of bytes, slices of bytes; how they are given back. They hold for every program and every world. -/
import Derived.Test.YtjopgogaipkdbaaNewSpec
import Derived.ProofKit
import Derived.OpenShut
import Derived.ShutString
import Derived.ChangeOld
import Derived.Below
namespace Go.Proofs.Ytjopgogaipkdbaa
open Go.RowKit

theorem wf_byte {n : Int} (h : (Lit.int .u8 n).wf = true) : ∃ x : UInt8, n = (x.toNat : Int) := by
  have hb := bounds_u8 h
  refine ⟨UInt8.ofNat n.toNat, ?_⟩
  rw [UInt8.toNat_ofNat']
  omega
section
variable {H : Type} {enc : TypeId × Value → H} {P : Program} {w : World} {base : Nat} {spare : Nat → Bool} {held : Bool}
theorem trod_arr {t e : TypeId} {n fuel : Nat} {cs : List Value} {x : DataW H × List MemPlace} (ht : P.underlying t = some (.array n e)) (he : P.underlying e = some (.int .u8)) (hc : P.cellsOf e = 1) (hct : P.cellsOf t = n)
    (h : DataW.trod enc P w base spare held fuel t cs = some x) : ∃ l : List UInt8, l.length = n ∧ cs = l.map B ∧ x.2 = [] := by
  obtain ⟨xs, m, _, rfl, hl, hxs, hel⟩ := DataW.trod_array ht h
  rw [hct] at hl
  have each : ∀ i, i < n → ∃ b : UInt8, cs[i]? = some (B b) ∧ ∃ y, xs[i]? = some y ∧ y.2 = [] := by
    intro i hi
    have h1 := hel i hi
    rw [hc, Nat.mul_one] at h1
    obtain ⟨y, hy⟩ : ∃ y, xs[i]? = some y := ⟨xs[i]'(by omega), List.getElem?_eq_getElem _⟩
    rw [hy] at h1
    obtain ⟨k, hk, rfl, hw⟩ := DataW.trod_int he h1
    obtain ⟨b, rfl⟩ := wf_byte hw
    refine ⟨b, ?_, _, hy, rfl⟩
    have := congrArg (·[0]?) hk
    simpa [List.getElem?_take, List.getElem?_drop] using this
  have hall : ∀ i, i < n → cs[i]? = some (B (gb ((cs.map fun v => match v with | .int _ k => UInt8.ofNat k.toNat | _ => 0)) i)) := by
    intro i hi
    obtain ⟨b, hb, _⟩ := each i hi
    rw [hb]
    simp [gb, hb]
  refine ⟨cs.map fun v => match v with | .int _ k => UInt8.ofNat k.toNat | _ => 0, by simpa using hl, ?_, ?_⟩
  · apply List.ext_getElem (by simp)
    intro i h1 h2
    have := hall i (by omega)
    rw [List.getElem?_eq_getElem h1] at this
    have := Option.some.inj this
    rw [this]
    simp [gb]
    congr
    simp [h1]
  · show xs.flatMap (·.2) = []
    rw [List.flatMap_eq_nil_iff]
    intro y hy
    obtain ⟨i, hi, hyi⟩ := List.getElem_of_mem hy
    obtain ⟨_, _, y', hy', h0⟩ := each i (by omega)
    rw [List.getElem?_eq_getElem hi, hyi] at hy'
    obtain rfl := Option.some.inj hy'
    exact h0
theorem okWide_array {r : Reach} {b0 n : Nat} {t e : TypeId} {v : Value} (ht : P.underlying t = some (.array n e)) (h : Value.okWide P w r b0 t v) : ∃ cs, v = .agg cs ∧ cs.size = P.cellsOf t := by
  unfold Value.okWide at h
  rw [ht] at h
  obtain ⟨cs, h1, h2, _⟩ := h
  exact ⟨cs, h1, h2⟩
/-- An array of bytes that came in. -/
theorem open_arr {r : Reach} {b0 n : Nat} {t e : TypeId} {v : Value} {d : DataW H} {ps : List MemPlace} (ht : P.underlying t = some (.array n e)) (he : P.underlying e = some (.int .u8)) (hc : P.cellsOf e = 1) (hct : P.cellsOf t = n)
    (hval : Value.okWide P w r b0 t v) (hd : DataW.Trod enc P w base spare held t v d ps) : ∃ l : List UInt8, l.length = n ∧ v = .agg (AB l) ∧ ps = [] := by
  obtain ⟨cs, rfl, _⟩ := okWide_array ht hval
  obtain ⟨fuel, hf⟩ := hd
  obtain ⟨l, hl, hcs, hx⟩ := trod_arr ht he hc hct hf
  refine ⟨l, hl, ?_, hx⟩
  simp only [Value.cells] at hcs
  simp [AB, ← hcs]
/-- A slice of bytes that came in. -/
theorem open_byt {r : Reach} {b0 : Nat} {t e : TypeId} {v : Value} {d : DataW H} {ps : List MemPlace} (ht : P.underlying t = some (.slice e)) (he : P.underlying e = some (.int .u8)) (hc : P.cellsOf e = 1)
    (hval : Value.okWide P w r b0 t v) (hd : DataW.Trod enc P w 0 (fun _ => true) held t v d ps) : ∃ l : List UInt8, SlB w v l := by
  obtain ⟨a, len, cap, rfl⟩ := Go.WideShapes.okWide_slice ht hval
  obtain ⟨fuel, hf⟩ := hd
  rcases Go.ChangeShapes.open_ints ht he hc hf with ⟨hcs, _⟩ | ⟨x, l, c, zs, hcs, _, hl, hm, hz, _, hcell, hwz⟩
  · simp [Value.cells] at hcs
    obtain ⟨rfl, rfl, rfl⟩ := hcs
    exact ⟨[], none, 0, rfl, Nat.le_refl _, Nat.zero_le _, fun _ => rfl, fun _ h => by cases h⟩
  · simp [Value.cells] at hcs
    obtain ⟨rfl, rfl, rfl⟩ := hcs
    rw [if_pos rfl] at hz
    have hs : x.spot = none := by
      simp only [Value.okWide, ht, Cell.okWide, Cell.ok] at hval
      exact hval.2.2.2.1
    have hzs : ∀ i, i < cap → zs.getD i 0 = ((UInt8.ofNat (zs.getD i 0).toNat).toNat : Int) := by
      intro i hi
      have hmem : zs.getD i 0 ∈ zs := by
        rw [List.getD_eq_getElem?_getD, List.getElem?_eq_getElem (by omega)]
        exact List.getElem_mem _
      obtain ⟨y, hy⟩ := wf_byte (hwz _ hmem)
      rw [hy]
      simp
    refine ⟨(zs.take len).map fun k => UInt8.ofNat k.toNat, some x, cap, ?_, ?_, hm, (fun h => by cases h), fun ad had => ?_⟩
    · congr 1; simp; omega
    · simp; omega
    · obtain rfl := Option.some.inj had
      refine ⟨hs, fun i hi => ?_⟩
      have hi' : i < len := by simpa using (by simp at hi; omega : i < len)
      have h1 := hcell i (by omega)
      obtain ⟨b, o, s⟩ := x
      simp only at hs
      subst hs
      rw [Addr.add_lit] at h1
      rw [h1, hzs i (by omega)]
      simp [gb, hi', show i < zs.length by omega]
/-- The bytes of an array, as a slice. -/
theorem SlB.of_row {w : World} {g n : Nat} {t : TypeId} {l : List UInt8} (h : Row w g t (AB l)) (hl : l.length = n) (hn : n ≤ maxLen) : SlB w (.slice (some ⟨g, 0, none⟩) n n) l := by
  subst hl
  refine ⟨_, l.length, rfl, Nat.le_refl _, hn, (fun h => by cases h), fun ad had => ?_⟩
  obtain rfl := Option.some.inj had
  refine ⟨rfl, fun i hi => ?_⟩
  rw [Nat.zero_add]
  exact h.byte i hi
end
end Go.Proofs.Ytjopgogaipkdbaa

/- A slice of bytes that came in as a cell of a struct. -/
namespace Go.Proofs.Ytjopgogaipkdbaa
open Go.RowKit
section
variable {H : Type} {enc : TypeId × Value → H} {P : Program} {w : World} {held : Bool}
theorem byt_cell {t e : TypeId} {vp : Value} {fuel : Nat} {y : DataW H × List MemPlace} (ht : P.underlying t = some (.slice e)) (he : P.underlying e = some (.int .u8)) (hc : P.cellsOf e = 1)
    (hsp : ∀ a n c, vp = .slice (some a) n c → a.spot = none) (hf : DataW.trod enc P w 0 (fun _ => true) held fuel t [vp] = some y) : ∃ l : List UInt8, SlB w vp l := by
  rcases Go.ChangeShapes.open_ints ht he hc hf with ⟨hcs, _⟩ | ⟨x, len, cap, zs, hcs, _, hl, hm, hz, _, hcell, hwz⟩
  · simp at hcs
    subst hcs
    exact ⟨[], none, 0, rfl, Nat.le_refl _, Nat.zero_le _, fun _ => rfl, fun _ h => by cases h⟩
  · simp at hcs
    subst hcs
    rw [if_pos rfl] at hz
    have hs := hsp _ _ _ rfl
    have hzs : ∀ i, i < cap → zs.getD i 0 = ((UInt8.ofNat (zs.getD i 0).toNat).toNat : Int) := by
      intro i hi
      have hmem : zs.getD i 0 ∈ zs := by
        rw [List.getD_eq_getElem?_getD, List.getElem?_eq_getElem (by omega)]
        exact List.getElem_mem _
      obtain ⟨y, hy⟩ := wf_byte (hwz _ hmem)
      rw [hy]
      simp
    refine ⟨(zs.take len).map fun k => UInt8.ofNat k.toNat, some x, cap, ?_, ?_, hm, (fun h => by cases h), fun ad had => ?_⟩
    · congr 1; simp; omega
    · simp; omega
    · obtain rfl := Option.some.inj had
      refine ⟨hs, fun i hi => ?_⟩
      have hi' : i < len := by simpa using (by simp at hi; omega : i < len)
      have h1 := hcell i (by omega)
      obtain ⟨b, o, s⟩ := x
      simp only at hs
      subst hs
      rw [Addr.add_lit] at h1
      rw [h1, hzs i (by omega)]
      simp [gb, hi', show i < zs.length by omega]
end
end Go.Proofs.Ytjopgogaipkdbaa
