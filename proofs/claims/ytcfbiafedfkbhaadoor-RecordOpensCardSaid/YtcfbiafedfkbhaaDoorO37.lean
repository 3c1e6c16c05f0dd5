/- Part of the proof: RefSumK. No conditions of its own. -/
import Derived.ArgAppend
import Derived.Below
import Derived.BigQuiet
import Derived.BigRegion
import Derived.ChangeOld
import Derived.Deep.CutBlock
import Derived.Deep.DeepCutAuto
import Derived.Deep.Draws
import Derived.Deep.LoopGhost
import Derived.Deep.Quiet
import Derived.Deep.QuietTactic
import Derived.Deep.RegionHeld3
import Derived.Deep.RegionLaw
import Derived.Laws.AppendOwnNone
import Derived.Laws.Bits64
import Derived.Laws.BitsAllLaws
import Derived.Laws.BytesArg
import Derived.Laws.CopyOwn
import Derived.Laws.MakeOwn
import Derived.Lib.AppendStr
import Derived.Lib.AppendZerosOnto
import Derived.Lib.BufferMore
import Derived.Lib.ConvBytes
import Derived.Lib.Hide
import Derived.LoopIn
import Derived.LoopNIn
import Derived.Maps.AppendAt
import Derived.OpenShut
import Derived.OrdersIn
import Derived.OwnWalkIn
import Derived.ProofKit
import Derived.RangeFuncBound
import Derived.RangeFuncBox
import Derived.RangeFuncCalls
import Derived.RangeFuncLeaves
import Derived.RangeFuncNested
import Derived.Shelf.Abstract
import Derived.ShutString
import Derived.StillTail
import Derived.TacticsIn
import Derived.TacticsInMore
import Derived.Test.YtcfbiafedfkbhaaDoorProg
import Derived.WalkKit
import Derived.WalkSpells
import Derived.Test.YtcfbiafedfkbhaaDoorO22
import Derived.Test.YtcfbiafedfkbhaaDoorO36
namespace Go.Proofs.YtcfbiafedfkbhaaDoor
open Go.RowKit
set_option linter.unusedVariables false
set_option linter.unusedSimpArgs false

structure SuR (w : World) (g3 g4 : Nat) (H : List UInt32) (wr : World) : Prop where
  r3 : Row wr g3 141 (AD H)
  r4 : Row wr g4 142 (AD roundsS)
  bel : Below w.heap.size w wr
  l3 : w.heap.size ≤ g3
  l4 : g3 < g4
theorem SuR.below {w wr w' : World} {g3 g4 : Nat} {H : List UInt32} (k : SuR w g3 g4 H wr) (hb : Below wr.heap.size wr w') : SuR w g3 g4 H w' :=
  ⟨Row.below k.r3 hb k.r3.lt, Row.below k.r4 hb k.r4.lt, k.bel.trans (hb.mono k.bel.size), k.l3, k.l4⟩
theorem OwnM.typ {w : World} {B0 g : Nat} {v : Value} {l : List UInt8} {t : TypeId} {cs : Array Value} (h : OwnM w B0 v l) (hr : Row w g t cs) (ht : t ≠ 5) : v.ownBlock ≠ some g := fun e => by
  obtain ⟨b, cap, cur, fz, rfl, hb, hh, _⟩ := h
  obtain rfl := Option.some.inj e
  have h1 := hr.heap
  rw [hh] at h1
  simp only [Option.some.injEq, Obj.cells.injEq] at h1
  exact ht h1.2.1.symm
theorem SuR.grown {w wr w' : World} {g3 g4 : Nat} {H : List UInt32} {v : Value} {l : List UInt8} (k : SuR w g3 g4 H wr) (ho : OwnM wr w.heap.size v l) (hg : wr.grownBy w' v.ownBlock) : SuR w g3 g4 H w' :=
  ⟨(row_congr (hg.block _ k.r3.lt (fun e => ho.typ k.r3 (by decide) e.symm))).trans k.r3, (row_congr (hg.block _ k.r4.lt (fun e => ho.typ k.r4 (by decide) e.symm))).trans k.r4,
    k.bel.grown hg k.bel.size ho.ge, k.l3, k.l4⟩
theorem OwnM.low {w : World} {B0 B1 : Nat} {v : Value} {l : List UInt8} (h : OwnM w B1 v l) (hb : B0 ≤ B1) : OwnM w B0 v l := by
  obtain ⟨b, cap, cur, fz, rfl, h0, rest⟩ := h
  exact ⟨b, cap, cur, fz, rfl, Nat.le_trans hb h0, rest⟩
structure SuB (w : World) (g3 g4 b5 : Nat) (l : List UInt8) (H : List UInt32) (wr : World) : Prop where
  su : SuR w g3 g4 H wr
  cl : ∀ i, i < l.length → wr.cell? ⟨b5, i, none⟩ = some (B (gb l i))
  ne : b5 ≠ g3
  lt : b5 < wr.heap.size
theorem SuB.below {w wr w' : World} {g3 g4 b5 : Nat} {l : List UInt8} {H : List UInt32} (k : SuB w g3 g4 b5 l H wr) (hb : Below wr.heap.size wr w') : SuB w g3 g4 b5 l H w' :=
  ⟨k.su.below hb, fun i hi => (hb.cell (p := ⟨b5, i, none⟩) k.lt).trans (k.cl i hi), k.ne, Nat.lt_of_lt_of_le k.lt hb.size⟩
theorem SuB.of {w wr : World} {g3 g4 : Nat} {a : Option Addr} {n c : Nat} {l : List UInt8} {H : List UInt32} (k : SuR w g3 g4 H wr) (ho : OwnM wr w.heap.size (.slice a n c) l) : ∃ b5, a = some ⟨b5, 0, none⟩ ∧ n ≤ c ∧ SuB w g3 g4 b5 l H wr := by
  have hne := ho.typ k.r3 (by decide)
  obtain ⟨b, cap, cur, fz, e, hb, hh, _, h1, h2, _, h4⟩ := ho
  obtain ⟨rfl, rfl, rfl⟩ := Value.slice.inj e
  refine ⟨b, rfl, h1, k, fun i hi => by rw [cell_rowF hh]; exact h4 i hi, fun e => hne (by rw [← e]; rfl), (Array.getElem?_eq_some_iff.1 hh).1⟩
structure SuC (w : World) (g3 g4 b5 : Nat) (l : List UInt8) (H : List UInt32) (g9 : Nat) (W : List UInt32) (wr : World) : Prop where
  sb : SuB w g3 g4 b5 l H wr
  r9 : Row wr g9 142 (AD W)
  l9 : g4 < g9
  b9 : b5 < g9
  s9 : w.heap.size ≤ g9
theorem SuC.below {w wr w' : World} {g3 g4 b5 g9 : Nat} {l : List UInt8} {H W : List UInt32} (k : SuC w g3 g4 b5 l H g9 W wr) (hb : Below wr.heap.size wr w') : SuC w g3 g4 b5 l H g9 W w' :=
  ⟨k.sb.below hb, Row.below k.r9 hb k.r9.lt, k.l9, k.b9, k.s9⟩
theorem SuC.new {w wr : World} {g3 g4 b5 : Nat} {l : List UInt8} {H W : List UInt32} (k : SuB w g3 g4 b5 l H wr) : SuC w g3 g4 b5 l H wr.heap.size W (wr.alloc (.cells (AD W) 142)) :=
  ⟨k.below ((Below.refl _ _).alloc (Nat.le_refl _) _), Row.new _ _ _, k.su.r4.lt, k.lt, k.su.bel.size⟩
theorem SuR.setOther {w wr : World} {g3 g4 g : Nat} {H : List UInt32} (k : SuR w g3 g4 H wr) (h3 : g3 ≠ g) (h4 : g4 ≠ g) (hg : w.heap.size ≤ g) (i : Nat) (v : Value) : SuR w g3 g4 H (wr.setCell ⟨g, i, none⟩ v) :=
  ⟨k.r3.setOther _ _ h3, k.r4.setOther _ _ h4, k.bel.setCell (p := ⟨g, i, none⟩) hg _, k.l3, k.l4⟩
theorem SuB.setOther {w wr : World} {g3 g4 b5 g : Nat} {l : List UInt8} {H : List UInt32} (k : SuB w g3 g4 b5 l H wr) (h3 : g3 ≠ g) (h4 : g4 ≠ g) (h5 : b5 ≠ g) (hg : w.heap.size ≤ g) (i : Nat) (v : Value) : SuB w g3 g4 b5 l H (wr.setCell ⟨g, i, none⟩ v) :=
  ⟨k.su.setOther h3 h4 hg i v, fun j hj => by
    have h1 := k.cl j hj
    rw [← h1]
    simp only [World.cell?, heap_setCell_other wr ⟨g, i, none⟩ b5 v h5], k.ne, by simpa using k.lt⟩
theorem SuC.set {w wr : World} {g3 g4 b5 g9 : Nat} {l : List UInt8} {H W : List UInt32} (k : SuC w g3 g4 b5 l H g9 W wr) (i : Nat) (x : UInt32) : SuC w g3 g4 b5 l H g9 (W.set i x) (wr.setCell ⟨g9, i, none⟩ (D x)) := by
  have h4 := k.sb.su.l4
  have h9 := k.l9
  have h5 := k.b9
  exact ⟨k.sb.setOther (by omega) (by omega) (by omega) k.s9 i _, AD_set W i x ▸ k.r9.set i (D x), k.l9, k.b9, k.s9⟩
structure SuD (w : World) (g3 g4 b5 : Nat) (l : List UInt8) (H : List UInt32) (g9 : Nat) (W : List UInt32) (g14 : Nat) (V : List UInt32) (wr : World) : Prop where
  sc : SuC w g3 g4 b5 l H g9 W wr
  r14 : Row wr g14 141 (AD V)
  l14 : g9 < g14
theorem SuD.below {w wr w' : World} {g3 g4 b5 g9 g14 : Nat} {l : List UInt8} {H W V : List UInt32} (k : SuD w g3 g4 b5 l H g9 W g14 V wr) (hb : Below wr.heap.size wr w') : SuD w g3 g4 b5 l H g9 W g14 V w' :=
  ⟨k.sc.below hb, Row.below k.r14 hb k.r14.lt, k.l14⟩
theorem SuD.row {w wr : World} {g3 g4 b5 g9 g14 : Nat} {l : List UInt8} {H W V : List UInt32} (k : SuD w g3 g4 b5 l H g9 W g14 V wr) (V' : List UInt32) : SuD w g3 g4 b5 l H g9 W g14 V' (wr.setRow g14 (AD V')) := by
  have h4 := k.sc.sb.su.l4
  have h9 := k.sc.l9
  have h5 := k.sc.b9
  have h14 := k.l14
  have hs := k.sc.s9
  refine ⟨⟨⟨⟨k.sc.sb.su.r3.setRowOther _ _ (by omega), k.sc.sb.su.r4.setRowOther _ _ (by omega), bSetRow k.sc.sb.su.bel (by omega) _, k.sc.sb.su.l3, h4⟩, fun j hj => ?_, k.sc.sb.ne, by simpa using k.sc.sb.lt⟩, k.sc.r9.setRowOther _ _ (by omega), h9, h5, hs⟩, k.r14.setRow _, h14⟩
  have h1 := k.sc.sb.cl j hj
  rw [← h1]
  simp only [World.cell?, setRow_other wr g14 b5 (AD V') (by omega)]
theorem SuD.set3 {w wr : World} {g3 g4 b5 g9 g14 : Nat} {l : List UInt8} {H W V : List UInt32} (k : SuD w g3 g4 b5 l H g9 W g14 V wr) (i : Nat) (x : UInt32) : SuD w g3 g4 b5 l (H.set i x) g9 W g14 V (wr.setCell ⟨g3, i, none⟩ (D x)) := by
  have h4 := k.sc.sb.su.l4
  have h9 := k.sc.l9
  have h5 := k.sc.b9
  have h14 := k.l14
  have hne := k.sc.sb.ne
  refine ⟨⟨⟨⟨AD_set H i x ▸ k.sc.sb.su.r3.set i (D x), k.sc.sb.su.r4.setOther _ _ (by show g4 ≠ g3; omega), k.sc.sb.su.bel.setCell (p := ⟨g3, i, none⟩) k.sc.sb.su.l3 _, k.sc.sb.su.l3, h4⟩, fun j hj => ?_, hne, by simpa using k.sc.sb.lt⟩, k.sc.r9.setOther _ _ (by show g9 ≠ g3; omega), h9, h5, k.sc.s9⟩, k.r14.setOther _ _ (by show g14 ≠ g3; omega), h14⟩
  have h1 := k.sc.sb.cl j hj
  rw [← h1]
  simp only [World.cell?, heap_setCell_other wr ⟨g3, i, none⟩ b5 (D x) hne]
theorem SuD.new {w wr : World} {g3 g4 b5 g9 : Nat} {l : List UInt8} {H W : List UInt32} (k : SuC w g3 g4 b5 l H g9 W wr) (Z : Array Value) (V : List UInt32) : SuD w g3 g4 b5 l H g9 W wr.heap.size V ((wr.alloc (.cells Z 141)).setRow wr.heap.size (AD V)) := by
  have hb : Below wr.heap.size wr ((wr.alloc (.cells Z 141)).setRow wr.heap.size (AD V)) := bSetRow ((Below.refl _ _).alloc (Nat.le_refl _) _) (Nat.le_refl _) _
  exact ⟨k.below hb, (Row.new _ _ _).setRow _, k.r9.lt⟩
def s8L (v : S8) : List UInt32 := [v.a, v.b, v.c, v.d, v.e, v.f, v.g, v.h]
theorem s8L_of {H : List UInt32} (h : H.length = 8) : s8L (ofS H) = H := by
  apply List.ext_getElem (by rw [h]; rfl)
  intro i h1 h2
  have hi : i < 8 := h1
  have : i = 0 ∨ i = 1 ∨ i = 2 ∨ i = 3 ∨ i = 4 ∨ i = 5 ∨ i = 6 ∨ i = 7 := by omega
  rcases this with rfl | rfl | rfl | rfl | rfl | rfl | rfl | rfl <;> simp [s8L, ofS, gw, h2]
def addP (H V : List UInt32) : Nat → List UInt32
  | 0 => H
  | i + 1 => (addP H V i).set i (aw (gw H i) (gw V i))
theorem addP_len (H V : List UInt32) : ∀ i, (addP H V i).length = H.length
  | 0 => rfl
  | i + 1 => by rw [addP, List.length_set, addP_len H V i]
theorem addP_get (H V : List UInt32) : ∀ i j, i ≤ j → gw (addP H V i) j = gw H j
  | 0, j, _ => rfl
  | i + 1, j, h => by
    rw [addP]
    have h1 := addP_get H V i j (by omega)
    rw [← h1]
    simp only [gw, List.getD_eq_getElem?_getD, List.getElem?_set]
    rw [if_neg (by omega)]
theorem addP_low (H V : List UInt32) : ∀ i j, j < i → j < H.length → gw (addP H V i) j = aw (gw H j) (gw V j)
  | 0, j, h, _ => absurd h (Nat.not_lt_zero j)
  | i + 1, j, h, hl => by
    rw [addP]
    by_cases e : i = j
    · subst e
      simp only [gw, List.getD_eq_getElem?_getD, List.getElem?_set]
      rw [if_pos trivial, if_pos (by rw [addP_len]; exact hl)]
      rfl
    · have h1 := addP_low H V i j (by omega) hl
      rw [← h1]
      simp only [gw, List.getD_eq_getElem?_getD, List.getElem?_set]
      rw [if_neg e]
theorem addP_all (H V : List UInt32) (h : H.length = 8) : addP H V 8 = [aw (gw H 0) (gw V 0), aw (gw H 1) (gw V 1), aw (gw H 2) (gw V 2), aw (gw H 3) (gw V 3), aw (gw H 4) (gw V 4), aw (gw H 5) (gw V 5), aw (gw H 6) (gw V 6), aw (gw H 7) (gw V 7)] := by
  have hl := addP_len H V 8
  apply List.ext_getElem (by rw [hl, h]; rfl)
  intro i h1 h2
  have hi : i < 8 := by omega
  have h3 := addP_low H V 8 i hi (by omega)
  have h4 : (addP H V 8)[i] = gw (addP H V 8) i := by simp [gw, h1]
  rw [h4, h3]
  have : i = 0 ∨ i = 1 ∨ i = 2 ∨ i = 3 ∨ i = 4 ∨ i = 5 ∨ i = 6 ∨ i = 7 := by omega
  rcases this with rfl | rfl | rfl | rfl | rfl | rfl | rfl | rfl <;> rfl
theorem addP_press (H : List UInt32) (b : List UInt8) (h : H.length = 8) : addP H (s8L (runS roundsS (schS b 64) (ofS H) 64)) 8 = pressS H b := by
  rw [addP_all _ _ h]
  rfl
theorem padS_64 (n : Nat) (l : List UInt8) : (padS n l).length % 64 = 0 := by
  unfold padS
  simp
  omega
theorem gb_blk (l : List UInt8) (k j : Nat) (hj : j < 64) : gb l (64 * k + j) = ((l.drop (64 * k)).take 64).getD j 0 := by
  unfold gb
  rw [List.getD_eq_getElem?_getD, List.getD_eq_getElem?_getD, List.getElem?_take, if_pos hj, List.getElem?_drop]
structure SuF (w : World) (g3 : Nat) (H : List UInt32) (wr : World) (v : Value) (l : List UInt8) : Prop where
  r3 : Row wr g3 141 (AD H)
  bel : Below w.heap.size w wr
  own : OwnW wr w.heap.size v l
  l3 : w.heap.size ≤ g3
theorem SuF.app {w wr w' : World} {g3 : Nat} {H : List UInt32} {v v' : Value} {l l' : List UInt8} (k : SuF w g3 H wr v l) (ho : OwnW w' w.heap.size v' l') (hg : wr.grownBy w' v.ownBlock) : SuF w g3 H w' v' l' :=
  ⟨(row_congr (hg.block _ k.r3.lt (fun e => (k.own.ne k.r3 (by decide)) e.symm))).trans k.r3, k.bel.grown hg k.bel.size (fun b e => by
    rcases k.own.row with h | ⟨b', _, h, hb, _⟩
    · rw [h] at e; cases e
    · rw [h] at e; obtain rfl := Option.some.inj e; exact hb), ho, k.l3⟩
theorem SuF.below {w wr w' : World} {g3 : Nat} {H : List UInt32} {v : Value} {l : List UInt8} (k : SuF w g3 H wr v l) (hb : Below wr.heap.size wr w') : SuF w g3 H w' v l :=
  ⟨Row.below k.r3 hb k.r3.lt, k.bel.trans (hb.mono k.bel.size), k.own.below hb, k.l3⟩
def w4B (x : UInt32) : List UInt8 := [UInt8.ofNat (x.toNat / 16777216), UInt8.ofNat (x.toNat / 65536), UInt8.ofNat (x.toNat / 256), UInt8.ofNat x.toNat]
theorem bytesS_step (H : List UInt32) (r : Nat) (h : r < H.length) : bytesS (H.take (r + 1)) = bytesS (H.take r) ++ w4B (gw H r) := by
  have e : H.take (r + 1) = H.take r ++ [gw H r] := by
    rw [List.take_add_one, gw, List.getD_eq_getElem?_getD, List.getElem?_eq_getElem (by omega)]; rfl
  rw [e, bytesS_snoc]
  rfl
end Go.Proofs.YtcfbiafedfkbhaaDoor
