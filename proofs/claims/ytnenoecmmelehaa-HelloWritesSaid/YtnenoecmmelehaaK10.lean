/- Part of the proof: HFunc, HRow, HConst, Alloc. No conditions of its own. -/
import Derived.Below
import Derived.BigQuiet
import Derived.Deep.CutBlock
import Derived.Deep.DeepCutAuto
import Derived.Deep.Draws
import Derived.Deep.LoopGhost
import Derived.Deep.Quiet
import Derived.Deep.QuietTactic
import Derived.Deep.RegionLaw
import Derived.Laws.AppendOwn
import Derived.Laws.AppendOwnNone
import Derived.Laws.BytesArg
import Derived.Laws.Concat
import Derived.Laws.MakeOwn
import Derived.Lib.AppendZerosOnto
import Derived.Lib.Hide
import Derived.StillTail
import Derived.Stop.BytesEq
import Derived.Test.YtnenoecmmelehaaProg
import Derived.WalkKit
import Derived.WalkLawsBesides
import Derived.WalkSpells
import Derived.Test.YtnenoecmmelehaaK06
import Derived.Test.YtnenoecmmelehaaK05
import Derived.Lib.SlBytesConst
import Derived.Test.YtnenoecmmelehaaK02
import Derived.Test.YtnenoecmmelehaaK04
namespace Go.Proofs.Ytnenoecmmelehaa
open Go.RowKit

def StrsAt (w : World) (vp : Value) (parts : List (List UInt8)) : Prop :=
  ∃ a cap, vp = .slice a parts.length cap ∧ parts.length ≤ cap ∧ cap ≤ maxLen ∧ ∀ i, i < parts.length → ∃ g o, a = some ⟨g, o, none⟩ ∧ w.cell? ⟨g, o + i, none⟩ = some (S (parts.getD i []))
theorem StrsAt.below {w w' : World} {vp : Value} {parts : List (List UInt8)} (h : StrsAt w vp parts) (hb : Below w.heap.size w w') : StrsAt w' vp parts := by
  obtain ⟨a, cap, e, h1, h2, h3⟩ := h
  refine ⟨a, cap, e, h1, h2, fun i hi => ?_⟩
  obtain ⟨g, o, e1, e2⟩ := h3 i hi
  exact ⟨g, o, e1, (hb.cell (World.block_lt_of_cell? w _ e2)).trans e2⟩
def StrB (w : World) (base : Nat) (v : Value) (parts : List (List UInt8)) : Prop := w.ownsRow base 9 1 v parts.length (parts.map S)
theorem StrB.strs {w : World} {base : Nat} {v : Value} {parts : List (List UInt8)} (h : StrB w base v parts) : StrsAt w v parts := by
  rcases h.2 with ⟨rfl, h0⟩ | ⟨g, cap, cur, rfl, _, hh, h1, h2, h3, h4⟩
  · exact ⟨none, 0, by rw [h0], by omega, Nat.zero_le _, fun j hj => by omega⟩
  · refine ⟨some ⟨g, 0, none⟩, cap, rfl, h1, h2, fun j hj => ?_⟩
    have hrow : Row w g 9 cur := .of_heap hh
    refine ⟨g, 0, rfl, ?_⟩
    rw [Nat.zero_add, hrow.cell, ← Array.getElem?_toList]
    have : (cur.toList.take (parts.length * 1))[j]? = (parts.map S)[j]? := by rw [h4]
    rw [List.getElem?_take, if_pos (by omega)] at this
    rw [this]
    simp [hj]
theorem info_any {P : Program} {e : TypeId} {z : Value} {sz by' : Nat} (h : (P.info? e).map (fun i => (i.zero, i.size, i.bytes)) = some (some z, sz, by')) : ∃ i, P.info? e = some i ∧ i.zero = some z ∧ i.size = sz ∧ i.bytes = by' := by
  cases hi : P.info? e with
  | none => rw [hi] at h; cases h
  | some i =>
    rw [hi] at h
    simp only [Option.map_some, Option.some.injEq, Prod.mk.injEq] at h
    exact ⟨i, rfl, h.1, h.2.1, h.2.2⟩
def cutP (l : List (List UInt8)) (k : Nat) : List (List UInt8) := (l.take k).map (List.take 2100)
theorem cutP_step (l : List (List UInt8)) (k : Nat) (h : k < l.length) : (cutP l k).map S ++ [S ((l.getD k []).take 2100)] = (cutP l (k + 1)).map S := by
  unfold cutP
  rw [List.take_succ_eq_append_getElem h, List.map_append, List.map_append]
  simp only [List.map_cons, List.map_nil, List.getD_eq_getElem?_getD, List.getElem?_eq_getElem h, Option.getD_some]
theorem cutP_len (l : List (List UInt8)) (k : Nat) (h : k ≤ l.length) : (cutP l k).length = k := by simp [cutP, h]
def strV (l : List (List UInt8)) : List Value := l.map S
set_option maxRecDepth 100000 in
set_option maxHeartbeats 4000000 in
theorem func1_any (vp : Value) (l : List (List UInt8)) (w : World) (hp : StrsAt w vp l) : Calls Try.prog 20 #[vp] w fun e w' => ∃ v', e = .returned v' ∧ StrB w' w.heap.size v' (cutP l 6) ∧ Below w.heap.size w w' := by
  obtain ⟨pa, pcap, rfl, hpc, hpm, hpe⟩ := hp
  have HPE := Lib.hid hpe
  clear hpe
  go_enter Try.func20, Try.ntmps20
  go_wp2_with fail
  go_loopg [3, 4] 6 (fun g v iv wr => ∃ k : Nat, g + k = 6 ∧ iv = .int .i64 (k : Int) ∧ k ≤ l.length ∧ wr.ownsRow w.heap.size 9 1 v k (strV (cutP l k)) ∧ Below w.heap.size w wr)
  case atStart => exact ⟨0, by omega, rfl, Nat.zero_le _, World.ownsRow_nil w w.heap.size 9 1, Below.refl _ w⟩
  case round =>
    obtain ⟨k, hk, rfl, hkl, hrow, hB⟩ := hrel
    have fin : (k = 6 ∨ k = l.length) → StrB wr w.heap.size u3 (cutP l 6) := fun h => by
      have e : cutP l k = cutP l 6 := by
        rcases h with rfl | rfl
        · rfl
        · unfold cutP
          rw [List.take_length, List.take_of_length_le (by omega)]
      unfold StrB
      rw [← e, cutP_len l k hkl]
      exact hrow
    by_cases h1 : k < l.length
    · have x1 : (k : Int) < (l.length : Int) := by omega
      by_cases h2 : k < 6
      · have x2 : (k : Int) < 6 := by omega
        obtain ⟨g, o, ha, hc⟩ := HPE.out k h1
        subst ha
        have x0 : (0 : Int) ≤ (k : Int) := by omega
        have x3 : ((k : Int)).toNat = k := by omega
        have hc2 := (hB.cell (World.block_lt_of_cell? w _ hc)).trans hc
        have hst : strV (cutP l k) ++ [S ((l.getD k []).take 2100)] = strV (cutP l (k + 1)) := cutP_step l k h1
        obtain ⟨q, hq⟩ : ∃ q, q = l.getD k [] := ⟨_, rfl⟩
        rw [← hq] at hst hc2
        have HST := Lib.hid hst
        have HROW := Lib.hid hrow
        have HB := Lib.hid hB
        clear hc hst hq hrow hB fin
        go_wp2_with fail
        refine (short_any q _).mono ?_
        rintro e w2 ⟨rfl, rfl⟩
        obtain ⟨x, hx⟩ : ∃ x, x = q.take 2100 := ⟨_, rfl⟩
        rw [← hx]
        have HX := Lib.hid hx
        obtain ⟨i9, hi9, hz0, hz1, hz2⟩ := info_any info_str
        have hcell : ∀ j y, [S x][j]? = some y → (w2.alloc (.cells #[S x] 9)).cell? ((⟨w2.heap.size, 0, none⟩ : Addr).add j) = some y := fun j y hj => by
          have hj1 : j < 1 := by simpa using (List.getElem?_eq_some_iff.1 hj).1
          obtain rfl : j = 0 := by omega
          rw [Addr.add_lit, (Row.new w2 9 #[S x]).cell]
          simpa using hj
        have hone : ∀ y ∈ [S x], y.oneCell' = true := fun y hy => by
          obtain rfl : y = S x := by simpa using hy
          rfl
        have hr2 : (w2.alloc (.cells #[S x] 9)).ownsRow w.heap.size 9 1 u3 k (strV (cutP l k)) := World.ownsRow.alloc HROW.out _
        have hB2 : Below w.heap.size w (w2.alloc (.cells #[S x] 9)) := HB.out.alloc HB.out.size _
        have hmx : k + 1 ≤ maxLen := by unfold maxLen; omega
        have HCELL := Lib.hid hcell
        have HONE := Lib.hid hone
        have HI9 := Lib.hid hi9
        have HZ0 := Lib.hid hz0
        have HZ1 := Lib.hid hz1
        have HZ2 := Lib.hid hz2
        have HR2 := Lib.hid hr2
        have HB2 := Lib.hid hB2
        have HMX := Lib.hid hmx
        clear hcell hone hi9 hz0 hz1 hz2 hr2 hB2 hmx hx
        go_wp2_with (at_builtin; refine wpList_append_own _ rfl (.tmp 15) (.tmp 21) 23 rfl w.heap.size 9 i9 (.string ⟨#[]⟩) 1 16 Try.underlying23 HI9.out HZ0.out HZ1.out HZ2.out rfl (by decide) _ k _ rfl HR2.out ⟨w2.heap.size, 0, none⟩ 1 1 [S x] rfl rfl HCELL.out HONE.out HMX.out (by omega) HB2.out.size ?_)
        intro v' w' hown hg _
        rw [HX.out, HST.out] at hown
        have hB6 : Below w.heap.size w w' := HB2.out.grown hg HB2.out.size (fun j e => (World.ownsRow.lt HR2.out j e).1)
        have HOWN := Lib.hid hown
        clear hown hg
        go_wp2_with fail
        go_roundg (gk - 1)
        case measure => omega
        case rel => exact ⟨k + 1, by omega, by go_num, by omega, HOWN.out, hB6⟩
      · have x2 : ¬ (k : Int) < 6 := by omega
        have HF := Lib.hid (fin (.inl (by omega)))
        clear fin hrow
        go_wp2_with fail
        go_ret
        exact ⟨_, rfl, HF.out, hB⟩
    · have x1 : ¬ (k : Int) < (l.length : Int) := by omega
      have HF := Lib.hid (fin (.inr (by omega)))
      clear fin hrow
      go_wp2_with fail
      go_ret
      exact ⟨_, rfl, HF.out, hB⟩
end Go.Proofs.Ytnenoecmmelehaa

namespace Go.Proofs.Ytnenoecmmelehaa
open Go.RowKit

def RowS (w : World) : List Value → List (List UInt8) → Prop
  | [], [] => True
  | v :: vs, l :: ls => SlB w v l ∧ RowS w vs ls
  | _, _ => False
theorem RowS.len {w : World} : ∀ {vs : List Value} {ls : List (List UInt8)}, RowS w vs ls → vs.length = ls.length
  | [], [], _ => rfl
  | v :: vs, l :: ls, h => by rw [List.length_cons, List.length_cons, RowS.len h.2]
  | [], _ :: _, h => h.elim
  | _ :: _, [], h => h.elim
theorem RowS.get {w : World} : ∀ {vs : List Value} {ls : List (List UInt8)}, RowS w vs ls → ∀ i, i < ls.length → ∃ v, vs[i]? = some v ∧ SlB w v (ls.getD i [])
  | [], [], _, i, hi => absurd hi (Nat.not_lt_zero i)
  | v :: vs, l :: ls, h, 0, _ => ⟨v, rfl, h.1⟩
  | v :: vs, l :: ls, h, i + 1, hi => by
    obtain ⟨u, h1, h2⟩ := RowS.get h.2 i (by simpa using hi)
    exact ⟨u, by simpa using h1, by simpa using h2⟩
  | [], _ :: _, h, _, _ => h.elim
  | _ :: _, [], h, _, _ => h.elim
theorem RowS.below {w w' : World} : ∀ {vs : List Value} {ls : List (List UInt8)}, RowS w vs ls → Below w.heap.size w w' → RowS w' vs ls
  | [], [], _, _ => trivial
  | _ :: _, _ :: _, h, hb => ⟨h.1.below hb, RowS.below h.2 hb⟩
  | [], _ :: _, h, _ => h.elim
  | _ :: _, [], h, _ => h.elim
theorem PartsAt.new {w : World} {t : TypeId} {vs : List Value} {ls : List (List UInt8)} (h : RowS w vs ls) (hn : ls.length ≤ 1000000) : PartsAt (w.alloc (.cells vs.toArray t)) (.slice (some ⟨w.heap.size, 0, none⟩) ls.length ls.length) ls := by
  refine ⟨_, ls.length, rfl, Nat.le_refl _, by unfold maxLen; omega, fun i hi => ?_⟩
  obtain ⟨v, h1, h2⟩ := h.get i hi
  refine ⟨w.heap.size, 0, v, rfl, ?_, h2.below ((Below.refl _ w).alloc (Nat.le_refl _) _)⟩
  rw [Nat.zero_add, (Row.new w t vs.toArray).cell]
  simpa using h1
end Go.Proofs.Ytnenoecmmelehaa

namespace Go.Proofs.Ytnenoecmmelehaa
open Go.RowKit

theorem conv_const (w : World) (C : Array Value) (n c : Nat) : (convert 27 27 (.slice (some ⟨w.heap.size, 0, none⟩) n c)).run Try.prog (w.alloc (.cells C 5)) = .ok (.slice (some ⟨w.heap.size, 0, none⟩) n c) (w.alloc (.cells C 5 (C.size, C.size + 1))) :=
  Lib.run_convert_bytes_const w 27 5 C n c Try.underlying27 Try.underlying5
theorem conv_const_at (w : World) (g : Nat) (hg : g = w.heap.size) (C : Array Value) (n c : Nat) : (convert 27 27 (.slice (some ⟨g, 0, none⟩) n c)).run Try.prog (w.alloc (.cells C 5)) = .ok (.slice (some ⟨g, 0, none⟩) n c) (w.alloc (.cells C 5 (C.size, C.size + 1))) := by
  subst hg
  exact conv_const w C n c
attribute [go_sem] conv_const_at
theorem SlB.marked (w : World) (e : TypeId) (fz : Nat × Nat) (l : List UInt8) (hl : l.length ≤ 1000000) : SlB (w.alloc (.cells (AB l) e fz)) (.slice (some ⟨w.heap.size, 0, none⟩) l.length l.length) l := by
  refine ⟨_, l.length, rfl, Nat.le_refl _, by unfold maxLen; omega, (fun h => by cases h), fun ad had => ?_⟩
  obtain rfl := Option.some.inj had
  refine ⟨rfl, fun i hi => ?_⟩
  unfold World.cell?
  rw [heap_alloc_new w (.cells (AB l) e fz)]
  simp [AB, hi, gb]
end Go.Proofs.Ytnenoecmmelehaa

namespace Go.Proofs.Ytnenoecmmelehaa
open Go.RowKit

abbrev Fresh := Nat → Option Obj
def upd (R : Fresh) (g : Nat) (o : Obj) : Fresh := fun k => if k = g then some o else R k
def CC (W : World) (R : Fresh) (w : World) : Prop := Below W.heap.size W w ∧ ∀ g o, R g = some o → w.heap[g]? = some o
def isAl (o : Oper) : Bool := match o.op with | .alloc _ => true | _ => false
def ptr (g : Nat) : Value := .pointer (some ⟨g, 0, none⟩)
section
variable {P : Program} {ops : Array Oper} {md : Region.Mode} {W : World} {ob : Nat → Obj}
def AlF (P : Program) (ops : Array Oper) (o : Oper) (b : Obj) : Prop :=
  (∀ a : Act, Region.wanted o (yielded ops a.tmps) = true) ∧ ∀ (ρ : Operand → Value) (w : World), (execOp ρ o).run P w = .ok (.value (ptr w.heap.size)) (w.alloc b)
def YieldsR (P : Program) (ops : Array Oper) (W : World) (o : Oper) (v : Value) (a : Act) : Prop :=
  (Region.wanted o (yielded ops a.tmps) = true ∧ ∀ R w, CC W R w → o.quietAt P a (CC W R) w v) ∨ (Region.wanted o (yielded ops a.tmps) = false ∧ v = undef)
def aOp (P : Program) (ops : Array Oper) (W : World) (ob : Nat → Obj) (i : Nat) (K : Act → Fresh → Prop) (a : Act) (R : Fresh) : Prop :=
  match ops[i]? with
  | none => K a R
  | some o => if isAl o = true then ∀ g, W.heap.size ≤ g → R g = none → K (a.put o.dst (ptr g)) (upd R g (ob i)) else ∃ v, YieldsR P ops W o v a ∧ K (a.put o.dst v) R
def wpAnyA (P : Program) (md : Region.Mode) (ops : Array Oper) (W : World) (ob : Nat → Obj) (n : Nat) (L : Array Bool → Act → Fresh → Prop) : Nat → Array Bool → Act → Fresh → Prop
  | 0, listed, a, R => L listed a R
  | f + 1, listed, a, R => Region.ready md ops listed ≠ [] ∧ ∀ i ∈ Region.ready md ops listed, i < n ∧ aOp P ops W ob i (wpAnyA P md ops W ob n L f (listed.setIfInBounds i true)) a R
variable {n : Nat} {L : Array Bool → Act → Fresh → Prop}
/-! ### the order: the quiet ones, the new blocks, the tail -/
def alAt (ops : Array Oper) (k : Nat) : Bool := (ops[k]?.map isAl).getD true
def piB (md : Region.Mode) (ops : Array Oper) (g n : Nat) : List Nat → Array Bool → Bool
  | [], listed => Region.seqB md ops g n listed
  | k :: ks, listed => (Region.ready md ops listed).contains k && Region.free md ops listed k && decide (k < n) && piB md ops g n ks (listed.setIfInBounds k true)
def piB1 (md : Region.Mode) (ops : Array Oper) (g n : Nat) (ks2 : List Nat) : List Nat → Array Bool → Bool
  | [], listed => ((List.range n).all fun j => listed.getD j true || alAt ops j) && piB md ops g n ks2 listed
  | k :: ks, listed => (Region.ready md ops listed).contains k && Region.free md ops listed k && decide (k < n) && !alAt ops k && piB1 md ops g n ks2 ks (listed.setIfInBounds k true)
def wpAl (ops : Array Oper) (W : World) (ob : Nat → Obj) (Lq : Act → Fresh → Prop) : List Nat → Act → Fresh → Prop
  | [], a, R => Lq a R
  | k :: ks, a, R => match ops[k]? with
    | none => False
    | some o => ∀ g, W.heap.size ≤ g → R g = none → wpAl ops W ob Lq ks (a.put o.dst (ptr g)) (upd R g (ob k))
def wpQR (P : Program) (ops : Array Oper) (W : World) (Lq : Act → Prop) : List Nat → Act → Prop
  | [], a => Lq a
  | k :: ks, a => match ops[k]? with
    | none => False
    | some o => ∃ v, YieldsR P ops W o v a ∧ wpQR P ops W Lq ks (a.put o.dst v)
/-! ### one value for all classes, out of the last frame -/
def dstB : List Oper → Nat → Bool
  | [], _ => true
  | o :: l, s => (match o.dst with | some d => decide (d < s) && l.all (fun o' => o'.dst != some d) | none => false) && dstB l s
theorem put_size (a : Act) (d : Option Tmp) (v : Value) : (a.put d v).tmps.size = a.tmps.size := by cases d <;> simp [Act.put]
theorem put_get_ne (a : Act) {d : Tmp} (x : Option Tmp) (v : Value) (h : x ≠ some d) : (a.put x v).tmps[d]? = a.tmps[d]? := by
  cases x with
  | none => rfl
  | some y =>
    have : y ≠ d := fun e => h (by rw [e])
    simp [Act.put, this]
def allocB (md : Region.Mode) (ops : Array Oper) (n : Nat) (ks1 ks2 : List Nat) : Bool :=
  Region.noSelect ops && decide (n < ops.size) && Region.sinkB md ops n && Region.chainB md ops n && piB1 md ops (ops.size - n) n ks2 ks1 (Array.replicate ops.size false) && decide (ks2.length + ks1.length = n) && (List.range n).all fun j => ks2.contains j || !alAt ops j
end
/-! ### operations in these classes -/
section
variable {P : Program} {W : World} {R : Fresh} {o : Oper} {a : Act} {K : Act → Prop}
end
end Go.Proofs.Ytnenoecmmelehaa
