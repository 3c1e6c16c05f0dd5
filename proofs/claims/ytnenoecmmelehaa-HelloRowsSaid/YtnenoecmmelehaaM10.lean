/- Part of the proof: HRow, HConst, Alloc. No conditions of its own. -/
import Derived.Below
import Derived.BigQuiet
import Derived.Deep.CutBlock
import Derived.Deep.DeepCutAuto
import Derived.Deep.Draws
import Derived.Deep.LoopGhost
import Derived.Deep.Quiet
import Derived.Deep.QuietTactic
import Derived.Deep.RegionLaw
import Derived.Laws.AppendOwn
import Derived.Laws.AppendOwnNone
import Derived.Laws.BytesArg
import Derived.Laws.Concat
import Derived.Laws.MakeOwn
import Derived.Lib.AppendZerosOnto
import Derived.Lib.Hide
import Derived.StillTail
import Derived.Test.YtnenoecmmelehaaProg
import Derived.WalkKit
import Derived.WalkLawsBesides
import Derived.WalkSpells
import Derived.Test.YtnenoecmmelehaaM05
import Derived.Lib.SlBytesConst
import Derived.Test.YtnenoecmmelehaaM02
import Derived.Test.YtnenoecmmelehaaM04
namespace Go.Proofs.Ytnenoecmmelehaa
open Go.RowKit

def RowS (w : World) : List Value → List (List UInt8) → Prop
  | [], [] => True
  | v :: vs, l :: ls => SlB w v l ∧ RowS w vs ls
  | _, _ => False
theorem RowS.len {w : World} : ∀ {vs : List Value} {ls : List (List UInt8)}, RowS w vs ls → vs.length = ls.length
  | [], [], _ => rfl
  | v :: vs, l :: ls, h => by rw [List.length_cons, List.length_cons, RowS.len h.2]
  | [], _ :: _, h => h.elim
  | _ :: _, [], h => h.elim
theorem RowS.get {w : World} : ∀ {vs : List Value} {ls : List (List UInt8)}, RowS w vs ls → ∀ i, i < ls.length → ∃ v, vs[i]? = some v ∧ SlB w v (ls.getD i [])
  | [], [], _, i, hi => absurd hi (Nat.not_lt_zero i)
  | v :: vs, l :: ls, h, 0, _ => ⟨v, rfl, h.1⟩
  | v :: vs, l :: ls, h, i + 1, hi => by
    obtain ⟨u, h1, h2⟩ := RowS.get h.2 i (by simpa using hi)
    exact ⟨u, by simpa using h1, by simpa using h2⟩
  | [], _ :: _, h, _, _ => h.elim
  | _ :: _, [], h, _, _ => h.elim
theorem RowS.below {w w' : World} : ∀ {vs : List Value} {ls : List (List UInt8)}, RowS w vs ls → Below w.heap.size w w' → RowS w' vs ls
  | [], [], _, _ => trivial
  | _ :: _, _ :: _, h, hb => ⟨h.1.below hb, RowS.below h.2 hb⟩
  | [], _ :: _, h, _ => h.elim
  | _ :: _, [], h, _ => h.elim
theorem PartsAt.new {w : World} {t : TypeId} {vs : List Value} {ls : List (List UInt8)} (h : RowS w vs ls) (hn : ls.length ≤ 1000000) : PartsAt (w.alloc (.cells vs.toArray t)) (.slice (some ⟨w.heap.size, 0, none⟩) ls.length ls.length) ls := by
  refine ⟨_, ls.length, rfl, Nat.le_refl _, by unfold maxLen; omega, fun i hi => ?_⟩
  obtain ⟨v, h1, h2⟩ := h.get i hi
  refine ⟨w.heap.size, 0, v, rfl, ?_, h2.below ((Below.refl _ w).alloc (Nat.le_refl _) _)⟩
  rw [Nat.zero_add, (Row.new w t vs.toArray).cell]
  simpa using h1
end Go.Proofs.Ytnenoecmmelehaa

namespace Go.Proofs.Ytnenoecmmelehaa
open Go.RowKit

theorem conv_const (w : World) (C : Array Value) (n c : Nat) : (convert 27 27 (.slice (some ⟨w.heap.size, 0, none⟩) n c)).run Try.prog (w.alloc (.cells C 5)) = .ok (.slice (some ⟨w.heap.size, 0, none⟩) n c) (w.alloc (.cells C 5 (C.size, C.size + 1))) :=
  Lib.run_convert_bytes_const w 27 5 C n c Try.underlying27 Try.underlying5
theorem conv_const_at (w : World) (g : Nat) (hg : g = w.heap.size) (C : Array Value) (n c : Nat) : (convert 27 27 (.slice (some ⟨g, 0, none⟩) n c)).run Try.prog (w.alloc (.cells C 5)) = .ok (.slice (some ⟨g, 0, none⟩) n c) (w.alloc (.cells C 5 (C.size, C.size + 1))) := by
  subst hg
  exact conv_const w C n c
attribute [go_sem] conv_const_at
theorem SlB.marked (w : World) (e : TypeId) (fz : Nat × Nat) (l : List UInt8) (hl : l.length ≤ 1000000) : SlB (w.alloc (.cells (AB l) e fz)) (.slice (some ⟨w.heap.size, 0, none⟩) l.length l.length) l := by
  refine ⟨_, l.length, rfl, Nat.le_refl _, by unfold maxLen; omega, (fun h => by cases h), fun ad had => ?_⟩
  obtain rfl := Option.some.inj had
  refine ⟨rfl, fun i hi => ?_⟩
  unfold World.cell?
  rw [heap_alloc_new w (.cells (AB l) e fz)]
  simp [AB, hi, gb]
end Go.Proofs.Ytnenoecmmelehaa

namespace Go.Proofs.Ytnenoecmmelehaa
open Go.RowKit

abbrev Fresh := Nat → Option Obj
def upd (R : Fresh) (g : Nat) (o : Obj) : Fresh := fun k => if k = g then some o else R k
def CC (W : World) (R : Fresh) (w : World) : Prop := Below W.heap.size W w ∧ ∀ g o, R g = some o → w.heap[g]? = some o
def isAl (o : Oper) : Bool := match o.op with | .alloc _ => true | _ => false
def ptr (g : Nat) : Value := .pointer (some ⟨g, 0, none⟩)
section
variable {P : Program} {ops : Array Oper} {md : Region.Mode} {W : World} {ob : Nat → Obj}
def AlF (P : Program) (ops : Array Oper) (o : Oper) (b : Obj) : Prop :=
  (∀ a : Act, Region.wanted o (yielded ops a.tmps) = true) ∧ ∀ (ρ : Operand → Value) (w : World), (execOp ρ o).run P w = .ok (.value (ptr w.heap.size)) (w.alloc b)
def YieldsR (P : Program) (ops : Array Oper) (W : World) (o : Oper) (v : Value) (a : Act) : Prop :=
  (Region.wanted o (yielded ops a.tmps) = true ∧ ∀ R w, CC W R w → o.quietAt P a (CC W R) w v) ∨ (Region.wanted o (yielded ops a.tmps) = false ∧ v = undef)
def aOp (P : Program) (ops : Array Oper) (W : World) (ob : Nat → Obj) (i : Nat) (K : Act → Fresh → Prop) (a : Act) (R : Fresh) : Prop :=
  match ops[i]? with
  | none => K a R
  | some o => if isAl o = true then ∀ g, W.heap.size ≤ g → R g = none → K (a.put o.dst (ptr g)) (upd R g (ob i)) else ∃ v, YieldsR P ops W o v a ∧ K (a.put o.dst v) R
def wpAnyA (P : Program) (md : Region.Mode) (ops : Array Oper) (W : World) (ob : Nat → Obj) (n : Nat) (L : Array Bool → Act → Fresh → Prop) : Nat → Array Bool → Act → Fresh → Prop
  | 0, listed, a, R => L listed a R
  | f + 1, listed, a, R => Region.ready md ops listed ≠ [] ∧ ∀ i ∈ Region.ready md ops listed, i < n ∧ aOp P ops W ob i (wpAnyA P md ops W ob n L f (listed.setIfInBounds i true)) a R
variable {n : Nat} {L : Array Bool → Act → Fresh → Prop}
/-! ### the order: the quiet ones, the new blocks, the tail -/
def alAt (ops : Array Oper) (k : Nat) : Bool := (ops[k]?.map isAl).getD true
def piB (md : Region.Mode) (ops : Array Oper) (g n : Nat) : List Nat → Array Bool → Bool
  | [], listed => Region.seqB md ops g n listed
  | k :: ks, listed => (Region.ready md ops listed).contains k && Region.free md ops listed k && decide (k < n) && piB md ops g n ks (listed.setIfInBounds k true)
def piB1 (md : Region.Mode) (ops : Array Oper) (g n : Nat) (ks2 : List Nat) : List Nat → Array Bool → Bool
  | [], listed => ((List.range n).all fun j => listed.getD j true || alAt ops j) && piB md ops g n ks2 listed
  | k :: ks, listed => (Region.ready md ops listed).contains k && Region.free md ops listed k && decide (k < n) && !alAt ops k && piB1 md ops g n ks2 ks (listed.setIfInBounds k true)
def wpAl (ops : Array Oper) (W : World) (ob : Nat → Obj) (Lq : Act → Fresh → Prop) : List Nat → Act → Fresh → Prop
  | [], a, R => Lq a R
  | k :: ks, a, R => match ops[k]? with
    | none => False
    | some o => ∀ g, W.heap.size ≤ g → R g = none → wpAl ops W ob Lq ks (a.put o.dst (ptr g)) (upd R g (ob k))
def wpQR (P : Program) (ops : Array Oper) (W : World) (Lq : Act → Prop) : List Nat → Act → Prop
  | [], a => Lq a
  | k :: ks, a => match ops[k]? with
    | none => False
    | some o => ∃ v, YieldsR P ops W o v a ∧ wpQR P ops W Lq ks (a.put o.dst v)
/-! ### one value for all classes, out of the last frame -/
def dstB : List Oper → Nat → Bool
  | [], _ => true
  | o :: l, s => (match o.dst with | some d => decide (d < s) && l.all (fun o' => o'.dst != some d) | none => false) && dstB l s
theorem put_size (a : Act) (d : Option Tmp) (v : Value) : (a.put d v).tmps.size = a.tmps.size := by cases d <;> simp [Act.put]
theorem put_get_ne (a : Act) {d : Tmp} (x : Option Tmp) (v : Value) (h : x ≠ some d) : (a.put x v).tmps[d]? = a.tmps[d]? := by
  cases x with
  | none => rfl
  | some y =>
    have : y ≠ d := fun e => h (by rw [e])
    simp [Act.put, this]
def allocB (md : Region.Mode) (ops : Array Oper) (n : Nat) (ks1 ks2 : List Nat) : Bool :=
  Region.noSelect ops && decide (n < ops.size) && Region.sinkB md ops n && Region.chainB md ops n && piB1 md ops (ops.size - n) n ks2 ks1 (Array.replicate ops.size false) && decide (ks2.length + ks1.length = n) && (List.range n).all fun j => ks2.contains j || !alAt ops j
end
/-! ### operations in these classes -/
section
variable {P : Program} {W : World} {R : Fresh} {o : Oper} {a : Act} {K : Act → Prop}
end
end Go.Proofs.Ytnenoecmmelehaa
