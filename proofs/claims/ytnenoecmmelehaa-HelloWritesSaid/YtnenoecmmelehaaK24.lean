/- Part of the proof: Door, HRefBodyN. No conditions of its own. -/
import Derived.Below
import Derived.BigQuiet
import Derived.ChangeOld
import Derived.Deep.Quiet
import Derived.Deep.QuietTactic
import Derived.Lib.Hide
import Derived.OpenShut
import Derived.ProofKit
import Derived.ShutString
import Derived.StillTail
import Derived.WalkKit
import Derived.Test.YtnenoecmmelehaaK02
import Derived.Deep.CutBlock
import Derived.Deep.DeepCutAuto
import Derived.Deep.Draws
import Derived.Deep.LoopGhost
import Derived.Deep.RegionLaw
import Derived.Great.BuildSlice
import Derived.Great.FillDense
import Derived.Laws.AppendOwn
import Derived.Laws.AppendOwnNone
import Derived.Laws.BytesArg
import Derived.Laws.Concat
import Derived.Laws.MakeOwn
import Derived.Lib.AppendZerosOnto
import Derived.Lib.BufferWrite
import Derived.Lib.SlBytesConst
import Derived.Stop.BytesEq
import Derived.Test.YtnenoecmmelehaaProg
import Derived.WalkLawsBesides
import Derived.WalkSpells
import Derived.Test.YtnenoecmmelehaaK12
import Derived.Test.YtnenoecmmelehaaK22
namespace Go.Proofs.Ytnenoecmmelehaa
open Go.RowKit

theorem wf_byte {n : Int} (h : (Lit.int .u8 n).wf = true) : ∃ x : UInt8, n = (x.toNat : Int) := by
  have hb := bounds_u8 h
  refine ⟨UInt8.ofNat n.toNat, ?_⟩
  rw [UInt8.toNat_ofNat']
  omega
section
variable {H : Type} {enc : TypeId × Value → H} {P : Program} {w : World} {base : Nat} {spare : Nat → Bool} {held : Bool}
theorem trod_arr {t e : TypeId} {n fuel : Nat} {cs : List Value} {x : DataW H × List MemPlace} (ht : P.underlying t = some (.array n e)) (he : P.underlying e = some (.int .u8)) (hc : P.cellsOf e = 1) (hct : P.cellsOf t = n)
    (h : DataW.trod enc P w base spare held fuel t cs = some x) : ∃ l : List UInt8, l.length = n ∧ cs = l.map B ∧ x.2 = [] := by
  obtain ⟨xs, m, _, rfl, hl, hxs, hel⟩ := DataW.trod_array ht h
  rw [hct] at hl
  have each : ∀ i, i < n → ∃ b : UInt8, cs[i]? = some (B b) ∧ ∃ y, xs[i]? = some y ∧ y.2 = [] := by
    intro i hi
    have h1 := hel i hi
    rw [hc, Nat.mul_one] at h1
    obtain ⟨y, hy⟩ : ∃ y, xs[i]? = some y := ⟨xs[i]'(by omega), List.getElem?_eq_getElem _⟩
    rw [hy] at h1
    obtain ⟨k, hk, rfl, hw⟩ := DataW.trod_int he h1
    obtain ⟨b, rfl⟩ := wf_byte hw
    refine ⟨b, ?_, _, hy, rfl⟩
    have := congrArg (·[0]?) hk
    simpa [List.getElem?_take, List.getElem?_drop] using this
  have hall : ∀ i, i < n → cs[i]? = some (B (gb ((cs.map fun v => match v with | .int _ k => UInt8.ofNat k.toNat | _ => 0)) i)) := by
    intro i hi
    obtain ⟨b, hb, _⟩ := each i hi
    rw [hb]
    simp [gb, hb]
  refine ⟨cs.map fun v => match v with | .int _ k => UInt8.ofNat k.toNat | _ => 0, by simpa using hl, ?_, ?_⟩
  · apply List.ext_getElem (by simp)
    intro i h1 h2
    have := hall i (by omega)
    rw [List.getElem?_eq_getElem h1] at this
    have := Option.some.inj this
    rw [this]
    simp [gb]
    congr
    simp [h1]
  · show xs.flatMap (·.2) = []
    rw [List.flatMap_eq_nil_iff]
    intro y hy
    obtain ⟨i, hi, hyi⟩ := List.getElem_of_mem hy
    obtain ⟨_, _, y', hy', h0⟩ := each i (by omega)
    rw [List.getElem?_eq_getElem hi, hyi] at hy'
    obtain rfl := Option.some.inj hy'
    exact h0
theorem open_byt {r : Reach} {b0 : Nat} {t e : TypeId} {v : Value} {d : DataW H} {ps : List MemPlace} (ht : P.underlying t = some (.slice e)) (he : P.underlying e = some (.int .u8)) (hc : P.cellsOf e = 1)
    (hval : Value.okWide P w r b0 t v) (hd : DataW.Trod enc P w 0 (fun _ => true) held t v d ps) : ∃ l : List UInt8, SlB w v l := by
  obtain ⟨a, len, cap, rfl⟩ := Go.WideShapes.okWide_slice ht hval
  obtain ⟨fuel, hf⟩ := hd
  rcases Go.ChangeShapes.open_ints ht he hc hf with ⟨hcs, _⟩ | ⟨x, l, c, zs, hcs, _, hl, hm, hz, _, hcell, hwz⟩
  · simp [Value.cells] at hcs
    obtain ⟨rfl, rfl, rfl⟩ := hcs
    exact ⟨[], none, 0, rfl, Nat.le_refl _, Nat.zero_le _, fun _ => rfl, fun _ h => by cases h⟩
  · simp [Value.cells] at hcs
    obtain ⟨rfl, rfl, rfl⟩ := hcs
    rw [if_pos rfl] at hz
    have hs : x.spot = none := by
      simp only [Value.okWide, ht, Cell.okWide, Cell.ok] at hval
      exact hval.2.2.2.1
    have hzs : ∀ i, i < cap → zs.getD i 0 = ((UInt8.ofNat (zs.getD i 0).toNat).toNat : Int) := by
      intro i hi
      have hmem : zs.getD i 0 ∈ zs := by
        rw [List.getD_eq_getElem?_getD, List.getElem?_eq_getElem (by omega)]
        exact List.getElem_mem _
      obtain ⟨y, hy⟩ := wf_byte (hwz _ hmem)
      rw [hy]
      simp
    refine ⟨(zs.take len).map fun k => UInt8.ofNat k.toNat, some x, cap, ?_, ?_, hm, (fun h => by cases h), fun ad had => ?_⟩
    · congr 1; simp; omega
    · simp; omega
    · obtain rfl := Option.some.inj had
      refine ⟨hs, fun i hi => ?_⟩
      have hi' : i < len := by simpa using (by simp at hi; omega : i < len)
      have h1 := hcell i (by omega)
      obtain ⟨b, o, s⟩ := x
      simp only at hs
      subst hs
      rw [Addr.add_lit] at h1
      rw [h1, hzs i (by omega)]
      simp [gb, hi', show i < zs.length by omega]
theorem SlB.of_row {w : World} {g n : Nat} {t : TypeId} {l : List UInt8} (h : Row w g t (AB l)) (hl : l.length = n) (hn : n ≤ maxLen) : SlB w (.slice (some ⟨g, 0, none⟩) n n) l := by
  subst hl
  refine ⟨_, l.length, rfl, Nat.le_refl _, hn, (fun h => by cases h), fun ad had => ?_⟩
  obtain rfl := Option.some.inj had
  refine ⟨rfl, fun i hi => ?_⟩
  rw [Nat.zero_add]
  exact h.byte i hi
end
end Go.Proofs.Ytnenoecmmelehaa

/- A slice of bytes that came in as a cell of a struct. -/
namespace Go.Proofs.Ytnenoecmmelehaa
open Go.RowKit
section
variable {H : Type} {enc : TypeId × Value → H} {P : Program} {w : World} {held : Bool}
end
end Go.Proofs.Ytnenoecmmelehaa

namespace Go.Proofs.Ytnenoecmmelehaa
open Go.RowKit
set_option linter.unusedVariables false
set_option linter.unusedSimpArgs false

set_option maxRecDepth 100000 in
set_option maxHeartbeats 4000000 in
theorem refbody_1nof (r mk ses sh ti no sg : List UInt8) (ac : Option Addr) (n cc : Nat) (life age : Int) (retry : Bool) (w : World) (hno : ¬ (bareB (fx zero32) (fx mk) (([] : List UInt8).length + ([] : List UInt8).length + ti.length + no.length + sg.length + n) life age false retry = true ∧ ses.length ≤ 32 ∧ (sh.length = 0 ∨ sh.length = 65))) :
    Calls Try.prog 25 #[.agg (mD 1 r mk [S ses, S sh, S ti, S no, S sg, .slice ac n cc, .int .i64 life, .int .i64 age, .bool false, .bool retry])] w fun e w' => (∃ s, e = .returned (.tuple #[S s, .bool false])) ∧ Below w.heap.size w w' := by
  have hbare : ∀ w, Calls Try.prog 42 #[.agg (mD 1 zero32 mk [S [], S [], S ti, S no, S sg, .slice ac n cc, .int .i64 life, .int .i64 age, .bool false, .bool retry])] w fun e w' => e = .returned (.bool (bareB (fx zero32) (fx mk) (([] : List UInt8).length + ([] : List UInt8).length + ti.length + no.length + sg.length + n) life age false retry)) ∧ Below w.heap.size w w' := fun w => refbareD _ _ _ _ _ _ _ _ _ _ _ _ _ _ _ w
  obtain ⟨bb, hbb⟩ : ∃ bb, bb = bareB (fx zero32) (fx mk) (([] : List UInt8).length + ([] : List UInt8).length + ti.length + no.length + sg.length + n) life age false retry := ⟨_, rfl⟩
  rw [← hbb] at hbare hno
  have HBARE := Lib.hid hbare
  clear hbare hbb
  have hw2 := fun w => refwide_any age w
  generalize wideP age = wa at hw2
  have HNO := Lib.hid hno
  have HW2 := Lib.hid hw2
  clear hno hw2
  cases bb
  all_goals
    go_enter Try.func25, Try.ntmps25
    go_wp2_with fail
    refine (HBARE.out _).mono ?_
    rintro e w1 ⟨rfl, hb1⟩
    have hr : Row w1 w.heap.size 25 (mD 1 r mk [S ses, S sh, S ti, S no, S sg, .slice ac n cc, .int .i64 life, .int .i64 age, .bool false, .bool retry]) := Row.below (by show row _ _ = _; simp [go_sem]) hb1 (by first | (simp; done) | (simp; omega) | omega)
    have hr2 : Row w1 (w.heap.size + 1) 25 (mD 1 zero32 mk [S [], S [], S ti, S no, S sg, .slice ac n cc, .int .i64 life, .int .i64 age, .bool false, .bool retry]) := Row.below (by show row _ _ = _; simp [go_sem]) hb1 (by first | (simp; done) | (simp; omega) | omega)
    have hB : Below w.heap.size w w1 := Below.trans (by (repeat (first | (with_reducible exact Below.refl _ _) | ((with_reducible first | refine bSetRow ?_ ?_ _ | refine Below.alloc ?_ ?_ _ | refine Below.setCell ?_ ?_ _); rotate_left 1; (focus (first | (simp; done) | (simp; omega)))) | (with_reducible refine Below.drew ?_)))) (hb1.mono (by first | (simp; done) | (simp; omega) | omega))
    clear hb1
    go_wp2_with (first | (go_at_call 43; with_reducible refine (HW2.out _).mono ?_; rintro e w1 ⟨rfl, rfl⟩))
    all_goals first | (exfalso; exact HNO.out ⟨(by trivial), (by omega), (by first | omega | grind)⟩) | (go_ret2; exact ⟨⟨[], rfl⟩, hB⟩)
set_option maxRecDepth 100000 in
set_option maxHeartbeats 4000000 in
theorem refbody_1not (r mk ses sh ti no sg : List UInt8) (ac : Option Addr) (n cc : Nat) (life age : Int) (retry : Bool) (w : World) (hno : ¬ (bareB (fx zero32) (fx zero32) (([] : List UInt8).length + ([] : List UInt8).length + ([] : List UInt8).length + no.length + sg.length + n) life 0 false retry = true ∧ ses.length ≤ 32 ∧ (sh.length = 0 ∨ sh.length = 65) ∧ 1 ≤ ti.length ∧ ti.length ≤ 1000 ∧ wideP age = true)) :
    Calls Try.prog 25 #[.agg (mD 1 r mk [S ses, S sh, S ti, S no, S sg, .slice ac n cc, .int .i64 life, .int .i64 age, .bool true, .bool retry])] w fun e w' => (∃ s, e = .returned (.tuple #[S s, .bool false])) ∧ Below w.heap.size w w' := by
  have hbare : ∀ w, Calls Try.prog 42 #[.agg (mD 1 zero32 zero32 [S [], S [], S [], S no, S sg, .slice ac n cc, .int .i64 life, .int .i64 0, .bool false, .bool retry])] w fun e w' => e = .returned (.bool (bareB (fx zero32) (fx zero32) (([] : List UInt8).length + ([] : List UInt8).length + ([] : List UInt8).length + no.length + sg.length + n) life 0 false retry)) ∧ Below w.heap.size w w' := fun w => refbareD _ _ _ _ _ _ _ _ _ _ _ _ _ _ _ w
  obtain ⟨bb, hbb⟩ : ∃ bb, bb = bareB (fx zero32) (fx zero32) (([] : List UInt8).length + ([] : List UInt8).length + ([] : List UInt8).length + no.length + sg.length + n) life 0 false retry := ⟨_, rfl⟩
  rw [← hbb] at hbare hno
  have HBARE := Lib.hid hbare
  clear hbare hbb
  have hw2 := fun w => refwide_any age w
  generalize wideP age = wa at hw2 hno
  have HNO := Lib.hid hno
  have HW2 := Lib.hid hw2
  clear hno hw2
  cases bb <;> cases wa
  all_goals
    go_enter Try.func25, Try.ntmps25
    go_wp2_with fail
    refine (HBARE.out _).mono ?_
    rintro e w1 ⟨rfl, hb1⟩
    have hr : Row w1 w.heap.size 25 (mD 1 r mk [S ses, S sh, S ti, S no, S sg, .slice ac n cc, .int .i64 life, .int .i64 age, .bool true, .bool retry]) := Row.below (by show row _ _ = _; simp [go_sem]) hb1 (by first | (simp; done) | (simp; omega) | omega)
    have hr2 : Row w1 (w.heap.size + 1) 25 (mD 1 zero32 zero32 [S [], S [], S [], S no, S sg, .slice ac n cc, .int .i64 life, .int .i64 0, .bool false, .bool retry]) := Row.below (by show row _ _ = _; simp [go_sem]) hb1 (by first | (simp; done) | (simp; omega) | omega)
    have hB : Below w.heap.size w w1 := Below.trans (by (repeat (first | (with_reducible exact Below.refl _ _) | ((with_reducible first | refine bSetRow ?_ ?_ _ | refine Below.alloc ?_ ?_ _ | refine Below.setCell ?_ ?_ _); rotate_left 1; (focus (first | (simp; done) | (simp; omega)))) | (with_reducible refine Below.drew ?_)))) (hb1.mono (by first | (simp; done) | (simp; omega) | omega))
    clear hb1
    go_wp2_with (first | (go_at_call 43; with_reducible refine (HW2.out _).mono ?_; rintro e w1 ⟨rfl, rfl⟩))
    all_goals first | (exfalso; exact HNO.out ⟨(by trivial), (by omega), (by first | omega | grind), (by omega), (by omega), (by trivial)⟩) | (go_ret2; exact ⟨⟨[], rfl⟩, hB⟩)
end Go.Proofs.Ytnenoecmmelehaa
