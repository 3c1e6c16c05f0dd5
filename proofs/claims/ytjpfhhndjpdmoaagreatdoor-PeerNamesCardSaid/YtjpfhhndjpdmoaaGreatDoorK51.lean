/- Part of the proof: LaidP, LaidW. No conditions of its own. -/
import Derived.ArgAppend
import Derived.BigQuiet
import Derived.Deep.CutBlock
import Derived.Deep.DeepCutAuto
import Derived.Deep.LoopGhost
import Derived.Deep.Quiet
import Derived.Deep.QuietTactic
import Derived.Deep.RegionLaw
import Derived.LaidMore
import Derived.LaidSub
import Derived.Laws.AppendOwnNone
import Derived.Laws.Bits64b
import Derived.Laws.BitsAllLaws
import Derived.Lay
import Derived.Lib.Hide
import Derived.Maps.AppendAt
import Derived.OpenShut
import Derived.SevenTiedAt
import Derived.Shelf.Bits.Mul64
import Derived.Shelf.Spec.BitsCarry
import Derived.StillTail
import Derived.Stop.BytesEq
import Derived.Stop.Joined
import Derived.Test.YtjpfhhndjpdmoaaGreatDoorProg
import Derived.Test.YtjpfhhndjpdmoaaGreatDoorRows
import Derived.WalkKit
import Derived.Test.YtjpfhhndjpdmoaaGreatDoorK29
import Derived.Test.YtjpfhhndjpdmoaaGreatDoorK50
import Derived.LaidHandle
import Derived.Test.YtjpfhhndjpdmoaaGreatDoorK23
import Derived.Test.YtjpfhhndjpdmoaaGreatDoorK33
namespace Go.Proofs.YtjpfhhndjpdmoaaGreatDoor
open Go.RowKit
set_option linter.unusedVariables false

theorem laid_int {H : Type} {enc : TypeId × Value → H} {P : Program} {w : World} {base fuel n : Nat} {sp : Nat → Bool} {held : Bool} {t e : TypeId} {k : IntKind} {cs : List Value} {zs : List Int} {p : List MemPlace}
    (ht : P.underlying t = some (.array n e)) (he : P.underlying e = some (.int k)) (hc : P.cellsOf e = 1) (hct : P.cellsOf t = n)
    (h : DataW.trod enc P w base sp held fuel t cs = some (.agg (zs.map fun z => .lit (.int k z)), p)) : cs = zs.map (.int k) := by
  obtain ⟨xs, m, _, ex, hl, hxs, hel⟩ := DataW.trod_array ht h
  have e3 : xs.map (·.1) = zs.map fun z => (DataW.lit (.int k z) : DataW H) := (DataW.agg.inj (Prod.mk.inj ex).1).symm
  have hz : zs.length = n := by have := congrArg List.length e3; simpa [hxs] using this.symm
  rw [hct] at hl
  apply List.ext_getElem (by simp; omega)
  intro i h1 h2
  have hi : i < n := by omega
  have hE := hel i hi
  rw [hc, Nat.mul_one, List.getElem?_eq_getElem (by omega)] at hE
  obtain ⟨z, e1, e2, _⟩ := DataW.trod_int he hE
  have e4 := congrArg (fun l : List (DataW H) => l[i]?) e3
  simp only [List.getElem?_map] at e4
  rw [List.getElem?_eq_getElem (by omega : i < xs.length), List.getElem?_eq_getElem (by omega : i < zs.length), e2] at e4
  simp only [Option.map_some, Option.some.injEq, DataW.lit.injEq, Lit.int.injEq, true_and] at e4
  have h0 : ((cs.drop i).take 1)[0]? = some (.int k z) := by rw [e1]; rfl
  have h5 : cs[i]? = some (.int k z) := by simpa using h0
  rw [List.getElem?_eq_getElem h1] at h5
  rw [Option.some.inj h5, e4]
  simp
theorem laid_mem {P : Program} {W : World} : ∀ {l : List (String × DataW Unit)} {ps : List MemPlace}, DataW.LaidVars P W l ps → ∀ (n : String) (d : DataW Unit), (n, d) ∈ l →
    ∃ g t cs fuel p, P.globalNamed n = some g ∧ (P.globals[g]?).map (·.type) = some t ∧ W.var? P n = some cs ∧ DataW.trod (fun _ => ()) P W 0 (fun _ => true) false fuel t cs.toList = some (d, p) ∧ ∀ x ∈ MemPlace.row ⟨g, 0, none⟩ cs.size, x ∈ ps
  | [], ps, h, n, d, hm => by cases hm
  | (n', d') :: r, ps, h, n, d, hm => by
    obtain ⟨g, t, cs, fuel, p, q, hg, ht, hv, hd, hr, hps⟩ := h
    rcases List.mem_cons.1 hm with e | hm
    · obtain ⟨rfl, rfl⟩ := Prod.mk.inj e
      exact ⟨g, t, cs, fuel, p, hg, ht, hv, hd, fun x hx => by rw [hps]; simp [hx]⟩
    · obtain ⟨g2, t2, cs2, fuel2, p2, h1, h2, h3, h4, h5⟩ := laid_mem hr n d hm
      exact ⟨g2, t2, cs2, fuel2, p2, h1, h2, h3, h4, fun x hx => by rw [hps]; simp [h5 x hx]⟩
theorem laid_nums {P : Program} {W : World} {l : List (String × DataW Unit)} (h : laidMetH P l W) {nm : String} {d : DataW Unit} {k : IntKind} {zs : List Int} {g n : Nat} {t e : TypeId} (hm : (nm, d) ∈ l) (hh : d.handleName?.isNone = true) (hd : d = .agg (zs.map fun z => .lit (.int k z)))
    (hg : P.globalNamed nm = some g) (hty : (P.globals[g]?).map (·.type) = some t) (ht : P.underlying t = some (.array n e)) (he : P.underlying e = some (.int k)) (hc : P.cellsOf e = 1) (hct : P.cellsOf t = n) (hpos : 0 < zs.length) : ∃ t, Row W g t (zs.map (.int k)).toArray := by
  obtain ⟨⟨ps, hL, _, hM⟩, _⟩ := laidMetH_iff.1 h
  obtain ⟨g2, t2, cs, fuel, p, h1, h2, h3, h4, h5⟩ := laid_mem hL nm d (List.mem_filter.2 ⟨hm, hh⟩)
  obtain rfl := Option.some.inj (hg.symm.trans h1)
  obtain rfl := Option.some.inj (hty.symm.trans h2)
  rw [hd] at h4
  exact laid_row hg h3 (laid_int ht he hc hct h4) (by simpa using hpos) (fun b off hb => (hM b off hb).1) h5
theorem nums64 (l : List Nat) : ((l.map fun (q : Nat) => (q : Int)).map (.int .u64)) = l.map Q := by rw [List.map_map]; rfl
theorem prime_nums : (Rows.laid_tollgate_curve_prime : DataW Unit) = .agg (((nL P256).map fun (q : Nat) => (q : Int)).map fun z => .lit (.int .u64 z)) := by kernel_rfl
theorem order_nums : (Rows.laid_tollgate_curve_order : DataW Unit) = .agg (((nL N256).map fun (q : Nat) => (q : Int)).map fun z => .lit (.int .u64 z)) := by kernel_rfl
theorem coeff_nums : (Rows.laid_tollgate_curve_coeff : DataW Unit) = .agg (((nL B256).map fun (q : Nat) => (q : Int)).map fun z => .lit (.int .u64 z)) := by kernel_rfl
theorem baseX_nums : (Rows.laid_tollgate_curve_baseX : DataW Unit) = .agg (((nL GX).map fun (q : Nat) => (q : Int)).map fun z => .lit (.int .u64 z)) := by kernel_rfl
theorem baseY_nums : (Rows.laid_tollgate_curve_baseY : DataW Unit) = .agg (((nL GY).map fun (q : Nat) => (q : Int)).map fun z => .lit (.int .u64 z)) := by kernel_rfl
theorem peer_laid {W : World} {l : List (String × DataW Unit)} (h : laidMetH Tryz.prog l W)
    (m1 : ("tollgate/hash.start", Rows.laid_tollgate_hash_start) ∈ l) (m2 : ("tollgate/hash.rounds", Rows.laid_tollgate_hash_rounds) ∈ l) (m3 : ("tollgate/curve.prime", Rows.laid_tollgate_curve_prime) ∈ l) (m4 : ("tollgate/curve.order", Rows.laid_tollgate_curve_order) ∈ l)
    (m5 : ("tollgate/curve.coeff", Rows.laid_tollgate_curve_coeff) ∈ l) (m6 : ("tollgate/curve.baseX", Rows.laid_tollgate_curve_baseX) ∈ l) (m7 : ("tollgate/curve.baseY", Rows.laid_tollgate_curve_baseY) ∈ l) : HashW W ∧ CurveW W := by
  refine ⟨⟨?_, ?_⟩, ⟨?_, ?_, ?_, ?_, ?_⟩⟩
  · obtain ⟨t, ht⟩ := laid_nums h m1 (by kernel_rfl) start_nums (show _ = some 8 by kernel_rfl) (show _ = some 298 by kernel_rfl) Tryz.underlying298 Tryz.underlying210 (by kernel_rfl) (by kernel_rfl) (by decide)
    exact ⟨t, by rw [List.map_map] at ht; exact ht⟩
  · obtain ⟨t, ht⟩ := laid_nums h m2 (by kernel_rfl) rounds_nums (show _ = some 10 by kernel_rfl) (show _ = some 276 by kernel_rfl) Tryz.underlying276 Tryz.underlying210 (by kernel_rfl) (by kernel_rfl) (by decide)
    exact ⟨t, by rw [List.map_map] at ht; exact ht⟩
  · obtain ⟨t, ht⟩ := laid_nums h m4 (by kernel_rfl) order_nums (show _ = some 1 by kernel_rfl) (show _ = some 177 by kernel_rfl) Tryz.underlying177 Tryz.underlying49 (by kernel_rfl) (by kernel_rfl) (by simp [nL])
    exact ⟨t, by rw [nums64] at ht; exact ht⟩
  · obtain ⟨t, ht⟩ := laid_nums h m6 (by kernel_rfl) baseX_nums (show _ = some 2 by kernel_rfl) (show _ = some 177 by kernel_rfl) Tryz.underlying177 Tryz.underlying49 (by kernel_rfl) (by kernel_rfl) (by simp [nL])
    exact ⟨t, by rw [nums64] at ht; exact ht⟩
  · obtain ⟨t, ht⟩ := laid_nums h m7 (by kernel_rfl) baseY_nums (show _ = some 3 by kernel_rfl) (show _ = some 177 by kernel_rfl) Tryz.underlying177 Tryz.underlying49 (by kernel_rfl) (by kernel_rfl) (by simp [nL])
    exact ⟨t, by rw [nums64] at ht; exact ht⟩
  · obtain ⟨t, ht⟩ := laid_nums h m3 (by kernel_rfl) prime_nums (show _ = some 6 by kernel_rfl) (show _ = some 177 by kernel_rfl) Tryz.underlying177 Tryz.underlying49 (by kernel_rfl) (by kernel_rfl) (by simp [nL])
    exact ⟨t, by rw [nums64] at ht; exact ht⟩
  · obtain ⟨t, ht⟩ := laid_nums h m5 (by kernel_rfl) coeff_nums (show _ = some 7 by kernel_rfl) (show _ = some 177 by kernel_rfl) Tryz.underlying177 Tryz.underlying49 (by kernel_rfl) (by kernel_rfl) (by simp [nL])
    exact ⟨t, by rw [nums64] at ht; exact ht⟩
end Go.Proofs.YtjpfhhndjpdmoaaGreatDoor

namespace Go.Proofs.YtjpfhhndjpdmoaaGreatDoor
open Go.RowKit
set_option linter.unusedVariables false

theorem laidMet_layW {P : Program} {w0 : World} {laid : List (String × DataW Unit)} (args : Array Value) (hf : w0.layFits P laid [] = true) (hi : w0.layIfaces P laid (w0.layVars P laid) = true) : laidMet P laid ((w0.layVars P laid).forCall (fun _ _ => 0) ⟨#[], args, []⟩).memory := by
  have e1 : (laid.filter fun x => (laid.map (·.1)).contains x.1) = laid := List.filter_eq_self.2 fun x hx => List.contains_iff_mem.2 (List.mem_map.2 ⟨x, hx, rfl⟩)
  have e2 : (laid.filter fun x => !(laid.map (·.1)).contains x.1) = [] := List.filter_eq_nil_iff.2 fun x hx => by rw [List.contains_iff_mem.2 (List.mem_map.2 ⟨x, hx, rfl⟩)]; simp
  have h : laidMet P laid (w0.layVars P laid) := laidMet_layVars (w0 := w0) (laid.map (·.1)) [] (by rw [e1]) (by rw [e1]; exact hf) (by rw [e1]; exact hi) (by rw [e2]; exact LaidIn.none)
  exact h.of_heap (by simp [World.memory, World.forCall, Input.heap])
noncomputable def errTy : Nat := ((List.range Tryz.prog.types.size).filter fun t => Tryz.prog.rowNamed t [101, 114, 114, 111, 114]).headD 0
noncomputable def errU : Nat := ((Tryz.prog.cutTypes.find? (·.1 == "internal/reflectlite.rtype")).map (·.2)).getD 0
noncomputable def errWorld (os : Os) : World :=
  let w0 := World.holding Tryz.prog os ⟨#[], #[], []⟩
  { w0 with heap := w0.heap.modify 0 fun
      | .cells _ t frozen => .cells #[.iface errU (.agg #[typeHandle Tryz.prog errTy])] t frozen
      | o => o }
noncomputable def peerWorld (os : Os) (l : List (String × DataW Unit)) : World := (errWorld os).layVars Tryz.prog (l.filter fun x => x.2.handleName?.isNone)
theorem peerWorld_os (os : Os) (l : List (String × DataW Unit)) : (peerWorld os l).os = os := World.layVars_os _ _ _
end Go.Proofs.YtjpfhhndjpdmoaaGreatDoor
