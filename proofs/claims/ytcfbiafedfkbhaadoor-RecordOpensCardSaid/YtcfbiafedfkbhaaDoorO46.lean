/- Part of the proof: Nums, Laid. No conditions of its own. -/
import Derived.ArgAppend
import Derived.Below
import Derived.BigQuiet
import Derived.BigRegion
import Derived.ChangeOld
import Derived.Deep.CutBlock
import Derived.Deep.DeepCutAuto
import Derived.Deep.Draws
import Derived.Deep.LoopGhost
import Derived.Deep.Quiet
import Derived.Deep.QuietTactic
import Derived.Deep.RegionHeld3
import Derived.Deep.RegionLaw
import Derived.Laws.AppendOwnNone
import Derived.Laws.Bits64
import Derived.Laws.BitsAllLaws
import Derived.Laws.BytesArg
import Derived.Laws.Concat
import Derived.Laws.CopyOwn
import Derived.Laws.MakeOwn
import Derived.Lib.AppendStr
import Derived.Lib.AppendZerosOnto
import Derived.Lib.Hide
import Derived.Lib.SlBytesConst
import Derived.LoopIn
import Derived.LoopNIn
import Derived.Maps.AppendAt
import Derived.OpenShut
import Derived.OrdersIn
import Derived.OwnWalkIn
import Derived.ProofKit
import Derived.RangeFuncBound
import Derived.RangeFuncBox
import Derived.RangeFuncCalls
import Derived.RangeFuncLeaves
import Derived.RangeFuncNested
import Derived.Shelf.Abstract
import Derived.ShutString
import Derived.StillTail
import Derived.TacticsIn
import Derived.TacticsInMore
import Derived.Test.YtcfbiafedfkbhaaDoorChecked
import Derived.Test.YtcfbiafedfkbhaaDoorProg
import Derived.WalkKit
import Derived.WalkSpells
import Derived.Test.YtcfbiafedfkbhaaDoorO44
import Derived.LaidMore
import Derived.Lay
import Derived.SevenTiedAt
import Derived.Stop.Joined
import Derived.Test.YtcfbiafedfkbhaaDoorRows
import Derived.Test.YtcfbiafedfkbhaaDoorO08
namespace Go.Proofs.YtcfbiafedfkbhaaDoor
open Go.RowKit
theorem open_nums {H : Type} {enc : TypeId × Value → H} {P : Program} {w : World} {held : Bool} {r : Reach} {b0 : Nat} {t e : TypeId} {v : Value} {d : DataW H} {ps : List MemPlace} (ht : P.underlying t = some (.slice e)) (he : P.underlying e = some (.int .i64)) (hc : P.cellsOf e = 1)
    (hval : Value.okWide P w r b0 t v) (hd : DataW.Trod enc P w 0 (fun _ => true) held t v d ps) : ∃ l : List Int, NumS w v l := by
  obtain ⟨a, len, cap, rfl⟩ := Go.WideShapes.okWide_slice ht hval
  obtain ⟨fuel, hf⟩ := hd
  rcases Go.ChangeShapes.open_ints ht he hc hf with ⟨hcs, _⟩ | ⟨x, l, c, zs, hcs, _, hl, hm, hz, _, hcell, hwz⟩
  · simp [Value.cells] at hcs
    obtain ⟨rfl, rfl, rfl⟩ := hcs
    exact ⟨[], none, 0, rfl, Nat.le_refl _, Nat.zero_le _, fun _ => rfl, fun _ h => by cases h⟩
  · simp [Value.cells] at hcs
    obtain ⟨rfl, rfl, rfl⟩ := hcs
    rw [if_pos rfl] at hz
    have hs : x.spot = none := by
      simp only [Value.okWide, ht, Cell.okWide, Cell.ok] at hval
      exact hval.2.2.2.1
    have hlen : (zs.take len).length = len := by rw [List.length_take]; omega
    refine ⟨zs.take len, some x, cap, by rw [hlen], by omega, hm, (fun h => by cases h), fun ad had => ?_⟩
    obtain rfl := Option.some.inj had
    refine ⟨hs, fun i hi => ?_⟩
    have hi' : i < len := by omega
    have h1 := hcell i (by omega)
    obtain ⟨b, o, s⟩ := x
    simp only at hs
    subst hs
    rw [Addr.add_lit] at h1
    rw [h1]
    simp [hi', show i < zs.length by omega]
end Go.Proofs.YtcfbiafedfkbhaaDoor

namespace Go.Proofs.YtcfbiafedfkbhaaDoor
open Go.RowKit

theorem laid_u32 {H : Type} {enc : TypeId × Value → H} {P : Program} {w : World} {base fuel n : Nat} {sp : Nat → Bool} {held : Bool} {t e : TypeId} {cs : List Value} {zs : List Int} {p : List MemPlace}
    (ht : P.underlying t = some (.array n e)) (he : P.underlying e = some (.int .u32)) (hc : P.cellsOf e = 1) (hct : P.cellsOf t = n)
    (h : DataW.trod enc P w base sp held fuel t cs = some (.agg (zs.map fun z => .lit (.int .u32 z)), p)) : cs = zs.map (.int .u32) := by
  obtain ⟨xs, m, _, ex, hl, hxs, hel⟩ := DataW.trod_array ht h
  have e3 : xs.map (·.1) = zs.map fun z => (DataW.lit (.int .u32 z) : DataW H) := (DataW.agg.inj (Prod.mk.inj ex).1).symm
  have hz : zs.length = n := by have := congrArg List.length e3; simpa [hxs] using this.symm
  rw [hct] at hl
  apply List.ext_getElem (by simp; omega)
  intro i h1 h2
  have hi : i < n := by omega
  have hE := hel i hi
  rw [hc, Nat.mul_one, List.getElem?_eq_getElem (by omega)] at hE
  obtain ⟨z, e1, e2, _⟩ := DataW.trod_int he hE
  have e4 := congrArg (fun l : List (DataW H) => l[i]?) e3
  simp only [List.getElem?_map] at e4
  rw [List.getElem?_eq_getElem (by omega : i < xs.length), List.getElem?_eq_getElem (by omega : i < zs.length), e2] at e4
  simp only [Option.map_some, Option.some.injEq, DataW.lit.injEq, Lit.int.injEq, true_and] at e4
  have h0 : ((cs.drop i).take 1)[0]? = some (.int .u32 z) := by rw [e1]; rfl
  have h5 : cs[i]? = some (.int .u32 z) := by simpa using h0
  rw [List.getElem?_eq_getElem h1] at h5
  rw [Option.some.inj h5, e4]
  simp
theorem laid_row {P : Program} {W : World} {nm : String} {g : Nat} {cs : Array Value} {vs : List Value} {ps : List MemPlace} (hg : P.globalNamed nm = some g) (hv : W.var? P nm = some cs) (hcs : cs.toList = vs) (hpos : 0 < vs.length)
    (hm : ∀ b off, MemPlace.cell b off ∈ ps → (∃ c t, W.heap[b]? = some (.cells c t (0, 0)))) (hp : ∀ x, x ∈ MemPlace.row ⟨g, 0, none⟩ cs.size → x ∈ ps) : ∃ t, Row W g t vs.toArray := by
  have hsz : 0 < cs.size := by rw [← Array.length_toList, hcs]; exact hpos
  obtain ⟨c, t, hh⟩ := hm g 0 (hp _ (List.mem_map.2 ⟨0, List.mem_range.2 hsz, by simp⟩))
  simp only [World.var?, hg, Option.bind_some, hh, Option.some.injEq] at hv
  subst hv
  refine ⟨t, .of_heap ?_⟩
  rw [hh, ← hcs]
def numsOf {H : Type} : List (DataW H) → List Int
  | [] => []
  | .lit (.int _ z) :: r => z :: numsOf r
  | _ :: r => numsOf r
def partsOf {H : Type} : DataW H → List (DataW H)
  | .agg l => l
  | _ => []
abbrev hashLaid : List (String × DataW Unit) := [("tollgate/hash.start", Rows.laid_tollgate_hash_start), ("tollgate/hash.rounds", Rows.laid_tollgate_hash_rounds), ("unicode/utf8.acceptRanges", Rows.laid_unicode_utf8_acceptRanges), ("unicode/utf8.first", Rows.laid_unicode_utf8_first)]
theorem start_nums : (Rows.laid_tollgate_hash_start : DataW Unit) = .agg ((startS.map fun x => (x.toNat : Int)).map fun z => .lit (.int .u32 z)) := by kernel_rfl
theorem rounds_nums : (Rows.laid_tollgate_hash_rounds : DataW Unit) = .agg ((roundsS.map fun x => (x.toNat : Int)).map fun z => .lit (.int .u32 z)) := by kernel_rfl
theorem hash_laid {W : World} (h : laidMetH Tryd.prog hashLaid W) : HashW W := by
  rw [MakeChecks.laidMetH_plain _ _ _ (by kernel_rfl)] at h
  obtain ⟨ps, ⟨g, t, cs, fuel, p, q, hg, ht, hv, hd, ⟨g2, t2, cs2, fuel2, p2, q2, hg2, ht2, hv2, hd2, _, hq⟩, hps⟩, _, hm⟩ := h
  obtain rfl := Option.some.inj ((show Tryd.prog.globalNamed "tollgate/hash.start" = some 0 by kernel_rfl).symm.trans hg)
  obtain rfl := Option.some.inj ((show Tryd.prog.globalNamed "tollgate/hash.rounds" = some 1 by kernel_rfl).symm.trans hg2)
  obtain rfl := Option.some.inj ((show (Tryd.prog.globals[0]?).map (·.type) = some 141 by kernel_rfl).symm.trans ht)
  obtain rfl := Option.some.inj ((show (Tryd.prog.globals[1]?).map (·.type) = some 142 by kernel_rfl).symm.trans ht2)
  rw [start_nums] at hd
  rw [rounds_nums] at hd2
  have e1 := laid_u32 Tryd.underlying141 Tryd.underlying114 (by kernel_rfl) (by kernel_rfl) hd
  have e2 := laid_u32 Tryd.underlying142 Tryd.underlying114 (by kernel_rfl) (by kernel_rfl) hd2
  refine ⟨?_, ?_⟩
  · obtain ⟨t, ht⟩ := laid_row hg hv e1 (by decide) (fun b off hb => (hm b off hb).1) (fun x hx => by rw [hps]; simp [hx])
    exact ⟨t, by rw [List.map_map] at ht; exact ht⟩
  · obtain ⟨t, ht⟩ := laid_row hg2 hv2 e2 (by decide) (fun b off hb => (hm b off hb).1) (fun x hx => by rw [hps, hq]; simp [hx])
    exact ⟨t, by rw [List.map_map] at ht; exact ht⟩
end Go.Proofs.YtcfbiafedfkbhaaDoor
