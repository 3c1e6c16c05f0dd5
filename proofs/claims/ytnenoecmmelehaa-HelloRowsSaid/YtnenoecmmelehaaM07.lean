/- Part of the proof: HCells. No conditions of its own. -/
import Derived.Below
import Derived.BigQuiet
import Derived.Deep.CutBlock
import Derived.Deep.DeepCutAuto
import Derived.Deep.Draws
import Derived.Deep.LoopGhost
import Derived.Deep.Quiet
import Derived.Deep.QuietTactic
import Derived.Deep.RegionLaw
import Derived.Laws.AppendOwn
import Derived.Laws.AppendOwnNone
import Derived.Laws.BytesArg
import Derived.Laws.Concat
import Derived.Laws.MakeOwn
import Derived.Lib.AppendZerosOnto
import Derived.Lib.Hide
import Derived.StillTail
import Derived.Stop.BytesEq
import Derived.Test.YtnenoecmmelehaaProg
import Derived.WalkKit
import Derived.WalkLawsBesides
import Derived.WalkSpells
import Derived.Test.YtnenoecmmelehaaM04
import Derived.Test.YtnenoecmmelehaaM06
namespace Go.Proofs.Ytnenoecmmelehaa
open Go.RowKit
set_option linter.unusedVariables false

def fx (l : List UInt8) : List UInt8 := tab 32 (gb l)
theorem fx_len (l : List UInt8) : (fx l).length = 32 := tab_length _ _
theorem fx_of {l : List UInt8} (h : l.length = 32) : fx l = l := tab_gb h
def mD (k : Int) (r mk : List UInt8) (l : List Value) : Array Value := mC k (fx r) (fx mk) l
theorem mD_of {k : Int} {r mk : List UInt8} {l : List Value} (hr : r.length = 32) (hm : mk.length = 32) : mC k r mk l = mD k r mk l := by unfold mD; rw [fx_of hr, fx_of hm]
section
variable {k : Int} {r mk : List UInt8} {l : List Value} {v0 v1 v2 v3 v4 v5 v6 v7 v8 v9 u : Value}
theorem mD_0 : (mD k r mk l)[0]? = some (.int .i64 k) := mC_kind
theorem mD_n (i : Nat) : (mD k r mk l)[65 + i]? = l[i]? := mC_get (fx_len _) (fx_len _) i
theorem mD_65 : (mD k r mk (v0 :: l))[65]? = some v0 := mD_n 0
theorem mD_66 : (mD k r mk (v0 :: v1 :: l))[66]? = some v1 := mD_n 1
theorem mD_67 : (mD k r mk (v0 :: v1 :: v2 :: l))[67]? = some v2 := mD_n 2
theorem mD_68 : (mD k r mk (v0 :: v1 :: v2 :: v3 :: l))[68]? = some v3 := mD_n 3
theorem mD_69 : (mD k r mk (v0 :: v1 :: v2 :: v3 :: v4 :: l))[69]? = some v4 := mD_n 4
theorem mD_70 : (mD k r mk (v0 :: v1 :: v2 :: v3 :: v4 :: v5 :: l))[70]? = some v5 := mD_n 5
theorem mD_71 : (mD k r mk (v0 :: v1 :: v2 :: v3 :: v4 :: v5 :: v6 :: l))[71]? = some v6 := mD_n 6
theorem mD_72 : (mD k r mk (v0 :: v1 :: v2 :: v3 :: v4 :: v5 :: v6 :: v7 :: l))[72]? = some v7 := mD_n 7
theorem mD_73 : (mD k r mk (v0 :: v1 :: v2 :: v3 :: v4 :: v5 :: v6 :: v7 :: v8 :: l))[73]? = some v8 := mD_n 8
theorem mD_74 : (mD k r mk (v0 :: v1 :: v2 :: v3 :: v4 :: v5 :: v6 :: v7 :: v8 :: v9 :: l))[74]? = some v9 := mD_n 9
theorem mD_g0 (h : 0 < (mD k r mk l).size) : (mD k r mk l)[0] = .int .i64 k := by
  have := mD_0 (k := k) (r := r) (mk := mk) (l := l)
  rw [Array.getElem?_eq_getElem h] at this
  exact Option.some.inj this
theorem mD_g65 (h : 65 < (mD k r mk (v0 :: l)).size) : (mD k r mk (v0 :: l))[65] = v0 := by
  have := mD_65 (k := k) (r := r) (mk := mk) (l := l) (v0 := v0)
  rw [Array.getElem?_eq_getElem h] at this
  exact Option.some.inj this
theorem mD_g66 (h : 66 < (mD k r mk (v0 :: v1 :: l)).size) : (mD k r mk (v0 :: v1 :: l))[66] = v1 := by
  have := mD_66 (k := k) (r := r) (mk := mk) (l := l) (v0 := v0) (v1 := v1)
  rw [Array.getElem?_eq_getElem h] at this
  exact Option.some.inj this
theorem mD_g67 (h : 67 < (mD k r mk (v0 :: v1 :: v2 :: l)).size) : (mD k r mk (v0 :: v1 :: v2 :: l))[67] = v2 := by
  have := mD_67 (k := k) (r := r) (mk := mk) (l := l) (v0 := v0) (v1 := v1) (v2 := v2)
  rw [Array.getElem?_eq_getElem h] at this
  exact Option.some.inj this
theorem mD_g68 (h : 68 < (mD k r mk (v0 :: v1 :: v2 :: v3 :: l)).size) : (mD k r mk (v0 :: v1 :: v2 :: v3 :: l))[68] = v3 := by
  have := mD_68 (k := k) (r := r) (mk := mk) (l := l) (v0 := v0) (v1 := v1) (v2 := v2) (v3 := v3)
  rw [Array.getElem?_eq_getElem h] at this
  exact Option.some.inj this
theorem mD_g69 (h : 69 < (mD k r mk (v0 :: v1 :: v2 :: v3 :: v4 :: l)).size) : (mD k r mk (v0 :: v1 :: v2 :: v3 :: v4 :: l))[69] = v4 := by
  have := mD_69 (k := k) (r := r) (mk := mk) (l := l) (v0 := v0) (v1 := v1) (v2 := v2) (v3 := v3) (v4 := v4)
  rw [Array.getElem?_eq_getElem h] at this
  exact Option.some.inj this
theorem mD_g70 (h : 70 < (mD k r mk (v0 :: v1 :: v2 :: v3 :: v4 :: v5 :: l)).size) : (mD k r mk (v0 :: v1 :: v2 :: v3 :: v4 :: v5 :: l))[70] = v5 := by
  have := mD_70 (k := k) (r := r) (mk := mk) (l := l) (v0 := v0) (v1 := v1) (v2 := v2) (v3 := v3) (v4 := v4) (v5 := v5)
  rw [Array.getElem?_eq_getElem h] at this
  exact Option.some.inj this
theorem mD_g71 (h : 71 < (mD k r mk (v0 :: v1 :: v2 :: v3 :: v4 :: v5 :: v6 :: l)).size) : (mD k r mk (v0 :: v1 :: v2 :: v3 :: v4 :: v5 :: v6 :: l))[71] = v6 := by
  have := mD_71 (k := k) (r := r) (mk := mk) (l := l) (v0 := v0) (v1 := v1) (v2 := v2) (v3 := v3) (v4 := v4) (v5 := v5) (v6 := v6)
  rw [Array.getElem?_eq_getElem h] at this
  exact Option.some.inj this
theorem mD_g72 (h : 72 < (mD k r mk (v0 :: v1 :: v2 :: v3 :: v4 :: v5 :: v6 :: v7 :: l)).size) : (mD k r mk (v0 :: v1 :: v2 :: v3 :: v4 :: v5 :: v6 :: v7 :: l))[72] = v7 := by
  have := mD_72 (k := k) (r := r) (mk := mk) (l := l) (v0 := v0) (v1 := v1) (v2 := v2) (v3 := v3) (v4 := v4) (v5 := v5) (v6 := v6) (v7 := v7)
  rw [Array.getElem?_eq_getElem h] at this
  exact Option.some.inj this
theorem mD_g73 (h : 73 < (mD k r mk (v0 :: v1 :: v2 :: v3 :: v4 :: v5 :: v6 :: v7 :: v8 :: l)).size) : (mD k r mk (v0 :: v1 :: v2 :: v3 :: v4 :: v5 :: v6 :: v7 :: v8 :: l))[73] = v8 := by
  have := mD_73 (k := k) (r := r) (mk := mk) (l := l) (v0 := v0) (v1 := v1) (v2 := v2) (v3 := v3) (v4 := v4) (v5 := v5) (v6 := v6) (v7 := v7) (v8 := v8)
  rw [Array.getElem?_eq_getElem h] at this
  exact Option.some.inj this
theorem mD_g74 (h : 74 < (mD k r mk (v0 :: v1 :: v2 :: v3 :: v4 :: v5 :: v6 :: v7 :: v8 :: v9 :: l)).size) : (mD k r mk (v0 :: v1 :: v2 :: v3 :: v4 :: v5 :: v6 :: v7 :: v8 :: v9 :: l))[74] = v9 := by
  have := mD_74 (k := k) (r := r) (mk := mk) (l := l) (v0 := v0) (v1 := v1) (v2 := v2) (v3 := v3) (v4 := v4) (v5 := v5) (v6 := v6) (v7 := v7) (v8 := v8) (v9 := v9)
  rw [Array.getElem?_eq_getElem h] at this
  exact Option.some.inj this
theorem mD_sz : (mD k r mk [v0, v1, v2, v3, v4, v5, v6, v7, v8, v9]).size = 75 := mC_size (fx_len _) (fx_len _)
theorem mD_R : sub (mD k r mk l) 1 32 = AB (fx r) := mC_random (fx_len _)
theorem mD_M : sub (mD k r mk l) 33 32 = AB (fx mk) := mC_mark (fx_len _) (fx_len _)
theorem mD_set (i : Nat) : (mD k r mk l).setIfInBounds (65 + i) u = mD k r mk (l.set i u) := by
  unfold mD mC
  apply Array.ext'
  simp only [Array.toList_setIfInBounds]
  rw [List.set_append_right _ _ (by simp; omega)]
  rw [List.set_append_right _ _ (by simp [fx_len]; omega)]
  rw [List.set_append_right _ _ (by simp [fx_len]; omega)]
  have : 65 + i - ([Value.int .i64 k]).length - ((fx r).map B).length - ((fx mk).map B).length = i := by simp [fx_len]; omega
  rw [this]
theorem mD_s0 (n : Int) : (mD k r mk l).setIfInBounds 0 (.int .i64 n) = mD n r mk l := rfl
theorem mD_s65 : (mD k r mk (v0 :: l)).setIfInBounds 65 u = mD k r mk (u :: l) := mD_set 0
theorem mD_s66 : (mD k r mk (v0 :: v1 :: l)).setIfInBounds 66 u = mD k r mk (v0 :: u :: l) := mD_set 1
theorem mD_s67 : (mD k r mk (v0 :: v1 :: v2 :: l)).setIfInBounds 67 u = mD k r mk (v0 :: v1 :: u :: l) := mD_set 2
theorem mD_s68 : (mD k r mk (v0 :: v1 :: v2 :: v3 :: l)).setIfInBounds 68 u = mD k r mk (v0 :: v1 :: v2 :: u :: l) := mD_set 3
theorem mD_s69 : (mD k r mk (v0 :: v1 :: v2 :: v3 :: v4 :: l)).setIfInBounds 69 u = mD k r mk (v0 :: v1 :: v2 :: v3 :: u :: l) := mD_set 4
theorem mD_s70 : (mD k r mk (v0 :: v1 :: v2 :: v3 :: v4 :: v5 :: l)).setIfInBounds 70 u = mD k r mk (v0 :: v1 :: v2 :: v3 :: v4 :: u :: l) := mD_set 5
theorem mD_s71 : (mD k r mk (v0 :: v1 :: v2 :: v3 :: v4 :: v5 :: v6 :: l)).setIfInBounds 71 u = mD k r mk (v0 :: v1 :: v2 :: v3 :: v4 :: v5 :: u :: l) := mD_set 6
theorem mD_s72 : (mD k r mk (v0 :: v1 :: v2 :: v3 :: v4 :: v5 :: v6 :: v7 :: l)).setIfInBounds 72 u = mD k r mk (v0 :: v1 :: v2 :: v3 :: v4 :: v5 :: v6 :: u :: l) := mD_set 7
theorem mD_s73 : (mD k r mk (v0 :: v1 :: v2 :: v3 :: v4 :: v5 :: v6 :: v7 :: v8 :: l)).setIfInBounds 73 u = mD k r mk (v0 :: v1 :: v2 :: v3 :: v4 :: v5 :: v6 :: v7 :: u :: l) := mD_set 8
theorem mD_s74 : (mD k r mk (v0 :: v1 :: v2 :: v3 :: v4 :: v5 :: v6 :: v7 :: v8 :: v9 :: l)).setIfInBounds 74 u = mD k r mk (v0 :: v1 :: v2 :: v3 :: v4 :: v5 :: v6 :: v7 :: v8 :: u :: l) := mD_set 9
theorem mD_oR (x : List UInt8) (hx : x.length = 32) : over (mD k r mk l) 1 (AB x) = mD k x mk l := by
  unfold mD mC over
  apply Array.ext'
  simp [AB, hx, fx_len, fx_of hx]
theorem mD_oM (x : List UInt8) (hx : x.length = 32) : over (mD k r mk l) 33 (AB x) = mD k r x l := by
  unfold mD mC over
  apply Array.ext'
  have e : List.drop 64 (List.map B (fx r) ++ (List.map B (fx mk) ++ l)) = l := by
    rw [← List.append_assoc, List.drop_left' (by simp [fx_len])]
  simp [AB, hx, fx_len, fx_of hx, e]
theorem mD_zR : over (mD k r mk l) 1 #[.int .u8 0, .int .u8 0, .int .u8 0, .int .u8 0, .int .u8 0, .int .u8 0, .int .u8 0, .int .u8 0, .int .u8 0, .int .u8 0, .int .u8 0, .int .u8 0, .int .u8 0, .int .u8 0, .int .u8 0, .int .u8 0, .int .u8 0, .int .u8 0, .int .u8 0, .int .u8 0, .int .u8 0, .int .u8 0, .int .u8 0, .int .u8 0, .int .u8 0, .int .u8 0, .int .u8 0, .int .u8 0, .int .u8 0, .int .u8 0, .int .u8 0, .int .u8 0] = mD k zero32 mk l := by
  rw [← zero32_lit]; exact mD_oR zero32 rfl
theorem mD_zM : over (mD k r mk l) 33 #[.int .u8 0, .int .u8 0, .int .u8 0, .int .u8 0, .int .u8 0, .int .u8 0, .int .u8 0, .int .u8 0, .int .u8 0, .int .u8 0, .int .u8 0, .int .u8 0, .int .u8 0, .int .u8 0, .int .u8 0, .int .u8 0, .int .u8 0, .int .u8 0, .int .u8 0, .int .u8 0, .int .u8 0, .int .u8 0, .int .u8 0, .int .u8 0, .int .u8 0, .int .u8 0, .int .u8 0, .int .u8 0, .int .u8 0, .int .u8 0, .int .u8 0, .int .u8 0] = mD k r zero32 l := by
  rw [← zero32_lit]; exact mD_oM zero32 rfl
end
theorem mD_cR {k : Int} {r mk : List UInt8} {l : List Value} (i : Nat) (h : i < 32) : (mD k r mk l)[1 + i]? = some (B (gb (fx r) i)) := by
  have := congrArg (fun a => a[i]?) (mD_R (k := k) (r := r) (mk := mk) (l := l))
  simp only [sub] at this
  have hs : (mD k r mk l).size = 65 + l.length := mC_size (fx_len _) (fx_len _)
  rw [AB_get _ i (by rw [fx_len]; exact h), Array.getElem?_extract, if_pos (by omega)] at this
  exact this
theorem mD_cM {k : Int} {r mk : List UInt8} {l : List Value} (i : Nat) (h : i < 32) : (mD k r mk l)[33 + i]? = some (B (gb (fx mk) i)) := by
  have := congrArg (fun a => a[i]?) (mD_M (k := k) (r := r) (mk := mk) (l := l))
  simp only [sub] at this
  have hs : (mD k r mk l).size = 65 + l.length := mC_size (fx_len _) (fx_len _)
  rw [AB_get _ i (by rw [fx_len]; exact h), Array.getElem?_extract, if_pos (by omega)] at this
  exact this
theorem SlB.rand {w : World} {g : Nat} {t : TypeId} {k : Int} {r mk : List UInt8} {l : List Value} (h : Row w g t (mD k r mk l)) : SlB w (.slice (some ⟨g, 1, none⟩) 32 32) (fx r) := by
  refine ⟨some ⟨g, 1, none⟩, 32, by rw [fx_len], by rw [fx_len]; exact Nat.le_refl _, by unfold maxLen; omega, (fun h => by cases h), fun ad had => ?_⟩
  obtain rfl := Option.some.inj had
  exact ⟨rfl, fun i hi => by rw [h.cell]; exact mD_cR i (by rwa [fx_len] at hi)⟩
theorem SlB.markM {w : World} {g : Nat} {t : TypeId} {k : Int} {r mk : List UInt8} {l : List Value} (h : Row w g t (mD k r mk l)) : SlB w (.slice (some ⟨g, 33, none⟩) 32 32) (fx mk) := by
  refine ⟨some ⟨g, 33, none⟩, 32, by rw [fx_len], by rw [fx_len]; exact Nat.le_refl _, by unfold maxLen; omega, (fun h => by cases h), fun ad had => ?_⟩
  obtain rfl := Option.some.inj had
  exact ⟨rfl, fun i hi => by rw [h.cell]; exact mD_cM i (by rwa [fx_len] at hi)⟩
attribute [go_sem ↓] mD_0 mD_65 mD_66 mD_67 mD_68 mD_69 mD_70 mD_71 mD_72 mD_73 mD_74
attribute [go_sem] mD_g0 mD_g65 mD_g66 mD_g67 mD_g68 mD_g69 mD_g70 mD_g71 mD_g72 mD_g73 mD_g74 mD_sz mD_R mD_M mD_s0 mD_s65 mD_s66 mD_s67 mD_s68 mD_s69 mD_s70 mD_s71 mD_s72 mD_s73 mD_s74 mD_zR mD_zM
/-! rules without a condition: a simp that discharges goes two deep alone -/
theorem row_setCell (w : World) (g i : Nat) (v : Value) : row (w.setCell ⟨g, i, none⟩ v) g = (row w g).map fun p => (p.1, p.2.setIfInBounds i v) := by
  cases h : row w g with
  | some p =>
    have := row_set_same w g i v (by rw [h]; rfl)
    rw [h] at this
    exact this
  | none =>
    unfold row at h ⊢
    simp only [World.setCell, Array.getElem?_modify]
    cases hg : w.heap[g]? with
    | none => simp
    | some o =>
      rw [hg] at h
      cases o with
      | cells c e f =>
        simp only [Option.map_some, if_true, Option.isSome_none, Bool.false_eq_true, if_false, Option.map_none]
        split at h
        · cases h
        · rename_i hne
          split
          · rename_i heq
            simp only [Option.some.injEq, Obj.cells.injEq] at heq
            exact absurd (by rw [heq.2.2, heq.2.1]) (hne c e)
          · rfl
      | _ => simp
theorem row_setRow (w : World) (g : Nat) (cs : Array Value) : row (w.setRow g cs) g = (row w g).map fun p => (p.1, cs) := by
  cases h : row w g with
  | some p =>
    have := row_setRow_same w g cs (by rw [h]; rfl)
    rw [h] at this
    exact this
  | none =>
    unfold row at h ⊢
    simp only [World.setRow, Array.getElem?_modify]
    cases hg : w.heap[g]? with
    | none => simp
    | some o =>
      rw [hg] at h
      cases o with
      | cells c e f =>
        simp only [Option.map_some, if_true, Option.map_none]
        split at h
        · cases h
        · rename_i hne
          split
          · rename_i heq
            simp only [Option.some.injEq, Obj.cells.injEq] at heq
            exact absurd (by rw [heq.2.2, heq.2.1]) (hne c e)
          · rfl
      | _ => simp
theorem row_new (w : World) (t : TypeId) (cs : Array Value) : row (w.alloc (.cells cs t)) w.heap.size = some (t, cs) := row_alloc_new w _ t cs rfl
attribute [go_sem] row_setCell row_setRow row_new
section
variable (ρ : Operand → Value) (dst : Option Tmp) (x : Operand) (type : TypeId) (pos : String) (after : Array Edge) (guard : Option (Nat × Bool)) (w : World)
theorem agg_msg (w : World) : (isAgg 30).run Try.prog w = .ok true w := by kernel_rfl
theorem siz_msg (w : World) : (sizeOf 30).run Try.prog w = .ok 75 w := by kernel_rfl
theorem run_loadM (hx : plainPtr (ρ x) = true) (h0 : offOf (ρ x) = 0) (h3 : (row w (blkOf (ρ x))).isSome = true) (hs : rowSize w (blkOf (ρ x)) = 75) :
    (execOp ρ { dst, op := .load 30 x, type, pos, after, guard }).run Try.prog w = .ok (.value (.agg (rowCells w (blkOf (ρ x))))) w := by
  have hz := szR_of (siz_msg w)
  have := run_load_r (P := Try.prog) ρ dst 30 x type pos after guard w (agg_msg w) hx h3 (by rw [hz]; exact siz_msg w) (by rw [h0, hz, hs]; exact Nat.le_refl _)
  rw [this, h0, hz, sub_all]
  obtain ⟨⟨t, cs⟩, hr⟩ := Option.isSome_iff_exists.1 h3
  simp only [rowSize, hr, Option.map_some, Option.getD_some] at hs
  simp only [rowCells, hr, Option.map_some, Option.getD_some, hs]
end
attribute [go_sem ↓] run_loadM
def bareB (r mk : List UInt8) (n : Nat) (life age : Int) (psk retry : Bool) : Bool := decide (n = 0) && r == zero32 && mk == zero32 && decide (life = 0) && decide (age = 0) && !psk && !retry
theorem bareD (k : Int) (r mk : List UInt8) (a1 a2 a3 a4 a5 a6 : Option Addr) (n1 n2 n3 n4 n5 n6 c1 c2 c3 c4 c5 c6 : Nat) (life age : Int) (psk retry : Bool) (w : World)
    (b1 : n1 ≤ 100000000) (b2 : n2 ≤ 100000000) (b3 : n3 ≤ 100000000) (b4 : n4 ≤ 100000000) (b5 : n5 ≤ 100000000) (b6 : n6 ≤ 100000000) :
    Calls Try.prog 37 #[.agg (mD k r mk [.slice a1 n1 c1, .slice a2 n2 c2, .slice a3 n3 c3, .slice a4 n4 c4, .slice a5 n5 c5, .slice a6 n6 c6, .int .i64 life, .int .i64 age, .bool psk, .bool retry])] w fun e w' => e = .returned (.bool (bareB (fx r) (fx mk) (n1 + n2 + n3 + n4 + n5 + n6) life age psk retry)) ∧ Below w.heap.size w w' :=
  bare_any k (fx r) (fx mk) a1 a2 a3 a4 a5 a6 n1 n2 n3 n4 n5 n6 c1 c2 c3 c4 c5 c6 life age psk retry w (fx_len _) (fx_len _) b1 b2 b3 b4 b5 b6
end Go.Proofs.Ytnenoecmmelehaa
