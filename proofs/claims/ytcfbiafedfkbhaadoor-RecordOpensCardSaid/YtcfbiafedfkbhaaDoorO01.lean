/- Part of the proof: Kit, Sha. No conditions of its own. -/
import Derived.BigQuiet
import Derived.Deep.Quiet
import Derived.Deep.QuietTactic
import Derived.Lib.Hide
import Derived.StillTail
import Derived.WalkKit
import Derived.Laws.BitsAllLaws
namespace Go.Proofs.YtcfbiafedfkbhaaDoor
open Go.RowKit

abbrev B (x : UInt8) : Value := .int .u8 (x.toNat : Int)
def AB (l : List UInt8) : Array Value := (l.map B).toArray
def gb (l : List UInt8) (i : Nat) : UInt8 := l.getD i 0

theorem AB_size (l : List UInt8) : (AB l).size = l.length := by simp [AB]
theorem AB_get (l : List UInt8) (i : Nat) (h : i < l.length) : (AB l)[i]? = some (B (gb l i)) := by
  simp [AB, gb, h]
theorem AB_getElem (l : List UInt8) (i : Nat) (h : i < (AB l).size) : (AB l)[i] = B (gb l i) := by
  have h' : i < l.length := by simpa [AB] using h
  simp [AB, gb, h']
theorem AB_set (l : List UInt8) (i : Nat) (x : UInt8) : (AB l).setIfInBounds i (B x) = AB (l.set i x) := by
  simp [AB, List.map_set]
theorem AB_oneCell (l : List UInt8) : ∀ v ∈ (AB l).toList, v.oneCell' = true := by
  intro v hv
  simp [AB] at hv
  obtain ⟨x, _, rfl⟩ := hv
  rfl
def row (w : World) (b : Nat) : Option (TypeId × Array Value) :=
  match w.heap[b]? with
  | some (.cells cs t (0, 0)) => some (t, cs)
  | _ => none
abbrev Row (w : World) (b : Nat) (t : TypeId) (cs : Array Value) : Prop := row w b = some (t, cs)
theorem Row.heap {w : World} {b : Nat} {t : TypeId} {cs : Array Value} (h : Row w b t cs) : w.heap[b]? = some (.cells cs t (0, 0)) := by
  unfold Row row at h
  split at h
  · simp only [Option.some.injEq, Prod.mk.injEq] at h
    obtain ⟨rfl, rfl⟩ := h
    assumption
  · cases h
theorem Row.of_heap {w : World} {b : Nat} {t : TypeId} {cs : Array Value} (h : w.heap[b]? = some (.cells cs t (0, 0))) : Row w b t cs := by
  unfold Row row
  rw [h]
  rfl
theorem row_congr {w w' : World} {b : Nat} (h : w'.heap[b]? = w.heap[b]?) : row w' b = row w b := by unfold row; rw [h]

section
variable {w w' : World} {b : Nat} {t : TypeId} {cs : Array Value}
theorem Row.lt (h : Row w b t cs) : b < w.heap.size := (Array.getElem?_eq_some_iff.1 h.heap).1
theorem Row.cell (h : Row w b t cs) (j : Nat) : w.cell? ⟨b, j, none⟩ = cs[j]? := cell_of_row w b j cs t (0, 0) h.heap
theorem Row.frozen (h : Row w b t cs) (j : Nat) : w.frozen? ⟨b, j, none⟩ = false := frozen_of_row w b j cs t h.heap
theorem Row.new (w : World) (t : TypeId) (cs : Array Value) : Row (w.alloc (.cells cs t)) w.heap.size t cs := .of_heap (heap_alloc_new w _)
theorem Row.alloc (h : Row w b t cs) (o : Obj) : Row (w.alloc o) b t cs := (row_congr (Below.heap_alloc w o b h.lt)).trans h
theorem Row.drew (h : Row w b t cs) : Row w.drew b t cs := h
theorem Row.set (h : Row w b t cs) (i : Nat) (v : Value) : Row (w.setCell ⟨b, i, none⟩ v) b t (cs.setIfInBounds i v) := .of_heap (heap_setCell_same w b i cs t v h.heap)
theorem Row.setOther (h : Row w b t cs) (a : Addr) (v : Value) (hne : b ≠ a.block) : Row (w.setCell a v) b t cs := (row_congr (heap_setCell_other w a b v hne)).trans h
theorem Row.below {n : Nat} (h : Row w b t cs) (hb : Below n w w') (hlt : b < n) : Row w' b t cs := (row_congr (hb.block b hlt)).trans h
theorem Row.setRow (h : Row w b t cs) (cs' : Array Value) : Row (w.setRow b cs') b t cs' := .of_heap (setRow_heap w b cs cs' t _ h.heap)
theorem Row.setRowOther (h : Row w b t cs) (g : Nat) (cs' : Array Value) (hne : b ≠ g) : Row (w.setRow g cs') b t cs := (row_congr (setRow_other w g b cs' hne)).trans h
theorem Row.byte {l : List UInt8} (h : Row w b t (AB l)) (j : Nat) (hj : j < l.length) : w.cell? ⟨b, j, none⟩ = some (B (gb l j)) := (h.cell j).trans (AB_get l j hj)
theorem Row.setByte {l : List UInt8} (h : Row w b t (AB l)) (i : Nat) (x : UInt8) : Row (w.setCell ⟨b, i, none⟩ (B x)) b t (AB (l.set i x)) := by
  have := h.set i (B x)
  rwa [AB_set] at this
end

theorem Row.newAt (w : World) (g : Nat) (t : TypeId) (cs : Array Value) (h : g = w.heap.size) : Row (w.alloc (.cells cs t)) g t cs := by subst h; exact Row.new w t cs
def RowN (w : World) (b : Nat) (t : TypeId) (n : Nat) : Prop := ∃ cs, Row w b t cs ∧ cs.size = n
section
variable {w w' : World} {b : Nat} {t : TypeId} {n : Nat}
theorem RowN.lt (h : RowN w b t n) : b < w.heap.size := let ⟨_, h, _⟩ := h; h.lt
theorem RowN.newAt (w : World) (g : Nat) (t : TypeId) (cs : Array Value) (h : g = w.heap.size) : RowN (w.alloc (.cells cs t)) g t cs.size := ⟨cs, Row.newAt w g t cs h, rfl⟩
theorem RowN.alloc (h : RowN w b t n) (o : Obj) : RowN (w.alloc o) b t n := let ⟨cs, h, e⟩ := h; ⟨cs, h.alloc o, e⟩
theorem RowN.drew (h : RowN w b t n) : RowN w.drew b t n := h
theorem RowN.setOther (h : RowN w b t n) (a : Addr) (v : Value) (hne : b ≠ a.block) : RowN (w.setCell a v) b t n := let ⟨cs, h, e⟩ := h; ⟨cs, h.setOther a v hne, e⟩
theorem RowN.setRowOther (h : RowN w b t n) (g : Nat) (cs : Array Value) (hne : b ≠ g) : RowN (w.setRow g cs) b t n := let ⟨z, h, e⟩ := h; ⟨z, h.setRowOther g cs hne, e⟩
theorem RowN.below {m : Nat} (h : RowN w b t n) (hb : Below m w w') (hlt : b < m) : RowN w' b t n := let ⟨z, h, e⟩ := h; ⟨z, h.below hb hlt, e⟩
end

/-! ### the same as rules for the walk: 'row' of a world that is written out -/
theorem row_alloc_new (w : World) (g : Nat) (t : TypeId) (cs : Array Value) (h : g = w.heap.size) : row (w.alloc (.cells cs t)) g = some (t, cs) := by
  subst h; exact Row.new w t cs
theorem row_alloc_old (w : World) (g : Nat) (o : Obj) (h : g < w.heap.size) : row (w.alloc o) g = row w g := row_congr (Below.heap_alloc w o g h)
theorem row_drew (w : World) (g : Nat) : row w.drew g = row w g := rfl
theorem row_set_other (w : World) (g g' i : Nat) (s : Option Nat) (v : Value) (h : g ≠ g') : row (w.setCell ⟨g', i, s⟩ v) g = row w g := row_congr (heap_setCell_other w _ g v h)
theorem row_set_same (w : World) (g i : Nat) (v : Value) (h : (row w g).isSome = true) : row (w.setCell ⟨g, i, none⟩ v) g = (row w g).map fun p => (p.1, p.2.setIfInBounds i v) := by
  obtain ⟨⟨t, cs⟩, hr⟩ := Option.isSome_iff_exists.1 h
  rw [hr]
  exact Row.set (t := t) (cs := cs) hr i v
theorem row_setRow_other (w : World) (g g' : Nat) (cs : Array Value) (h : g ≠ g') : row (w.setRow g' cs) g = row w g := row_congr (setRow_other w g' g cs h)
theorem row_setRow_same (w : World) (g : Nat) (cs : Array Value) (h : (row w g).isSome = true) : row (w.setRow g cs) g = (row w g).map fun p => (p.1, cs) := by
  obtain ⟨⟨t, cs'⟩, hr⟩ := Option.isSome_iff_exists.1 h
  rw [hr]
  exact Row.setRow (t := t) (cs := cs') hr cs
theorem cell_row (w : World) (g i : Nat) (h : (row w g).isSome = true) : w.cell? ⟨g, i, none⟩ = (row w g).bind fun p => p.2[i]? := by
  obtain ⟨⟨t, cs⟩, hr⟩ := Option.isSome_iff_exists.1 h
  rw [hr]
  exact Row.cell (t := t) (cs := cs) hr i
theorem frozen_row (w : World) (g i : Nat) (h : (row w g).isSome = true) : w.frozen? ⟨g, i, none⟩ = false := by
  obtain ⟨⟨t, cs⟩, hr⟩ := Option.isSome_iff_exists.1 h
  exact Row.frozen (t := t) (cs := cs) hr i

def allOne (cs : Array Value) : Bool := cs.toList.all Value.oneCell'
theorem allOne_AB (l : List UInt8) : allOne (AB l) = true := List.all_eq_true.2 (AB_oneCell l)
theorem oneCell_int (k : IntKind) (n : Int) : Value.oneCell' (.int k n) = true := rfl
theorem allOne_lit (l : List Value) : allOne l.toArray = l.all Value.oneCell' := rfl
def plainPtr : Value → Bool | .pointer (some ⟨_, _, none⟩) => true | _ => false
def blkOf : Value → Nat | .pointer (some a) => a.block | _ => 0
def offOf : Value → Nat | .pointer (some a) => a.off | _ => 0
def isAggV : Value → Bool | .agg _ => true | _ => false
def isIntV : Value → Bool | .int _ _ => true | _ => false
def numOf : Value → Int | .int _ n => n | _ => 0
def isSliceV : Value → Bool | .slice _ _ _ => true | _ => false
def lenV : Value → Nat | .slice _ n _ => n | _ => 0
def addrV : Value → Option Addr | .slice a _ _ => a | _ => none
theorem isSliceV_mk (a : Option Addr) (n c : Nat) : isSliceV (.slice a n c) = true := rfl
theorem lenV_mk (a : Option Addr) (n c : Nat) : lenV (.slice a n c) = n := rfl
theorem addrV_mk (a : Option Addr) (n c : Nat) : addrV (.slice a n c) = a := rfl
theorem plainPtr_mk (b o : Nat) : plainPtr (.pointer (some ⟨b, o, none⟩)) = true := rfl
theorem blkOf_mk (b o : Nat) : blkOf (.pointer (some ⟨b, o, none⟩)) = b := rfl
theorem offOf_mk (b o : Nat) : offOf (.pointer (some ⟨b, o, none⟩)) = o := rfl
theorem isAggV_mk (cs : Array Value) : isAggV (.agg cs) = true := rfl
theorem isIntV_mk (k : IntKind) (n : Int) : isIntV (.int k n) = true := rfl
theorem numOf_mk (k : IntKind) (n : Int) : numOf (.int k n) = n := rfl
theorem cells_agg (cs : Array Value) : Value.cells (.agg cs) = cs := rfl
def sub (cs : Array Value) (o n : Nat) : Array Value := cs.extract o (o + n)
def over (cs : Array Value) (o : Nat) (vs : Array Value) : Array Value := (cs.toList.take o ++ vs.toList ++ cs.toList.drop (o + vs.size)).toArray
theorem sub_all (cs : Array Value) (n : Nat) (h : cs.size = n) : sub cs 0 n = cs := by
  subst h; simp [sub]
theorem over_all (cs vs : Array Value) (h : cs.size = vs.size) : over cs 0 vs = vs := by
  have : cs.toList.drop vs.size = [] := List.drop_eq_nil_of_le (by simp [h])
  simp [over, this]
theorem sub_AB (l : List UInt8) (o n : Nat) : sub (AB l) o n = AB ((l.drop o).take n) := by
  simp only [sub, AB]
  apply Array.ext'
  simp [List.map_take, List.map_drop, Nat.add_sub_cancel_left, List.extract_eq_take_drop]
theorem over_AB (l m : List UInt8) (o : Nat) : over (AB l) o (AB m) = AB (l.take o ++ m ++ l.drop (o + m.length)) := by
  simp only [over, AB]
  apply Array.ext'
  simp [List.map_take, List.map_drop]
section
variable {P : Program}
theorem run_loadCells_sub (w : World) (g o n : Nat) (t : TypeId) (cs : Array Value) (hr : Row w g t cs) (hn : o + n ≤ cs.size) :
    (loadCells ⟨g, o, none⟩ n).run P w = .ok (sub cs o n) w := by
  have hl : (sub cs o n).toList.length = n := by simp [sub]; omega
  have := run_loadCells_list (P := P) w ⟨g, o, none⟩ (sub cs o n).toList (fun j v hv => by
    rw [Addr.add_lit, hr.cell]
    have hj : j < n := by rw [← hl]; exact (List.getElem?_eq_some_iff.1 hv).1
    simp only [sub, Array.toList_extract, List.extract_eq_take_drop, List.getElem?_take, List.getElem?_drop] at hv
    rw [if_pos (by omega)] at hv
    simpa using hv)
  rw [hl, Array.toArray_toList] at this
  exact this
def szR (P : Program) (ty : TypeId) (w : World) : Nat := match (sizeOf ty).run P w with | .ok n _ => n | _ => 0
def rowSize (w : World) (b : Nat) : Nat := ((row w b).map (·.2.size)).getD 0
def rowCells (w : World) (b : Nat) : Array Value := ((row w b).map (·.2)).getD #[]
theorem plainPtr_spec {v : Value} (h : plainPtr v = true) : v = .pointer (some ⟨blkOf v, offOf v, none⟩) := by
  unfold plainPtr at h
  split at h
  · rfl
  · cases h
theorem isAggV_spec {v : Value} (h : isAggV v = true) : v = .agg v.cells := by
  cases v <;> first | rfl | cases h
theorem isIntV_spec {v : Value} (h : isIntV v = true) : ∃ k, v = .int k (numOf v) := by
  cases v <;> first | exact ⟨_, rfl⟩ | cases h
section
variable (ρ : Operand → Value) (dst : Option Tmp) (ty : TypeId) (x y : Operand) (type : TypeId) (pos : String) (after : Array Edge) (guard : Option (Nat × Bool)) (w : World)
theorem run_load_r (h1 : (isAgg ty).run P w = .ok true w) (hx : plainPtr (ρ x) = true) (h3 : (row w (blkOf (ρ x))).isSome = true)
    (hn : (sizeOf ty).run P w = .ok (szR P ty w) w) (h2 : offOf (ρ x) + szR P ty w ≤ rowSize w (blkOf (ρ x))) :
    (execOp ρ { dst, op := .load ty x, type, pos, after, guard }).run P w = .ok (.value (.agg (sub (rowCells w (blkOf (ρ x))) (offOf (ρ x)) (szR P ty w)))) w := by
  obtain ⟨⟨t, cs⟩, hr⟩ := Option.isSome_iff_exists.1 h3
  have hx' := plainPtr_spec hx
  simp only [rowSize, hr, Option.map_some, Option.getD_some] at h2
  have hl := run_loadCells_sub (P := P) w _ (offOf (ρ x)) (szR P ty w) t cs hr h2
  unfold execOp
  simp only []
  rw [hx']
  simp only [blkOf_mk, offOf_mk, rowCells, hr, Option.map_some, Option.getD_some]
  simp [Instr.loadAt, Instr.sureAddr, loadVar, Sem.run_bind, h1, hn, hl]
theorem run_store_r (hy : isAggV (ρ y) = true) (hx : plainPtr (ρ x) = true) (h3 : (row w (blkOf (ρ x))).isSome = true)
    (hn : (sizeOf ty).run P w = .ok (ρ y).cells.size w) (h2 : offOf (ρ x) + (ρ y).cells.size ≤ rowSize w (blkOf (ρ x))) (h1 : allOne (ρ y).cells = true) :
    (execOp ρ { dst, op := .store ty x y, type, pos, after, guard }).run P w = .ok .skip (w.setRow (blkOf (ρ x)) (over (rowCells w (blkOf (ρ x))) (offOf (ρ x)) (ρ y).cells)) := by
  obtain ⟨⟨t, cs⟩, hr⟩ := Option.isSome_iff_exists.1 h3
  have hx' := plainPtr_spec hx
  have hy' := isAggV_spec hy
  generalize (ρ y).cells = vs at *
  simp only [rowSize, hr, Option.map_some, Option.getD_some] at h2
  have hl := run_storeCells_at (P := P) (blkOf (ρ x)) (offOf (ρ x)) t vs.toList 0 cs w (Row.heap hr) (by simpa using h2) (List.all_eq_true.1 h1)
  unfold execOp
  simp only []
  rw [hx', hy']
  simp only [blkOf_mk, offOf_mk, rowCells, hr, Option.map_some, Option.getD_some, over]
  simp only [Nat.add_zero, Array.length_toList] at hl
  simp [Instr.storeAt, Instr.sureAddr, storeVar, Value.cells, Sem.run_bind, hn, hl]
theorem run_s2a_r (hu : P.underlying ty = some (.array (P.arrayLen ty) (P.elem ty))) (hx : isSliceV (ρ x) = true) (hn : P.arrayLen ty ≤ lenV (ρ x)) :
    (execOp ρ { dst, op := .sliceToArrayPointer ty x, type, pos, after, guard }).run P w = .ok (.value (.pointer (addrV (ρ x)))) w := by
  unfold execOp
  simp only []
  generalize ρ x = v at *
  cases v <;> first | cases hx | skip
  rename_i a n c
  have hn' : ¬ n < P.arrayLen ty := by simpa [lenV] using hn
  simp [Instr.arrayAt, run_underlying hu, addrV, hn']
theorem fill_all (cs : Array Value) : ∀ (l : List Value) (k : Nat) (acc : Array Value), k + l.length = acc.size → cs.toList = acc.toList.take k ++ l →
    (l.zipIdx k).foldl (fun a (p : Value × Nat) => a.setIfInBounds p.2 p.1) acc = cs
  | [], k, acc, hl, he => by
    have : acc.toList.take k = acc.toList := List.take_of_length_le (by simp at hl ⊢; omega)
    rw [this, List.append_nil] at he
    exact (Array.ext' he).symm
  | v :: l, k, acc, hl, he => by
    simp only [List.zipIdx_cons, List.foldl_cons]
    refine fill_all cs l (k + 1) _ (by simp at hl ⊢; omega) ?_
    rw [he, Array.toList_setIfInBounds]
    have hk : k < acc.toList.length := by simp at hl ⊢; omega
    rw [List.take_succ_eq_append_getElem (by simpa using hk), List.getElem_set_self, List.take_set_of_le (Nat.le_refl _)]
    simp
def zeroOk (P : Program) (e : TypeId) (w : World) : Bool := match (zeroValue e).run P w with | .ok _ _ => true | _ => false
theorem zeroOk_spec {e : TypeId} {w : World} (h : zeroOk P e w = true) : ∃ z, (zeroValue e).run P w = .ok z w := by
  unfold zeroOk at h
  cases hi : P.info? e with
  | none => simp [zeroValue, typeInfo, hi, stuck, Sem.run_bind] at h
  | some i =>
    cases hz : i.zero with
    | none => simp [zeroValue, typeInfo, hi, hz, unsupported, Sem.run_bind] at h
    | some z => exact ⟨z, by simp [zeroValue, typeInfo, hi, hz, Sem.run_bind]⟩
theorem run_bs1_r (hu : P.underlying ty = some (.slice (P.elem ty))) (hx : isAggV (ρ x) = true) (hn : (sizeOf (P.elem ty)).run P w = .ok (ρ x).cells.size w) (hz' : zeroOk P (P.elem ty) w = true) (h0 : 0 < (ρ x).cells.size) (h24 : (ρ x).cells.size ≤ 16777216) :
    (execOp ρ { dst, op := .buildSlice ty 1 #[(0, x)], type, pos, after, guard }).run P w = .ok (.value (.slice (some ⟨w.heap.size, 0, none⟩) 1 1)) (w.alloc (.cells (ρ x).cells (P.elem ty))) := by
  have hx' := isAggV_spec hx
  obtain ⟨z, hz⟩ := zeroOk_spec hz'
  generalize (ρ x).cells = cs at *
  have hfold := fill_all cs cs.toList 0 ((Array.range cs.size).map (z.cells[· % z.cells.size]!)) (by simp) (by simp)
  unfold execOp
  simp only [List.map_toArray, List.map_cons, List.map_nil]
  rw [hx']
  have h1 : ¬ cs.size > 2 ^ 24 := by omega
  have h2 : ¬ cs.size = 0 := by omega
  have hfill : Instr.fill (fun i => some (i * cs.size, cs.size)) ((Array.range cs.size).map (z.cells[· % z.cells.size]!)) [(0, .agg cs)] = some cs := by
    simp only [Instr.fill, cells_agg, Nat.zero_mul, Nat.zero_add]
    rw [if_neg (by simp)]
    rw [← Array.foldl_toList, Array.toList_zipIdx]
    exact congrArg some hfold
  simp [Instr.buildSlice, run_underlying hu, Sem.run_bind, hn, h1, h2, hz, hfill, newRow]
theorem run_index_r (hu : P.underlying ty = some (.array (P.arrayLen ty) (P.elem ty))) (hx : isAggV (ρ x) = true) (hy : isIntV (ρ y) = true)
    (he : (isAgg (P.elem ty)).run P w = .ok false w) (hn : (sizeOf (P.elem ty)).run P w = .ok 1 w) (h0 : 0 ≤ numOf (ρ y)) (h1 : numOf (ρ y) < P.arrayLen ty) (h2 : (numOf (ρ y)).toNat < (ρ x).cells.size) :
    (execOp ρ { dst, op := .index ty x y, type, pos, after, guard }).run P w = .ok (.value ((ρ x).cells[(numOf (ρ y)).toNat]?.getD undef)) w := by
  have hx' := isAggV_spec hx
  obtain ⟨k, hy'⟩ := isIntV_spec hy
  generalize (ρ x).cells = cs at *
  generalize numOf (ρ y) = i at *
  unfold execOp
  simp only []
  rw [hx', hy']
  simp [Instr.index, asIntOf, run_underlying hu, h0, h1, part, Sem.run_bind, he, hn, h2]
end
end

/-! ### lists by their index -/
def tab (n : Nat) (f : Nat → UInt8) : List UInt8 := (List.range n).map f
theorem tab_length (n : Nat) (f : Nat → UInt8) : (tab n f).length = n := by simp [tab]
theorem gb_tab {n i : Nat} (f : Nat → UInt8) (h : i < n) : gb (tab n f) i = f i := by simp [gb, tab, h]
theorem tab_congr {n : Nat} {f g : Nat → UInt8} (h : ∀ i, i < n → f i = g i) : tab n f = tab n g :=
  List.map_congr_left fun i hi => h i (List.mem_range.1 hi)
theorem tab_gb {l : List UInt8} {n : Nat} (h : l.length = n) : tab n (gb l) = l := by
  subst h
  apply List.ext_getElem (by simp [tab])
  intro i h1 h2
  simp [tab, gb, h2]
theorem tab_set (n i : Nat) (f : Nat → UInt8) (x : UInt8) : (tab n f).set i x = tab n (fun j => if j = i then x else f j) := by
  apply List.ext_getElem (by simp [tab])
  intro j h1 h2
  simp only [List.getElem_set, tab, List.getElem_map, List.getElem_range]
  by_cases h : i = j
  · simp [h]
  · simp [h, Ne.symm h]
theorem gb_ext {l m : List UInt8} (hl : l.length = m.length) (h : ∀ i, i < m.length → gb l i = gb m i) : l = m := by
  exact ((tab_gb (l := l) hl).symm.trans (tab_congr h)).trans (tab_gb (l := m) rfl)
theorem gb_set (l : List UInt8) (i j : Nat) (x : UInt8) (h : i < l.length) : gb (l.set i x) j = if j = i then x else gb l j := by
  simp only [gb, List.getD, List.getElem?_set]
  by_cases hij : i = j
  · subst hij; simp [h]
  · simp [hij, Ne.symm hij]

/-! ### bits on bytes -/
def xr (a b : UInt8) : UInt8 := a ^^^ b
theorem bx8 (a b : UInt8) : bits .xor .u8 (a.toNat : Int) (b.toNat : Int) = ((xr a b).toNat : Int) := by
  rw [u8_xor_nat _ _ a.toNat_lt b.toNat_lt, xr, UInt8.toNat_xor]
theorem bSetRow {n : Nat} {a w : World} (h : Below n a w) {g : Nat} (hg : n ≤ g) (cs : Array Value) : Below n a (w.setRow g cs) :=
  h.trans ⟨rfl, rfl, rfl, by simp, fun k hk => setRow_other w g k cs (by omega)⟩

theorem ret_row {P : Program} {fn : Func} {p : Tmp} {ty : TypeId} {tmps : Array Value} {w : World} {R : Ending → World → Prop} {e : Exit} (he : e = .ret ∨ e = .normal) (h : fn.results = #[.cell p ty]) (g : Nat) (t : TypeId) (cs : Array Value) (n : Nat) (d : TypeDesc)
    (hp : tmps.getD p undef = .pointer (some ⟨g, 0, none⟩)) (hr : Row w g t cs)
    (hu : P.underlying ty = some d) (hd : (match d with | .struct _ | .array _ _ => true | _ => false) = true) (hi : (P.info? ty).map (·.size) = some n) (hn : cs.size = n)
    (hR : R (.returned (.agg cs)) w) : bodyPost P fn R e { tmps, defers := [] } w := by
  have hres := results_cell_row (P := P) h tmps w g t cs (0, 0) d hp hr.heap hu hd (by rw [hi, hn])
  rcases he with rfl | rfl <;> exact ⟨rfl, _, hres, hR⟩

attribute [go_sem] bx8 row_alloc_new row_alloc_old row_drew row_set_other row_set_same row_setRow_other row_setRow_same AB_size cell_row frozen_row allOne_AB allOne_lit oneCell_int rowSize rowCells szR plainPtr_mk blkOf_mk offOf_mk isAggV_mk isIntV_mk numOf_mk zeroOk isSliceV_mk lenV_mk addrV_mk cells_agg sub_all over_all AB_get AB_getElem AB_set
attribute [go_sem low] sub_AB over_AB
attribute [go_sem ↓] run_load_r run_store_r run_index_r run_s2a_r run_bs1_r

end Go.Proofs.YtcfbiafedfkbhaaDoor

/- Strings as lists of bytes. They hold for every program and every world. -/
namespace Go.Proofs.YtcfbiafedfkbhaaDoor
open Go.RowKit

abbrev S (l : List UInt8) : Value := .string ⟨l.toArray⟩
section
variable {P : Program}
theorem run_len_S (t ty : TypeId) (l : List UInt8) (w : World) (h : P.underlying t = some .string) :
    (Builtin.len_ #[t] ty #[.string ⟨l.toArray⟩]).run P w = .ok (.int .i64 (l.length : Int)) w := by
  rw [run_len_string _ _ _ _ h]
  rfl
theorem run_index_S (t : TypeId) (l : List UInt8) (k : IntKind) (i : Int) (w : World) (h : P.underlying t = some .string) (h0 : 0 ≤ i) (h1 : i < l.length) :
    (Instr.index t (.string ⟨l.toArray⟩) (.int k i)).run P w = .ok (B (gb l i.toNat)) w := by
  have hs : ((⟨l.toArray⟩ : ByteArray).size : Int) = l.length := by simp [ByteArray.size]
  rw [run_index_string _ _ _ _ _ h, dif_pos ⟨h0, by rw [hs]; exact h1⟩]
  have h2 : i.toNat < l.length := by omega
  congr 2
  simp only [gb]
  have : (⟨l.toArray⟩ : ByteArray)[i.toNat]'(by simp only [ByteArray.size, List.size_toArray]; exact h2) = l[i.toNat] := rfl
  rw [this]
  simp [h2]
end
attribute [go_sem ↓] run_len_S run_index_S
theorem lS : (∀ (l : List Value) (i : Nat) (a : Value), l.toArray.setIfInBounds i a = (l.set i a).toArray) ∧ (∀ (x a : Value) (l : List Value), (x :: l).set 0 a = a :: l) ∧ (∀ (x a : Value) (l : List Value) (n : Nat), (x :: l).set (n + 1) a = x :: l.set n a) := ⟨fun l i a => List.setIfInBounds_toArray l i a, fun _ _ _ => rfl, fun _ _ _ _ => rfl⟩
theorem pS : (∀ (d : Tmp), (some d).toList = [d]) ∧ (∀ {α : Type} (a : α) (x y : List α), (a :: x) ++ y = a :: (x ++ y)) ∧ (∀ {α : Type} (x : List α), [] ++ x = x) ∧ (∀ (l : List Value) (i : Nat) (a : Value), l.toArray.setIfInBounds i a = (l.set i a).toArray) ∧ (∀ (x a : Value) (l : List Value), (x :: l).set 0 a = a :: l) ∧ (∀ (x a : Value) (l : List Value) (n : Nat), (x :: l).set (n + 1) a = x :: l.set n a) := ⟨fun _ => rfl, fun _ _ _ => rfl, fun _ => rfl, lS⟩
end Go.Proofs.YtcfbiafedfkbhaaDoor

namespace Go.Proofs.YtcfbiafedfkbhaaDoor
open Go.RowKit

abbrev D (x : UInt32) : Value := .int .u32 (x.toNat : Int)
abbrev AD (l : List UInt32) : Array Value := (l.map D).toArray
def xw (a b : UInt32) : UInt32 := a ^^^ b
def nw (a b : UInt32) : UInt32 := a &&& b
def ow (a b : UInt32) : UInt32 := a ||| b
def aw (a b : UInt32) : UInt32 := a + b
def cw (a : UInt32) : UInt32 := ~~~ a
theorem wrapN32 (a : Nat) : IntKind.u32.wrap (a : Int) = ((a % 4294967296 : Nat) : Int) := by rw [IntKind.wrap_u32']; omega
theorem dw_xor (a b : UInt32) : bits .xor .u32 (a.toNat : Int) (b.toNat : Int) = ((xw a b).toNat : Int) := by
  rw [u32_xor_nat _ _ a.toNat_lt b.toNat_lt, xw, UInt32.toNat_xor]
theorem dw_and (a b : UInt32) : bits .and .u32 (a.toNat : Int) (b.toNat : Int) = ((nw a b).toNat : Int) := by
  rw [u32_and_nat _ _ a.toNat_lt b.toNat_lt, nw, UInt32.toNat_and]
theorem dw_or (a b : UInt32) : bits .or .u32 (a.toNat : Int) (b.toNat : Int) = ((ow a b).toNat : Int) := by
  rw [u32_or_nat _ _ a.toNat_lt b.toNat_lt, ow, UInt32.toNat_or]
theorem dw_add (a b : UInt32) : IntKind.u32.wrap ((a.toNat : Int) + (b.toNat : Int)) = ((aw a b).toNat : Int) := by
  rw [show ((a.toNat : Int) + (b.toNat : Int)) = ((a.toNat + b.toNat : Nat) : Int) by omega, wrapN32, aw, UInt32.toNat_add]
theorem dw_addm (a b : UInt32) : ((a.toNat : Int) + (b.toNat : Int)) % 4294967296 = ((aw a b).toNat : Int) := by
  rw [← dw_add, IntKind.wrap_u32']
def srW (n : Nat) (x : UInt32) : UInt32 := UInt32.ofNat (x.toNat / 2 ^ n)
def sl (n : Nat) (x : UInt32) : UInt32 := UInt32.ofNat (x.toNat * 2 ^ n % 4294967296)
theorem srW_nat (n : Nat) (x : UInt32) : ((srW n x).toNat : Int) = (x.toNat : Int) / 2 ^ n := by
  have h := x.toNat_lt
  have h1 : x.toNat / 2 ^ n ≤ x.toNat := Nat.div_le_self _ _
  rw [srW, UInt32.toNat_ofNat', Nat.mod_eq_of_lt (by omega)]
  simp
theorem sl_nat (n : Nat) (x : UInt32) : ((sl n x).toNat : Int) = IntKind.u32.wrap ((x.toNat : Int) * 2 ^ n) := by
  rw [show ((x.toNat : Int) * 2 ^ n) = ((x.toNat * 2 ^ n : Nat) : Int) by simp, wrapN32, sl, UInt32.toNat_ofNat']
  have : x.toNat * 2 ^ n % 4294967296 < 4294967296 := Nat.mod_lt _ (by omega)
  rw [Nat.mod_eq_of_lt (by omega)]
theorem sr_8 (x : UInt32) : (x.toNat : Int) / 8 = ((srW 3 x).toNat : Int) := (srW_nat 3 x).symm
theorem sr_1024 (x : UInt32) : (x.toNat : Int) / 1024 = ((srW 10 x).toNat : Int) := (srW_nat 10 x).symm
def rr (n : Nat) (x : UInt32) : UInt32 := ow (srW n x) (sl (32 - n) x)
def rrB (n : Nat) (x : UInt32) : UInt32 := ow (sl (32 - n) x) (srW n x)
theorem rrB_eq (n : Nat) (x : UInt32) : rrB n x = rr n x := by unfold rr rrB ow; exact UInt32.or_comm _ _
theorem rr_bits (n : Nat) (x : UInt32) (a b : Int) (ha : a = 2 ^ (32 - n)) (hb : b = 2 ^ n) : Value.int .u32 (bits .or .u32 ((x.toNat : Int) * a % 4294967296) ((x.toNat : Int) / b)) = D (rr n x) := by
  rw [← rrB_eq]
  unfold rrB D
  rw [← dw_or, sl_nat, srW_nat, IntKind.wrap_u32', ha, hb]
def gw (l : List UInt32) (i : Nat) : UInt32 := l.getD i 0
def be4 (a b c d : UInt8) : UInt32 := UInt32.ofNat (a.toNat * 16777216 + b.toNat * 65536 + c.toNat * 256 + d.toNat)
theorem or_shift (a b k : Nat) (h : b < 2 ^ k) : a * 2 ^ k ||| b = a * 2 ^ k + b := by
  rw [← Nat.shiftLeft_eq, Nat.shiftLeft_add_eq_or_of_lt h]
theorem be4_bits (x0 x1 x2 x3 : UInt8) : Value.int .u32 (bits .or .u32 (bits .or .u32 (bits .or .u32 ((x0.toNat : Int) * 16777216) ((x1.toNat : Int) * 65536)) ((x2.toNat : Int) * 256)) (x3.toNat : Int)) = D (be4 x0 x1 x2 x3) := by
  have h0 := x0.toNat_lt
  have h1 := x1.toNat_lt
  have h2 := x2.toNat_lt
  have h3 := x3.toNat_lt
  have e0 : ((x0.toNat : Int) * 16777216) = ((x0.toNat * 16777216 : Nat) : Int) := by omega
  have e1 : ((x1.toNat : Int) * 65536) = ((x1.toNat * 65536 : Nat) : Int) := by omega
  have e2 : ((x2.toNat : Int) * 256) = ((x2.toNat * 256 : Nat) : Int) := by omega
  have a1 := or_shift x0.toNat (x1.toNat * 65536) 24 (by omega)
  have a2 := or_shift (x0.toNat * 256 + x1.toNat) (x2.toNat * 256) 16 (by omega)
  have a3 := or_shift (x0.toNat * 65536 + x1.toNat * 256 + x2.toNat) x3.toNat 8 (by omega)
  rw [show (2 : Nat) ^ 24 = 16777216 from rfl] at a1
  rw [show (2 : Nat) ^ 16 = 65536 from rfl, show (x0.toNat * 256 + x1.toNat) * 65536 = x0.toNat * 16777216 + x1.toNat * 65536 by omega] at a2
  rw [show (2 : Nat) ^ 8 = 256 from rfl, show (x0.toNat * 65536 + x1.toNat * 256 + x2.toNat) * 256 = x0.toNat * 16777216 + x1.toNat * 65536 + x2.toNat * 256 by omega] at a3
  rw [e0, e1, e2, u32_or_nat _ _ (by omega) (by omega), a1, u32_or_nat _ _ (by omega) (by omega), a2, u32_or_nat _ _ (by omega) (by omega), a3]
  unfold D be4
  rw [UInt32.toNat_ofNat', Nat.mod_eq_of_lt (by omega)]
def s0 (x : UInt32) : UInt32 := xw (xw (rr 7 x) (rr 18 x)) (srW 3 x)
def s1 (x : UInt32) : UInt32 := xw (xw (rr 17 x) (rr 19 x)) (srW 10 x)
def b0 (x : UInt32) : UInt32 := xw (xw (rr 2 x) (rr 13 x)) (rr 22 x)
def b1 (x : UInt32) : UInt32 := xw (xw (rr 6 x) (rr 11 x)) (rr 25 x)
def chS (e f g : UInt32) : UInt32 := xw g (nw e (xw f g))
def maS (a b c : UInt32) : UInt32 := ow (nw a b) (nw c (ow a b))
def mixW (l : List UInt32) (i : Nat) : UInt32 := aw (aw (aw (gw l (i - 16)) (gw l (i - 7))) (s0 (gw l (i - 15)))) (s1 (gw l (i - 2)))
def wordS (b : List UInt8) (i : Nat) : UInt32 := be4 (b.getD (4 * i) 0) (b.getD (4 * i + 1) 0) (b.getD (4 * i + 2) 0) (b.getD (4 * i + 3) 0)
def schS (b : List UInt8) : Nat → List UInt32
  | 0 => List.replicate 64 0
  | i + 1 => (schS b i).set i (if i < 16 then wordS b i else mixW (schS b i) i)
theorem schS_len (b : List UInt8) : ∀ i, (schS b i).length = 64
  | 0 => List.length_replicate
  | i + 1 => by rw [schS, List.length_set]; exact schS_len b i
structure S8 where
  a : UInt32
  b : UInt32
  c : UInt32
  d : UInt32
  e : UInt32
  f : UInt32
  g : UInt32
  h : UInt32
def tS (k w : UInt32) (v : S8) : UInt32 := aw (aw (aw (aw v.h (b1 v.e)) (chS v.e v.f v.g)) k) w
def uS (v : S8) : UInt32 := aw (b0 v.a) (maS v.a v.b v.c)
def oneS (k w : UInt32) (v : S8) : S8 := ⟨aw (tS k w v) (uS v), v.a, v.b, v.c, aw v.d (tS k w v), v.e, v.f, v.g⟩
def runS (ks ws : List UInt32) (v : S8) : Nat → S8
  | 0 => v
  | i + 1 => oneS (gw ks i) (gw ws i) (runS ks ws v i)
def ofS (l : List UInt32) : S8 := ⟨gw l 0, gw l 1, gw l 2, gw l 3, gw l 4, gw l 5, gw l 6, gw l 7⟩
def roundsS : List UInt32 := [
  0x428a2f98, 0x71374491, 0xb5c0fbcf, 0xe9b5dba5, 0x3956c25b, 0x59f111f1, 0x923f82a4, 0xab1c5ed5,
  0xd807aa98, 0x12835b01, 0x243185be, 0x550c7dc3, 0x72be5d74, 0x80deb1fe, 0x9bdc06a7, 0xc19bf174,
  0xe49b69c1, 0xefbe4786, 0x0fc19dc6, 0x240ca1cc, 0x2de92c6f, 0x4a7484aa, 0x5cb0a9dc, 0x76f988da,
  0x983e5152, 0xa831c66d, 0xb00327c8, 0xbf597fc7, 0xc6e00bf3, 0xd5a79147, 0x06ca6351, 0x14292967,
  0x27b70a85, 0x2e1b2138, 0x4d2c6dfc, 0x53380d13, 0x650a7354, 0x766a0abb, 0x81c2c92e, 0x92722c85,
  0xa2bfe8a1, 0xa81a664b, 0xc24b8b70, 0xc76c51a3, 0xd192e819, 0xd6990624, 0xf40e3585, 0x106aa070,
  0x19a4c116, 0x1e376c08, 0x2748774c, 0x34b0bcb5, 0x391c0cb3, 0x4ed8aa4a, 0x5b9cca4f, 0x682e6ff3,
  0x748f82ee, 0x78a5636f, 0x84c87814, 0x8cc70208, 0x90befffa, 0xa4506ceb, 0xbef9a3f7, 0xc67178f2]
def startS : List UInt32 := [0x6a09e667, 0xbb67ae85, 0x3c6ef372, 0xa54ff53a, 0x510e527f, 0x9b05688c, 0x1f83d9ab, 0x5be0cd19]
def pressS (h : List UInt32) (b : List UInt8) : List UInt32 :=
  let v := runS roundsS (schS b 64) (ofS h) 64
  [aw (gw h 0) v.a, aw (gw h 1) v.b, aw (gw h 2) v.c, aw (gw h 3) v.d, aw (gw h 4) v.e, aw (gw h 5) v.f, aw (gw h 6) v.g, aw (gw h 7) v.h]
def pressAll (h : List UInt32) : Nat → List UInt8 → List UInt32
  | 0, _ => h
  | n + 1, l => pressAll (pressS h (l.take 64)) n (l.drop 64)
def padS (n : Nat) (l : List UInt8) : List UInt8 :=
  l ++ (0x80 :: (List.replicate ((119 - l.length % 64) % 64) 0 ++ (List.range 8).map fun i => UInt8.ofNat (n * 8 / 2 ^ (56 - 8 * i))))
def bytesS (h : List UInt32) : List UInt8 := h.flatMap fun x => [UInt8.ofNat (x.toNat / 16777216), UInt8.ofNat (x.toNat / 65536), UInt8.ofNat (x.toNat / 256), UInt8.ofNat x.toNat]
def shaS (l : List UInt8) : List UInt8 := bytesS (pressAll startS ((padS l.length l).length / 64) (padS l.length l))
end Go.Proofs.YtcfbiafedfkbhaaDoor
