/- Part of the proof: Kit, MontLaw. No conditions of its own. -/
import Derived.BigQuiet
import Derived.Deep.Quiet
import Derived.Deep.QuietTactic
import Derived.Lib.Hide
import Derived.StillTail
import Derived.WalkKit
namespace Go.Proofs.YtjpfhhndjpdmoaaGreatDoor
open Go.RowKit

abbrev B (x : UInt8) : Value := .int .u8 (x.toNat : Int)
def AB (l : List UInt8) : Array Value := (l.map B).toArray
def gb (l : List UInt8) (i : Nat) : UInt8 := l.getD i 0

theorem AB_size (l : List UInt8) : (AB l).size = l.length := by simp [AB]
theorem AB_get (l : List UInt8) (i : Nat) (h : i < l.length) : (AB l)[i]? = some (B (gb l i)) := by
  simp [AB, gb, h]
theorem AB_getElem (l : List UInt8) (i : Nat) (h : i < (AB l).size) : (AB l)[i] = B (gb l i) := by
  have h' : i < l.length := by simpa [AB] using h
  simp [AB, gb, h']
theorem AB_set (l : List UInt8) (i : Nat) (x : UInt8) : (AB l).setIfInBounds i (B x) = AB (l.set i x) := by
  simp [AB, List.map_set]
theorem AB_oneCell (l : List UInt8) : ∀ v ∈ (AB l).toList, v.oneCell' = true := by
  intro v hv
  simp [AB] at hv
  obtain ⟨x, _, rfl⟩ := hv
  rfl
def row (w : World) (b : Nat) : Option (TypeId × Array Value) :=
  match w.heap[b]? with
  | some (.cells cs t (0, 0)) => some (t, cs)
  | _ => none
abbrev Row (w : World) (b : Nat) (t : TypeId) (cs : Array Value) : Prop := row w b = some (t, cs)
theorem Row.heap {w : World} {b : Nat} {t : TypeId} {cs : Array Value} (h : Row w b t cs) : w.heap[b]? = some (.cells cs t (0, 0)) := by
  unfold Row row at h
  split at h
  · simp only [Option.some.injEq, Prod.mk.injEq] at h
    obtain ⟨rfl, rfl⟩ := h
    assumption
  · cases h
theorem Row.of_heap {w : World} {b : Nat} {t : TypeId} {cs : Array Value} (h : w.heap[b]? = some (.cells cs t (0, 0))) : Row w b t cs := by
  unfold Row row
  rw [h]
  rfl
theorem row_congr {w w' : World} {b : Nat} (h : w'.heap[b]? = w.heap[b]?) : row w' b = row w b := by unfold row; rw [h]

section
variable {w w' : World} {b : Nat} {t : TypeId} {cs : Array Value}
theorem Row.lt (h : Row w b t cs) : b < w.heap.size := (Array.getElem?_eq_some_iff.1 h.heap).1
theorem Row.cell (h : Row w b t cs) (j : Nat) : w.cell? ⟨b, j, none⟩ = cs[j]? := cell_of_row w b j cs t (0, 0) h.heap
theorem Row.frozen (h : Row w b t cs) (j : Nat) : w.frozen? ⟨b, j, none⟩ = false := frozen_of_row w b j cs t h.heap
theorem Row.new (w : World) (t : TypeId) (cs : Array Value) : Row (w.alloc (.cells cs t)) w.heap.size t cs := .of_heap (heap_alloc_new w _)
theorem Row.alloc (h : Row w b t cs) (o : Obj) : Row (w.alloc o) b t cs := (row_congr (Below.heap_alloc w o b h.lt)).trans h
theorem Row.drew (h : Row w b t cs) : Row w.drew b t cs := h
theorem Row.set (h : Row w b t cs) (i : Nat) (v : Value) : Row (w.setCell ⟨b, i, none⟩ v) b t (cs.setIfInBounds i v) := .of_heap (heap_setCell_same w b i cs t v h.heap)
theorem Row.setOther (h : Row w b t cs) (a : Addr) (v : Value) (hne : b ≠ a.block) : Row (w.setCell a v) b t cs := (row_congr (heap_setCell_other w a b v hne)).trans h
theorem Row.below {n : Nat} (h : Row w b t cs) (hb : Below n w w') (hlt : b < n) : Row w' b t cs := (row_congr (hb.block b hlt)).trans h
theorem Row.setRow (h : Row w b t cs) (cs' : Array Value) : Row (w.setRow b cs') b t cs' := .of_heap (setRow_heap w b cs cs' t _ h.heap)
theorem Row.setRowOther (h : Row w b t cs) (g : Nat) (cs' : Array Value) (hne : b ≠ g) : Row (w.setRow g cs') b t cs := (row_congr (setRow_other w g b cs' hne)).trans h
theorem Row.byte {l : List UInt8} (h : Row w b t (AB l)) (j : Nat) (hj : j < l.length) : w.cell? ⟨b, j, none⟩ = some (B (gb l j)) := (h.cell j).trans (AB_get l j hj)
theorem Row.setByte {l : List UInt8} (h : Row w b t (AB l)) (i : Nat) (x : UInt8) : Row (w.setCell ⟨b, i, none⟩ (B x)) b t (AB (l.set i x)) := by
  have := h.set i (B x)
  rwa [AB_set] at this
end

theorem Row.newAt (w : World) (g : Nat) (t : TypeId) (cs : Array Value) (h : g = w.heap.size) : Row (w.alloc (.cells cs t)) g t cs := by subst h; exact Row.new w t cs
def RowN (w : World) (b : Nat) (t : TypeId) (n : Nat) : Prop := ∃ cs, Row w b t cs ∧ cs.size = n
section
variable {w w' : World} {b : Nat} {t : TypeId} {n : Nat}
theorem RowN.lt (h : RowN w b t n) : b < w.heap.size := let ⟨_, h, _⟩ := h; h.lt
theorem RowN.newAt (w : World) (g : Nat) (t : TypeId) (cs : Array Value) (h : g = w.heap.size) : RowN (w.alloc (.cells cs t)) g t cs.size := ⟨cs, Row.newAt w g t cs h, rfl⟩
theorem RowN.alloc (h : RowN w b t n) (o : Obj) : RowN (w.alloc o) b t n := let ⟨cs, h, e⟩ := h; ⟨cs, h.alloc o, e⟩
theorem RowN.drew (h : RowN w b t n) : RowN w.drew b t n := h
theorem RowN.setOther (h : RowN w b t n) (a : Addr) (v : Value) (hne : b ≠ a.block) : RowN (w.setCell a v) b t n := let ⟨cs, h, e⟩ := h; ⟨cs, h.setOther a v hne, e⟩
theorem RowN.setRowOther (h : RowN w b t n) (g : Nat) (cs : Array Value) (hne : b ≠ g) : RowN (w.setRow g cs) b t n := let ⟨z, h, e⟩ := h; ⟨z, h.setRowOther g cs hne, e⟩
theorem RowN.below {m : Nat} (h : RowN w b t n) (hb : Below m w w') (hlt : b < m) : RowN w' b t n := let ⟨z, h, e⟩ := h; ⟨z, h.below hb hlt, e⟩
end

/-! ### the same as rules for the walk: 'row' of a world that is written out -/
theorem row_alloc_new (w : World) (g : Nat) (t : TypeId) (cs : Array Value) (h : g = w.heap.size) : row (w.alloc (.cells cs t)) g = some (t, cs) := by
  subst h; exact Row.new w t cs
theorem row_alloc_old (w : World) (g : Nat) (o : Obj) (h : g < w.heap.size) : row (w.alloc o) g = row w g := row_congr (Below.heap_alloc w o g h)
theorem row_drew (w : World) (g : Nat) : row w.drew g = row w g := rfl
theorem row_set_other (w : World) (g g' i : Nat) (s : Option Nat) (v : Value) (h : g ≠ g') : row (w.setCell ⟨g', i, s⟩ v) g = row w g := row_congr (heap_setCell_other w _ g v h)
theorem row_set_same (w : World) (g i : Nat) (v : Value) (h : (row w g).isSome = true) : row (w.setCell ⟨g, i, none⟩ v) g = (row w g).map fun p => (p.1, p.2.setIfInBounds i v) := by
  obtain ⟨⟨t, cs⟩, hr⟩ := Option.isSome_iff_exists.1 h
  rw [hr]
  exact Row.set (t := t) (cs := cs) hr i v
theorem row_setRow_other (w : World) (g g' : Nat) (cs : Array Value) (h : g ≠ g') : row (w.setRow g' cs) g = row w g := row_congr (setRow_other w g' g cs h)
theorem row_setRow_same (w : World) (g : Nat) (cs : Array Value) (h : (row w g).isSome = true) : row (w.setRow g cs) g = (row w g).map fun p => (p.1, cs) := by
  obtain ⟨⟨t, cs'⟩, hr⟩ := Option.isSome_iff_exists.1 h
  rw [hr]
  exact Row.setRow (t := t) (cs := cs') hr cs
theorem cell_row (w : World) (g i : Nat) (h : (row w g).isSome = true) : w.cell? ⟨g, i, none⟩ = (row w g).bind fun p => p.2[i]? := by
  obtain ⟨⟨t, cs⟩, hr⟩ := Option.isSome_iff_exists.1 h
  rw [hr]
  exact Row.cell (t := t) (cs := cs) hr i
theorem frozen_row (w : World) (g i : Nat) (h : (row w g).isSome = true) : w.frozen? ⟨g, i, none⟩ = false := by
  obtain ⟨⟨t, cs⟩, hr⟩ := Option.isSome_iff_exists.1 h
  exact Row.frozen (t := t) (cs := cs) hr i

def allOne (cs : Array Value) : Bool := cs.toList.all Value.oneCell'
theorem allOne_AB (l : List UInt8) : allOne (AB l) = true := List.all_eq_true.2 (AB_oneCell l)
theorem oneCell_int (k : IntKind) (n : Int) : Value.oneCell' (.int k n) = true := rfl
theorem allOne_lit (l : List Value) : allOne l.toArray = l.all Value.oneCell' := rfl
def plainPtr : Value → Bool | .pointer (some ⟨_, _, none⟩) => true | _ => false
def blkOf : Value → Nat | .pointer (some a) => a.block | _ => 0
def offOf : Value → Nat | .pointer (some a) => a.off | _ => 0
def isAggV : Value → Bool | .agg _ => true | _ => false
def isIntV : Value → Bool | .int _ _ => true | _ => false
def numOf : Value → Int | .int _ n => n | _ => 0
def isSliceV : Value → Bool | .slice _ _ _ => true | _ => false
def lenV : Value → Nat | .slice _ n _ => n | _ => 0
def addrV : Value → Option Addr | .slice a _ _ => a | _ => none
theorem isSliceV_mk (a : Option Addr) (n c : Nat) : isSliceV (.slice a n c) = true := rfl
theorem lenV_mk (a : Option Addr) (n c : Nat) : lenV (.slice a n c) = n := rfl
theorem addrV_mk (a : Option Addr) (n c : Nat) : addrV (.slice a n c) = a := rfl
theorem plainPtr_mk (b o : Nat) : plainPtr (.pointer (some ⟨b, o, none⟩)) = true := rfl
theorem blkOf_mk (b o : Nat) : blkOf (.pointer (some ⟨b, o, none⟩)) = b := rfl
theorem offOf_mk (b o : Nat) : offOf (.pointer (some ⟨b, o, none⟩)) = o := rfl
theorem isAggV_mk (cs : Array Value) : isAggV (.agg cs) = true := rfl
theorem isIntV_mk (k : IntKind) (n : Int) : isIntV (.int k n) = true := rfl
theorem numOf_mk (k : IntKind) (n : Int) : numOf (.int k n) = n := rfl
theorem cells_agg (cs : Array Value) : Value.cells (.agg cs) = cs := rfl
def sub (cs : Array Value) (o n : Nat) : Array Value := cs.extract o (o + n)
def over (cs : Array Value) (o : Nat) (vs : Array Value) : Array Value := (cs.toList.take o ++ vs.toList ++ cs.toList.drop (o + vs.size)).toArray
theorem sub_all (cs : Array Value) (n : Nat) (h : cs.size = n) : sub cs 0 n = cs := by
  subst h; simp [sub]
theorem over_all (cs vs : Array Value) (h : cs.size = vs.size) : over cs 0 vs = vs := by
  have : cs.toList.drop vs.size = [] := List.drop_eq_nil_of_le (by simp [h])
  simp [over, this]
theorem sub_AB (l : List UInt8) (o n : Nat) : sub (AB l) o n = AB ((l.drop o).take n) := by
  simp only [sub, AB]
  apply Array.ext'
  simp [List.map_take, List.map_drop, Nat.add_sub_cancel_left, List.extract_eq_take_drop]
theorem over_AB (l m : List UInt8) (o : Nat) : over (AB l) o (AB m) = AB (l.take o ++ m ++ l.drop (o + m.length)) := by
  simp only [over, AB]
  apply Array.ext'
  simp [List.map_take, List.map_drop]
section
variable {P : Program}
theorem run_loadCells_sub (w : World) (g o n : Nat) (t : TypeId) (cs : Array Value) (hr : Row w g t cs) (hn : o + n ≤ cs.size) :
    (loadCells ⟨g, o, none⟩ n).run P w = .ok (sub cs o n) w := by
  have hl : (sub cs o n).toList.length = n := by simp [sub]; omega
  have := run_loadCells_list (P := P) w ⟨g, o, none⟩ (sub cs o n).toList (fun j v hv => by
    rw [Addr.add_lit, hr.cell]
    have hj : j < n := by rw [← hl]; exact (List.getElem?_eq_some_iff.1 hv).1
    simp only [sub, Array.toList_extract, List.extract_eq_take_drop, List.getElem?_take, List.getElem?_drop] at hv
    rw [if_pos (by omega)] at hv
    simpa using hv)
  rw [hl, Array.toArray_toList] at this
  exact this
def szR (P : Program) (ty : TypeId) (w : World) : Nat := match (sizeOf ty).run P w with | .ok n _ => n | _ => 0
def rowSize (w : World) (b : Nat) : Nat := ((row w b).map (·.2.size)).getD 0
def rowCells (w : World) (b : Nat) : Array Value := ((row w b).map (·.2)).getD #[]
theorem plainPtr_spec {v : Value} (h : plainPtr v = true) : v = .pointer (some ⟨blkOf v, offOf v, none⟩) := by
  unfold plainPtr at h
  split at h
  · rfl
  · cases h
theorem isAggV_spec {v : Value} (h : isAggV v = true) : v = .agg v.cells := by
  cases v <;> first | rfl | cases h
theorem isIntV_spec {v : Value} (h : isIntV v = true) : ∃ k, v = .int k (numOf v) := by
  cases v <;> first | exact ⟨_, rfl⟩ | cases h
section
variable (ρ : Operand → Value) (dst : Option Tmp) (ty : TypeId) (x y : Operand) (type : TypeId) (pos : String) (after : Array Edge) (guard : Option (Nat × Bool)) (w : World)
theorem run_load_r (h1 : (isAgg ty).run P w = .ok true w) (hx : plainPtr (ρ x) = true) (h3 : (row w (blkOf (ρ x))).isSome = true)
    (hn : (sizeOf ty).run P w = .ok (szR P ty w) w) (h2 : offOf (ρ x) + szR P ty w ≤ rowSize w (blkOf (ρ x))) :
    (execOp ρ { dst, op := .load ty x, type, pos, after, guard }).run P w = .ok (.value (.agg (sub (rowCells w (blkOf (ρ x))) (offOf (ρ x)) (szR P ty w)))) w := by
  obtain ⟨⟨t, cs⟩, hr⟩ := Option.isSome_iff_exists.1 h3
  have hx' := plainPtr_spec hx
  simp only [rowSize, hr, Option.map_some, Option.getD_some] at h2
  have hl := run_loadCells_sub (P := P) w _ (offOf (ρ x)) (szR P ty w) t cs hr h2
  unfold execOp
  simp only []
  rw [hx']
  simp only [blkOf_mk, offOf_mk, rowCells, hr, Option.map_some, Option.getD_some]
  simp [Instr.loadAt, Instr.sureAddr, loadVar, Sem.run_bind, h1, hn, hl]
theorem run_store_r (hy : isAggV (ρ y) = true) (hx : plainPtr (ρ x) = true) (h3 : (row w (blkOf (ρ x))).isSome = true)
    (hn : (sizeOf ty).run P w = .ok (ρ y).cells.size w) (h2 : offOf (ρ x) + (ρ y).cells.size ≤ rowSize w (blkOf (ρ x))) (h1 : allOne (ρ y).cells = true) :
    (execOp ρ { dst, op := .store ty x y, type, pos, after, guard }).run P w = .ok .skip (w.setRow (blkOf (ρ x)) (over (rowCells w (blkOf (ρ x))) (offOf (ρ x)) (ρ y).cells)) := by
  obtain ⟨⟨t, cs⟩, hr⟩ := Option.isSome_iff_exists.1 h3
  have hx' := plainPtr_spec hx
  have hy' := isAggV_spec hy
  generalize (ρ y).cells = vs at *
  simp only [rowSize, hr, Option.map_some, Option.getD_some] at h2
  have hl := run_storeCells_at (P := P) (blkOf (ρ x)) (offOf (ρ x)) t vs.toList 0 cs w (Row.heap hr) (by simpa using h2) (List.all_eq_true.1 h1)
  unfold execOp
  simp only []
  rw [hx', hy']
  simp only [blkOf_mk, offOf_mk, rowCells, hr, Option.map_some, Option.getD_some, over]
  simp only [Nat.add_zero, Array.length_toList] at hl
  simp [Instr.storeAt, Instr.sureAddr, storeVar, Value.cells, Sem.run_bind, hn, hl]
theorem run_s2a_r (hu : P.underlying ty = some (.array (P.arrayLen ty) (P.elem ty))) (hx : isSliceV (ρ x) = true) (hn : P.arrayLen ty ≤ lenV (ρ x)) :
    (execOp ρ { dst, op := .sliceToArrayPointer ty x, type, pos, after, guard }).run P w = .ok (.value (.pointer (addrV (ρ x)))) w := by
  unfold execOp
  simp only []
  generalize ρ x = v at *
  cases v <;> first | cases hx | skip
  rename_i a n c
  have hn' : ¬ n < P.arrayLen ty := by simpa [lenV] using hn
  simp [Instr.arrayAt, run_underlying hu, addrV, hn']
theorem fill_all (cs : Array Value) : ∀ (l : List Value) (k : Nat) (acc : Array Value), k + l.length = acc.size → cs.toList = acc.toList.take k ++ l →
    (l.zipIdx k).foldl (fun a (p : Value × Nat) => a.setIfInBounds p.2 p.1) acc = cs
  | [], k, acc, hl, he => by
    have : acc.toList.take k = acc.toList := List.take_of_length_le (by simp at hl ⊢; omega)
    rw [this, List.append_nil] at he
    exact (Array.ext' he).symm
  | v :: l, k, acc, hl, he => by
    simp only [List.zipIdx_cons, List.foldl_cons]
    refine fill_all cs l (k + 1) _ (by simp at hl ⊢; omega) ?_
    rw [he, Array.toList_setIfInBounds]
    have hk : k < acc.toList.length := by simp at hl ⊢; omega
    rw [List.take_succ_eq_append_getElem (by simpa using hk), List.getElem_set_self, List.take_set_of_le (Nat.le_refl _)]
    simp
def zeroOk (P : Program) (e : TypeId) (w : World) : Bool := match (zeroValue e).run P w with | .ok _ _ => true | _ => false
theorem zeroOk_spec {e : TypeId} {w : World} (h : zeroOk P e w = true) : ∃ z, (zeroValue e).run P w = .ok z w := by
  unfold zeroOk at h
  cases hi : P.info? e with
  | none => simp [zeroValue, typeInfo, hi, stuck, Sem.run_bind] at h
  | some i =>
    cases hz : i.zero with
    | none => simp [zeroValue, typeInfo, hi, hz, unsupported, Sem.run_bind] at h
    | some z => exact ⟨z, by simp [zeroValue, typeInfo, hi, hz, Sem.run_bind]⟩
theorem run_bs1_r (hu : P.underlying ty = some (.slice (P.elem ty))) (hx : isAggV (ρ x) = true) (hn : (sizeOf (P.elem ty)).run P w = .ok (ρ x).cells.size w) (hz' : zeroOk P (P.elem ty) w = true) (h0 : 0 < (ρ x).cells.size) (h24 : (ρ x).cells.size ≤ 16777216) :
    (execOp ρ { dst, op := .buildSlice ty 1 #[(0, x)], type, pos, after, guard }).run P w = .ok (.value (.slice (some ⟨w.heap.size, 0, none⟩) 1 1)) (w.alloc (.cells (ρ x).cells (P.elem ty))) := by
  have hx' := isAggV_spec hx
  obtain ⟨z, hz⟩ := zeroOk_spec hz'
  generalize (ρ x).cells = cs at *
  have hfold := fill_all cs cs.toList 0 ((Array.range cs.size).map (z.cells[· % z.cells.size]!)) (by simp) (by simp)
  unfold execOp
  simp only [List.map_toArray, List.map_cons, List.map_nil]
  rw [hx']
  have h1 : ¬ cs.size > 2 ^ 24 := by omega
  have h2 : ¬ cs.size = 0 := by omega
  have hfill : Instr.fill (fun i => some (i * cs.size, cs.size)) ((Array.range cs.size).map (z.cells[· % z.cells.size]!)) [(0, .agg cs)] = some cs := by
    simp only [Instr.fill, cells_agg, Nat.zero_mul, Nat.zero_add]
    rw [if_neg (by simp)]
    rw [← Array.foldl_toList, Array.toList_zipIdx]
    exact congrArg some hfold
  simp [Instr.buildSlice, run_underlying hu, Sem.run_bind, hn, h1, h2, hz, hfill, newRow]
theorem run_index_r (hu : P.underlying ty = some (.array (P.arrayLen ty) (P.elem ty))) (hx : isAggV (ρ x) = true) (hy : isIntV (ρ y) = true)
    (he : (isAgg (P.elem ty)).run P w = .ok false w) (hn : (sizeOf (P.elem ty)).run P w = .ok 1 w) (h0 : 0 ≤ numOf (ρ y)) (h1 : numOf (ρ y) < P.arrayLen ty) (h2 : (numOf (ρ y)).toNat < (ρ x).cells.size) :
    (execOp ρ { dst, op := .index ty x y, type, pos, after, guard }).run P w = .ok (.value ((ρ x).cells[(numOf (ρ y)).toNat]?.getD undef)) w := by
  have hx' := isAggV_spec hx
  obtain ⟨k, hy'⟩ := isIntV_spec hy
  generalize (ρ x).cells = cs at *
  generalize numOf (ρ y) = i at *
  unfold execOp
  simp only []
  rw [hx', hy']
  simp [Instr.index, asIntOf, run_underlying hu, h0, h1, part, Sem.run_bind, he, hn, h2]
end
end

/-! ### lists by their index -/
def tab (n : Nat) (f : Nat → UInt8) : List UInt8 := (List.range n).map f
/-! ### bits on bytes -/
def xr (a b : UInt8) : UInt8 := a ^^^ b
theorem bx8 (a b : UInt8) : bits .xor .u8 (a.toNat : Int) (b.toNat : Int) = ((xr a b).toNat : Int) := by
  rw [u8_xor_nat _ _ a.toNat_lt b.toNat_lt, xr, UInt8.toNat_xor]
theorem bSetRow {n : Nat} {a w : World} (h : Below n a w) {g : Nat} (hg : n ≤ g) (cs : Array Value) : Below n a (w.setRow g cs) :=
  h.trans ⟨rfl, rfl, rfl, by simp, fun k hk => setRow_other w g k cs (by omega)⟩

theorem ret_row {P : Program} {fn : Func} {p : Tmp} {ty : TypeId} {tmps : Array Value} {w : World} {R : Ending → World → Prop} {e : Exit} (he : e = .ret ∨ e = .normal) (h : fn.results = #[.cell p ty]) (g : Nat) (t : TypeId) (cs : Array Value) (n : Nat) (d : TypeDesc)
    (hp : tmps.getD p undef = .pointer (some ⟨g, 0, none⟩)) (hr : Row w g t cs)
    (hu : P.underlying ty = some d) (hd : (match d with | .struct _ | .array _ _ => true | _ => false) = true) (hi : (P.info? ty).map (·.size) = some n) (hn : cs.size = n)
    (hR : R (.returned (.agg cs)) w) : bodyPost P fn R e { tmps, defers := [] } w := by
  have hres := results_cell_row (P := P) h tmps w g t cs (0, 0) d hp hr.heap hu hd (by rw [hi, hn])
  rcases he with rfl | rfl <;> exact ⟨rfl, _, hres, hR⟩

attribute [go_sem] bx8 row_alloc_new row_alloc_old row_drew row_set_other row_set_same row_setRow_other row_setRow_same AB_size cell_row frozen_row allOne_AB allOne_lit oneCell_int rowSize rowCells szR plainPtr_mk blkOf_mk offOf_mk isAggV_mk isIntV_mk numOf_mk zeroOk isSliceV_mk lenV_mk addrV_mk cells_agg sub_all over_all AB_get AB_getElem AB_set
attribute [go_sem low] sub_AB over_AB
attribute [go_sem ↓] run_load_r run_store_r run_index_r run_s2a_r run_bs1_r

end Go.Proofs.YtjpfhhndjpdmoaaGreatDoor

/- Strings as lists of bytes. They hold for every program and every world. -/
namespace Go.Proofs.YtjpfhhndjpdmoaaGreatDoor
open Go.RowKit

abbrev S (l : List UInt8) : Value := .string ⟨l.toArray⟩
section
variable {P : Program}
theorem run_len_S (t ty : TypeId) (l : List UInt8) (w : World) (h : P.underlying t = some .string) :
    (Builtin.len_ #[t] ty #[.string ⟨l.toArray⟩]).run P w = .ok (.int .i64 (l.length : Int)) w := by
  rw [run_len_string _ _ _ _ h]
  rfl
theorem run_index_S (t : TypeId) (l : List UInt8) (k : IntKind) (i : Int) (w : World) (h : P.underlying t = some .string) (h0 : 0 ≤ i) (h1 : i < l.length) :
    (Instr.index t (.string ⟨l.toArray⟩) (.int k i)).run P w = .ok (B (gb l i.toNat)) w := by
  have hs : ((⟨l.toArray⟩ : ByteArray).size : Int) = l.length := by simp [ByteArray.size]
  rw [run_index_string _ _ _ _ _ h, dif_pos ⟨h0, by rw [hs]; exact h1⟩]
  have h2 : i.toNat < l.length := by omega
  congr 2
  simp only [gb]
  have : (⟨l.toArray⟩ : ByteArray)[i.toNat]'(by simp only [ByteArray.size, List.size_toArray]; exact h2) = l[i.toNat] := rfl
  rw [this]
  simp [h2]
end
attribute [go_sem ↓] run_len_S run_index_S
theorem lS : (∀ (l : List Value) (i : Nat) (a : Value), l.toArray.setIfInBounds i a = (l.set i a).toArray) ∧ (∀ (x a : Value) (l : List Value), (x :: l).set 0 a = a :: l) ∧ (∀ (x a : Value) (l : List Value) (n : Nat), (x :: l).set (n + 1) a = x :: l.set n a) := ⟨fun l i a => List.setIfInBounds_toArray l i a, fun _ _ _ => rfl, fun _ _ _ _ => rfl⟩
theorem pS : (∀ (d : Tmp), (some d).toList = [d]) ∧ (∀ {α : Type} (a : α) (x y : List α), (a :: x) ++ y = a :: (x ++ y)) ∧ (∀ {α : Type} (x : List α), [] ++ x = x) ∧ (∀ (l : List Value) (i : Nat) (a : Value), l.toArray.setIfInBounds i a = (l.set i a).toArray) ∧ (∀ (x a : Value) (l : List Value), (x :: l).set 0 a = a :: l) ∧ (∀ (x a : Value) (l : List Value) (n : Nat), (x :: l).set (n + 1) a = x :: l.set n a) := ⟨fun _ => rfl, fun _ _ _ => rfl, fun _ => rfl, lS⟩
end Go.Proofs.YtjpfhhndjpdmoaaGreatDoor

namespace Go.Proofs.YtjpfhhndjpdmoaaGreatDoor
set_option linter.unusedVariables false

def L64 : Nat := 18446744073709551616
def R256 : Nat := 115792089237316195423570985008687907853269984665640564039457584007913129639936
def lim (n i : Nat) : Nat := n / 18446744073709551616 ^ i % 18446744073709551616
def redQ (m neg a T x : Nat) : Nat := (T + x * a) % 18446744073709551616 * neg % 18446744073709551616
def redT (m neg a T x : Nat) : Nat := (T + x * a + redQ m neg a T x * m) / 18446744073709551616
def redA (m neg a b : Nat) : Nat := redT m neg a (redT m neg a (redT m neg a (redT m neg a 0 (lim b 0)) (lim b 1)) (lim b 2)) (lim b 3)
def shrS (m T : Nat) : Nat := if T < m then T else T - m
def redS (m neg a b : Nat) : Nat := shrS m (redA m neg a b)
structure MdS (m neg ri : Nat) : Prop where
  odd : m % 2 = 1
  big : 2 < m
  low : m < R256
  neg : (neg * m + 1) % 18446744073709551616 = 0
  inv : R256 * ri % m = 1
theorem redT_mul {m neg ri a T x : Nat} (h : MdS m neg ri) : redT m neg a T x * 18446744073709551616 = T + x * a + redQ m neg a T x * m := by
  unfold redT
  have e : (T + x * a + redQ m neg a T x * m) % 18446744073709551616 = 0 := by
    have hn := h.neg
    obtain ⟨k, hk⟩ : ∃ k, neg * m + 1 = 18446744073709551616 * k := ⟨(neg * m + 1) / 18446744073709551616, by omega⟩
    obtain ⟨S, hS⟩ : ∃ S, S = T + x * a := ⟨_, rfl⟩
    unfold redQ
    rw [← hS]
    have h1 : (S % 18446744073709551616 * neg % 18446744073709551616 * m) % 18446744073709551616 = (S * (neg * m)) % 18446744073709551616 := by
      rw [Nat.mul_mod, Nat.mod_mod, ← Nat.mul_mod, Nat.mul_assoc, Nat.mul_mod, Nat.mod_mod, ← Nat.mul_mod]
    rw [Nat.add_mod, h1, ← Nat.add_mod]
    have h2 : S + S * (neg * m) = S * (neg * m + 1) := by rw [Nat.mul_add, Nat.mul_one, Nat.add_comm]
    rw [h2, hk]
    have h3 : S * (18446744073709551616 * k) = 18446744073709551616 * (S * k) := Nat.mul_left_comm _ _ _
    rw [h3]
    exact Nat.mul_mod_right _ _
  have := Nat.div_add_mod (T + x * a + redQ m neg a T x * m) 18446744073709551616
  omega
theorem redQ_lt (m neg a T x : Nat) : redQ m neg a T x < 18446744073709551616 := Nat.mod_lt _ (by decide)
theorem redT_lt {m neg a T x : Nat} (hm : m < R256) (ha : a < R256) (hT : T < 2 * R256) (hx : x < 18446744073709551616) : redT m neg a T x < 2 * R256 := by
  unfold redT
  have hq := redQ_lt m neg a T x
  have h1 : x * a ≤ 18446744073709551615 * R256 := Nat.mul_le_mul (by omega) (by omega)
  have h2 : redQ m neg a T x * m ≤ 18446744073709551615 * R256 := Nat.mul_le_mul (by omega) (by omega)
  rw [Nat.div_lt_iff_lt_mul (by decide)]
  have : R256 = 115792089237316195423570985008687907853269984665640564039457584007913129639936 := rfl
  omega
def c1 : Nat := 18446744073709551616
def c2 : Nat := c1 * c1
def c3 : Nat := c1 * c2
theorem c2_eq : c2 = 340282366920938463463374607431768211456 := rfl
theorem c3_eq : c3 = 6277101735386680763835789423207666416102355444464034512896 := rfl
theorem R_eq : R256 = c1 * (c1 * (c1 * c1)) := rfl
theorem lim_sum0 (b : Nat) (hb : b < R256) : lim b 0 + lim b 1 * 18446744073709551616 + lim b 2 * 340282366920938463463374607431768211456 + lim b 3 * 6277101735386680763835789423207666416102355444464034512896 = b := by
  have : R256 = 115792089237316195423570985008687907853269984665640564039457584007913129639936 := rfl
  unfold lim
  rw [show (18446744073709551616 : Nat) ^ 0 = 1 from rfl, show (18446744073709551616 : Nat) ^ 1 = 18446744073709551616 from rfl, show (18446744073709551616 : Nat) ^ 2 = 340282366920938463463374607431768211456 from rfl, show (18446744073709551616 : Nat) ^ 3 = 6277101735386680763835789423207666416102355444464034512896 from rfl]
  omega
theorem lim_sum (b : Nat) (hb : b < R256) : lim b 0 + lim b 1 * c1 + lim b 2 * c2 + lim b 3 * c3 = b := lim_sum0 b hb
theorem q_sum (Q0 Q1 Q2 Q3 : Nat) (h0 : Q0 < 18446744073709551616) (h1 : Q1 < 18446744073709551616) (h2 : Q2 < 18446744073709551616) (h3 : Q3 < 18446744073709551616) : Q0 + Q1 * c1 + Q2 * c2 + Q3 * c3 < R256 := by
  have : R256 = 115792089237316195423570985008687907853269984665640564039457584007913129639936 := rfl
  rw [c2_eq, c3_eq, this, show c1 = 18446744073709551616 from rfl]
  omega
theorem lim_lt (n i : Nat) : lim n i < 18446744073709551616 := Nat.mod_lt _ (by decide)
theorem four (L T1 T2 T3 T4 S0 S1 S2 S3 : Nat) (h0 : T1 * L = S0) (h1 : T2 * L = T1 + S1) (h2 : T3 * L = T2 + S2) (h3 : T4 * L = T3 + S3) : T4 * (L * (L * (L * L))) = S0 + S1 * L + S2 * (L * L) + S3 * (L * (L * L)) := by
  rw [← Nat.mul_assoc T4, h3, Nat.add_mul, ← Nat.mul_assoc T3, h2, Nat.add_mul, ← Nat.mul_assoc T2, h1, Nat.add_mul, h0]
theorem redA_mul {m neg ri a b : Nat} (h : MdS m neg ri) (hb : b < R256) : ∃ Q, Q < R256 ∧ redA m neg a b * R256 = a * b + Q * m := by
  obtain ⟨x0, e0⟩ : ∃ x, x = lim b 0 := ⟨_, rfl⟩
  obtain ⟨x1, e1⟩ : ∃ x, x = lim b 1 := ⟨_, rfl⟩
  obtain ⟨x2, e2⟩ : ∃ x, x = lim b 2 := ⟨_, rfl⟩
  obtain ⟨x3, e3⟩ : ∃ x, x = lim b 3 := ⟨_, rfl⟩
  have hs := lim_sum b hb
  unfold redA
  rw [← e0, ← e1, ← e2, ← e3] at hs ⊢
  have h0 := redT_mul (a := a) (T := 0) (x := x0) h
  have q0 := redQ_lt m neg a 0 x0
  obtain ⟨Q0, f0⟩ : ∃ q, q = redQ m neg a 0 x0 := ⟨_, rfl⟩
  obtain ⟨T1, t1⟩ : ∃ t, t = redT m neg a 0 x0 := ⟨_, rfl⟩
  rw [← f0, ← t1] at h0
  rw [← f0] at q0
  rw [← t1]
  have h1 := redT_mul (a := a) (T := T1) (x := x1) h
  have q1 := redQ_lt m neg a T1 x1
  obtain ⟨Q1, f1⟩ : ∃ q, q = redQ m neg a T1 x1 := ⟨_, rfl⟩
  obtain ⟨T2, t2⟩ : ∃ t, t = redT m neg a T1 x1 := ⟨_, rfl⟩
  rw [← f1, ← t2] at h1
  rw [← f1] at q1
  rw [← t2]
  have h2 := redT_mul (a := a) (T := T2) (x := x2) h
  have q2 := redQ_lt m neg a T2 x2
  obtain ⟨Q2, f2⟩ : ∃ q, q = redQ m neg a T2 x2 := ⟨_, rfl⟩
  obtain ⟨T3, t3⟩ : ∃ t, t = redT m neg a T2 x2 := ⟨_, rfl⟩
  rw [← f2, ← t3] at h2
  rw [← f2] at q2
  rw [← t3]
  have h3 := redT_mul (a := a) (T := T3) (x := x3) h
  have q3 := redQ_lt m neg a T3 x3
  obtain ⟨Q3, f3⟩ : ∃ q, q = redQ m neg a T3 x3 := ⟨_, rfl⟩
  obtain ⟨T4, t4⟩ : ∃ t, t = redT m neg a T3 x3 := ⟨_, rfl⟩
  rw [← f3, ← t4] at h3
  rw [← f3] at q3
  rw [← t4]
  refine ⟨Q0 + Q1 * c1 + Q2 * c2 + Q3 * c3, q_sum _ _ _ _ q0 q1 q2 q3, ?_⟩
  have e : ∀ x c, a * (x * c) = x * a * c := fun x c => by rw [← Nat.mul_assoc, Nat.mul_comm a x]
  have hab : a * b = x0 * a + x1 * a * c1 + x2 * a * c2 + x3 * a * c3 := by
    rw [← hs, Nat.mul_add, Nat.mul_add, Nat.mul_add, e, e, e, Nat.mul_comm a x0]
  have hqm : (Q0 + Q1 * c1 + Q2 * c2 + Q3 * c3) * m = Q0 * m + Q1 * m * c1 + Q2 * m * c2 + Q3 * m * c3 := by
    rw [Nat.add_mul, Nat.add_mul, Nat.add_mul, Nat.mul_right_comm Q1, Nat.mul_right_comm Q2, Nat.mul_right_comm Q3]
  have h4 := four c1 T1 T2 T3 T4 (0 + x0 * a + Q0 * m) (x1 * a + Q1 * m) (x2 * a + Q2 * m) (x3 * a + Q3 * m) h0 (by rw [← Nat.add_assoc]; exact h1) (by rw [← Nat.add_assoc]; exact h2) (by rw [← Nat.add_assoc]; exact h3)
  rw [← R_eq] at h4
  rw [h4, hab, hqm, show c1 * c1 = c2 from rfl, show c1 * c2 = c3 from rfl, Nat.add_mul, Nat.add_mul, Nat.add_mul, Nat.zero_add]
  omega
theorem redS_eq {m neg ri a b : Nat} (h : MdS m neg ri) (hb : b < R256) (hab : a * b < m * R256) : redS m neg a b = a * b * ri % m := by
  obtain ⟨Q, hQ, hT⟩ := redA_mul (a := a) h hb
  have hm0 : 0 < m := by have := h.big; omega
  obtain ⟨T, eT⟩ : ∃ t, t = redA m neg a b := ⟨_, rfl⟩
  rw [← eT] at hT
  have h2m : T < 2 * m := by
    have h1 : Q * m < R256 * m := Nat.mul_lt_mul_of_pos_right hQ hm0
    have h2 : T * R256 < 2 * m * R256 := by rw [hT]; have := Nat.mul_comm R256 m; have := Nat.mul_assoc 2 m R256; omega
    exact Nat.lt_of_mul_lt_mul_right h2
  have hs : shrS m T = T % m := by
    unfold shrS
    split
    · next h => rw [Nat.mod_eq_of_lt h]
    · next h => rw [Nat.mod_eq_sub_mod (by omega), Nat.mod_eq_of_lt (by omega)]
  unfold redS
  rw [← eT, hs]
  have h3 : (T * R256 * ri) % m = T % m := by
    rw [Nat.mul_assoc, Nat.mul_mod, h.inv, Nat.mul_one, Nat.mod_mod]
  rw [← h3, hT, Nat.add_mul, Nat.mul_right_comm Q m ri, Nat.add_mul_mod_self_right]
end Go.Proofs.YtjpfhhndjpdmoaaGreatDoor
