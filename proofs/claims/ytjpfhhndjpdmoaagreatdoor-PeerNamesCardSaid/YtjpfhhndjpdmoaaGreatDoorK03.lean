/- Part of the proof: EvO. No conditions of its own. -/
import Derived.Below
import Derived.KernelRfl
import Derived.Laws.CopyRow
import Derived.Laws.NewFold
import Derived.Orders
import Derived.RowKit3
import Derived.Test.YtjpfhhndjpdmoaaGreatDoorK02
namespace Go.Proofs.YtjpfhhndjpdmoaaGreatDoor
open Go.RowKit
set_option linter.unusedVariables false
set_option linter.unusedSimpArgs false

def BlkR (ν : Env) (l : Loc) (k : Blk) (o : Option Obj) : Prop :=
  ∃ c fr, o = some (.cells c k.elem fr) ∧ c.size = l.sz ∧ (k.exact = true → k.cells.length = c.size) ∧ (∃ vs rest, c.toList = vs ++ rest ∧ VRs ν k.cells vs) ∧ k.cells.all LV.isOne = true ∧ (fr.1 = fr.2 ∨ c.size ≤ fr.1) ∧ (k.mrk = false → fr = (0, 0))
theorem frz {fr : Nat × Nat} {n : Nat} (h : fr.1 = fr.2 ∨ n ≤ fr.1) : ∀ i, i < n → ¬ (fr.1 ≤ i ∧ i < fr.2) := fun i hi => by omega
theorem BlkR.ext {ν ν' : Env} (h : Ext ν ν') {l : Loc} {k : Blk} {o : Option Obj} (hb : BlkR ν l k o) : BlkR ν' l k o := by
  obtain ⟨c, fr, h1, h2, h3, ⟨vs, rest, h4, h5⟩, h6⟩ := hb
  exact ⟨c, fr, h1, h2, h3, ⟨vs, rest, h4, VRs.ext h _ _ h5⟩, h6⟩
def footHas : Option (List Nat) → Nat → Prop
  | none, _ => True
  | some F, i => i ∈ F
def HRF (ν : Env) (H : Hp) (foot : Option (List Nat)) (w : World) : Prop := ∀ i k, footHas foot i → H.get i = some k → ∃ l, ν i = some l ∧ BlkR ν l k w.heap[l.addr]?
def LowF (nB B : Nat) (ν : Env) (H : Hp) (foot : Option (List Nat)) : Prop := ∀ i k l, footHas foot i → nB ≤ i → H.get i = some k → ν i = some l → B ≤ l.addr
def InjH (ν : Env) (H : Hp) : Prop := ∀ i j ki kj li lj, H.get i = some ki → H.get j = some kj → ν i = some li → ν j = some lj → li.addr = lj.addr → i = j
def GlobE (P : Program) (ν : Env) : Prop := ∀ g, g < P.globals.size → ∃ sz, ν g = some ⟨g, sz⟩
structure OpPost (nB B : Nat) (w0 : World) (ν ν' : Env) (H : Hp) (nx : Nat) (out : Out) (w w' : World) (v' : Value) : Prop where
  ext : ∀ i, ¬ (nx ≤ i ∧ i < out.nx) → ν' i = ν i
  val : VR ν' out.v v'
  blk : ∀ i k, dget out.d i = some (some k) → ∃ l, ν' i = some l ∧ BlkR ν' l k w'.heap[l.addr]?
  frame : ∀ a, a < w.heap.size → (∀ i l, i < nx → (dget out.d i).isSome = true → ν i = some l → l.addr ≠ a) → w'.heap[a]? = w.heap[a]?
  fresh : ∀ i k l, nx ≤ i → dget out.d i = some (some k) → ν' i = some l → w.heap.size ≤ l.addr ∨ ∃ j lj, j < nx ∧ dget out.d j = some none ∧ ν j = some lj ∧ lj.addr = l.addr
  inj : ∀ i j ki kj li lj, nx ≤ i → nx ≤ j → dget out.d i = some (some ki) → dget out.d j = some (some kj) → ν' i = some li → ν' j = some lj → li.addr = lj.addr → i = j
  old : ∀ i, i < nx → (dget out.d i).isSome = true → nB ≤ i ∧ (H.get i).isSome = true
  new : ∀ i, nx ≤ i → (dget out.d i).isSome = true → i < out.nx
  below : Below B w0 w'
  size : w.heap.size ≤ w'.heap.size
theorem BlkR.heap {ν : Env} {l : Loc} {k : Blk} {w : World} (h : BlkR ν l k w.heap[l.addr]?) : l.addr < w.heap.size := by
  obtain ⟨c, fr, h1, _⟩ := h
  exact (Array.getElem?_eq_some_iff.1 h1).1
theorem BlkR.cell {ν : Env} {l : Loc} {k : Blk} {w : World} (h : BlkR ν l k w.heap[l.addr]?) (i : Nat) (x : LV) (hx : k.cells[i]? = some x) : ∃ y, w.cell? ⟨l.addr, i, none⟩ = some y ∧ VR ν x y ∧ x.isOne = true := by
  obtain ⟨c, fr, h1, h2, h3, ⟨vs, rest, h4, h5⟩, h6, h7⟩ := h
  obtain ⟨y, hy, hv⟩ := h5.get i x hx
  have hi : i < vs.length := (List.getElem?_eq_some_iff.1 hy).1
  refine ⟨y, ?_, hv, (List.all_eq_true.1 h6) x (List.mem_of_getElem? hx)⟩
  simp only [World.cell?, h1]
  rw [← Array.getElem?_toList, h4, List.getElem?_append_left hi]
  simpa using hy
theorem BlkR.stretch {ν : Env} {l : Loc} {k : Blk} {w : World} (h : BlkR ν l k w.heap[l.addr]?) (off n : Nat) (hn : ((k.cells.drop off).take n).length = n) :
    ∃ us, us.length = n ∧ VRs ν ((k.cells.drop off).take n) us ∧ ∀ j v, us[j]? = some v → w.cell? ⟨l.addr, off + j, none⟩ = some v := by
  obtain ⟨c, fr, h1, h2, h3, ⟨vs, rest, h4, h5⟩, h6, h7⟩ := h
  refine ⟨(vs.drop off).take n, ?_, (h5.drop off).take n, fun j v hj => ?_⟩
  · have := ((h5.drop off).take n).length; rw [this, hn]
  · have hjn : j < n := by
      have := (List.getElem?_eq_some_iff.1 hj).1
      simp at this; omega
    rw [List.getElem?_take_of_lt hjn, List.getElem?_drop] at hj
    have hi : off + j < vs.length := (List.getElem?_eq_some_iff.1 hj).1
    simp only [World.cell?, h1]
    rw [← Array.getElem?_toList, h4, List.getElem?_append_left hi]
    simpa using hj
section
variable {P : Program}
theorem add_off (g o i : Nat) : (⟨g, o, none⟩ : Addr).add i = ⟨g, o + i, none⟩ := by unfold Addr.add; split <;> simp_all
theorem run_storeCells_ok (g o : Nat) (t : TypeId) (fr : Nat × Nat) : ∀ (vs : List Value) (i : Nat) (cur : Array Value) (w : World), w.heap[g]? = some (.cells cur t fr) → (∀ j, j < cur.size → ¬ (fr.1 ≤ j ∧ j < fr.2)) → o + i + vs.length ≤ cur.size → (∀ v ∈ vs, v.oneCell' = true) →
    (storeCells ⟨g, o, none⟩ vs i).run P w = .ok () (w.setRow g (cur.toList.take (o + i) ++ vs ++ cur.toList.drop (o + i + vs.length)).toArray)
  | [], i, cur, w, hg, _, _, _ => by
    simp only [storeCells, List.append_nil, List.length_nil, Nat.add_zero, List.take_append_drop, Array.toArray_toList]
    rw [setRow_self w g cur t fr hg]
    rfl
  | v :: rest, i, cur, w, hg, hfr, hl, h1 => by
    have hi : o + i < cur.size := by simp at hl; omega
    have hcell : w.cell? ⟨g, o + i, none⟩ = some cur[o + i] := by simp [World.cell?, hg, hi]
    have hfro : w.frozen? ⟨g, o + i, none⟩ = false := by
      have := hfr (o + i) hi
      obtain ⟨a, b⟩ := fr
      simp only [World.frozen?, hg]
      rw [Bool.and_eq_false_iff, decide_eq_false_iff_not, decide_eq_false_iff_not]
      exact Decidable.not_and_iff_or_not.1 this
    have hst : (store ((⟨g, o, none⟩ : Addr).add i) v).run P w = .ok () (w.setRow g (cur.setIfInBounds (o + i) v)) := by
      rw [add_off, run_store P w _ v _ (h1 v (by simp)), hcell]
      simp [hfro, setCell_eq_setRow w g (o + i) cur t fr v hg]
    have ih := run_storeCells_ok g o t fr rest (i + 1) (cur.setIfInBounds (o + i) v) (w.setRow g (cur.setIfInBounds (o + i) v)) (setRow_heap w g cur _ t _ hg) (by simpa using hfr) (by simp at hl ⊢; omega) (fun x hx => h1 x (by simp [hx]))
    simp only [storeCells, Sem.run_bind, hst, Result.andThen_ok, ih, setRow_setRow]
    congr 3
    have e := list_seg_step cur.toList (o + i) v rest (by simp at hl ⊢; omega)
    simpa [Array.toList_setIfInBounds, Nat.add_assoc] using e
theorem run_isAgg {t : TypeId} {b : Bool} (h : isAggL P t = some b) (w : World) : (isAgg t).run P w = .ok b w := by
  unfold isAggL at h
  split at h
  · rename_i fs hu; cases h; simp [isAgg, run_underlying hu]
  · rename_i n e hu; cases h; simp [isAgg, run_underlying hu]
  · rename_i d n1 n2 hu
    cases h
    simp only [isAgg, Sem.run_bind, run_underlying hu, Result.andThen_ok]
    cases d <;> simp_all
  · cases h
theorem run_sizeOf {t : TypeId} {n : Nat} (h : sizeL P t = some n) (w : World) : (sizeOf t).run P w = .ok n w := by
  simp only [sizeL, Option.map_eq_some_iff] at h
  obtain ⟨i, hi, rfl⟩ := h
  simp [sizeOf, typeInfo, hi]
theorem run_zero {ν : Env} {t : TypeId} {z : List LV} (h : zeroL P t = some z) : ∃ v, (∀ w, (zeroValue t).run P w = .ok v w) ∧ VRs ν z v.cells.toList ∧ z.all LV.isOne = true := by
  unfold zeroL at h
  split at h
  · rename_i i hi
    split at h
    · rename_i v hz
      exact ⟨v, fun w => by simp [zeroValue, typeInfo, hi, hz], lvsOf_ok h, lvsOf_one h⟩
    · cases h
  · cases h
theorem part_ok {ν : Env} {t : TypeId} {cs : List LV} {off : Nat} {l : LV} {us : List Value} (h : partL P t cs off = some l) (hv : VRs ν cs us) (w : World) : ∃ v, (part t us.toArray off).run P w = .ok v w ∧ VR ν l v := by
  unfold partL at h
  split at h
  · rename_i n ha hs
    simp only at h
    split at h
    · rename_i hl
      cases h
      refine ⟨.agg ((us.drop off).take n).toArray, ?_, ?_⟩
      · simp only [part, Sem.run_bind, run_isAgg ha, Result.andThen_ok, if_true, run_sizeOf hs, Sem.run_pure]
        congr 2
        apply Array.ext'
        simp [List.extract_eq_drop_take']
        try rw [List.drop_take]
        try congr 1
        try omega
      · simp only [VR]
        exact ⟨_, rfl, (hv.drop off).take n⟩
    · cases h
  · rename_i n ha hs
    obtain ⟨y, hy, hvy⟩ := hv.get off l h
    refine ⟨y, ?_, hvy⟩
    simp [part, run_isAgg ha, hy]
  · cases h
theorem loadVar_ok {ν : Env} {t : TypeId} {b : Loc} {k : Blk} {off : Nat} {l : LV} {w : World} (h : partL P t k.cells off = some l) (hb : BlkR ν b k w.heap[b.addr]?) : ∃ v, (loadVar t ⟨b.addr, off, none⟩).run P w = .ok v w ∧ VR ν l v := by
  unfold partL at h
  split at h
  · rename_i n ha hs
    simp only at h
    split at h
    · rename_i hl
      cases h
      obtain ⟨us, h1, h2, h3⟩ := hb.stretch off n hl
      refine ⟨.agg us.toArray, ?_, by simp only [VR]; exact ⟨_, rfl, h2⟩⟩
      have := run_loadCells_list (P := P) w ⟨b.addr, off, none⟩ us (fun j v hj => by rw [add_off]; exact h3 j v hj)
      simp only [loadVar, Sem.run_bind, run_isAgg ha, Result.andThen_ok, if_true, run_sizeOf hs, ← h1, this, Sem.run_pure]
    · cases h
  · rename_i n ha hs
    obtain ⟨y, hy, hvy, _⟩ := hb.cell off l h
    exact ⟨y, by simp [loadVar, run_isAgg ha, hy], hvy⟩
  · cases h
end
/-! ### the shapes -/
section
variable {nB B : Nat} {w0 : World} {ν : Env} {H : Hp} {nx : Nat} {w : World}
theorem post_val {v : LV} {v' : Value} {foot : Option (List Nat)} (hv : VR ν v v') (hb : Below B w0 w) : OpPost nB B w0 ν ν H nx ⟨v, [], nx, foot⟩ w w v' where
  ext := fun _ _ => rfl
  val := hv
  blk := fun i k h => by simp [dget] at h
  frame := fun _ _ _ => rfl
  fresh := fun i k l _ h => by simp [dget] at h
  inj := fun i j ki kj li lj _ _ h => by simp [dget] at h
  old := fun i _ h => by simp [dget] at h
  new := fun i _ h => by simp [dget] at h
  below := hb
  size := Nat.le_refl _
def envNew (ν : Env) (nx : Nat) (l : Loc) : Env := fun i => if i = nx then some l else ν i
theorem envNew_ext {l : Loc} (h : ν nx = none) : Ext ν (envNew ν nx l) := fun i m hi => by
  unfold envNew
  split
  · rename_i e; subst e; rw [h] at hi; cases hi
  · exact hi
theorem envNew_self (l : Loc) : envNew ν nx l nx = some l := by simp [envNew]
theorem post_new {t : TypeId} {ex mk : Bool} {cs : List LV} {v : LV} {foot : Option (List Nat)} {w' : World} {c : Array Value} {fr : Nat × Nat} {v' : Value}
    (hν : ν nx = none) (hh : w'.heap = w.heap.push (.cells c t fr)) (hfr : fr.1 = fr.2 ∨ c.size ≤ fr.1) (hmk : mk = false → fr = (0, 0)) (hex : ex = true → cs.length = c.size)
    (hcs : ∃ vs rest, c.toList = vs ++ rest ∧ VRs ν cs vs) (h1 : cs.all LV.isOne = true) (hb : Below B w0 w') (hv : VR (envNew ν nx ⟨w.heap.size, c.size⟩) v v') :
    OpPost nB B w0 ν (envNew ν nx ⟨w.heap.size, c.size⟩) H nx ⟨v, [(nx, some ⟨t, ex, mk, cs⟩)], nx + 1, foot⟩ w w' v' where
  ext := fun i hi => by unfold envNew; rw [if_neg (by simp at hi; omega)]
  val := hv
  blk := fun i k h => by
    simp only [dget] at h
    split at h
    · rename_i e; subst e
      cases h
      refine ⟨_, envNew_self _, c, fr, ?_, rfl, hex, ?_, h1, hfr, hmk⟩
      · simp [hh]
      · obtain ⟨vs, rest, h2, h3⟩ := hcs
        exact ⟨vs, rest, h2, VRs.ext (envNew_ext hν) _ _ h3⟩
    · cases h
  frame := fun a ha _ => by rw [hh, Array.getElem?_push, if_neg (by omega)]
  fresh := fun i k l hi h hl => by
    simp only [dget] at h
    split at h
    · rename_i e; subst e
      rw [envNew_self] at hl; cases hl
      exact .inl (Nat.le_refl _)
    · cases h
  inj := fun i j ki kj li lj _ _ hi hj _ _ _ => by
    simp only [dget] at hi hj
    split at hi
    · rename_i e1
      split at hj
      · rename_i e2; rw [e1, e2]
      · cases hj
    · cases hi
  old := fun i hi h => by
    simp only [dget] at h
    split at h
    · rename_i e; omega
    · cases h
  new := fun i hi h => by
    simp only [dget] at h
    split at h
    · rename_i e; simp; omega
    · cases h
  below := hb
  size := by rw [hh]; simp
theorem post_set {b : Nat} {l : Loc} {k : Blk} {c' : Array Value} {fr' : Nat × Nat} {cs : List LV} {mk : Bool} {v : LV} {foot : Option (List Nat)} {w' : World} {v' : Value}
    (hbn : b < nx) (hnB : nB ≤ b) (hH : H.get b = some k) (hν : ν b = some l) (hh : w'.heap[l.addr]? = some (.cells c' k.elem fr')) (ho : ∀ a, a ≠ l.addr → w'.heap[a]? = w.heap[a]?) (hsz : w'.heap.size = w.heap.size)
    (hc' : c'.size = l.sz) (hfr : fr'.1 = fr'.2 ∨ c'.size ≤ fr'.1) (hmk : mk = false → fr' = (0, 0)) (hex : k.exact = true → cs.length = c'.size) (hcs : ∃ vs rest, c'.toList = vs ++ rest ∧ VRs ν cs vs) (h1 : cs.all LV.isOne = true) (hb : Below B w0 w') (hv : VR ν v v') :
    OpPost nB B w0 ν ν H nx ⟨v, [(b, some ⟨k.elem, k.exact, mk, cs⟩)], nx, foot⟩ w w' v' where
  ext := fun _ _ => rfl
  val := hv
  blk := fun i k' h => by
    simp only [dget] at h
    split at h
    · rename_i e; subst e
      cases h
      exact ⟨l, hν, c', fr', hh, hc', hex, hcs, h1, hfr, hmk⟩
    · cases h
  frame := fun a ha h => ho a (fun e => h b l hbn (by simp [dget]) hν e.symm)
  fresh := fun i k l hi h hl => by
    simp only [dget] at h
    split at h
    · rename_i e; omega
    · cases h
  inj := fun i j ki kj li lj hi _ h _ _ _ _ => by
    simp only [dget] at h
    split at h
    · rename_i e; omega
    · cases h
  old := fun i hi h => by
    simp only [dget] at h
    split at h
    · rename_i e; subst e; exact ⟨hnB, by simp [hH]⟩
    · cases h
  new := fun i hi h => by
    simp only [dget] at h
    split at h
    · rename_i e; omega
    · cases h
  below := hb
  size := by omega
end
end Go.Proofs.YtjpfhhndjpdmoaaGreatDoor
