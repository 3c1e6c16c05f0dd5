/- Part of the proof: EvO,EvP,EvQ,EvS. No conditions of its own. -/
import Derived.Laws.NewFold
import Derived.Test.YtjpfhhndjpdmoaaGreatDoorF01
namespace Go.Proofs.YtjpfhhndjpdmoaaGreatDoor
open Go.RowKit
set_option linter.unusedVariables false
set_option linter.unusedSimpArgs false

def BlkR (ν : Env) (l:Loc) (k:Blk) (o:Option Obj) : Prop :=
 ∃ c fr,o = some (.cells c k.elem fr) ∧ c.size = l.base + l.sz ∧ (k.exact = true → k.cells.length = l.sz ∧ l.base = 0) ∧ (∃ pre vs rest,c.toList = pre ++ (vs ++ rest) ∧ pre.length = l.base ∧ VRs ν k.cells vs) ∧ k.cells.all LV.isOne = true ∧ (fr.1 = fr.2 ∨ c.size ≤ fr.1) ∧ (k.mrk = false → fr = (0,0))
theorem frz {fr:Nat × Nat} {n:Nat} (h:fr.1 = fr.2 ∨ n ≤ fr.1) : ∀ i,i < n → ¬ (fr.1 ≤ i ∧ i < fr.2):=fun i hi=>by omega
theorem BlkR.ext {ν ν' : Env} (h:Ext ν ν') {l:Loc} {k:Blk} {o:Option Obj} (hb:BlkR ν l k o) : BlkR ν' l k o:=by
 obtain ⟨c,fr,h1,h2,h3,⟨pre,vs,rest,h4,h0,h5⟩,h6⟩:=hb
 exact ⟨c,fr,h1,h2,h3,⟨pre,vs,rest,h4,h0,VRs.ext h _ _ h5⟩,h6⟩
def footHas : Option (List Nat) → Nat → Prop
 | none,_=>True
 | some F,i=>i ∈ F
def HRF (ν : Env) (H:Hp) (foot:Option (List Nat)) (w:World) : Prop:=∀ i k,footHas foot i → H.get i = some k → ∃ l,ν i = some l ∧ BlkR ν l k w.heap[l.addr]?
def LowF (nB B:Nat) (ν : Env) (H:Hp) (foot:Option (List Nat)) : Prop:=∀ i k l,footHas foot i → nB ≤ i → H.get i = some k → ν i = some l → B ≤ l.addr
def InjH (ν : Env) (H:Hp) : Prop:=∀ i j ki kj li lj,H.get i = some ki → H.get j = some kj → ν i = some li → ν j = some lj → li.addr = lj.addr → i = j
def InjHF (ν : Env) (H:Hp) (foot:Option (List Nat)) : Prop:=∀ i j ki kj li lj,footHas foot i → footHas foot j → H.get i = some ki → H.get j = some kj → ν i = some li → ν j = some lj → li.addr = lj.addr → i = j
def GlobE (P:Program) (ν : Env) : Prop:=∀ g,g < P.globals.size → ∃ sz,ν g = some ⟨g,sz,0⟩
structure OpPost (nB B:Nat) (w0:World) (ν ν' : Env) (H:Hp) (nx:Nat) (out:Out) (w w':World) (v':Value) : Prop where
 ext : ∀ i,¬ (nx ≤ i ∧ i < out.nx) → ν' i = ν i
 val : VR ν' out.v v'
 blk : ∀ i k,dget out.d i = some (some k) → ∃ l,ν' i = some l ∧ BlkR ν' l k w'.heap[l.addr]?
 frame : ∀ a,a < w.heap.size → (∀ i l,i < nx → (dget out.d i).isSome = true → ν i = some l → l.addr ≠ a) → w'.heap[a]? = w.heap[a]?
 fresh : ∀ i k l,nx ≤ i → dget out.d i = some (some k) → ν' i = some l → w.heap.size ≤ l.addr ∨ ∃ j lj,j < nx ∧ dget out.d j = some none ∧ ν j = some lj ∧ lj.addr = l.addr
 inj : ∀ i j ki kj li lj,nx ≤ i → nx ≤ j → dget out.d i = some (some ki) → dget out.d j = some (some kj) → ν' i = some li → ν' j = some lj → li.addr = lj.addr → i = j
 old : ∀ i,i < nx → (dget out.d i).isSome = true → nB ≤ i ∧ (H.get i).isSome = true
 new : ∀ i,nx ≤ i → (dget out.d i).isSome = true → i < out.nx
 below : Below B w0 w'
 size : w.heap.size ≤ w'.heap.size
theorem BlkR.heap {ν : Env} {l:Loc} {k:Blk} {w:World} (h:BlkR ν l k w.heap[l.addr]?) : l.addr < w.heap.size:=by
 obtain ⟨c,fr,h1,_⟩:=h
 exact (Array.getElem?_eq_some_iff.1 h1).1
theorem BlkR.cell {ν : Env} {l:Loc} {k:Blk} {w:World} (h:BlkR ν l k w.heap[l.addr]?) (i:Nat) (x:LV) (hx:k.cells[i]? = some x) : ∃ y,w.cell? ⟨l.addr,l.base + i,none⟩ = some y ∧ VR ν x y ∧ x.isOne = true:=by
 obtain ⟨c,fr,h1,h2,h3,⟨pre,vs,rest,h4,h0,h5⟩,h6,h7⟩:=h
 obtain ⟨y,hy,hv⟩:=h5.get i x hx
 have hi : i < vs.length:=(List.getElem?_eq_some_iff.1 hy).1
 refine ⟨y,?_,hv,(List.all_eq_true.1 h6) x (List.mem_of_getElem? hx)⟩
 simp only [World.cell?,h1]
 rw [← Array.getElem?_toList,h4,List.getElem?_append_right (by omega),← h0,Nat.add_sub_cancel_left,List.getElem?_append_left hi]
 simpa using hy
theorem BlkR.stretch {ν : Env} {l:Loc} {k:Blk} {w:World} (h:BlkR ν l k w.heap[l.addr]?) (off n:Nat) (hn:((k.cells.drop off).take n).length = n) :
  ∃ us,us.length = n ∧ VRs ν ((k.cells.drop off).take n) us ∧ ∀ j v,us[j]? = some v → w.cell? ⟨l.addr,l.base + off + j,none⟩ = some v:=by
 obtain ⟨c,fr,h1,h2,h3,⟨pre,vs,rest,h4,h0,h5⟩,h6,h7⟩:=h
 refine ⟨(vs.drop off).take n,?_,(h5.drop off).take n,fun j v hj=>?_⟩
 ·have:=((h5.drop off).take n).length; rw [this,hn]
 ·have hjn : j < n:=by
   have:=(List.getElem?_eq_some_iff.1 hj).1
   simp at this; omega
  rw [List.getElem?_take_of_lt hjn,List.getElem?_drop] at hj
  have hi : off + j < vs.length:=(List.getElem?_eq_some_iff.1 hj).1
  simp only [World.cell?,h1]
  rw [← Array.getElem?_toList,h4,List.getElem?_append_right (by omega),← h0,Nat.add_assoc,Nat.add_sub_cancel_left,List.getElem?_append_left hi]
  simpa using hj
section
variable {P:Program}
theorem add_off (g o i:Nat) : (⟨g,o,none⟩ : Addr).add i = ⟨g,o + i,none⟩:=by unfold Addr.add; split <;> simp_all
theorem run_storeCells_ok (g o:Nat) (t:TypeId) (fr:Nat × Nat) : ∀ (vs:List Value) (i:Nat) (cur:Array Value) (w:World),w.heap[g]? = some (.cells cur t fr) → (∀ j,j < cur.size → ¬ (fr.1 ≤ j ∧ j < fr.2)) → o + i + vs.length ≤ cur.size → (∀ v ∈ vs,v.oneCell' = true) →
  (storeCells ⟨g,o,none⟩ vs i).run P w = .ok () (w.setRow g (cur.toList.take (o + i) ++ vs ++ cur.toList.drop (o + i + vs.length)).toArray)
 | [],i,cur,w,hg,_,_,_=>by
  simp only [storeCells,List.append_nil,List.length_nil,Nat.add_zero,List.take_append_drop,Array.toArray_toList]
  rw [setRow_self w g cur t fr hg]
  rfl
 | v :: rest,i,cur,w,hg,hfr,hl,h1=>by
  have hi : o + i < cur.size:=by simp at hl; omega
  have hcell : w.cell? ⟨g,o + i,none⟩ = some cur[o + i]:=by simp [World.cell?,hg,hi]
  have hfro : w.frozen? ⟨g,o + i,none⟩ = false:=by
   have:=hfr (o + i) hi
   obtain ⟨a,b⟩:=fr
   simp only [World.frozen?,hg]
   rw [Bool.and_eq_false_iff,decide_eq_false_iff_not,decide_eq_false_iff_not]
   exact Decidable.not_and_iff_or_not.1 this
  have hst : (store ((⟨g,o,none⟩ : Addr).add i) v).run P w = .ok () (w.setRow g (cur.setIfInBounds (o + i) v)):=by
   rw [add_off,run_store P w _ v _ (h1 v (by simp)),hcell]
   simp [hfro,setCell_eq_setRow w g (o + i) cur t fr v hg]
  have ih:=run_storeCells_ok g o t fr rest (i + 1) (cur.setIfInBounds (o + i) v) (w.setRow g (cur.setIfInBounds (o + i) v)) (setRow_heap w g cur _ t _ hg) (by simpa using hfr) (by simp at hl ⊢; omega) (fun x hx=>h1 x (by simp [hx]))
  simp only [storeCells,Sem.run_bind,hst,Result.andThen_ok,ih,setRow_setRow]
  congr 3
  have e:=list_seg_step cur.toList (o + i) v rest (by simp at hl ⊢; omega)
  simpa [Array.toList_setIfInBounds,Nat.add_assoc] using e
theorem run_isAgg {t:TypeId} {b:Bool} (h:isAggL P t = some b) (w:World) : (isAgg t).run P w = .ok b w:=by
 unfold isAggL at h
 split at h
 ·rename_i fs hu; cases h; simp [isAgg,run_underlying hu]
 ·rename_i n e hu; cases h; simp [isAgg,run_underlying hu]
 ·rename_i d n1 n2 hu
  cases h
  simp only [isAgg,Sem.run_bind,run_underlying hu,Result.andThen_ok]
  cases d <;> simp_all
 ·cases h
theorem run_sizeOf {t:TypeId} {n:Nat} (h:sizeL P t = some n) (w:World) : (sizeOf t).run P w = .ok n w:=by
 simp only [sizeL,Option.map_eq_some_iff] at h
 obtain ⟨i,hi,rfl⟩:=h
 simp [sizeOf,typeInfo,hi]
theorem run_zero {ν : Env} {t:TypeId} {z:List LV} (h:zeroL P t = some z) : ∃ v,(∀ w,(zeroValue t).run P w = .ok v w) ∧ VRs ν z v.cells.toList ∧ z.all LV.isOne = true:=by
 unfold zeroL at h
 split at h
 ·rename_i i hi
  split at h
  ·rename_i v hz
   exact ⟨v,fun w=>by simp [zeroValue,typeInfo,hi,hz],lvsOf_ok h,lvsOf_one h⟩
  ·cases h
 ·cases h
theorem part_ok {ν : Env} {t:TypeId} {cs:List LV} {off:Nat} {l:LV} {us:List Value} (h:partL P t cs off = some l) (hv:VRs ν cs us) (w:World) : ∃ v,(part t us.toArray off).run P w = .ok v w ∧ VR ν l v:=by
 unfold partL at h
 split at h
 ·rename_i n ha hs
  simp only at h
  split at h
  ·rename_i hl
   cases h
   refine ⟨.agg ((us.drop off).take n).toArray,?_,?_⟩
   ·simp only [part,Sem.run_bind,run_isAgg ha,Result.andThen_ok,if_true,run_sizeOf hs,Sem.run_pure]
    congr 2
    apply Array.ext'
    simp [List.extract_eq_drop_take']
    try rw [List.drop_take]
    try congr 1
    try omega
   ·simp only [VR]
    exact ⟨_,rfl,(hv.drop off).take n⟩
  ·cases h
 ·rename_i n ha hs
  obtain ⟨y,hy,hvy⟩:=hv.get off l h
  refine ⟨y,?_,hvy⟩
  simp [part,run_isAgg ha,hy]
 ·cases h
theorem loadVar_ok {ν : Env} {t:TypeId} {b:Loc} {k:Blk} {off:Nat} {l:LV} {w:World} (h:partL P t k.cells off = some l) (hb:BlkR ν b k w.heap[b.addr]?) : ∃ v,(loadVar t ⟨b.addr,b.base + off,none⟩).run P w = .ok v w ∧ VR ν l v:=by
 unfold partL at h
 split at h
 ·rename_i n ha hs
  simp only at h
  split at h
  ·rename_i hl
   cases h
   obtain ⟨us,h1,h2,h3⟩:=hb.stretch off n hl
   refine ⟨.agg us.toArray,?_,by simp only [VR]; exact ⟨_,rfl,h2⟩⟩
   have:=run_loadCells_list (P:=P) w ⟨b.addr,b.base + off,none⟩ us (fun j v hj=>by rw [add_off]; exact h3 j v hj)
   simp only [loadVar,Sem.run_bind,run_isAgg ha,Result.andThen_ok,if_true,run_sizeOf hs,← h1,this,Sem.run_pure]
  ·cases h
 ·rename_i n ha hs
  obtain ⟨y,hy,hvy,_⟩:=hb.cell off l h
  exact ⟨y,by simp [loadVar,run_isAgg ha,hy],hvy⟩
 ·cases h
end
/-! ### the shapes -/
section
variable {nB B:Nat} {w0:World} {ν : Env} {H:Hp} {nx:Nat} {w:World}
theorem post_val {v:LV} {v':Value} {foot:Option (List Nat)} (hv:VR ν v v') (hb:Below B w0 w) : OpPost nB B w0 ν ν H nx ⟨v,[],nx,foot⟩ w w v' where
 ext:=fun _ _=>rfl
 val:=hv
 blk:=fun i k h=>by simp [dget] at h
 frame:=fun _ _ _=>rfl
 fresh:=fun i k l _ h=>by simp [dget] at h
 inj:=fun i j ki kj li lj _ _ h=>by simp [dget] at h
 old:=fun i _ h=>by simp [dget] at h
 new:=fun i _ h=>by simp [dget] at h
 below:=hb
 size:=Nat.le_refl _
def envNew (ν : Env) (nx:Nat) (l:Loc) : Env:=fun i=>if i = nx then some l else ν i
theorem envNew_ext {l:Loc} (h:ν nx = none) : Ext ν (envNew ν nx l):=fun i m hi=>by
 unfold envNew
 split
 ·rename_i e; subst e; rw [h] at hi; cases hi
 ·exact hi
theorem envNew_self (l:Loc) : envNew ν nx l nx = some l:=by simp [envNew]
theorem post_new {t:TypeId} {ex mk:Bool} {cs:List LV} {v:LV} {foot:Option (List Nat)} {w':World} {c:Array Value} {fr:Nat × Nat} {v':Value}
  (hν : ν nx = none) (hh:w'.heap = w.heap.push (.cells c t fr)) (hfr:fr.1 = fr.2 ∨ c.size ≤ fr.1) (hmk:mk = false → fr = (0,0)) (hex:ex = true → cs.length = c.size)
  (hcs:∃ vs rest,c.toList = vs ++ rest ∧ VRs ν cs vs) (h1:cs.all LV.isOne = true) (hb:Below B w0 w') (hv:VR (envNew ν nx ⟨w.heap.size,c.size,0⟩) v v') :
  OpPost nB B w0 ν (envNew ν nx ⟨w.heap.size,c.size,0⟩) H nx ⟨v,[(nx,some ⟨t,ex,mk,cs⟩)],nx + 1,foot⟩ w w' v' where
 ext:=fun i hi=>by unfold envNew; rw [if_neg (by simp at hi; omega)]
 val:=hv
 blk:=fun i k h=>by
  simp only [dget] at h
  split at h
  ·rename_i e; subst e
   cases h
   refine ⟨_,envNew_self _,c,fr,?_,(Nat.zero_add _).symm,fun he=>⟨hex he,rfl⟩,?_,h1,hfr,hmk⟩
   ·simp [hh]
   ·obtain ⟨vs,rest,h2,h3⟩:=hcs
    exact ⟨[],vs,rest,h2,rfl,VRs.ext (envNew_ext hν) _ _ h3⟩
  ·cases h
 frame:=fun a ha _=>by rw [hh,Array.getElem?_push,if_neg (by omega)]
 fresh:=fun i k l hi h hl=>by
  simp only [dget] at h
  split at h
  ·rename_i e; subst e
   rw [envNew_self] at hl; cases hl
   exact .inl (Nat.le_refl _)
  ·cases h
 inj:=fun i j ki kj li lj _ _ hi hj _ _ _=>by
  simp only [dget] at hi hj
  split at hi
  ·rename_i e1
   split at hj
   ·rename_i e2; rw [e1,e2]
   ·cases hj
  ·cases hi
 old:=fun i hi h=>by
  simp only [dget] at h
  split at h
  ·rename_i e; omega
  ·cases h
 new:=fun i hi h=>by
  simp only [dget] at h
  split at h
  ·rename_i e; simp; omega
  ·cases h
 below:=hb
 size:=by rw [hh]; simp
theorem post_set {b:Nat} {l:Loc} {k:Blk} {c':Array Value} {fr':Nat × Nat} {cs:List LV} {mk:Bool} {v:LV} {foot:Option (List Nat)} {w':World} {v':Value}
  (hbn:b < nx) (hnB:nB ≤ b) (hH:H.get b = some k) (hν : ν b = some l) (hh:w'.heap[l.addr]? = some (.cells c' k.elem fr')) (ho:∀ a,a ≠ l.addr → w'.heap[a]? = w.heap[a]?) (hsz:w'.heap.size = w.heap.size)
  (hc':c'.size = l.base + l.sz) (hfr:fr'.1 = fr'.2 ∨ c'.size ≤ fr'.1) (hmk:mk = false → fr' = (0,0)) (hex:k.exact = true → cs.length = l.sz ∧ l.base = 0) (hcs:∃ pre vs rest,c'.toList = pre ++ (vs ++ rest) ∧ pre.length = l.base ∧ VRs ν cs vs) (h1:cs.all LV.isOne = true) (hb:Below B w0 w') (hv:VR ν v v') :
  OpPost nB B w0 ν ν H nx ⟨v,[(b,some ⟨k.elem,k.exact,mk,cs⟩)],nx,foot⟩ w w' v' where
 ext:=fun _ _=>rfl
 val:=hv
 blk:=fun i k' h=>by
  simp only [dget] at h
  split at h
  ·rename_i e; subst e
   cases h
   exact ⟨l,hν,c',fr',hh,hc',hex,hcs,h1,hfr,hmk⟩
  ·cases h
 frame:=fun a ha h=>ho a (fun e=>h b l hbn (by simp [dget]) hν e.symm)
 fresh:=fun i k l hi h hl=>by
  simp only [dget] at h
  split at h
  ·rename_i e; omega
  ·cases h
 inj:=fun i j ki kj li lj hi _ h _ _ _ _=>by
  simp only [dget] at h
  split at h
  ·rename_i e; omega
  ·cases h
 old:=fun i hi h=>by
  simp only [dget] at h
  split at h
  ·rename_i e; subst e; exact ⟨hnB,by simp [hH]⟩
  ·cases h
 new:=fun i hi h=>by
  simp only [dget] at h
  split at h
  ·rename_i e; omega
  ·cases h
 below:=hb
 size:=by omega
end
end Go.Proofs.YtjpfhhndjpdmoaaGreatDoor

namespace Go.Proofs.YtjpfhhndjpdmoaaGreatDoor
open Go.RowKit
set_option linter.unusedVariables false
set_option linter.unusedSimpArgs false

section
variable {P:Program} {nB B:Nat} {w0:World} {ν : Env} {T:Tr LV} {H:Hp} {nx:Nat} {w:World} {out:Out}
def Gives (P:Program) (nB B:Nat) (w0:World) (ν : Env) (H:Hp) (nx:Nat) (out:Out) (w:World) (m:Sem Value) : Prop :=
 ∃ v' w' ν',OpPost nB B w0 ν ν' H nx out w w' v' ∧ m.run P w = .ok v' w'
theorem gives_val {v:LV} {v':Value} {foot:Option (List Nat)} {m:Sem Value} (hm:m.run P w = .ok v' w) (hv:VR ν v v') (hb:Below B w0 w) : Gives P nB B w0 ν H nx ⟨v,[],nx,foot⟩ w m :=
 ⟨v',w,ν,post_val hv hb,hm⟩
theorem pureL_ok {m:Sem Value} (h:pureL P nx m = some out) (hb:Below B w0 w) : Gives P nB B w0 ν H nx out w m:=by
 unfold pureL at h
 split at h
 ·rename_i y hy
  split at h
  ·rename_i l hl
   cases h
   exact gives_val (pureRun_ok _ _ hy w) (lvOf_ok hl) hb
  ·cases h
 ·cases h
theorem opds_ok {a:Act} : ∀ {xs:List Operand} {ls:List LV},(∀ x ∈ xs,∀ l,opd P T x = some l → VR ν l (a.eval x)) → opds P T xs = some ls → VRs ν ls (xs.map a.eval)
 | [],ls,_,h=>by simp [opds] at h; subst h; exact VRs.nil_iff.2 rfl
 | x :: xs,ls,hT,h=>by
  simp only [opds] at h
  split at h
  ·rename_i l hl
   simp only [Option.map_eq_some_iff] at h
   obtain ⟨ls',h1,rfl⟩:=h
   exact VRs.cons_iff.2 ⟨_,_,rfl,hT x (by simp) l hl,opds_ok (fun y hy=>hT y (by simp [hy])) h1⟩
  ·cases h
theorem parts_ok {a:Act} : ∀ {xs:List (Nat × Operand)} {ls:List (Nat × LV)},(∀ x ∈ xs,∀ l,opd P T x.2 = some l → VR ν l (a.eval x.2)) → partsL P T xs = some ls →
  ls.length = xs.length ∧ ∀ (i n:Nat) (l:LV),ls[i]? = some (n,l) → ∃ x,xs[i]? = some (n,x) ∧ VR ν l (a.eval x)
 | [],ls,_,h=>by simp [partsL] at h; subst h; simp
 | (n,x) :: xs,ls,hT,h=>by
  simp only [partsL] at h
  split at h
  ·rename_i l hl
   simp only [Option.map_eq_some_iff] at h
   obtain ⟨ls',h1,rfl⟩:=h
   obtain ⟨h2,h3⟩:=parts_ok (fun y hy=>hT y (by simp [hy])) h1
   refine ⟨by simp [h2],fun i m k hk=>?_⟩
   cases i with
   | zero=>simp at hk; obtain ⟨rfl,rfl⟩:=hk; exact ⟨x,rfl,hT (n,x) (by simp) _ hl⟩
   | succ i=>simpa using h3 i m k (by simpa using hk)
  ·cases h
theorem foldl_put : ∀ (vs:List Value) (off k:Nat) (cs:Array Value),off + k + vs.length ≤ cs.size →
  ((vs.zipIdx k).foldl (fun cs (c,j)=>cs.setIfInBounds (off + j) c) cs) = (cs.toList.take (off + k) ++ vs ++ cs.toList.drop (off + k + vs.length)).toArray
 | [],off,k,cs,h=>by simp
 | v :: vs,off,k,cs,h=>by
  simp only [List.zipIdx_cons,List.foldl_cons]
  rw [foldl_put vs off (k + 1) _ (by simp at h ⊢; omega)]
  have e:=list_seg_step cs.toList (off + k) v vs (by simp at h ⊢; omega)
  simpa [Array.toList_setIfInBounds,Nat.add_assoc] using e
theorem fill_ok {place:Nat → Option (Nat × Nat)} : ∀ {ps:List (Nat × LV)} {qs:List (Nat × Value)} {cs r:List LV} {us:List Value},ps.length = qs.length →
  (∀ (i n:Nat) (l:LV),ps[i]? = some (n,l) → ∃ y,qs[i]? = some (n,y) ∧ VR ν l y) → VRs ν cs us → fillL place cs ps = some r → ∃ ws,Instr.fill place us.toArray qs = some ws.toArray ∧ VRs ν r ws
 | [],qs,cs,r,us,hl,_,hv,h=>by
  have : qs = []:=List.eq_nil_of_length_eq_zero (by simpa using hl.symm)
  subst this
  simp [fillL] at h; subst h
  exact ⟨us,rfl,hv⟩
 | (i,l) :: ps,qs,cs,r,us,hl,hp,hv,h=>by
  obtain ⟨y,hy,hvy⟩:=hp 0 i l rfl
  cases qs with
  | nil=>simp at hy
  | cons q qs =>
   simp at hy; subst hy
   simp only [fillL] at h
   split at h
   ·cases h
   ·rename_i off size hpl
    split at h
    ·rename_i hc
     have hnt : ∀ ts,l ≠ .tup ts:=fun ts e=>by subst e; simp [LV.cells,LV.isOne] at hc
     have hcy:=hvy.cells hnt
     have hsz : y.cells.size = size:=by have:=hcy.length; simp at this; omega
     have hus:=hv.length
     have hcl:=hcy.length
     simp at hcl
     obtain ⟨ws,h2,h3⟩:=fill_ok (ps:=ps) (qs:=qs) (us:=us.take off ++ y.cells.toList ++ us.drop (off + y.cells.toList.length)) (by simpa using hl) (fun j n k hk=>by simpa using hp (j + 1) n k (by simpa using hk)) (hv.put hcy (by omega)) h
     refine ⟨ws,?_,h3⟩
     simp only [Instr.fill,hpl]
     rw [if_neg (by simp [hsz]; omega)]
     have hz : y.cells.zipIdx.foldl (fun cs (c,j)=>cs.setIfInBounds (off + j) c) us.toArray = (us.take off ++ y.cells.toList ++ us.drop (off + y.cells.toList.length)).toArray:=by
      rw [← Array.foldl_toList]
      have:=foldl_put y.cells.toList off 0 us.toArray (by simp; omega)
      simpa using this
     rw [hz]
     exact h2
    ·cases h

theorem new1_inv {t:TypeId} {ex mk:Bool} {cs:List LV} {v:LV} {foot:List Nat} (h:new1 nx t ex mk cs v foot = some out) : cs.all LV.isOne = true ∧ out = ⟨v,[(nx,some ⟨t,ex,mk,cs⟩)],nx + 1,some foot⟩:=by
 unfold new1 at h
 split at h
 ·rename_i h1; cases h; exact ⟨h1,rfl⟩
 ·cases h
theorem below_alloc (hb:Below B w0 w) (hB:B ≤ w0.heap.size) (o:Obj) : Below B w0 (w.alloc o):=hb.alloc (by have:=hb.size; omega) o
theorem gives_new {t:TypeId} {mk:Bool} {cs:List LV} {v:LV} {foot:Option (List Nat)} {m:Sem Value} {c:Array Value} {v':Value} (hν : ν nx = none) (hm:m.run P w = .ok v' (w.alloc (.cells c t))) (hcs:VRs ν cs c.toList) (h1:cs.all LV.isOne = true)
  (hb:Below B w0 w) (hB:B ≤ w0.heap.size) (hv:VR (envNew ν nx ⟨w.heap.size,c.size,0⟩) v v') : Gives P nB B w0 ν H nx ⟨v,[(nx,some ⟨t,true,mk,cs⟩)],nx + 1,foot⟩ w m :=
 ⟨v',_,_,post_new (fr:=(0,0)) hν rfl (.inl rfl) (fun _=>rfl) (fun _=>by have:=hcs.length; simp at this; omega) ⟨c.toList,[],by simp,hcs⟩ h1 (below_alloc hb hB _) hv,hm⟩
theorem op_alloc {t:TypeId} {z:List LV} (hz:zeroL P t = some z) (h:new1 nx t true false z (.ptr nx 0) [] = some out) (hν : ν nx = none) (hb:Below B w0 w) (hB:B ≤ w0.heap.size) :
  Gives P nB B w0 ν H nx out w (Instr.alloc t true (.tuple #[])):=by
 obtain ⟨h1,rfl⟩:=new1_inv h
 obtain ⟨v,hv,hvs,_⟩:=run_zero (ν:=ν) hz
 refine gives_new (v':=.pointer (some ⟨w.heap.size,0,none⟩)) (c:=v.cells) hν ?_ hvs h1 hb hB ?_
 ·simp [Instr.alloc,hv,newVar,newRow]
 ·simp [VR,envNew]
theorem op_box {t:TypeId} {x:LV} {y:Value} (hx:VR ν x y) (h:new1 nx t true false x.cells (.ptr nx 0) [] = some out) (hν : ν nx = none) (hb:Below B w0 w) (hB:B ≤ w0.heap.size) :
  Gives P nB B w0 ν H nx out w (Instr.box t y):=by
 obtain ⟨h1,rfl⟩:=new1_inv h
 refine gives_new (v':=.pointer (some ⟨w.heap.size,0,none⟩)) (c:=y.cells) hν ?_ (hx.cells fun ts e=>by subst e; simp [LV.cells,LV.isOne] at h1) h1 hb hB ?_
 ·simp [Instr.box,newVar,newRow]
 ·simp [VR,envNew]
theorem places_ok : ∀ {fs:List Field} {pl:List (Nat × Nat)},placesL P fs = some pl → ∀ w,(fs.mapM (m:=Sem) fun f=>do pure (f.offset,← sizeOf f.type)).run P w = .ok pl w
 | [],pl,h,w=>by simp [placesL] at h; subst h; simp
 | f :: fs,pl,h,w=>by
  simp only [placesL] at h
  split at h
  ·rename_i n hn
   simp only [Option.map_eq_some_iff] at h
   obtain ⟨pl',h1,rfl⟩:=h
   simp only [List.mapM_cons,Sem.run_bind,run_sizeOf hn,Result.andThen_ok,places_ok h1 w,Sem.run_pure]
  ·cases h
theorem op_buildS {t:TypeId} {parts:Array (Nat × Operand)} {z cs:List LV} {a:Act} {ps:List (Nat × LV)} {fs:Array Field} {pl:List (Nat × Nat)} {foot:Option (List Nat)} (hz:zeroL P t = some z) (hu:P.underlying t = some (.struct fs)) (hps:partsL P T parts.toList = some ps)
  (hT:∀ x ∈ parts.toList,∀ l,opd P T x.2 = some l → VR ν l (a.eval x.2)) (hb:Below B w0 w) (hpl:placesL P fs.toList = some pl) (hcs:fillL (fun i:Nat=>pl[i]?) z ps = some cs) :
  Gives P nB B w0 ν H nx ⟨.agg cs,[],nx,foot⟩ w (Instr.build t (parts.map fun (i,x)=>(i,a.eval x))):=by
 obtain ⟨v,hv,hvs,_⟩:=run_zero (ν:=ν) hz
 obtain ⟨hlen,hpp⟩:=parts_ok hT hps
 have hq1 : ps.length = (parts.map fun (i,x)=>(i,a.eval x)).toList.length:=by simp [hlen]
 have hq2 : ∀ (i n:Nat) (l:LV),ps[i]? = some (n,l) → ∃ y,(parts.map fun (i,x)=>(i,a.eval x)).toList[i]? = some (n,y) ∧ VR ν l y:=fun i n l hi=>by
  obtain ⟨x,hx,hvx⟩:=hpp i n l hi
  exact ⟨a.eval x,by simp [hx],hvx⟩
 obtain ⟨ws,h2,h3⟩:=fill_ok hq1 hq2 hvs hcs
 refine gives_val (v':=.agg ws.toArray) ?_ (by simp only [VR]; exact ⟨_,rfl,h3⟩) hb
 have hm : (fs.mapM (m:=Sem) fun f=>do pure (f.offset,← sizeOf f.type)).run P w = .ok pl.toArray w:=by
  rw [Array.mapM_eq_mapM_toList,Sem.run_map,places_ok hpl w]
  rfl
 generalize (parts.map fun (i,x)=>(i,a.eval x)) = qs at h2 hq1 hq2 ⊢
 simp only [Instr.build,Sem.run_bind,hv,Result.andThen_ok,run_underlying hu,hm]
 have he : (fun i:Nat=>pl.toArray[i]?) = fun i : Nat=>pl[i]?:=by funext i; simp
 rw [he]
 have h2' : Instr.fill (fun i:Nat=>pl[i]?) v.cells qs.toList = some ws.toArray:=by simpa using h2
 rw [h2']
 rfl
theorem op_buildA {t elem:TypeId} {k n:Nat} {parts:Array (Nat × Operand)} {z cs:List LV} {a:Act} {ps:List (Nat × LV)} {foot:Option (List Nat)} (hz:zeroL P t = some z) (hu:P.underlying t = some (.array k elem)) (hps:partsL P T parts.toList = some ps)
  (hT:∀ x ∈ parts.toList,∀ l,opd P T x.2 = some l → VR ν l (a.eval x.2)) (hb:Below B w0 w) (hn:sizeL P elem = some n) (hcs:fillL (fun i=>some (i * n,n)) z ps = some cs) :
  Gives P nB B w0 ν H nx ⟨.agg cs,[],nx,foot⟩ w (Instr.build t (parts.map fun (i,x)=>(i,a.eval x))):=by
 obtain ⟨v,hv,hvs,_⟩:=run_zero (ν:=ν) hz
 obtain ⟨hlen,hpp⟩:=parts_ok hT hps
 have hq1 : ps.length = (parts.map fun (i,x)=>(i,a.eval x)).toList.length:=by simp [hlen]
 have hq2 : ∀ (i n:Nat) (l:LV),ps[i]? = some (n,l) → ∃ y,(parts.map fun (i,x)=>(i,a.eval x)).toList[i]? = some (n,y) ∧ VR ν l y:=fun i n l hi=>by
  obtain ⟨x,hx,hvx⟩:=hpp i n l hi
  exact ⟨a.eval x,by simp [hx],hvx⟩
 obtain ⟨ws,h2,h3⟩:=fill_ok hq1 hq2 hvs hcs
 refine gives_val (v':=.agg ws.toArray) ?_ (by simp only [VR]; exact ⟨_,rfl,h3⟩) hb
 generalize (parts.map fun (i,x)=>(i,a.eval x)) = qs at h2 hq1 hq2 ⊢
 simp only [Instr.build,Sem.run_bind,hv,Result.andThen_ok,run_underlying hu,run_sizeOf hn]
 have h2' : Instr.fill (fun i=>some (i * n,n)) v.cells qs.toList = some ws.toArray:=by simpa using h2
 rw [h2']
 rfl
theorem repL_ok {z:List LV} {vs:List Value} (h:VRs ν z vs) : ∀ n,VRs ν (repL z n) ((List.replicate n vs).flatten)
 | 0=>VRs.nil_iff.2 rfl
 | n + 1=>by rw [List.replicate_succ,List.flatten_cons]; exact h.append (repL_ok h n)
theorem range_rep (z:Array Value) (n:Nat) : ∀ m,m = n * z.size → ((Array.range m).map (z[· % z.size]!)) = ((List.replicate n z.toList).flatten).toArray:=by
 intro m hm
 subst hm
 apply Array.ext
 ·simp
 ·intro i h1 h2
  simp only [Array.size_map,Array.size_range] at h1
  have hz : 0 < z.size:=by rcases Nat.eq_zero_or_pos z.size with h | h; · rw [h] at h1; omega
                           ·exact h
  have hi : i % z.size < z.size:=Nat.mod_lt _ hz
  simp only [Array.getElem_map,Array.getElem_range,List.getElem_toArray]
  have key : ∀ (n i:Nat) (h:i < n * z.size),((List.replicate n z.toList).flatten)[i]? = some (z[i % z.size]'(Nat.mod_lt _ hz)):=by
   intro n
   induction n with
   | zero=>intro i h; omega
   | succ n ih =>
    intro i h
    rw [List.replicate_succ,List.flatten_cons]
    by_cases hiz : i < z.size
    ·rw [List.getElem?_append_left (by simpa using hiz)]
     simp [Nat.mod_eq_of_lt hiz,hiz]
    ·rw [List.getElem?_append_right (by simpa using hiz)]
     have:=ih (i - z.size) (by rw [Nat.succ_mul] at h; omega)
     simp only [Array.length_toList]
     rw [this]
     congr 2
     exact (Nat.mod_eq_sub_mod (by omega)).symm
  have hk:=key n i h1
  rw [List.getElem?_eq_getElem (by simpa using h2)] at hk
  rw [Option.some.inj hk]
  rw [getElem!_pos z _ hi]
theorem op_buildSlice {t elem:TypeId} {len n:Nat} {parts:Array (Nat × Operand)} {z cs:List LV} {a:Act} {ps:List (Nat × LV)} (hz:zeroL P elem = some z) (hn:sizeL P elem = some n) (hzn:z.length = n) (hu:P.underlying t = some (.slice elem)) (hps:partsL P T parts.toList = some ps)
  (hT:∀ x ∈ parts.toList,∀ l,opd P T x.2 = some l → VR ν l (a.eval x.2)) (hb:Below B w0 w) (hB:B ≤ w0.heap.size) (hν : ν nx = none) (hle:len * n ≤ 2 ^ 20) (h0:0 < n)
  (hcs:fillL (fun i=>some (i * n,n)) (repL z len) ps = some cs) (h:new1 nx elem true false cs (.slice nx 0 len len) [] = some out) :
  Gives P nB B w0 ν H nx out w (Instr.buildSlice t len (parts.map fun (i,x)=>(i,a.eval x))):=by
 obtain ⟨h1,rfl⟩:=new1_inv h
 obtain ⟨v,hv,hvs,_⟩:=run_zero (ν:=ν) hz
 obtain ⟨hlen,hpp⟩:=parts_ok hT hps
 have hq1 : ps.length = (parts.map fun (i,x)=>(i,a.eval x)).toList.length:=by simp [hlen]
 have hq2 : ∀ (i n:Nat) (l:LV),ps[i]? = some (n,l) → ∃ y,(parts.map fun (i,x)=>(i,a.eval x)).toList[i]? = some (n,y) ∧ VR ν l y:=fun i n l hi=>by
  obtain ⟨x,hx,hvx⟩:=hpp i n l hi
  exact ⟨a.eval x,by simp [hx],hvx⟩
 obtain ⟨ws,h2,h3⟩:=fill_ok hq1 hq2 (repL_ok hvs len) hcs
 have hvz : v.cells.size = n:=by have:=hvs.length; simp at this; omega
 refine gives_new (v':=.slice (some ⟨w.heap.size,0,none⟩) len len) (c:=ws.toArray) hν ?_ (by simpa using h3) h1 hb hB (by simp [VR,envNew])
 generalize (parts.map fun (i,x)=>(i,a.eval x)) = qs at h2 hq1 hq2 ⊢
 simp only [Instr.buildSlice,Sem.run_bind,run_underlying hu,Result.andThen_ok,run_sizeOf hn]
 rw [if_neg (by omega)]
 by_cases hl0 : len * n = 0
 ·have hl : len = 0:=by rcases Nat.mul_eq_zero.1 hl0 with h | h <;> omega
  subst hl
  have h2' : Instr.fill (fun i=>some (i * n,n)) #[] qs.toList = some ws.toArray:=by simpa using h2
  simp [newRow,h2',show Array.range 0 = #[] from rfl]
 ·rw [if_neg hl0]
  simp only [Sem.run_bind,hv,Result.andThen_ok,Sem.run_pure]
  rw [range_rep v.cells len (len * n) (by rw [hvz]),h2]
  simp [newRow]
theorem op_load {t:TypeId} {b off:Nat} {k:Blk} {l:LV} {foot:Option (List Nat)} {y:Value} (hx:VR ν (.ptr b off) y) (hk:H.get b = some k) (hl:partL P t k.cells off = some l) (hH:HRF ν H foot w) (hf:footHas foot b) (hb:Below B w0 w) :
  Gives P nB B w0 ν H nx ⟨l,[],nx,foot⟩ w (Instr.loadAt t y):=by
 obtain ⟨lc,h1,h2⟩:=hH b k hf hk
 simp only [VR] at hx
 obtain ⟨l',h3,rfl⟩:=hx
 rw [h1] at h3; cases h3
 obtain ⟨v,hv,hvv⟩:=loadVar_ok hl h2
 exact gives_val (v':=v) (by simp [Instr.loadAt,Instr.sureAddr,hv]) hvv hb
theorem below_setRow (hb:Below B w0 w) {g:Nat} (hg:B ≤ g) (c:Array Value) : Below B w0 (w.setRow g c) :=
 hb.trans ⟨rfl,rfl,rfl,by simp,fun k hk=>setRow_other w g k c (by omega)⟩
theorem store_ok {b off:Nat} {k:Blk} {l:List LV} {us:List Value} {lc:Loc} {foot:Option (List Nat)} {v:LV} {v':Value} (hbn:b < nx) (hnB:nB ≤ b) (hk:H.get b = some k) (hν : ν b = some lc) (hblk:BlkR ν lc k w.heap[lc.addr]?) (hlow:B ≤ lc.addr) (hus:VRs ν l us) (h1:l.all LV.isOne = true) (hfit:off + l.length ≤ k.cells.length) (hb:Below B w0 w) (hv:VR ν v v') :
  ∃ w',(storeCells ⟨lc.addr,lc.base + off,none⟩ us).run P w = .ok () w' ∧ OpPost nB B w0 ν ν H nx ⟨v,[(b,some ⟨k.elem,k.exact,k.mrk,putL k.cells off l⟩)],nx,foot⟩ w w' v':=by
 obtain ⟨c,fr,h2,h3,h4,⟨pre,vs,rest,h5,h0,h6⟩,h7,h8,h9⟩:=hblk
 have hul:=hus.length
 have hvl:=h6.length
 have hcl : c.size = pre.length + (vs.length + rest.length):=by have:=congrArg List.length h5; simpa using this
 have hr:=run_storeCells_ok (P:=P) lc.addr (lc.base + off) k.elem fr us 0 c w h2 (frz h8) (by omega) (hus.one h1)
 simp only [Nat.add_zero] at hr
 have hc' : (c.toList.take (lc.base + off) ++ us ++ c.toList.drop (lc.base + off + us.length)) = pre ++ ((vs.take off ++ us ++ vs.drop (off + us.length)) ++ rest):=by
  rw [h5,← h0,Nat.add_assoc,List.take_append,List.drop_append,List.take_of_length_le (Nat.le_add_right _ _),List.drop_of_length_le (Nat.le_add_right _ _),Nat.add_sub_cancel_left,Nat.add_sub_cancel_left,List.take_append_of_le_length (by omega),List.drop_append_of_le_length (by omega)]
  simp
 rw [hc'] at hr
 refine ⟨_,hr,post_set hbn hnB hk hν (setRow_heap w lc.addr c _ k.elem fr h2) (fun a ha=>setRow_other w _ _ _ ha) (by simp) ?_ ?_ h9 ?_ ⟨pre,_,rest,rfl,h0,h6.put hus hfit⟩ ?_ (below_setRow hb hlow _) hv⟩
 ·simp; omega
 ·exact h8.imp id (fun h=>by simp; omega)
 ·intro he; rw [putL_len _ _ _ hfit]; exact h4 he
 ·rw [putL_eq _ _ _ hfit]
  simp only [List.all_append,Bool.and_eq_true]
  refine ⟨⟨?_,h1⟩,?_⟩
  ·exact List.all_eq_true.2 fun x hx=>List.all_eq_true.1 h7 x (List.mem_of_mem_take hx)
  ·exact List.all_eq_true.2 fun x hx=>List.all_eq_true.1 h7 x (List.mem_of_mem_drop hx)
theorem op_store {t:TypeId} {b off n:Nat} {k:Blk} {x:LV} {y z:Value} {foot:Option (List Nat)} (hy:VR ν (.ptr b off) y) (hx:VR ν x z) (hn:sizeL P t = some n) (hnB:nB ≤ b) (hk:H.get b = some k) (hln:x.cells.length = n) (hfit:off + n ≤ k.cells.length) (h1:x.cells.all LV.isOne = true)
  (hH:HRF ν H foot w) (hlow:LowF nB B ν H foot) (hf:footHas foot b) (hid:b < nx) (hb:Below B w0 w) :
  ∃ w',(Instr.storeAt t y z).run P w = .ok () w' ∧ OpPost nB B w0 ν ν H nx ⟨.tup [],[(b,some ⟨k.elem,k.exact,k.mrk,putL k.cells off x.cells⟩)],nx,foot⟩ w w' undef:=by
 obtain ⟨lc,h2,h3⟩:=hH b k hf hk
 simp only [VR] at hy
 obtain ⟨l',h4,rfl⟩:=hy
 rw [h2] at h4; cases h4
 have hc:=hx.cells (fun ts e=>by subst e; simp [LV.cells,LV.isOne] at h1)
 obtain ⟨w',h5,h6⟩:=store_ok (P:=P) (off:=off) (v:=.tup []) (v':=undef) (foot:=foot) hid hnB hk h2 h3 (hlow b k lc hf hnB hk h2) hc h1 (by omega) hb (by simp [VR,VRs,undef])
 refine ⟨w',?_,h6⟩
 have hz : z.cells.size = n:=by have:=hc.length; simp at this; omega
 simp [Instr.storeAt,Instr.sureAddr,storeVar,run_sizeOf hn,hz,h5]
end
end Go.Proofs.YtjpfhhndjpdmoaaGreatDoor

namespace Go.Proofs.YtjpfhhndjpdmoaaGreatDoor
open Go.RowKit
set_option linter.unusedVariables false
set_option linter.unusedSimpArgs false

section
variable {P:Program} {nB B:Nat} {w0:World} {ν : Env} {T:Tr LV} {H:Hp} {nx:Nat} {w:World} {out:Out}
theorem intL_ok {x:LV} {y:Value} {n:Int} (h:intL x = some n) (hv:VR ν x y) : ∃ k,y = .int k n:=by
 unfold intL at h
 split at h
 ·rename_i k m
  cases h
  simp only [VR] at hv
  exact ⟨k,hv.1⟩
 ·cases h
theorem natL_ok {x:LV} {y:Value} {n:Nat} (h:natL x = some n) (hv:VR ν x y) : ∃ k,y = .int k (n:Int):=by
 unfold natL at h
 split at h
 ·rename_i m hm
  cases h
  exact intL_ok hm hv
 ·cases h
theorem op_fieldAddr {s f:Nat} {fs:Array Field} {b off n:Nat} {fd:Field} {y:Value} {foot:Option (List Nat)} (hu:P.underlying s = some (.struct fs)) (hx:VR ν (.ptr b off) y) (hf:fs[f]? = some fd) (hn:sizeL P fd.type = some (n + 1)) (hb:Below B w0 w) :
  Gives P nB B w0 ν H nx ⟨.ptr b (off + fd.offset),[],nx,foot⟩ w (Instr.fieldAt s y f):=by
 simp only [VR] at hx
 obtain ⟨l,h1,rfl⟩:=hx
 refine gives_val (v':=.pointer (some ⟨l.addr,l.base + off + fd.offset,none⟩)) ?_ (by simp only [VR]; exact ⟨l,h1,by rw [Nat.add_assoc]⟩) hb
 simp [Instr.fieldAt,run_underlying hu,hf,Instr.sureAddr,fieldPlace,run_sizeOf hn,add_off]
theorem op_field {s f:Nat} {fs:Array Field} {cs:List LV} {fd:Field} {y:Value} {l:LV} {foot:Option (List Nat)} (hu:P.underlying s = some (.struct fs)) (hx:VR ν (.agg cs) y) (hf:fs[f]? = some fd) (hl:partL P fd.type cs fd.offset = some l) (hb:Below B w0 w) :
  Gives P nB B w0 ν H nx ⟨l,[],nx,foot⟩ w (Instr.field s y f):=by
 simp only [VR] at hx
 obtain ⟨us,rfl,hus⟩:=hx
 obtain ⟨v,hv,hvv⟩:=part_ok hl hus w
 exact gives_val (v':=v) (by simp [Instr.field,run_underlying hu,hf,asAgg,hv]) hvv hb
theorem op_indexA {t elem:TypeId} {n i e b off:Nat} {x z:Value} {y:LV} {foot:Option (List Nat)} (hu:P.underlying t = some (.array n elem)) (hx:VR ν (.ptr b off) x) (hy:VR ν y z) (hi:natL y = some i) (he:sizeL P elem = some e) (hlt:i < n) (hb:Below B w0 w) :
  Gives P nB B w0 ν H nx ⟨.ptr b (off + i * e),[],nx,foot⟩ w (Instr.indexAt t x z):=by
 simp only [VR] at hx
 obtain ⟨l,h1,rfl⟩:=hx
 obtain ⟨k,rfl⟩:=natL_ok hi hy
 refine gives_val (v':=.pointer (some ⟨l.addr,l.base + off + i * e,none⟩)) ?_ (by simp only [VR]; exact ⟨l,h1,by rw [Nat.add_assoc]⟩) hb
 simp [Instr.indexAt,asIntOf,run_underlying hu,Instr.sureAddr,run_sizeOf he,add_off,hlt]
theorem op_indexS {t elem:TypeId} {n c i e b off:Nat} {l:Loc} {z:Value} {y:LV} {foot:Option (List Nat)} (hu:P.underlying t = some (.slice elem)) (hν : ν b = some l) (hy:VR ν y z) (hi:natL y = some i) (he:sizeL P elem = some e) (hlt:i < n) (hb:Below B w0 w) :
  Gives P nB B w0 ν H nx ⟨.ptr b (off + i * e),[],nx,foot⟩ w (Instr.indexAt t (.slice (some ⟨l.addr,l.base + off,none⟩) n c) z):=by
 obtain ⟨k,rfl⟩:=natL_ok hi hy
 refine gives_val (v':=.pointer (some ⟨l.addr,l.base + off + i * e,none⟩)) ?_ (by simp only [VR]; exact ⟨l,hν,by rw [Nat.add_assoc]⟩) hb
 simp [Instr.indexAt,asIntOf,run_underlying hu,run_sizeOf he,add_off,hlt]
theorem op_index {t elem:TypeId} {n i e:Nat} {cs:List LV} {x z:Value} {y l:LV} {foot:Option (List Nat)} (hu:P.underlying t = some (.array n elem)) (hx:VR ν (.agg cs) x) (hy:VR ν y z) (hi:natL y = some i) (he:sizeL P elem = some e) (hlt:i < n) (hl:partL P elem cs (i * e) = some l) (hb:Below B w0 w) :
  Gives P nB B w0 ν H nx ⟨l,[],nx,foot⟩ w (Instr.index t x z):=by
 simp only [VR] at hx
 obtain ⟨us,rfl,hus⟩:=hx
 obtain ⟨k,rfl⟩:=natL_ok hi hy
 obtain ⟨v,hv,hvv⟩:=part_ok hl hus w
 exact gives_val (v':=v) (by simp [Instr.index,asIntOf,run_underlying hu,run_sizeOf he,hlt,hv]) hvv hb
theorem op_extract {cs:List LV} {i:Nat} {x:Value} {l:LV} {foot:Option (List Nat)} (hx:VR ν (.tup cs) x) (hl:cs[i]? = some l) (hb:Below B w0 w) : Gives P nB B w0 ν H nx ⟨l,[],nx,foot⟩ w (Instr.extract x i):=by
 simp only [VR] at hx
 obtain ⟨us,rfl,hus⟩:=hx
 obtain ⟨v,hv,hvv⟩:=hus.get i l hl
 exact gives_val (v':=v) (by simp [Instr.extract,hv]) hvv hb
theorem op_s2a {t elem:TypeId} {n len c b off:Nat} {l:Loc} {foot:Option (List Nat)} (hu:P.underlying t = some (.array n elem)) (hν : ν b = some l) (hle:n ≤ len) (hb:Below B w0 w) :
  Gives P nB B w0 ν H nx ⟨.ptr b off,[],nx,foot⟩ w (Instr.arrayAt t (.slice (some ⟨l.addr,l.base + off,none⟩) len c)) :=
 gives_val (v':=.pointer (some ⟨l.addr,l.base + off,none⟩)) (by simp [Instr.arrayAt,run_underlying hu]; omega) (by simp only [VR]; exact ⟨l,hν,rfl⟩) hb
theorem op_makeFunc {f:Fn} {caps:Array Operand} {cs:List LV} {a:Act} {foot:Option (List Nat)} (h:VRs ν cs (caps.toList.map a.eval)) (hb:Below B w0 w) :
  Gives P nB B w0 ν H nx ⟨.fn f cs,[],nx,foot⟩ w (Instr.makeFunc f #[] (caps.map a.eval)) :=
 gives_val (v':=.func f #[] (caps.map a.eval)) rfl (by simp only [VR]; exact ⟨caps.toList.map a.eval,by congr 1; apply Array.ext'; simp,h⟩) hb
theorem wrap_nat (n:Nat) (h:n ≤ 2 ^ 62) : IntKind.i64.wrap (n:Int) = n:=by
 have hm : (n:Int) % (2 ^ IntKind.i64.bits : Int) = n:=Int.emod_eq_of_lt (by omega) (by show (n:Int) < 2 ^ 64; omega)
 unfold IntKind.wrap
 simp only [hm]
 rw [if_neg]
 show ¬ ((true && decide ((n:Int) ≥ 2 ^ 63)) = true)
 simp only [Bool.true_and,decide_eq_true_eq]
 omega
theorem flat_nil : ∀ c,(List.replicate c ([] : List Value)).flatten = []
 | 0=>rfl
 | c + 1=>by rw [List.replicate_succ,List.flatten_cons,flat_nil c]; rfl
theorem op_makeSlice {t elem:TypeId} {l c n:Nat} {x y:LV} {x' y':Value} {z:List LV} {inf:TypeInfo} (hu:P.underlying t = some (.slice elem)) (hx:VR ν x x') (hy:VR ν y y') (hl:natL x = some l) (hc:natL y = some c) (hz:zeroL P elem = some z) (hn:sizeL P elem = some n) (hi:P.info? elem = some inf)
  (hzn:z.length = n) (hle:l ≤ c) (hc30:c ≤ 2 ^ 30) (h40:inf.bytes * c ≤ 2 ^ 40) (h:new1 nx elem true false (repL z c) (.slice nx 0 l c) [] = some out) (hν : ν nx = none) (hb:Below B w0 w) (hB:B ≤ w0.heap.size) :
  Gives P nB B w0 ν H nx out w (Instr.makeSlice t x' y'):=by
 obtain ⟨h1,rfl⟩:=new1_inv h
 obtain ⟨v,hv,hvs,_⟩:=run_zero (ν:=ν) hz
 obtain ⟨k1,rfl⟩:=natL_ok hl hx
 obtain ⟨k2,rfl⟩:=natL_ok hc hy
 have hvz : v.cells.size = n:=by have:=hvs.length; simp at this; rw [this,hzn]
 have hwl : IntKind.i64.wrap (l:Int) = l:=wrap_nat l (by omega)
 have hwc : IntKind.i64.wrap (c:Int) = c:=wrap_nat c (by omega)
 refine gives_new (v':=.slice (some ⟨w.heap.size,0,none⟩) l c) (c:=((List.replicate c v.cells.toList).flatten).toArray) hν ?_ (by simpa using repL_ok hvs c) h1 hb hB (by simp [VR,envNew])
 have hb2 : ¬ (inf.bytes : Int) * (c:Int) > 2 ^ 48:=by
  have : ((inf.bytes * c : Nat) : Int) ≤ ((2 ^ 40 : Nat) : Int):=Int.ofNat_le.2 h40
  rw [Int.natCast_mul] at this
  have e : ((2 ^ 40 : Nat) : Int) < 2 ^ 48:=by decide
  omega
 have hti : (typeInfo elem).run P w = .ok inf w:=by simp [typeInfo,hi]
 simp only [Instr.makeSlice,Sem.run_bind,run_underlying hu,Result.andThen_ok,asInt,asIntOf,Sem.run_pure,hti,hwl,hwc]
 have hcond : ¬ ((decide ((c:Int) < 0) || decide ((inf.bytes : Int) * (c:Int) > 2 ^ 48) || decide ((l:Int) < 0) || decide ((l:Int) > (c:Int))) = true):=by
  rw [Bool.or_eq_true,Bool.or_eq_true,Bool.or_eq_true]
  simp only [decide_eq_true_eq]
  omega
 rw [if_neg hcond]
 simp only [Sem.run_bind,run_askRoom,Result.andThen_ok,run_sizeOf hn]
 by_cases hc0 : (c:Int).toNat * n = 0
 ·rw [if_pos hc0]
  have hrl : (List.replicate c v.cells.toList).flatten = []:=by
   rcases Nat.mul_eq_zero.1 hc0 with h | h
   ·have : c = 0:=by omega
    subst this; rfl
   ·have : v.cells.toList = []:=by apply List.eq_nil_of_length_eq_zero; rw [Array.length_toList,hvz,h]
    rw [this]; exact flat_nil c
  have hc0' : c * n = 0:=by simpa using hc0
  simp [newRow,hc0',hrl,show Array.range 0 = #[] from rfl]
 ·rw [if_neg hc0]
  simp only [Sem.run_bind,hv,Result.andThen_ok,Sem.run_pure]
  rw [range_rep v.cells c _ (by rw [hvz]; rfl)]
  simp [newRow]
end
end Go.Proofs.YtjpfhhndjpdmoaaGreatDoor

namespace Go.Proofs.YtjpfhhndjpdmoaaGreatDoor
open Go.RowKit
set_option linter.unusedVariables false
set_option linter.unusedSimpArgs false

section
variable {P:Program} {nB B:Nat} {w0:World} {ν : Env} {T:Tr LV} {H:Hp} {nx:Nat} {w:World} {out:Out}
def OV (ν : Env) : Option LV → Option Value → Prop
 | none,none=>True
 | some x,some y=>VR ν x y
 | _,_=>False
theorem sliceBound_ok {x:LV} {y:Value} {n m:Nat} {c:BoundsCode} (h:natL x = some n) (hv:VR ν x y) (hle:n ≤ m) : (Instr.sliceBound y m c).run P w = .ok n w:=by
 obtain ⟨k,rfl⟩:=natL_ok h hv
 simp [Instr.sliceBound,asIntOf,hle]
theorem bounds_ok {isS:Bool} {len cap l h m:Nat} {lo hi mx:Option LV} {lo' hi' mx':Option Value} (o1:OV ν lo lo') (o2:OV ν hi hi') (o3:OV ν mx mx')
  (e1:optN 0 lo = some l) (e2:optN len hi = some h) (e3:optN cap mx = some m) (h1:l ≤ h) (h2:hi.isSome = true → h ≤ m) (h3:mx.isSome = true → m ≤ cap ∧ hi.isSome = true) :
  (Instr.sliceBounds isS len cap lo' hi' mx').run P w = .ok (l,h,m) w:=by
 cases mx with
 | none =>
  cases mx' with
  | some _=>exact o3.elim
  | none =>
   simp only [optN,Option.some.injEq] at e3
   subst e3
   cases hi with
   | none =>
    cases hi' with
    | some _=>exact o2.elim
    | none =>
     simp only [optN,Option.some.injEq] at e2
     subst e2
     cases lo with
     | none =>
      cases lo' with
      | some _=>exact o1.elim
      | none =>
       simp only [optN,Option.some.injEq] at e1
       subst e1
       simp [Instr.sliceBounds]
     | some lo =>
      cases lo' with
      | none=>exact o1.elim
      | some lo'=>simp [Instr.sliceBounds,sliceBound_ok (P:=P) (w:=w) e1 o1 h1]
   | some hi =>
    cases hi' with
    | none=>exact o2.elim
    | some hi' =>
     cases lo with
     | none =>
      cases lo' with
      | some _=>exact o1.elim
      | none =>
       simp only [optN,Option.some.injEq] at e1
       subst e1
       simp [Instr.sliceBounds,sliceBound_ok (P:=P) (w:=w) e2 o2 (h2 rfl)]
     | some lo =>
      cases lo' with
      | none=>exact o1.elim
      | some lo'=>simp [Instr.sliceBounds,sliceBound_ok (P:=P) (w:=w) e2 o2 (h2 rfl),sliceBound_ok (P:=P) (w:=w) e1 o1 h1]
 | some mx =>
  cases mx' with
  | none=>exact o3.elim
  | some mx' =>
   obtain ⟨h4,h5⟩:=h3 rfl
   cases hi with
   | none=>simp at h5
   | some hi =>
    cases hi' with
    | none=>exact o2.elim
    | some hi' =>
     cases lo with
     | none =>
      cases lo' with
      | some _=>exact o1.elim
      | none =>
       simp only [optN,Option.some.injEq] at e1
       subst e1
       simp [Instr.sliceBounds,sliceBound_ok (P:=P) (w:=w) e3 o3 h4,sliceBound_ok (P:=P) (w:=w) e2 o2 (h2 rfl)]
     | some lo =>
      cases lo' with
      | none=>exact o1.elim
      | some lo'=>simp [Instr.sliceBounds,sliceBound_ok (P:=P) (w:=w) e3 o3 h4,sliceBound_ok (P:=P) (w:=w) e2 o2 (h2 rfl),sliceBound_ok (P:=P) (w:=w) e1 o1 h1]
theorem optV_ok {o:Option LV} {o':Option Value} {r:Option Value} (h:optV o = some r) (hv:OV ν o o') : o' = r:=by
 cases o with
 | none=>cases o' with
  | none=>simp [optV] at h; exact h
  | some _=>exact hv.elim
 | some x=>cases o' with
  | none=>exact hv.elim
  | some y =>
   cases x <;> simp [optV] at h
   subst h
   simp only [OV,VR] at hv
   rw [hv.1]
theorem op_slice {t:TypeId} {x:LV} {y:Value} {lo hi mx:Option LV} {lo' hi' mx':Option Value} (h:sliceL P H nx t x lo hi mx = some out) (hx:VR ν x y) (o1:OV ν lo lo') (o2:OV ν hi hi') (o3:OV ν mx mx') (hH:HRF ν H out.foot w) (hb:Below B w0 w) :
  Gives P nB B w0 ν H nx out w (Instr.sliceAt t y lo' hi' mx'):=by
 cases x with
 | v x =>
  simp only [VR] at hx
  obtain ⟨rfl,_⟩:=hx
  simp only [sliceL] at h
  split at h
  ·rename_i a b c e1 e2 e3
   rw [optV_ok e1 o1,optV_ok e2 o2,optV_ok e3 o3]
   exact pureL_ok h hb
  ·cases h
 | ptr b off =>
  simp only [VR] at hx
  obtain ⟨lc,h1,rfl⟩:=hx
  simp only [sliceL] at h
  split at h
  ·rename_i n elem hu
   split at h
   ·rename_i e l hh he e1 e2
    split at h
    ·rename_i hc
     cases h
     cases mx' with
     | some _=>exact o3.elim
     | none =>
      have hbd:=bounds_ok (P:=P) (w:=w) (isS:=false) (cap:=n) o1 o2 (o3:OV ν none none) e1 e2 (show optN n none = some n from rfl) hc.1 (fun _=>hc.2) (fun h=>by cases h)
      refine gives_val (v':=.slice (some ⟨lc.addr,lc.base + (if n = l then off else off + l * (e + 1)),none⟩) (hh - l) (n - l)) ?_ (by simp only [VR]; exact ⟨lc,h1,rfl⟩) hb
      simp only [Instr.sliceAt,Sem.run_bind,run_underlying hu,Result.andThen_ok,Instr.sureAddr,Sem.run_pure,hbd,run_sizeOf he]
      by_cases hnl : n = l <;> simp [hnl,add_off,Nat.add_assoc]
    ·cases h
   ·cases h
  ·cases h
 | slice b off len c =>
  simp only [VR] at hx
  obtain ⟨lc,h1,rfl⟩:=hx
  simp only [sliceL] at h
  split at h
  ·rename_i elem hu
   split at h
   ·rename_i e l hh m he e1 e2 e3
    split at h
    ·rename_i hc
     cases h
     have h4 : mx.isSome = true → hi.isSome = true:=fun hm=>by
      rcases hc.2.2.2 with h' | h'
      ·cases mx <;> simp at hm h'
      ·exact h'
     have hbd:=bounds_ok (P:=P) (w:=w) (isS:=true) (cap:=c) o1 o2 o3 e1 e2 e3 hc.1 (fun _=>hc.2.1) (fun hm=>⟨hc.2.2.1,h4 hm⟩)
     refine gives_val (v':=.slice (some ⟨lc.addr,lc.base + (if m = l then off else off + l * (e + 1)),none⟩) (hh - l) (m - l)) ?_ (by simp only [VR]; exact ⟨lc,h1,rfl⟩) hb
     simp only [Instr.sliceAt,Sem.run_bind,run_underlying hu,Result.andThen_ok,Instr.slice,hbd,run_sizeOf he,Sem.run_pure]
     by_cases hnl : m = l <;> simp [hnl,add_off,Nat.add_assoc]
    ·cases h
   ·cases h
  ·cases h
 | buf b off len eb =>
  simp only [VR] at hx
  obtain ⟨lc,c,h1,rfl,h3,h4,h5⟩:=hx
  simp only [sliceL] at h
  split at h
  ·rename_i elem hu
   split at h
   ·rename_i e l hh he e1 e2
    cases mx' with
    | some _=>exact o3.elim
    | none =>
     have run : l ≤ hh → hh ≤ c → (Instr.sliceAt t (.slice (some ⟨lc.addr,lc.base + off,none⟩) len c) lo' hi' none).run P w = .ok (.slice (some (if c = l then ⟨lc.addr,lc.base + off,none⟩ else ⟨lc.addr,lc.base + off + l * (e + 1),none⟩)) (hh - l) (c - l)) w:=fun q1 q2=>by
      have hbd:=bounds_ok (P:=P) (w:=w) (isS:=true) (cap:=c) o1 o2 (o3:OV ν none none) e1 e2 (show optN c none = some c from rfl) q1 (fun _=>q2) (fun h=>by cases h)
      simp only [Instr.sliceAt,Sem.run_bind,run_underlying hu,Result.andThen_ok,Instr.slice,hbd,run_sizeOf he,Sem.run_pure]
      by_cases hnl : c = l <;> simp [hnl,add_off]
     have part : l ≤ hh → hh ≤ c → eb = e + 1 → (l < c ∨ l = 0) → VR ν (.buf b (off + l * (e + 1)) (hh - l) eb) (.slice (some (if c = l then ⟨lc.addr,lc.base + off,none⟩ else ⟨lc.addr,lc.base + off + l * (e + 1),none⟩)) (hh - l) (c - l)):=fun q1 q2 q3 q4=>by
      subst q3
      simp only [VR]
      refine ⟨lc,c - l,h1,?_,by omega,?_,by omega⟩
      ·by_cases hcl : c = l
       ·have hl0 : l = 0:=by rcases q4 with hl | hl <;> omega
        subst hl0
        simp [hcl]
       ·rw [if_neg hcl,Nat.add_assoc]
      ·have : l * (e + 1) + (c - l) * (e + 1) = c * (e + 1):=by rw [← Nat.add_mul]; congr 1; omega
       omega
     split at h
     ·rename_i hc
      obtain ⟨hc1,hc2,hc3⟩:=hc
      split at h
      ·rename_i hl
       cases h
       exact gives_val (v':=_) (run hc1 (by omega)) (part hc1 (by omega) hc3 (by omega)) hb
      ·rename_i hl
       cases h
       have hr:=run hc1 (by omega)
       have : hh - l = 0:=by omega
       rw [this] at hr
       exact gives_val hr (by simp only [VR]; exact ⟨_,_,rfl,by split <;> rfl,by omega⟩) hb
     ·split at h
      ·rename_i k hk
       split at h
       ·rename_i hc
        cases h
        obtain ⟨hc1,hc2,hc3⟩:=hc
        obtain ⟨lc',g1,g2⟩:=hH b k (by simp [footHas]) hk
        rw [h1] at g1; cases g1
        obtain ⟨cc,fr,k1,k2,k3,⟨pre,vs,rest,k4,k0,k5⟩,_⟩:=g2
        have hcl : cc.size = pre.length + (vs.length + rest.length):=by have:=congrArg List.length k4; simpa using this
        have hvl:=k5.length
        have hle : hh * (e + 1) ≤ c * (e + 1):=by rw [hc2] at h4; omega
        have hhc : hh ≤ c:=Nat.le_of_mul_le_mul_right hle (by omega)
        exact gives_val (v':=_) (run (by omega) hhc) (part (by omega) hhc hc2 (by omega)) hb
       ·cases h
      ·cases h
   ·rename_i e l hh mx he e1 e2
    split at h
    ·rename_i m hm
     split at h
     ·rename_i hc
      cases h
      obtain ⟨q1,q2,q3,q4,q5⟩:=hc
      have hbd:=bounds_ok (P:=P) (w:=w) (isS:=true) (cap:=c) (mx:=some mx) (m:=m) o1 o2 o3 e1 e2 (show optN c (some mx) = some m from hm) q1 (fun _=>q2) (fun _=>⟨by omega,q5⟩)
      refine gives_val (v':=.slice (some ⟨lc.addr,lc.base + (if m = l then off else off + l * (e + 1)),none⟩) (hh - l) (m - l)) ?_ (by simp only [VR]; exact ⟨lc,h1,rfl⟩) hb
      simp only [Instr.sliceAt,Sem.run_bind,run_underlying hu,Result.andThen_ok,Instr.slice,hbd,run_sizeOf he,Sem.run_pure]
      by_cases hnl : m = l <;> simp [hnl,add_off,Nat.add_assoc]
     ·cases h
    ·cases h
   ·cases h
  ·cases h
 | emp =>
  simp only [VR] at hx
  obtain ⟨a,c,rfl,hsp,hcm⟩:=hx
  simp only [sliceL] at h
  split at h
  ·rename_i elem hu e1 e2
   split at h
   ·rename_i e he
    cases h
    cases mx' with
    | some _=>exact o3.elim
    | none =>
     have hbd:=bounds_ok (P:=P) (w:=w) (isS:=true) (len:=0) (cap:=c) o1 o2 (o3:OV ν none none) e1 e2 (show optN c none = some c from rfl) (Nat.le_refl _) (fun _=>Nat.zero_le _) (fun h=>by cases h)
     refine gives_val (v':=.slice (some (if c = 0 then a else a.add (0 * e))) (0 - 0) (c - 0)) ?_ (by simp only [VR]; exact ⟨_,_,rfl,by split <;> simp_all [Addr.add],by omega⟩) hb
     simp only [Instr.sliceAt,Sem.run_bind,run_underlying hu,Result.andThen_ok,Instr.slice,hbd,run_sizeOf he,Sem.run_pure]
     by_cases hnl : c = 0 <;> simp [hnl]
   ·cases h
  ·cases h
 | ifc u z=>simp [sliceL] at h
 | sym b k lo hi ne=>simp [sliceL] at h
 | outS b=>simp [sliceL] at h
 | outP b=>simp [sliceL] at h
 | str cs =>
  simp only [VR] at hx
  obtain ⟨bs,rfl,hbs⟩:=hx
  have hlen : bs.length = cs.length:=by have:=hbs.length; simpa using this
  simp only [sliceL] at h
  split at h
  ·rename_i l hh hu e1 e2
   split at h
   ·rename_i hc
    cases h
    cases mx' with
    | some _=>exact o3.elim
    | none =>
     have hbd:=bounds_ok (P:=P) (w:=w) (isS:=false) (len:=cs.length) (cap:=cs.length) o1 o2 (o3:OV ν none none) e1 e2 (show optN cs.length none = some cs.length from rfl) hc.1 (fun _=>hc.2) (fun h=>by cases h)
     have hsz : (⟨bs.toArray⟩ : ByteArray).size = cs.length:=by rw [← hlen]; simp [ByteArray.size]
     have hex : (⟨bs.toArray⟩ : ByteArray).extract l hh = ⟨((bs.take hh).drop l).toArray⟩:=by
      apply ByteArray.ext
      rw [ByteArray.data_extract]
      apply Array.ext'
      simp [List.extract_eq_drop_take']
     refine gives_val (v':=.string ⟨((bs.take hh).drop l).toArray⟩) ?_ (by simp only [VR]; exact ⟨_,rfl,by rw [List.map_drop,List.map_take]; exact (hbs.take hh).drop l⟩) hb
     simp only [Instr.sliceAt,Sem.run_bind,run_underlying hu,Result.andThen_ok,Instr.slice,Option.isSome_none,Bool.false_eq_true,if_false,hsz,hbd,Sem.run_pure,hex]
   ·cases h
  ·cases h
 | fn f cs=>simp [sliceL] at h
 | agg cs=>simp [sliceL] at h
 | tup cs=>simp [sliceL] at h
end
end Go.Proofs.YtjpfhhndjpdmoaaGreatDoor
