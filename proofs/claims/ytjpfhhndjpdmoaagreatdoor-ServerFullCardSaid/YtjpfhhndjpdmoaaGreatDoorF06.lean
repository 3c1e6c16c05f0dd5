/- Part of the proof: EvDc,EvDd,EvDe,EvDf,EvG. No conditions of its own. -/
import Derived.Test.YtjpfhhndjpdmoaaGreatDoorF05
namespace Go.Proofs.YtjpfhhndjpdmoaaGreatDoor
open Go.RowKit
set_option linter.unusedVariables false
set_option linter.unusedSectionVars false
set_option linter.unusedSimpArgs false

structure DD where
 v : Nat → LV
 d : Nat → Dl
 nx : Nat → Nat
 ft : Nat → Option (List Nat)
 T : Nat → Tr LV
 wb : Nat → Bool
 R : Nat → List Rc
section
variable {P:Program} {GE:Env → Prop} [hGE : GEok P GE] {nB B:Nat} {w0:World} {callf:FuncId → List LV → Hp → Nat → Option Out} {nt:Nat} {ops:Array Oper} {H:Hp}
structure DD.At (P:Program) (nB:Nat) (callf:FuncId → List LV → Hp → Nat → Option Out) (nt:Nat) (ops:Array Oper) (H:Hp) (D:DD) (j:Nat) (o:Oper) (m:Nat) : Prop where
 le : D.nx j ≤ D.nx (j + 1)
 T : D.T (j + 1) = putT nt (D.T j) o.dst (D.v j)
 R : D.R (j + 1) = ⟨j,D.d j,D.nx j,D.ft j⟩ :: D.R j
 want : wantL ops (D.T j) o = some (D.wb j)
 yes : D.wb j = true → evOp P nB callf (D.T j) (overH H m (D.R j)) (D.nx j) o = some ⟨D.v j,D.d j,D.nx (j + 1),D.ft j⟩ ∧ freeB m (oldW (D.nx j) (D.d j)) (D.ft j) (D.R j) = true ∧ dOk (overH H m (D.R j)) (D.nx j) (D.nx (j + 1)) (D.ft j) (D.d j) = true
 no : D.wb j = false → D.v j = .tup [] ∧ D.d j = [] ∧ D.nx (j + 1) = D.nx j ∧ D.ft j = some []
theorem draw_data : ∀ {l:List Oper} {ms:List Nat} {k:Nat} {T T':Tr LV} {nx nx':Nat} {rs rs':List Rc},evDraw P nB callf nt ops H l ms k T nx rs = some (T',nx',rs') →
  ∃ D : DD,D.T k = T ∧ D.nx k = nx ∧ D.R k = rs ∧ D.T (k + l.length) = T' ∧ D.nx (k + l.length) = nx' ∧ D.R (k + l.length) = rs' ∧ ∀ (i:Nat) (o:Oper),l[i]? = some o → ∃ m,ms[i]? = some m ∧ D.At P nB callf nt ops H (k + i) o m
 | [],ms,k,T,T',nx,nx',rs,rs',h=>by
  simp only [evDraw,Option.some.injEq,Prod.mk.injEq] at h
  obtain ⟨rfl,rfl,rfl⟩:=h
  exact ⟨⟨fun _=>.emp,fun _=>[],fun _=>nx,fun _=>none,fun _=>T,fun _=>true,fun _=>rs⟩,rfl,rfl,rfl,rfl,rfl,rfl,fun i o h=>by simp at h⟩
 | o :: l,[],k,T,T',nx,nx',rs,rs',h=>by simp [evDraw] at h
 | o :: l,m :: ms,k,T,T',nx,nx',rs,rs',h=>by
  have join : ∀ (v:LV) (d:Dl) (nx1:Nat) (ft:Option (List Nat)) (b:Bool),nx ≤ nx1 → wantL ops T o = some b →
    (b = true → evOp P nB callf T (overH H m rs) nx o = some ⟨v,d,nx1,ft⟩ ∧ freeB m (oldW nx d) ft rs = true ∧ dOk (overH H m rs) nx nx1 ft d = true) → (b = false → v = .tup [] ∧ d = [] ∧ nx1 = nx ∧ ft = some []) →
    evDraw P nB callf nt ops H l ms (k + 1) (putT nt T o.dst v) nx1 (⟨k,d,nx,ft⟩ :: rs) = some (T',nx',rs') →
    ∃ D : DD,D.T k = T ∧ D.nx k = nx ∧ D.R k = rs ∧ D.T (k + (o :: l).length) = T' ∧ D.nx (k + (o :: l).length) = nx' ∧ D.R (k + (o :: l).length) = rs' ∧ ∀ (i:Nat) (o':Oper),(o :: l)[i]? = some o' → ∃ m',(m :: ms)[i]? = some m' ∧ D.At P nB callf nt ops H (k + i) o' m':=by
   intro v d nx1 ft b hle hw hy hn hr
   obtain ⟨D,h1,h2,h3,h4,h5,h6,h7⟩:=draw_data hr
   have ek : ∀ j,k + 1 + j ≠ k:=fun j=>by omega
   have ek1 : k + 1 ≠ k:=by omega
   have ek2 : ∀ j,k + 1 + j + 1 ≠ k:=fun j=>by omega
   refine ⟨⟨fun j=>if j = k then v else D.v j,fun j=>if j = k then d else D.d j,fun j=>if j = k then nx else D.nx j,fun j=>if j = k then ft else D.ft j,fun j=>if j = k then T else D.T j,fun j=>if j = k then b else D.wb j,fun j=>if j = k then rs else D.R j⟩,by simp,by simp,by simp,?_,?_,?_,?_⟩
   ·simp only [List.length_cons]; rw [if_neg (by omega),show k + (l.length + 1) = k + 1 + l.length by omega]; exact h4
   ·simp only [List.length_cons]; rw [if_neg (by omega),show k + (l.length + 1) = k + 1 + l.length by omega]; exact h5
   ·simp only [List.length_cons]; rw [if_neg (by omega),show k + (l.length + 1) = k + 1 + l.length by omega]; exact h6
   ·intro i o' hi
    cases i with
    | zero =>
     simp at hi; subst hi
     refine ⟨m,rfl,?_⟩
     simp only [Nat.add_zero]
     constructor
     ·simp only [if_true,if_neg ek1,h2]; exact hle
     ·simp only [if_true,if_neg ek1,h1]
     ·simp only [if_true,if_neg ek1,h3]
     ·simp only [if_true]; exact hw
     ·simp only [if_true,if_neg ek1,h2]; exact hy
     ·simp only [if_true,if_neg ek1,h2]; exact hn
    | succ i =>
     obtain ⟨m',hm',hA⟩:=h7 i o' (by simpa using hi)
     refine ⟨m',by simpa using hm',?_⟩
     rw [show k + (i + 1) = k + 1 + i by omega]
     constructor
     ·simp only [if_neg (ek i),if_neg (ek2 i)]; exact hA.le
     ·simp only [if_neg (ek i),if_neg (ek2 i)]; exact hA.T
     ·simp only [if_neg (ek i),if_neg (ek2 i)]; exact hA.R
     ·simp only [if_neg (ek i)]; exact hA.want
     ·simp only [if_neg (ek i),if_neg (ek2 i)]; exact hA.yes
     ·simp only [if_neg (ek i),if_neg (ek2 i)]; exact hA.no
  simp only [evDraw] at h
  split at h
  ·rename_i hw
   split at h
   ·rename_i out hout
    split at h
    ·rename_i hc
     exact join out.v out.d out.nx out.foot true hc.1 hw (fun _=>⟨hout,hc.2.1,hc.2.2⟩) (fun h=>by cases h) h
    ·cases h
   ·cases h
  ·rename_i hw
   exact join (.tup []) [] nx (some []) false (Nat.le_refl _) hw (fun h=>by cases h) (fun _=>⟨rfl,rfl,rfl,rfl⟩) h
  ·cases h
theorem dOk_mem {Hk:Hp} {nx nx':Nat} {ft:Option (List Nat)} : ∀ {d:Dl},dOk Hk nx nx' ft d = true → ∀ i,(dget d i).isSome = true → (i < nx ∧ (Hk.get i).isSome = true ∧ footB ft i = true) ∨ (nx ≤ i ∧ i < nx')
 | [],_,i,h=>by simp [dget] at h
 | (j,b) :: d,h,i,hi=>by
  simp only [dOk,Bool.and_eq_true] at h
  simp only [dget] at hi
  cases hd : dget d i with
  | some x=>exact dOk_mem h.2 i (by rw [hd]; rfl)
  | none =>
   rw [hd] at hi
   simp only at hi
   split at hi
   ·rename_i e; subst e
    have h1:=h.1
    split at h1
    ·rename_i hlt
     simp only [Bool.and_eq_true] at h1
     exact .inl ⟨hlt,h1⟩
    ·rename_i hlt
     exact .inr ⟨by omega,by simpa using h1⟩
   ·cases hi
theorem footB_iff {ft:Option (List Nat)} {i:Nat} : footB ft i = true ↔ footHas ft i:=by
 cases ft with
 | none=>simp [footB,footHas]
 | some F=>simp [footB,footHas]
theorem apartB_no {W:List Nat} {ft:Option (List Nat)} (h:apartB W ft = true) {i:Nat} (hi:i ∈ W) : ¬ footHas ft i:=by
 cases ft with
 | none =>
  simp only [apartB,List.isEmpty_iff] at h
  subst h; cases hi
 | some F =>
  simp only [apartB,List.all_eq_true] at h
  have:=h i hi
  simpa [footHas] using this
theorem overH_get {D:DD} {m:Nat} : ∀ {k:Nat},(∀ j,j < k → D.R (j + 1) = ⟨j,D.d j,D.nx j,D.ft j⟩ :: D.R j) → D.R 0 = [] → ∀ i,(overH H m (D.R k)).get i = match lastOf (fun p=>dget (D.d p) i) (fun p=>m.testBit p) k with | some x=>x | none=>H.get i
 | 0,_,h0,i=>by rw [h0]; rfl
 | k + 1,hR,h0,i=>by
  have ih:=overH_get (D:=D) (m:=m) (k:=k) (fun j hj=>hR j (by omega)) h0 i
  rw [hR k (by omega)]
  simp only [overH,lastOf]
  split
  ·rename_i hb
   rw [get_app]
   cases hd : dget (D.d k) i with
   | some x=>rfl
   | none=>exact ih
  ·exact ih
theorem allH_get {D:DD} : ∀ {k:Nat},(∀ j,j < k → D.R (j + 1) = ⟨j,D.d j,D.nx j,D.ft j⟩ :: D.R j) → D.R 0 = [] → ∀ i,(allH H (D.R k)).get i = match lastOf (fun p=>dget (D.d p) i) (fun _=>true) k with | some x=>x | none=>H.get i
 | 0,_,h0,i=>by rw [h0]; rfl
 | k + 1,hR,h0,i=>by
  have ih:=allH_get (D:=D) (k:=k) (fun j hj=>hR j (by omega)) h0 i
  rw [hR k (by omega)]
  simp only [allH,lastOf,if_true]
  rw [get_app]
  cases hd : dget (D.d k) i with
  | some x=>rfl
  | none=>exact ih
theorem wrOf_mem {D:DD} : ∀ {k:Nat},(∀ j,j < k → D.R (j + 1) = ⟨j,D.d j,D.nx j,D.ft j⟩ :: D.R j) → D.R 0 = [] → ∀ i,i ∈ wrOf (D.R k) ↔ ∃ j,j < k ∧ i ∈ oldW (D.nx j) (D.d j)
 | 0,_,h0,i=>by rw [h0]; simp [wrOf]
 | k + 1,hR,h0,i=>by
  have ih:=wrOf_mem (D:=D) (k:=k) (fun j hj=>hR j (by omega)) h0 i
  rw [hR k (by omega)]
  simp only [wrOf,List.mem_append,ih]
  constructor
  ·rintro (h | ⟨j,h1,h2⟩)
   ·exact ⟨k,by omega,h⟩
   ·exact ⟨j,by omega,h2⟩
  ·rintro ⟨j,h1,h2⟩
   by_cases hj : j = k
   ·subst hj; exact .inl h2
   ·exact .inr ⟨j,by omega,h2⟩
def slotW (nt:Nat) (ops:Array Oper) (D:DD) (x:Nat) (k:Nat) : Option LV :=
 match ops[k]? with
 | some o=>if o.dst = some x ∧ x < nt then some (D.v k) else none
 | none=>none
theorem T_get {D:DD} {T:Tr LV} : ∀ {k:Nat},k ≤ ops.size → (∀ j o,j < k → ops[j]? = some o → D.T (j + 1) = putT nt (D.T j) o.dst (D.v j)) → D.T 0 = T → ∀ x,(D.T k).get x = match lastOf (slotW nt ops D x) (fun _=>true) k with | some y=>some y | none=>T.get x
 | 0,_,_,h0,x=>by rw [h0]; rfl
 | k + 1,hk,hT,h0,x=>by
  have ih:=T_get (D:=D) (k:=k) (by omega) (fun j o hj=>hT j o (by omega)) h0 x
  obtain ⟨o,ho⟩:=oper_of (ops:=ops) (k:=k) (by omega)
  rw [hT k o (by omega) ho]
  simp only [lastOf,if_true,slotW,ho]
  cases hd : o.dst with
  | none=>simp [putT]; exact ih
  | some d =>
   simp only [putT]
   by_cases hdn : d < nt
   ·rw [if_pos hdn,Tr.get_set]
    by_cases hx : x = d
    ·subst hx; simp [hdn]
    ·rw [if_neg hx,if_neg (by simp; intro e; exact absurd e.symm hx)]
     exact ih
   ·rw [if_neg hdn,if_neg (by simp; intro e; rw [← e]; exact Nat.le_of_not_lt hdn)]
    exact ih
end
end Go.Proofs.YtjpfhhndjpdmoaaGreatDoor

namespace Go.Proofs.YtjpfhhndjpdmoaaGreatDoor
open Go.RowKit
set_option linter.unusedVariables false
set_option linter.unusedSectionVars false
set_option linter.unusedSimpArgs false

theorem lastOf_cut {α : Type} {f:Nat → Option α} {D:Nat → Bool} {k:Nat} : ∀ {n:Nat},k ≤ n → (∀ p,k ≤ p → p < n → D p = false) → lastOf f D n = lastOf f D k
 | 0,h,_=>by have : k = 0:=by omega
             subst this; rfl
 | n + 1,h,hD=>by
  by_cases hk : k = n + 1
  ·rw [hk]
  ·simp only [lastOf]
   rw [hD n (by omega) (by omega)]
   simpa using lastOf_cut (n:=n) (by omega) (fun p h1 h2=>hD p h1 (by omega))
section
variable {P:Program} {GE:Env → Prop} [hGE : GEok P GE] {nB B:Nat} {w0:World} {callf:FuncId → List LV → Hp → Nat → Option Out} {ops:Array Oper} {s:St} {D:DD}
structure DAll (P:Program) (nB:Nat) (callf:FuncId → List LV → Hp → Nat → Option Out) (ops:Array Oper) (s:St) (D:DD) : Prop where
 reg : regB ops = true
 at_ : ∀ j o,ops[j]? = some o → D.At P nB callf s.nt ops s.H j o (maskOf ops j)
 T0 : D.T 0 = s.T
 nx0 : D.nx 0 = s.nx
 R0 : D.R 0 = []
 ids : ∀ i k,s.H.get i = some k → i < s.nx
theorem DAll.R (h:DAll P nB callf ops s D) {j:Nat} (hj:j < ops.size) : D.R (j + 1) = ⟨j,D.d j,D.nx j,D.ft j⟩ :: D.R j:=by
 obtain ⟨o,ho⟩:=oper_of hj
 exact (h.at_ j o ho).R
theorem DAll.mono (h:DAll P nB callf ops s D) : ∀ {k j:Nat},j ≤ k → k ≤ ops.size → D.nx j ≤ D.nx k
 | 0,j,hj,_=>by have : j = 0:=by omega
                subst this; exact Nat.le_refl _
 | k + 1,j,hj,hk=>by
  by_cases he : j = k + 1
  ·rw [he]; exact Nat.le_refl _
  ·obtain ⟨o,ho⟩:=oper_of (ops:=ops) (k:=k) (by omega)
   exact Nat.le_trans (h.mono (by omega) (by omega)) (h.at_ k o ho).le
def Hof (ops:Array Oper) (s:St) (D:DD) (k:Nat) : Hp:=overH s.H (maskOf ops k) (D.R k)
theorem DAll.dmem (h:DAll P nB callf ops s D) {j i:Nat} (hj:j < ops.size) (hi:(dget (D.d j) i).isSome = true) : (i < D.nx j ∧ ((Hof ops s D j).get i).isSome = true ∧ footHas (D.ft j) i) ∨ (D.nx j ≤ i ∧ i < D.nx (j + 1)):=by
 obtain ⟨o,ho⟩:=oper_of hj
 have A:=h.at_ j o ho
 cases hw : D.wb j with
 | true =>
  rcases dOk_mem (A.yes hw).2.2 i hi with ⟨h1,h2,h3⟩ | h1
  ·exact .inl ⟨h1,h2,footB_iff.1 h3⟩
  ·exact .inr h1
 | false =>
  rw [(A.no hw).2.1] at hi
  simp [dget] at hi
theorem DAll.hof (h:DAll P nB callf ops s D) {k:Nat} (hk:k ≤ ops.size) (i:Nat) : (Hof ops s D k).get i = match lastOf (fun p=>dget (D.d p) i) (fun p=>(maskOf ops k).testBit p) k with | some x=>x | none=>s.H.get i :=
 overH_get (fun j hj=>h.R (by omega)) h.R0 i
theorem DAll.seen (h:DAll P nB callf ops s D) {j i:Nat} (hj:j < ops.size) (hi:D.nx j ≤ i ∧ i < D.nx (j + 1)) : ∀ k,k < ops.size → ((Hof ops s D k).get i).isSome = true → (maskOf ops k).testBit j = true:=by
 intro k
 induction k using Nat.strongRecOn with
 | _ k ih =>
  intro hk hs
  rw [h.hof (by omega) i] at hs
  split at hs
  ·rename_i x hx
   obtain ⟨p,h1,h2,h3⟩:=lastOf_some hx
   rcases h.dmem (j:=p) (i:=i) (by omega) (by rw [h3]; rfl) with ⟨h4,h5,_⟩ | h4
   ·have:=ih p h1 (by omega) h5
    exact mask_trans (reg_edges h.reg) k p j h2 this
   ·have : p = j:=by
     rcases Nat.lt_trichotomy p j with hlt | he | hgt
     ·have:=h.mono (j:=p + 1) (k:=j) (by omega) (by omega); omega
     ·exact he
     ·have:=h.mono (j:=j + 1) (k:=p) (by omega) (by omega); omega
    rw [← this]; exact h2
  ·obtain ⟨q,hq⟩:=Option.isSome_iff_exists.1 hs
   have h1:=h.ids i q hq
   have h2:=h.mono (j:=0) (k:=j) (by omega) (by omega)
   rw [h.nx0] at h2
   omega
theorem freeB_mem {m:Nat} {W:List Nat} {ft:Option (List Nat)} : ∀ {rs:List Rc},freeB m W ft rs = true → ∀ r ∈ rs,m.testBit r.j = true ∨ (apartB (oldW r.nx r.d) ft = true ∧ apartB W r.foot = true)
 | [],_,r,h=>by cases h
 | r' :: rs,h,r,hr=>by
  simp only [freeB,Bool.and_eq_true,Bool.or_eq_true] at h
  rcases List.mem_cons.1 hr with rfl | hr
  ·exact h.1
  ·exact freeB_mem h.2 r hr
theorem DAll.rec_mem (h:DAll P nB callf ops s D) : ∀ {k j:Nat},j < k → k ≤ ops.size → (⟨j,D.d j,D.nx j,D.ft j⟩ : Rc) ∈ D.R k
 | 0,j,hj,_=>by omega
 | k + 1,j,hj,hk=>by
  rw [h.R (by omega)]
  by_cases he : j = k
  ·subst he; simp
  ·exact List.mem_cons_of_mem _ (h.rec_mem (by omega) (by omega))
theorem DAll.free (h:DAll P nB callf ops s D) {j k:Nat} (hjk:j < k) (hk:k < ops.size) (hm:(maskOf ops k).testBit j = false) : (∀ i,i ∈ oldW (D.nx j) (D.d j) → ¬ footHas (D.ft k) i) ∧ (∀ i,i ∈ oldW (D.nx k) (D.d k) → ¬ footHas (D.ft j) i):=by
 obtain ⟨o,ho⟩:=oper_of hk
 have A:=h.at_ k o ho
 cases hw : D.wb k with
 | true =>
  rcases freeB_mem (A.yes hw).2.1 _ (h.rec_mem hjk (by omega)) with h1 | ⟨h1,h2⟩
  ·simp only at h1; rw [hm] at h1; cases h1
  ·exact ⟨fun i hi=>apartB_no h1 hi,fun i hi=>apartB_no h2 hi⟩
 | false =>
  obtain ⟨_,h2,_,h4⟩:=A.no hw
  refine ⟨fun i _=>by rw [h4]; simp [footHas],fun i hi=>by rw [h2] at hi; simp [oldW] at hi⟩
theorem DAll.apart (h:DAll P nB callf ops s D) {j k i:Nat} (hjk:j < k) (hk:k < ops.size) (hm:(maskOf ops k).testBit j = false) (hj:dget (D.d j) i ≠ none) : dget (D.d k) i = none:=by
 cases hd : dget (D.d k) i with
 | none=>rfl
 | some x =>
  exfalso
  have hj' : (dget (D.d j) i).isSome = true:=by cases hx : dget (D.d j) i <;> simp_all
  have hf:=h.free hjk hk hm
  rcases h.dmem hk (by rw [hd]; rfl) with ⟨h1,h2,h3⟩ | h1
  ·rcases h.dmem (by omega) hj' with ⟨h4,_,_⟩ | h4
   ·exact hf.1 i (mem_oldW.2 ⟨h4,hj'⟩) h3
   ·have:=h.seen (by omega) h4 k hk h2
    rw [hm] at this; cases this
  ·rcases h.dmem (by omega) hj' with ⟨h4,_,_⟩ | h4
   ·have:=h.mono (j:=j) (k:=k) (by omega) (by omega); omega
   ·have:=h.mono (j:=j + 1) (k:=k) (by omega) (by omega); omega
def hL (ops:Array Oper) (s:St) (D:DD) (L:Nat → Bool) : Nat → Option Blk:=fun i=>match lastOf (fun p=>dget (D.d p) i) L ops.size with | some x=>x | none=>s.H.get i
def tL (ops:Array Oper) (s:St) (D:DD) (L:Nat → Bool) : Nat → Option LV:=fun x=>match lastOf (slotW s.nt ops D x) L ops.size with | some y=>some y | none=>s.T.get x
def oL (ops:Array Oper) (s:St) (D:DD) (L:Nat → Bool) : Nat → Prop:=fun i=>i < s.nx ∨ ∃ p,p < ops.size ∧ L p = true ∧ D.nx p ≤ i ∧ i < D.nx (p + 1)
def wL (ops:Array Oper) (s:St) (D:DD) (L:Nat → Bool) : Nat → Prop:=fun i=>i ∈ s.wr ∨ ∃ p,p < ops.size ∧ L p = true ∧ i ∈ oldW (D.nx p) (D.d p)
structure DInv (P:Program) (GE:Env → Prop) (nB B:Nat) (w0:World) (ops:Array Oper) (s:St) (D:DD) (ν0 : Env) (w00:World) (L:Nat → Bool) (ν : Env) (a:Act) (w:World) : Prop where
 st : StO P GE nB B w0 s.nt ν (hL ops s D L) (tL ops s D L) (oL ops s D L) a w
 fr : FrgO nB ν0 ν s.H.get (hL ops s D L) (fun i=>i < s.nx) (oL ops s D L) (fun i=>i ∈ s.wr) (wL ops s D L) w00 w
 free : ∀ p,p < ops.size → L p = false → ∀ i,D.nx p ≤ i → i < D.nx (p + 1) → ν i = none
 down : ∀ k,k < ops.size → L k = true → ∀ j,(maskOf ops k).testBit j = true → L j = true
theorem DAll.slots (h:DAll P nB callf ops s D) {L:Nat → Bool} (hdown:∀ k,k < ops.size → L k = true → ∀ j,(maskOf ops k).testBit j = true → L j = true) {k:Nat} {o:Oper} (ho:ops[k]? = some o) (hk:k < ops.size) (hLk:L k = false) (hpast:∀ j,(maskOf ops k).testBit j = true → L j = true) {x:Tmp} (hx:x ∈ o.looksAt ops) :
  tL ops s D L x = (D.T k).get x:=by
 rw [T_get (T:=s.T) (by omega) (fun j o' hj ho'=>(h.at_ j o' ho').T) h.T0 x]
 unfold tL
 have e : lastOf (slotW s.nt ops D x) L ops.size = lastOf (slotW s.nt ops D x) (fun p=>decide (p < k)) ops.size:=lastOf_congr (fun p hp hf=>by
  obtain ⟨op,hop⟩:=oper_of hp
  have hdst : op.dst = some x:=by
   unfold slotW at hf
   rw [hop] at hf
   simp only at hf
   split at hf
   ·rename_i hc; exact hc.1
   ·exact absurd rfl hf
  rcases Nat.lt_trichotomy p k with hlt | he | hgt
  ·have : L p = true:=by
    rcases reg_apart h.reg hlt hop ho with h1 | h1
    ·exact hpast p h1
    ·exact absurd hx ((Oper.apart_spec h1).1 x hdst)
   simp [this,hlt]
  ·subst he; simp [hLk]
  ·have : L p = false:=by
    cases hLp : L p with
    | false=>rfl
    | true =>
     rcases reg_apart h.reg hgt ho hop with h1 | h1
     ·rw [hdown p hp hLp k h1] at hLk; cases hLk
     ·exact absurd hx ((Oper.apart_spec h1).2.2 x hdst)
   rw [this]; simp; omega)
 rw [e,lastOf_cut (k:=k) (by omega) (fun p h1 _=>by simp; omega)]
 have e2 : lastOf (slotW s.nt ops D x) (fun p=>decide (p < k)) k = lastOf (slotW s.nt ops D x) (fun _=>true) k:=lastOf_congr (fun p hp _=>by simp [hp])
 rw [e2]
 all_goals rfl
theorem DAll.blocks (h:DAll P nB callf ops s D) {L:Nat → Bool} (hdown:∀ k,k < ops.size → L k = true → ∀ j,(maskOf ops k).testBit j = true → L j = true) {k:Nat} (hk:k < ops.size) (hLk:L k = false) (hpast:∀ j,(maskOf ops k).testBit j = true → L j = true) {i:Nat} (hf:footHas (D.ft k) i) (hs:((Hof ops s D k).get i).isSome = true) :
  hL ops s D L i = (Hof ops s D k).get i:=by
 rw [h.hof (by omega) i]
 unfold hL
 have hml : ∀ p,(maskOf ops k).testBit p = true → p < k:=mask_lt (reg_edges h.reg) k
 have e : lastOf (fun p=>dget (D.d p) i) L ops.size = lastOf (fun p=>dget (D.d p) i) (fun p=>(maskOf ops k).testBit p) ops.size:=lastOf_congr (fun p hp hne=>by
  have hsome : (dget (D.d p) i).isSome = true:=by cases hx : dget (D.d p) i <;> simp_all
  cases hm : (maskOf ops k).testBit p with
  | true=>exact hpast p hm
  | false =>
   cases hLp : L p with
   | false=>rfl
   | true =>
    exfalso
    rcases h.dmem hp hsome with ⟨h1,_,_⟩ | h1
    ·rcases Nat.lt_trichotomy p k with hlt | he | hgt
     ·exact (h.free hlt hk hm).1 i (mem_oldW.2 ⟨h1,hsome⟩) hf
     ·subst he; rw [hLk] at hLp; cases hLp
     ·have hm2 : (maskOf ops p).testBit k = false:=by
       cases hq : (maskOf ops p).testBit k with
       | false=>rfl
       | true=>rw [hdown p hp hLp k hq] at hLk; cases hLk
      exact (h.free hgt hp hm2).2 i (mem_oldW.2 ⟨h1,hsome⟩) hf
    ·have:=h.seen hp h1 k hk hs
     rw [hm] at this; cases this)
 rw [e,lastOf_cut (k:=k) (by omega) (fun p h1 _=>by
  cases hq : (maskOf ops k).testBit p with
  | false=>rfl
  | true=>have:=hml p hq; omega)]
end
end Go.Proofs.YtjpfhhndjpdmoaaGreatDoor

namespace Go.Proofs.YtjpfhhndjpdmoaaGreatDoor
open Go.RowKit
set_option linter.unusedVariables false
set_option linter.unusedSectionVars false
set_option linter.unusedSimpArgs false

section
variable {P:Program} {GE:Env → Prop} [hGE : GEok P GE] {nB B:Nat} {w0:World} {callf:FuncId → List LV → Hp → Nat → Option Out} {ops:Array Oper} {s:St} {D:DD}
def setL (L:Nat → Bool) (k:Nat) : Nat → Bool:=fun p=>p == k || L p
theorem DAll.hset (h:DAll P nB callf ops s D) {L:Nat → Bool} (hdown:∀ k,k < ops.size → L k = true → ∀ j,(maskOf ops k).testBit j = true → L j = true) {k:Nat} (hk:k < ops.size) (hLk:L k = false) : hPut (hL ops s D L) (D.d k) = hL ops s D (setL L k):=by
 funext i
 unfold hL setL
 rw [lastOf_set hk hLk (fun j hkj hj hLj hne=>?_)]
 ·unfold hPut
  cases dget (D.d k) i with
  | some x=>rfl
  | none=>rfl
 ·have hm : (maskOf ops j).testBit k = false:=by
   cases hq : (maskOf ops j).testBit k with
   | false=>rfl
   | true=>rw [hdown j hj hLj k hq] at hLk; cases hLk
  exact h.apart hkj hj hm hne
theorem DAll.tset (h:DAll P nB callf ops s D) {L:Nat → Bool} (hdown:∀ k,k < ops.size → L k = true → ∀ j,(maskOf ops k).testBit j = true → L j = true) {k:Nat} {o:Oper} (ho:ops[k]? = some o) (hk:k < ops.size) (hLk:L k = false) : tPut s.nt (tL ops s D L) o.dst (D.v k) = tL ops s D (setL L k):=by
 funext x
 unfold tL setL
 rw [lastOf_set hk hLk (fun j hkj hj hLj hne=>?_)]
 ·have e : slotW s.nt ops D x k = if o.dst = some x ∧ x < s.nt then some (D.v k) else none:=by unfold slotW; rw [ho]
  rw [e]
  unfold tPut
  cases hd : o.dst with
  | none=>simp
  | some d =>
   by_cases hc : d < s.nt ∧ x = d
   ·obtain ⟨h1,rfl⟩:=hc
    simp [h1]
   ·simp only [if_neg hc]
    rw [if_neg (fun hh=>hc ⟨by have:=hh.2; have e2:=Option.some.inj hh.1; rw [e2]; exact this,(Option.some.inj hh.1).symm⟩)]
 ·obtain ⟨oj,hoj⟩:=oper_of hj
  have hdst : o.dst = some x:=by
   unfold slotW at hne
   rw [ho] at hne
   simp only at hne
   split at hne
   ·rename_i hc; exact hc.1
   ·exact absurd rfl hne
  have hm : (maskOf ops j).testBit k = false:=by
   cases hq : (maskOf ops j).testBit k with
   | false=>rfl
   | true=>rw [hdown j hj hLj k hq] at hLk; cases hLk
  rcases reg_apart h.reg hkj ho hoj with h1 | h1
  ·rw [hm] at h1; cases h1
  ·have:=(Oper.apart_spec h1).2.1 x hdst
   unfold slotW
   rw [hoj]
   simp only
   rw [if_neg (fun hh=>this hh.1)]
theorem DAll.oset {L:Nat → Bool} {k:Nat} (hk:k < ops.size) : oPut (oL ops s D L) (D.nx k) (D.nx (k + 1)) = oL ops s D (setL L k):=by
 funext i
 apply propext
 unfold oPut oL setL
 constructor
 ·rintro ((h | ⟨p,h1,h2,h3⟩) | h)
  ·exact .inl h
  ·exact .inr ⟨p,h1,by simp [h2],h3⟩
  ·exact .inr ⟨k,hk,by simp,h⟩
 ·rintro (h | ⟨p,h1,h2,h3⟩)
  ·exact .inl (.inl h)
  ·simp only [Bool.or_eq_true,beq_iff_eq] at h2
   rcases h2 with rfl | h2
   ·exact .inr h3
   ·exact .inl (.inr ⟨p,h1,h2,h3⟩)
theorem DAll.wset {L:Nat → Bool} {k:Nat} (hk:k < ops.size) : wPut (wL ops s D L) (D.nx k) (D.d k) = wL ops s D (setL L k):=by
 funext i
 apply propext
 unfold wPut wL setL
 constructor
 ·rintro ((h | ⟨p,h1,h2,h3⟩) | h)
  ·exact .inl h
  ·exact .inr ⟨p,h1,by simp [h2],h3⟩
  ·exact .inr ⟨k,hk,by simp,mem_oldW.2 h⟩
 ·rintro (h | ⟨p,h1,h2,h3⟩)
  ·exact .inl (.inl h)
  ·simp only [Bool.or_eq_true,beq_iff_eq] at h2
   rcases h2 with rfl | h2
   ·exact .inr (mem_oldW.1 h3)
   ·exact .inl (.inr ⟨p,h1,h2,h3⟩)
theorem DInv.op (h:DAll P nB callf ops s D) (hc:EvOk P GE nB B w0 callf) (hB:B ≤ w0.heap.size) (hwr:∀ i ∈ s.wr,i < s.nx) {ν0 : Env} {w00:World} {L:Nat → Bool} {ν : Env} {a:Act} {w:World} (hi:DInv P GE nB B w0 ops s D ν0 w00 L ν a w)
  {k:Nat} {o:Oper} (ho:ops[k]? = some o) (hk:k < ops.size) (hLk:L k = false) (hpast:∀ j,(maskOf ops k).testBit j = true → L j = true) {Q:Exit → Act → World → Prop} {K:Act → World → Prop}
  (hK:∀ ν' a' w',DInv P GE nB B w0 ops s D ν0 w00 (setL L k) ν' a' w' → K a' w') : wpOp P ops Q k K a w:=by
 have A:=h.at_ k o ho
 have hWO : ∀ i,wL ops s D L i → oL ops s D L i:=fun i hw=>by
  rcases hw with hw | ⟨p,h1,h2,h3⟩
  ·exact .inl (hwr i hw)
  ·obtain ⟨h4,h5⟩:=mem_oldW.1 h3
   rcases h.dmem h1 h5 with ⟨_,h6,_⟩ | h6
   ·-- seen by p: an elder one,or one of its past
    rw [h.hof (by omega) i] at h6
    split at h6
    ·rename_i x hx
     obtain ⟨q,h7,h8,h9⟩:=lastOf_some hx
     have hLq:=hi.down p h1 h2 q h8
     clear hx h6
     -- go down to the one that made it
     have key : ∀ q,q < ops.size → L q = true → (dget (D.d q) i).isSome = true → oL ops s D L i:=by
      intro q
      induction q using Nat.strongRecOn with
      | _ q ih =>
       intro hq hLq hd
       rcases h.dmem hq hd with ⟨_,g1,_⟩ | g1
       ·rw [h.hof (by omega) i] at g1
        split at g1
        ·rename_i y hy
         obtain ⟨r,g2,g3,g4⟩:=lastOf_some hy
         exact ih r g2 (by omega) (hi.down q hq hLq r g3) (by rw [g4]; rfl)
        ·obtain ⟨z,hz⟩:=Option.isSome_iff_exists.1 g1
         exact .inl (h.ids i z hz)
       ·exact .inr ⟨q,hq,hLq,g1⟩
     exact key q (by omega) hLq (by rw [h9]; rfl)
    ·obtain ⟨z,hz⟩:=Option.isSome_iff_exists.1 h6
     exact .inl (h.ids i z hz)
   ·exact .inr ⟨p,h1,h2,h6⟩
 have hνk:=hi.free k hk hLk
 have hgo : ∀ (ν' : Env) (w':World) (v':Value),OpPost nB B w0 ν ν' (Hof ops s D k) (D.nx k) ⟨D.v k,D.d k,D.nx (k + 1),D.ft k⟩ w w' v' → DInv P GE nB B w0 ops s D ν0 w00 (setL L k) ν' (a.put o.dst v') w':=by
  intro ν' w' v' hp
  have hns : s.nx ≤ D.nx k:=by have:=h.mono (j:=0) (k:=k) (by omega) (by omega); rwa [h.nx0] at this
  have hνO : ∀ i,D.nx k ≤ i → i < D.nx (k + 1) → ν i = none ∧ ¬ oL ops s D L i:=fun i h1 h2=>by
   refine ⟨hνk i h1 h2,?_⟩
   rintro (h3 | ⟨p,h3,h4,h5,h6⟩)
   ·omega
   ·rcases Nat.lt_trichotomy p k with hlt | he | hgt
    ·have:=h.mono (j:=p + 1) (k:=k) (by omega) (by omega); omega
    ·subst he; rw [hLk] at h4; cases h4
    ·have:=h.mono (j:=k + 1) (k:=p) (by omega) (by omega); omega
  have hold : ∀ i,i < D.nx k → (dget (D.d k) i).isSome = true → oL ops s D L i ∧ (hL ops s D L i).isSome = true:=fun i h1 h2=>by
   rcases h.dmem hk h2 with ⟨_,h3,h4⟩ | h3
   ·have:=h.blocks hi.down hk hLk hpast h4 h3
    have hss : (hL ops s D L i).isSome = true:=by rw [this]; exact h3
    obtain ⟨z,hz⟩:=Option.isSome_iff_exists.1 hss
    exact ⟨hi.st.ids i z hz,hss⟩
   ·omega
  obtain ⟨g1,g2⟩:=hi.st.step (dst:=o.dst) hWO hB hνO A.le hp hold
  simp only at g1 g2
  rw [h.hset hi.down hk hLk,h.tset hi.down ho hk hLk,DAll.oset hk] at g1
  rw [h.hset hi.down hk hLk,DAll.oset hk,DAll.wset hk] at g2
  refine ⟨g1,hi.fr.trans g2,fun p hp' hLp i h1 h2=>?_,fun p hp' hLp j hj=>?_⟩
  ·simp only [setL,Bool.or_eq_false_iff,beq_eq_false_iff_ne] at hLp
   have hni : ¬ (D.nx k ≤ i ∧ i < D.nx (k + 1)):=fun hh=>by
    rcases Nat.lt_trichotomy p k with hlt | he | hgt
    ·have:=h.mono (j:=p + 1) (k:=k) (by omega) (by omega); omega
    ·exact hLp.1 he
    ·have:=h.mono (j:=k + 1) (k:=p) (by omega) (by omega); omega
   rw [hp.ext i hni]
   exact hi.free p hp' hLp.2 i h1 h2
  ·simp only [setL,Bool.or_eq_true,beq_iff_eq] at hLp ⊢
   rcases hLp with rfl | hLp
   ·exact .inr (hpast j hj)
   ·exact .inr (hi.down p hp' hLp j hj)
 have hslot : ∀ x,x ∈ o.looksAt ops → ∀ l,(D.T k).get x = some l → VR ν l (a.tmps.getD x undef):=fun x hx l hl=>by
  rw [← h.slots hi.down ho hk hLk hpast hx] at hl
  exact hi.st.tr x l hl
 have hwant : Region.wanted o (yielded ops a.tmps) = D.wb k:=want_ok (fun j want d l hg hd hT=>by
  refine hslot d ?_ l hT
  simp only [Oper.looksAt,hg,List.mem_append]
  right
  rw [hd]; simp) A.want
 unfold wpOp
 simp only [ho]
 rw [hwant]
 cases hw : D.wb k with
 | true =>
  rw [if_pos rfl]
  left
  have hev:=(A.yes hw).1
  refine evOp_wp hc hB hev A.le (fun x hx l hl=>?_) hνk (fun i b hf hb=>?_) (fun i b l hf hnB hb hl=>?_) (fun i j ki kj li lj hf1 hf2 h1 h2 h3 h4=>?_) (fun i b hb=>?_) hi.st.glob hi.st.below (fun v' w' ν' hp=>hK ν' _ w' (hgo ν' w' v' hp))
  ·cases x with
   | tmp t=>exact hslot t (by simp only [Oper.looksAt,List.mem_append,List.mem_filterMap]; left; exact ⟨_,hx,rfl⟩) l hl
   | const x=>exact lvOf_ok hl
   | global g =>
    simp only [opd] at hl
    split at hl
    ·rename_i hg'
     cases hl
     obtain ⟨sz,hs⟩:=(GEok.glob (P:=P) ν hi.st.glob) g hg'
     simp only [VR]
     exact ⟨_,hs,rfl⟩
    ·cases hl
   | func f =>
    simp only [opd] at hl
    cases hl
    simp only [VR]
    exact ⟨[],rfl,VRs.nil_iff.2 rfl⟩
  ·have:=h.blocks hi.down hk hLk hpast hf (by show ((Hof ops s D k).get i).isSome = true; unfold Hof; rw [hb]; rfl)
   exact hi.st.hr i b (by rw [this]; exact hb)
  ·have:=h.blocks hi.down hk hLk hpast hf (by show ((Hof ops s D k).get i).isSome = true; unfold Hof; rw [hb]; rfl)
   exact hi.st.low i b l hnB (by rw [this]; exact hb) hl
  ·have e1:=h.blocks hi.down hk hLk hpast (i:=i) hf1 (by unfold Hof; rw [h1]; rfl)
   have e2:=h.blocks hi.down hk hLk hpast (i:=j) hf2 (by unfold Hof; rw [h2]; rfl)
   exact hi.st.inj i j ki kj li lj (by rw [e1]; exact h1) (by rw [e2]; exact h2) h3 h4
  ·have hb' : ((Hof ops s D k).get i) = some b:=hb
   rw [h.hof (by omega) i] at hb'
   split at hb'
   ·rename_i x hx
    obtain ⟨p,h1,h2,h3⟩:=lastOf_some hx
    have h4:=h.mono (j:=p + 1) (k:=k) (by omega) (by omega)
    rcases h.dmem (j:=p) (i:=i) (by omega) (by rw [h3]; rfl) with ⟨h5,_⟩ | h5
    ·have:=h.mono (j:=p) (k:=k) (by omega) (by omega); omega
    ·omega
   ·have h1:=h.ids i b hb'
    have h2:=h.mono (j:=0) (k:=k) (by omega) (by omega)
    rw [h.nx0] at h2
    omega
 | false =>
  rw [if_neg (by simp)]
  obtain ⟨h1,h2,h3,h4⟩:=A.no hw
  have hp : OpPost nB B w0 ν ν (Hof ops s D k) (D.nx k) ⟨.tup [],[],D.nx k,some []⟩ w w undef:=post_val (undef_ok ν) hi.st.below
  refine hK ν _ w (hgo ν w undef ?_)
  rw [h1,h2,h3,h4]
  exact hp
end
end Go.Proofs.YtjpfhhndjpdmoaaGreatDoor

namespace Go.Proofs.YtjpfhhndjpdmoaaGreatDoor
open Go.RowKit
set_option linter.unusedVariables false
set_option linter.unusedSectionVars false
set_option linter.unusedSimpArgs false

def cntU (L:Nat → Bool) : Nat → Nat
 | 0=>0
 | n + 1=>cntU L n + if L n = true then 0 else 1
theorem cntU_congr {L L':Nat → Bool} : ∀ {n:Nat},(∀ p,p < n → L p = L' p) → cntU L n = cntU L' n
 | 0,_=>rfl
 | n + 1,h=>by simp only [cntU]; rw [cntU_congr (fun p hp=>h p (by omega)),h n (by omega)]
theorem cntU_set {L:Nat → Bool} {k:Nat} : ∀ {n:Nat},k < n → L k = false → cntU (setL L k) n + 1 = cntU L n
 | 0,h,_=>by omega
 | n + 1,h,hk=>by
  simp only [cntU]
  by_cases he : n = k
  ·subst he
   have : cntU (setL L n) n = cntU L n:=cntU_congr (fun p hp=>by simp [setL]; omega)
   rw [this]
   simp [setL,hk]
  ·have ih:=cntU_set (n:=n) (by omega) hk
   have : setL L k n = L n:=by simp [setL,he]
   rw [this]
   omega
theorem cntU_zero {L:Nat → Bool} : ∀ {n:Nat},cntU L n = 0 → ∀ p,p < n → L p = true
 | 0,_,p,hp=>by omega
 | n + 1,h,p,hp=>by
  simp only [cntU] at h
  by_cases he : p = n
  ·subst he
   cases hL : L p with
   | true=>rfl
   | false=>rw [hL] at h; simp at h
  ·exact cntU_zero (L:=L) (n:=n) (by omega) p (by omega)
section
variable {P:Program} {GE:Env → Prop} [hGE : GEok P GE] {nB B:Nat} {w0:World} {callf:FuncId → List LV → Hp → Nat → Option Out} {ops:Array Oper} {s:St} {D:DD}
theorem ready_iff {listed:Array Bool} {i:Nat} : i ∈ Region.ready .any ops listed ↔ i < ops.size ∧ listed.getD i true = false ∧ ∃ o,ops[i]? = some o ∧ ∀ e ∈ o.after.toList,Region.binds .any e = true → listed.getD e.on false = true:=by
 unfold Region.ready
 simp only [List.mem_filter,List.mem_range,Bool.and_eq_true,Bool.not_eq_true']
 constructor
 ·rintro ⟨h1,h2,h3⟩
  obtain ⟨o,ho⟩:=oper_of h1
  refine ⟨h1,h2,o,ho,fun e he hb=>?_⟩
  rw [ho] at h3
  simp only [Option.map_some,Option.getD_some,Array.all_eq_true'] at h3
  have:=h3 e (by simpa using he)
  rw [hb] at this
  simpa using this
 ·rintro ⟨h1,h2,o,ho,h3⟩
  refine ⟨h1,h2,?_⟩
  rw [ho]
  simp only [Option.map_some,Option.getD_some,Array.all_eq_true']
  intro e he
  cases hb : Region.binds .any e with
  | false=>rfl
  | true=>simpa using h3 e (by simpa using he) hb
theorem getD_eq {listed:Array Bool} {i:Nat} (h:i < listed.size) (a b:Bool) : listed.getD i a = listed.getD i b:=by
 simp [Array.getD_eq_getD_getElem?,h]
theorem set_getD {listed:Array Bool} {k:Nat} (hk:k < listed.size) : (fun p=>(listed.setIfInBounds k true).getD p false) = setL (fun p=>listed.getD p false) k:=by
 funext p
 simp only [setL,Array.getD_eq_getD_getElem?]
 by_cases hp : p = k
 ·subst hp; simp [hk]
 ·rw [Array.getElem?_setIfInBounds_ne (Ne.symm hp)]
  simp [hp]
theorem draw_any (h:DAll P nB callf ops s D) (hc:EvOk P GE nB B w0 callf) (hB:B ≤ w0.heap.size) (hwr:∀ i ∈ s.wr,i < s.nx) {ν0 : Env} {w00:World} {Q:Exit → Act → World → Prop}
  (hQ:∀ ν a w L,(∀ p,p < ops.size → L p = true) → DInv P GE nB B w0 ops s D ν0 w00 L ν a w → Q .normal a w) : ∀ (f:Nat) (listed:Array Bool) (ν : Env) (a:Act) (w:World),listed.size = ops.size → DInv P GE nB B w0 ops s D ν0 w00 (fun p=>listed.getD p false) ν a w → cntU (fun p=>listed.getD p false) ops.size ≤ f → wpAny P .any ops Q f listed a w
 | 0,listed,ν,a,w,hsz,hi,hcnt=>by
  have hall:=cntU_zero (Nat.le_zero.1 hcnt)
  refine ⟨?_,hQ ν a w _ hall hi⟩
  cases hr : Region.ready .any ops listed with
  | nil=>rfl
  | cons i l =>
   have : i ∈ Region.ready .any ops listed:=by rw [hr]; simp
   obtain ⟨h1,h2,_⟩:=ready_iff.1 this
   rw [getD_eq (by omega) true false,hall i h1] at h2
   cases h2
 | f + 1,listed,ν,a,w,hsz,hi,hcnt=>by
  refine ⟨fun hr=>?_,fun k hk=>?_⟩
  ·-- none is ready: all are done
   refine hQ ν a w _ (fun p=>?_) hi
   induction p using Nat.strongRecOn with
   | _ p ih =>
    intro hp
    cases hL : listed.getD p false with
    | true=>rfl
    | false =>
     obtain ⟨o,ho⟩:=oper_of hp
     have : p ∈ Region.ready .any ops listed:=ready_iff.2 ⟨hp,by rw [getD_eq (by omega) true false]; exact hL,o,ho,fun e he hb=>ih e.on (by
      have:=edges_lt (reg_edges h.reg) (show ops.toList[p]? = some o by simpa using ho) e he hb
      omega) (by
      have:=edges_lt (reg_edges h.reg) (show ops.toList[p]? = some o by simpa using ho) e he hb
      omega)⟩
     rw [hr] at this; cases this
  ·obtain ⟨h1,h2,o,ho,h3⟩:=ready_iff.1 hk
   rw [getD_eq (by omega) true false] at h2
   have hpast : ∀ j,(maskOf ops k).testBit j = true → listed.getD j false = true:=fun j hj=>by
    obtain ⟨e,g1,g2,g3⟩:=(mask_iff (reg_edges h.reg) ho).1 hj
    rcases g3 with rfl | g3
    ·exact h3 e g1 g2
    ·have hlt:=edges_lt (reg_edges h.reg) (show ops.toList[k]? = some o by simpa using ho) e g1 g2
     exact hi.down e.on (by omega) (h3 e g1 g2) j g3
   refine DInv.op h hc hB hwr hi ho h1 h2 hpast (fun ν' a' w' hi'=>?_)
   refine draw_any h hc hB hwr hQ f _ ν' a' w' (by simpa using hsz) ?_ ?_
   ·rw [set_getD (by omega)]; exact hi'
   ·rw [set_getD (by omega)]
    have:=cntU_set (L:=fun p=>listed.getD p false) h1 h2
    omega
theorem draw_okA (hc:EvOk P GE nB B w0 callf) (hB:B ≤ w0.heap.size) {s':St} (h:evReg P nB callf ops true s = some s') {ν : Env} {a:Act} {w:World} (hs:StR P GE nB B w0 ν s a w) (hν : ∀ i,s.nx ≤ i → i < s'.nx → ν i = none)
  {Q:Exit → Act → World → Prop} (hQ:∀ a' w' ν',StR P GE nB B w0 ν' s' a' w' → Frg nB ν ν' s s' w w' → Q .normal a' w') : wpAny P .any ops Q ops.size (Array.replicate ops.size false) a w.drew:=by
 simp only [evReg] at h
 split at h
 ·rename_i hreg
  split at h
  ·rename_i T' nx' rs' hd
   cases h
   obtain ⟨D,h1,h2,h3,h4,h5,h6,h7⟩:=draw_data hd
   simp only [Nat.zero_add,Array.length_toList] at h4 h5 h6 h7
   have hA : DAll P nB callf ops s D:=⟨hreg,fun j o ho=>by
    obtain ⟨m,hm',hAt⟩:=h7 j o (by simpa using ho)
    have : maskOf ops j = m:=by unfold maskOf; rw [List.getD_eq_getElem?_getD,hm']; rfl
    rw [this]; exact hAt,h1,h2,h3,hs.ids⟩
   have hns : ∀ p,p ≤ ops.size → s.nx ≤ D.nx p:=fun p hp=>by have:=hA.mono (j:=0) (k:=p) (by omega) hp; rwa [h2] at this
   have e1 : hL ops s D (fun p=>(Array.replicate ops.size false).getD p false) = s.H.get:=by
    funext i
    unfold hL
    have : lastOf (fun p=>dget (D.d p) i) (fun p=>(Array.replicate ops.size false).getD p false) ops.size = none:=by
     rw [lastOf_cut (k:=0) (Nat.zero_le _) (fun p _ hp=>by simp [Array.getD_eq_getD_getElem?,hp])]
     all_goals rfl
    rw [this]
   have e2 : tL ops s D (fun p=>(Array.replicate ops.size false).getD p false) = s.T.get:=by
    funext x
    unfold tL
    have : lastOf (slotW s.nt ops D x) (fun p=>(Array.replicate ops.size false).getD p false) ops.size = none:=by
     rw [lastOf_cut (k:=0) (Nat.zero_le _) (fun p _ hp=>by simp [Array.getD_eq_getD_getElem?,hp])]
     all_goals rfl
    rw [this]
   have e3 : oL ops s D (fun p=>(Array.replicate ops.size false).getD p false) = fun i=>i < s.nx:=by
    funext i
    apply propext
    unfold oL
    constructor
    ·rintro (h | ⟨p,hp,hL,_⟩)
     ·exact h
     ·simp [Array.getD_eq_getD_getElem?,hp] at hL
    ·exact .inl
   have e4 : wL ops s D (fun p=>(Array.replicate ops.size false).getD p false) = fun i=>i ∈ s.wr:=by
    funext i
    apply propext
    unfold wL
    constructor
    ·rintro (h | ⟨p,hp,hL,_⟩)
     ·exact h
     ·simp [Array.getD_eq_getD_getElem?,hp] at hL
    ·exact .inl
   refine draw_any hA hc hB hs.wrs (ν0:=ν) (w00:=w.drew) (fun ν' a' w' L hall hi=>?_) ops.size _ ν a w.drew (by simp) ?_ ?_
   ·-- at the end
    have g1 : hL ops s D L = (allH s.H rs').get:=by
     funext i
     rw [← h6,allH_get (fun j hj=>hA.R (by omega)) h3 i]
     unfold hL
     have : lastOf (fun p=>dget (D.d p) i) L ops.size = lastOf (fun p=>dget (D.d p) i) (fun _=>true) ops.size:=lastOf_congr (fun p hp _=>hall p hp)
     rw [this]
     all_goals rfl
    have g2 : tL ops s D L = T'.get:=by
     funext x
     rw [← h4,T_get (T:=s.T) (Nat.le_refl _) (fun j o hj ho=>(hA.at_ j o ho).T) h1 x]
     unfold tL
     have : lastOf (slotW s.nt ops D x) L ops.size = lastOf (slotW s.nt ops D x) (fun _=>true) ops.size:=lastOf_congr (fun p hp _=>hall p hp)
     rw [this]
     all_goals rfl
    have g3 : ∀ i,oL ops s D L i ↔ i < nx':=fun i=>by
     unfold oL
     constructor
     ·rintro (g | ⟨p,hp,_,g,g'⟩)
      ·have:=hns ops.size (Nat.le_refl _); omega
      ·have:=hA.mono (j:=p + 1) (k:=ops.size) (by omega) (by omega); omega
     ·intro g
      by_cases hi0 : i < s.nx
      ·exact .inl hi0
      ·right
       have key : ∀ k,k ≤ ops.size → i < D.nx k → ∃ p,p < k ∧ D.nx p ≤ i ∧ i < D.nx (p + 1):=by
        intro k
        induction k with
        | zero=>intro _ hk; rw [h2] at hk; omega
        | succ k ih =>
         intro hk hik
         by_cases hlt : i < D.nx k
         ·obtain ⟨p,q1,q2⟩:=ih (by omega) hlt
          exact ⟨p,by omega,q2⟩
         ·exact ⟨k,by omega,by omega,hik⟩
       obtain ⟨p,q1,q2,q3⟩:=key ops.size (Nat.le_refl _) (by rw [h5]; exact g)
       exact ⟨p,q1,hall p q1,q2,q3⟩
    have g4 : ∀ i,wL ops s D L i ↔ i ∈ wrOf rs' ++ s.wr:=fun i=>by
     rw [List.mem_append,← h6,wrOf_mem (fun j hj=>hA.R (by omega)) h3 i]
     unfold wL
     constructor
     ·rintro (g | ⟨p,hp,_,g⟩)
      ·exact .inr g
      ·exact .inl ⟨p,hp,g⟩
     ·rintro (⟨p,hp,g⟩ | g)
      ·exact .inr ⟨p,hp,hall p hp,g⟩
      ·exact .inl g
    have g5 : ∀ i ∈ wrOf rs' ++ s.wr,i < nx':=fun i hi'=>by
     rcases List.mem_append.1 hi' with g | g
     ·rw [← h6,wrOf_mem (fun j hj=>hA.R (by omega)) h3 i] at g
      obtain ⟨j,hj,g⟩:=g
      have:=(mem_oldW.1 g).1
      have:=hA.mono (j:=j) (k:=ops.size) (by omega) (by omega)
      omega
     ·have:=hs.wrs i g; have:=hns ops.size (Nat.le_refl _); omega
    have st:=hi.st
    have fr:=hi.fr
    rw [g1,g2] at st
    rw [g1] at fr
    refine hQ a' w' ν' ⟨fun i k _ hk=>st.hr i k hk,fun i k l _=>st.low i k l,st.inj,fun i k hk=>(g3 i).1 (st.ids i k hk),st.glob,st.below,st.tr,st.sz,st.df,g5⟩ ⟨by have:=hns ops.size (Nat.le_refl _); show s.nx ≤ nx'; omega,rfl,fun i hi'=>List.mem_append_right _ hi',fun i hni=>?_,fun ad had hno=>?_,fun i l hin hh hl=>?_,fun i k hk hin=>fr.live i k hk hin,fun i hin hw=>fr.kept i hin (fun hh=>hw ((g4 i).1 hh)),fun i hi'=>?_,fr.size⟩
    ·refine fr.ext i ?_
     by_cases hlt : i < s.nx
     ·exact .inl hlt
     ·exact .inr (fun hh=>hni ⟨by omega,(g3 i).1 hh⟩)
    ·exact fr.frame ad had (fun i l hw hin hl=>hno i l ((g4 i).1 hw) hin hl)
    ·rcases fr.fresh i l (by omega) (hh.imp (g4 i).2 (fun q=>q)) hl with q | ⟨j,lj,q1,q2,q3,q4⟩
     ·exact .inl q
     ·exact .inr ⟨j,lj,(g4 j).1 q1,q2,q3,q4⟩
    ·rcases fr.old i ((g4 i).2 hi') with q | q | q
     ·exact .inl q
     ·exact .inr (.inl (by omega))
     ·exact .inr (.inr q)
   ·refine ⟨?_,?_,fun p hp _ i q1 q2=>hν i (by have:=hns p (by omega); omega) (by have:=hA.mono (j:=p + 1) (k:=ops.size) (by omega) (by omega); rw [h5] at this; show i < nx'; omega),fun k hk hL=>by simp [Array.getD_eq_getD_getElem?,hk] at hL⟩
    ·rw [e1,e2,e3]
     exact ⟨fun i k hk=>hs.hr i k trivial hk,fun i k l hn=>hs.low i k l trivial hn,hs.inj,hs.ids,hs.glob,hs.below.drew,hs.tr,hs.sz,hs.df⟩
    ·rw [e1,e3,e4]
     exact FrgO.refl hs.wrs hs.ids
   ·have : ∀ (L:Nat → Bool) (n:Nat),cntU L n ≤ n:=by
     intro L n
     induction n with
     | zero=>exact Nat.le_refl _
     | succ n ih=>simp only [cntU]; split <;> omega
    exact this _ _
  ·cases h
 ·cases h
theorem draw_ok (hm:P.follows .mixedOrders = true) (hc:EvOk P GE nB B w0 callf) (hB:B ≤ w0.heap.size) {id:Nat} {s':St} (h:evReg P nB callf ops true s = some s') {ν : Env} {a:Act} {w:World} (hs:StR P GE nB B w0 ν s a w) (hν : ∀ i,s.nx ≤ i → i < s'.nx → ν i = none)
  {Q:Exit → Act → World → Prop} (hQ:∀ a' w' ν',StR P GE nB B w0 ν' s' a' w' → Frg nB ν ν' s s' w w' → Q .normal a' w') : (Code.region id ops true).wp P Q a w:=wp_region_any hm (draw_okA hc hB h hs hν hQ)
end
end Go.Proofs.YtjpfhhndjpdmoaaGreatDoor

namespace Go.Proofs.YtjpfhhndjpdmoaaGreatDoor
open Go.RowKit
set_option linter.unusedVariables false
set_option linter.unusedSectionVars false
set_option linter.unusedSimpArgs false

def LoopW (P:Program) (c:Code) (Q:Exit → Act → World → Prop) (a:Act) (w:World) : Prop :=
 ∀ (b:Frame) (k:List Item) (cs:List Frame),∃ e a' w',Q e a' w' ∧ Arrives P (lone (b.at a (.code c :: .inLoop c :: k)) cs w) b k cs e a' w'
theorem wp_of_loopW {P:Program} {c:Code} {Q:Exit → Act → World → Prop} {a:Act} {w:World} (h:LoopW P c Q a w) : (Code.loop c).wp P Q a w:=by
 intro b k cs
 obtain ⟨e,a',w',hq,harr⟩:=h b k cs
 exact ⟨e,a',w',hq,.of_steps (.one step_loop) harr⟩
theorem loopW_round {P:Program} {c:Code} {Q:Exit → Act → World → Prop} {a:Act} {w:World} (h:c.wp P (Exit.then (LoopW P c Q) Q) a w) : LoopW P c Q a w:=by
 intro b k cs
 obtain ⟨e,a₁,w₁,hq,harr⟩:=h b (.inLoop c :: k) cs
 cases e with
 | normal =>
  obtain ⟨e₂,a₂,w₂,hq₂,harr₂⟩:=hq b k cs
  exact ⟨e₂,a₂,w₂,hq₂,.of_steps (Steps.trans harr (.one step_inLoop)) harr₂⟩
 | exit id=>exact ⟨_,a₁,w₁,hq,.pass (x:=.inLoop c) rfl (fun _ _=>.inl (by simp)) harr⟩
 | goto l=>exact ⟨_,a₁,w₁,hq,.pass (x:=.inLoop c) rfl (fun _ _=>.inl (by simp)) harr⟩
 | ret=>exact ⟨_,a₁,w₁,hq,.pass (x:=.inLoop c) rfl (fun _ _=>.inl (by simp)) harr⟩
 | panic ch=>exact ⟨_,a₁,w₁,hq,.pass (x:=.inLoop c) rfl (fun _ _=>.inl (by simp)) harr⟩
 | outgrown=>exact ⟨_,a₁,w₁,hq,.pass (x:=.inLoop c) rfl (fun _ _=>.inl (by simp)) harr⟩
def exR : Ex → Exit
 | .normal=>.normal
 | .exit i=>.exit i
 | .ret=>.ret
section
variable {P:Program} {GE:Env → Prop} [hGE : GEok P GE] {nB B:Nat} {w0:World} {callf:FuncId → List LV → Hp → Nat → Option Out}
theorem evDraw_mono {nt:Nat} {ops:Array Oper} {H:Hp} : ∀ {l:List Oper} {ms:List Nat} {k:Nat} {T T':Tr LV} {nx nx':Nat} {rs rs':List Rc},evDraw P nB callf nt ops H l ms k T nx rs = some (T',nx',rs') → nx ≤ nx'
 | [],ms,k,T,T',nx,nx',rs,rs',h=>by simp only [evDraw,Option.some.injEq,Prod.mk.injEq] at h; omega
 | o :: l,[],k,T,T',nx,nx',rs,rs',h=>by simp [evDraw] at h
 | o :: l,m :: ms,k,T,T',nx,nx',rs,rs',h=>by
  simp only [evDraw] at h
  split at h
  ·split at h
   ·split at h
    ·rename_i hc
     have:=evDraw_mono h
     omega
    ·cases h
   ·cases h
  ·exact evDraw_mono h
  ·cases h
theorem evReg_mono {ops:Array Oper} {draw:Bool} {s s':St} (h:evReg P nB callf ops draw s = some s') : s.nx ≤ s'.nx:=by
 cases draw with
 | false=>exact evSeq_mono h
 | true =>
  simp only [evReg] at h
  split at h
  ·split at h
   ·rename_i hd
    cases h
    exact evDraw_mono hd
   ·cases h
  ·cases h
theorem evC_mono : ∀ {n:Nat} {c:Code} {s s':St} {e:Ex},evC P nB callf n c s = some (e,s') → s.nx ≤ s'.nx
 | 0,c,s,s',e,h=>by simp [evC] at h
 | n + 1,c,s,s',e,h=>by
  cases c with
  | skip=>simp only [evC,Option.some.injEq,Prod.mk.injEq] at h; rw [← h.2]; exact Nat.le_refl _
  | region id ops draw =>
   simp only [evC] at h
   split at h
   ·rename_i s1 hs1
    simp only [Option.some.injEq,Prod.mk.injEq] at h
    rw [← h.2]; exact evReg_mono hs1
   ·cases h
  | seq a b =>
   simp only [evC] at h
   split at h
   ·rename_i s1 h1
    exact Nat.le_trans (evC_mono h1) (evC_mono h)
   ·exact evC_mono h
  | cond c a b =>
   simp only [evC] at h
   split at h
   ·exact evC_mono h
   ·exact evC_mono h
   ·cases h
  | block id b =>
   simp only [evC] at h
   split at h
   ·rename_i i s1 h1
    have:=evC_mono h1
    split at h
    all_goals (simp only [Option.some.injEq,Prod.mk.injEq] at h; rw [← h.2]; exact this)
   ·exact evC_mono h
  | loop b =>
   simp only [evC] at h
   split at h
   ·rename_i s1 h1
    exact Nat.le_trans (evC_mono h1) (evC_mono h)
   ·exact evC_mono h
  | exit id=>simp only [evC,Option.some.injEq,Prod.mk.injEq] at h; rw [← h.2]; exact Nat.le_refl _
  | ret=>simp only [evC,Option.some.injEq,Prod.mk.injEq] at h; rw [← h.2]; exact Nat.le_refl _
  | rangeFunc _ _ _ _=>simp [evC] at h
  | scope _=>simp [evC] at h
  | label _=>simp [evC] at h
  | goto _=>simp [evC] at h
  | refuse _=>simp [evC] at h
def Left (P:Program) (GE:Env → Prop) (nB B:Nat) (w0:World) (ν : Env) (s:St) (w:World) (x:Ex) (s':St) : Exit → Act → World → Prop:=fun e a' w'=>e = exR x ∧ ∃ ν',StR P GE nB B w0 ν' s' a' w' ∧ Frg nB ν ν' s s' w w'
theorem free_of {ν ν1 : Env} {s s1 s2:St} {w w1:World} (h:Frg nB ν ν1 s s1 w w1) (hm:s1.nx ≤ s2.nx) (hν : ∀ i,s.nx ≤ i → i < s2.nx → ν i = none) : ∀ i,s1.nx ≤ i → i < s2.nx → ν1 i = none:=fun i h1 h2=>by
 have:=h.nx
 rw [h.ext i (by omega)]
 exact hν i (by omega) h2
def CodeOk (P:Program) (GE:Env → Prop) (nB B:Nat) (w0:World) (callf:FuncId → List LV → Hp → Nat → Option Out) (n:Nat) : Prop:=∀ (c:Code) (s s':St) (x:Ex),evC P nB callf n c s = some (x,s') → ∀ (ν : Env) (a:Act) (w:World),StR P GE nB B w0 ν s a w → (∀ i,s.nx ≤ i → i < s'.nx → ν i = none) → c.wp P (Left P GE nB B w0 ν s w x s') a w
def LoopOk (P:Program) (GE:Env → Prop) (nB B:Nat) (w0:World) (callf:FuncId → List LV → Hp → Nat → Option Out) (n:Nat) : Prop:=∀ (c:Code) (s s':St) (x:Ex),evC P nB callf n (.loop c) s = some (x,s') → ∀ (ν : Env) (a:Act) (w:World),StR P GE nB B w0 ν s a w → (∀ i,s.nx ≤ i → i < s'.nx → ν i = none) → LoopW P c (Left P GE nB B w0 ν s w x s') a w
theorem LoopW.mono {c:Code} {Q Q':Exit → Act → World → Prop} {a:Act} {w:World} (h:LoopW P c Q a w) (hq:∀ e a w,Q e a w → Q' e a w) : LoopW P c Q' a w :=
 fun b k cs=>let ⟨e,a',w',q,r⟩:=h b k cs; ⟨e,a',w',hq _ _ _ q,r⟩
theorem loop_step {n:Nat} (hC:CodeOk P GE nB B w0 callf n) (hL:LoopOk P GE nB B w0 callf n) : LoopOk P GE nB B w0 callf (n + 1):=by
 intro c1 s s' x h ν a w hs hν
 simp only [evC] at h
 refine loopW_round ?_
 split at h
 ·rename_i s1 h1
  have m2:=evC_mono h
  refine wp_mono (hC c1 s s1 .normal h1 ν a w hs (fun i g1 g2=>hν i g1 (by omega))) ?_
  rintro e a1 w1 ⟨rfl,ν1,g1,g2⟩
  show LoopW P c1 _ a1 w1
  refine (hL c1 s1 s' x h ν1 a1 w1 g1 (free_of g2 m2 hν)).mono ?_
  rintro e a2 w2 ⟨rfl,ν2,g3,g4⟩
  exact ⟨rfl,ν2,g3,g2.trans g4⟩
 ·rename_i hne
  refine wp_mono (hC c1 s s' x h ν a w hs hν) ?_
  rintro e a1 w1 ⟨rfl,g⟩
  cases x with
  | normal=>exact absurd h (fun hh=>hne s' hh)
  | exit i=>exact ⟨rfl,g⟩
  | ret=>exact ⟨rfl,g⟩
theorem code_step (hm:P.follows .mixedOrders = true) (hc:EvOk P GE nB B w0 callf) (hB:B ≤ w0.heap.size) {n:Nat} (hC:CodeOk P GE nB B w0 callf n) (hL:LoopOk P GE nB B w0 callf n) : CodeOk P GE nB B w0 callf (n + 1):=by
 intro c s s' x h ν a w hs hν
 cases c with
 | skip =>
  simp only [evC,Option.some.injEq,Prod.mk.injEq] at h
  obtain ⟨rfl,rfl⟩:=h
  exact wp_skip ⟨rfl,ν,hs,Frg.refl hs.wrs hs.ids⟩
 | exit id =>
  simp only [evC,Option.some.injEq,Prod.mk.injEq] at h
  obtain ⟨rfl,rfl⟩:=h
  exact wp_exit ⟨rfl,ν,hs,Frg.refl hs.wrs hs.ids⟩
 | ret =>
  simp only [evC,Option.some.injEq,Prod.mk.injEq] at h
  obtain ⟨rfl,rfl⟩:=h
  exact wp_ret ⟨rfl,ν,hs,Frg.refl hs.wrs hs.ids⟩
 | region id ops draw =>
  simp only [evC] at h
  split at h
  ·rename_i s1 hs1
   simp only [Option.some.injEq,Prod.mk.injEq] at h
   obtain ⟨rfl,rfl⟩:=h
   cases draw with
   | false=>exact wp_region_list (seq_ok hc hB hs1 hs hν (fun a' w' ν' g1 g2=>⟨rfl,ν',g1,g2⟩))
   | true=>exact draw_ok hm hc hB hs1 hs hν (fun a' w' ν' g1 g2=>⟨rfl,ν',g1,g2⟩)
  ·cases h
 | seq c1 c2 =>
  simp only [evC] at h
  apply wp_seq
  split at h
  ·rename_i s1 h1
   have m2:=evC_mono h
   refine wp_mono (hC _ _ _ _ h1 _ _ _ hs (fun i g1 g2=>hν i g1 (by omega))) ?_
   rintro e a1 w1 ⟨rfl,ν1,g1,g2⟩
   show c2.wp P _ a1 w1
   refine wp_mono (hC _ _ _ _ h _ _ _ g1 (free_of g2 m2 hν)) ?_
   rintro e a2 w2 ⟨rfl,ν2,g3,g4⟩
   exact ⟨rfl,ν2,g3,g2.trans g4⟩
  ·rename_i hne
   refine wp_mono (hC _ _ _ _ h _ _ _ hs hν) ?_
   rintro e a1 w1 ⟨rfl,g⟩
   cases x with
   | normal=>exact absurd h (fun hh=>hne s' hh)
   | exit i=>exact ⟨rfl,g⟩
   | ret=>exact ⟨rfl,g⟩
 | cond q c1 c2 =>
  simp only [evC] at h
  split at h
  ·rename_i hq
   have hv:=opd_ok hs.tr hs.glob hq
   simp only [VR] at hv
   exact wp_cond_true hv.1 (hC _ _ _ _ h _ _ _ hs hν)
  ·rename_i hq
   have hv:=opd_ok hs.tr hs.glob hq
   simp only [VR] at hv
   exact wp_cond_false hv.1 (hC _ _ _ _ h _ _ _ hs hν)
  ·cases h
 | block id c1 =>
  simp only [evC] at h
  apply wp_block
  split at h
  ·rename_i i s1 h1
   split at h
   ·rename_i hi
    simp only [Option.some.injEq,Prod.mk.injEq] at h
    obtain ⟨rfl,rfl⟩:=h
    refine wp_mono (hC _ _ _ _ h1 _ _ _ hs hν) ?_
    rintro e a1 w1 ⟨rfl,g⟩
    show (if i = id then _ else _)
    rw [if_pos hi]
    exact ⟨rfl,g⟩
   ·rename_i hi
    simp only [Option.some.injEq,Prod.mk.injEq] at h
    obtain ⟨rfl,rfl⟩:=h
    refine wp_mono (hC _ _ _ _ h1 _ _ _ hs hν) ?_
    rintro e a1 w1 ⟨rfl,g⟩
    show (if i = id then _ else _)
    rw [if_neg hi]
    exact ⟨rfl,g⟩
  ·rename_i hne
   refine wp_mono (hC _ _ _ _ h _ _ _ hs hν) ?_
   rintro e a1 w1 ⟨rfl,g⟩
   cases x with
   | normal=>exact ⟨rfl,g⟩
   | exit i=>exact absurd h (fun hh=>hne i s' hh)
   | ret=>exact ⟨rfl,g⟩
 | loop c1 =>
  refine wp_of_loopW ?_
  exact loop_step hC hL c1 s s' x h ν a w hs hν
 | rangeFunc _ _ _ _=>simp [evC] at h
 | scope _=>simp [evC] at h
 | label _=>simp [evC] at h
 | goto _=>simp [evC] at h
 | refuse _=>simp [evC] at h
theorem code_all (hm:P.follows .mixedOrders = true) (hc:EvOk P GE nB B w0 callf) (hB:B ≤ w0.heap.size) : ∀ n,CodeOk P GE nB B w0 callf n ∧ LoopOk P GE nB B w0 callf n
 | 0=>⟨fun c s s' x h=>by simp [evC] at h,fun c s s' x h=>by simp [evC] at h⟩
 | n + 1=>⟨code_step hm hc hB (code_all hm hc hB n).1 (code_all hm hc hB n).2,loop_step (code_all hm hc hB n).1 (code_all hm hc hB n).2⟩
end
end Go.Proofs.YtjpfhhndjpdmoaaGreatDoor
