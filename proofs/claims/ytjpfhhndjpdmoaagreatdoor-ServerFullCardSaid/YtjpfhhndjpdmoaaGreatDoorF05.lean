/- Part of the proof: EvY,EvZ,EvDa,EvDb. No conditions of its own. -/
import Derived.Test.YtjpfhhndjpdmoaaGreatDoorF04
namespace Go.Proofs.YtjpfhhndjpdmoaaGreatDoor
open Go.RowKit
set_option linter.unusedVariables false
set_option linter.unusedSectionVars false
set_option linter.unusedSimpArgs false

class GEok (P:Program) (GE:Env → Prop) : Prop where
 mono : ∀ ν ν',Ext ν ν' → GE ν → GE ν'
 glob : ∀ ν,GE ν → GlobE P ν
instance globOk (P:Program) : GEok P (GlobE P):=⟨fun ν ν' h hg g hlt=>by obtain ⟨sz,e⟩:=hg g hlt; exact ⟨sz,h g _ e⟩,fun _ h=>h⟩
section
variable {P:Program} {GE:Env → Prop} [hGE : GEok P GE] {nB B:Nat} {w0:World}
def TR (ν : Env) (T:Tr LV) (tmps:Array Value) : Prop:=∀ t l,T.get t = some l → VR ν l (tmps.getD t undef)
structure StR (P:Program) (GE:Env → Prop) (nB B:Nat) (w0:World) (ν : Env) (s:St) (a:Act) (w:World) : Prop where
 hr : HRF ν s.H none w
 low : LowF nB B ν s.H none
 inj : InjH ν s.H
 ids : ∀ i k,s.H.get i = some k → i < s.nx
 glob : GE ν
 below : Below B w0 w
 tr : TR ν s.T a.tmps
 sz : a.tmps.size = s.nt
 df : a.defers = []
 wrs : ∀ i ∈ s.wr,i < s.nx
structure Frg (nB:Nat) (ν ν' : Env) (s s':St) (w w':World) : Prop where
 nx : s.nx ≤ s'.nx
 nt : s'.nt = s.nt
 wr : ∀ i ∈ s.wr,i ∈ s'.wr
 ext : ∀ i,¬ (s.nx ≤ i ∧ i < s'.nx) → ν' i = ν i
 frame : ∀ a,a < w.heap.size → (∀ i l,i ∈ s'.wr → i < s.nx → ν i = some l → l.addr ≠ a) → w'.heap[a]? = w.heap[a]?
 fresh : ∀ i l,s.nx ≤ i → (i ∈ s'.wr ∨ ∃ k,s'.H.get i = some k) → ν' i = some l → w.heap.size ≤ l.addr ∨ ∃ j lj,j ∈ s'.wr ∧ j < s.nx ∧ ν j = some lj ∧ lj.addr = l.addr
 live : ∀ i k,s'.H.get i = some k → i < s.nx → ∃ k0,s.H.get i = some k0
 kept : ∀ i,i < s.nx → i ∉ s'.wr → s'.H.get i = s.H.get i
 old : ∀ i ∈ s'.wr,i ∈ s.wr ∨ s.nx ≤ i ∨ (nB ≤ i ∧ ∃ k,s.H.get i = some k)
 size : w.heap.size ≤ w'.heap.size
theorem Frg.refl {ν : Env} {s:St} {w:World} (h:∀ i ∈ s.wr,i < s.nx) (hids:∀ i k,s.H.get i = some k → i < s.nx) : Frg nB ν ν s s w w where
 nx:=Nat.le_refl _
 nt:=rfl
 wr:=fun _ h=>h
 ext:=fun _ _=>rfl
 frame:=fun _ _ _=>rfl
 fresh:=fun i l hi h=>by
  rcases h with h' | ⟨k,hk⟩
  ·have:=h i h'; omega
  ·have:=hids i k hk; omega
 live:=fun i k hk _=>⟨k,hk⟩
 kept:=fun _ _ _=>rfl
 old:=fun i hi=>.inl hi
 size:=Nat.le_refl _
theorem Frg.trans {ν ν1 ν2 : Env} {s s1 s2:St} {w w1 w2:World} (h:Frg nB ν ν1 s s1 w w1) (k:Frg nB ν1 ν2 s1 s2 w1 w2) : Frg nB ν ν2 s s2 w w2:=by
 have hn:=h.nx
 have kn:=k.nx
 -- what is known of a number written by the second stretch,or alive behind the first
 have alias1 : ∀ i l,i ∈ s2.wr → i < s1.nx → ν1 i = some l → s.nx ≤ i → w.heap.size ≤ l.addr ∨ ∃ j lj,j ∈ s2.wr ∧ j < s.nx ∧ ν j = some lj ∧ lj.addr = l.addr:=by
  intro i l hi hi1 hl hin
  have hh : i ∈ s1.wr ∨ ∃ q,s1.H.get i = some q:=by
   rcases k.old i hi with h1 | h1 | h1
   ·exact .inl h1
   ·omega
   ·exact .inr h1.2
  rcases h.fresh i l hin hh hl with h2 | ⟨j,lj,h2,h3,h4,h5⟩
  ·exact .inl h2
  ·exact .inr ⟨j,lj,k.wr j h2,h3,h4,h5⟩
 refine ⟨by omega,k.nt.trans h.nt,fun i hi=>k.wr i (h.wr i hi),fun i hi=>?_,fun a ha hno=>?_,fun i l hi hh hl=>?_,fun i q hq hi=>?_,fun i hi hw=>?_,fun i hi=>?_,Nat.le_trans h.size k.size⟩
 ·rw [k.ext i (by omega),h.ext i (by omega)]
 ·have e1 : w1.heap[a]? = w.heap[a]?:=h.frame a ha (fun i l hi hin hl=>hno i l (k.wr i hi) hin hl)
  rw [← e1]
  refine k.frame a (Nat.lt_of_lt_of_le ha h.size) (fun i l hi hin hl=>?_)
  by_cases hlt : i < s.nx
  ·rw [h.ext i (by omega)] at hl
   exact hno i l hi hlt hl
  ·rcases alias1 i l hi hin hl (by omega) with h1 | ⟨j,lj,h1,h2,h3,h4⟩
   ·omega
   ·have:=hno j lj h1 h2 h3; omega
 ·by_cases hlt : i < s1.nx
  ·rw [k.ext i (by omega)] at hl
   rcases hh with hh | ⟨q,hq⟩
   ·exact alias1 i l hh hlt hl hi
   ·obtain ⟨q0,hq0⟩:=k.live i q hq hlt
    rcases h.fresh i l hi (.inr ⟨q0,hq0⟩) hl with h2 | ⟨j,lj,h2,h3,h4,h5⟩
    ·exact .inl h2
    ·exact .inr ⟨j,lj,k.wr j h2,h3,h4,h5⟩
  ·rcases k.fresh i l (by omega) hh hl with h1 | ⟨j,lj,h1,h2,h3,h4⟩
   ·exact .inl (Nat.le_trans h.size h1)
   ·by_cases hjn : j < s.nx
    ·rw [h.ext j (by omega)] at h3
     exact .inr ⟨j,lj,h1,hjn,h3,h4⟩
    ·rcases alias1 j lj h1 h2 h3 (by omega) with h5 | ⟨j',lj',h5,h6,h7,h8⟩
     ·exact .inl (by omega)
     ·exact .inr ⟨j',lj',h5,h6,h7,by omega⟩
 ·obtain ⟨q1,hq1⟩:=k.live i q hq (by omega)
  exact h.live i q1 hq1 hi
 ·rw [k.kept i (by omega) hw,h.kept i hi (fun hm=>hw (k.wr i hm))]
 ·rcases k.old i hi with h1 | h1 | ⟨h1,q,hq⟩
  ·exact h.old i h1
  ·exact .inr (.inl (by omega))
  ·by_cases hin : i < s.nx
   ·exact .inr (.inr ⟨h1,h.live i q hq hin⟩)
   ·exact .inr (.inl (by omega))
theorem TR.put {ν : Env} {T:Tr LV} {a:Act} {dst:Option Tmp} {v:LV} {v':Value} (h:TR ν T a.tmps) (hv:VR ν v v') : TR ν (putT a.tmps.size T dst v) (a.put dst v').tmps:=by
 cases dst with
 | none=>exact h
 | some d =>
  simp only [putT,Act.put]
  by_cases hd : d < a.tmps.size
  ·rw [if_pos hd]
   intro t l ht
   rw [Tr.get_set] at ht
   split at ht
   ·rename_i e; subst e
    cases ht
    simpa [hd] using hv
   ·rename_i e
    have:=h t l ht
    simp only [Array.getD_eq_getD_getElem?] at this ⊢
    rwa [Array.getElem?_setIfInBounds_ne (Ne.symm e)]
  ·rw [if_neg hd]
   intro t l ht
   have:=h t l ht
   rwa [show a.tmps.setIfInBounds d v' = a.tmps by simp [Array.setIfInBounds,hd]]
theorem TR.ext {ν ν' : Env} {T:Tr LV} {tmps:Array Value} (h:TR ν T tmps) (he:Ext ν ν') : TR ν' T tmps:=fun t l ht=>VR.ext he _ _ (h t l ht)
theorem opd_ok {ν : Env} {T:Tr LV} {a:Act} (h:TR ν T a.tmps) (hg:GE ν) {x:Operand} {l:LV} (hx:opd P T x = some l) : VR ν l (a.eval x):=by
 replace hg:=GEok.glob (P:=P) ν hg
 cases x with
 | tmp t=>exact h t l hx
 | const x=>exact lvOf_ok hx
 | global g =>
  simp only [opd] at hx
  split at hx
  ·rename_i hg'
   cases hx
   obtain ⟨sz,hs⟩:=hg g hg'
   simp only [VR]
   exact ⟨_,hs,rfl⟩
  ·cases hx
 | func f =>
  simp only [opd] at hx
  cases hx
  simp only [VR]
  exact ⟨[],rfl,VRs.nil_iff.2 rfl⟩
def FnHas (P:Program) (f:FuncId) : Prop:=∃ fn,P.funcs[f]? = some fn ∧ fn.body.isSome = true ∧ (fn.name == "runtime.NumGoroutine") = false
def CallOk (P:Program) (nB B:Nat) (w0:World) (callf:FuncId → List LV → Hp → Nat → Option Out) : Prop :=
 ∀ f args H nx out,Nat.ble OB f = false → callf f args H nx = some out → nx ≤ out.nx → FnHas P f ∧ out.foot = none ∧ ∀ (ν : Env) (vs:List Value) (w:World),(∀ i,nx ≤ i → i < out.nx → ν i = none) → VRs ν args vs → HRF ν H none w → LowF nB B ν H none → InjH ν H → (∀ i k,H.get i = some k → i < nx) → GlobE P ν → Below B w0 w →
  Calls P f vs.toArray w (fun e w'=>∃ v' ν',e = .returned v' ∧ OpPost nB B w0 ν ν' H nx out w w' v')
def CallOkW (P:Program) (nB B:Nat) (w0:World) (callf:FuncId → List LV → Hp → Nat → Option Out) : Prop :=
 ∀ f args H nx out,Nat.ble OB f = false → callf f args H nx = some out → nx ≤ out.nx → FnHas P f ∧ ∀ (ν : Env) (vs:List Value) (w:World),(∀ i,nx ≤ i → i < out.nx → ν i = none) → VRs ν args vs → HRF ν H out.foot w → LowF nB B ν H out.foot → InjHF ν H out.foot → (∀ i k,H.get i = some k → i < nx) → GlobE P ν → Below B w0 w →
  Calls P f vs.toArray w (fun e w'=>∃ v' ν',e = .returned v' ∧ OpPost nB B w0 ν ν' H nx out w w' v')
theorem CallOk.wide {P:Program} {nB B:Nat} {w0:World} {callf:FuncId → List LV → Hp → Nat → Option Out} (h:CallOk P nB B w0 callf) : CallOkW P nB B w0 callf:=by
 intro f args H nx out hob hc hnx
 obtain ⟨h1,h2,h3⟩:=h f args H nx out hob hc hnx
 refine ⟨h1,fun ν vs w hν hvs hH hlow hinj hid hg hb=>?_⟩
 rw [h2] at hH hlow hinj
 exact h3 ν vs w hν hvs hH hlow (fun i j ki kj li lj=>hinj i j ki kj li lj trivial trivial) hid hg hb
def OpsOk (P:Program) (GE:Env → Prop) (B:Nat) (w0:World) (callf:FuncId → List LV → Hp → Nat → Option Out) : Prop :=
 ∀ (o:Oper) (T:Tr LV) (v:LV),hintL P callf T o = some v → ∀ (ν : Env) (a:Act) (w:World),GE ν → (∀ x ∈ o.op.operands.toList,∀ l,opd P T x = some l → VR ν l (a.eval x)) → Below B w0 w → ∃ v',(execOp a.eval o).run P w = .ok (.value v') w ∧ VR ν v v'
def EvOk (P:Program) (GE:Env → Prop) (nB B:Nat) (w0:World) (callf:FuncId → List LV → Hp → Nat → Option Out) : Prop:=CallOkW P nB B w0 callf ∧ OpsOk P GE B w0 callf
theorem evOp_wp {callf:FuncId → List LV → Hp → Nat → Option Out} (hc:EvOk P GE nB B w0 callf) (hB:B ≤ w0.heap.size) {T:Tr LV} {H:Hp} {nx:Nat} {out:Out} {o:Oper} (h:evOp P nB callf T H nx o = some out) (hnx:nx ≤ out.nx) {ν : Env} {a:Act} {w:World}
  (hT:∀ x ∈ o.op.operands.toList,∀ l,opd P T x = some l → VR ν l (a.eval x)) (hν : ∀ i,nx ≤ i → i < out.nx → ν i = none) (hH:HRF ν H out.foot w) (hlow:LowF nB B ν H out.foot) (hinj:InjHF ν H out.foot) (hid:∀ i k,H.get i = some k → i < nx) (hg:GE ν) (hb:Below B w0 w)
  {K:Act → World → Prop} {Q:Exit → Act → World → Prop} (hK:∀ v' w' ν',OpPost nB B w0 ν ν' H nx out w w' v' → K (a.put o.dst v') w') : o.wp P a w K Q:=by
 have hall : evOpB P nB callf T H nx o = some out ∨ ∃ v,hintL P callf T o = some v ∧ out = ⟨v,[],nx,some []⟩:=by
  unfold evOp orH at h
  cases hb' : evOpB P nB callf T H nx o with
  | some x=>rw [hb'] at h; exact .inl h
  | none =>
   rw [hb'] at h
   simp only at h
   split at h
   ·rename_i v hv; cases h; exact .inr ⟨v,hv,rfl⟩
   ·cases h
 rcases hall with h | ⟨v,hv,rfl⟩
 rotate_left
 ·obtain ⟨v',h1,h2⟩:=hc.2 o T v hv ν a w hg hT hb
  unfold Oper.wp
  rw [h1,Oper.upon_value]
  exact hK v' w ν (post_val h2 hb)
 by_cases hcall : ∀ c f,o.op = .call c → c.callee ≠ .value f
 ·obtain ⟨v',w',ν',h1,h2 | ⟨h2,rfl⟩⟩:=leaf_ok h hcall hT hν hH hlow hid hb hB
  ·unfold Oper.wp
   rw [h2,Oper.upon_value]
   exact hK v' w' ν' h1
  ·unfold Oper.wp
   rw [h2,Oper.upon_skip]
   exact hK undef w' ν' h1
 ·simp only [Classical.not_forall,Classical.not_not] at hcall
  obtain ⟨c,f,ho,hcf⟩:=hcall
  simp only [evOpB,ho,callL] at h
  split at h
  ·rename_i args hargs
   rw [hcf] at h
   simp only at h
   split at h
   ·rename_i g caps hf
    have hob : Nat.ble OB g = false:=by
     cases hbb : Nat.ble OB g with
     | false=>rfl
     | true=>rw [hbb] at h; cases h
    rw [hob] at h
    obtain ⟨⟨fn,hfn,hbody,hname⟩,hC⟩:=hc.1 g (args ++ caps) H nx out hob h hnx
    have hmem : ∀ x,x ∈ c.args.toList ∨ x = f → x ∈ o.op.operands.toList:=by
     intro x hx
     rw [ho]
     simp only [Op.operands,Call.operands,hcf]
     simp
     rcases hx with hx | hx
     ·right; simpa using hx
     ·left; exact hx
    have hav:=opds_ok (fun x hx=>hT x (hmem x (.inl hx))) hargs
    have hfv:=hT f (hmem f (.inr rfl)) _ hf
    simp only [VR] at hfv
    obtain ⟨cs,e1,hcs⟩:=hfv
    have hnb : fn.body.isNone = false:=by
     cases hbb : fn.body <;> simp_all
    have hrun : (execOp a.eval o).run P w = .ok (.enter g ((c.args.toList.map a.eval ++ cs).toArray)) w:=by
     obtain ⟨dst,op,type,pos,after,guard⟩:=o
     simp only at ho
     subst ho
     simp only [execOp,resolve,hcf,e1,Deferred.ofValue,Sem.run_bind,Sem.run_pure,Result.andThen_ok,invoke,callFunc,run_program,hfn,hname,hnb,Bool.false_eq_true,if_false]
     congr 2
     apply Array.ext'
     simp
    unfold Oper.wp
    rw [hrun,Oper.upon_enter]
    refine (hC ν _ w hν (hav.append hcs) hH hlow hinj hid (GEok.glob _ hg) hb).mono ?_
    rintro e w' ⟨v',ν',rfl,hp⟩
    exact hK v' w' ν' hp
   ·cases h
  ·cases h
theorem mem_oldW {nx i:Nat} : ∀ {d:Dl},i ∈ oldW nx d ↔ i < nx ∧ (dget d i).isSome = true
 | []=>by simp [oldW,dget]
 | (j,b) :: d=>by
  have ih:=mem_oldW (nx:=nx) (i:=i) (d:=d)
  simp only [oldW,dget]
  by_cases hj : j < nx
  ·rw [if_pos hj,List.mem_cons,ih]
   cases hd : dget d i with
   | some x=>simp; omega
   | none =>
    by_cases hij : i = j
    ·simp [hij,hj]
    ·simp [hij]
  ·rw [if_neg hj,ih]
   cases hd : dget d i with
   | some x=>simp
   | none =>
    by_cases hij : i = j
    ·simp [hij]; omega
    ·simp [hij]
theorem post_ext {ν ν' : Env} {H:Hp} {nx:Nat} {out:Out} {w w':World} {v':Value} (h:OpPost nB B w0 ν ν' H nx out w w' v') (hν : ∀ i,nx ≤ i → i < out.nx → ν i = none) : Ext ν ν':=fun i l hl=>by
 by_cases hi : nx ≤ i ∧ i < out.nx
 ·rw [hν i hi.1 hi.2] at hl; cases hl
 ·rw [h.ext i hi]; exact hl
theorem StR.step {ν ν' : Env} {s:St} {a:Act} {w w':World} {out:Out} {v':Value} {dst:Option Tmp} (hs:StR P GE nB B w0 ν s a w) (hB:B ≤ w0.heap.size) (hν : ∀ i,s.nx ≤ i → i < out.nx → ν i = none) (hnx:s.nx ≤ out.nx) (h:OpPost nB B w0 ν ν' s.H s.nx out w w' v') :
  StR P GE nB B w0 ν' ⟨s.nt,putT s.nt s.T dst out.v,s.H.app out.d,out.nx,oldW s.nx out.d ++ s.wr⟩ (a.put dst v') w' ∧ Frg nB ν ν' s ⟨s.nt,putT s.nt s.T dst out.v,s.H.app out.d,out.nx,oldW s.nx out.d ++ s.wr⟩ w w':=by
 have hext:=post_ext h hν
 -- a block that was there and is not touched
 have hold : ∀ i k,s.H.get i = some k → dget out.d i = none → ∃ l,ν i = some l ∧ ν' i = some l ∧ w'.heap[l.addr]? = w.heap[l.addr]? ∧ BlkR ν l k w.heap[l.addr]?:=by
  intro i k hk hd
  obtain ⟨l,hl,hb⟩:=hs.hr i k trivial hk
  refine ⟨l,hl,hext i l hl,?_,hb⟩
  refine h.frame _ hb.heap (fun j lj hj hdj hlj e=>?_)
  obtain ⟨kj,hkj⟩:=Option.isSome_iff_exists.1 (h.old j hj hdj).2
  have:=hs.inj j i kj k lj l hkj hk hlj hl e
  subst this
  rw [hd] at hdj; cases hdj
 have hcase : ∀ i k,(s.H.app out.d).get i = some k → (dget out.d i = some (some k)) ∨ (dget out.d i = none ∧ s.H.get i = some k):=by
  intro i k hk
  rw [get_app] at hk
  split at hk
  ·rename_i x hx; rw [hx,hk]; exact .inl rfl
  ·rename_i hx; exact .inr ⟨hx,hk⟩
 have hfr : ∀ i k l,dget out.d i = some (some k) → ν' i = some l → s.nx ≤ i → w.heap.size ≤ l.addr ∨ ∃ j lj,j < s.nx ∧ dget out.d j = some none ∧ ν j = some lj ∧ lj.addr = l.addr:=fun i k l h1 h2 h3=>h.fresh i k l h3 h1 h2
 refine ⟨⟨?_,?_,?_,?_,?_,h.below,?_,?_,?_,?_⟩,⟨hnx,rfl,fun i hi=>List.mem_append_right _ hi,h.ext,?_,?_,?_,?_,?_,h.size⟩⟩
 ·intro i k _ hk
  rcases hcase i k hk with h1 | ⟨h1,h2⟩
  ·exact h.blk i k h1
  ·obtain ⟨l,_,hl',he,hb⟩:=hold i k h2 h1
   exact ⟨l,hl',by rw [he]; exact hb.ext hext⟩
 ·intro i k l _ hi hk hl
  rcases hcase i k hk with h1 | ⟨h1,h2⟩
  ·by_cases hin : s.nx ≤ i
   ·rcases hfr i k l h1 hl hin with h3 | ⟨j,lj,h3,h4,h5,h6⟩
    ·have:=h.below.size; have:=hs.below.size; omega
    ·obtain ⟨hjB,hj2⟩:=h.old j h3 (by rw [h4]; rfl)
     obtain ⟨kj,hkj⟩:=Option.isSome_iff_exists.1 hj2
     have:=hs.low j kj lj trivial hjB hkj h5
     omega
   ·obtain ⟨hjB,hj2⟩:=h.old i (by omega) (by rw [h1]; rfl)
    obtain ⟨kj,hkj⟩:=Option.isSome_iff_exists.1 hj2
    rw [h.ext i (by omega)] at hl
    exact hs.low i kj l trivial hi hkj hl
  ·obtain ⟨l',hl1,hl2,_,_⟩:=hold i k h2 h1
   rw [hl2] at hl; cases hl
   exact hs.low i k _ trivial hi h2 hl1
 ·-- no two numbers of one block
  have key : ∀ i ki li,(s.H.app out.d).get i = some ki → ν' i = some li → s.nx ≤ i ∨ ∃ q,s.H.get i = some q ∧ ν i = some li ∧ ∀ x,dget out.d i = some x → x ≠ none:=by
   intro i ki li hk hl
   by_cases hin : s.nx ≤ i
   ·exact .inl hin
   ·right
    rw [h.ext i (by omega)] at hl
    rcases hcase i ki hk with h1 | ⟨h1,h2⟩
    ·obtain ⟨q,hq⟩:=Option.isSome_iff_exists.1 (h.old i (by omega) (by rw [h1]; rfl)).2
     exact ⟨q,hq,hl,fun x hx=>by rw [h1] at hx; cases hx; simp⟩
    ·exact ⟨ki,h2,hl,fun x hx=>by rw [h1] at hx; cases hx⟩
  have mix : ∀ i j ki li lj,s.nx ≤ i → (s.H.app out.d).get i = some ki → ν' i = some li → (∃ q,s.H.get j = some q ∧ ν j = some lj ∧ ∀ x,dget out.d j = some x → x ≠ none) → li.addr = lj.addr → False:=by
   intro i j ki li lj hi hk hl ⟨q,hq,hlj,hx⟩ he
   rcases hcase i ki hk with h1 | ⟨h1,h2⟩
   ·rcases hfr i ki li h1 hl hi with h3 | ⟨j',lj',h3,h4,h5,h6⟩
    ·obtain ⟨l',hl',hb⟩:=hs.hr j q trivial hq
     rw [hlj] at hl'; cases hl'
     have:=hb.heap
     omega
    ·obtain ⟨q',hq'⟩:=Option.isSome_iff_exists.1 (h.old j' h3 (by rw [h4]; rfl)).2
     have:=hs.inj j' j q' q lj' lj hq' hq h5 hlj (by omega)
     subst this
     exact hx none h4 rfl
   ·have:=hs.ids i ki h2; omega
  intro i j ki kj li lj hi hj hli hlj he
  rcases key i ki li hi hli with h1 | h1
  ·rcases key j kj lj hj hlj with h2 | h2
   ·have c1 : dget out.d i = some (some ki):=by
     rcases hcase i ki hi with h3 | ⟨_,h3⟩
     ·exact h3
     ·have:=hs.ids i ki h3; omega
    have c2 : dget out.d j = some (some kj):=by
     rcases hcase j kj hj with h3 | ⟨_,h3⟩
     ·exact h3
     ·have:=hs.ids j kj h3; omega
    exact h.inj i j ki kj li lj h1 h2 c1 c2 hli hlj he
   ·exact (mix i j ki li lj h1 hi hli h2 he).elim
  ·rcases key j kj lj hj hlj with h2 | h2
   ·exact (mix j i kj lj li h2 hj hlj h1 he.symm).elim
   ·obtain ⟨q,hq,hl1,_⟩:=h1
    obtain ⟨q',hq',hl2,_⟩:=h2
    exact hs.inj i j q q' li lj hq hq' hl1 hl2 he
 ·intro i k hk
  rcases hcase i k hk with h1 | ⟨h1,h2⟩
  ·by_cases hin : i < s.nx
   ·show i < out.nx; omega
   ·exact h.new i (by omega) (by rw [h1]; rfl)
  ·have:=hs.ids i k h2; show i < out.nx; omega
 ·exact GEok.mono (P:=P) ν ν' hext hs.glob
 ·have:=TR.put (dst:=dst) (hs.tr.ext hext) h.val
  rwa [hs.sz] at this
 ·cases dst <;> simp [Act.put,hs.sz]
 ·cases dst <;> simp [Act.put,hs.df]
 ·intro i hi
  rcases List.mem_append.1 hi with h1 | h1
  ·have:=(mem_oldW.1 h1).1; show i < out.nx; omega
  ·have:=hs.wrs i h1; show i < out.nx; omega
 ·intro a ha hno
  exact h.frame a ha (fun i l hi hd hl=>hno i l (List.mem_append_left _ (mem_oldW.2 ⟨hi,hd⟩)) hi hl)
 ·intro i l hi hh hl
  rcases hh with hh | ⟨k,hk⟩
  ·rcases List.mem_append.1 hh with h1 | h1
   ·have:=(mem_oldW.1 h1).1; omega
   ·have:=hs.wrs i h1; omega
  ·rcases hcase i k hk with h1 | ⟨h1,h2⟩
   ·rcases hfr i k l h1 hl hi with h3 | ⟨j,lj,h3,h4,h5,h6⟩
    ·exact .inl h3
    ·exact .inr ⟨j,lj,List.mem_append_left _ (mem_oldW.2 ⟨h3,by rw [h4]; rfl⟩),h3,h5,h6⟩
   ·have:=hs.ids i k h2; omega
 ·intro i k hk hi
  rcases hcase i k hk with h1 | ⟨h1,h2⟩
  ·exact Option.isSome_iff_exists.1 (h.old i hi (by rw [h1]; rfl)).2
  ·exact ⟨k,h2⟩
 ·intro i hi hw
  show (s.H.app out.d).get i = s.H.get i
  rw [get_app]
  have : dget out.d i = none:=by
   cases hd : dget out.d i with
   | none=>rfl
   | some x=>exact absurd (List.mem_append_left _ (mem_oldW.2 ⟨hi,by rw [hd]; rfl⟩)) hw
  rw [this]
 ·intro i hi
  rcases List.mem_append.1 hi with h1 | h1
  ·obtain ⟨h2,h3⟩:=mem_oldW.1 h1
   exact .inr (.inr ⟨(h.old i h2 h3).1,Option.isSome_iff_exists.1 (h.old i h2 h3).2⟩)
  ·exact .inl h1
end
end Go.Proofs.YtjpfhhndjpdmoaaGreatDoor

namespace Go.Proofs.YtjpfhhndjpdmoaaGreatDoor
open Go.RowKit
set_option linter.unusedVariables false
set_option linter.unusedSectionVars false
set_option linter.unusedSimpArgs false

section
variable {P:Program} {GE:Env → Prop} [hGE : GEok P GE] {nB B:Nat} {w0:World} {callf:FuncId → List LV → Hp → Nat → Option Out} {ops:Array Oper}
theorem getD_bool {tmps:Array Value} {d:Nat} {b:Bool} (h:tmps.getD d undef = .bool b) : tmps[d]? = some (.bool b):=by
 simp only [Array.getD_eq_getD_getElem?] at h
 cases hx : tmps[d]? with
 | none=>rw [hx] at h; simp [undef] at h
 | some v=>rw [hx] at h; simp at h; rw [h]
theorem want_ok {ν : Env} {T:Tr LV} {tmps:Array Value} {o:Oper} {b:Bool} (h:∀ j want d l,o.guard = some (j,want) → (ops[j]?).bind (·.dst) = some d → T.get d = some l → VR ν l (tmps.getD d undef)) (hw:wantL ops T o = some b) : Region.wanted o (yielded ops tmps) = b:=by
 unfold wantL at hw
 unfold Region.wanted
 split at hw
 ·rename_i hg; cases hw; rw [hg]
 ·rename_i j want hg
  rw [hg]
  simp only
  split at hw
  ·rename_i d hd
   split at hw
   ·rename_i c hc
    have h1:=h j want d _ hg hd hc
    simp only [VR] at h1
    have h2:=getD_bool h1.1
    cases hw
    simp [yielded,hd,h2]
   ·rename_i cs hc
    have h1:=h j want d _ hg hd hc
    simp only [VR] at h1
    obtain ⟨vs,h1,_⟩:=h1
    cases hw
    have : yielded ops tmps j = none:=by
     unfold yielded
     rw [hd]
     simp only [Option.bind_some]
     simp only [Array.getD_eq_getD_getElem?] at h1
     cases hx : tmps[d]? with
     | none=>rfl
     | some v=>rw [hx] at h1; simp at h1; rw [h1]
    rw [this]; rfl
   ·cases hw
  ·cases hw
theorem undef_ok (ν : Env) : VR ν (.tup []) undef:=by simp [VR,VRs,undef]
theorem StR.skip {ν : Env} {s:St} {a:Act} {w:World} {dst:Option Tmp} (hs:StR P GE nB B w0 ν s a w) : StR P GE nB B w0 ν { s with T:=putT s.nt s.T dst (.tup []) } (a.put dst undef) w ∧ Frg nB ν ν s { s with T:=putT s.nt s.T dst (.tup []) } w w:=by
 refine ⟨⟨hs.hr,hs.low,hs.inj,hs.ids,hs.glob,hs.below,?_,?_,?_,hs.wrs⟩,?_⟩
 ·have:=TR.put (dst:=dst) hs.tr (undef_ok ν)
  rwa [hs.sz] at this
 ·cases dst <;> simp [Act.put,hs.sz]
 ·cases dst <;> simp [Act.put,hs.df]
 ·have:=Frg.refl (nB:=nB) (ν:=ν) (w:=w) hs.wrs hs.ids
  exact ⟨this.nx,rfl,this.wr,this.ext,this.frame,this.fresh,this.live,this.kept,this.old,this.size⟩
theorem evSeq_mono : ∀ {l:List Oper} {s s':St},evSeq P nB callf ops l s = some s' → s.nx ≤ s'.nx
 | [],s,s',h=>by simp only [evSeq] at h; cases h; exact Nat.le_refl _
 | o :: l,s,s',h=>by
  simp only [evSeq] at h
  split at h
  ·split at h
   ·split at h
    ·rename_i hle
     have:=evSeq_mono h
     exact Nat.le_trans hle this
    ·cases h
   ·cases h
  ·have:=evSeq_mono h; exact this
  ·cases h
theorem seq_ok (hc:EvOk P GE nB B w0 callf) (hB:B ≤ w0.heap.size) : ∀ {l:List Oper} {s s':St},evSeq P nB callf ops l s = some s' → ∀ {ν : Env} {a:Act} {w:World},StR P GE nB B w0 ν s a w → (∀ i,s.nx ≤ i → i < s'.nx → ν i = none) →
  ∀ {Q:Exit → Act → World → Prop},(∀ a' w' ν',StR P GE nB B w0 ν' s' a' w' → Frg nB ν ν' s s' w w' → Q .normal a' w') → wpList P ops Q l a w
 | [],s,s',h,ν,a,w,hs,_,Q,hQ=>by
  simp only [evSeq] at h; cases h
  exact wpList_nil (hQ a w ν hs (Frg.refl hs.wrs hs.ids))
 | o :: l,s,s',h,ν,a,w,hs,hν,Q,hQ=>by
  simp only [evSeq] at h
  split at h
  ·rename_i hw
   split at h
   ·rename_i out hout
    split at h
    ·rename_i hle
     have hm:=evSeq_mono h
     have hν1 : ∀ i,s.nx ≤ i → i < out.nx → ν i = none:=fun i h1 h2=>hν i h1 (Nat.lt_of_lt_of_le h2 hm)
     refine wpList_step (fun K hK=>?_)
     rw [if_pos (want_ok (fun _ _ d l _ _ hd=>hs.tr d l hd) hw)]
     refine evOp_wp hc hB hout hle (fun x hx l hl=>opd_ok hs.tr hs.glob hl) hν1 (fun i k _ hk=>hs.hr i k trivial hk) (fun i k l _=>hs.low i k l trivial) (fun i j ki kj li lj _ _=>hs.inj i j ki kj li lj) hs.ids hs.glob hs.below (fun v' w' ν' hp=>?_)
     obtain ⟨hs1,hf1⟩:=hs.step (dst:=o.dst) hB hν1 hle hp
     refine hK _ _ (seq_ok hc hB h hs1 (fun i h1 h2=>?_) (fun a2 w2 ν2 hs2 hf2=>hQ a2 w2 ν2 hs2 (hf1.trans hf2)))
     have h1' : out.nx ≤ i:=h1
     rw [hp.ext i (by omega)]
     exact hν i (by omega) h2
    ·cases h
   ·cases h
  ·rename_i hw
   obtain ⟨hs1,hf1⟩:=hs.skip (dst:=o.dst)
   unfold wpList
   rw [if_neg (by rw [want_ok (fun _ _ d l _ _ hd=>hs.tr d l hd) hw]; simp)]
   exact seq_ok hc hB h hs1 hν (fun a2 w2 ν2 hs2 hf2=>hQ a2 w2 ν2 hs2 (hf1.trans hf2))
  ·cases h
end
end Go.Proofs.YtjpfhhndjpdmoaaGreatDoor

namespace Go.Proofs.YtjpfhhndjpdmoaaGreatDoor
open Go.RowKit
set_option linter.unusedVariables false
set_option linter.unusedSectionVars false
set_option linter.unusedSimpArgs false

section
variable {P:Program} {GE:Env → Prop} [hGE : GEok P GE] {nB B:Nat} {w0:World}
structure StO (P:Program) (GE:Env → Prop) (nB B:Nat) (w0:World) (nt:Nat) (ν : Env) (h:Nat → Option Blk) (t:Nat → Option LV) (O:Nat → Prop) (a:Act) (w:World) : Prop where
 hr : ∀ i k,h i = some k → ∃ l,ν i = some l ∧ BlkR ν l k w.heap[l.addr]?
 low : ∀ i k l,nB ≤ i → h i = some k → ν i = some l → B ≤ l.addr
 inj : ∀ i j ki kj li lj,h i = some ki → h j = some kj → ν i = some li → ν j = some lj → li.addr = lj.addr → i = j
 ids : ∀ i k,h i = some k → O i
 glob : GE ν
 below : Below B w0 w
 tr : ∀ x l,t x = some l → VR ν l (a.tmps.getD x undef)
 sz : a.tmps.size = nt
 df : a.defers = []
structure FrgO (nB:Nat) (ν ν' : Env) (h h':Nat → Option Blk) (O O' W W':Nat → Prop) (w w':World) : Prop where
 o : ∀ i,O i → O' i
 wr : ∀ i,W i → W' i
 ext : ∀ i,(O i ∨ ¬ O' i) → ν' i = ν i
 frame : ∀ a,a < w.heap.size → (∀ i l,W' i → O i → ν i = some l → l.addr ≠ a) → w'.heap[a]? = w.heap[a]?
 fresh : ∀ i l,¬ O i → (W' i ∨ ∃ k,h' i = some k) → ν' i = some l → w.heap.size ≤ l.addr ∨ ∃ j lj,W' j ∧ O j ∧ ν j = some lj ∧ lj.addr = l.addr
 live : ∀ i k,h' i = some k → O i → ∃ k0,h i = some k0
 kept : ∀ i,O i → ¬ W' i → h' i = h i
 old : ∀ i,W' i → W i ∨ ¬ O i ∨ (nB ≤ i ∧ ∃ k,h i = some k)
 size : w.heap.size ≤ w'.heap.size
theorem FrgO.refl {ν : Env} {h:Nat → Option Blk} {O W:Nat → Prop} {w:World} (hw:∀ i,W i → O i) (hids:∀ i k,h i = some k → O i) : FrgO nB ν ν h h O O W W w w where
 o:=fun _ h=>h
 wr:=fun _ h=>h
 ext:=fun _ _=>rfl
 frame:=fun _ _ _=>rfl
 fresh:=fun i l hi h=>by
  rcases h with h' | ⟨k,hk⟩
  ·exact absurd (hw i h') hi
  ·exact absurd (hids i k hk) hi
 live:=fun i k hk _=>⟨k,hk⟩
 kept:=fun _ _ _=>rfl
 old:=fun i hi=>.inl hi
 size:=Nat.le_refl _
theorem FrgO.trans {ν ν1 ν2 : Env} {h h1 h2:Nat → Option Blk} {O O1 O2 W W1 W2:Nat → Prop} {w w1 w2:World} (p:FrgO nB ν ν1 h h1 O O1 W W1 w w1) (k:FrgO nB ν1 ν2 h1 h2 O1 O2 W1 W2 w1 w2) : FrgO nB ν ν2 h h2 O O2 W W2 w w2:=by
 have alias1 : ∀ i l,W2 i → O1 i → ν1 i = some l → ¬ O i → w.heap.size ≤ l.addr ∨ ∃ j lj,W2 j ∧ O j ∧ ν j = some lj ∧ lj.addr = l.addr:=by
  intro i l hi hi1 hl hin
  have hh : W1 i ∨ ∃ q,h1 i = some q:=by
   rcases k.old i hi with h1 | h1 | h1
   ·exact .inl h1
   ·exact absurd hi1 h1
   ·exact .inr h1.2
  rcases p.fresh i l hin hh hl with h2 | ⟨j,lj,h2,h3,h4,h5⟩
  ·exact .inl h2
  ·exact .inr ⟨j,lj,k.wr j h2,h3,h4,h5⟩
 refine ⟨fun i hi=>k.o i (p.o i hi),fun i hi=>k.wr i (p.wr i hi),fun i hi=>?_,fun a ha hno=>?_,fun i l hi hh hl=>?_,fun i q hq hi=>?_,fun i hi hw=>?_,fun i hi=>?_,Nat.le_trans p.size k.size⟩
 ·rcases hi with hi | hi
  ·rw [k.ext i (.inl (p.o i hi)),p.ext i (.inl hi)]
  ·have h1 : ¬ O1 i:=fun h=>hi (k.o i h)
   rw [k.ext i (.inr hi),p.ext i (.inr h1)]
 ·have e1 : w1.heap[a]? = w.heap[a]?:=p.frame a ha (fun i l hi hin hl=>hno i l (k.wr i hi) hin hl)
  rw [← e1]
  refine k.frame a (Nat.lt_of_lt_of_le ha p.size) (fun i l hi hin hl=>?_)
  by_cases hlt : O i
  ·rw [p.ext i (.inl hlt)] at hl
   exact hno i l hi hlt hl
  ·rcases alias1 i l hi hin hl hlt with h1 | ⟨j,lj,h1,h2,h3,h4⟩
   ·omega
   ·have:=hno j lj h1 h2 h3; omega
 ·by_cases hlt : O1 i
  ·rw [k.ext i (.inl hlt)] at hl
   rcases hh with hh | ⟨q,hq⟩
   ·exact alias1 i l hh hlt hl hi
   ·obtain ⟨q0,hq0⟩:=k.live i q hq hlt
    rcases p.fresh i l hi (.inr ⟨q0,hq0⟩) hl with h2 | ⟨j,lj,h2,h3,h4,h5⟩
    ·exact .inl h2
    ·exact .inr ⟨j,lj,k.wr j h2,h3,h4,h5⟩
  ·rcases k.fresh i l hlt hh hl with h1 | ⟨j,lj,h1,h2,h3,h4⟩
   ·exact .inl (Nat.le_trans p.size h1)
   ·by_cases hjn : O j
    ·rw [p.ext j (.inl hjn)] at h3
     exact .inr ⟨j,lj,h1,hjn,h3,h4⟩
    ·rcases alias1 j lj h1 h2 h3 hjn with h5 | ⟨j',lj',h5,h6,h7,h8⟩
     ·exact .inl (by omega)
     ·exact .inr ⟨j',lj',h5,h6,h7,by omega⟩
 ·obtain ⟨q1,hq1⟩:=k.live i q hq (p.o i hi)
  exact p.live i q1 hq1 hi
 ·rw [k.kept i (p.o i hi) hw,p.kept i hi (fun hm=>hw (k.wr i hm))]
 ·rcases k.old i hi with h1 | h1 | ⟨h1,q,hq⟩
  ·exact p.old i h1
  ·exact .inr (.inl fun h=>h1 (p.o i h))
  ·by_cases hin : O i
   ·exact .inr (.inr ⟨h1,p.live i q hq hin⟩)
   ·exact .inr (.inl hin)
def hPut (h:Nat → Option Blk) (d:Dl) : Nat → Option Blk:=fun i=>match dget d i with | some x=>x | none=>h i
def tPut (nt:Nat) (t:Nat → Option LV) (dst:Option Tmp) (v:LV) : Nat → Option LV:=fun x=>match dst with | some d=>if d < nt ∧ x = d then some v else t x | none=>t x
def oPut (O:Nat → Prop) (a b:Nat) : Nat → Prop:=fun i=>O i ∨ (a ≤ i ∧ i < b)
def wPut (W:Nat → Prop) (nx:Nat) (d:Dl) : Nat → Prop:=fun i=>W i ∨ (i < nx ∧ (dget d i).isSome = true)
theorem StO.step {ν ν' : Env} {nt:Nat} {h:Nat → Option Blk} {t:Nat → Option LV} {O W:Nat → Prop} {a:Act} {w w':World} {Hk:Hp} {nx:Nat} {out:Out} {v':Value} {dst:Option Tmp} (hs:StO P GE nB B w0 nt ν h t O a w) (hWO:∀ i,W i → O i) (hB:B ≤ w0.heap.size) (hν : ∀ i,nx ≤ i → i < out.nx → ν i = none ∧ ¬ O i) (hnx:nx ≤ out.nx)
  (hp:OpPost nB B w0 ν ν' Hk nx out w w' v') (hold':∀ i,i < nx → (dget out.d i).isSome = true → O i ∧ (h i).isSome = true) :
  StO P GE nB B w0 nt ν' (hPut h out.d) (tPut nt t dst out.v) (oPut O nx out.nx) (a.put dst v') w' ∧ FrgO nB ν ν' h (hPut h out.d) O (oPut O nx out.nx) W (wPut W nx out.d) w w':=by
 have hext:=post_ext hp (fun i h1 h2=>(hν i h1 h2).1)
 have hnew : ∀ i,(dget out.d i).isSome = true → i < nx ∨ (nx ≤ i ∧ i < out.nx):=fun i hd=>by
  by_cases hi : i < nx
  ·exact .inl hi
  ·exact .inr ⟨by omega,hp.new i (by omega) hd⟩
 have hextO : ∀ i,O i → ν' i = ν i:=fun i hO=>hp.ext i (fun hh=>(hν i hh.1 hh.2).2 hO)
 have hold : ∀ i k,h i = some k → dget out.d i = none → ∃ l,ν i = some l ∧ ν' i = some l ∧ w'.heap[l.addr]? = w.heap[l.addr]? ∧ BlkR ν l k w.heap[l.addr]?:=by
  intro i k hk hd
  obtain ⟨l,hl,hb⟩:=hs.hr i k hk
  refine ⟨l,hl,hext i l hl,?_,hb⟩
  refine hp.frame _ hb.heap (fun j lj hj hdj hlj e=>?_)
  obtain ⟨kj,hkj⟩:=Option.isSome_iff_exists.1 (hold' j hj hdj).2
  have:=hs.inj j i kj k lj l hkj hk hlj hl e
  subst this
  rw [hd] at hdj; cases hdj
 have hcase : ∀ i k,hPut h out.d i = some k → (dget out.d i = some (some k)) ∨ (dget out.d i = none ∧ h i = some k):=by
  intro i k hk
  unfold hPut at hk
  split at hk
  ·rename_i x hx; rw [hx,hk]; exact .inl rfl
  ·rename_i hx; exact .inr ⟨hx,hk⟩
 have hfr : ∀ i k l,dget out.d i = some (some k) → ν' i = some l → nx ≤ i → w.heap.size ≤ l.addr ∨ ∃ j lj,j < nx ∧ dget out.d j = some none ∧ ν j = some lj ∧ lj.addr = l.addr:=fun i k l h1 h2 h3=>hp.fresh i k l h3 h1 h2
 refine ⟨⟨?_,?_,?_,?_,?_,hp.below,?_,?_,?_⟩,⟨fun i hi=>.inl hi,fun i hi=>.inl hi,?_,?_,?_,?_,?_,?_,hp.size⟩⟩
 ·intro i k hk
  rcases hcase i k hk with h1 | ⟨h1,h2⟩
  ·exact hp.blk i k h1
  ·obtain ⟨l,_,hl',he,hb⟩:=hold i k h2 h1
   exact ⟨l,hl',by rw [he]; exact hb.ext hext⟩
 ·intro i k l hi hk hl
  rcases hcase i k hk with h1 | ⟨h1,h2⟩
  ·by_cases hin : nx ≤ i
   ·rcases hfr i k l h1 hl hin with h3 | ⟨j,lj,h3,h4,h5,h6⟩
    ·have:=hp.below.size; have:=hs.below.size; omega
    ·obtain ⟨hjB,_⟩:=hp.old j h3 (by rw [h4]; rfl)
     obtain ⟨kj,hkj⟩:=Option.isSome_iff_exists.1 (hold' j h3 (by rw [h4]; rfl)).2
     have:=hs.low j kj lj hjB hkj h5
     omega
   ·obtain ⟨hO,hj2⟩:=hold' i (by omega) (by rw [h1]; rfl)
    obtain ⟨kj,hkj⟩:=Option.isSome_iff_exists.1 hj2
    rw [hextO i hO] at hl
    exact hs.low i kj l hi hkj hl
  ·obtain ⟨l',hl1,hl2,_,_⟩:=hold i k h2 h1
   rw [hl2] at hl; cases hl
   exact hs.low i k _ hi h2 hl1
 ·have key : ∀ i ki li,hPut h out.d i = some ki → ν' i = some li → (nx ≤ i ∧ dget out.d i = some (some ki)) ∨ ∃ q,h i = some q ∧ ν i = some li ∧ ∀ x,dget out.d i = some x → x ≠ none:=by
   intro i ki li hk hl
   rcases hcase i ki hk with h1 | ⟨h1,h2⟩
   ·by_cases hin : nx ≤ i
    ·exact .inl ⟨hin,h1⟩
    ·right
     obtain ⟨hO,h3⟩:=hold' i (by omega) (by rw [h1]; rfl)
     obtain ⟨q,hq⟩:=Option.isSome_iff_exists.1 h3
     rw [hextO i hO] at hl
     exact ⟨q,hq,hl,fun x hx=>by rw [h1] at hx; cases hx; simp⟩
   ·right
    rw [hextO i (hs.ids i ki h2)] at hl
    exact ⟨ki,h2,hl,fun x hx=>by rw [h1] at hx; cases hx⟩
  have mix : ∀ i j ki li lj,nx ≤ i → dget out.d i = some (some ki) → ν' i = some li → (∃ q,h j = some q ∧ ν j = some lj ∧ ∀ x,dget out.d j = some x → x ≠ none) → li.addr = lj.addr → False:=by
   intro i j ki li lj hi h1 hl ⟨q,hq,hlj,hx⟩ he
   rcases hfr i ki li h1 hl hi with h3 | ⟨j',lj',h3,h4,h5,h6⟩
   ·obtain ⟨l',hl',hb⟩:=hs.hr j q hq
    rw [hlj] at hl'; cases hl'
    have:=hb.heap
    omega
   ·obtain ⟨q',hq'⟩:=Option.isSome_iff_exists.1 (hold' j' h3 (by rw [h4]; rfl)).2
    have:=hs.inj j' j q' q lj' lj hq' hq h5 hlj (by omega)
    subst this
    exact hx none h4 rfl
  intro i j ki kj li lj hi hj hli hlj he
  rcases key i ki li hi hli with h1 | h1
  ·rcases key j kj lj hj hlj with h2 | h2
   ·exact hp.inj i j ki kj li lj h1.1 h2.1 h1.2 h2.2 hli hlj he
   ·exact (mix i j ki li lj h1.1 h1.2 hli h2 he).elim
  ·rcases key j kj lj hj hlj with h2 | h2
   ·exact (mix j i kj lj li h2.1 h2.2 hlj h1 he.symm).elim
   ·obtain ⟨q,hq,hl1,_⟩:=h1
    obtain ⟨q',hq',hl2,_⟩:=h2
    exact hs.inj i j q q' li lj hq hq' hl1 hl2 he
 ·intro i k hk
  rcases hcase i k hk with h1 | ⟨h1,h2⟩
  ·rcases hnew i (by rw [h1]; rfl) with h3 | h3
   ·exact .inl (hold' i h3 (by rw [h1]; rfl)).1
   ·exact .inr h3
  ·exact .inl (hs.ids i k h2)
 ·exact GEok.mono (P:=P) ν ν' hext hs.glob
 ·intro x l hx
  cases dst with
  | none=>exact VR.ext hext _ _ (hs.tr x l hx)
  | some d =>
   simp only [tPut] at hx
   split at hx
   ·rename_i hc
    obtain ⟨hc1,rfl⟩:=hc
    cases hx
    have hxs : x < a.tmps.size:=by rw [hs.sz]; exact hc1
    simpa [Act.put,hxs] using hp.val
   ·rename_i hc
    have h1:=VR.ext hext _ _ (hs.tr x l hx)
    simp only [Act.put,Array.getD_eq_getD_getElem?] at h1 ⊢
    by_cases hxd : x = d
    ·subst hxd
     rw [show a.tmps.setIfInBounds x v' = a.tmps by
      have : ¬ x < a.tmps.size:=by rw [hs.sz]; exact fun hh=>hc ⟨hh,rfl⟩
      simp [Array.setIfInBounds,this]]
     exact h1
    ·rwa [Array.getElem?_setIfInBounds_ne (Ne.symm hxd)]
 ·cases dst <;> simp [Act.put,hs.sz]
 ·cases dst <;> simp [Act.put,hs.df]
 ·intro i hi
  rcases hi with hi | hi
  ·exact hextO i hi
  ·exact hp.ext i (fun hh=>hi (.inr hh))
 ·intro a ha hno
  exact hp.frame a ha (fun i l hi hd hl=>hno i l (.inr ⟨hi,hd⟩) (hold' i hi hd).1 hl)
 ·intro i l hi hh hl
  rcases hh with (hh | hh) | ⟨k,hk⟩
  ·exact absurd (hWO i hh) hi
  ·exact absurd (hold' i hh.1 hh.2).1 hi
  ·rcases hcase i k hk with h1 | ⟨h1,h2⟩
   ·rcases hnew i (by rw [h1]; rfl) with h3 | h3
    ·exact absurd (hold' i h3 (by rw [h1]; rfl)).1 hi
    ·rcases hfr i k l h1 hl h3.1 with h4 | ⟨j,lj,h4,h5,h6,h7⟩
     ·exact .inl h4
     ·exact .inr ⟨j,lj,.inr ⟨h4,by rw [h5]; rfl⟩,(hold' j h4 (by rw [h5]; rfl)).1,h6,h7⟩
   ·exact absurd (hs.ids i k h2) hi
 ·intro i k hk hi
  rcases hcase i k hk with h1 | ⟨h1,h2⟩
  ·rcases hnew i (by rw [h1]; rfl) with h3 | h3
   ·exact Option.isSome_iff_exists.1 (hold' i h3 (by rw [h1]; rfl)).2
   ·exact absurd hi (hν i h3.1 h3.2).2
  ·exact ⟨k,h2⟩
 ·intro i hi hw
  unfold hPut
  have : dget out.d i = none:=by
   cases hd : dget out.d i with
   | none=>rfl
   | some x =>
    rcases hnew i (by rw [hd]; rfl) with h3 | h3
    ·exact absurd (.inr ⟨h3,by rw [hd]; rfl⟩) hw
    ·exact absurd hi (hν i h3.1 h3.2).2
  rw [this]
 ·intro i hi
  rcases hi with hi | hi
  ·exact .inl hi
  ·exact .inr (.inr ⟨(hp.old i hi.1 hi.2).1,Option.isSome_iff_exists.1 (hold' i hi.1 hi.2).2⟩)
end
end Go.Proofs.YtjpfhhndjpdmoaaGreatDoor

namespace Go.Proofs.YtjpfhhndjpdmoaaGreatDoor
open Go.RowKit
set_option linter.unusedVariables false
set_option linter.unusedSectionVars false
set_option linter.unusedSimpArgs false

def lastOf {α : Type} (f:Nat → Option α) (D:Nat → Bool) : Nat → Option α
 | 0=>none
 | k + 1=>if D k = true then (match f k with | some x=>some x | none=>lastOf f D k) else lastOf f D k
theorem lastOf_congr {α : Type} {f:Nat → Option α} {D D':Nat → Bool} : ∀ {n:Nat},(∀ p,p < n → f p ≠ none → D p = D' p) → lastOf f D n = lastOf f D' n
 | 0,_=>rfl
 | n + 1,h=>by
  have ih:=lastOf_congr (fun p hp=>h p (by omega)) (n:=n)
  simp only [lastOf,ih]
  cases hf : f n with
  | none=>simp
  | some x=>rw [h n (by omega) (by rw [hf]; simp)]
theorem lastOf_some {α : Type} {f:Nat → Option α} {D:Nat → Bool} : ∀ {n:Nat} {x:α},lastOf f D n = some x → ∃ p,p < n ∧ D p = true ∧ f p = some x
 | 0,x,h=>by cases h
 | n + 1,x,h=>by
  simp only [lastOf] at h
  split at h
  ·rename_i hD
   split at h
   ·rename_i y hy; cases h; exact ⟨n,by omega,hD,hy⟩
   ·obtain ⟨p,h1,h2⟩:=lastOf_some h; exact ⟨p,by omega,h2⟩
  ·obtain ⟨p,h1,h2⟩:=lastOf_some h; exact ⟨p,by omega,h2⟩
theorem lastOf_set {α : Type} {f:Nat → Option α} {D:Nat → Bool} {k:Nat} : ∀ {n:Nat},k < n → D k = false → (∀ j,k < j → j < n → D j = true → f k ≠ none → f j = none) →
  lastOf f (fun p=>p == k || D p) n = match f k with | some x=>some x | none=>lastOf f D n
 | 0,h,_,_=>by omega
 | n + 1,h,hk,hno=>by
  simp only [lastOf]
  by_cases hn : n = k
  ·subst hn
   have e : lastOf f (fun p=>p == n || D p) n = lastOf f D n:=lastOf_congr (fun p hp _=>by
    have : (p == n) = false:=by simp; omega
    simp [this])
   simp [hk,e]
  ·have hkn : k < n:=by omega
   have ih:=lastOf_set hkn hk (fun j h1 h2=>hno j h1 (by omega)) (n:=n)
   have : (n == k) = false:=by simpa using hn
   simp only [this,Bool.false_or]
   by_cases hD : D n = true
   ·simp only [hD,if_true]
    cases hfk : f k with
    | some x =>
     have:=hno n hkn (by omega) hD (by rw [hfk]; simp)
     simp only [this,ih,hfk]
    | none =>
     cases hfn : f n with
     | some y=>rfl
     | none=>simp only [ih,hfk]
   ·simp only [hD]
    exact ih
theorem mem_pastOf {ms:List Nat} {j:Nat} : ∀ {es:List Edge},(pastOf ms es).testBit j = true ↔ ∃ e ∈ es,Region.binds .any e = true ∧ (e.on = j ∨ (ms.getD e.on 0).testBit j = true)
 | []=>by simp [pastOf]
 | e :: es=>by
  have ih:=mem_pastOf (ms:=ms) (j:=j) (es:=es)
  simp only [pastOf]
  split
  ·rename_i hb
   rw [Nat.testBit_or,Nat.testBit_or,Bool.or_eq_true,Bool.or_eq_true,ih,Nat.testBit_two_pow]
   constructor
   ·rintro ((h | h) | ⟨e',h1,h2,h3⟩)
    ·exact ⟨e,by simp,hb,.inl (by simpa using h)⟩
    ·exact ⟨e,by simp,hb,.inr h⟩
    ·exact ⟨e',by simp [h1],h2,h3⟩
   ·rintro ⟨e',h1,h2,h3⟩
    rcases List.mem_cons.1 h1 with rfl | h1
    ·rcases h3 with h3 | h3
     ·exact .inl (.inl (by simpa using h3))
     ·exact .inl (.inr h3)
    ·exact .inr ⟨e',h1,h2,h3⟩
  ·rename_i hb
   rw [ih]
   constructor
   ·rintro ⟨e',h1,h2⟩; exact ⟨e',by simp [h1],h2⟩
   ·rintro ⟨e',h1,h2,h3⟩
    rcases List.mem_cons.1 h1 with rfl | h1
    ·exact absurd h2 hb
    ·exact ⟨e',h1,h2,h3⟩
theorem pastsL_len : ∀ {l:List Oper} {ms:List Nat},(pastsL l ms).length = ms.length + l.length
 | [],ms=>rfl
 | o :: l,ms=>by simp only [pastsL]; rw [pastsL_len]; simp; omega
theorem pastsL_old : ∀ {l:List Oper} {ms:List Nat} {i:Nat},i < ms.length → (pastsL l ms)[i]? = ms[i]?
 | [],ms,i,_=>rfl
 | o :: l,ms,i,h=>by
  simp only [pastsL]
  rw [pastsL_old (by simp; omega),List.getElem?_append_left h]
theorem pastsL_new : ∀ {l:List Oper} {ms:List Nat} {i:Nat} {o:Oper},l[i]? = some o → (pastsL l ms)[ms.length + i]? = some (pastOf ((pastsL l ms).take (ms.length + i)) o.after.toList)
 | [],ms,i,o,h=>by simp at h
 | o' :: l,ms,0,o,h=>by
  simp at h; subst h
  simp only [pastsL,Nat.add_zero]
  rw [pastsL_old (by simp)]
  have : (pastsL l (ms ++ [pastOf ms o'.after.toList])).take ms.length = ms:=by
   apply List.ext_getElem?
   intro j
   by_cases hj : j < ms.length
   ·rw [List.getElem?_take_of_lt hj,pastsL_old (by simp; omega),List.getElem?_append_left hj]
   ·rw [List.getElem?_eq_none (by simp; omega),List.getElem?_eq_none (by omega)]
  rw [this]
  simp
 | o' :: l,ms,i + 1,o,h=>by
  simp only [pastsL]
  have:=pastsL_new (l:=l) (ms:=ms ++ [pastOf ms o'.after.toList]) (i:=i) (by simpa using h)
  simpa [Nat.add_assoc,Nat.add_comm 1 i] using this
def maskOf (ops:Array Oper) (k:Nat) : Nat:=(pastsL ops.toList []).getD k 0
section
variable {ops:Array Oper}
theorem edges_lt : ∀ {l:List Oper} {k i:Nat} {o:Oper},edgesB k l = true → l[i]? = some o → ∀ e ∈ o.after.toList,Region.binds .any e = true → e.on < k + i
 | [],k,i,o,_,h,_,_,_=>by simp at h
 | o' :: l,k,0,o,hE,h,e,he,hb=>by
  simp at h; subst h
  simp only [edgesB,Bool.and_eq_true,List.all_eq_true] at hE
  have:=hE.1 e he
  simp [hb] at this
  omega
 | o' :: l,k,i + 1,o,hE,h,e,he,hb=>by
  simp only [edgesB,Bool.and_eq_true] at hE
  have:=edges_lt hE.2 (by simpa using h) e he hb
  omega
theorem mask_iff (hE:edgesB 0 ops.toList = true) {k j:Nat} {o:Oper} (hk:ops[k]? = some o) : (maskOf ops k).testBit j = true ↔ ∃ e ∈ o.after.toList,Region.binds .any e = true ∧ (e.on = j ∨ (maskOf ops e.on).testBit j = true):=by
 have hk' : ops.toList[k]? = some o:=by simpa using hk
 have h1:=pastsL_new (ms:=[]) hk'
 simp only [List.length_nil,Nat.zero_add] at h1
 unfold maskOf
 rw [List.getD_eq_getElem?_getD,h1,Option.getD_some,mem_pastOf]
 constructor
 ·rintro ⟨e,h2,h3,h4⟩
  have hlt:=edges_lt hE hk' e h2 h3
  refine ⟨e,h2,h3,h4.imp id (fun h=>?_)⟩
  rw [List.getD_eq_getElem?_getD,List.getElem?_take_of_lt (by omega),← List.getD_eq_getElem?_getD] at h
  exact h
 ·rintro ⟨e,h2,h3,h4⟩
  have hlt:=edges_lt hE hk' e h2 h3
  refine ⟨e,h2,h3,h4.imp id (fun h=>?_)⟩
  rw [List.getD_eq_getElem?_getD,List.getElem?_take_of_lt (by omega),← List.getD_eq_getElem?_getD]
  exact h
theorem mask_out {k j:Nat} (hk:ops.size ≤ k) : (maskOf ops k).testBit j = false:=by
 unfold maskOf
 rw [List.getD_eq_getElem?_getD,List.getElem?_eq_none (by rw [pastsL_len]; simpa using hk)]
 simp
theorem oper_of {k:Nat} (hk:k < ops.size) : ∃ o,ops[k]? = some o:=⟨_,Array.getElem?_eq_getElem hk⟩
theorem mask_lt (hE:edgesB 0 ops.toList = true) : ∀ (k j:Nat),(maskOf ops k).testBit j = true → j < k:=by
 intro k
 induction k using Nat.strongRecOn with
 | _ k ih =>
  intro j h
  by_cases hk : k < ops.size
  ·obtain ⟨o,ho⟩:=oper_of hk
   obtain ⟨e,h2,h3,h4⟩:=(mask_iff hE ho).1 h
   have hlt:=edges_lt hE (show ops.toList[k]? = some o by simpa using ho) e h2 h3
   rcases h4 with rfl | h4
   ·omega
   ·have:=ih e.on (by omega) j h4; omega
  ·rw [mask_out (by omega)] at h; cases h
theorem mask_trans (hE:edgesB 0 ops.toList = true) : ∀ (k p j:Nat),(maskOf ops k).testBit p = true → (maskOf ops p).testBit j = true → (maskOf ops k).testBit j = true:=by
 intro k
 induction k using Nat.strongRecOn with
 | _ k ih =>
  intro p j h1 h2
  by_cases hk : k < ops.size
  ·obtain ⟨o,ho⟩:=oper_of hk
   obtain ⟨e,h3,h4,h5⟩:=(mask_iff hE ho).1 h1
   have hlt:=edges_lt hE (show ops.toList[k]? = some o by simpa using ho) e h3 h4
   refine (mask_iff hE ho).2 ⟨e,h3,h4,.inr ?_⟩
   rcases h5 with h5 | h5
   ·rw [h5]; exact h2
   ·exact ih e.on (by omega) p j h5 h2
  ·rw [mask_out (by omega)] at h1; cases h1
theorem pair_apart {x:Oper} {jx:Nat} : ∀ {l:List Oper} {k:Nat} {ms:List Nat},pairB ops x jx k l ms = true → ∀ (i:Nat) (y:Oper),l[i]? = some y → ∃ m,ms[i]? = some m ∧ (m.testBit jx = true ∨ x.apart ops y = true)
 | [],k,ms,_,i,y,h=>by simp at h
 | z :: l,k,[],h,i,y,hy=>by simp [pairB] at h
 | z :: l,k,m :: ms,h,i,y,hy=>by
  simp only [pairB,Bool.and_eq_true,Bool.or_eq_true] at h
  cases i with
  | zero=>simp at hy; subst hy; exact ⟨m,rfl,h.1⟩
  | succ i=>simpa using pair_apart h.2 i y (by simpa using hy)
theorem pairs_apart : ∀ {l:List Oper} {k:Nat} {ms:List Nat},pairsB ops k l ms = true → ∀ (i j:Nat) (x y:Oper),i < j → l[i]? = some x → l[j]? = some y → ∃ m,ms[j]? = some m ∧ (m.testBit (k + i) = true ∨ x.apart ops y = true)
 | [],k,ms,_,i,j,x,y,_,h,_=>by simp at h
 | z :: l,k,[],h,i,j,x,y,_,_,_=>by simp [pairsB] at h
 | z :: l,k,m :: ms,h,i,j,x,y,hij,hx,hy=>by
  simp only [pairsB,Bool.and_eq_true] at h
  cases j with
  | zero=>omega
  | succ j =>
   cases i with
   | zero =>
    simp at hx; subst hx
    simpa using pair_apart h.1 j y (by simpa using hy)
   | succ i =>
    have:=pairs_apart h.2 i j x y (by omega) (by simpa using hx) (by simpa using hy)
    simpa [Nat.add_assoc,Nat.add_comm 1 i] using this
theorem reg_apart (h:regB ops = true) {i j:Nat} {x y:Oper} (hij:i < j) (hx:ops[i]? = some x) (hy:ops[j]? = some y) : (maskOf ops j).testBit i = true ∨ x.apart ops y = true:=by
 simp only [regB,Bool.and_eq_true] at h
 obtain ⟨m,h1,h2⟩:=pairs_apart h.2 i j x y hij (by simpa using hx) (by simpa using hy)
 unfold maskOf
 rw [List.getD_eq_getElem?_getD,h1,Option.getD_some]
 simpa using h2
theorem reg_edges (h:regB ops = true) : edgesB 0 ops.toList = true:=by
 simp only [regB,Bool.and_eq_true] at h
 exact h.1
end
end Go.Proofs.YtjpfhhndjpdmoaaGreatDoor
