/- Part of the proof: EvH,Kit,MontLaw,MontSpec. No conditions of its own. -/
import Derived.Test.YtjpfhhndjpdmoaaGreatDoorF06
import Derived.BigQuiet
import Derived.Deep.Quiet
import Derived.Deep.QuietTactic
import Derived.Lib.Hide
import Derived.StillTail
import Derived.WalkKit
namespace Go.Proofs.YtjpfhhndjpdmoaaGreatDoor
open Go.RowKit
set_option linter.unusedVariables false
set_option linter.unusedSectionVars false
set_option linter.unusedSimpArgs false

section
variable {P:Program} {GE:Env → Prop} [hGE : GEok P GE] {nB B:Nat} {w0:World}
theorem dget_app : ∀ {d e:Dl} {i:Nat},dget (d ++ e) i = match dget e i with | some x=>some x | none=>dget d i
 | [],e,i=>by simp only [List.nil_append,dget]; cases dget e i <;> rfl
 | (j,b) :: d,e,i=>by
  simp only [List.cons_append,dget]
  rw [dget_app (d:=d)]
  cases dget e i <;> rfl
theorem olds_spec {nx:Nat} {H:Hp} : ∀ {l:List Nat} {seen:Tr Unit} {i:Nat},(∀ x,dget (olds nx H l seen) i = some x → i < nx ∧ x = H.get i ∧ i ∈ l) ∧ (i ∈ l → i < nx → seen.get i = none → (dget (olds nx H l seen) i).isSome = true)
 | [],seen,i=>by simp [olds,dget]
 | j :: l,seen,i=>by
  simp only [olds]
  split
  ·rename_i hj
   split
   ·rename_i u hu
    obtain ⟨h1,h2⟩:=olds_spec (nx:=nx) (H:=H) (l:=l) (seen:=seen) (i:=i)
    refine ⟨fun x hx=>?_,fun hi hlt hs=>?_⟩
    ·obtain ⟨g1,g2,g3⟩:=h1 x hx
     exact ⟨g1,g2,by simp [g3]⟩
    ·rcases List.mem_cons.1 hi with rfl | hi
     ·rw [hs] at hu; cases hu
     ·exact h2 hi hlt hs
   ·rename_i hu
    obtain ⟨h1,h2⟩:=olds_spec (nx:=nx) (H:=H) (l:=l) (seen:=seen.set j (some ())) (i:=i)
    refine ⟨fun x hx=>?_,fun hi hlt hs=>?_⟩
    ·simp only [dget] at hx
     split at hx
     ·rename_i y hy
      cases hx
      obtain ⟨g1,g2,g3⟩:=h1 _ hy
      exact ⟨g1,g2,by simp [g3]⟩
     ·split at hx
      ·rename_i e; subst e
       cases hx
       exact ⟨hj,rfl,by simp⟩
      ·cases hx
    ·simp only [dget]
     cases hd : dget (olds nx H l (seen.set j (some ()))) i with
     | some y=>rfl
     | none =>
      simp only
      by_cases hij : i = j
      ·simp [hij]
      ·exfalso
       rcases List.mem_cons.1 hi with rfl | hi
       ·exact hij rfl
       ·have:=h2 hi hlt (by rw [Tr.get_set,if_neg hij]; exact hs)
        rw [hd] at this; cases this
  ·rename_i hj
   obtain ⟨h1,h2⟩:=olds_spec (nx:=nx) (H:=H) (l:=l) (seen:=seen) (i:=i)
   refine ⟨fun x hx=>?_,fun hi hlt hs=>?_⟩
   ·obtain ⟨g1,g2,g3⟩:=h1 x hx
    exact ⟨g1,g2,by simp [g3]⟩
   ·rcases List.mem_cons.1 hi with rfl | hi
    ·omega
    ·exact h2 hi hlt hs
theorem reach_spec {nx:Nat} {H:Hp} : ∀ {f:Nat} {l:List Nat} {seen:Tr Unit} {d:Dl},(∀ i x,dget d i = some x → nx ≤ i ∧ x = H.get i ∧ x.isSome = true) → ∀ i x,dget (reach nx H f l seen d) i = some x → nx ≤ i ∧ x = H.get i ∧ x.isSome = true
 | 0,l,seen,d,h=>by simpa [reach] using h
 | f + 1,[],seen,d,h=>by simpa [reach] using h
 | f + 1,j :: l,seen,d,h=>by
  simp only [reach]
  split
  ·exact reach_spec h
  ·split
   ·exact reach_spec h
   ·rename_i hj
    split
    ·rename_i k hk
     refine reach_spec (fun i x hx=>?_)
     simp only [dget] at hx
     split at hx
     ·rename_i y hy
      cases hx
      exact h i _ hy
     ·split at hx
      ·rename_i e; subst e
       cases hx
       exact ⟨by omega,hk.symm,rfl⟩
      ·cases hx
    ·exact reach_spec h
theorem argsT_get : ∀ {args:List LV} {i:Nat} {T:Tr LV} {t:Nat},(argsT i args T).get t = if i ≤ t ∧ t < i + args.length then args[t - i]? else T.get t
 | [],i,T,t=>by simp only [argsT,List.length_nil]; rw [if_neg (by omega)]
 | x :: args,i,T,t=>by
  simp only [argsT]
  rw [argsT_get,Tr.get_set]
  simp only [List.length_cons]
  by_cases h1 : t = i
  ·subst h1
   rw [if_neg (by omega),if_pos rfl,if_pos (by omega)]
   simp
  ·by_cases h2 : i + 1 ≤ t ∧ t < i + 1 + args.length
   ·rw [if_pos h2,if_pos (by omega)]
    rw [show t - i = (t - (i + 1)) + 1 by omega,List.getElem?_cons_succ]
   ·rw [if_neg h2,if_neg h1,if_neg (by omega)]
def resV (tmps:Array Value) : ResultVar → Sem Value
 | .tmp t=>pure (tmps.getD t undef)
 | .cell b t=>do loadVar t (← asAddr (tmps.getD b undef))
theorem results_eq (fn:Func) (tmps:Array Value) : results fn tmps = (do let vs ← fn.results.mapM (resV tmps); pure (if h:vs.size = 1 then vs[0] else .tuple vs)):=by
 unfold results
 congr 1
theorem resL_ok {ν : Env} {s:St} {a:Act} {w:World} (hs:StR P GE nB B w0 ν s a w) : ∀ {l:List ResultVar} {rs:List LV},resL P s.T s.H l = some rs → ∃ vs,(l.mapM (m:=Sem) (resV a.tmps)).run P w = .ok vs w ∧ VRs ν rs vs
 | [],rs,h=>by simp only [resL,Option.some.injEq] at h; subst h; exact ⟨[],by simp,VRs.nil_iff.2 rfl⟩
 | .tmp t :: l,rs,h=>by
  simp only [resL] at h
  split at h
  ·rename_i v hv
   simp only [Option.map_eq_some_iff] at h
   obtain ⟨rs',h1,rfl⟩:=h
   obtain ⟨vs,h2,h3⟩:=resL_ok hs h1
   refine ⟨a.tmps.getD t undef :: vs,?_,VRs.cons_iff.2 ⟨_,_,rfl,hs.tr t v hv,h3⟩⟩
   simp only [List.mapM_cons,Sem.run_bind,resV,Sem.run_pure,Result.andThen_ok,h2]
  ·cases h
 | .cell b t :: l,rs,h=>by
  simp only [resL] at h
  split at h
  ·rename_i bl off hp
   split at h
   ·rename_i k hk
    split at h
    ·rename_i v hv
     simp only [Option.map_eq_some_iff] at h
     obtain ⟨rs',h1,rfl⟩:=h
     obtain ⟨vs,h2,h3⟩:=resL_ok hs h1
     have hb:=hs.tr b _ hp
     simp only [VR] at hb
     obtain ⟨lc,hlc,e1⟩:=hb
     obtain ⟨lc',g1,g2⟩:=hs.hr bl k trivial hk
     rw [hlc] at g1; cases g1
     obtain ⟨y,hy,hvy⟩:=loadVar_ok hv g2
     refine ⟨y :: vs,?_,VRs.cons_iff.2 ⟨_,_,rfl,hvy,h3⟩⟩
     have ha : (asAddr (a.tmps.getD b undef)).run P w = .ok ⟨lc.addr,lc.base + off,none⟩ w:=by rw [e1]; rfl
     have hr : (resV a.tmps (.cell b t)).run P w = .ok y w:=by simp only [resV,Sem.run_bind,ha,Result.andThen_ok,hy]
     simp only [List.mapM_cons,Sem.run_bind,hr,Sem.run_pure,Result.andThen_ok,h2]
    ·cases h
   ·cases h
  ·cases h
theorem results_ok {ν : Env} {s:St} {a:Act} {w:World} {fn:Func} {rs:List LV} (hs:StR P GE nB B w0 ν s a w) (h:resL P s.T s.H fn.results.toList = some rs) : ∃ v,(results fn a.tmps).run P w = .ok v w ∧ VR ν (oneL rs) v:=by
 obtain ⟨vs,h1,h2⟩:=resL_ok hs h
 have hm : (fn.results.mapM (m:=Sem) (resV a.tmps)).run P w = .ok vs.toArray w:=by
  rw [Array.mapM_eq_mapM_toList,Sem.run_map,h1]
  all_goals rfl
 rw [results_eq,Sem.run_bind,hm,Result.andThen_ok,Sem.run_pure]
 match rs,vs,h2 with
 | [x],vs,h2 =>
  obtain ⟨u,us,rfl,h3,h4⟩:=VRs.cons_iff.1 h2
  have:=VRs.nil_iff.1 h4
  subst this
  exact ⟨u,rfl,h3⟩
 | [],vs,h2 =>
  have:=VRs.nil_iff.1 h2
  subst this
  exact ⟨.tuple #[],rfl,by simp [oneL,VR,VRs]⟩
 | x :: y :: rs,vs,h2 =>
  have hl:=h2.length
  refine ⟨.tuple vs.toArray,?_,by simp only [oneL,VR]; exact ⟨vs,rfl,h2⟩⟩
  rw [dif_neg (by simp at hl ⊢; omega)]
def OrcOkW (P:Program) (nB B:Nat) (w0:World) (orc:Orc) : Prop:=CallOkW P nB B w0 (fun f args H nx=>match orc f with | some g=>g args H nx | none=>none)
def OrcOk (P:Program) (nB B:Nat) (w0:World) (orc:Orc) : Prop:=CallOk P nB B w0 (fun f args H nx=>match orc f with | some g=>g args H nx | none=>none)
def NoH (orc:Orc) : Prop:=∀ f,Nat.ble OB f = true → orc f = none
theorem noOps {GE:Env → Prop} (hsz:P.funcs.size ≤ OB) {lf n:Nat} {orc:Orc} (hon:NoH orc) : OpsOk P GE B w0 (evF P nB lf orc n):=by
 intro o T v h
 exfalso
 have key : ∀ k args H nx,evF P nB lf orc n (OB + k) args H nx = none:=by
  intro k args H nx
  cases n with
  | zero=>rfl
  | succ n =>
   simp only [evF]
   rw [hon _ (Nat.ble_eq_true_of_le (Nat.le_add_right _ _))]
   have : P.funcs[OB + k]? = none:=by rw [Array.getElem?_eq_none_iff]; omega
   simp only [this]
 unfold hintL at h
 split at h
 ·split at h
  ·rw [key] at h; cases h
  ·cases h
 ·cases h
theorem evF_okW (hm:P.follows .mixedOrders = true) (hB:B ≤ w0.heap.size) (hN:∀ (f:FuncId) (fn:Func),P.funcs[f]? = some fn → (fn.name == "runtime.NumGoroutine") = false) (hsz:P.funcs.size ≤ OB) {lf:Nat} {orc:Orc} (hon:NoH orc) (ho:OrcOkW P nB B w0 orc) : ∀ n,CallOkW P nB B w0 (evF P nB lf orc n)
 | 0=>fun f args H nx out hob h=>by simp [evF] at h
 | n + 1=>fun f args H nx out hob h hnx=>by
  have ih0:=evF_okW hm hB hN hsz (lf:=lf) hon ho n
  have ih : EvOk P (GlobE P) nB B w0 (evF P nB lf orc n):=⟨ih0,noOps hsz hon⟩
  simp only [evF] at h
  split at h
  ·rename_i g hg
   exact ho f args H nx out hob (by simp only [hg]; exact h) hnx
  ·rename_i hg
   split at h
   ·rename_i fn hfn
    split at h
    ·rename_i c hbody
     have fin : ∀ (x:Ex) (s:St) (rs:List LV),(∀ i,x ≠ .exit i) → evC P nB (evF P nB lf orc n) lf c ⟨args.length + (fn.ntmps - args.length),argsT 0 args .nil,H,nx,[]⟩ = some (x,s) → resL P s.T s.H fn.results.toList = some rs →
       out = ⟨oneL rs,olds nx s.H s.wr .nil ++ reach nx s.H (s.nx + 100000) ((oneL rs).ids ++ idsD (olds nx s.H s.wr .nil)) .nil [],s.nx,none⟩ →
       FnHas P f ∧ ∀ (ν : Env) (vs:List Value) (w:World),(∀ i,nx ≤ i → i < out.nx → ν i = none) → VRs ν args vs → HRF ν H out.foot w → LowF nB B ν H out.foot → InjHF ν H out.foot → (∀ i k,H.get i = some k → i < nx) → GlobE P ν → Below B w0 w →
        Calls P f vs.toArray w (fun e w'=>∃ v' ν',e = .returned v' ∧ OpPost nB B w0 ν ν' H nx out w w' v'):=by
      intro x s rs hx hev hres hout
      subst hout
      refine ⟨⟨fn,hfn,by rw [hbody]; rfl,hN f fn hfn⟩,fun ν vs w hν hvs hH hlow hinjF hid hg' hb=>?_⟩
      have hinj : InjH ν H:=fun i j ki kj li lj=>hinjF i j ki kj li lj trivial trivial
      have hlen:=hvs.length
      refine calls_of_wp hfn hbody ?_
      have hs0 : StR P (GlobE P) nB B w0 ν ⟨args.length + (fn.ntmps - args.length),argsT 0 args .nil,H,nx,[]⟩ { tmps:=vs.toArray ++ Array.replicate (fn.ntmps - vs.toArray.size) undef,defers:=[] } w:=by
       refine ⟨hH,hlow,hinj,hid,hg',hb,fun t l ht=>?_,by simp [hlen],rfl,fun i hi=>by cases hi⟩
       simp only at ht
       rw [argsT_get] at ht
       split at ht
       ·rename_i hc
        obtain ⟨y,hy,hv⟩:=hvs.get t l (by simpa using ht)
        have hlt : t < vs.length:=(List.getElem?_eq_some_iff.1 hy).1
        simp only [Array.getD_eq_getD_getElem?]
        rw [Array.getElem?_append_left (by simpa using hlt)]
        simp only [List.getElem?_toArray,hy,Option.getD_some]
        exact hv
       ·rw [Tr.get_nil] at ht; cases ht
      refine wp_mono ((code_all hm ih hB lf).1 c _ s x hev ν _ w hs0 hν) ?_
      rintro e a' w' ⟨rfl,ν',hs',hf⟩
      obtain ⟨v,hv,hvv⟩:=results_ok hs' hres
      have key : OpPost nB B w0 ν ν' H nx ⟨oneL rs,olds nx s.H s.wr .nil ++ reach nx s.H (s.nx + 100000) ((oneL rs).ids ++ idsD (olds nx s.H s.wr .nil)) .nil [],s.nx,none⟩ w w' v:=by
       have hD : ∀ i y,dget (olds nx s.H s.wr .nil ++ reach nx s.H (s.nx + 100000) ((oneL rs).ids ++ idsD (olds nx s.H s.wr .nil)) .nil []) i = some y → y = s.H.get i ∧ ((i < nx ∧ i ∈ s.wr) ∨ (nx ≤ i ∧ y.isSome = true)):=by
        intro i y hy
        rw [dget_app] at hy
        split at hy
        ·rename_i z hz
         cases hy
         obtain ⟨q1,q2,q3⟩:=reach_spec (fun i x hx=>by simp [dget] at hx) i _ hz
         exact ⟨q2,.inr ⟨q1,q3⟩⟩
        ·obtain ⟨q1,q2,q3⟩:=olds_spec.1 y hy
         exact ⟨q2,.inl ⟨q1,q3⟩⟩
       have hI : ∀ i,i < nx → i ∈ s.wr → dget (olds nx s.H s.wr .nil ++ reach nx s.H (s.nx + 100000) ((oneL rs).ids ++ idsD (olds nx s.H s.wr .nil)) .nil []) i = some (s.H.get i):=by
        intro i hi hw
        have h1 : (dget (olds nx s.H s.wr .nil) i).isSome = true:=olds_spec.2 hw hi (Tr.get_nil i)
        cases hd : dget (olds nx s.H s.wr .nil ++ reach nx s.H (s.nx + 100000) ((oneL rs).ids ++ idsD (olds nx s.H s.wr .nil)) .nil []) i with
        | some y=>rw [(hD i y hd).1]
        | none =>
         rw [dget_app] at hd
         split at hd
         ·cases hd
         ·rw [hd] at h1; cases h1
       refine ⟨hf.ext,hvv,fun i k hk=>?_,fun ad had hno=>?_,fun i k l hin hk hl=>?_,fun i j ki kj li lj _ _ hi hj hli hlj he=>?_,fun i hin hd=>?_,fun i hin hd=>?_,hs'.below,hf.size⟩
       ·exact hs'.hr i k trivial (hD i _ hk).1.symm
       ·exact hf.frame ad had (fun i l hw hin hl=>hno i l hin (by
         have:=hI i hin hw
         simp only [this]; rfl) hl)
       ·rcases hf.fresh i l hin (.inr ⟨k,(hD i _ hk).1.symm⟩) hl with q | ⟨j,lj,q1,q2,q3,q4⟩
        ·exact .inl q
        ·right
         have hj:=hI j q2 q1
         refine ⟨j,lj,q2,?_,q3,q4⟩
         cases hg2 : s.H.get j with
         | none=>rw [hg2] at hj; exact hj
         | some kj =>
          exfalso
          have hin' : nx ≤ i:=hin
          have q2' : j < nx:=q2
          have:=hs'.inj i j k kj l lj (hD i _ hk).1.symm hg2 hl (by rw [hf.ext j (by show ¬ (nx ≤ j ∧ j < s.nx); omega)]; exact q3) q4.symm
          omega
       ·exact hs'.inj i j ki kj li lj (hD i _ hi).1.symm (hD j _ hj).1.symm hli hlj he
       ·obtain ⟨y,hy⟩:=Option.isSome_iff_exists.1 hd
        rcases (hD i y hy).2 with ⟨_,q⟩ | ⟨q,_⟩
        ·rcases hf.old i q with g | g | ⟨g1,g2⟩
         ·cases g
         ·have g' : nx ≤ i:=g; omega
         ·exact ⟨g1,Option.isSome_iff_exists.2 g2⟩
        ·omega
       ·obtain ⟨y,hy⟩:=Option.isSome_iff_exists.1 hd
        obtain ⟨q1,q2⟩:=hD i y hy
        rcases q2 with ⟨q,_⟩ | ⟨_,q⟩
        ·omega
        ·obtain ⟨k,hk⟩:=Option.isSome_iff_exists.1 q
         exact hs'.ids i k (by rw [← q1]; exact hk)
      cases x with
      | normal=>exact ⟨hs'.df,v,hv,v,ν',rfl,key⟩
      | ret=>exact ⟨hs'.df,v,hv,v,ν',rfl,key⟩
      | exit i=>exact absurd rfl (hx i)
     split at h
     ·cases h
     ·rename_i x s hne hev
      split at h
      ·rename_i rs hres
       exact fin x s rs (fun i e=>by subst e; exact hne i rfl) hev hres (by cases h; rfl)
      ·cases h
     ·cases h
    ·cases h
   ·cases h
theorem evF_ok (hm:P.follows .mixedOrders = true) (hB:B ≤ w0.heap.size) (hN:∀ (f:FuncId) (fn:Func),P.funcs[f]? = some fn → (fn.name == "runtime.NumGoroutine") = false) (hsz:P.funcs.size ≤ OB) {lf:Nat} {orc:Orc} (hon:NoH orc) (ho:OrcOk P nB B w0 orc) : ∀ n,CallOk P nB B w0 (evF P nB lf orc n):=fun n f args H nx out hob h hnx=>by
 obtain ⟨h1,h2⟩:=evF_okW hm hB hN hsz hon (CallOk.wide ho) n f args H nx out hob h hnx
 have hfoot : out.foot = none:=by
  cases n with
  | zero=>simp [evF] at h
  | succ n =>
   simp only [evF] at h
   split at h
   ·rename_i g hg
    exact (ho f args H nx out hob (by simp only [hg]; exact h) hnx).2.1
   ·split at h
    ·split at h
     ·split at h
      ·cases h
      ·split at h
       ·cases h; rfl
       ·cases h
      ·cases h
     ·cases h
    ·cases h
 exact ⟨h1,hfoot,fun ν vs w hν hvs hH hlow hinj hid hg hb=>h2 ν vs w hν hvs (by rw [hfoot]; exact hH) (by rw [hfoot]; exact hlow) (fun i j ki kj li lj _ _=>hinj i j ki kj li lj) hid hg hb⟩
end
end Go.Proofs.YtjpfhhndjpdmoaaGreatDoor

namespace Go.Proofs.YtjpfhhndjpdmoaaGreatDoor
open Go.RowKit

abbrev B (x:UInt8) : Value:=.int .u8 (x.toNat : Int)
def AB (l:List UInt8) : Array Value:=(l.map B).toArray
def gb (l:List UInt8) (i:Nat) : UInt8:=l.getD i 0

theorem AB_size (l:List UInt8) : (AB l).size = l.length:=by simp [AB]
theorem AB_get (l:List UInt8) (i:Nat) (h:i < l.length) : (AB l)[i]? = some (B (gb l i)):=by
 simp [AB,gb,h]
theorem AB_getElem (l:List UInt8) (i:Nat) (h:i < (AB l).size) : (AB l)[i] = B (gb l i):=by
 have h' : i < l.length:=by simpa [AB] using h
 simp [AB,gb,h']
theorem AB_set (l:List UInt8) (i:Nat) (x:UInt8) : (AB l).setIfInBounds i (B x) = AB (l.set i x):=by
 simp [AB,List.map_set]
theorem AB_oneCell (l:List UInt8) : ∀ v ∈ (AB l).toList,v.oneCell' = true:=by
 intro v hv
 simp [AB] at hv
 obtain ⟨x,_,rfl⟩:=hv
 rfl
def row (w:World) (b:Nat) : Option (TypeId × Array Value) :=
 match w.heap[b]? with
 | some (.cells cs t (0,0))=>some (t,cs)
 | _=>none
abbrev Row (w:World) (b:Nat) (t:TypeId) (cs:Array Value) : Prop:=row w b = some (t,cs)
theorem Row.heap {w:World} {b:Nat} {t:TypeId} {cs:Array Value} (h:Row w b t cs) : w.heap[b]? = some (.cells cs t (0,0)):=by
 unfold Row row at h
 split at h
 ·simp only [Option.some.injEq,Prod.mk.injEq] at h
  obtain ⟨rfl,rfl⟩:=h
  assumption
 ·cases h
theorem Row.of_heap {w:World} {b:Nat} {t:TypeId} {cs:Array Value} (h:w.heap[b]? = some (.cells cs t (0,0))) : Row w b t cs:=by
 unfold Row row
 rw [h]
 rfl
theorem row_congr {w w':World} {b:Nat} (h:w'.heap[b]? = w.heap[b]?) : row w' b = row w b:=by unfold row; rw [h]

section
variable {w w':World} {b:Nat} {t:TypeId} {cs:Array Value}
theorem Row.lt (h:Row w b t cs) : b < w.heap.size:=(Array.getElem?_eq_some_iff.1 h.heap).1
theorem Row.cell (h:Row w b t cs) (j:Nat) : w.cell? ⟨b,j,none⟩ = cs[j]?:=cell_of_row w b j cs t (0,0) h.heap
theorem Row.frozen (h:Row w b t cs) (j:Nat) : w.frozen? ⟨b,j,none⟩ = false:=frozen_of_row w b j cs t h.heap
theorem Row.new (w:World) (t:TypeId) (cs:Array Value) : Row (w.alloc (.cells cs t)) w.heap.size t cs:=.of_heap (heap_alloc_new w _)
theorem Row.alloc (h:Row w b t cs) (o:Obj) : Row (w.alloc o) b t cs:=(row_congr (Below.heap_alloc w o b h.lt)).trans h
theorem Row.drew (h:Row w b t cs) : Row w.drew b t cs:=h
theorem Row.set (h:Row w b t cs) (i:Nat) (v:Value) : Row (w.setCell ⟨b,i,none⟩ v) b t (cs.setIfInBounds i v):=.of_heap (heap_setCell_same w b i cs t v h.heap)
theorem Row.setOther (h:Row w b t cs) (a:Addr) (v:Value) (hne:b ≠ a.block) : Row (w.setCell a v) b t cs:=(row_congr (heap_setCell_other w a b v hne)).trans h
theorem Row.below {n:Nat} (h:Row w b t cs) (hb:Below n w w') (hlt:b < n) : Row w' b t cs:=(row_congr (hb.block b hlt)).trans h
theorem Row.setRow (h:Row w b t cs) (cs':Array Value) : Row (w.setRow b cs') b t cs':=.of_heap (setRow_heap w b cs cs' t _ h.heap)
theorem Row.setRowOther (h:Row w b t cs) (g:Nat) (cs':Array Value) (hne:b ≠ g) : Row (w.setRow g cs') b t cs:=(row_congr (setRow_other w g b cs' hne)).trans h
theorem Row.byte {l:List UInt8} (h:Row w b t (AB l)) (j:Nat) (hj:j < l.length) : w.cell? ⟨b,j,none⟩ = some (B (gb l j)):=(h.cell j).trans (AB_get l j hj)
theorem Row.setByte {l:List UInt8} (h:Row w b t (AB l)) (i:Nat) (x:UInt8) : Row (w.setCell ⟨b,i,none⟩ (B x)) b t (AB (l.set i x)):=by
 have:=h.set i (B x)
 rwa [AB_set] at this
end

theorem Row.newAt (w:World) (g:Nat) (t:TypeId) (cs:Array Value) (h:g = w.heap.size) : Row (w.alloc (.cells cs t)) g t cs:=by subst h; exact Row.new w t cs
def RowN (w:World) (b:Nat) (t:TypeId) (n:Nat) : Prop:=∃ cs,Row w b t cs ∧ cs.size = n
section
variable {w w':World} {b:Nat} {t:TypeId} {n:Nat}
theorem RowN.lt (h:RowN w b t n) : b < w.heap.size:=let ⟨_,h,_⟩:=h; h.lt
theorem RowN.newAt (w:World) (g:Nat) (t:TypeId) (cs:Array Value) (h:g = w.heap.size) : RowN (w.alloc (.cells cs t)) g t cs.size:=⟨cs,Row.newAt w g t cs h,rfl⟩
theorem RowN.alloc (h:RowN w b t n) (o:Obj) : RowN (w.alloc o) b t n:=let ⟨cs,h,e⟩:=h; ⟨cs,h.alloc o,e⟩
theorem RowN.drew (h:RowN w b t n) : RowN w.drew b t n:=h
theorem RowN.setOther (h:RowN w b t n) (a:Addr) (v:Value) (hne:b ≠ a.block) : RowN (w.setCell a v) b t n:=let ⟨cs,h,e⟩:=h; ⟨cs,h.setOther a v hne,e⟩
theorem RowN.setRowOther (h:RowN w b t n) (g:Nat) (cs:Array Value) (hne:b ≠ g) : RowN (w.setRow g cs) b t n:=let ⟨z,h,e⟩:=h; ⟨z,h.setRowOther g cs hne,e⟩
theorem RowN.below {m:Nat} (h:RowN w b t n) (hb:Below m w w') (hlt:b < m) : RowN w' b t n:=let ⟨z,h,e⟩:=h; ⟨z,h.below hb hlt,e⟩
end

/-! ### the same as rules for the walk: 'row' of a world that is written out -/
theorem row_alloc_new (w:World) (g:Nat) (t:TypeId) (cs:Array Value) (h:g = w.heap.size) : row (w.alloc (.cells cs t)) g = some (t,cs):=by
 subst h; exact Row.new w t cs
theorem row_alloc_old (w:World) (g:Nat) (o:Obj) (h:g < w.heap.size) : row (w.alloc o) g = row w g:=row_congr (Below.heap_alloc w o g h)
theorem row_drew (w:World) (g:Nat) : row w.drew g = row w g:=rfl
theorem row_set_other (w:World) (g g' i:Nat) (s:Option Nat) (v:Value) (h:g ≠ g') : row (w.setCell ⟨g',i,s⟩ v) g = row w g:=row_congr (heap_setCell_other w _ g v h)
theorem row_set_same (w:World) (g i:Nat) (v:Value) (h:(row w g).isSome = true) : row (w.setCell ⟨g,i,none⟩ v) g = (row w g).map fun p=>(p.1,p.2.setIfInBounds i v):=by
 obtain ⟨⟨t,cs⟩,hr⟩:=Option.isSome_iff_exists.1 h
 rw [hr]
 exact Row.set (t:=t) (cs:=cs) hr i v
theorem row_setRow_other (w:World) (g g':Nat) (cs:Array Value) (h:g ≠ g') : row (w.setRow g' cs) g = row w g:=row_congr (setRow_other w g' g cs h)
theorem row_setRow_same (w:World) (g:Nat) (cs:Array Value) (h:(row w g).isSome = true) : row (w.setRow g cs) g = (row w g).map fun p=>(p.1,cs):=by
 obtain ⟨⟨t,cs'⟩,hr⟩:=Option.isSome_iff_exists.1 h
 rw [hr]
 exact Row.setRow (t:=t) (cs:=cs') hr cs
theorem cell_row (w:World) (g i:Nat) (h:(row w g).isSome = true) : w.cell? ⟨g,i,none⟩ = (row w g).bind fun p=>p.2[i]?:=by
 obtain ⟨⟨t,cs⟩,hr⟩:=Option.isSome_iff_exists.1 h
 rw [hr]
 exact Row.cell (t:=t) (cs:=cs) hr i
theorem frozen_row (w:World) (g i:Nat) (h:(row w g).isSome = true) : w.frozen? ⟨g,i,none⟩ = false:=by
 obtain ⟨⟨t,cs⟩,hr⟩:=Option.isSome_iff_exists.1 h
 exact Row.frozen (t:=t) (cs:=cs) hr i

def allOne (cs:Array Value) : Bool:=cs.toList.all Value.oneCell'
theorem allOne_AB (l:List UInt8) : allOne (AB l) = true:=List.all_eq_true.2 (AB_oneCell l)
theorem oneCell_int (k:IntKind) (n:Int) : Value.oneCell' (.int k n) = true:=rfl
theorem allOne_lit (l:List Value) : allOne l.toArray = l.all Value.oneCell':=rfl
def plainPtr : Value → Bool | .pointer (some ⟨_,_,none⟩)=>true | _=>false
def blkOf : Value → Nat | .pointer (some a)=>a.block | _=>0
def offOf : Value → Nat | .pointer (some a)=>a.off | _=>0
def isAggV : Value → Bool | .agg _=>true | _=>false
def isIntV : Value → Bool | .int _ _=>true | _=>false
def numOf : Value → Int | .int _ n=>n | _=>0
def isSliceV : Value → Bool | .slice _ _ _=>true | _=>false
def lenV : Value → Nat | .slice _ n _=>n | _=>0
def addrV : Value → Option Addr | .slice a _ _=>a | _=>none
theorem isSliceV_mk (a:Option Addr) (n c:Nat) : isSliceV (.slice a n c) = true:=rfl
theorem lenV_mk (a:Option Addr) (n c:Nat) : lenV (.slice a n c) = n:=rfl
theorem addrV_mk (a:Option Addr) (n c:Nat) : addrV (.slice a n c) = a:=rfl
theorem plainPtr_mk (b o:Nat) : plainPtr (.pointer (some ⟨b,o,none⟩)) = true:=rfl
theorem blkOf_mk (b o:Nat) : blkOf (.pointer (some ⟨b,o,none⟩)) = b:=rfl
theorem offOf_mk (b o:Nat) : offOf (.pointer (some ⟨b,o,none⟩)) = o:=rfl
theorem isAggV_mk (cs:Array Value) : isAggV (.agg cs) = true:=rfl
theorem isIntV_mk (k:IntKind) (n:Int) : isIntV (.int k n) = true:=rfl
theorem numOf_mk (k:IntKind) (n:Int) : numOf (.int k n) = n:=rfl
theorem cells_agg (cs:Array Value) : Value.cells (.agg cs) = cs:=rfl
def sub (cs:Array Value) (o n:Nat) : Array Value:=cs.extract o (o + n)
def over (cs:Array Value) (o:Nat) (vs:Array Value) : Array Value:=(cs.toList.take o ++ vs.toList ++ cs.toList.drop (o + vs.size)).toArray
theorem sub_all (cs:Array Value) (n:Nat) (h:cs.size = n) : sub cs 0 n = cs:=by
 subst h; simp [sub]
theorem over_all (cs vs:Array Value) (h:cs.size = vs.size) : over cs 0 vs = vs:=by
 have : cs.toList.drop vs.size = []:=List.drop_eq_nil_of_le (by simp [h])
 simp [over,this]
theorem sub_AB (l:List UInt8) (o n:Nat) : sub (AB l) o n = AB ((l.drop o).take n):=by
 simp only [sub,AB]
 apply Array.ext'
 simp [List.map_take,List.map_drop,Nat.add_sub_cancel_left,List.extract_eq_take_drop]
theorem over_AB (l m:List UInt8) (o:Nat) : over (AB l) o (AB m) = AB (l.take o ++ m ++ l.drop (o + m.length)):=by
 simp only [over,AB]
 apply Array.ext'
 simp [List.map_take,List.map_drop]
section
variable {P:Program}
theorem run_loadCells_sub (w:World) (g o n:Nat) (t:TypeId) (cs:Array Value) (hr:Row w g t cs) (hn:o + n ≤ cs.size) :
  (loadCells ⟨g,o,none⟩ n).run P w = .ok (sub cs o n) w:=by
 have hl : (sub cs o n).toList.length = n:=by simp [sub]; omega
 have:=run_loadCells_list (P:=P) w ⟨g,o,none⟩ (sub cs o n).toList (fun j v hv=>by
  rw [Addr.add_lit,hr.cell]
  have hj : j < n:=by rw [← hl]; exact (List.getElem?_eq_some_iff.1 hv).1
  simp only [sub,Array.toList_extract,List.extract_eq_take_drop,List.getElem?_take,List.getElem?_drop] at hv
  rw [if_pos (by omega)] at hv
  simpa using hv)
 rw [hl,Array.toArray_toList] at this
 exact this
def szR (P:Program) (ty:TypeId) (w:World) : Nat:=match (sizeOf ty).run P w with | .ok n _=>n | _=>0
def rowSize (w:World) (b:Nat) : Nat:=((row w b).map (·.2.size)).getD 0
def rowCells (w:World) (b:Nat) : Array Value:=((row w b).map (·.2)).getD #[]
theorem plainPtr_spec {v:Value} (h:plainPtr v = true) : v = .pointer (some ⟨blkOf v,offOf v,none⟩):=by
 unfold plainPtr at h
 split at h
 ·rfl
 ·cases h
theorem isAggV_spec {v:Value} (h:isAggV v = true) : v = .agg v.cells:=by
 cases v <;> first | rfl | cases h
theorem isIntV_spec {v:Value} (h:isIntV v = true) : ∃ k,v = .int k (numOf v):=by
 cases v <;> first | exact ⟨_,rfl⟩ | cases h
section
variable (ρ : Operand → Value) (dst:Option Tmp) (ty:TypeId) (x y:Operand) (type:TypeId) (pos:String) (after:Array Edge) (guard:Option (Nat × Bool)) (w:World)
theorem run_load_r (h1:(isAgg ty).run P w = .ok true w) (hx:plainPtr (ρ x) = true) (h3:(row w (blkOf (ρ x))).isSome = true)
  (hn:(sizeOf ty).run P w = .ok (szR P ty w) w) (h2:offOf (ρ x) + szR P ty w ≤ rowSize w (blkOf (ρ x))) :
  (execOp ρ { dst,op:=.load ty x,type,pos,after,guard }).run P w = .ok (.value (.agg (sub (rowCells w (blkOf (ρ x))) (offOf (ρ x)) (szR P ty w)))) w:=by
 obtain ⟨⟨t,cs⟩,hr⟩:=Option.isSome_iff_exists.1 h3
 have hx':=plainPtr_spec hx
 simp only [rowSize,hr,Option.map_some,Option.getD_some] at h2
 have hl:=run_loadCells_sub (P:=P) w _ (offOf (ρ x)) (szR P ty w) t cs hr h2
 unfold execOp
 simp only []
 rw [hx']
 simp only [blkOf_mk,offOf_mk,rowCells,hr,Option.map_some,Option.getD_some]
 simp [Instr.loadAt,Instr.sureAddr,loadVar,Sem.run_bind,h1,hn,hl]
theorem run_store_r (hy:isAggV (ρ y) = true) (hx:plainPtr (ρ x) = true) (h3:(row w (blkOf (ρ x))).isSome = true)
  (hn:(sizeOf ty).run P w = .ok (ρ y).cells.size w) (h2:offOf (ρ x) + (ρ y).cells.size ≤ rowSize w (blkOf (ρ x))) (h1:allOne (ρ y).cells = true) :
  (execOp ρ { dst,op:=.store ty x y,type,pos,after,guard }).run P w = .ok .skip (w.setRow (blkOf (ρ x)) (over (rowCells w (blkOf (ρ x))) (offOf (ρ x)) (ρ y).cells)):=by
 obtain ⟨⟨t,cs⟩,hr⟩:=Option.isSome_iff_exists.1 h3
 have hx':=plainPtr_spec hx
 have hy':=isAggV_spec hy
 generalize (ρ y).cells = vs at *
 simp only [rowSize,hr,Option.map_some,Option.getD_some] at h2
 have hl:=run_storeCells_at (P:=P) (blkOf (ρ x)) (offOf (ρ x)) t vs.toList 0 cs w (Row.heap hr) (by simpa using h2) (List.all_eq_true.1 h1)
 unfold execOp
 simp only []
 rw [hx',hy']
 simp only [blkOf_mk,offOf_mk,rowCells,hr,Option.map_some,Option.getD_some,over]
 simp only [Nat.add_zero,Array.length_toList] at hl
 simp [Instr.storeAt,Instr.sureAddr,storeVar,Value.cells,Sem.run_bind,hn,hl]
theorem run_s2a_r (hu:P.underlying ty = some (.array (P.arrayLen ty) (P.elem ty))) (hx:isSliceV (ρ x) = true) (hn:P.arrayLen ty ≤ lenV (ρ x)) :
  (execOp ρ { dst,op:=.sliceToArrayPointer ty x,type,pos,after,guard }).run P w = .ok (.value (.pointer (addrV (ρ x)))) w:=by
 unfold execOp
 simp only []
 generalize ρ x = v at *
 cases v <;> first | cases hx | skip
 rename_i a n c
 have hn' : ¬ n < P.arrayLen ty:=by simpa [lenV] using hn
 simp [Instr.arrayAt,run_underlying hu,addrV,hn']
theorem fill_all (cs:Array Value) : ∀ (l:List Value) (k:Nat) (acc:Array Value),k + l.length = acc.size → cs.toList = acc.toList.take k ++ l →
  (l.zipIdx k).foldl (fun a (p:Value × Nat)=>a.setIfInBounds p.2 p.1) acc = cs
 | [],k,acc,hl,he=>by
  have : acc.toList.take k = acc.toList:=List.take_of_length_le (by simp at hl ⊢; omega)
  rw [this,List.append_nil] at he
  exact (Array.ext' he).symm
 | v :: l,k,acc,hl,he=>by
  simp only [List.zipIdx_cons,List.foldl_cons]
  refine fill_all cs l (k + 1) _ (by simp at hl ⊢; omega) ?_
  rw [he,Array.toList_setIfInBounds]
  have hk : k < acc.toList.length:=by simp at hl ⊢; omega
  rw [List.take_succ_eq_append_getElem (by simpa using hk),List.getElem_set_self,List.take_set_of_le (Nat.le_refl _)]
  simp
def zeroOk (P:Program) (e:TypeId) (w:World) : Bool:=match (zeroValue e).run P w with | .ok _ _=>true | _=>false
theorem zeroOk_spec {e:TypeId} {w:World} (h:zeroOk P e w = true) : ∃ z,(zeroValue e).run P w = .ok z w:=by
 unfold zeroOk at h
 cases hi : P.info? e with
 | none=>simp [zeroValue,typeInfo,hi,stuck,Sem.run_bind] at h
 | some i =>
  cases hz : i.zero with
  | none=>simp [zeroValue,typeInfo,hi,hz,unsupported,Sem.run_bind] at h
  | some z=>exact ⟨z,by simp [zeroValue,typeInfo,hi,hz,Sem.run_bind]⟩
theorem run_bs1_r (hu:P.underlying ty = some (.slice (P.elem ty))) (hx:isAggV (ρ x) = true) (hn:(sizeOf (P.elem ty)).run P w = .ok (ρ x).cells.size w) (hz':zeroOk P (P.elem ty) w = true) (h0:0 < (ρ x).cells.size) (h24:(ρ x).cells.size ≤ 16777216) :
  (execOp ρ { dst,op:=.buildSlice ty 1 #[(0,x)],type,pos,after,guard }).run P w = .ok (.value (.slice (some ⟨w.heap.size,0,none⟩) 1 1)) (w.alloc (.cells (ρ x).cells (P.elem ty))):=by
 have hx':=isAggV_spec hx
 obtain ⟨z,hz⟩:=zeroOk_spec hz'
 generalize (ρ x).cells = cs at *
 have hfold:=fill_all cs cs.toList 0 ((Array.range cs.size).map (z.cells[· % z.cells.size]!)) (by simp) (by simp)
 unfold execOp
 simp only [List.map_toArray,List.map_cons,List.map_nil]
 rw [hx']
 have h1 : ¬ cs.size > 2 ^ 24:=by omega
 have h2 : ¬ cs.size = 0:=by omega
 have hfill : Instr.fill (fun i=>some (i * cs.size,cs.size)) ((Array.range cs.size).map (z.cells[· % z.cells.size]!)) [(0,.agg cs)] = some cs:=by
  simp only [Instr.fill,cells_agg,Nat.zero_mul,Nat.zero_add]
  rw [if_neg (by simp)]
  rw [← Array.foldl_toList,Array.toList_zipIdx]
  exact congrArg some hfold
 simp [Instr.buildSlice,run_underlying hu,Sem.run_bind,hn,h1,h2,hz,hfill,newRow]
theorem run_index_r (hu:P.underlying ty = some (.array (P.arrayLen ty) (P.elem ty))) (hx:isAggV (ρ x) = true) (hy:isIntV (ρ y) = true)
  (he:(isAgg (P.elem ty)).run P w = .ok false w) (hn:(sizeOf (P.elem ty)).run P w = .ok 1 w) (h0:0 ≤ numOf (ρ y)) (h1:numOf (ρ y) < P.arrayLen ty) (h2:(numOf (ρ y)).toNat < (ρ x).cells.size) :
  (execOp ρ { dst,op:=.index ty x y,type,pos,after,guard }).run P w = .ok (.value ((ρ x).cells[(numOf (ρ y)).toNat]?.getD undef)) w:=by
 have hx':=isAggV_spec hx
 obtain ⟨k,hy'⟩:=isIntV_spec hy
 generalize (ρ x).cells = cs at *
 generalize numOf (ρ y) = i at *
 unfold execOp
 simp only []
 rw [hx',hy']
 simp [Instr.index,asIntOf,run_underlying hu,h0,h1,part,Sem.run_bind,he,hn,h2]
end
end

/-! ### lists by their index -/
def tab (n:Nat) (f:Nat → UInt8) : List UInt8:=(List.range n).map f
/-! ### bits on bytes -/
def xr (a b:UInt8) : UInt8:=a ^^^ b
theorem bx8 (a b:UInt8) : bits .xor .u8 (a.toNat : Int) (b.toNat : Int) = ((xr a b).toNat : Int):=by
 rw [u8_xor_nat _ _ a.toNat_lt b.toNat_lt,xr,UInt8.toNat_xor]
theorem bSetRow {n:Nat} {a w:World} (h:Below n a w) {g:Nat} (hg:n ≤ g) (cs:Array Value) : Below n a (w.setRow g cs) :=
 h.trans ⟨rfl,rfl,rfl,by simp,fun k hk=>setRow_other w g k cs (by omega)⟩

theorem ret_row {P:Program} {fn:Func} {p:Tmp} {ty:TypeId} {tmps:Array Value} {w:World} {R:Ending → World → Prop} {e:Exit} (he:e = .ret ∨ e = .normal) (h:fn.results = #[.cell p ty]) (g:Nat) (t:TypeId) (cs:Array Value) (n:Nat) (d:TypeDesc)
  (hp:tmps.getD p undef = .pointer (some ⟨g,0,none⟩)) (hr:Row w g t cs)
  (hu:P.underlying ty = some d) (hd:(match d with | .struct _ | .array _ _=>true | _=>false) = true) (hi:(P.info? ty).map (·.size) = some n) (hn:cs.size = n)
  (hR:R (.returned (.agg cs)) w) : bodyPost P fn R e { tmps,defers:=[] } w:=by
 have hres:=results_cell_row (P:=P) h tmps w g t cs (0,0) d hp hr.heap hu hd (by rw [hi,hn])
 rcases he with rfl | rfl <;> exact ⟨rfl,_,hres,hR⟩

attribute [go_sem] bx8 row_alloc_new row_alloc_old row_drew row_set_other row_set_same row_setRow_other row_setRow_same AB_size cell_row frozen_row allOne_AB allOne_lit oneCell_int rowSize rowCells szR plainPtr_mk blkOf_mk offOf_mk isAggV_mk isIntV_mk numOf_mk zeroOk isSliceV_mk lenV_mk addrV_mk cells_agg sub_all over_all AB_get AB_getElem AB_set
attribute [go_sem low] sub_AB over_AB
attribute [go_sem ↓] run_load_r run_store_r run_index_r run_s2a_r run_bs1_r

end Go.Proofs.YtjpfhhndjpdmoaaGreatDoor

/- Strings as lists of bytes. They hold for every program and every world. -/
namespace Go.Proofs.YtjpfhhndjpdmoaaGreatDoor
open Go.RowKit

abbrev S (l:List UInt8) : Value:=.string ⟨l.toArray⟩
section
variable {P:Program}
theorem run_len_S (t ty:TypeId) (l:List UInt8) (w:World) (h:P.underlying t = some .string) :
  (Builtin.len_ #[t] ty #[.string ⟨l.toArray⟩]).run P w = .ok (.int .i64 (l.length : Int)) w:=by
 rw [run_len_string _ _ _ _ h]
 rfl
theorem run_index_S (t:TypeId) (l:List UInt8) (k:IntKind) (i:Int) (w:World) (h:P.underlying t = some .string) (h0:0 ≤ i) (h1:i < l.length) :
  (Instr.index t (.string ⟨l.toArray⟩) (.int k i)).run P w = .ok (B (gb l i.toNat)) w:=by
 have hs : ((⟨l.toArray⟩ : ByteArray).size : Int) = l.length:=by simp [ByteArray.size]
 rw [run_index_string _ _ _ _ _ h,dif_pos ⟨h0,by rw [hs]; exact h1⟩]
 have h2 : i.toNat < l.length:=by omega
 congr 2
 simp only [gb]
 have : (⟨l.toArray⟩ : ByteArray)[i.toNat]'(by simp only [ByteArray.size,List.size_toArray]; exact h2) = l[i.toNat]:=rfl
 rw [this]
 simp [h2]
end
attribute [go_sem ↓] run_len_S run_index_S
theorem lS : (∀ (l:List Value) (i:Nat) (a:Value),l.toArray.setIfInBounds i a = (l.set i a).toArray) ∧ (∀ (x a:Value) (l:List Value),(x :: l).set 0 a = a :: l) ∧ (∀ (x a:Value) (l:List Value) (n:Nat),(x :: l).set (n + 1) a = x :: l.set n a):=⟨fun l i a=>List.setIfInBounds_toArray l i a,fun _ _ _=>rfl,fun _ _ _ _=>rfl⟩
theorem pS : (∀ (d:Tmp),(some d).toList = [d]) ∧ (∀ {α : Type} (a:α) (x y:List α),(a :: x) ++ y = a :: (x ++ y)) ∧ (∀ {α : Type} (x:List α),[] ++ x = x) ∧ (∀ (l:List Value) (i:Nat) (a:Value),l.toArray.setIfInBounds i a = (l.set i a).toArray) ∧ (∀ (x a:Value) (l:List Value),(x :: l).set 0 a = a :: l) ∧ (∀ (x a:Value) (l:List Value) (n:Nat),(x :: l).set (n + 1) a = x :: l.set n a):=⟨fun _=>rfl,fun _ _ _=>rfl,fun _=>rfl,lS⟩
end Go.Proofs.YtjpfhhndjpdmoaaGreatDoor

namespace Go.Proofs.YtjpfhhndjpdmoaaGreatDoor
set_option linter.unusedVariables false

def L64 : Nat:=18446744073709551616
def R256 : Nat:=115792089237316195423570985008687907853269984665640564039457584007913129639936
def lim (n i:Nat) : Nat:=n / 18446744073709551616 ^ i % 18446744073709551616
def redQ (m neg a T x:Nat) : Nat:=(T + x * a) % 18446744073709551616 * neg % 18446744073709551616
def redT (m neg a T x:Nat) : Nat:=(T + x * a + redQ m neg a T x * m) / 18446744073709551616
def redA (m neg a b:Nat) : Nat:=redT m neg a (redT m neg a (redT m neg a (redT m neg a 0 (lim b 0)) (lim b 1)) (lim b 2)) (lim b 3)
def shrS (m T:Nat) : Nat:=if T < m then T else T - m
def redS (m neg a b:Nat) : Nat:=shrS m (redA m neg a b)
structure MdS (m neg ri:Nat) : Prop where
 odd : m % 2 = 1
 big : 2 < m
 low : m < R256
 neg : (neg * m + 1) % 18446744073709551616 = 0
 inv : R256 * ri % m = 1
theorem redT_mul {m neg ri a T x:Nat} (h:MdS m neg ri) : redT m neg a T x * 18446744073709551616 = T + x * a + redQ m neg a T x * m:=by
 unfold redT
 have e : (T + x * a + redQ m neg a T x * m) % 18446744073709551616 = 0:=by
  have hn:=h.neg
  obtain ⟨k,hk⟩ : ∃ k,neg * m + 1 = 18446744073709551616 * k:=⟨(neg * m + 1) / 18446744073709551616,by omega⟩
  obtain ⟨S,hS⟩ : ∃ S,S = T + x * a:=⟨_,rfl⟩
  unfold redQ
  rw [← hS]
  have h1 : (S % 18446744073709551616 * neg % 18446744073709551616 * m) % 18446744073709551616 = (S * (neg * m)) % 18446744073709551616:=by
   rw [Nat.mul_mod,Nat.mod_mod,← Nat.mul_mod,Nat.mul_assoc,Nat.mul_mod,Nat.mod_mod,← Nat.mul_mod]
  rw [Nat.add_mod,h1,← Nat.add_mod]
  have h2 : S + S * (neg * m) = S * (neg * m + 1):=by rw [Nat.mul_add,Nat.mul_one,Nat.add_comm]
  rw [h2,hk]
  have h3 : S * (18446744073709551616 * k) = 18446744073709551616 * (S * k):=Nat.mul_left_comm _ _ _
  rw [h3]
  exact Nat.mul_mod_right _ _
 have:=Nat.div_add_mod (T + x * a + redQ m neg a T x * m) 18446744073709551616
 omega
theorem redQ_lt (m neg a T x:Nat) : redQ m neg a T x < 18446744073709551616:=Nat.mod_lt _ (by decide)
theorem redT_lt {m neg a T x:Nat} (hm:m < R256) (ha:a < R256) (hT:T < 2 * R256) (hx:x < 18446744073709551616) : redT m neg a T x < 2 * R256:=by
 unfold redT
 have hq:=redQ_lt m neg a T x
 have h1 : x * a ≤ 18446744073709551615 * R256:=Nat.mul_le_mul (by omega) (by omega)
 have h2 : redQ m neg a T x * m ≤ 18446744073709551615 * R256:=Nat.mul_le_mul (by omega) (by omega)
 rw [Nat.div_lt_iff_lt_mul (by decide)]
 have : R256 = 115792089237316195423570985008687907853269984665640564039457584007913129639936:=rfl
 omega
def c1 : Nat:=18446744073709551616
def c2 : Nat:=c1 * c1
def c3 : Nat:=c1 * c2
theorem c2_eq : c2 = 340282366920938463463374607431768211456:=rfl
theorem c3_eq : c3 = 6277101735386680763835789423207666416102355444464034512896:=rfl
theorem R_eq : R256 = c1 * (c1 * (c1 * c1)):=rfl
theorem lim_sum0 (b:Nat) (hb:b < R256) : lim b 0 + lim b 1 * 18446744073709551616 + lim b 2 * 340282366920938463463374607431768211456 + lim b 3 * 6277101735386680763835789423207666416102355444464034512896 = b:=by
 have : R256 = 115792089237316195423570985008687907853269984665640564039457584007913129639936:=rfl
 unfold lim
 rw [show (18446744073709551616 : Nat) ^ 0 = 1 from rfl,show (18446744073709551616 : Nat) ^ 1 = 18446744073709551616 from rfl,show (18446744073709551616 : Nat) ^ 2 = 340282366920938463463374607431768211456 from rfl,show (18446744073709551616 : Nat) ^ 3 = 6277101735386680763835789423207666416102355444464034512896 from rfl]
 omega
theorem lim_sum (b:Nat) (hb:b < R256) : lim b 0 + lim b 1 * c1 + lim b 2 * c2 + lim b 3 * c3 = b:=lim_sum0 b hb
theorem q_sum (Q0 Q1 Q2 Q3:Nat) (h0:Q0 < 18446744073709551616) (h1:Q1 < 18446744073709551616) (h2:Q2 < 18446744073709551616) (h3:Q3 < 18446744073709551616) : Q0 + Q1 * c1 + Q2 * c2 + Q3 * c3 < R256:=by
 have : R256 = 115792089237316195423570985008687907853269984665640564039457584007913129639936:=rfl
 rw [c2_eq,c3_eq,this,show c1 = 18446744073709551616 from rfl]
 omega
theorem lim_lt (n i:Nat) : lim n i < 18446744073709551616:=Nat.mod_lt _ (by decide)
theorem four (L T1 T2 T3 T4 S0 S1 S2 S3:Nat) (h0:T1 * L = S0) (h1:T2 * L = T1 + S1) (h2:T3 * L = T2 + S2) (h3:T4 * L = T3 + S3) : T4 * (L * (L * (L * L))) = S0 + S1 * L + S2 * (L * L) + S3 * (L * (L * L)):=by
 rw [← Nat.mul_assoc T4,h3,Nat.add_mul,← Nat.mul_assoc T3,h2,Nat.add_mul,← Nat.mul_assoc T2,h1,Nat.add_mul,h0]
theorem redA_mul {m neg ri a b:Nat} (h:MdS m neg ri) (hb:b < R256) : ∃ Q,Q < R256 ∧ redA m neg a b * R256 = a * b + Q * m:=by
 obtain ⟨x0,e0⟩ : ∃ x,x = lim b 0:=⟨_,rfl⟩
 obtain ⟨x1,e1⟩ : ∃ x,x = lim b 1:=⟨_,rfl⟩
 obtain ⟨x2,e2⟩ : ∃ x,x = lim b 2:=⟨_,rfl⟩
 obtain ⟨x3,e3⟩ : ∃ x,x = lim b 3:=⟨_,rfl⟩
 have hs:=lim_sum b hb
 unfold redA
 rw [← e0,← e1,← e2,← e3] at hs ⊢
 have h0:=redT_mul (a:=a) (T:=0) (x:=x0) h
 have q0:=redQ_lt m neg a 0 x0
 obtain ⟨Q0,f0⟩ : ∃ q,q = redQ m neg a 0 x0:=⟨_,rfl⟩
 obtain ⟨T1,t1⟩ : ∃ t,t = redT m neg a 0 x0:=⟨_,rfl⟩
 rw [← f0,← t1] at h0
 rw [← f0] at q0
 rw [← t1]
 have h1:=redT_mul (a:=a) (T:=T1) (x:=x1) h
 have q1:=redQ_lt m neg a T1 x1
 obtain ⟨Q1,f1⟩ : ∃ q,q = redQ m neg a T1 x1:=⟨_,rfl⟩
 obtain ⟨T2,t2⟩ : ∃ t,t = redT m neg a T1 x1:=⟨_,rfl⟩
 rw [← f1,← t2] at h1
 rw [← f1] at q1
 rw [← t2]
 have h2:=redT_mul (a:=a) (T:=T2) (x:=x2) h
 have q2:=redQ_lt m neg a T2 x2
 obtain ⟨Q2,f2⟩ : ∃ q,q = redQ m neg a T2 x2:=⟨_,rfl⟩
 obtain ⟨T3,t3⟩ : ∃ t,t = redT m neg a T2 x2:=⟨_,rfl⟩
 rw [← f2,← t3] at h2
 rw [← f2] at q2
 rw [← t3]
 have h3:=redT_mul (a:=a) (T:=T3) (x:=x3) h
 have q3:=redQ_lt m neg a T3 x3
 obtain ⟨Q3,f3⟩ : ∃ q,q = redQ m neg a T3 x3:=⟨_,rfl⟩
 obtain ⟨T4,t4⟩ : ∃ t,t = redT m neg a T3 x3:=⟨_,rfl⟩
 rw [← f3,← t4] at h3
 rw [← f3] at q3
 rw [← t4]
 refine ⟨Q0 + Q1 * c1 + Q2 * c2 + Q3 * c3,q_sum _ _ _ _ q0 q1 q2 q3,?_⟩
 have e : ∀ x c,a * (x * c) = x * a * c:=fun x c=>by rw [← Nat.mul_assoc,Nat.mul_comm a x]
 have hab : a * b = x0 * a + x1 * a * c1 + x2 * a * c2 + x3 * a * c3:=by
  rw [← hs,Nat.mul_add,Nat.mul_add,Nat.mul_add,e,e,e,Nat.mul_comm a x0]
 have hqm : (Q0 + Q1 * c1 + Q2 * c2 + Q3 * c3) * m = Q0 * m + Q1 * m * c1 + Q2 * m * c2 + Q3 * m * c3:=by
  rw [Nat.add_mul,Nat.add_mul,Nat.add_mul,Nat.mul_right_comm Q1,Nat.mul_right_comm Q2,Nat.mul_right_comm Q3]
 have h4:=four c1 T1 T2 T3 T4 (0 + x0 * a + Q0 * m) (x1 * a + Q1 * m) (x2 * a + Q2 * m) (x3 * a + Q3 * m) h0 (by rw [← Nat.add_assoc]; exact h1) (by rw [← Nat.add_assoc]; exact h2) (by rw [← Nat.add_assoc]; exact h3)
 rw [← R_eq] at h4
 rw [h4,hab,hqm,show c1 * c1 = c2 from rfl,show c1 * c2 = c3 from rfl,Nat.add_mul,Nat.add_mul,Nat.add_mul,Nat.zero_add]
 omega
theorem redS_eq {m neg ri a b:Nat} (h:MdS m neg ri) (hb:b < R256) (hab:a * b < m * R256) : redS m neg a b = a * b * ri % m:=by
 obtain ⟨Q,hQ,hT⟩:=redA_mul (a:=a) h hb
 have hm0 : 0 < m:=by have:=h.big; omega
 obtain ⟨T,eT⟩ : ∃ t,t = redA m neg a b:=⟨_,rfl⟩
 rw [← eT] at hT
 have h2m : T < 2 * m:=by
  have h1 : Q * m < R256 * m:=Nat.mul_lt_mul_of_pos_right hQ hm0
  have h2 : T * R256 < 2 * m * R256:=by rw [hT]; have:=Nat.mul_comm R256 m; have:=Nat.mul_assoc 2 m R256; omega
  exact Nat.lt_of_mul_lt_mul_right h2
 have hs : shrS m T = T % m:=by
  unfold shrS
  split
  ·next h=>rw [Nat.mod_eq_of_lt h]
  ·next h=>rw [Nat.mod_eq_sub_mod (by omega),Nat.mod_eq_of_lt (by omega)]
 unfold redS
 rw [← eT,hs]
 have h3 : (T * R256 * ri) % m = T % m:=by
  rw [Nat.mul_assoc,Nat.mul_mod,h.inv,Nat.mul_one,Nat.mod_mod]
 rw [← h3,hT,Nat.add_mul,Nat.mul_right_comm Q m ri,Nat.add_mul_mod_self_right]
end Go.Proofs.YtjpfhhndjpdmoaaGreatDoor

namespace Go.Proofs.YtjpfhhndjpdmoaaGreatDoor
open Go.RowKit
set_option linter.unusedVariables false
set_option linter.unusedSimpArgs false

abbrev Q (x:Nat) : Value:=.int .u64 (x:Int)
def AQ (l:List Nat) : Array Value:=(l.map Q).toArray
theorem AQ_size (l:List Nat) : (AQ l).size = l.length:=by simp [AQ]
theorem AQ_get (l:List Nat) (i:Nat) (h:i < l.length) : (AQ l)[i]? = some (Q (l.getD i 0)):=by
 unfold AQ
 rw [List.getElem?_toArray,List.getElem?_map,List.getElem?_eq_getElem h]
 simp [List.getD_eq_getElem?_getD,List.getElem?_eq_getElem h]
theorem AQ_set (l:List Nat) (i:Nat) (x:Nat) : (AQ l).setIfInBounds i (Q x) = AQ (l.set i x):=by
 unfold AQ
 apply Array.toList_inj.1
 rw [Array.toList_setIfInBounds]
 simp [List.map_set]
theorem AQ_one (l:List Nat) : allOne (AQ l) = true:=List.all_eq_true.2 fun u hu=>by
 obtain ⟨y,_,rfl⟩:=List.mem_map.1 (by simpa [AQ] using hu)
 rfl
def nL (n:Nat) : List Nat:=[lim n 0,lim n 1,lim n 2,lim n 3]
def NV (n:Nat) : Value:=.agg (AQ (nL n))
theorem nL_get (n i:Nat) (h:i < 4) : (nL n).getD i 0 = lim n i:=by
 have : i = 0 ∨ i = 1 ∨ i = 2 ∨ i = 3:=by omega
 rcases this with rfl | rfl | rfl | rfl <;> rfl
def nK (n i:Nat) : List Nat:=(List.range 4).map fun j=>if j < i then lim n j else 0
theorem nK_len (n i:Nat) : (nK n i).length = 4:=by simp [nK]
theorem nK_all (n:Nat) : nK n 4 = nL n:=rfl
theorem nK_step (n i:Nat) (h:i < 4) : (nK n i).set i (lim n i) = nK n (i + 1):=by
 have : i = 0 ∨ i = 1 ∨ i = 2 ∨ i = 3:=by omega
 rcases this with rfl | rfl | rfl | rfl <;> rfl
def pw (i:Nat) : Nat:=18446744073709551616 ^ i
def cyS (a b i:Nat) : Nat:=(a % pw i + b % pw i) / pw i
theorem pw0 : pw 0 = 1:=rfl
theorem pw1 : pw 1 = 18446744073709551616:=rfl
theorem pw2 : pw 2 = 340282366920938463463374607431768211456:=rfl
theorem pw3 : pw 3 = 6277101735386680763835789423207666416102355444464034512896:=rfl
theorem pw4 : pw 4 = R256:=rfl
theorem lim_eq (n i:Nat) : lim n i = n / pw i % 18446744073709551616:=rfl
theorem pw_pos (i:Nat) : 0 < pw i:=Nat.pow_pos (by decide)
theorem pw_succ (i:Nat) : pw (i + 1) = pw i * 18446744073709551616:=Nat.pow_succ _ _
theorem cyS_zero (a b:Nat) : cyS a b 0 = 0:=by unfold cyS; rw [pw0,Nat.mod_one,Nat.mod_one]
theorem cyS_le (a b i:Nat) : cyS a b i ≤ 1:=by
 unfold cyS
 have h:=pw_pos i
 have h1:=Nat.mod_lt a h
 have h2:=Nat.mod_lt b h
 have : (a % pw i + b % pw i) / pw i < 2:=by
  rw [Nat.div_lt_iff_lt_mul h]; omega
 omega
theorem mod_pw_succ (a i:Nat) : a % pw (i + 1) = a % pw i + lim a i * pw i:=by
 rw [pw_succ,lim_eq,Nat.mod_mul,Nat.mul_comm]
theorem cyS_step (a b i:Nat) : (lim a i + lim b i + cyS a b i) % 18446744073709551616 = lim (a + b) i ∧ (lim a i + lim b i + cyS a b i) / 18446744073709551616 = cyS a b (i + 1):=by
 have h:=pw_pos i
 obtain ⟨P,hP⟩ : ∃ P,P = pw i:=⟨_,rfl⟩
 have ha:=mod_pw_succ a i
 have hb:=mod_pw_succ b i
 have e1 : cyS a b i * P + (a % P + b % P) % P = a % P + b % P:=by
  have:=Nat.div_add_mod (a % P + b % P) P
  unfold cyS
  rw [← hP,Nat.mul_comm]
  exact this
 rw [← hP] at h ha hb
 have hs : a % pw (i + 1) + b % pw (i + 1) = (lim a i + lim b i + cyS a b i) * P + (a % P + b % P) % P:=by
  rw [ha,hb,Nat.add_mul,Nat.add_mul]
  omega
 have hr : (a % P + b % P) % P < P:=Nat.mod_lt _ h
 have hd : (a % pw (i + 1) + b % pw (i + 1)) / P = lim a i + lim b i + cyS a b i:=by
  rw [hs,Nat.mul_comm,Nat.mul_add_div h,Nat.div_eq_of_lt hr,Nat.add_zero]
 constructor
 ·rw [show lim (a + b) i = (a + b) / P % 18446744073709551616 by rw [lim_eq,hP]]
  have e : (a + b) / P % 18446744073709551616 = (a + b) % (P * 18446744073709551616) / P:=by rw [Nat.mod_mul_right_div_self]
  rw [e]
  have e2 : (a + b) % (P * 18446744073709551616) = (a % pw (i + 1) + b % pw (i + 1)) % (P * 18446744073709551616):=by
   rw [show pw (i + 1) = P * 18446744073709551616 by rw [pw_succ,hP],← Nat.add_mod]
  rw [e2,Nat.mod_mul_right_div_self,hd]
 ·have e : cyS a b (i + 1) = (a % pw (i + 1) + b % pw (i + 1)) / P / 18446744073709551616:=by
   rw [Nat.div_div_eq_div_mul,hP,← pw_succ]
   rfl
  rw [e,hd]
def boS (a b i:Nat) : Nat:=if a % pw i < b % pw i then 1 else 0
theorem boS_le (a b i:Nat) : boS a b i ≤ 1:=by unfold boS; split <;> omega
theorem boS_zero (a b:Nat) : boS a b 0 = 0:=by unfold boS; rw [pw0,Nat.mod_one,Nat.mod_one]; rfl
theorem bo_key (x y A B P bo:Nat) (hx:x < 18446744073709551616) (hy:y < 18446744073709551616) (hA:A < P) (hB:B < P) (hbo:bo = if A < B then 1 else 0) :
  x * P + A + P * 18446744073709551616 - (y * P + B) = P * (x + 18446744073709551616 - y - bo) + (A + bo * P - B) ∧ A + bo * P - B < P:=by
 have hyP : (y + 1) * P ≤ 18446744073709551616 * P:=Nat.mul_le_mul_right P (by omega)
 rw [Nat.add_mul,Nat.one_mul] at hyP
 split at hbo
 ·subst hbo
  obtain ⟨z,hz⟩ : ∃ z,z = x + 18446744073709551616 - y - 1:=⟨_,rfl⟩
  have hz2 : z + y + 1 = x + 18446744073709551616:=by omega
  have h3 : z * P + y * P + P = x * P + 18446744073709551616 * P:=by
   have:=congrArg (· * P) hz2
   simpa only [Nat.add_mul,Nat.one_mul] using this
  rw [← hz,Nat.mul_comm P z,Nat.one_mul]
  omega
 ·subst hbo
  obtain ⟨z,hz⟩ : ∃ z,z = x + 18446744073709551616 - y - 0:=⟨_,rfl⟩
  have hz2 : z + y = x + 18446744073709551616:=by omega
  have h3 : z * P + y * P = x * P + 18446744073709551616 * P:=by
   have:=congrArg (· * P) hz2
   simpa only [Nat.add_mul] using this
  rw [← hz,Nat.mul_comm P z,Nat.zero_mul]
  omega
theorem bo_mod (a b M r:Nat) (hM:0 < M) (hb:b < r * M) : (a + r * M - b) % M = (a % M + M - b % M) % M:=by
 have ha:=Nat.div_add_mod a M
 have hb2:=Nat.div_add_mod b M
 have hV:=Nat.mod_lt a hM
 have hW:=Nat.mod_lt b hM
 have hbr : b / M < r:=by rw [Nat.div_lt_iff_lt_mul hM]; exact hb
 obtain ⟨s,hs⟩ : ∃ s,r = s + b / M + 1:=⟨r - b / M - 1,by omega⟩
 have e : a + r * M - b = M * (a / M + s) + (a % M + M - b % M):=by
  have h1 : r * M = s * M + b / M * M + M:=by rw [hs,Nat.add_mul,Nat.add_mul,Nat.one_mul]
  rw [h1,Nat.mul_add,Nat.mul_comm M s]
  have h2:=Nat.mul_comm M (b / M)
  omega
 rw [e,Nat.mul_add_mod]
theorem boS_step (a b i:Nat) (hb:b < R256) (hi:i < 4) : (lim a i + 18446744073709551616 - lim b i - boS a b i) % 18446744073709551616 = lim (a + R256 - b) i ∧ (if lim a i < lim b i + boS a b i then 1 else 0) = boS a b (i + 1):=by
 have h:=pw_pos i
 have ha:=mod_pw_succ a i
 have hbm:=mod_pw_succ b i
 have hA:=Nat.mod_lt a h
 have hB:=Nat.mod_lt b h
 obtain ⟨r,hr⟩ : ∃ r,R256 = r * pw (i + 1):=by
  have : i = 0 ∨ i = 1 ∨ i = 2 ∨ i = 3:=by omega
  rcases this with rfl | rfl | rfl | rfl
  ·exact ⟨6277101735386680763835789423207666416102355444464034512896,rfl⟩
  ·exact ⟨340282366920938463463374607431768211456,rfl⟩
  ·exact ⟨18446744073709551616,rfl⟩
  ·exact ⟨1,rfl⟩
 have hsucc:=pw_succ i
 obtain ⟨hk,hrem⟩:=bo_key (lim a i) (lim b i) (a % pw i) (b % pw i) (pw i) (boS a b i) (lim_lt _ _) (lim_lt _ _) hA hB rfl
 constructor
 ·rw [lim_eq (a + R256 - b),← Nat.mod_mul_right_div_self,← hsucc,hr,bo_mod a b (pw (i + 1)) r (pw_pos _) (by rw [← hr]; exact hb),ha,hbm]
  rw [show a % pw i + lim a i * pw i + pw (i + 1) - (b % pw i + lim b i * pw i) = lim a i * pw i + a % pw i + pw i * 18446744073709551616 - (lim b i * pw i + b % pw i) by rw [hsucc]; omega,hk,hsucc,Nat.mod_mul_right_div_self,Nat.mul_add_div h,Nat.div_eq_of_lt hrem]
  rfl
 ·have e : boS a b (i + 1) = if a % pw (i + 1) < b % pw (i + 1) then 1 else 0:=rfl
  rw [e,ha,hbm]
  have hxy : lim a i < lim b i → lim a i * pw i + pw i ≤ lim b i * pw i:=fun hlt=>by
   have:=Nat.mul_le_mul_right (pw i) (show lim a i + 1 ≤ lim b i by omega)
   rwa [Nat.add_mul,Nat.one_mul] at this
  have hyx : lim b i < lim a i → lim b i * pw i + pw i ≤ lim a i * pw i:=fun hlt=>by
   have:=Nat.mul_le_mul_right (pw i) (show lim b i + 1 ≤ lim a i by omega)
   rwa [Nat.add_mul,Nat.one_mul] at this
  have hee : lim a i = lim b i → lim a i * pw i = lim b i * pw i:=fun h=>by rw [h]
  unfold boS
  split <;> split <;> split <;> first | rfl | (exfalso; omega)
end Go.Proofs.YtjpfhhndjpdmoaaGreatDoor
