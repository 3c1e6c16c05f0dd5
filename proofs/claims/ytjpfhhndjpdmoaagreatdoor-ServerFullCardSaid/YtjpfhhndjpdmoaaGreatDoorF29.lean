/- Part of the proof: EvPs,EvLo,EvRf,EvHi,RoundP,ChunkU,EvSp,EvSo,EvPr,EvPn,EvLx,EvGh,OldSpec. No conditions of its own. -/
import Derived.Test.YtjpfhhndjpdmoaaGreatDoorF28
import Derived.LoopIn
import Derived.LoopNIn
import Derived.OrdersIn
import Derived.OwnWalkIn
import Derived.RangeFuncBound
import Derived.RangeFuncCalls
import Derived.RangeFuncLeaves
import Derived.RangeFuncNested
import Derived.Shelf.Abstract
import Derived.TacticsIn
import Derived.TacticsInMore
import Derived.RangeFuncWrites
namespace Go.Proofs.YtjpfhhndjpdmoaaGreatDoor
open Go.RowKit
set_option linter.unusedVariables false
set_option linter.unusedSimpArgs false

def peersO : List LV → Hp → Nat → Option Out:=fun args H nx=>match args with
 | []=>some ⟨.v (.bool true),[],nx,none⟩
 | _=>none
def orcP : Orc:=fun f=>match Nat.beq f 12 with
 | true=>some peersO
 | false=>orcS f
noncomputable def cfP : FuncId → List LV → Hp → Nat → Option Out:=evFQ Tryz.prog GN 100000 orcP 60
/-! ### names -/
noncomputable def nuS (t1 t2 t3 t4 t5 t6 t7:TypeId) (l:List Loc) : Env:=fun i=>if i < GN then nu0 t1 t2 t3 t4 t5 t6 t7 i else if SB ≤ i then l[i - SB]? else none
section
variable {w:World} {t1 t2 t3 t4 t5 t6 t7:TypeId}
theorem nuS_ext (l:List Loc) : Ext (nu0 t1 t2 t3 t4 t5 t6 t7) (nuS t1 t2 t3 t4 t5 t6 t7 l):=by
 intro i x h
 have hi : i < GN:=by
  unfold nu0 at h
  by_cases hi : i < GN
  ·exact hi
  ·rw [if_neg hi] at h; cases h
 unfold nuS
 rw [if_pos hi]
 exact h
theorem nuS_free (l:List Loc) : Free (nuS t1 t2 t3 t4 t5 t6 t7 l) GN:=by
 intro i h1 h2
 unfold nuS
 rw [if_neg (by omega),if_neg (by omega)]
theorem HRF.ext {ν ν' : Env} {H:Hp} {w:World} (h:HRF ν H none w) (he:Ext ν ν') : HRF ν' H none w:=by
 intro i k hf hk
 obtain ⟨l,h1,h2⟩:=h i k hf hk
 exact ⟨l,he i l h1,h2.ext he⟩
theorem start (hg:GRows w t1 t2 t3 t4 t5 t6 t7) {l:List Loc} {args:List LV} {vs:List Value} {nt N:Nat} (hN:args.length + (nt - args.length) = N) (hv:VRs (nuS t1 t2 t3 t4 t5 t6 t7 l) args vs) :
  StR Tryz.prog (GlobE Tryz.prog) GN w.heap.size w (nuS t1 t2 t3 t4 t5 t6 t7 l) ⟨N,argsT 0 args .nil,GH t1 t2 t3 t4 t5 t6 t7,GN,[]⟩ { tmps:=vs.toArray ++ Array.replicate (nt - vs.toArray.size) undef,defers:=[] } w:=by
 have hx:=nuS_ext (t1:=t1) (t2:=t2) (t3:=t3) (t4:=t4) (t5:=t5) (t6:=t6) (t7:=t7) l
 have hlow : ∀ i,i < GN → nuS t1 t2 t3 t4 t5 t6 t7 l i = nu0 t1 t2 t3 t4 t5 t6 t7 i:=fun i hi=>by unfold nuS; rw [if_pos hi]
 rw [← hN]
 refine entry hv ((gh_hrf hg).ext hx) (fun i k l' _ hi hk _=>?_) (fun i j ki kj li lj hi hj h4 h5 h6=>?_) (fun i k hk=>gh_low hk) (fun g hg'=>?_) (Below.refl _ w)
 ·have:=gh_low hk; omega
 ·rw [hlow i (gh_low hi)] at h4
  rw [hlow j (gh_low hj)] at h5
  rw [← nu0_some h4,← nu0_some h5,h6]
 ·have hs : Tryz.prog.globals.size = GN:=by kernel_rfl
  rw [hs] at hg'
  exact ⟨_,by rw [hlow g hg']; unfold nu0; rw [if_pos hg']⟩
end
end Go.Proofs.YtjpfhhndjpdmoaaGreatDoor

namespace Go.Proofs.YtjpfhhndjpdmoaaGreatDoor
open Go.RowKit
set_option linter.unusedVariables false
set_option linter.unusedSimpArgs false
set_option autoImplicit false

def keysD : Dl → List Nat
 | []=>[]
 | (i,_) :: d=>i :: keysD d
def locD (args:List LV) (H:Hp) : Dl:=reach 0 H 100000 (idsL args) .nil []
def locO (cf:FuncId → List LV → Hp → Nat → Option Out) (f:FuncId) (args:List LV) (H:Hp) (nx:Nat) : Option Out:=match cf f args (Hp.app .nil (locD args H)) nx with
 | some ⟨v,d,nx',_⟩=>some ⟨v,d,nx',some (keysD (locD args H))⟩
 | none=>none
section
variable {P:Program} {nB B:Nat} {w0:World}
def FnOkW (P:Program) (nB B:Nat) (w0:World) (f:FuncId) (g:List LV → Hp → Nat → Option Out) : Prop :=
 ∀ args H nx out,g args H nx = some out → nx ≤ out.nx → FnHas P f ∧ ∀ (ν : Env) (vs:List Value) (w:World),(∀ i,nx ≤ i → i < out.nx → ν i = none) → VRs ν args vs → HRF ν H out.foot w → LowF nB B ν H out.foot → InjHF ν H out.foot → (∀ i k,H.get i = some k → i < nx) → GlobE P ν → Below B w0 w →
  Calls P f vs.toArray w (fun e w'=>∃ v' ν',e = .returned v' ∧ OpPost nB B w0 ν ν' H nx out w w' v')
theorem FnOk.wide {f:FuncId} {g:List LV → Hp → Nat → Option Out} (h:FnOk P nB B w0 f g) : FnOkW P nB B w0 f g:=by
 intro args H nx out hc hnx
 obtain ⟨h1,h2,h3⟩:=h args H nx out hc hnx
 refine ⟨h1,fun ν vs w hν hvs hH hlow hinj hid hg hb=>?_⟩
 rw [h2] at hH hlow hinj
 exact h3 ν vs w hν hvs hH hlow (fun i j ki kj li lj=>hinj i j ki kj li lj trivial trivial) hid hg hb
def stF (s:Stg) (args:List LV) (H:Hp) (nx:Nat) : Option Out:=match stO s args H nx with
 | some ⟨v,d,nx',_⟩=>some ⟨v,d,nx',some (s.D.map Prod.fst)⟩
 | none=>none
def withO (f:FuncId) (g:List LV → Hp → Nat → Option Out) (orc:Orc) : Orc:=fun k=>match Nat.beq k f with
 | true=>some g
 | false=>orc k
theorem withO_ok {f:FuncId} {g:List LV → Hp → Nat → Option Out} {orc:Orc} (h:FnOkW P nB B w0 f g) (ho:OrcOkW P nB B w0 orc) : OrcOkW P nB B w0 (withO f g orc):=by
 intro k args H nx out hob h1 hnx
 have h2 : (match withO f g orc k with | some g=>g args H nx | none=>none) = some out:=h1
 unfold withO at h2
 cases hb : Nat.beq k f with
 | true =>
  rw [hb] at h2
  obtain rfl:=nbeq hb
  exact h args H nx out h2 hnx
 | false =>
  rw [hb] at h2
  exact ho k args H nx out hob h2 hnx
theorem noH_with {f:FuncId} {g:List LV → Hp → Nat → Option Out} {orc:Orc} (h:Nat.ble OB f = false) (ho:NoH orc) : NoH (withO f g orc):=by
 intro k hk
 unfold withO
 have hn : Nat.beq k f = false:=by
  cases hb : Nat.beq k f with
  | false=>rfl
  | true=>rw [nbeq hb,h] at hk; cases hk
 rw [hn]
 exact ho k hk
def locs (cf:FuncId → List LV → Hp → Nat → Option Out) : List FuncId → Orc → Orc
 | [],orc=>orc
 | f :: l,orc=>withO f (locO cf f) (locs cf l orc)
end
end Go.Proofs.YtjpfhhndjpdmoaaGreatDoor

namespace Go.Proofs.YtjpfhhndjpdmoaaGreatDoor
open Go.RowKit
set_option linter.unusedVariables false
set_option linter.unusedSectionVars false
set_option linter.unusedSimpArgs false
set_option autoImplicit false

def Act.bare (a:Act) : Act:={ a with defers:=[] }
section
variable {P:Program} {GE:Env → Prop} [hGE : GEok P GE] {nB B:Nat} {w0:World} {callf:FuncId → List LV → Hp → Nat → Option Out} {ops:Array Oper}
theorem bare_put (a:Act) (dst:Option Tmp) (v:Value) : Act.bare (a.put dst v) = (Act.bare a).put dst v:=by
 cases dst <;> rfl
theorem put_defers (a:Act) (dst:Option Tmp) (v:Value) : (a.put dst v).defers = a.defers:=by
 cases dst <;> rfl
theorem seq_okD (hc:EvOk P GE nB B w0 callf) (hB:B ≤ w0.heap.size) : ∀ {l:List Oper} {s s':St},evSeq P nB callf ops l s = some s' → ∀ {ν : Env} {a:Act} {w:World},StR P GE nB B w0 ν s (Act.bare a) w → (∀ i,s.nx ≤ i → i < s'.nx → ν i = none) →
  ∀ {Q:Exit → Act → World → Prop},(∀ a' w' ν',StR P GE nB B w0 ν' s' (Act.bare a') w' → a'.defers = a.defers → Frg nB ν ν' s s' w w' → Q .normal a' w') → wpList P ops Q l a w
 | [],s,s',h,ν,a,w,hs,_,Q,hQ=>by
  simp only [evSeq] at h; cases h
  exact wpList_nil (hQ a w ν hs rfl (Frg.refl hs.wrs hs.ids))
 | o :: l,s,s',h,ν,a,w,hs,hν,Q,hQ=>by
  simp only [evSeq] at h
  split at h
  ·rename_i hw
   split at h
   ·rename_i out hout
    split at h
    ·rename_i hle
     have hm:=evSeq_mono h
     have hν1 : ∀ i,s.nx ≤ i → i < out.nx → ν i = none:=fun i h1 h2=>hν i h1 (Nat.lt_of_lt_of_le h2 hm)
     refine wpList_step (fun K hK=>?_)
     rw [if_pos (want_ok (tmps:=a.tmps) (fun _ _ d l _ _ hd=>hs.tr d l hd) hw)]
     refine evOp_wp hc hB hout hle (a:=a) (fun x hx l hl=>by have:=opd_ok hs.tr hs.glob hl; exact this) hν1 (fun i k _ hk=>hs.hr i k trivial hk) (fun i k l _=>hs.low i k l trivial) (fun i j ki kj li lj _ _=>hs.inj i j ki kj li lj) hs.ids hs.glob hs.below (fun v' w' ν' hp=>?_)
     obtain ⟨hs1,hf1⟩:=hs.step (dst:=o.dst) hB hν1 hle hp
     rw [← bare_put] at hs1
     refine hK _ _ (seq_okD hc hB h hs1 (fun i h1 h2=>?_) (fun a2 w2 ν2 hs2 hd2 hf2=>hQ a2 w2 ν2 hs2 (hd2.trans (put_defers _ _ _)) (hf1.trans hf2)))
     have h1' : out.nx ≤ i:=h1
     rw [hp.ext i (by omega)]
     exact hν i (by omega) h2
    ·cases h
   ·cases h
  ·rename_i hw
   obtain ⟨hs1,hf1⟩:=hs.skip (dst:=o.dst)
   rw [← bare_put] at hs1
   unfold wpList
   rw [if_neg (by rw [want_ok (tmps:=a.tmps) (fun _ _ d l _ _ hd=>hs.tr d l hd) hw]; simp)]
   exact seq_okD hc hB h hs1 hν (fun a2 w2 ν2 hs2 hd2 hf2=>hQ a2 w2 ν2 hs2 (hd2.trans (put_defers _ _ _)) (hf1.trans hf2))
  ·cases h
def flatB : Code → Bool
 | .skip=>true
 | .region _ _ draw=>!draw
 | .seq a b=>flatB a && flatB b
 | .ret=>true
 | _=>false
def PostD (P:Program) (GE:Env → Prop) (nB B:Nat) (w0:World) (ν : Env) (s s':St) (x:Ex) (ds:List Deferred) (w:World) (e:Exit) (a':Act) (w':World) : Prop:=e = exR x ∧ a'.defers = ds ∧ ∃ ν',StR P GE nB B w0 ν' s' (Act.bare a') w' ∧ Frg nB ν ν' s s' w w'
theorem flat_ok (hc:EvOk P GE nB B w0 callf) (hB:B ≤ w0.heap.size) : ∀ (n:Nat) (c:Code) (s s':St) (x:Ex),flatB c = true → evC P nB callf n c s = some (x,s') → ∀ (ν : Env) (a:Act) (w:World),StR P GE nB B w0 ν s (Act.bare a) w → (∀ i,s.nx ≤ i → i < s'.nx → ν i = none) → c.wp P (PostD P GE nB B w0 ν s s' x a.defers w) a w
 | 0,c,s,s',x,_,h,_,_,_,_,_=>by simp [evC] at h
 | n + 1,c,s,s',x,hf,h,ν,a,w,hs,hν=>by
  cases c with
  | skip =>
   simp only [evC] at h; cases h
   exact wp_skip ⟨rfl,rfl,ν,hs,Frg.refl hs.wrs hs.ids⟩
  | ret =>
   simp only [evC] at h; cases h
   exact wp_ret ⟨rfl,rfl,ν,hs,Frg.refl hs.wrs hs.ids⟩
  | region id ops draw =>
   cases draw with
   | true=>cases hf
   | false =>
    simp only [evC] at h
    split at h
    ·rename_i s1 h1
     cases h
     simp only [evReg] at h1
     exact wp_region_list (seq_okD hc hB h1 hs hν (fun a' w' ν' g1 g2 g3=>⟨rfl,g2,ν',g1,g3⟩))
    ·cases h
  | seq c1 c2 =>
   simp only [flatB,Bool.and_eq_true] at hf
   simp only [evC] at h
   split at h
   ·rename_i s1 h1
    have m1:=evC_mono h1
    have m2:=evC_mono h
    refine wp_seq (wp_mono (flat_ok hc hB n c1 s s1 .normal hf.1 h1 ν a w hs (fun i q1 q2=>hν i q1 (by omega))) ?_)
    rintro e a1 w1 ⟨rfl,hd1,ν1,hs1,hf1⟩
    refine wp_mono (flat_ok hc hB n c2 s1 s' x hf.2 h ν1 a1 w1 hs1 (free_of hf1 m2 hν)) ?_
    rintro e a2 w2 ⟨rfl,hd2,ν2,hs2,hf2⟩
    exact ⟨rfl,hd2.trans hd1,ν2,hs2,hf1.trans hf2⟩
   ·rename_i hne
    refine wp_seq (wp_mono (flat_ok hc hB n c1 s s' x hf.1 h ν a w hs hν) ?_)
    rintro e a1 w1 ⟨rfl,hd1,ν1,hs1,hf1⟩
    cases x with
    | normal=>exact absurd h (hne s')
    | ret=>exact ⟨rfl,hd1,ν1,hs1,hf1⟩
    | exit i=>exact ⟨rfl,hd1,ν1,hs1,hf1⟩
  | _=>cases hf
theorem StR.own {ν : Env} {s:St} {a:Act} {A A':World} (hs:StR P GE nB B w0 ν s a A) (hb:Below B A A') (hk:∀ i (k:Blk) l,s.H.get i = some k → ν i = some l → A'.heap[l.addr]? = A.heap[l.addr]?) : StR P GE nB B w0 ν s a A' :=
 ⟨fun i k hf hg=>by
  obtain ⟨l,q1,q2⟩:=hs.hr i k hf hg
  exact ⟨l,q1,by rw [hk i k l hg q1]; exact q2⟩,hs.low,hs.inj,hs.ids,hs.glob,hs.below.trans hb,hs.tr,hs.sz,hs.df,hs.wrs⟩
theorem post_fin {ν ν' : Env} {q nx:Nat} {T0:Tr LV} {H:Hp} {s:St} {a':Act} {w w':World} {rs:List LV} {v:Value} (hs':StR P GE nB B w0 ν' s a' w') (hf:Frg nB ν ν' ⟨q,T0,H,nx,[]⟩ s w w') (hvv:VR ν' (oneL rs) v) :
  OpPost nB B w0 ν ν' H nx ⟨oneL rs,olds nx s.H s.wr .nil ++ reach nx s.H (s.nx + 100000) ((oneL rs).ids ++ idsD (olds nx s.H s.wr .nil)) .nil [],s.nx,none⟩ w w' v:=by
 have hD : ∀ i y,dget (olds nx s.H s.wr .nil ++ reach nx s.H (s.nx + 100000) ((oneL rs).ids ++ idsD (olds nx s.H s.wr .nil)) .nil []) i = some y → y = s.H.get i ∧ ((i < nx ∧ i ∈ s.wr) ∨ (nx ≤ i ∧ y.isSome = true)):=by
  intro i y hy
  rw [dget_app] at hy
  split at hy
  ·rename_i z hz
   cases hy
   obtain ⟨q1,q2,q3⟩:=reach_spec (fun i x hx=>by simp [dget] at hx) i _ hz
   exact ⟨q2,.inr ⟨q1,q3⟩⟩
  ·obtain ⟨q1,q2,q3⟩:=olds_spec.1 y hy
   exact ⟨q2,.inl ⟨q1,q3⟩⟩
 have hI : ∀ i,i < nx → i ∈ s.wr → dget (olds nx s.H s.wr .nil ++ reach nx s.H (s.nx + 100000) ((oneL rs).ids ++ idsD (olds nx s.H s.wr .nil)) .nil []) i = some (s.H.get i):=by
  intro i hi hw
  have h1 : (dget (olds nx s.H s.wr .nil) i).isSome = true:=olds_spec.2 hw hi (Tr.get_nil i)
  cases hd : dget (olds nx s.H s.wr .nil ++ reach nx s.H (s.nx + 100000) ((oneL rs).ids ++ idsD (olds nx s.H s.wr .nil)) .nil []) i with
  | some y=>rw [(hD i y hd).1]
  | none =>
   rw [dget_app] at hd
   split at hd
   ·cases hd
   ·rw [hd] at h1; cases h1
 refine ⟨hf.ext,hvv,fun i k hk=>?_,fun ad had hno=>?_,fun i k l hin hk hl=>?_,fun i j ki kj li lj _ _ hi hj hli hlj he=>?_,fun i hin hd=>?_,fun i hin hd=>?_,hs'.below,hf.size⟩
 ·exact hs'.hr i k trivial (hD i _ hk).1.symm
 ·exact hf.frame ad had (fun i l hw hin hl=>hno i l hin (by
   have:=hI i hin hw
   simp only [this]; rfl) hl)
 ·rcases hf.fresh i l hin (.inr ⟨k,(hD i _ hk).1.symm⟩) hl with q | ⟨j,lj,q1,q2,q3,q4⟩
  ·exact .inl q
  ·right
   have hj:=hI j q2 q1
   refine ⟨j,lj,q2,?_,q3,q4⟩
   cases hg2 : s.H.get j with
   | none=>rw [hg2] at hj; exact hj
   | some kj =>
    exfalso
    have hin' : nx ≤ i:=hin
    have q2' : j < nx:=q2
    have:=hs'.inj i j k kj l lj (hD i _ hk).1.symm hg2 hl (by rw [hf.ext j (by show ¬ (nx ≤ j ∧ j < s.nx); omega)]; exact q3) q4.symm
    omega
 ·exact hs'.inj i j ki kj li lj (hD i _ hi).1.symm (hD j _ hj).1.symm hli hlj he
 ·obtain ⟨y,hy⟩:=Option.isSome_iff_exists.1 hd
  rcases (hD i y hy).2 with ⟨_,q⟩ | ⟨q,_⟩
  ·rcases hf.old i q with g | g | ⟨g1,g2⟩
   ·cases g
   ·have g' : nx ≤ i:=g; omega
   ·exact ⟨g1,Option.isSome_iff_exists.2 g2⟩
  ·omega
 ·obtain ⟨y,hy⟩:=Option.isSome_iff_exists.1 hd
  obtain ⟨q1,q2⟩:=hD i y hy
  rcases q2 with ⟨q,_⟩ | ⟨_,q⟩
  ·omega
  ·obtain ⟨k,hk⟩:=Option.isSome_iff_exists.1 q
   exact hs'.ids i k (by rw [← q1]; exact hk)
theorem Frg.others {ν ν' : Env} {s s':St} {a:Act} {W W1:World} (hs:StR P GE nB B w0 ν s a W) (hwr:s.wr = []) (h:Frg nB ν ν' s s' W W1) {k:Nat} {o:Obj} (hk:W.heap[k]? = some o) (hoc:∀ c t fr,o ≠ .cells c t fr) : W1.heap[k]? = some o:=by
 refine (h.frame k (Array.getElem?_eq_some_iff.1 hk).1 (fun i l hi hlt hl e=>?_)).trans hk
 rcases h.old i hi with q | q | ⟨_,kb,hkb⟩
 ·rw [hwr] at q; cases q
 ·omega
 ·obtain ⟨l2,e1,c2,fr,e2,_⟩:=hs.hr i kb trivial hkb
  rw [hl] at e1; cases e1
  rw [e,hk] at e2
  cases e2
  exact hoc _ _ _ rfl
theorem evPre_okF {callf:FuncId → List LV → Hp → Nat → Option Out} (hm:P.follows .mixedOrders = true) (hc:EvOk P GE nB B w0 callf) (hB:B ≤ w0.heap.size) {lf:Nat} {Q:Exit → Act → World → Prop} : ∀ (n:Nat) (c:Code) (s s':St) (x:Ex),evPre P nB callf lf n c s = some (x,s') →
  s.nx ≤ s'.nx ∧ ∀ {ν : Env} {a:Act} {w:World},StR P GE nB B w0 ν s a w → (∀ i,s.nx ≤ i → i < s'.nx → ν i = none) → (∀ a' w' ν',StR P GE nB B w0 ν' s' a' w' → Frg nB ν ν' s s' w w' → (Cd.drop n c).wp P Q a' w') → c.wp P Q a w
 | 0,c,s,s',x,h=>by
  simp only [evPre] at h
  split at h
  ·rename_i hq
   split at h
   ·rename_i s1 h1
    cases h
    rw [evCQ_eq,evCK_eq] at h1
    refine ⟨evC_mono h1,fun {ν a w} hs hf hK=>?_⟩
    refine wpSeq hq (wp_mono ((code_all hm hc hB lf).1 _ s _ .normal h1 ν a w hs hf) ?_)
    rintro e a' w' ⟨rfl,ν',g1,g2⟩
    exact hK a' w' ν' g1 g2
   ·cases h
  ·cases h
 | n + 1,c,s,s',x,h=>by
  simp only [evPre] at h
  split at h
  ·rename_i hq
   split at h
   ·rename_i s1 h1
    rw [evCQ_eq,evCK_eq] at h1
    have m1:=evC_mono h1
    obtain ⟨m2,ih⟩:=evPre_okF hm hc hB (Q:=Q) n (Cd.b c) s1 s' x h
    refine ⟨Nat.le_trans m1 m2,fun {ν a w} hs hf hK=>?_⟩
    refine wpSeq hq (wp_mono ((code_all hm hc hB lf).1 _ s _ .normal h1 ν a w hs (fun i q1 q2=>hf i q1 (by omega))) ?_)
    rintro e a' w' ⟨rfl,ν',g1,g2⟩
    exact ih g1 (free_of g2 m2 hf) (fun a2 w2 ν2 q1 q2=>hK a2 w2 ν2 q1 (g2.trans q2))
   ·cases h
  ·cases h
end
end Go.Proofs.YtjpfhhndjpdmoaaGreatDoor

namespace Go.Proofs.YtjpfhhndjpdmoaaGreatDoor
open Go.RowKit
set_option linter.unusedVariables false
set_option linter.unusedSimpArgs false
set_option linter.unusedSectionVars false
set_option autoImplicit false

structure Hint where
 k : Nat
 ts : List Nat
 ls : List LV
 v : LV
def lkH : List Hint → FuncId → List LV → Option LV
 | [],_,_=>none
 | h :: hs,f,args=>match Nat.beq (OB + h.k) f && eqLs (h.ts.map goI ++ h.ls) args with
  | true=>some h.v
  | false=>lkH hs f args
def hintF (hs:List Hint) (callf:FuncId → List LV → Hp → Nat → Option Out) : FuncId → List LV → Hp → Nat → Option Out:=fun f args H nx=>match Nat.ble OB f with
 | false=>callf f args H nx
 | true=>match lkH hs f args with
  | some v=>some ⟨v,[],0,some []⟩
  | none=>none
section
variable {P:Program} {GE:Env → Prop} [hGE : GEok P GE] {nB B:Nat} {w0:World}
def HintOk (P:Program) (GE:Env → Prop) (B:Nat) (w0:World) (h:Hint) : Prop:=∀ (o:Oper),opK o.op = some (h.k,h.ts) → ∀ (ν : Env) (a:Act) (w:World),GE ν → Below B w0 w → VRs ν h.ls (o.op.operands.toList.map a.eval) → ∃ v',(execOp a.eval o).run P w = .ok (.value v') w ∧ VR ν h.v v'
theorem goI_map_inj : ∀ {l m:List Nat} {a b:List LV},l.map goI ++ a = m.map goI ++ b → l.length = m.length → l = m ∧ a = b
 | [],[],a,b,h,_=>⟨rfl,by simpa using h⟩
 | x :: l,y :: m,a,b,h,hl=>by
  simp only [List.map_cons,List.cons_append,List.cons.injEq] at h
  obtain ⟨h1,h2⟩:=h
  obtain ⟨e1,e2⟩:=goI_map_inj h2 (by simpa using hl)
  have h3 : x = y:=by
   unfold goI at h1
   injection h1 with h1
   injection h1 with _ h1
   exact Int.ofNat.inj h1
  exact ⟨by rw [e1,h3],e2⟩
 | [],_ :: _,_,_,_,hl=>by simp at hl
 | _ :: _,[],_,_,_,hl=>by simp at hl
theorem lkH_ok {f:FuncId} {args:List LV} {v:LV} : ∀ {hs:List Hint},lkH hs f args = some v → ∃ h ∈ hs,OB + h.k = f ∧ h.ts.map goI ++ h.ls = args ∧ h.v = v
 | [],h=>by cases h
 | h :: hs,hh=>by
  simp only [lkH] at hh
  split at hh
  ·rename_i hb
   cases hh
   simp only [Bool.and_eq_true] at hb
   exact ⟨h,List.mem_cons_self ..,nbeq hb.1,eqLs_ok hb.2,rfl⟩
  ·obtain ⟨h',h1,h2⟩:=lkH_ok hh
   exact ⟨h',List.mem_cons_of_mem _ h1,h2⟩
def tsN (k:Nat) : Nat:=match k with | 0=>1 | 1=>1 | 2=>1 | 3=>2 | 4=>1 | _=>0
theorem opK_n {op:Op} {k:Nat} {ts:List Nat} (h:opK op = some (k,ts)) : ts.length = tsN k:=by
 cases op with
 | call c =>
  simp only [opK] at h
  split at h
  ·split at h
   ·simp only [Option.some.injEq,Prod.mk.injEq] at h; obtain ⟨rfl,rfl⟩:=h; rfl
   ·simp at h
  ·simp only [Option.some.injEq,Prod.mk.injEq] at h; obtain ⟨rfl,rfl⟩:=h; rfl
  ·simp at h
 | binOp o t x y u=>simp only [opK] at h; split at h <;> first | (simp only [Option.some.injEq,Prod.mk.injEq] at h; obtain ⟨rfl,rfl⟩:=h; rfl) | (simp at h; done)
 | indexAddr t x i=>simp only [opK,Option.some.injEq,Prod.mk.injEq] at h; obtain ⟨rfl,rfl⟩:=h; rfl
 | load t x=>simp only [opK,Option.some.injEq,Prod.mk.injEq] at h; obtain ⟨rfl,rfl⟩:=h; rfl
 | slice t x lo hi mx =>
  cases lo <;> cases hi <;> cases mx <;> simp only [opK,Option.some.injEq,Prod.mk.injEq,reduceCtorEq] at h
  obtain ⟨rfl,rfl⟩:=h; rfl
 | convert s d x=>simp only [opK,Option.some.injEq,Prod.mk.injEq] at h; obtain ⟨rfl,rfl⟩:=h; rfl
 | _=>simp [opK] at h
theorem hintF_ok {hs:List Hint} {callf:FuncId → List LV → Hp → Nat → Option Out} (hc:CallOkW P nB B w0 callf) (hn:∀ h ∈ hs,h.ts.length = tsN h.k) (hh:∀ h ∈ hs,HintOk P GE B w0 h) : EvOk P GE nB B w0 (hintF hs callf):=by
 refine ⟨fun f args H nx out hob h hnx=>?_,fun o T v hv ν a w hG hT hb=>?_⟩
 ·have h' : callf f args H nx = some out:=by
   unfold hintF at h
   rw [hob] at h
   exact h
  exact hc f args H nx out hob h' hnx
 ·unfold hintL at hv
  split at hv
  ·rename_i k ts hk
   split at hv
   ·rename_i ls hls
    have h1 : ∃ h ∈ hs,OB + h.k = OB + k ∧ h.ts.map goI ++ h.ls = ts.map goI ++ ls ∧ h.v = v:=by
     unfold hintF at hv
     rw [Nat.ble_eq_true_of_le (Nat.le_add_right OB k)] at hv
     simp only at hv
     split at hv
     ·rename_i out hl
      cases hv
      split at hl
      ·rename_i v' hv'
       cases hl
       exact lkH_ok hv'
      ·cases hl
     ·cases hv
    obtain ⟨h,hm,e1,e2,e3⟩:=h1
    have e1' : h.k = k:=by omega
    obtain ⟨e4,e5⟩:=goI_map_inj e2 (by rw [hn h hm,e1',opK_n hk])
    obtain ⟨v',q1,q2⟩:=hh h hm o (by rw [hk,e1',e4]) ν a w hG hb (by rw [e5]; exact opds_ok hT hls)
    exact ⟨v',q1,by rw [← e3]; exact q2⟩
   ·cases hv
  ·cases hv
/-! ### single operations -/
end
end Go.Proofs.YtjpfhhndjpdmoaaGreatDoor

namespace Go.Proofs.YtjpfhhndjpdmoaaGreatDoor
open Go.RowKit

abbrev RF (l:Nat) : Fence:=Fence.wide.inRound l
def notDefer (o:Oper) : Bool:=match o.op with | .defer _=>false | _=>true
theorem notDefer_spec {o:Oper} (h:notDefer o = true) (c:Call) : o.op ≠ .defer c:=by
 intro e
 simp [notDefer,e] at h
section
variable {P:Program} {l n:Nat} {Q:Exit → Act → World → Prop} {ops:Array Oper} {md:Region.Mode}
theorem oper_round {o:Oper} {a:Act} {w:World} {K:Act → World → Prop} (hd:notDefer o = true) (h:o.wp P a w K Q) : o.wpIn (RF l) n P a w K Q:=by
 refine ⟨fun _ _=>trivial,?_⟩
 rw [Oper.semAt_eq _ _ _ (notDefer_spec hd)]
 unfold Oper.wp at h
 generalize (execOp a.eval o).run P w = r at *
 cases r with
 | ok x w' =>
  cases x <;> simp only [Oper.upon] at h <;> simp only [Oper.uponIn]
  case value=>exact h
  case skip=>exact h
  case defer=>exact h
  case enter f args=>exact ⟨fun hh=>by simp [Fence.wide] at hh,(CallsIn.inRound l (callsIn_wide.2 h)).mono fun e w'' he=>by cases e <;> exact he⟩
  case row r args=>exact ⟨fun hh=>by simp [Fence.wide] at hh,fun c cs _=>let ⟨v,w',r,s⟩:=h c cs; ⟨v,w',r,stepsIn_wide.2 s⟩⟩
 | halt x w'=>cases x <;> simp only [Oper.upon] at h <;> simp only [Oper.uponIn] <;> exact h
theorem list_round (hQ:¬ LetsOut Q) : ∀ (L:List Oper),L.all notDefer = true → ∀ a w,wpList P ops Q L a w → wpListIn (RF l) n P ops Q L a w
 | [],_,_,_,h=>h
 | o :: L,hd,a,w,h=>by
  simp only [List.all_cons,Bool.and_eq_true] at hd
  simp only [wpList] at h
  simp only [wpListIn]
  split
  ·rename_i hw
   simp only [hw,if_true] at h
   rcases h with h | ⟨_,h⟩
   ·exact oper_round hd.1 (Oper.wp_mono (fun a w h=>list_round hQ L hd.2 a w h) h)
   ·exact absurd h hQ
  ·rename_i hw
   simp only [hw] at h
   exact ⟨fun _ _=>trivial,list_round hQ L hd.2 _ _ h⟩
theorem any_round (hQ:¬ LetsOut Q) (hd:ops.toList.all notDefer = true) : ∀ (g:Nat) (listed:Array Bool) (a:Act) (w:World),wpAny P md ops Q g listed a w → wpAnyIn (RF l) n P md ops Q g listed a w
 | 0,_,_,_,h=>h
 | g + 1,listed,a,w,h=>by
  refine ⟨h.1,fun i hi=>?_⟩
  have h:=h.2 i hi
  unfold wpOp at h
  unfold wpOpIn
  split
  ·rename_i ho
   simp only [ho] at h
   exact any_round hQ hd g _ _ _ h
  ·rename_i o ho
   simp only [ho] at h
   have hdo : notDefer o = true:=List.all_eq_true.1 hd o (by
    have:=Array.mem_of_getElem? ho
    simpa using this)
   split
   ·rename_i hw
    simp only [hw,if_true] at h
    rcases h with h | ⟨_,h⟩
    ·exact oper_round hdo (Oper.wp_mono (fun a w h=>any_round hQ hd g _ a w h) h)
    ·exact absurd h hQ
   ·rename_i hw
    simp only [hw] at h
    exact ⟨fun _ _=>trivial,any_round hQ hd g _ _ _ h⟩
theorem region_round {id:Nat} {a:Act} {w:World} {L:List Oper} (hQ:¬ LetsOut Q) (hd:L.all notDefer = true) (h:wpList P L.toArray Q L a w) : (Code.region id L.toArray false).wpIn (RF l) n P Q a w :=
 wpIn_region_list (list_round hQ _ (by simpa using hd) a w (by simpa using h))
theorem region_drawn_round {id:Nat} {a:Act} {w:World} {L:List Oper} (hm:P.follows .mixedOrders = true) (hQ:¬ LetsOut Q) (hd:L.all notDefer = true)
  (h:wpAny P .any L.toArray Q L.toArray.size (Array.replicate L.toArray.size false) a w.drew) : (Code.region id L.toArray true).wpIn (RF l) n P Q a w :=
 wpIn_region_any hm (any_round hQ (by simpa using hd) _ _ _ _ h)
end

/-! ### the marks -/
def markOf (D:Nat) : Deferred:={ target:=.collected D,args:=#[] }
def RowsKept (w w':World) : Prop:=∀ b t cs,Row w b t cs → Row w' b t cs
theorem RowsKept.refl (w:World) : RowsKept w w:=fun _ _ _ h=>h
theorem RowsKept.trans {a b c:World} (h:RowsKept a b) (k:RowsKept b c) : RowsKept a c:=fun _ _ _ x=>k _ _ _ (h _ _ _ x)
theorem RowsKept.putObj {w:World} {D:Nat} {o o':Obj} (h:w.heap[D]? = some o) (hc:o.isCells = false) : RowsKept w (w.putObj D o'):=by
 intro b t cs hr
 have hne : b ≠ D:=by
  rintro rfl
  have:=hr.heap
  rw [h] at this
  cases this
  cases hc
 exact (row_congr (World.putObj_heap_other hne)).trans hr
def KpC (Bs Bn:Nat) (W W':World) : Prop:=∀ b t cs,b = Bs ∨ b = Bn → Row W b t cs → Row W' b t cs
theorem KpC.trans {Bs Bn:Nat} {A B C:World} (h:KpC Bs Bn A B) (k:KpC Bs Bn B C) : KpC Bs Bn A C:=fun b t cs e r=>k b t cs e (h b t cs e r)
theorem KpC.put {Bs Bn:Nat} (W:World) (l:Nat) (o o':Obj) (h:W.heap[l]? = some o) (hc:o.isCells = false) : KpC Bs Bn W (W.putObj l o'):=fun b t cs _ r=>RowsKept.putObj h hc b t cs r

theorem grownBy_drew' (W:World) (r:Option Nat) : W.grownBy W.drew r:=⟨rfl,rfl,rfl,Nat.le_refl _,fun _ _ _=>rfl⟩
end Go.Proofs.YtjpfhhndjpdmoaaGreatDoor

namespace Go.Proofs.YtjpfhhndjpdmoaaGreatDoor
open Go.RowKit Go.Shelf
attribute [local go_sem] Oper.semAt_some

def encU (b off len:Nat) (_:Unit) : Array Value:=#[.slice (some ⟨b,off,none⟩) len len]
end Go.Proofs.YtjpfhhndjpdmoaaGreatDoor

namespace Go.Proofs.YtjpfhhndjpdmoaaGreatDoor
open Go.RowKit
set_option linter.unusedVariables false
set_option linter.unusedSectionVars false
set_option linter.unusedSimpArgs false

namespace Cd
def rfA : Code → Code | .rangeFunc _ _ a _=>a | _=>.skip
def rfB : Code → Code | .rangeFunc _ _ _ b=>b | _=>.skip
def ops : Code → Array Oper | .region _ ops _=>ops | _=>#[]
end Cd
abbrev spF : FuncId:=105
abbrev chF : FuncId:=121
noncomputable def spB : Code:=Cd.bodyOf Tryz.prog spF
noncomputable def spC6 : Code:=Cd.drop 5 spB
noncomputable def spR : Code:=Cd.a (Cd.b (Cd.a spC6))
noncomputable def spEn : Code:=Cd.b spC6
noncomputable def spO : Array Oper:=Cd.ops (Cd.a (Cd.rfB spR))
section
variable {P:Program} {GE:Env → Prop} [hGE : GEok P GE] {nB B:Nat} {w0:World} {callf:FuncId → List LV → Hp → Nat → Option Out}
theorem Frg.addWr {ν ν' : Env} {T T2':Tr LV} {s s':St} {w w':World} (h:Frg nB ν ν' ⟨s.nt,T,s.H,s.nx,[]⟩ s' w w') (hr:∀ i ∈ s.wr,i < s.nx) : Frg nB ν ν' s ⟨s.nt,T2',s'.H,s'.nx,s'.wr ++ s.wr⟩ w w' where
 nx:=h.nx
 nt:=rfl
 wr:=fun i hi=>List.mem_append_right _ hi
 ext:=h.ext
 frame:=fun a ha hno=>h.frame a ha (fun i l hi hlt hl=>hno i l (List.mem_append_left _ hi) hlt hl)
 fresh:=fun i l hin hh hl=>by
  have hh' : i ∈ s'.wr ∨ ∃ k,s'.H.get i = some k:=by
   rcases hh with hh | hh
   ·rcases List.mem_append.1 hh with q | q
    ·exact .inl q
    ·have:=hr i q; omega
   ·exact .inr hh
  rcases h.fresh i l hin hh' hl with q | ⟨j,lj,q1,q2,q3,q4⟩
  ·exact .inl q
  ·exact .inr ⟨j,lj,List.mem_append_left _ q1,q2,q3,q4⟩
 live:=h.live
 kept:=fun i hi hn=>h.kept i hi (fun hh=>hn (List.mem_append_left _ hh))
 old:=fun i hi=>by
  rcases List.mem_append.1 hi with q | q
  ·rcases h.old i q with g | g
   ·cases g
   ·exact .inr g
  ·exact .inl q
 size:=h.size
theorem StR.grown {ν : Env} {s:St} {a:Act} {W W':World} {row:Option Nat} (hs:StR P GE nB B w0 ν s a W) (hB:B ≤ W.heap.size) (hg:W.grownBy W' row) (hr:∀ r,row = some r → B ≤ r ∧ ∃ o : Obj,W.heap[r]? = some o ∧ o.isCells = false) : StR P GE nB B w0 ν s a W' :=
 hs.own ((Below.refl B W).grown hg hB (fun k e=>(hr k e).1)) (fun i k l hk hl=>by
  obtain ⟨l',h1,c,fr,h2,_⟩:=hs.hr i k trivial hk
  rw [hl] at h1; cases h1
  refine hg.block l.addr (Array.getElem?_eq_some_iff.1 h2).1 (fun e=>?_)
  obtain ⟨_,o,ho,hc⟩:=hr _ e.symm
  rw [h2] at ho
  cases ho
  cases hc)
theorem Frg.grown {ν ν' : Env} {s s':St} {w W W':World} {row:Option Nat} (h:Frg nB ν ν' s s' w W) (hg:W.grownBy W' row) (hr:∀ r,row = some r → w.heap.size ≤ r) : Frg nB ν ν' s s' w W' :=
 ⟨h.nx,h.nt,h.wr,h.ext,fun a ha hno=>(hg.block a (Nat.lt_of_lt_of_le ha h.size) (fun e=>by have:=hr a e.symm; omega)).trans (h.frame a ha hno),h.fresh,h.live,h.kept,h.old,Nat.le_trans h.size hg.size⟩
theorem one_row {ν : Env} {l:Loc} {t:TypeId} {x:LV} {o:Option Obj} (h:BlkR ν l ⟨t,true,false,[x]⟩ o) : ∃ v,o = some (.cells #[v] t (0,0)) ∧ VR ν x v:=by
 obtain ⟨c,fr,h1,h2,h3,⟨pre,vs,rest,h4,h0,h5⟩,h6,h7,h8⟩:=h
 obtain ⟨u,us,rfl,h9,h10⟩:=VRs.cons_iff.1 h5
 have h10:=VRs.nil_iff.1 h10
 subst h10
 obtain ⟨k1,k2⟩:=h3 rfl
 obtain rfl : pre = []:=List.eq_nil_of_length_eq_zero (by omega)
 have k1 : 1 = l.sz:=k1
 have hc1 : c.size = 1:=by omega
 have hr : rest = []:=by
  have:=congrArg List.length h4
  simp at this
  exact List.eq_nil_of_length_eq_zero (by omega)
 subst hr
 have hc : c = #[u]:=by
  apply Array.ext'
  simpa using h4
 have hf:=h8 rfl
 subst hc hf
 exact ⟨u,h1,h9⟩
theorem one_base {ν : Env} {l:Loc} {t:TypeId} {x:LV} {o:Option Obj} (h:BlkR ν l ⟨t,true,false,[x]⟩ o) : l.base = 0:=by
 obtain ⟨c,fr,h1,h2,h3,_⟩:=h
 exact (h3 rfl).2
theorem keep_row {ν ν' : Env} {s s':St} {a a':Act} {W W1:World} (h:StR P GE nB B w0 ν s a W) (h1:StR P GE nB B w0 ν' s' a' W1) (hf:Frg nB ν ν' s s' W W1) {i:Nat} {t:TypeId} {x:LV} (hk:s.H.get i = some ⟨t,true,false,[x]⟩) (hw:i ∉ s'.wr)
  (hd:∀ v v',VR ν x v → VR ν' x v' → v = v') {l:Loc} (hl:ν i = some l) {t2:TypeId} {cs:Array Value} (hr:Row W l.addr t2 cs) : Row W1 l.addr t2 cs:=by
 have hlt:=h.ids i _ hk
 obtain ⟨l',e1,hb⟩:=h.hr i _ trivial hk
 rw [hl] at e1; cases e1
 obtain ⟨v,e2,e3⟩:=one_row hb
 have hk':=(hf.kept i hlt hw).trans hk
 obtain ⟨l2,e4,hb2⟩:=h1.hr i _ trivial hk'
 rw [hf.ext i (by omega),hl] at e4; cases e4
 obtain ⟨v',e5,e6⟩:=one_row hb2
 have:=hd v v' e3 e6
 subst this
 have h3:=hr.heap
 rw [e2] at h3
 cases h3
 exact Row.of_heap e5
theorem run_asg {o:Oper} {a:Act} {w:World} {x:Operand} (h:o.op = .assign x) : (execOp a.eval o).run P w = .ok (.value (a.eval x)) w:=by
 obtain ⟨dst,op,type,pos,after,guard⟩:=o
 simp only at h
 subst h
 rfl
end
section
variable {GE:Env → Prop} [hGE : GEok Tryz.prog GE] {nB B:Nat} {w0:World} {callf:FuncId → List LV → Hp → Nat → Option Out}
end
end Go.Proofs.YtjpfhhndjpdmoaaGreatDoor

namespace Go.Proofs.YtjpfhhndjpdmoaaGreatDoor
open Go.RowKit
set_option linter.unusedVariables false
set_option linter.unusedSectionVars false
set_option linter.unusedSimpArgs false

def spIn (H:Hp) (T:Tr LV) : Option (Nat × Nat × Nat × Nat × Nat):=match T.get 56 with
 | some (.fn (.func f) [.ptr bs 0,.ptr bn 0])=>match H.get bs,H.get bn with
  | some ⟨t1,true,false,[.buf b off len 1]⟩,some ⟨t2,true,false,[.v (.int .i64 (.ofNat c))]⟩ =>
   match (Nat.beq f chF && (Nat.beq t1 22 && Nat.beq t2 3)) && (Nat.beq c 99 && (Nat.ble 1 len && Nat.ble len 99)) with
   | true=>some (bs,bn,b,off,len)
   | false=>none
  | _,_=>none
 | _=>none
noncomputable def evSplit (nB:Nat) (callf:FuncId → List LV → Hp → Nat → Option Out) (args:List LV) (H:Hp) (nx:Nat) : Option Out :=
 match evPre Tryz.prog nB callf 100 5 spB ⟨args.length + (72 - args.length),argsT 0 args .nil,H,nx,[]⟩ with
 | some (.normal,s1)=>match evCQ Tryz.prog nB callf 100 (Cd.a (Cd.a spC6)) s1 with
  | some (.normal,s2)=>match spIn s2.H s2.T with
   | some (bs,bn,b,off,len)=>match evCQ Tryz.prog nB callf 100 (.region 12 spO true) ⟨s2.nt,(s2.T.set 57 (some (.slice b off len len))).set 9 (some (.slice b off len len)),s2.H,s2.nx,[]⟩ with
    | some (.normal,s4)=>match !(s4.wr.any (Nat.beq bs)) && (!(s4.wr.any (Nat.beq bn)) && Nat.beq s2.nt 72) with
     | true=>match evCQ Tryz.prog nB callf 100 spEn ⟨s2.nt,s2.T,s4.H,s4.nx,[]⟩ with
      | some (.ret,s6)=>match resL Tryz.prog s6.T s6.H Tryz.f105.results.toList with
       | some rs=>some ⟨oneL rs,olds nx s6.H (s6.wr ++ (s4.wr ++ s2.wr)) .nil ++ reach nx s6.H (s6.nx + 100000) ((oneL rs).ids ++ idsD (olds nx s6.H (s6.wr ++ (s4.wr ++ s2.wr)) .nil)) .nil [],s6.nx,none⟩
       | none=>none
      | _=>none
     | false=>none
    | _=>none
   | none=>none
  | _=>none
 | _=>none
theorem any_no {l:List Nat} {x:Nat} (h:(!(l.any (Nat.beq x))) = true) : x ∉ l:=by
 intro hm
 simp only [Bool.not_eq_true'] at h
 rw [List.any_eq_false] at h
 exact h x hm (Nat.beq_refl x)
section
variable {nB B:Nat} {w0:World} {callf:FuncId → List LV → Hp → Nat → Option Out}
end
end Go.Proofs.YtjpfhhndjpdmoaaGreatDoor

namespace Go.Proofs.YtjpfhhndjpdmoaaGreatDoor
open Go.RowKit
set_option linter.unusedVariables false
set_option linter.unusedSimpArgs false

def words4 : List LV → Option (List UInt32)
 | []=>some []
 | .v (.int .u32 (.ofNat n)) :: l=>if n < 4294967296 then (words4 l).map (UInt32.ofNat n :: ·) else none
 | _=>none
theorem words4_ok {ν : Env} : ∀ {cs:List LV} {h:List UInt32} {vs:List Value},words4 cs = some h → VRs ν cs vs → vs = h.map D
 | [],h,vs,e,hv=>by
  simp only [words4,Option.some.injEq] at e
  subst e
  rw [VRs.nil_iff.1 hv]; rfl
 | c :: cs,h,vs,e,hv=>by
  unfold words4 at e
  split at e
  ·rename_i e0; cases e0
  ·rename_i n l e0
   cases e0
   split at e
   ·rename_i hn
    cases hw : words4 cs with
    | none=>rw [hw] at e; cases e
    | some h' =>
     rw [hw] at e
     cases e
     obtain ⟨u,us,rfl,h1,h2⟩:=VRs.cons_iff.1 hv
     rw [words4_ok hw h2]
     simp only [VR] at h1
     rw [h1.1]
     simp [D,UInt32.toNat_ofNat',Nat.mod_eq_of_lt hn]
   ·cases e
  ·cases e
def wordsLV (l:List UInt32) : LV:=.agg (l.map fun q=>.v (.int .u32 (.ofNat q.toNat)))
theorem wordsLV_ok {ν : Env} (l:List UInt32) : VR ν (wordsLV l) (.agg (AD l)):=by
 simp only [wordsLV,VR]
 refine ⟨l.map D,rfl,?_⟩
 induction l with
 | nil=>exact VRs.nil_iff.2 rfl
 | cons q l ih=>exact VRs.cons_iff.2 ⟨_,_,rfl,by simp [VR,plainV,D],ih⟩
def pressO : List LV → Hp → Nat → Option Out:=fun args H nx=>match args with
 | [.agg cs,x]=>match words4 cs,sliceB H x with
  | some h,some b=>if h.length = 8 ∧ b.length = 64 then some ⟨wordsLV (pressS h b),[],nx,none⟩ else none
  | _,_=>none
 | _=>none
section
variable {nB:Nat} {w0:World}
end
end Go.Proofs.YtjpfhhndjpdmoaaGreatDoor

namespace Go.Proofs.YtjpfhhndjpdmoaaGreatDoor
open Go.RowKit
set_option linter.unusedVariables false
set_option linter.unusedSimpArgs false

abbrev prF : FuncId:=197
abbrev tiF : FuncId:=84
abbrev veF : FuncId:=252
abbrev ofF : FuncId:=273
def fallO (g h:List LV → Hp → Nat → Option Out) (args:List LV) (H:Hp) (nx:Nat) : Option Out:=match g args H nx with
 | some o=>some o
 | none=>h args H nx
theorem fallO_ok {P:Program} {nB B:Nat} {w0:World} {f:FuncId} {g h:List LV → Hp → Nat → Option Out} (hg:FnOkW P nB B w0 f g) (hh:FnOkW P nB B w0 f h) : FnOkW P nB B w0 f (fallO g h):=by
 intro args H nx out e hn
 unfold fallO at e
 split at e
 ·rename_i o ho
  cases e
  exact hg args H nx _ ho hn
 ·exact hh args H nx out e hn
theorem OneOk.wide {nB:Nat} {w0:World} {f:FuncId} {g:List LV → Hp → Nat → Option Out} (h:OneOk nB w0 f g) : FnOkW Tryz.prog nB w0.heap.size w0 f g :=
 FnOk.wide (fun args H nx out e _=>h args H nx out e)
noncomputable def orcN0 : Orc:=withO prF pressO (withO tiF timesO orcP)
noncomputable def cfN0 : FuncId → List LV → Hp → Nat → Option Out:=evFQ Tryz.prog GN 100000 orcN0 60
noncomputable def orcN1 : Orc:=withO veF (locO cfN0 veF) orcN0
noncomputable def cfN1 : FuncId → List LV → Hp → Nat → Option Out:=evFQ Tryz.prog GN 100000 orcN1 60
noncomputable def orcN2 : Orc:=withO ofF (locO cfN1 ofF) orcN1
noncomputable def cfN2 : FuncId → List LV → Hp → Nat → Option Out:=evFQ Tryz.prog GN 100000 orcN2 60
noncomputable def orcN3 : Orc:=withO spF (fallO (evSplit GN cfN2) (cfN2 spF)) orcN2
noncomputable def cfN : FuncId → List LV → Hp → Nat → Option Out:=evFQ Tryz.prog GN 100000 orcN3 60
section
variable {w:World} (hW:HashW w) (hC:CurveW w)
end
end Go.Proofs.YtjpfhhndjpdmoaaGreatDoor

namespace Go.Proofs.YtjpfhhndjpdmoaaGreatDoor
open Go.RowKit
set_option linter.unusedVariables false
set_option linter.unusedSimpArgs false
set_option linter.unusedSectionVars false
set_option autoImplicit false

section
variable {P:Program} {GE:Env → Prop} [hGE : GEok P GE] {nB B:Nat} {w0:World}
theorem stretchX {GE2:Env → Prop} {callf:FuncId → List LV → Hp → Nat → Option Out} (hm:P.follows .mixedOrders = true) (hc:EvOk P GE nB B w0 callf) (hB:B ≤ w0.heap.size) {n:Nat} {c:Code} {s:St} {t:Pat} {σ : Sg} {x:Ex} (h:okS nB σ ⟨[],[]⟩ t x s.nx (evCQ P nB callf n c s) = true)
  (hG:∀ ν',GE ν' → insK nB t.nx σ = true → GE2 (envS nB σ ν')) {ν : Env} {a:Act} {w:World} (hs:StR P GE nB B w0 ν s a w) (hf:Free ν s.nx) : c.wp P (fun e a' w'=>e = exR x ∧ ∃ ν1,StR P GE2 nB B w0 (envS nB σ ν1) (stOf s.nt t) a' w' ∧ Free (envS nB σ ν1) t.nx ∧ GE ν1) a w:=by
 rw [evCQ_eq,evCK_eq] at h
 cases hev : evC P nB callf n c s with
 | none=>rw [hev] at h; cases h
 | some r =>
  obtain ⟨y,s'⟩:=r
  rw [hev] at h
  simp only [okS,Bool.and_eq_true] at h
  obtain ⟨⟨h1,h2,h3⟩,h4⟩:=h
  obtain rfl:=exB_ok h1
  refine wp_mono ((code_all hm hc hB n).1 c s s' y hev ν a w hs (fun i q1 q2=>hf i q1 (by have:=Nat.le_of_ble_eq_true h2; omega))) ?_
  rintro e a' w' ⟨rfl,ν',g1,g2⟩
  have:=ins_ok (KnOk.nil _ _ _) g1 (hG ν' g1.glob (insS_K h4)) h4
  rw [g2.nt] at this
  exact ⟨rfl,_,this.1,this.2,g1.glob⟩
theorem StR.env {GE2:Env → Prop} {ν ν' : Env} {s:St} {a:Act} {w:World} (hs:StR P GE nB B w0 ν s a w) (he:Ext ν ν') (hi:∀ i,i < s.nx → ν' i = ν i) (hG:GE2 ν') : StR P GE2 nB B w0 ν' s a w:=by
 refine ⟨fun i k hf hk=>?_,fun i k l hf h1 hk hl=>?_,fun i j ki kj li lj h1 h2 h3 h4 h5=>?_,hs.ids,hG,hs.below,fun t x hx=>VR.ext he _ _ (hs.tr t x hx),hs.sz,hs.df,hs.wrs⟩
 ·obtain ⟨l,q1,q2⟩:=hs.hr i k hf hk
  exact ⟨l,he i l q1,q2.ext he⟩
 ·rw [hi i (hs.ids i k hk)] at hl
  exact hs.low i k l hf h1 hk hl
 ·rw [hi i (hs.ids i ki h1)] at h3
  rw [hi j (hs.ids j kj h2)] at h4
  exact hs.inj i j ki kj li lj h1 h2 h3 h4 h5
theorem StR.keep {ν : Env} {s:St} {a:Act} {w:World} (hs:StR P GE nB B w0 ν s a w) {T:List (Nat × LV)} {H:Hp} (hT:∀ t x,(t,x) ∈ T → s.T.get t = some x) (hH:∀ i k,H.get i = some k → s.H.get i = some k) : StR P GE nB B w0 ν ⟨s.nt,trOf T,H,s.nx,[]⟩ a w:=by
 refine ⟨fun i k hf hk=>hs.hr i k hf (hH i k hk),fun i k l hf h1 hk hl=>hs.low i k l hf h1 (hH i k hk) hl,fun i j ki kj li lj h1 h2 h3 h4 h5=>hs.inj i j ki kj li lj (hH i ki h1) (hH j kj h2) h3 h4 h5,fun i k hk=>hs.ids i k (hH i k hk),hs.glob,hs.below,fun t x hx=>hs.tr t x (hT t x (trOf_get hx)),hs.sz,hs.df,fun i hi=>by cases hi⟩
def eqT (T:Tr LV) : List (Nat × LV) → Bool
 | []=>true
 | (t,x) :: l=>(match T.get t with | some y=>eqLV x y | none=>false) && eqT T l
def okT (T:List (Nat × LV)) (nx nt:Nat) : Option (Ex × St) → Bool
 | some (.normal,s)=>(s.wr.isEmpty && Nat.beq s.nx nx) && (Nat.beq s.nt nt && eqT s.T T)
 | _=>false
/-! ### sums and comparisons -/
theorem opK_add {op:Op} {ts:List Nat} (h:opK op = some (10,ts)) : ∃ t x y u,op = .binOp .add t x y u ∧ ts = []:=by
 cases op with
 | binOp o t x y u =>
  cases o <;> simp only [opK,Option.some.injEq,Prod.mk.injEq,reduceCtorEq] at h
  all_goals first | (exact ⟨t,x,y,u,rfl,h.2.symm⟩) | (simp at h; done)
 | call c=>simp only [opK] at h; split at h <;> first | (split at h <;> simp at h; done) | (simp at h; done)
 | slice t x lo hi mx=>cases lo <;> cases hi <;> cases mx <;> simp [opK] at h
 | _=>simp [opK] at h
end
end Go.Proofs.YtjpfhhndjpdmoaaGreatDoor

namespace Go.Proofs.YtjpfhhndjpdmoaaGreatDoor
open Go.RowKit
set_option linter.unusedVariables false
set_option linter.unusedSimpArgs false

theorem BlkR.sz {ν : Env} {l l':Loc} {k k':Blk} {o:Option Obj} (h:BlkR ν l k o) (h':BlkR ν l' k' o) (ha:l.addr = l'.addr) (hbs:l.base = l'.base) : BlkR ν l' k o:=by
 have hh:=h
 obtain ⟨c,fr,h1,h2,h3,h4,h5⟩:=h
 obtain ⟨c',fr',g1,g2,_⟩:=h'
 rw [h1] at g1
 injection g1 with g1
 injection g1 with e1 e2 e3
 subst e1
 have hsz : l.sz = l'.sz:=by omega
 have : l = l':=by cases l; cases l'; simp only at ha hbs hsz; rw [ha,hbs,hsz]
 rw [← this]
 exact hh
section
variable {w:World} {t1 t2 t3 t4 t5 t6 t7:TypeId}
theorem GRows.below {w w':World} (h:GRows w t1 t2 t3 t4 t5 t6 t7) (hb:Below w.heap.size w w') : GRows w' t1 t2 t3 t4 t5 t6 t7:=⟨h.r1.below hb h.r1.lt,h.r2.below hb h.r2.lt,h.r3.below hb h.r3.lt,h.r4.below hb h.r4.lt,h.r5.below hb h.r5.lt,h.r6.below hb h.r6.lt,h.r7.below hb h.r7.lt⟩
end
/-! ### a stage that reads the package variables -/
def gKeys : List Nat:=[1,2,3,6,7,8,10]
def hasN (H:Hp) : List Nat → Bool
 | []=>true
 | i :: l=>(match H.get i with | some _=>true | none=>false) && hasN H l
def stG (s:Stg) (args:List LV) (H:Hp) (nx:Nat) : Option Out:=match (eqLs s.a args && Nat.beq s.nx nx) && (subB H s.D && hasN H gKeys) with
 | true=>some ⟨s.v,s.d,s.nx',none⟩
 | false=>none
end Go.Proofs.YtjpfhhndjpdmoaaGreatDoor

namespace Go.Proofs.YtjpfhhndjpdmoaaGreatDoor
open Go.RowKit

def sinesN : List Nat:=[3614090360,3905402710,606105819,3250441966,4118548399,1200080426,2821735955,4249261313,1770035416,2336552879,4294925233,2304563134,1804603682,4254626195,2792965006,1236535329,4129170786,3225465664,643717713,3921069994,3593408605,38016083,3634488961,3889429448,568446438,3275163606,4107603335,1163531501,2850285829,4243563512,1735328473,2368359562,4294588738,2272392833,1839030562,4259657740,2763975236,1272893353,4139469664,3200236656,681279174,3936430074,3572445317,76029189,3654602809,3873151461,530742520,3299628645,4096336452,1126891415,2878612391,4237533241,1700485571,2399980690,4293915773,2240044497,1873313359,4264355552,2734768916,1309151649,4149444226,3174756917,718787259,3951481745]
def sinesS : List UInt32:=sinesN.map UInt32.ofNat
def turnsN : List Nat:=[7,12,17,22,5,9,14,20,4,11,16,23,6,10,15,21]
structure M4 where
 x : UInt32
 y : UInt32
 z : UInt32
 w : UInt32
def fnM (i:Nat) (y z w:UInt32) : UInt32:=if i < 16 then xw w (nw y (xw z w)) else if i < 32 then xw z (nw w (xw y z)) else if i < 48 then xw (xw y z) w else xw z (ow y (cw w))
def plM (i:Nat) : Nat:=if i < 16 then i else if i < 32 then (5 * i + 1) % 16 else if i < 48 then (3 * i + 5) % 16 else (7 * i) % 16
def le4 (a b c d:UInt8) : UInt32:=UInt32.ofNat (a.toNat + b.toNat * 256 + c.toNat * 65536 + d.toNat * 16777216)
def wdM (b:List UInt8) (g:Nat) : UInt32:=le4 (b.getD (4 * g) 0) (b.getD (4 * g + 1) 0) (b.getD (4 * g + 2) 0) (b.getD (4 * g + 3) 0)
def rlM (n:Nat) (x:UInt32) : UInt32:=ow (sl n x) (srW (32 - n) x)
def tnM (i:Nat) : Nat:=turnsN.getD (i / 16 * 4 + i % 4) 0
def oneM (b:List UInt8) (i:Nat) (v:M4) : M4:=⟨v.w,aw v.y (rlM (tnM i) (aw (fnM i v.y v.z v.w) (aw (aw v.x (gw sinesS i)) (wdM b (plM i))))),v.y,v.z⟩
def runM (b:List UInt8) (v:M4) : Nat → M4
 | 0=>v
 | n + 1=>oneM b n (runM b v n)
def pressM (h:List UInt32) (b:List UInt8) : List UInt32 :=
 let v:=runM b ⟨gw h 0,gw h 1,gw h 2,gw h 3⟩ 64
 [aw (gw h 0) v.x,aw (gw h 1) v.y,aw (gw h 2) v.z,aw (gw h 3) v.w]
def startM : List UInt32:=[0x67452301,0xefcdab89,0x98badcfe,0x10325476]
def blksM : Nat → List UInt32 → List UInt8 → List UInt32
 | 0,h,_=>h
 | n + 1,h,b=>blksM n (pressM h (b.take 64)) (b.drop 64)
def leB (n x:Nat) : List UInt8:=(List.range n).map fun i=>UInt8.ofNat (x / 256 ^ i % 256)
def padM (l:List UInt8) : List UInt8:=l ++ 128 :: (List.replicate ((55 + 64 - l.length % 64) % 64) 0 ++ leB 8 (l.length * 8))
def outM (h:List UInt32) : List UInt8:=h.flatMap fun q=>leB 4 q.toNat
def md5S (l:List UInt8) : List UInt8:=outM (blksM ((padM l).length / 64) startM (padM l))
def keyM (key:List UInt8) (x:UInt8) : List UInt8:=(key ++ List.replicate (64 - key.length) 0).map fun b=>b ^^^ x
def mac5 (key l:List UInt8) : List UInt8:=md5S (keyM key 92 ++ md5S (keyM key 54 ++ l))
end Go.Proofs.YtjpfhhndjpdmoaaGreatDoor
