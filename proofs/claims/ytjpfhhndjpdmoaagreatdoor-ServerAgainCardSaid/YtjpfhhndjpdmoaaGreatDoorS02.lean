/- Part of the proof: EvR,EvO,EvP. No conditions of its own. -/
import Derived.Below
import Derived.Laws.CopyRow
import Derived.Test.YtjpfhhndjpdmoaaGreatDoorS01
import Derived.Laws.NewFold
namespace Go.Proofs.YtjpfhhndjpdmoaaGreatDoor
open Go.RowKit
set_option linter.unusedVariables false
set_option linter.unusedSimpArgs false

/-! ### tables -/
namespace Tr
variable {α : Type}
theorem get_nil (n:Nat) : (Tr.nil : Tr α).get n = none:=by cases n <;> rfl
theorem half_inj {a b:Nat} (h2:a % 2 = b % 2) (hd:a / 2 = b / 2) : a = b:=by omega
theorem get_nodeL (l r:Tr α) (v:Option α) (k:Nat) (h:k % 2 = 0) : (Tr.node l v r).get (k + 1) = l.get (k / 2):=by
 show (match k % 2 with | 0=>l.get (k / 2) | _ + 1=>r.get (k / 2)) = _
 rw [h]
theorem get_nodeR (l r:Tr α) (v:Option α) (k:Nat) (h:k % 2 = 1) : (Tr.node l v r).get (k + 1) = r.get (k / 2):=by
 show (match k % 2 with | 0=>l.get (k / 2) | _ + 1=>r.get (k / 2)) = _
 rw [h]
theorem setF_eq (f:Nat) (t:Tr α) (n:Nat) (x:Option α) : ∃ l v r,setF (f + 1) t n x = (match n with
  | 0=>Tr.node l x r
  | k + 1=>match k % 2 with | 0=>.node (setF f l (k / 2) x) v r | _ + 1=>.node l v (setF f r (k / 2) x)) ∧ ∀ m,t.get m = (Tr.node l v r).get m:=by
 cases t with
 | nil=>exact ⟨.nil,none,.nil,by cases n with | zero=>rfl | succ k=>rfl,fun m=>by
   cases m with
   | zero=>rfl
   | succ k =>
    rcases Nat.mod_two_eq_zero_or_one k with h | h
    ·rw [get_nodeL _ _ _ _ h,get_nil,get_nil]
    ·rw [get_nodeR _ _ _ _ h,get_nil,get_nil]⟩
 | node l v r=>exact ⟨l,v,r,by cases n with | zero=>rfl | succ k=>rfl,fun m=>rfl⟩
theorem get_setF (x:Option α) : ∀ (f:Nat) (t:Tr α) (n m:Nat),n < f → (setF f t n x).get m = if m = n then x else t.get m
 | 0,_,n,_,h=>by omega
 | f + 1,t,n,m,h=>by
  obtain ⟨l,v,r,e,hg⟩:=setF_eq f t n x
  rw [e,hg m]
  cases n with
  | zero =>
   cases m with
   | zero=>rfl
   | succ k =>
    rw [if_neg (by omega)]
    rcases Nat.mod_two_eq_zero_or_one k with h | h
    ·simp only [get_nodeL _ _ _ _ h]
    ·simp only [get_nodeR _ _ _ _ h]
  | succ k =>
   rcases Nat.mod_two_eq_zero_or_one k with hk | hk
   ·simp only [hk]
    cases m with
    | zero=>rfl
    | succ j =>
     rcases Nat.mod_two_eq_zero_or_one j with hj | hj
     ·rw [get_nodeL _ _ _ _ hj,get_nodeL _ _ _ _ hj,get_setF x f l (k / 2) (j / 2) (by omega)]
      by_cases hjk : j = k
      ·subst hjk; simp
      ·rw [if_neg (fun e=>hjk (half_inj (by omega) e)),if_neg (by omega)]
     ·rw [get_nodeR _ _ _ _ hj,get_nodeR _ _ _ _ hj,if_neg (by omega)]
   ·simp only [hk]
    cases m with
    | zero=>rfl
    | succ j =>
     rcases Nat.mod_two_eq_zero_or_one j with hj | hj
     ·rw [get_nodeL _ _ _ _ hj,get_nodeL _ _ _ _ hj,if_neg (by omega)]
     ·rw [get_nodeR _ _ _ _ hj,get_nodeR _ _ _ _ hj,get_setF x f r (k / 2) (j / 2) (by omega)]
      by_cases hjk : j = k
      ·subst hjk; simp
      ·rw [if_neg (fun e=>hjk (half_inj (by omega) e)),if_neg (by omega)]
theorem get_set (t:Tr α) (n:Nat) (x:Option α) (m:Nat) : (t.set n x).get m = if m = n then x else t.get m:=get_setF x (n + 1) t n m (by omega)
end Tr
def dget : Dl → Nat → Option (Option Blk)
 | [],_=>none
 | (i,b) :: d,j=>match dget d j with
  | some x=>some x
  | none=>if j = i then some b else none
theorem get_app : ∀ (d:Dl) (H:Hp) (j:Nat),(H.app d).get j = match dget d j with | some x=>x | none=>H.get j
 | [],H,j=>rfl
 | (i,b) :: d,H,j=>by
  rw [Hp.app,get_app d,dget]
  cases hd : dget d j with
  | some x=>rfl
  | none =>
   simp only
   rw [Tr.get_set]
   split <;> rfl

/-! ### values -/
structure Loc where
 addr : Nat
 sz : Nat
 base : Nat
abbrev Env:=Nat → Option Loc
mutual
def VR (ν : Env) : LV → Value → Prop
 | .v x,y=>y = x ∧ plainV x = true
 | .ptr b off,y=>∃ l,ν b = some l ∧ y = .pointer (some ⟨l.addr,l.base + off,none⟩)
 | .slice b off len cap,y=>∃ l,ν b = some l ∧ y = .slice (some ⟨l.addr,l.base + off,none⟩) len cap
 | .buf b off len e,y=>∃ l c,ν b = some l ∧ y = .slice (some ⟨l.addr,l.base + off,none⟩) len c ∧ len ≤ c ∧ off + c * e = l.sz ∧ c ≤ 2 ^ 63 - 1
 | .emp,y=>∃ (a:Addr) (c:Nat),y = .slice (some a) 0 c ∧ a.spot = none ∧ c ≤ 2 ^ 63 - 1
 | .sym b k lo hi ne,y=>∃ l,ν b = some l ∧ y = .int k (.ofNat l.addr) ∧ lo ≤ l.addr ∧ l.addr ≤ hi ∧ hi ≤ topK k ∧ ∀ c ∈ ne,∃ l2,ν c = some l2 ∧ l.addr ≠ l2.addr
 | .outS b,y=>∃ l m f,ν b = some l ∧ ν (b + 1) = some m ∧ ν (b + 2) = some f ∧ y = .slice (if f.addr = 0 then none else some ⟨l.addr,l.sz,none⟩) m.addr m.sz
 | .outP b,y=>∃ l,ν b = some l ∧ y = .pointer (some ⟨l.addr,l.sz,none⟩)
 | .str cs,y=>∃ bs : List UInt8,y = .string ⟨bs.toArray⟩ ∧ VRs ν cs (bs.map fun b=>.int .u8 b.toNat)
 | .fn f cs,y=>∃ vs,y = .func f #[] vs.toArray ∧ VRs ν cs vs
 | .ifc t x,y=>∃ v,y = .iface t v ∧ VR ν x v
 | .agg cs,y=>∃ vs,y = .agg vs.toArray ∧ VRs ν cs vs
 | .tup cs,y=>∃ vs,y = .tuple vs.toArray ∧ VRs ν cs vs
def VRs (ν : Env) : List LV → List Value → Prop
 | [],vs=>vs = []
 | c :: cs,vs=>∃ u us,vs = u :: us ∧ VR ν c u ∧ VRs ν cs us
end
def Ext (ν ν' : Env) : Prop:=∀ i l,ν i = some l → ν' i = some l
theorem Ext.refl (ν : Env) : Ext ν ν:=fun _ _ h=>h
theorem Ext.trans {a b c:Env} (h:Ext a b) (k:Ext b c) : Ext a c:=fun i l hi=>k i l (h i l hi)
mutual
theorem VR.ext {ν ν' : Env} (h:Ext ν ν') : ∀ (x:LV) (y:Value),VR ν x y → VR ν' x y
 | .v x,y,hv=>by simpa [VR] using hv
 | .ptr b off,y,hv=>by
  simp only [VR] at hv ⊢
  obtain ⟨l,h1,h2⟩:=hv
  exact ⟨l,h b l h1,h2⟩
 | .slice b off len cap,y,hv=>by
  simp only [VR] at hv ⊢
  obtain ⟨l,h1,h2⟩:=hv
  exact ⟨l,h b l h1,h2⟩
 | .buf b off len e,y,hv=>by
  simp only [VR] at hv ⊢
  obtain ⟨l,c,h1,h2⟩:=hv
  exact ⟨l,c,h b l h1,h2⟩
 | .emp,y,hv=>by simpa [VR] using hv
 | .sym b k lo hi ne,y,hv=>by
  simp only [VR] at hv ⊢
  obtain ⟨l,h1,h2,h3,h4,h5,h6⟩:=hv
  refine ⟨l,h b l h1,h2,h3,h4,h5,fun c hc=>?_⟩
  obtain ⟨l2,g1,g2⟩:=h6 c hc
  exact ⟨l2,h c l2 g1,g2⟩
 | .outS b,y,hv=>by
  simp only [VR] at hv ⊢
  obtain ⟨l,m,f,h1,h2,h3,h4⟩:=hv
  exact ⟨l,m,f,h _ _ h1,h _ _ h2,h _ _ h3,h4⟩
 | .outP b,y,hv=>by
  simp only [VR] at hv ⊢
  obtain ⟨l,h1,h2⟩:=hv
  exact ⟨l,h _ _ h1,h2⟩
 | .str cs,y,hv=>by
  simp only [VR] at hv ⊢
  obtain ⟨bs,h1,h2⟩:=hv
  exact ⟨bs,h1,VRs.ext h cs _ h2⟩
 | .fn f cs,y,hv=>by
  simp only [VR] at hv ⊢
  obtain ⟨vs,h1,h2⟩:=hv
  exact ⟨vs,h1,VRs.ext h cs vs h2⟩
 | .ifc t x,y,hv=>by
  simp only [VR] at hv ⊢
  obtain ⟨v,h1,h2⟩:=hv
  exact ⟨v,h1,VR.ext h x v h2⟩
 | .agg cs,y,hv=>by
  simp only [VR] at hv ⊢
  obtain ⟨vs,h1,h2⟩:=hv
  exact ⟨vs,h1,VRs.ext h cs vs h2⟩
 | .tup cs,y,hv=>by
  simp only [VR] at hv ⊢
  obtain ⟨vs,h1,h2⟩:=hv
  exact ⟨vs,h1,VRs.ext h cs vs h2⟩
theorem VRs.ext {ν ν' : Env} (h:Ext ν ν') : ∀ (cs:List LV) (vs:List Value),VRs ν cs vs → VRs ν' cs vs
 | [],vs,hv=>by simpa [VRs] using hv
 | c :: cs,vs,hv=>by
  simp only [VRs] at hv ⊢
  obtain ⟨u,us,h1,h2,h3⟩:=hv
  exact ⟨u,us,h1,VR.ext h c u h2,VRs.ext h cs us h3⟩
end
theorem VRs.nil_iff {ν : Env} {vs:List Value} : VRs ν [] vs ↔ vs = []:=by simp [VRs]
theorem VRs.cons_iff {ν : Env} {c:LV} {cs:List LV} {vs:List Value} : VRs ν (c :: cs) vs ↔ ∃ u us,vs = u :: us ∧ VR ν c u ∧ VRs ν cs us:=by simp [VRs]
theorem VRs.length {ν : Env} : ∀ {cs:List LV} {vs:List Value},VRs ν cs vs → vs.length = cs.length
 | [],vs,h=>by rw [VRs.nil_iff.1 h]; rfl
 | c :: cs,vs,h=>by
  obtain ⟨u,us,rfl,_,h3⟩:=VRs.cons_iff.1 h
  simp [VRs.length h3]
theorem VRs.append {ν : Env} : ∀ {cs ds:List LV} {vs us:List Value},VRs ν cs vs → VRs ν ds us → VRs ν (cs ++ ds) (vs ++ us)
 | [],ds,vs,us,h,k=>by rw [VRs.nil_iff.1 h]; exact k
 | c :: cs,ds,vs,us,h,k=>by
  obtain ⟨u,us',rfl,h2,h3⟩:=VRs.cons_iff.1 h
  exact VRs.cons_iff.2 ⟨u,_,rfl,h2,VRs.append h3 k⟩
theorem VRs.split {ν : Env} : ∀ {cs ds:List LV} {vs:List Value},VRs ν (cs ++ ds) vs → ∃ us ws,vs = us ++ ws ∧ VRs ν cs us ∧ VRs ν ds ws
 | [],ds,vs,h=>⟨[],vs,rfl,VRs.nil_iff.2 rfl,h⟩
 | c :: cs,ds,vs,h=>by
  obtain ⟨u,us',rfl,h2,h3⟩:=VRs.cons_iff.1 h
  obtain ⟨a,b,rfl,ha,hb⟩:=VRs.split h3
  exact ⟨u :: a,b,rfl,VRs.cons_iff.2 ⟨u,a,rfl,h2,ha⟩,hb⟩
theorem VRs.take {ν : Env} {cs:List LV} {vs:List Value} (h:VRs ν cs vs) (n:Nat) : VRs ν (cs.take n) (vs.take n):=by
 rw [← List.take_append_drop n cs] at h
 obtain ⟨a,b,rfl,ha,hb⟩:=VRs.split h
 by_cases hn : n ≤ cs.length
 ·have : a.length = n:=by rw [ha.length]; simp; omega
  rw [← this,List.take_left]; rwa [this]
 ·have hl:=ha.length
  have hb':=hb.length
  simp at hl hb'
  have e1 : b = []:=List.eq_nil_of_length_eq_zero (by omega)
  subst e1
  rw [List.append_nil,List.take_of_length_le (by omega)]
  rwa [List.take_of_length_le (by omega)] at ha ⊢
theorem VRs.drop {ν : Env} {cs:List LV} {vs:List Value} (h:VRs ν cs vs) (n:Nat) : VRs ν (cs.drop n) (vs.drop n):=by
 rw [← List.take_append_drop n cs] at h
 obtain ⟨a,b,rfl,ha,hb⟩:=VRs.split h
 by_cases hn : n ≤ cs.length
 ·have : a.length = n:=by rw [ha.length]; simp; omega
  rw [← this,List.drop_left]; rwa [this]
 ·have hl:=ha.length
  have hb':=hb.length
  simp at hl hb'
  have e1 : b = []:=List.eq_nil_of_length_eq_zero (by omega)
  subst e1
  rw [List.append_nil,List.drop_of_length_le (show a.length ≤ n by omega)]
  rwa [List.drop_of_length_le (by omega)] at hb ⊢
theorem VRs.get {ν : Env} {cs:List LV} {vs:List Value} (h:VRs ν cs vs) (i:Nat) (x:LV) (hx:cs[i]? = some x) : ∃ y,vs[i]? = some y ∧ VR ν x y:=by
 induction cs generalizing vs i with
 | nil=>simp at hx
 | cons c cs ih =>
  obtain ⟨u,us,rfl,h2,h3⟩:=VRs.cons_iff.1 h
  cases i with
  | zero=>simp at hx; subst hx; exact ⟨u,rfl,h2⟩
  | succ i=>simpa using ih h3 i (by simpa using hx)
theorem putL_eq : ∀ (cs:List LV) (off:Nat) (l:List LV),off + l.length ≤ cs.length → putL cs off l = cs.take off ++ l ++ cs.drop (off + l.length)
 | cs,off,[],h=>by cases cs <;> cases off <;> simp [putL]
 | [],off,x :: xs,h=>by simp at h
 | c :: cs,0,x :: xs,h=>by
  have:=putL_eq cs 0 xs (by simp at h ⊢; omega)
  simp only [putL,this]
  simp [Nat.add_comm]
 | c :: cs,off + 1,x :: xs,h=>by
  have:=putL_eq cs off (x :: xs) (by simp at h ⊢; omega)
  simp only [putL,this]
  rw [List.take_succ_cons,show off + 1 + (x :: xs).length = (off + (x :: xs).length) + 1 by omega,List.drop_succ_cons]
  simp
theorem putL_len (cs:List LV) (off:Nat) (l:List LV) (h:off + l.length ≤ cs.length) : (putL cs off l).length = cs.length:=by
 rw [putL_eq cs off l h]; simp; omega
theorem VRs.put {ν : Env} {cs l:List LV} {vs us:List Value} {off:Nat} (h:VRs ν cs vs) (k:VRs ν l us) (hl:off + l.length ≤ cs.length) :
  VRs ν (putL cs off l) (vs.take off ++ us ++ vs.drop (off + us.length)):=by
 rw [putL_eq cs off l hl,k.length]
 exact ((h.take off).append k).append (h.drop _)
theorem VR.one {ν : Env} {x:LV} {y:Value} (h:VR ν x y) (h1:x.isOne = true) : y.oneCell' = true:=by
 cases x with
 | v x =>
  simp only [VR] at h
  obtain ⟨rfl,hp⟩:=h
  cases y <;> simp_all [plainV,Value.oneCell']
 | ptr b off=>simp only [VR] at h; obtain ⟨l,_,rfl⟩:=h; rfl
 | slice b off len cap=>simp only [VR] at h; obtain ⟨l,_,rfl⟩:=h; rfl
 | buf b off len e=>simp only [VR] at h; obtain ⟨l,c,_,rfl,_⟩:=h; rfl
 | emp=>simp only [VR] at h; obtain ⟨a,c,rfl,_⟩:=h; rfl
 | sym b k lo hi ne=>simp only [VR] at h; obtain ⟨l,_,rfl,_⟩:=h; rfl
 | str cs=>simp only [VR] at h; obtain ⟨bs,rfl,_⟩:=h; rfl
 | outS b=>simp only [VR] at h; obtain ⟨l,m,f,_,_,_,rfl⟩:=h; rfl
 | outP b=>simp only [VR] at h; obtain ⟨l,_,rfl⟩:=h; rfl
 | fn f cs=>simp only [VR] at h; obtain ⟨vs,rfl,_⟩:=h; rfl
 | ifc t x=>simp only [VR] at h; obtain ⟨v,rfl,_⟩:=h; rfl
 | agg cs=>simp [LV.isOne] at h1
 | tup cs=>simp [LV.isOne] at h1
theorem VRs.one {ν : Env} : ∀ {cs:List LV} {vs:List Value},VRs ν cs vs → cs.all LV.isOne = true → ∀ v ∈ vs,v.oneCell' = true
 | [],vs,h,_=>by rw [VRs.nil_iff.1 h]; simp
 | c :: cs,vs,h,h1=>by
  obtain ⟨u,us,rfl,h2,h3⟩:=VRs.cons_iff.1 h
  simp only [List.all_cons,Bool.and_eq_true] at h1
  intro v hv
  rcases List.mem_cons.1 hv with rfl | hv
  ·exact h2.one h1.1
  ·exact VRs.one h3 h1.2 v hv
theorem VR.cells {ν : Env} {x:LV} {y:Value} (h:VR ν x y) (ht:∀ cs,x ≠ .tup cs) : VRs ν x.cells y.cells.toList:=by
 cases x with
 | agg cs=>simp only [VR] at h; obtain ⟨vs,rfl,h⟩:=h; simpa [LV.cells,Value.cells] using h
 | tup cs=>exact absurd rfl (ht cs)
 | v x =>
  have h':=h
  simp only [VR] at h
  obtain ⟨rfl,hp⟩:=h
  cases y <;> simp [plainV] at hp <;> exact VRs.cons_iff.2 ⟨_,_,rfl,h',VRs.nil_iff.2 rfl⟩
 | ptr b off=>have h':=h; simp only [VR] at h; obtain ⟨l,_,rfl⟩:=h; exact VRs.cons_iff.2 ⟨_,_,rfl,h',VRs.nil_iff.2 rfl⟩
 | slice b off len cap=>have h':=h; simp only [VR] at h; obtain ⟨l,_,rfl⟩:=h; exact VRs.cons_iff.2 ⟨_,_,rfl,h',VRs.nil_iff.2 rfl⟩
 | buf b off len e=>have h':=h; simp only [VR] at h; obtain ⟨l,c,_,rfl,_⟩:=h; exact VRs.cons_iff.2 ⟨_,_,rfl,h',VRs.nil_iff.2 rfl⟩
 | emp=>have h':=h; simp only [VR] at h; obtain ⟨a,c,rfl,_⟩:=h; exact VRs.cons_iff.2 ⟨_,_,rfl,h',VRs.nil_iff.2 rfl⟩
 | sym b k lo hi ne=>have h':=h; simp only [VR] at h; obtain ⟨l,_,rfl,_⟩:=h; exact VRs.cons_iff.2 ⟨_,_,rfl,h',VRs.nil_iff.2 rfl⟩
 | str cs=>have h':=h; simp only [VR] at h; obtain ⟨bs,rfl,_⟩:=h; exact VRs.cons_iff.2 ⟨_,_,rfl,h',VRs.nil_iff.2 rfl⟩
 | outS b=>have h':=h; simp only [VR] at h; obtain ⟨l,m,f,_,_,_,rfl⟩:=h; exact VRs.cons_iff.2 ⟨_,_,rfl,h',VRs.nil_iff.2 rfl⟩
 | outP b=>have h':=h; simp only [VR] at h; obtain ⟨l,_,rfl⟩:=h; exact VRs.cons_iff.2 ⟨_,_,rfl,h',VRs.nil_iff.2 rfl⟩
 | fn f cs=>have h':=h; simp only [VR] at h; obtain ⟨vs,rfl,_⟩:=h; exact VRs.cons_iff.2 ⟨_,_,rfl,h',VRs.nil_iff.2 rfl⟩
 | ifc t x=>have h':=h; simp only [VR] at h; obtain ⟨v,rfl,_⟩:=h; exact VRs.cons_iff.2 ⟨_,_,rfl,h',VRs.nil_iff.2 rfl⟩
theorem valsL_eq {ν : Env} : ∀ {cs:List LV} {xs ys:List Value},LV.valsL cs = some xs → VRs ν cs ys → ys = xs
 | [],xs,ys,h,k=>by simp [LV.valsL] at h; subst h; exact VRs.nil_iff.1 k
 | .v x :: cs,xs,ys,h,k=>by
  simp only [LV.valsL,Option.map_eq_some_iff] at h
  obtain ⟨l,h1,rfl⟩:=h
  obtain ⟨u,us,rfl,h2,h3⟩:=VRs.cons_iff.1 k
  simp only [VR] at h2
  rw [h2.1,valsL_eq h1 h3]
 | .ptr _ _ :: _,_,_,h,_=>by simp [LV.valsL] at h
 | .slice _ _ _ _ :: _,_,_,h,_=>by simp [LV.valsL] at h
 | .buf _ _ _ _ :: _,_,_,h,_=>by simp [LV.valsL] at h
 | .emp :: _,_,_,h,_=>by simp [LV.valsL] at h
 | .sym _ _ _ _ _ :: _,_,_,h,_=>by simp [LV.valsL] at h
 | .str _ :: _,_,_,h,_=>by simp [LV.valsL] at h
 | .outS _ :: _,_,_,h,_=>by simp [LV.valsL] at h
 | .outP _ :: _,_,_,h,_=>by simp [LV.valsL] at h
 | .fn _ _ :: _,_,_,h,_=>by simp [LV.valsL] at h
 | .ifc _ _ :: _,_,_,h,_=>by simp [LV.valsL] at h
 | .agg _ :: _,_,_,h,_=>by simp [LV.valsL] at h
 | .tup _ :: _,_,_,h,_=>by simp [LV.valsL] at h
theorem val?_eq {ν : Env} {x:LV} {y z:Value} (h:x.val? = some y) (k:VR ν x z) : z = y:=by
 cases x with
 | v x=>simp [LV.val?] at h; simp only [VR] at k; rw [k.1,h]
 | agg cs =>
  simp only [LV.val?,Option.map_eq_some_iff] at h
  obtain ⟨l,h1,rfl⟩:=h
  simp only [VR] at k
  obtain ⟨vs,rfl,k⟩:=k
  rw [valsL_eq h1 k]
 | _=>simp [LV.val?] at h
theorem lvsOf_ok {ν : Env} : ∀ {xs:List Value} {l:List LV},lvsOf xs = some l → VRs ν l xs
 | [],l,h=>by simp [lvsOf] at h; subst h; exact VRs.nil_iff.2 rfl
 | x :: xs,l,h=>by
  simp only [lvsOf] at h
  split at h
  ·rename_i hp
   simp only [Option.map_eq_some_iff] at h
   obtain ⟨l',h1,rfl⟩:=h
   exact VRs.cons_iff.2 ⟨x,xs,rfl,by simp [VR,hp],lvsOf_ok h1⟩
  ·cases h
theorem lvsOf_one : ∀ {xs:List Value} {l:List LV},lvsOf xs = some l → l.all LV.isOne = true
 | [],l,h=>by simp [lvsOf] at h; subst h; rfl
 | x :: xs,l,h=>by
  simp only [lvsOf] at h
  split at h
  ·simp only [Option.map_eq_some_iff] at h
   obtain ⟨l',h1,rfl⟩:=h
   simp [LV.isOne,lvsOf_one h1]
  ·cases h
theorem lvOf_ok {ν : Env} {x:Value} {l:LV} (h:lvOf x = some l) : VR ν l x:=by
 unfold lvOf at h
 split at h
 ·simp only [Option.map_eq_some_iff] at h
  obtain ⟨l',h1,rfl⟩:=h
  simp only [VR]
  exact ⟨_,by simp,lvsOf_ok h1⟩
 ·split at h
  ·rename_i hp
   cases h
   simp [VR,hp]
  ·cases h
theorem pureRun_ok {α : Type} {P:Program} : ∀ (m:Sem α) (a:α),pureRun P m = some a → ∀ w,m.run P w = .ok a w
 | .pure b,a,h,w=>by simp [pureRun] at h; subst h; rfl
 | .program k,a,h,w=>by simp only [pureRun] at h; exact pureRun_ok (k P) a h w
 | .mark _ k,a,h,w=>by simp only [pureRun] at h; exact pureRun_ok k a h w
 | .load _ _ _,_,h,_ | .store _ _ _ _,_,h,_ | .new _ _,_,h,_ | .shape _ _,_,h,_ | .freeze _ _ _,_,h,_ | .frozen _ _,_,h,_ | .getObj _ _,_,h,_ | .setObj _ _ _,_,h,_ | .choose _ _,_,h,_ | .sys _ _,_,h,_ | .halt _,_,h,_=>by simp [pureRun] at h
end Go.Proofs.YtjpfhhndjpdmoaaGreatDoor

namespace Go.Proofs.YtjpfhhndjpdmoaaGreatDoor
open Go.RowKit
set_option linter.unusedVariables false
set_option linter.unusedSimpArgs false

def BlkR (ν : Env) (l:Loc) (k:Blk) (o:Option Obj) : Prop :=
 ∃ c fr,o = some (.cells c k.elem fr) ∧ c.size = l.base + l.sz ∧ (k.exact = true → k.cells.length = l.sz ∧ l.base = 0) ∧ (∃ pre vs rest,c.toList = pre ++ (vs ++ rest) ∧ pre.length = l.base ∧ VRs ν k.cells vs) ∧ k.cells.all LV.isOne = true ∧ (fr.1 = fr.2 ∨ c.size ≤ fr.1) ∧ (k.mrk = false → fr = (0,0))
theorem frz {fr:Nat × Nat} {n:Nat} (h:fr.1 = fr.2 ∨ n ≤ fr.1) : ∀ i,i < n → ¬ (fr.1 ≤ i ∧ i < fr.2):=fun i hi=>by omega
theorem BlkR.ext {ν ν' : Env} (h:Ext ν ν') {l:Loc} {k:Blk} {o:Option Obj} (hb:BlkR ν l k o) : BlkR ν' l k o:=by
 obtain ⟨c,fr,h1,h2,h3,⟨pre,vs,rest,h4,h0,h5⟩,h6⟩:=hb
 exact ⟨c,fr,h1,h2,h3,⟨pre,vs,rest,h4,h0,VRs.ext h _ _ h5⟩,h6⟩
def footHas : Option (List Nat) → Nat → Prop
 | none,_=>True
 | some F,i=>i ∈ F
def HRF (ν : Env) (H:Hp) (foot:Option (List Nat)) (w:World) : Prop:=∀ i k,footHas foot i → H.get i = some k → ∃ l,ν i = some l ∧ BlkR ν l k w.heap[l.addr]?
def LowF (nB B:Nat) (ν : Env) (H:Hp) (foot:Option (List Nat)) : Prop:=∀ i k l,footHas foot i → nB ≤ i → H.get i = some k → ν i = some l → B ≤ l.addr
def InjH (ν : Env) (H:Hp) : Prop:=∀ i j ki kj li lj,H.get i = some ki → H.get j = some kj → ν i = some li → ν j = some lj → li.addr = lj.addr → i = j
def InjHF (ν : Env) (H:Hp) (foot:Option (List Nat)) : Prop:=∀ i j ki kj li lj,footHas foot i → footHas foot j → H.get i = some ki → H.get j = some kj → ν i = some li → ν j = some lj → li.addr = lj.addr → i = j
def GlobE (P:Program) (ν : Env) : Prop:=∀ g,g < P.globals.size → ∃ sz,ν g = some ⟨g,sz,0⟩
structure OpPost (nB B:Nat) (w0:World) (ν ν' : Env) (H:Hp) (nx:Nat) (out:Out) (w w':World) (v':Value) : Prop where
 ext : ∀ i,¬ (nx ≤ i ∧ i < out.nx) → ν' i = ν i
 val : VR ν' out.v v'
 blk : ∀ i k,dget out.d i = some (some k) → ∃ l,ν' i = some l ∧ BlkR ν' l k w'.heap[l.addr]?
 frame : ∀ a,a < w.heap.size → (∀ i l,i < nx → (dget out.d i).isSome = true → ν i = some l → l.addr ≠ a) → w'.heap[a]? = w.heap[a]?
 fresh : ∀ i k l,nx ≤ i → dget out.d i = some (some k) → ν' i = some l → w.heap.size ≤ l.addr ∨ ∃ j lj,j < nx ∧ dget out.d j = some none ∧ ν j = some lj ∧ lj.addr = l.addr
 inj : ∀ i j ki kj li lj,nx ≤ i → nx ≤ j → dget out.d i = some (some ki) → dget out.d j = some (some kj) → ν' i = some li → ν' j = some lj → li.addr = lj.addr → i = j
 old : ∀ i,i < nx → (dget out.d i).isSome = true → nB ≤ i ∧ (H.get i).isSome = true
 new : ∀ i,nx ≤ i → (dget out.d i).isSome = true → i < out.nx
 below : Below B w0 w'
 size : w.heap.size ≤ w'.heap.size
theorem BlkR.heap {ν : Env} {l:Loc} {k:Blk} {w:World} (h:BlkR ν l k w.heap[l.addr]?) : l.addr < w.heap.size:=by
 obtain ⟨c,fr,h1,_⟩:=h
 exact (Array.getElem?_eq_some_iff.1 h1).1
theorem BlkR.cell {ν : Env} {l:Loc} {k:Blk} {w:World} (h:BlkR ν l k w.heap[l.addr]?) (i:Nat) (x:LV) (hx:k.cells[i]? = some x) : ∃ y,w.cell? ⟨l.addr,l.base + i,none⟩ = some y ∧ VR ν x y ∧ x.isOne = true:=by
 obtain ⟨c,fr,h1,h2,h3,⟨pre,vs,rest,h4,h0,h5⟩,h6,h7⟩:=h
 obtain ⟨y,hy,hv⟩:=h5.get i x hx
 have hi : i < vs.length:=(List.getElem?_eq_some_iff.1 hy).1
 refine ⟨y,?_,hv,(List.all_eq_true.1 h6) x (List.mem_of_getElem? hx)⟩
 simp only [World.cell?,h1]
 rw [← Array.getElem?_toList,h4,List.getElem?_append_right (by omega),← h0,Nat.add_sub_cancel_left,List.getElem?_append_left hi]
 simpa using hy
theorem BlkR.stretch {ν : Env} {l:Loc} {k:Blk} {w:World} (h:BlkR ν l k w.heap[l.addr]?) (off n:Nat) (hn:((k.cells.drop off).take n).length = n) :
  ∃ us,us.length = n ∧ VRs ν ((k.cells.drop off).take n) us ∧ ∀ j v,us[j]? = some v → w.cell? ⟨l.addr,l.base + off + j,none⟩ = some v:=by
 obtain ⟨c,fr,h1,h2,h3,⟨pre,vs,rest,h4,h0,h5⟩,h6,h7⟩:=h
 refine ⟨(vs.drop off).take n,?_,(h5.drop off).take n,fun j v hj=>?_⟩
 ·have:=((h5.drop off).take n).length; rw [this,hn]
 ·have hjn : j < n:=by
   have:=(List.getElem?_eq_some_iff.1 hj).1
   simp at this; omega
  rw [List.getElem?_take_of_lt hjn,List.getElem?_drop] at hj
  have hi : off + j < vs.length:=(List.getElem?_eq_some_iff.1 hj).1
  simp only [World.cell?,h1]
  rw [← Array.getElem?_toList,h4,List.getElem?_append_right (by omega),← h0,Nat.add_assoc,Nat.add_sub_cancel_left,List.getElem?_append_left hi]
  simpa using hj
section
variable {P:Program}
theorem add_off (g o i:Nat) : (⟨g,o,none⟩ : Addr).add i = ⟨g,o + i,none⟩:=by unfold Addr.add; split <;> simp_all
theorem run_storeCells_ok (g o:Nat) (t:TypeId) (fr:Nat × Nat) : ∀ (vs:List Value) (i:Nat) (cur:Array Value) (w:World),w.heap[g]? = some (.cells cur t fr) → (∀ j,j < cur.size → ¬ (fr.1 ≤ j ∧ j < fr.2)) → o + i + vs.length ≤ cur.size → (∀ v ∈ vs,v.oneCell' = true) →
  (storeCells ⟨g,o,none⟩ vs i).run P w = .ok () (w.setRow g (cur.toList.take (o + i) ++ vs ++ cur.toList.drop (o + i + vs.length)).toArray)
 | [],i,cur,w,hg,_,_,_=>by
  simp only [storeCells,List.append_nil,List.length_nil,Nat.add_zero,List.take_append_drop,Array.toArray_toList]
  rw [setRow_self w g cur t fr hg]
  rfl
 | v :: rest,i,cur,w,hg,hfr,hl,h1=>by
  have hi : o + i < cur.size:=by simp at hl; omega
  have hcell : w.cell? ⟨g,o + i,none⟩ = some cur[o + i]:=by simp [World.cell?,hg,hi]
  have hfro : w.frozen? ⟨g,o + i,none⟩ = false:=by
   have:=hfr (o + i) hi
   obtain ⟨a,b⟩:=fr
   simp only [World.frozen?,hg]
   rw [Bool.and_eq_false_iff,decide_eq_false_iff_not,decide_eq_false_iff_not]
   exact Decidable.not_and_iff_or_not.1 this
  have hst : (store ((⟨g,o,none⟩ : Addr).add i) v).run P w = .ok () (w.setRow g (cur.setIfInBounds (o + i) v)):=by
   rw [add_off,run_store P w _ v _ (h1 v (by simp)),hcell]
   simp [hfro,setCell_eq_setRow w g (o + i) cur t fr v hg]
  have ih:=run_storeCells_ok g o t fr rest (i + 1) (cur.setIfInBounds (o + i) v) (w.setRow g (cur.setIfInBounds (o + i) v)) (setRow_heap w g cur _ t _ hg) (by simpa using hfr) (by simp at hl ⊢; omega) (fun x hx=>h1 x (by simp [hx]))
  simp only [storeCells,Sem.run_bind,hst,Result.andThen_ok,ih,setRow_setRow]
  congr 3
  have e:=list_seg_step cur.toList (o + i) v rest (by simp at hl ⊢; omega)
  simpa [Array.toList_setIfInBounds,Nat.add_assoc] using e
theorem run_isAgg {t:TypeId} {b:Bool} (h:isAggL P t = some b) (w:World) : (isAgg t).run P w = .ok b w:=by
 unfold isAggL at h
 split at h
 ·rename_i fs hu; cases h; simp [isAgg,run_underlying hu]
 ·rename_i n e hu; cases h; simp [isAgg,run_underlying hu]
 ·rename_i d n1 n2 hu
  cases h
  simp only [isAgg,Sem.run_bind,run_underlying hu,Result.andThen_ok]
  cases d <;> simp_all
 ·cases h
theorem run_sizeOf {t:TypeId} {n:Nat} (h:sizeL P t = some n) (w:World) : (sizeOf t).run P w = .ok n w:=by
 simp only [sizeL,Option.map_eq_some_iff] at h
 obtain ⟨i,hi,rfl⟩:=h
 simp [sizeOf,typeInfo,hi]
theorem run_zero {ν : Env} {t:TypeId} {z:List LV} (h:zeroL P t = some z) : ∃ v,(∀ w,(zeroValue t).run P w = .ok v w) ∧ VRs ν z v.cells.toList ∧ z.all LV.isOne = true:=by
 unfold zeroL at h
 split at h
 ·rename_i i hi
  split at h
  ·rename_i v hz
   exact ⟨v,fun w=>by simp [zeroValue,typeInfo,hi,hz],lvsOf_ok h,lvsOf_one h⟩
  ·cases h
 ·cases h
theorem part_ok {ν : Env} {t:TypeId} {cs:List LV} {off:Nat} {l:LV} {us:List Value} (h:partL P t cs off = some l) (hv:VRs ν cs us) (w:World) : ∃ v,(part t us.toArray off).run P w = .ok v w ∧ VR ν l v:=by
 unfold partL at h
 split at h
 ·rename_i n ha hs
  simp only at h
  split at h
  ·rename_i hl
   cases h
   refine ⟨.agg ((us.drop off).take n).toArray,?_,?_⟩
   ·simp only [part,Sem.run_bind,run_isAgg ha,Result.andThen_ok,if_true,run_sizeOf hs,Sem.run_pure]
    congr 2
    apply Array.ext'
    simp [List.extract_eq_drop_take']
    try rw [List.drop_take]
    try congr 1
    try omega
   ·simp only [VR]
    exact ⟨_,rfl,(hv.drop off).take n⟩
  ·cases h
 ·rename_i n ha hs
  obtain ⟨y,hy,hvy⟩:=hv.get off l h
  refine ⟨y,?_,hvy⟩
  simp [part,run_isAgg ha,hy]
 ·cases h
theorem loadVar_ok {ν : Env} {t:TypeId} {b:Loc} {k:Blk} {off:Nat} {l:LV} {w:World} (h:partL P t k.cells off = some l) (hb:BlkR ν b k w.heap[b.addr]?) : ∃ v,(loadVar t ⟨b.addr,b.base + off,none⟩).run P w = .ok v w ∧ VR ν l v:=by
 unfold partL at h
 split at h
 ·rename_i n ha hs
  simp only at h
  split at h
  ·rename_i hl
   cases h
   obtain ⟨us,h1,h2,h3⟩:=hb.stretch off n hl
   refine ⟨.agg us.toArray,?_,by simp only [VR]; exact ⟨_,rfl,h2⟩⟩
   have:=run_loadCells_list (P:=P) w ⟨b.addr,b.base + off,none⟩ us (fun j v hj=>by rw [add_off]; exact h3 j v hj)
   simp only [loadVar,Sem.run_bind,run_isAgg ha,Result.andThen_ok,if_true,run_sizeOf hs,← h1,this,Sem.run_pure]
  ·cases h
 ·rename_i n ha hs
  obtain ⟨y,hy,hvy,_⟩:=hb.cell off l h
  exact ⟨y,by simp [loadVar,run_isAgg ha,hy],hvy⟩
 ·cases h
end
/-! ### the shapes -/
section
variable {nB B:Nat} {w0:World} {ν : Env} {H:Hp} {nx:Nat} {w:World}
theorem post_val {v:LV} {v':Value} {foot:Option (List Nat)} (hv:VR ν v v') (hb:Below B w0 w) : OpPost nB B w0 ν ν H nx ⟨v,[],nx,foot⟩ w w v' where
 ext:=fun _ _=>rfl
 val:=hv
 blk:=fun i k h=>by simp [dget] at h
 frame:=fun _ _ _=>rfl
 fresh:=fun i k l _ h=>by simp [dget] at h
 inj:=fun i j ki kj li lj _ _ h=>by simp [dget] at h
 old:=fun i _ h=>by simp [dget] at h
 new:=fun i _ h=>by simp [dget] at h
 below:=hb
 size:=Nat.le_refl _
def envNew (ν : Env) (nx:Nat) (l:Loc) : Env:=fun i=>if i = nx then some l else ν i
theorem envNew_ext {l:Loc} (h:ν nx = none) : Ext ν (envNew ν nx l):=fun i m hi=>by
 unfold envNew
 split
 ·rename_i e; subst e; rw [h] at hi; cases hi
 ·exact hi
theorem envNew_self (l:Loc) : envNew ν nx l nx = some l:=by simp [envNew]
theorem post_new {t:TypeId} {ex mk:Bool} {cs:List LV} {v:LV} {foot:Option (List Nat)} {w':World} {c:Array Value} {fr:Nat × Nat} {v':Value}
  (hν : ν nx = none) (hh:w'.heap = w.heap.push (.cells c t fr)) (hfr:fr.1 = fr.2 ∨ c.size ≤ fr.1) (hmk:mk = false → fr = (0,0)) (hex:ex = true → cs.length = c.size)
  (hcs:∃ vs rest,c.toList = vs ++ rest ∧ VRs ν cs vs) (h1:cs.all LV.isOne = true) (hb:Below B w0 w') (hv:VR (envNew ν nx ⟨w.heap.size,c.size,0⟩) v v') :
  OpPost nB B w0 ν (envNew ν nx ⟨w.heap.size,c.size,0⟩) H nx ⟨v,[(nx,some ⟨t,ex,mk,cs⟩)],nx + 1,foot⟩ w w' v' where
 ext:=fun i hi=>by unfold envNew; rw [if_neg (by simp at hi; omega)]
 val:=hv
 blk:=fun i k h=>by
  simp only [dget] at h
  split at h
  ·rename_i e; subst e
   cases h
   refine ⟨_,envNew_self _,c,fr,?_,(Nat.zero_add _).symm,fun he=>⟨hex he,rfl⟩,?_,h1,hfr,hmk⟩
   ·simp [hh]
   ·obtain ⟨vs,rest,h2,h3⟩:=hcs
    exact ⟨[],vs,rest,h2,rfl,VRs.ext (envNew_ext hν) _ _ h3⟩
  ·cases h
 frame:=fun a ha _=>by rw [hh,Array.getElem?_push,if_neg (by omega)]
 fresh:=fun i k l hi h hl=>by
  simp only [dget] at h
  split at h
  ·rename_i e; subst e
   rw [envNew_self] at hl; cases hl
   exact .inl (Nat.le_refl _)
  ·cases h
 inj:=fun i j ki kj li lj _ _ hi hj _ _ _=>by
  simp only [dget] at hi hj
  split at hi
  ·rename_i e1
   split at hj
   ·rename_i e2; rw [e1,e2]
   ·cases hj
  ·cases hi
 old:=fun i hi h=>by
  simp only [dget] at h
  split at h
  ·rename_i e; omega
  ·cases h
 new:=fun i hi h=>by
  simp only [dget] at h
  split at h
  ·rename_i e; simp; omega
  ·cases h
 below:=hb
 size:=by rw [hh]; simp
theorem post_set {b:Nat} {l:Loc} {k:Blk} {c':Array Value} {fr':Nat × Nat} {cs:List LV} {mk:Bool} {v:LV} {foot:Option (List Nat)} {w':World} {v':Value}
  (hbn:b < nx) (hnB:nB ≤ b) (hH:H.get b = some k) (hν : ν b = some l) (hh:w'.heap[l.addr]? = some (.cells c' k.elem fr')) (ho:∀ a,a ≠ l.addr → w'.heap[a]? = w.heap[a]?) (hsz:w'.heap.size = w.heap.size)
  (hc':c'.size = l.base + l.sz) (hfr:fr'.1 = fr'.2 ∨ c'.size ≤ fr'.1) (hmk:mk = false → fr' = (0,0)) (hex:k.exact = true → cs.length = l.sz ∧ l.base = 0) (hcs:∃ pre vs rest,c'.toList = pre ++ (vs ++ rest) ∧ pre.length = l.base ∧ VRs ν cs vs) (h1:cs.all LV.isOne = true) (hb:Below B w0 w') (hv:VR ν v v') :
  OpPost nB B w0 ν ν H nx ⟨v,[(b,some ⟨k.elem,k.exact,mk,cs⟩)],nx,foot⟩ w w' v' where
 ext:=fun _ _=>rfl
 val:=hv
 blk:=fun i k' h=>by
  simp only [dget] at h
  split at h
  ·rename_i e; subst e
   cases h
   exact ⟨l,hν,c',fr',hh,hc',hex,hcs,h1,hfr,hmk⟩
  ·cases h
 frame:=fun a ha h=>ho a (fun e=>h b l hbn (by simp [dget]) hν e.symm)
 fresh:=fun i k l hi h hl=>by
  simp only [dget] at h
  split at h
  ·rename_i e; omega
  ·cases h
 inj:=fun i j ki kj li lj hi _ h _ _ _ _=>by
  simp only [dget] at h
  split at h
  ·rename_i e; omega
  ·cases h
 old:=fun i hi h=>by
  simp only [dget] at h
  split at h
  ·rename_i e; subst e; exact ⟨hnB,by simp [hH]⟩
  ·cases h
 new:=fun i hi h=>by
  simp only [dget] at h
  split at h
  ·rename_i e; omega
  ·cases h
 below:=hb
 size:=by omega
end
end Go.Proofs.YtjpfhhndjpdmoaaGreatDoor

namespace Go.Proofs.YtjpfhhndjpdmoaaGreatDoor
open Go.RowKit
set_option linter.unusedVariables false
set_option linter.unusedSimpArgs false

section
variable {P:Program} {nB B:Nat} {w0:World} {ν : Env} {T:Tr LV} {H:Hp} {nx:Nat} {w:World} {out:Out}
def Gives (P:Program) (nB B:Nat) (w0:World) (ν : Env) (H:Hp) (nx:Nat) (out:Out) (w:World) (m:Sem Value) : Prop :=
 ∃ v' w' ν',OpPost nB B w0 ν ν' H nx out w w' v' ∧ m.run P w = .ok v' w'
theorem gives_val {v:LV} {v':Value} {foot:Option (List Nat)} {m:Sem Value} (hm:m.run P w = .ok v' w) (hv:VR ν v v') (hb:Below B w0 w) : Gives P nB B w0 ν H nx ⟨v,[],nx,foot⟩ w m :=
 ⟨v',w,ν,post_val hv hb,hm⟩
theorem pureL_ok {m:Sem Value} (h:pureL P nx m = some out) (hb:Below B w0 w) : Gives P nB B w0 ν H nx out w m:=by
 unfold pureL at h
 split at h
 ·rename_i y hy
  split at h
  ·rename_i l hl
   cases h
   exact gives_val (pureRun_ok _ _ hy w) (lvOf_ok hl) hb
  ·cases h
 ·cases h
theorem opds_ok {a:Act} : ∀ {xs:List Operand} {ls:List LV},(∀ x ∈ xs,∀ l,opd P T x = some l → VR ν l (a.eval x)) → opds P T xs = some ls → VRs ν ls (xs.map a.eval)
 | [],ls,_,h=>by simp [opds] at h; subst h; exact VRs.nil_iff.2 rfl
 | x :: xs,ls,hT,h=>by
  simp only [opds] at h
  split at h
  ·rename_i l hl
   simp only [Option.map_eq_some_iff] at h
   obtain ⟨ls',h1,rfl⟩:=h
   exact VRs.cons_iff.2 ⟨_,_,rfl,hT x (by simp) l hl,opds_ok (fun y hy=>hT y (by simp [hy])) h1⟩
  ·cases h
theorem parts_ok {a:Act} : ∀ {xs:List (Nat × Operand)} {ls:List (Nat × LV)},(∀ x ∈ xs,∀ l,opd P T x.2 = some l → VR ν l (a.eval x.2)) → partsL P T xs = some ls →
  ls.length = xs.length ∧ ∀ (i n:Nat) (l:LV),ls[i]? = some (n,l) → ∃ x,xs[i]? = some (n,x) ∧ VR ν l (a.eval x)
 | [],ls,_,h=>by simp [partsL] at h; subst h; simp
 | (n,x) :: xs,ls,hT,h=>by
  simp only [partsL] at h
  split at h
  ·rename_i l hl
   simp only [Option.map_eq_some_iff] at h
   obtain ⟨ls',h1,rfl⟩:=h
   obtain ⟨h2,h3⟩:=parts_ok (fun y hy=>hT y (by simp [hy])) h1
   refine ⟨by simp [h2],fun i m k hk=>?_⟩
   cases i with
   | zero=>simp at hk; obtain ⟨rfl,rfl⟩:=hk; exact ⟨x,rfl,hT (n,x) (by simp) _ hl⟩
   | succ i=>simpa using h3 i m k (by simpa using hk)
  ·cases h
theorem foldl_put : ∀ (vs:List Value) (off k:Nat) (cs:Array Value),off + k + vs.length ≤ cs.size →
  ((vs.zipIdx k).foldl (fun cs (c,j)=>cs.setIfInBounds (off + j) c) cs) = (cs.toList.take (off + k) ++ vs ++ cs.toList.drop (off + k + vs.length)).toArray
 | [],off,k,cs,h=>by simp
 | v :: vs,off,k,cs,h=>by
  simp only [List.zipIdx_cons,List.foldl_cons]
  rw [foldl_put vs off (k + 1) _ (by simp at h ⊢; omega)]
  have e:=list_seg_step cs.toList (off + k) v vs (by simp at h ⊢; omega)
  simpa [Array.toList_setIfInBounds,Nat.add_assoc] using e
theorem fill_ok {place:Nat → Option (Nat × Nat)} : ∀ {ps:List (Nat × LV)} {qs:List (Nat × Value)} {cs r:List LV} {us:List Value},ps.length = qs.length →
  (∀ (i n:Nat) (l:LV),ps[i]? = some (n,l) → ∃ y,qs[i]? = some (n,y) ∧ VR ν l y) → VRs ν cs us → fillL place cs ps = some r → ∃ ws,Instr.fill place us.toArray qs = some ws.toArray ∧ VRs ν r ws
 | [],qs,cs,r,us,hl,_,hv,h=>by
  have : qs = []:=List.eq_nil_of_length_eq_zero (by simpa using hl.symm)
  subst this
  simp [fillL] at h; subst h
  exact ⟨us,rfl,hv⟩
 | (i,l) :: ps,qs,cs,r,us,hl,hp,hv,h=>by
  obtain ⟨y,hy,hvy⟩:=hp 0 i l rfl
  cases qs with
  | nil=>simp at hy
  | cons q qs =>
   simp at hy; subst hy
   simp only [fillL] at h
   split at h
   ·cases h
   ·rename_i off size hpl
    split at h
    ·rename_i hc
     have hnt : ∀ ts,l ≠ .tup ts:=fun ts e=>by subst e; simp [LV.cells,LV.isOne] at hc
     have hcy:=hvy.cells hnt
     have hsz : y.cells.size = size:=by have:=hcy.length; simp at this; omega
     have hus:=hv.length
     have hcl:=hcy.length
     simp at hcl
     obtain ⟨ws,h2,h3⟩:=fill_ok (ps:=ps) (qs:=qs) (us:=us.take off ++ y.cells.toList ++ us.drop (off + y.cells.toList.length)) (by simpa using hl) (fun j n k hk=>by simpa using hp (j + 1) n k (by simpa using hk)) (hv.put hcy (by omega)) h
     refine ⟨ws,?_,h3⟩
     simp only [Instr.fill,hpl]
     rw [if_neg (by simp [hsz]; omega)]
     have hz : y.cells.zipIdx.foldl (fun cs (c,j)=>cs.setIfInBounds (off + j) c) us.toArray = (us.take off ++ y.cells.toList ++ us.drop (off + y.cells.toList.length)).toArray:=by
      rw [← Array.foldl_toList]
      have:=foldl_put y.cells.toList off 0 us.toArray (by simp; omega)
      simpa using this
     rw [hz]
     exact h2
    ·cases h

theorem new1_inv {t:TypeId} {ex mk:Bool} {cs:List LV} {v:LV} {foot:List Nat} (h:new1 nx t ex mk cs v foot = some out) : cs.all LV.isOne = true ∧ out = ⟨v,[(nx,some ⟨t,ex,mk,cs⟩)],nx + 1,some foot⟩:=by
 unfold new1 at h
 split at h
 ·rename_i h1; cases h; exact ⟨h1,rfl⟩
 ·cases h
theorem below_alloc (hb:Below B w0 w) (hB:B ≤ w0.heap.size) (o:Obj) : Below B w0 (w.alloc o):=hb.alloc (by have:=hb.size; omega) o
theorem gives_new {t:TypeId} {mk:Bool} {cs:List LV} {v:LV} {foot:Option (List Nat)} {m:Sem Value} {c:Array Value} {v':Value} (hν : ν nx = none) (hm:m.run P w = .ok v' (w.alloc (.cells c t))) (hcs:VRs ν cs c.toList) (h1:cs.all LV.isOne = true)
  (hb:Below B w0 w) (hB:B ≤ w0.heap.size) (hv:VR (envNew ν nx ⟨w.heap.size,c.size,0⟩) v v') : Gives P nB B w0 ν H nx ⟨v,[(nx,some ⟨t,true,mk,cs⟩)],nx + 1,foot⟩ w m :=
 ⟨v',_,_,post_new (fr:=(0,0)) hν rfl (.inl rfl) (fun _=>rfl) (fun _=>by have:=hcs.length; simp at this; omega) ⟨c.toList,[],by simp,hcs⟩ h1 (below_alloc hb hB _) hv,hm⟩
theorem op_alloc {t:TypeId} {z:List LV} (hz:zeroL P t = some z) (h:new1 nx t true false z (.ptr nx 0) [] = some out) (hν : ν nx = none) (hb:Below B w0 w) (hB:B ≤ w0.heap.size) :
  Gives P nB B w0 ν H nx out w (Instr.alloc t true (.tuple #[])):=by
 obtain ⟨h1,rfl⟩:=new1_inv h
 obtain ⟨v,hv,hvs,_⟩:=run_zero (ν:=ν) hz
 refine gives_new (v':=.pointer (some ⟨w.heap.size,0,none⟩)) (c:=v.cells) hν ?_ hvs h1 hb hB ?_
 ·simp [Instr.alloc,hv,newVar,newRow]
 ·simp [VR,envNew]
theorem op_box {t:TypeId} {x:LV} {y:Value} (hx:VR ν x y) (h:new1 nx t true false x.cells (.ptr nx 0) [] = some out) (hν : ν nx = none) (hb:Below B w0 w) (hB:B ≤ w0.heap.size) :
  Gives P nB B w0 ν H nx out w (Instr.box t y):=by
 obtain ⟨h1,rfl⟩:=new1_inv h
 refine gives_new (v':=.pointer (some ⟨w.heap.size,0,none⟩)) (c:=y.cells) hν ?_ (hx.cells fun ts e=>by subst e; simp [LV.cells,LV.isOne] at h1) h1 hb hB ?_
 ·simp [Instr.box,newVar,newRow]
 ·simp [VR,envNew]
theorem places_ok : ∀ {fs:List Field} {pl:List (Nat × Nat)},placesL P fs = some pl → ∀ w,(fs.mapM (m:=Sem) fun f=>do pure (f.offset,← sizeOf f.type)).run P w = .ok pl w
 | [],pl,h,w=>by simp [placesL] at h; subst h; simp
 | f :: fs,pl,h,w=>by
  simp only [placesL] at h
  split at h
  ·rename_i n hn
   simp only [Option.map_eq_some_iff] at h
   obtain ⟨pl',h1,rfl⟩:=h
   simp only [List.mapM_cons,Sem.run_bind,run_sizeOf hn,Result.andThen_ok,places_ok h1 w,Sem.run_pure]
  ·cases h
theorem op_buildS {t:TypeId} {parts:Array (Nat × Operand)} {z cs:List LV} {a:Act} {ps:List (Nat × LV)} {fs:Array Field} {pl:List (Nat × Nat)} {foot:Option (List Nat)} (hz:zeroL P t = some z) (hu:P.underlying t = some (.struct fs)) (hps:partsL P T parts.toList = some ps)
  (hT:∀ x ∈ parts.toList,∀ l,opd P T x.2 = some l → VR ν l (a.eval x.2)) (hb:Below B w0 w) (hpl:placesL P fs.toList = some pl) (hcs:fillL (fun i:Nat=>pl[i]?) z ps = some cs) :
  Gives P nB B w0 ν H nx ⟨.agg cs,[],nx,foot⟩ w (Instr.build t (parts.map fun (i,x)=>(i,a.eval x))):=by
 obtain ⟨v,hv,hvs,_⟩:=run_zero (ν:=ν) hz
 obtain ⟨hlen,hpp⟩:=parts_ok hT hps
 have hq1 : ps.length = (parts.map fun (i,x)=>(i,a.eval x)).toList.length:=by simp [hlen]
 have hq2 : ∀ (i n:Nat) (l:LV),ps[i]? = some (n,l) → ∃ y,(parts.map fun (i,x)=>(i,a.eval x)).toList[i]? = some (n,y) ∧ VR ν l y:=fun i n l hi=>by
  obtain ⟨x,hx,hvx⟩:=hpp i n l hi
  exact ⟨a.eval x,by simp [hx],hvx⟩
 obtain ⟨ws,h2,h3⟩:=fill_ok hq1 hq2 hvs hcs
 refine gives_val (v':=.agg ws.toArray) ?_ (by simp only [VR]; exact ⟨_,rfl,h3⟩) hb
 have hm : (fs.mapM (m:=Sem) fun f=>do pure (f.offset,← sizeOf f.type)).run P w = .ok pl.toArray w:=by
  rw [Array.mapM_eq_mapM_toList,Sem.run_map,places_ok hpl w]
  rfl
 generalize (parts.map fun (i,x)=>(i,a.eval x)) = qs at h2 hq1 hq2 ⊢
 simp only [Instr.build,Sem.run_bind,hv,Result.andThen_ok,run_underlying hu,hm]
 have he : (fun i:Nat=>pl.toArray[i]?) = fun i : Nat=>pl[i]?:=by funext i; simp
 rw [he]
 have h2' : Instr.fill (fun i:Nat=>pl[i]?) v.cells qs.toList = some ws.toArray:=by simpa using h2
 rw [h2']
 rfl
theorem op_buildA {t elem:TypeId} {k n:Nat} {parts:Array (Nat × Operand)} {z cs:List LV} {a:Act} {ps:List (Nat × LV)} {foot:Option (List Nat)} (hz:zeroL P t = some z) (hu:P.underlying t = some (.array k elem)) (hps:partsL P T parts.toList = some ps)
  (hT:∀ x ∈ parts.toList,∀ l,opd P T x.2 = some l → VR ν l (a.eval x.2)) (hb:Below B w0 w) (hn:sizeL P elem = some n) (hcs:fillL (fun i=>some (i * n,n)) z ps = some cs) :
  Gives P nB B w0 ν H nx ⟨.agg cs,[],nx,foot⟩ w (Instr.build t (parts.map fun (i,x)=>(i,a.eval x))):=by
 obtain ⟨v,hv,hvs,_⟩:=run_zero (ν:=ν) hz
 obtain ⟨hlen,hpp⟩:=parts_ok hT hps
 have hq1 : ps.length = (parts.map fun (i,x)=>(i,a.eval x)).toList.length:=by simp [hlen]
 have hq2 : ∀ (i n:Nat) (l:LV),ps[i]? = some (n,l) → ∃ y,(parts.map fun (i,x)=>(i,a.eval x)).toList[i]? = some (n,y) ∧ VR ν l y:=fun i n l hi=>by
  obtain ⟨x,hx,hvx⟩:=hpp i n l hi
  exact ⟨a.eval x,by simp [hx],hvx⟩
 obtain ⟨ws,h2,h3⟩:=fill_ok hq1 hq2 hvs hcs
 refine gives_val (v':=.agg ws.toArray) ?_ (by simp only [VR]; exact ⟨_,rfl,h3⟩) hb
 generalize (parts.map fun (i,x)=>(i,a.eval x)) = qs at h2 hq1 hq2 ⊢
 simp only [Instr.build,Sem.run_bind,hv,Result.andThen_ok,run_underlying hu,run_sizeOf hn]
 have h2' : Instr.fill (fun i=>some (i * n,n)) v.cells qs.toList = some ws.toArray:=by simpa using h2
 rw [h2']
 rfl
theorem repL_ok {z:List LV} {vs:List Value} (h:VRs ν z vs) : ∀ n,VRs ν (repL z n) ((List.replicate n vs).flatten)
 | 0=>VRs.nil_iff.2 rfl
 | n + 1=>by rw [List.replicate_succ,List.flatten_cons]; exact h.append (repL_ok h n)
theorem range_rep (z:Array Value) (n:Nat) : ∀ m,m = n * z.size → ((Array.range m).map (z[· % z.size]!)) = ((List.replicate n z.toList).flatten).toArray:=by
 intro m hm
 subst hm
 apply Array.ext
 ·simp
 ·intro i h1 h2
  simp only [Array.size_map,Array.size_range] at h1
  have hz : 0 < z.size:=by rcases Nat.eq_zero_or_pos z.size with h | h; · rw [h] at h1; omega
                           ·exact h
  have hi : i % z.size < z.size:=Nat.mod_lt _ hz
  simp only [Array.getElem_map,Array.getElem_range,List.getElem_toArray]
  have key : ∀ (n i:Nat) (h:i < n * z.size),((List.replicate n z.toList).flatten)[i]? = some (z[i % z.size]'(Nat.mod_lt _ hz)):=by
   intro n
   induction n with
   | zero=>intro i h; omega
   | succ n ih =>
    intro i h
    rw [List.replicate_succ,List.flatten_cons]
    by_cases hiz : i < z.size
    ·rw [List.getElem?_append_left (by simpa using hiz)]
     simp [Nat.mod_eq_of_lt hiz,hiz]
    ·rw [List.getElem?_append_right (by simpa using hiz)]
     have:=ih (i - z.size) (by rw [Nat.succ_mul] at h; omega)
     simp only [Array.length_toList]
     rw [this]
     congr 2
     exact (Nat.mod_eq_sub_mod (by omega)).symm
  have hk:=key n i h1
  rw [List.getElem?_eq_getElem (by simpa using h2)] at hk
  rw [Option.some.inj hk]
  rw [getElem!_pos z _ hi]
theorem op_buildSlice {t elem:TypeId} {len n:Nat} {parts:Array (Nat × Operand)} {z cs:List LV} {a:Act} {ps:List (Nat × LV)} (hz:zeroL P elem = some z) (hn:sizeL P elem = some n) (hzn:z.length = n) (hu:P.underlying t = some (.slice elem)) (hps:partsL P T parts.toList = some ps)
  (hT:∀ x ∈ parts.toList,∀ l,opd P T x.2 = some l → VR ν l (a.eval x.2)) (hb:Below B w0 w) (hB:B ≤ w0.heap.size) (hν : ν nx = none) (hle:len * n ≤ 2 ^ 20) (h0:0 < n)
  (hcs:fillL (fun i=>some (i * n,n)) (repL z len) ps = some cs) (h:new1 nx elem true false cs (.slice nx 0 len len) [] = some out) :
  Gives P nB B w0 ν H nx out w (Instr.buildSlice t len (parts.map fun (i,x)=>(i,a.eval x))):=by
 obtain ⟨h1,rfl⟩:=new1_inv h
 obtain ⟨v,hv,hvs,_⟩:=run_zero (ν:=ν) hz
 obtain ⟨hlen,hpp⟩:=parts_ok hT hps
 have hq1 : ps.length = (parts.map fun (i,x)=>(i,a.eval x)).toList.length:=by simp [hlen]
 have hq2 : ∀ (i n:Nat) (l:LV),ps[i]? = some (n,l) → ∃ y,(parts.map fun (i,x)=>(i,a.eval x)).toList[i]? = some (n,y) ∧ VR ν l y:=fun i n l hi=>by
  obtain ⟨x,hx,hvx⟩:=hpp i n l hi
  exact ⟨a.eval x,by simp [hx],hvx⟩
 obtain ⟨ws,h2,h3⟩:=fill_ok hq1 hq2 (repL_ok hvs len) hcs
 have hvz : v.cells.size = n:=by have:=hvs.length; simp at this; omega
 refine gives_new (v':=.slice (some ⟨w.heap.size,0,none⟩) len len) (c:=ws.toArray) hν ?_ (by simpa using h3) h1 hb hB (by simp [VR,envNew])
 generalize (parts.map fun (i,x)=>(i,a.eval x)) = qs at h2 hq1 hq2 ⊢
 simp only [Instr.buildSlice,Sem.run_bind,run_underlying hu,Result.andThen_ok,run_sizeOf hn]
 rw [if_neg (by omega)]
 by_cases hl0 : len * n = 0
 ·have hl : len = 0:=by rcases Nat.mul_eq_zero.1 hl0 with h | h <;> omega
  subst hl
  have h2' : Instr.fill (fun i=>some (i * n,n)) #[] qs.toList = some ws.toArray:=by simpa using h2
  simp [newRow,h2',show Array.range 0 = #[] from rfl]
 ·rw [if_neg hl0]
  simp only [Sem.run_bind,hv,Result.andThen_ok,Sem.run_pure]
  rw [range_rep v.cells len (len * n) (by rw [hvz]),h2]
  simp [newRow]
theorem op_load {t:TypeId} {b off:Nat} {k:Blk} {l:LV} {foot:Option (List Nat)} {y:Value} (hx:VR ν (.ptr b off) y) (hk:H.get b = some k) (hl:partL P t k.cells off = some l) (hH:HRF ν H foot w) (hf:footHas foot b) (hb:Below B w0 w) :
  Gives P nB B w0 ν H nx ⟨l,[],nx,foot⟩ w (Instr.loadAt t y):=by
 obtain ⟨lc,h1,h2⟩:=hH b k hf hk
 simp only [VR] at hx
 obtain ⟨l',h3,rfl⟩:=hx
 rw [h1] at h3; cases h3
 obtain ⟨v,hv,hvv⟩:=loadVar_ok hl h2
 exact gives_val (v':=v) (by simp [Instr.loadAt,Instr.sureAddr,hv]) hvv hb
theorem below_setRow (hb:Below B w0 w) {g:Nat} (hg:B ≤ g) (c:Array Value) : Below B w0 (w.setRow g c) :=
 hb.trans ⟨rfl,rfl,rfl,by simp,fun k hk=>setRow_other w g k c (by omega)⟩
theorem store_ok {b off:Nat} {k:Blk} {l:List LV} {us:List Value} {lc:Loc} {foot:Option (List Nat)} {v:LV} {v':Value} (hbn:b < nx) (hnB:nB ≤ b) (hk:H.get b = some k) (hν : ν b = some lc) (hblk:BlkR ν lc k w.heap[lc.addr]?) (hlow:B ≤ lc.addr) (hus:VRs ν l us) (h1:l.all LV.isOne = true) (hfit:off + l.length ≤ k.cells.length) (hb:Below B w0 w) (hv:VR ν v v') :
  ∃ w',(storeCells ⟨lc.addr,lc.base + off,none⟩ us).run P w = .ok () w' ∧ OpPost nB B w0 ν ν H nx ⟨v,[(b,some ⟨k.elem,k.exact,k.mrk,putL k.cells off l⟩)],nx,foot⟩ w w' v':=by
 obtain ⟨c,fr,h2,h3,h4,⟨pre,vs,rest,h5,h0,h6⟩,h7,h8,h9⟩:=hblk
 have hul:=hus.length
 have hvl:=h6.length
 have hcl : c.size = pre.length + (vs.length + rest.length):=by have:=congrArg List.length h5; simpa using this
 have hr:=run_storeCells_ok (P:=P) lc.addr (lc.base + off) k.elem fr us 0 c w h2 (frz h8) (by omega) (hus.one h1)
 simp only [Nat.add_zero] at hr
 have hc' : (c.toList.take (lc.base + off) ++ us ++ c.toList.drop (lc.base + off + us.length)) = pre ++ ((vs.take off ++ us ++ vs.drop (off + us.length)) ++ rest):=by
  rw [h5,← h0,Nat.add_assoc,List.take_append,List.drop_append,List.take_of_length_le (Nat.le_add_right _ _),List.drop_of_length_le (Nat.le_add_right _ _),Nat.add_sub_cancel_left,Nat.add_sub_cancel_left,List.take_append_of_le_length (by omega),List.drop_append_of_le_length (by omega)]
  simp
 rw [hc'] at hr
 refine ⟨_,hr,post_set hbn hnB hk hν (setRow_heap w lc.addr c _ k.elem fr h2) (fun a ha=>setRow_other w _ _ _ ha) (by simp) ?_ ?_ h9 ?_ ⟨pre,_,rest,rfl,h0,h6.put hus hfit⟩ ?_ (below_setRow hb hlow _) hv⟩
 ·simp; omega
 ·exact h8.imp id (fun h=>by simp; omega)
 ·intro he; rw [putL_len _ _ _ hfit]; exact h4 he
 ·rw [putL_eq _ _ _ hfit]
  simp only [List.all_append,Bool.and_eq_true]
  refine ⟨⟨?_,h1⟩,?_⟩
  ·exact List.all_eq_true.2 fun x hx=>List.all_eq_true.1 h7 x (List.mem_of_mem_take hx)
  ·exact List.all_eq_true.2 fun x hx=>List.all_eq_true.1 h7 x (List.mem_of_mem_drop hx)
theorem op_store {t:TypeId} {b off n:Nat} {k:Blk} {x:LV} {y z:Value} {foot:Option (List Nat)} (hy:VR ν (.ptr b off) y) (hx:VR ν x z) (hn:sizeL P t = some n) (hnB:nB ≤ b) (hk:H.get b = some k) (hln:x.cells.length = n) (hfit:off + n ≤ k.cells.length) (h1:x.cells.all LV.isOne = true)
  (hH:HRF ν H foot w) (hlow:LowF nB B ν H foot) (hf:footHas foot b) (hid:b < nx) (hb:Below B w0 w) :
  ∃ w',(Instr.storeAt t y z).run P w = .ok () w' ∧ OpPost nB B w0 ν ν H nx ⟨.tup [],[(b,some ⟨k.elem,k.exact,k.mrk,putL k.cells off x.cells⟩)],nx,foot⟩ w w' undef:=by
 obtain ⟨lc,h2,h3⟩:=hH b k hf hk
 simp only [VR] at hy
 obtain ⟨l',h4,rfl⟩:=hy
 rw [h2] at h4; cases h4
 have hc:=hx.cells (fun ts e=>by subst e; simp [LV.cells,LV.isOne] at h1)
 obtain ⟨w',h5,h6⟩:=store_ok (P:=P) (off:=off) (v:=.tup []) (v':=undef) (foot:=foot) hid hnB hk h2 h3 (hlow b k lc hf hnB hk h2) hc h1 (by omega) hb (by simp [VR,VRs,undef])
 refine ⟨w',?_,h6⟩
 have hz : z.cells.size = n:=by have:=hc.length; simp at this; omega
 simp [Instr.storeAt,Instr.sureAddr,storeVar,run_sizeOf hn,hz,h5]
end
end Go.Proofs.YtjpfhhndjpdmoaaGreatDoor
