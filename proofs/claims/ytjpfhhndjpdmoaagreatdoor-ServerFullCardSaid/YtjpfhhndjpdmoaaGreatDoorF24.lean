/- Part of the proof: EvOr,EvJ,EvK. No conditions of its own. -/
import Derived.Test.YtjpfhhndjpdmoaaGreatDoorF23
namespace Go.Proofs.YtjpfhhndjpdmoaaGreatDoor
open Go.RowKit
set_option linter.unusedVariables false
set_option linter.unusedSimpArgs false

/-! ### values -/
def quads : List LV → Option (List Nat)
 | []=>some []
 | .v (.int .u64 (.ofNat a)) :: l=>if a < 18446744073709551616 then (quads l).map (a :: ·) else none
 | _=>none
theorem quads_ok {ν : Env} : ∀ {cs:List LV} {l:List Nat} {vs:List Value},quads cs = some l → VRs ν cs vs → vs = l.map Q ∧ ∀ x ∈ l,x < 18446744073709551616
 | [],l,vs,h,hv=>by simp only [quads,Option.some.injEq] at h; subst h; exact ⟨VRs.nil_iff.1 hv,fun x hx=>by cases hx⟩
 | c :: cs,l,vs,h,hv=>by
  obtain ⟨u,us,rfl,h2,h3⟩:=VRs.cons_iff.1 hv
  unfold quads at h
  split at h
  ·rename_i e; cases e
  ·rename_i a l' e
   cases e
   split at h
   ·rename_i ha
    simp only [Option.map_eq_some_iff] at h
    obtain ⟨q,h4,rfl⟩:=h
    obtain ⟨h5,h6⟩:=quads_ok h4 h3
    simp only [VR] at h2
    refine ⟨by rw [h2.1,h5]; rfl,fun x hx=>?_⟩
    rcases List.mem_cons.1 hx with rfl | hx
    ·exact ha
    ·exact h6 x hx
   ·cases h
  ·cases h
def numQ (cs:List LV) : Option Nat:=match quads cs with
 | some [a,b,c,d]=>some (a + 18446744073709551616 * b + 340282366920938463463374607431768211456 * c + 6277101735386680763835789423207666416102355444464034512896 * d)
 | _=>none
theorem numQ_ok {ν : Env} {cs:List LV} {x:Nat} {vs:List Value} (h:numQ cs = some x) (hv:VRs ν cs vs) : vs.toArray = AQ (nL x) ∧ x < R256:=by
 unfold numQ at h
 split at h
 ·rename_i a b c d hq
  obtain ⟨h1,h2⟩:=quads_ok hq hv
  have ha:=h2 a (by simp)
  have hb:=h2 b (by simp)
  have hc:=h2 c (by simp)
  have hd:=h2 d (by simp)
  cases h
  refine ⟨?_,by unfold R256; omega⟩
  subst h1
  have e0 : lim (a + 18446744073709551616 * b + 340282366920938463463374607431768211456 * c + 6277101735386680763835789423207666416102355444464034512896 * d) 0 = a:=by unfold lim; simp only [Nat.pow_zero]; omega
  have e1 : lim (a + 18446744073709551616 * b + 340282366920938463463374607431768211456 * c + 6277101735386680763835789423207666416102355444464034512896 * d) 1 = b:=by unfold lim; simp only [Nat.pow_one]; omega
  have e2 : lim (a + 18446744073709551616 * b + 340282366920938463463374607431768211456 * c + 6277101735386680763835789423207666416102355444464034512896 * d) 2 = c:=by unfold lim; simp only [Nat.reducePow]; omega
  have e3 : lim (a + 18446744073709551616 * b + 340282366920938463463374607431768211456 * c + 6277101735386680763835789423207666416102355444464034512896 * d) 3 = d:=by unfold lim; simp only [Nat.reducePow]; omega
  unfold nL AQ
  rw [e0,e1,e2,e3]
 ·cases h
def numLV (x:Nat) : LV:=.agg ((nL x).map fun (q:Nat)=>LV.v (.int .u64 (q:Int)))
theorem ints_ok {ν : Env} : ∀ (l:List Nat),VRs ν (l.map fun (q:Nat)=>LV.v (.int .u64 (q:Int))) (l.map Q)
 | []=>VRs.nil_iff.2 rfl
 | q :: l=>VRs.cons_iff.2 ⟨_,_,rfl,by simp [VR,plainV],ints_ok l⟩
theorem numLV_ok {ν : Env} (x:Nat) : VR ν (numLV x) (.agg (AQ (nL x))):=by
 simp only [numLV,VR]
 exact ⟨(nL x).map Q,rfl,ints_ok _⟩
def bytes8 : List LV → Option (List UInt8)
 | []=>some []
 | .v (.int .u8 (.ofNat n)) :: l=>if n < 256 then (bytes8 l).map (UInt8.ofNat n :: ·) else none
 | _=>none
theorem bytes8_ok {ν : Env} : ∀ {cs:List LV} {l:List UInt8} {vs:List Value},bytes8 cs = some l → VRs ν cs vs → vs = l.map B
 | [],l,vs,h,hv=>by simp only [bytes8,Option.some.injEq] at h; subst h; exact VRs.nil_iff.1 hv
 | c :: cs,l,vs,h,hv=>by
  obtain ⟨u,us,rfl,h2,h3⟩:=VRs.cons_iff.1 hv
  unfold bytes8 at h
  split at h
  ·rename_i e; cases e
  ·rename_i a l' e
   cases e
   split at h
   ·rename_i ha
    simp only [Option.map_eq_some_iff] at h
    obtain ⟨q,h4,rfl⟩:=h
    have h5:=bytes8_ok h4 h3
    simp only [VR] at h2
    rw [h2.1,h5]
    simp only [List.map_cons]
    congr 1
    simp [UInt8.toNat_ofNat,Nat.mod_eq_of_lt ha]
   ·cases h
  ·cases h
def bytesLV (l:List UInt8) : LV:=.agg (l.map fun b=>.v (.int .u8 b.toNat))
theorem bytesLV_ok {ν : Env} (l:List UInt8) : VR ν (bytesLV l) (.agg (AB l)):=by
 simp only [bytesLV,VR]
 exact ⟨l.map B,rfl,bytes_vrs l⟩
def sliceB (H:Hp) : LV → Option (List UInt8)
 | .v (.slice none 0 0)=>some []
 | .slice b off len cap=>if len ≤ cap ∧ cap ≤ maxLen then match H.get b with
  | some k=>let l:=(k.cells.drop off).take len; if l.length = len then bytes8 l else none
  | none=>none else none
 | .buf b off len e=>if e = 1 then match H.get b with
  | some k=>let l:=(k.cells.drop off).take len; if l.length = len then bytes8 l else none
  | none=>none else none
 | _=>none
def partsB (H:Hp) : List LV → Option (List (List UInt8))
 | []=>some []
 | x :: l=>match sliceB H x with
  | some p=>(partsB H l).map (p :: ·)
  | none=>none
def rowsB (H:Hp) : LV → Option (List (List UInt8))
 | .slice b off len _=>match H.get b with
  | some k=>let l:=(k.cells.drop off).take len; if l.length = len then partsB H l else none
  | none=>none
 | .buf b off len _=>match H.get b with
  | some k=>let l:=(k.cells.drop off).take len; if l.length = len then partsB H l else none
  | none=>none
 | .v (.slice none 0 0)=>some []
 | _=>none
section
variable {ν : Env} {H:Hp} {w:World}
theorem slB_cells {l:List UInt8} {us:List Value} {bl off cap:Nat} (hu:us = l.map B) (hc:∀ (j:Nat) (v:Value),us[j]? = some v → w.cell? ⟨bl,off + j,none⟩ = some v) (h1:l.length ≤ cap) (h2:cap ≤ maxLen) : SlB w (.slice (some ⟨bl,off,none⟩) l.length cap) l:=by
 refine ⟨_,cap,rfl,h1,h2,(fun h=>by cases h),fun ad had=>?_⟩
 obtain rfl:=Option.some.inj had
 refine ⟨rfl,fun i hi=>hc i _ ?_⟩
 rw [hu,List.getElem?_map,List.getElem?_eq_getElem hi]
 simp [gb,List.getD,List.getElem?_eq_getElem hi]
theorem sliceB_ok (hH:HRF ν H none w) {x:LV} {v:Value} {l:List UInt8} (h:sliceB H x = some l) (hv:VR ν x v) : SlB w v l ∧ ∀ ad,addrV v = some ad → ad.block < w.heap.size:=by
 cases x with
 | v x =>
  simp only [VR] at hv
  obtain ⟨rfl,_⟩:=hv
  unfold sliceB at h
  split at h
  ·rename_i e
   cases e; cases h
   exact ⟨⟨none,0,rfl,Nat.le_refl _,Nat.zero_le _,fun _=>rfl,fun _ h=>by cases h⟩,fun _ h=>by cases h⟩
  all_goals first | (rename_i e; cases e) | (cases h)
 | slice b off len cap =>
  simp only [VR] at hv
  obtain ⟨lc,h1,rfl⟩:=hv
  simp only [sliceB] at h
  split at h
  ·rename_i hc
   split at h
   ·rename_i k hk
    split at h
    ·rename_i hl
     obtain ⟨lc',g1,g2⟩:=hH b k trivial hk
     rw [h1] at g1; cases g1
     obtain ⟨us,h3,h4,h5⟩:=g2.stretch off len hl
     have h6:=bytes8_ok h h4
     have h7 : l.length = len:=by rw [← h3,h6]; simp
     subst h7
     exact ⟨slB_cells h6 h5 hc.1 hc.2,fun ad had=>by obtain rfl:=Option.some.inj had; exact g2.heap⟩
    ·cases h
   ·cases h
  ·cases h
 | buf b off len e =>
  simp only [VR] at hv
  obtain ⟨lc,c,h1,rfl,h8,h9,h10⟩:=hv
  simp only [sliceB] at h
  split at h
  ·rename_i hc
   split at h
   ·rename_i k hk
    split at h
    ·rename_i hl
     obtain ⟨lc',g1,g2⟩:=hH b k trivial hk
     rw [h1] at g1; cases g1
     obtain ⟨us,h3,h4,h5⟩:=g2.stretch off len hl
     have h6:=bytes8_ok h h4
     have h7 : l.length = len:=by rw [← h3,h6]; simp
     subst h7
     exact ⟨slB_cells h6 h5 h8 (by unfold maxLen; omega),fun ad had=>by obtain rfl:=Option.some.inj had; exact g2.heap⟩
    ·cases h
   ·cases h
  ·cases h
 | _=>simp [sliceB] at h
theorem partsB_ok (hH:HRF ν H none w) : ∀ {cs:List LV} {ps:List (List UInt8)} {us:List Value},partsB H cs = some ps → VRs ν cs us → us.length = ps.length ∧ ∀ (i:Nat) (p:List UInt8),ps[i]? = some p → ∃ v,us[i]? = some v ∧ SlB w v p ∧ ∀ ad,addrV v = some ad → ad.block < w.heap.size
 | [],ps,us,h,hv=>by simp only [partsB,Option.some.injEq] at h; subst h; rw [VRs.nil_iff.1 hv]; simp
 | c :: cs,ps,us,h,hv=>by
  obtain ⟨u,us',rfl,h2,h3⟩:=VRs.cons_iff.1 hv
  simp only [partsB] at h
  split at h
  ·rename_i p hp
   simp only [Option.map_eq_some_iff] at h
   obtain ⟨q,h4,rfl⟩:=h
   obtain ⟨h5,h6⟩:=partsB_ok hH h4 h3
   refine ⟨by simp [h5],fun i p' hi=>?_⟩
   cases i with
   | zero=>simp at hi; subst hi; exact ⟨u,rfl,sliceB_ok hH hp h2⟩
   | succ i=>simpa using h6 i p' (by simpa using hi)
  ·cases h
theorem rowsB_ok (hH:HRF ν H none w) {x:LV} {v:Value} {ps:List (List UInt8)} (h:rowsB H x = some ps) (hv:VR ν x v) : PartsW w (fun k=>w.heap.size ≤ k) v ps:=by
 have key : ∀ (b off len c:Nat) (lc:Loc) (k:Blk),ν b = some lc → H.get b = some k → ((k.cells.drop off).take len).length = len → partsB H ((k.cells.drop off).take len) = some ps → PartsW w (fun k=>w.heap.size ≤ k) (.slice (some ⟨lc.addr,lc.base + off,none⟩) len c) ps:=by
  intro b off len c lc k h1 hk hl hp
  obtain ⟨lc',g1,g2⟩:=hH b k trivial hk
  rw [h1] at g1; cases g1
  obtain ⟨us,h3,h4,h5⟩:=g2.stretch off len hl
  obtain ⟨h6,h7⟩:=partsB_ok hH hp h4
  have h8 : len = ps.length:=by omega
  subst h8
  refine ⟨_,c,rfl,fun i p hi=>?_⟩
  obtain ⟨u,q1,q2,q3⟩:=h7 i p hi
  exact ⟨lc.addr,lc.base + off,u,rfl,h5 i u q1,by have:=g2.heap; omega,q2,fun ad had=>by have:=q3 ad had; omega⟩
 cases x with
 | slice b off len cap =>
  simp only [VR] at hv
  obtain ⟨lc,h1,rfl⟩:=hv
  simp only [rowsB] at h
  split at h
  ·rename_i k hk
   split at h
   ·rename_i hl
    exact key b off len cap lc k h1 hk hl h
   ·cases h
  ·cases h
 | buf b off len e =>
  simp only [VR] at hv
  obtain ⟨lc,c,h1,rfl,_⟩:=hv
  simp only [rowsB] at h
  split at h
  ·rename_i k hk
   split at h
   ·rename_i hl
    exact key b off len c lc k h1 hk hl h
   ·cases h
  ·cases h
 | v y =>
  unfold rowsB at h
  split at h
  ·rename_i e; cases e
  ·rename_i e; cases e
  ·rename_i e
   cases e
   cases h
   simp only [VR] at hv
   obtain ⟨rfl,_⟩:=hv
   exact ⟨none,0,rfl,fun i p hi=>by simp at hi⟩
  ·cases h
 | _=>simp [rowsB] at h
end
/-! ### the contracts -/
section
variable {nB:Nat} {w0:World}
theorem orc_val {f:FuncId} {args:List LV} {H:Hp} {nx:Nat} {v:LV} (hfn:FnHas Tryz.prog f)
  (hcall:∀ (ν : Env) (vs:List Value) (w:World),VRs ν args vs → HRF ν H none w → Below w0.heap.size w0 w → ∃ v',VR ν v v' ∧ Calls Tryz.prog f vs.toArray w (fun e w'=>e = .returned v' ∧ Below w.heap.size w w')) :
  FnHas Tryz.prog f ∧ (⟨v,[],nx,none⟩ : Out).foot = none ∧ ∀ (ν : Env) (vs:List Value) (w:World),(∀ i,nx ≤ i → i < (⟨v,[],nx,none⟩ : Out).nx → ν i = none) → VRs ν args vs → HRF ν H none w → LowF nB w0.heap.size ν H none → InjH ν H → (∀ i k,H.get i = some k → i < nx) → GlobE Tryz.prog ν → Below w0.heap.size w0 w →
   Calls Tryz.prog f vs.toArray w (fun e w'=>∃ v' ν',e = .returned v' ∧ OpPost nB w0.heap.size w0 ν ν' H nx ⟨v,[],nx,none⟩ w w' v'):=by
 refine ⟨hfn,rfl,fun ν vs w _ hvs hH _ _ _ _ hb=>?_⟩
 obtain ⟨v',hv,hc⟩:=hcall ν vs w hvs hH hb
 refine hc.mono ?_
 rintro e w' ⟨rfl,hB⟩
 have hp:=post_val (nB:=nB) (H:=H) (nx:=nx) (foot:=none) hv (hb.trans (hB.mono hb.size))
 refine ⟨v',ν,rfl,hp.ext,hp.val,fun i k h=>by simp [dget] at h,fun a ha _=>hB.block a ha,fun i k l _ h=>by simp [dget] at h,fun i j ki kj li lj _ _ h=>by simp [dget] at h,fun i _ h=>by simp [dget] at h,fun i _ h=>by simp [dget] at h,hp.below,hB.size⟩
end
def hofO : List LV → Hp → Nat → Option Out:=fun args H nx=>match args with
 | [x]=>match rowsB H x with
  | some ps=>if ps.flatten.length ≤ 1000000 ∧ ps.length ≤ 1000 then some ⟨bytesLV (shaS ps.flatten),[],nx,none⟩ else none
  | none=>none
 | _=>none
def mofO : List LV → Hp → Nat → Option Out:=fun args H nx=>match args with
 | [k,x]=>match sliceB H k,rowsB H x with
  | some key,some ps=>if key.length ≤ 64 ∧ ps.flatten.length ≤ 900000 ∧ ps.length ≤ 1000 then some ⟨bytesLV (macS key ps.flatten),[],nx,none⟩ else none
  | _,_=>none
 | _=>none
def ofO : List LV → Hp → Nat → Option Out:=fun args H nx=>match args with
 | [.agg cs]=>match bytes8 cs with
  | some l=>if l.length = 32 then some ⟨numLV (natB l),[],nx,none⟩ else none
  | none=>none
 | _=>none
def bytesO : List LV → Hp → Nat → Option Out:=fun args H nx=>match args with
 | [.agg cs]=>match numQ cs with
  | some x=>some ⟨bytesLV (be32 x),[],nx,none⟩
  | none=>none
 | _=>none
def modAt (H:Hp) (b:Nat) : Option (Nat × Nat):=match H.get b with
 | some k=>if k.elem = 260 ∧ k.mrk = false ∧ k.exact = true then match quads k.cells with
  | some l=>if l = modL P256 (negN P256) then some (P256,RIP) else if l = modL N256 (negN N256) then some (N256,RIN) else none
  | none=>none else none
 | none=>none
def twoO (op:Nat → Nat → Nat → Nat) : List LV → Hp → Nat → Option Out:=fun args H nx=>match args with
 | [.ptr b 0,.agg xs,.agg ys]=>match modAt H b,numQ xs,numQ ys with
  | some (m,_),some x,some y=>some ⟨numLV (op m x y),[],nx,none⟩
  | _,_,_=>none
 | _=>none
def restO : List LV → Hp → Nat → Option Out:=fun args H nx=>match args with
 | [.ptr b 0,.agg xs]=>match modAt H b,numQ xs with
  | some (m,_),some x=>some ⟨numLV (x % m),[],nx,none⟩
  | _,_=>none
 | _=>none
def invO : List LV → Hp → Nat → Option Out:=fun args H nx=>match args with
 | [.ptr b 0,.agg xs]=>match modAt H b,numQ xs with
  | some (m,_),some x=>if (invI m x).u = 0 ∧ (invI m x).v = 1 then some ⟨.tup [numLV (invI m x).y,goI 0],[],nx,none⟩ else none
  | _,_=>none
 | _=>none
def timesO : List LV → Hp → Nat → Option Out:=fun args H nx=>match args with
 | [.agg ks,.agg ps]=>match bytes8 ks,bytes8 ps with
  | some lk,some lp=>let la:=lp.take 32; let lb:=lp.drop 32
   if lk.length = 32 ∧ lp.length = 64 ∧ natB la < P256 ∧ natB lb < P256 ∧ mulM P256 (natB lb) (natB lb) = addM P256 (mulM P256 (subM P256 (mulM P256 (natB la) (natB la)) 3) (natB la)) B256 then
    let fin:=timesF P256 ⟨natB la,natB lb,1⟩ (natB lk) 256 T3.o
    if (invI P256 fin.z).u = 0 ∧ (invI P256 fin.z).v = 1 then some ⟨bytesLV (be32 (dropS P256 fin).1 ++ be32 (dropS P256 fin).2),[],nx,none⟩ else none
   else none
  | _,_=>none
 | _=>none
def newO : List LV → Hp → Nat → Option Out:=fun args H nx=>match args with
 | [.agg cs]=>match numQ cs with
  | some x=>if x = P256 then some ⟨.tup [.ptr nx 0,goI 0],[(nx,some ⟨260,true,false,(modL P256 (negN P256)).map fun (q:Nat)=>LV.v (.int .u64 (q:Int))⟩)],nx + 1,none⟩
   else if x = N256 then some ⟨.tup [.ptr nx 0,goI 0],[(nx,some ⟨260,true,false,(modL N256 (negN N256)).map fun (q:Nat)=>LV.v (.int .u64 (q:Int))⟩)],nx + 1,none⟩ else none
  | none=>none
 | _=>none
def lessO : List LV → Hp → Nat → Option Out:=fun args H nx=>match args with
 | [.agg xs,.agg ys]=>match numQ xs,numQ ys with
  | some x,some y=>some ⟨.v (.bool (decide (x < y))),[],nx,none⟩
  | _,_=>none
 | _=>none
def nonV (sec h:List UInt8) : List UInt8 :=
 let k1:=macS zer32 (ones32 ++ [0] ++ sec ++ h)
 let v1:=macS k1 ones32
 let k2:=macS k1 (v1 ++ [1] ++ sec ++ h)
 macS k2 (macS k2 v1)
theorem nonV_eq (sec h:List UInt8) : nonV sec h = macS (nkv sec h 2).1 (nkv sec h 2).2:=rfl
def nonO : List LV → Hp → Nat → Option Out:=fun args H nx=>match args with
 | [.agg xs,.agg ys]=>match bytes8 xs,bytes8 ys with
  | some sec,some sum=>if sec.length = 32 ∧ sum.length = 32 ∧ (nonV sec (be32 (natB sum % N256)) == zer32) = false ∧ natB (nonV sec (be32 (natB sum % N256))) < N256 then some ⟨bytesLV (nonV sec (be32 (natB sum % N256))),[],nx,none⟩ else none
  | _,_=>none
 | _=>none
def lkO : List (FuncId × (List LV → Hp → Nat → Option Out)) → Orc
 | [],_=>none
 | (a,g) :: l,f=>if f = a then some g else lkO l f
def tabB : List (FuncId × (List LV → Hp → Nat → Option Out)):=[
 (95,twoO fun m x y=>x * y % m),
 (96,twoO fun m x y=>(x + y) % m),
 (150,twoO fun m x y=>(x % m + m - y % m) % m),
 (92,restO),
 (93,ofO),
 (97,bytesO),
 (100,hofO),
 (145,mofO),
 (143,newO),
 (94,invO),
 (84,timesO),
 (91,nonO),
 (132,lessO)]
def orcB : Orc:=lkO tabB
section
variable {nB:Nat} {w0:World}
theorem val_inv {v:LV} {nx:Nat} {out:Out} (h:some (⟨v,[],nx,none⟩ : Out) = some out) : out = ⟨v,[],nx,none⟩:=(Option.some.inj h).symm
theorem one_val {ν : Env} {x:LV} {vs:List Value} (h:VRs ν [x] vs) : ∃ v,vs = [v] ∧ VR ν x v:=by
 obtain ⟨u,us,rfl,h2,h3⟩:=VRs.cons_iff.1 h
 rw [VRs.nil_iff.1 h3]
 exact ⟨u,rfl,h2⟩
theorem two_val {ν : Env} {x y:LV} {vs:List Value} (h:VRs ν [x,y] vs) : ∃ v u,vs = [v,u] ∧ VR ν x v ∧ VR ν y u:=by
 obtain ⟨u,us,rfl,h2,h3⟩:=VRs.cons_iff.1 h
 obtain ⟨v,rfl,h4⟩:=one_val h3
 exact ⟨u,v,rfl,h2,h4⟩
theorem three_val {ν : Env} {x y z:LV} {vs:List Value} (h:VRs ν [x,y,z] vs) : ∃ v u t,vs = [v,u,t] ∧ VR ν x v ∧ VR ν y u ∧ VR ν z t:=by
 obtain ⟨u,us,rfl,h2,h3⟩:=VRs.cons_iff.1 h
 obtain ⟨v,t,rfl,h4,h5⟩:=two_val h3
 exact ⟨u,v,t,rfl,h2,h4,h5⟩
theorem agg_num {ν : Env} {cs:List LV} {x:Nat} {v:Value} (h:numQ cs = some x) (hv:VR ν (.agg cs) v) : v = .agg (AQ (nL x)) ∧ x < R256:=by
 simp only [VR] at hv
 obtain ⟨us,rfl,hv⟩:=hv
 obtain ⟨h1,h2⟩:=numQ_ok h hv
 exact ⟨by rw [h1],h2⟩
theorem agg_bytes {ν : Env} {cs:List LV} {l:List UInt8} {v:Value} (h:bytes8 cs = some l) (hv:VR ν (.agg cs) v) : v = .agg (AB l):=by
 simp only [VR] at hv
 obtain ⟨us,rfl,hv⟩:=hv
 rw [bytes8_ok h hv]
 all_goals rfl
theorem modAt_ok {ν : Env} {H:Hp} {w:World} {b m ri:Nat} {v:Value} (hH:HRF ν H none w) (h:modAt H b = some (m,ri)) (hv:VR ν (.ptr b 0) v) : ∃ g neg,v = .pointer (some ⟨g,0,none⟩) ∧ ModW w g m neg ri:=by
 simp only [VR] at hv
 obtain ⟨lc,h1,rfl⟩:=hv
 unfold modAt at h
 split at h
 ·rename_i k hk
  split at h
  ·rename_i hc
   split at h
   ·rename_i l hq
    obtain ⟨lc',g1,g2⟩:=hH b k trivial hk
    rw [h1] at g1; cases g1
    obtain ⟨c,fr,q1,q2,q3,⟨pre,vs,rest,q4,q40,q5⟩,q6,q7,q8⟩:=g2
    obtain ⟨q31,q32⟩:=q3 hc.2.2
    obtain rfl : pre = []:=List.eq_nil_of_length_eq_zero (by rw [q40,q32])
    obtain ⟨e1,_⟩:=quads_ok hq q5
    have hr : rest = []:=by
     have e3:=q5.length
     have e4 : c.size = vs.length + rest.length:=by have:=congrArg List.length q4; simpa using this
     exact List.eq_nil_of_length_eq_zero (by omega)
    subst hr
    have hcs : c = AQ l:=by
     apply Array.ext'
     rw [q4,e1]
     simp [AQ]
    have hfr:=q8 hc.2.1
    subst hfr
    rw [hcs,hc.1] at q1
    split at h
    ·rename_i hl
     cases h
     exact ⟨lc.addr,negN P256,by rw [q32],⟨.of_heap (by rw [q1,hl]; rfl),md_P⟩⟩
    ·split at h
     ·rename_i hl
      cases h
      exact ⟨lc.addr,negN N256,by rw [q32],⟨.of_heap (by rw [q1,hl]; rfl),md_N⟩⟩
     ·cases h
   ·cases h
  ·cases h
 ·cases h
def OneOk (nB:Nat) (w0:World) (f:FuncId) (g:List LV → Hp → Nat → Option Out) : Prop:=∀ args H nx out,g args H nx = some out → FnHas Tryz.prog f ∧ out.foot = none ∧ ∀ (ν : Env) (vs:List Value) (w:World),(∀ i,nx ≤ i → i < out.nx → ν i = none) → VRs ν args vs → HRF ν H none w → LowF nB w0.heap.size ν H none → InjH ν H → (∀ i k,H.get i = some k → i < nx) → GlobE Tryz.prog ν → Below w0.heap.size w0 w →
   Calls Tryz.prog f vs.toArray w (fun e w'=>∃ v' ν',e = .returned v' ∧ OpPost nB w0.heap.size w0 ν ν' H nx out w w' v')
theorem two_ok {f:FuncId} {op:Nat → Nat → Nat → Nat} (hfn:FnHas Tryz.prog f) (hc:∀ (w:World) (g m neg ri a b:Nat),ModW w g m neg ri → a < R256 → b < R256 → Calls Tryz.prog f #[.pointer (some ⟨g,0,none⟩),.agg (AQ (nL a)),.agg (AQ (nL b))] w fun e w'=>e = .returned (.agg (AQ (nL (op m a b)))) ∧ Below w.heap.size w w') : OneOk nB w0 f (twoO op):=by
 intro args H nx out h
 unfold twoO at h
 split at h
 ·rename_i b xs ys
  split at h
  ·rename_i m ri x y hm hx hy
   rw [val_inv h]
   refine orc_val hfn (fun ν vs w hvs hH hb=>?_)
   obtain ⟨v1,v2,v3,rfl,h1,h2,h3⟩:=three_val hvs
   obtain ⟨g,neg,rfl,hM⟩:=modAt_ok hH hm h1
   obtain ⟨rfl,hx'⟩:=agg_num hx h2
   obtain ⟨rfl,hy'⟩:=agg_num hy h3
   exact ⟨_,numLV_ok _,hc w g m neg ri x y hM hx' hy'⟩
  ·cases h
 ·cases h
theorem rest_ok : OneOk nB w0 92 restO:=by
 intro args H nx out h
 unfold restO at h
 split at h
 ·rename_i b xs
  split at h
  ·rename_i m ri x hm hx
   rw [val_inv h]
   refine orc_val ⟨_,Tryz.func92,by kernel_rfl,by kernel_rfl⟩ (fun ν vs w hvs hH hb=>?_)
   obtain ⟨v1,v2,rfl,h1,h2⟩:=two_val hvs
   obtain ⟨g,neg,rfl,hM⟩:=modAt_ok hH hm h1
   obtain ⟨rfl,hx'⟩:=agg_num hx h2
   exact ⟨_,numLV_ok _,rest_any w g m neg ri x hM hx'⟩
  ·cases h
 ·cases h
theorem inv_ok : OneOk nB w0 94 invO:=by
 intro args H nx out h
 unfold invO at h
 split at h
 ·rename_i b xs
  split at h
  ·rename_i m ri x hm hx
   split at h
   ·rename_i hc
    rw [val_inv h]
    refine orc_val ⟨_,Tryz.func94,by kernel_rfl,by kernel_rfl⟩ (fun ν vs w hvs hH hb=>?_)
    obtain ⟨v1,v2,rfl,h1,h2⟩:=two_val hvs
    obtain ⟨g,neg,rfl,hM⟩:=modAt_ok hH hm h1
    obtain ⟨rfl,hx'⟩:=agg_num hx h2
    refine ⟨_,?_,inv_any hM hx' hc.1 hc.2⟩
    simp only [VR]
    exact ⟨_,rfl,VRs.cons_iff.2 ⟨_,_,rfl,numLV_ok _,VRs.cons_iff.2 ⟨_,_,rfl,by simp [goI,VR,plainV],VRs.nil_iff.2 rfl⟩⟩⟩
   ·cases h
  ·cases h
 ·cases h
theorem of_ok : OneOk nB w0 93 ofO:=by
 intro args H nx out h
 unfold ofO at h
 split at h
 ·rename_i cs
  split at h
  ·rename_i l hl
   split at h
   ·rename_i hc
    rw [val_inv h]
    refine orc_val ⟨_,Tryz.func93,by kernel_rfl,by kernel_rfl⟩ (fun ν vs w hvs hH hb=>?_)
    obtain ⟨v1,rfl,h1⟩:=one_val hvs
    obtain rfl:=agg_bytes hl h1
    exact ⟨_,numLV_ok _,of_any w l hc⟩
   ·cases h
  ·cases h
 ·cases h
theorem bytes_ok : OneOk nB w0 97 bytesO:=by
 intro args H nx out h
 unfold bytesO at h
 split at h
 ·rename_i cs
  split at h
  ·rename_i x hx
   rw [val_inv h]
   refine orc_val ⟨_,Tryz.func97,by kernel_rfl,by kernel_rfl⟩ (fun ν vs w hvs hH hb=>?_)
   obtain ⟨v1,rfl,h1⟩:=one_val hvs
   obtain ⟨rfl,_⟩:=agg_num hx h1
   exact ⟨_,bytesLV_ok _,bytes_any w x⟩
  ·cases h
 ·cases h
theorem hof_ok (hW:HashW w0) : OneOk nB w0 100 hofO:=by
 intro args H nx out h
 unfold hofO at h
 split at h
 ·rename_i x
  split at h
  ·rename_i ps hps
   split at h
   ·rename_i hc
    rw [val_inv h]
    refine orc_val ⟨_,Tryz.func100,by kernel_rfl,by kernel_rfl⟩ (fun ν vs w hvs hH hb=>?_)
    obtain ⟨v1,rfl,h1⟩:=one_val hvs
    exact ⟨_,bytesLV_ok _,hof_any w v1 ps (hW.below hb) (rowsB_ok hH hps h1) hc.1 hc.2⟩
   ·cases h
  ·cases h
 ·cases h
theorem mof_ok (hW:HashW w0) : OneOk nB w0 145 mofO:=by
 intro args H nx out h
 unfold mofO at h
 split at h
 ·rename_i k x
  split at h
  ·rename_i key ps hk hps
   split at h
   ·rename_i hc
    rw [val_inv h]
    refine orc_val ⟨_,Tryz.func145,by kernel_rfl,by kernel_rfl⟩ (fun ν vs w hvs hH hb=>?_)
    obtain ⟨v1,v2,rfl,h1,h2⟩:=two_val hvs
    exact ⟨_,bytesLV_ok _,mof_any w v1 v2 key ps (hW.below hb) (sliceB_ok hH hk h1).1 hc.1 (rowsB_ok hH hps h2) hc.2.1 hc.2.2⟩
   ·cases h
  ·cases h
 ·cases h
theorem less_ok : OneOk nB w0 132 lessO:=by
 intro args H nx out h
 unfold lessO at h
 split at h
 ·rename_i xs ys
  split at h
  ·rename_i x y hx hy
   rw [val_inv h]
   refine orc_val ⟨_,Tryz.func132,by kernel_rfl,by kernel_rfl⟩ (fun ν vs w hvs hH hb=>?_)
   obtain ⟨v1,v2,rfl,h1,h2⟩:=two_val hvs
   obtain ⟨rfl,hx'⟩:=agg_num hx h1
   obtain ⟨rfl,hy'⟩:=agg_num hy h2
   exact ⟨_,by simp [VR,plainV],nless_any w x y hx' hy'⟩
  ·cases h
 ·cases h
theorem non_ok (hW:HashW w0) (hC:CurveW w0) : OneOk nB w0 91 nonO:=by
 intro args H nx out h
 unfold nonO at h
 split at h
 ·rename_i xs ys
  split at h
  ·rename_i sec sum hx hy
   split at h
   ·rename_i hc
    obtain ⟨h1,h2,h3,h4⟩:=hc
    rw [val_inv h]
    refine orc_val ⟨_,Tryz.func91,by kernel_rfl,by kernel_rfl⟩ (fun ν vs w hvs hH hb=>?_)
    obtain ⟨v1,v2,rfl,g1,g2⟩:=two_val hvs
    obtain rfl:=agg_bytes hx g1
    obtain rfl:=agg_bytes hy g2
    rw [nonV_eq] at h3 h4 ⊢
    exact ⟨_,bytesLV_ok _,nonce_first (hC.below hb).rOrder (by decide +kernel) mk_N (hW.below hb) (by decide +kernel) h1 h2 h3 h4⟩
   ·cases h
  ·cases h
 ·cases h
theorem times_ok (hC:CurveW w0) : OneOk nB w0 84 timesO:=by
 intro args H nx out h
 unfold timesO at h
 split at h
 ·rename_i ks ps
  split at h
  ·rename_i lk lp hk hp
   simp only at h
   split at h
   ·rename_i hc
    split at h
    ·rename_i hi
     obtain ⟨c1,c2,c3,c4,c5⟩:=hc
     rw [val_inv h]
     refine orc_val ⟨_,Tryz.func84,by kernel_rfl,by kernel_rfl⟩ (fun ν vs w hvs hH hb=>?_)
     obtain ⟨v1,v2,rfl,h1,h2⟩:=two_val hvs
     obtain rfl:=agg_bytes hk h1
     obtain rfl:=agg_bytes hp h2
     have hCw:=hC.below hb
     have:=times_gen md_P hCw.rPrime hCw.rCoeff (by decide +kernel) mk_P c1 (show (lp.take 32).length = 32 by simp; omega) (show (lp.drop 32).length = 32 by simp; omega) c3 c4 c5 rfl hi.1 hi.2
     rw [show ptC (lp.take 32) (lp.drop 32) = AB lp by unfold ptC; rw [List.take_append_drop]] at this
     exact ⟨_,bytesLV_ok _,this⟩
    ·cases h
   ·cases h
  ·cases h
 ·cases h
theorem new_ok : OneOk nB w0 143 newO:=by
 have key : ∀ (m ri nx:Nat) (H:Hp) (cs:List LV),numQ cs = some m → MdS m (negN m) ri → (∀ w,Calls Tryz.prog 143 #[.agg (AQ (nL m))] w fun e w'=>∃ g,e = .returned (.tuple #[.pointer (some ⟨g,0,none⟩),.int .i64 0]) ∧ ModW w' g m (negN m) ri ∧ w.heap.size ≤ g ∧ Below w.heap.size w w') →
   ∀ (ν : Env) (vs:List Value) (w:World),(∀ i,nx ≤ i → i < nx + 1 → ν i = none) → VRs ν [.agg cs] vs → Below w0.heap.size w0 w →
   Calls Tryz.prog 143 vs.toArray w (fun e w'=>∃ v' ν',e = .returned v' ∧ OpPost nB w0.heap.size w0 ν ν' H nx ⟨.tup [.ptr nx 0,goI 0],[(nx,some ⟨260,true,false,(modL m (negN m)).map fun (q:Nat)=>LV.v (.int .u64 (q:Int))⟩)],nx + 1,none⟩ w w' v'):=by
  intro m ri nx H cs hm hmd hmk ν vs w hν hvs hb
  obtain ⟨v1,rfl,h1⟩:=one_val hvs
  obtain ⟨rfl,_⟩:=agg_num hm h1
  refine (hmk w).mono ?_
  rintro e w' ⟨g,rfl,hM,hg,hB⟩
  have hνx : ν nx = none:=hν nx (Nat.le_refl _) (by omega)
  have hgl:=hM.row.lt
  refine ⟨_,envNew ν nx ⟨g,13,0⟩,rfl,fun i hi=>by unfold envNew; rw [if_neg (by simp at hi; omega)],?_,fun i k h=>?_,fun a ha _=>hB.block a ha,fun i k l hi h hl=>?_,fun i j ki kj li lj _ _ hi hj _ _ _=>?_,fun i hi h=>?_,fun i hi h=>?_,hb.trans (hB.mono hb.size),hB.size⟩
  ·simp only [VR]
   exact ⟨_,rfl,VRs.cons_iff.2 ⟨_,_,rfl,by simp only [VR]; exact ⟨_,envNew_self _,rfl⟩,VRs.cons_iff.2 ⟨_,_,rfl,by simp [goI,VR,plainV],VRs.nil_iff.2 rfl⟩⟩⟩
  ·simp only [dget] at h
   split at h
   ·rename_i e; subst e
    cases h
    exact ⟨_,envNew_self _,modC m (negN m),(0,0),hM.row.heap,rfl,fun _=>⟨rfl,rfl⟩,⟨[],(modL m (negN m)).map Q,[],by simp [modC,AQ],rfl,ints_ok _⟩,by simp [LV.isOne],.inl rfl,fun _=>rfl⟩
   ·cases h
  ·simp only [dget] at h
   split at h
   ·rename_i e; subst e
    rw [envNew_self] at hl; cases hl
    exact .inl hg
   ·cases h
  ·simp only [dget] at hi hj
   split at hi
   ·rename_i e1
    split at hj
    ·rename_i e2; rw [e1,e2]
    ·cases hj
   ·cases hi
  ·simp only [dget] at h
   split at h
   ·rename_i e; omega
   ·cases h
  ·simp only [dget] at h
   split at h
   ·rename_i e; show i < nx + 1; omega
   ·cases h
 intro args H nx out h
 unfold newO at h
 split at h
 ·rename_i cs
  split at h
  ·rename_i x hx
   split at h
   ·rename_i hxe
    subst hxe
    cases h
    exact ⟨⟨_,Tryz.func143,by kernel_rfl,by kernel_rfl⟩,rfl,fun ν vs w hν hvs _ _ _ _ _ hb=>key P256 RIP nx H cs hx md_P mk_P ν vs w hν hvs hb⟩
   ·split at h
    ·rename_i hxe
     subst hxe
     cases h
     exact ⟨⟨_,Tryz.func143,by kernel_rfl,by kernel_rfl⟩,rfl,fun ν vs w hν hvs _ _ _ _ _ hb=>key N256 RIN nx H cs hx md_N mk_N ν vs w hν hvs hb⟩
    ·cases h
  ·cases h
 ·cases h
def AllOk (nB:Nat) (w0:World) : List (FuncId × (List LV → Hp → Nat → Option Out)) → Prop
 | []=>True
 | (f,g) :: l=>OneOk nB w0 f g ∧ AllOk nB w0 l
theorem all_ok : ∀ {l:List (FuncId × (List LV → Hp → Nat → Option Out))},AllOk nB w0 l → OrcOk Tryz.prog nB w0.heap.size w0 (lkO l)
 | [],_=>fun f args H nx out _ h _=>by simp [lkO] at h
 | (a,g) :: l,h=>fun f args H nx out hob hh hn=>by
  by_cases e : f = a
  ·subst e
   simp only [lkO,if_true] at hh
   exact h.1 args H nx out hh
  ·simp only [lkO,if_neg e] at hh
   exact all_ok h.2 f args H nx out hob hh hn
theorem tabB_ok (hW:HashW w0) (hC:CurveW w0) : AllOk nB w0 tabB :=
 ⟨two_ok ⟨_,Tryz.func95,by kernel_rfl,by kernel_rfl⟩ mul_any,two_ok ⟨_,Tryz.func96,by kernel_rfl,by kernel_rfl⟩ add_any,two_ok ⟨_,Tryz.func150,by kernel_rfl,by kernel_rfl⟩ sub_any,
  rest_ok,of_ok,bytes_ok,hof_ok hW,mof_ok hW,new_ok,inv_ok,times_ok hC,non_ok hW hC,less_ok,trivial⟩
theorem orcB_ok (hW:HashW w0) (hC:CurveW w0) : OrcOk Tryz.prog nB w0.heap.size w0 orcB:=all_ok (tabB_ok hW hC)
end
theorem noH_lk : ∀ {l:List (FuncId × (List LV → Hp → Nat → Option Out))},(l.all fun p=>!Nat.ble OB p.1) = true → NoH (lkO l)
 | [],_=>fun f _=>rfl
 | (a,g) :: l,h=>fun f hf=>by
  simp only [List.all_cons,Bool.and_eq_true] at h
  have hne : f ≠ a:=fun e=>by subst e; rw [hf] at h; simp at h
  simp only [lkO,if_neg hne]
  exact noH_lk h.2 f hf
theorem noH_B : NoH orcB:=noH_lk (by kernel_rfl)
def orcC (f:FuncId) (args:List LV) (H:Hp) (nx:Nat) : Option Out:=match orcB f with | some g=>g args H nx | none=>none
end Go.Proofs.YtjpfhhndjpdmoaaGreatDoor

namespace Go.Proofs.YtjpfhhndjpdmoaaGreatDoor
set_option linter.unusedVariables false


def ej_move (P:Program) (nB:Nat) (T:Tr LV) (H:Hp) (nx:Nat) (x:Operand) : Option Out :=
 match opd P T x with | some a=>val1 nx a | none=>none

def ej_pick (P:Program) (nB:Nat) (T:Tr LV) (H:Hp) (nx:Nat) (c a b:Operand) : Option Out :=
 match opd P T c,opd P T a,opd P T b with
  | some (.v (.bool t)),some a,some b=>val1 nx (if t then a else b)
  | _,_,_=>none

def ej_alloc (P:Program) (nB:Nat) (T:Tr LV) (H:Hp) (nx:Nat) (t:TypeId) : Option Out :=
 match zeroL P t with | some z=>new1 nx t true false z (.ptr nx 0) [] | none=>none

def ej_box (P:Program) (nB:Nat) (T:Tr LV) (H:Hp) (nx:Nat) (t:TypeId) (x:Operand) : Option Out :=
 match opd P T x with | some a=>new1 nx t true false a.cells (.ptr nx 0) [] | none=>none

def ej_build (P:Program) (nB:Nat) (T:Tr LV) (H:Hp) (nx:Nat) (t:TypeId) (parts:Array (Nat × Operand)) : Option Out :=
 match zeroL P t,P.underlying t,partsL P T parts.toList with
  | some z,some (.struct fs),some ps=>match placesL P fs.toList with
   | some pl=>match fillL (fun i=>pl[i]?) z ps with | some cs=>val1 nx (.agg cs) | none=>none
   | none=>none
  | some z,some (.array _ elem),some ps=>match sizeL P elem with
   | some n=>match fillL (fun i=>some (i * n,n)) z ps with | some cs=>val1 nx (.agg cs) | none=>none
   | none=>none
  | _,_,_=>none

def ej_buildSlice (P:Program) (nB:Nat) (T:Tr LV) (H:Hp) (nx:Nat) (t:TypeId) (len:Nat) (parts:Array (Nat × Operand)) : Option Out :=
 match P.underlying t with
  | some (.slice elem)=>match zeroL P elem,sizeL P elem,partsL P T parts.toList with
   | some z,some n,some ps=>if len * n ≤ 2 ^ 20 ∧ 0 < n ∧ z.length = n then match fillL (fun i=>some (i * n,n)) (repL z len) ps with | some cs=>new1 nx elem true false cs (.slice nx 0 len len) [] | none=>none else none
   | _,_,_=>none
  | _=>none

def ej_load (P:Program) (nB:Nat) (T:Tr LV) (H:Hp) (nx:Nat) (t:TypeId) (a:Operand) : Option Out :=
 match opd P T a with
  | some (.ptr b off)=>match H.get b with
   | some k=>match partL P t k.cells off with | some l=>val1 nx l [b] | none=>none
   | none=>none
  | _=>none

def ej_store (P:Program) (nB:Nat) (T:Tr LV) (H:Hp) (nx:Nat) (t:TypeId) (a x:Operand) : Option Out :=
 match opd P T a,opd P T x,sizeL P t with
  | some (.ptr b off),some y,some n=>if nB ≤ b then match H.get b with
   | some k=>let l:=y.cells; if l.length = n ∧ off + n ≤ k.cells.length ∧ l.all LV.isOne then some ⟨.tup [],[(b,some ⟨k.elem,k.exact,k.mrk,putL k.cells off l⟩)],nx,some [b]⟩ else none
   | none=>none else none
  | _,_,_=>none

def ej_nilCheck (P:Program) (nB:Nat) (T:Tr LV) (H:Hp) (nx:Nat) (x:Operand) : Option Out :=
 match opd P T x with
  | some (.ptr b off)=>val1 nx (.ptr b off)
  | some (.fn (.func f) caps)=>val1 nx (.fn (.func f) caps)
  | _=>none

def ej_binOp (P:Program) (nB:Nat) (T:Tr LV) (H:Hp) (nx:Nat) (op:BinOp) (t:TypeId) (x y:Operand) : Option Out :=
 match opd P T x,opd P T y with
  | some .emp,some (.v (.slice none 0 0))=>match op,P.underlying t with | .eql,some (.slice _)=>val1 nx (.v (.bool false)) | .neq,some (.slice _)=>val1 nx (.v (.bool true)) | _,_=>none
  | some (.slice _ _ _ _),some (.v (.slice none 0 0)) | some (.buf _ _ _ _),some (.v (.slice none 0 0))=>match op,P.underlying t with | .eql,some (.slice _)=>val1 nx (.v (.bool false)) | .neq,some (.slice _)=>val1 nx (.v (.bool true)) | _,_=>none
  | some (.ifc _ _),some (.v .nilIface)=>match op,P.underlying t with | .eql,some (.interface _)=>val1 nx (.v (.bool false)) | .neq,some (.interface _)=>val1 nx (.v (.bool true)) | _,_=>none
  | some (.ptr _ _),some (.v (.pointer none))=>match op,P.underlying t with | .eql,some (.pointer _)=>val1 nx (.v (.bool false)) | .neq,some (.pointer _)=>val1 nx (.v (.bool true)) | _,_=>none
  | some (.sym _ k lo hi _),some (.v (.int k' (.ofNat n)))=>if k = k' then match symCmp op lo hi n with | some r=>val1 nx (.v (.bool r)) | none=>none else none
  | some (.sym b k lo hi ne),some (.sym b' k' lo' hi' ne')=>if k = k' then match symTwo op b b' ne ne' lo hi lo' hi' with | some r=>val1 nx (.v (.bool r)) | none=>none else none
  | some a,some b=>match a.val?,b.val? with
   | some a,some b=>pureL P nx (do eqGuard op t x y a b; binOp op t a b)
   | _,_=>match oddL op a b with
    | some r=>val1 nx r
    | none=>none
  | _,_=>none

def ej_unOp (P:Program) (nB:Nat) (T:Tr LV) (H:Hp) (nx:Nat) (op:UnOp) (x:Operand) : Option Out :=
 match opd P T x with
  | some (.v x)=>pureL P nx (Op.unary op x)
  | _=>none

def ej_convert (P:Program) (nB:Nat) (T:Tr LV) (H:Hp) (nx:Nat) (src dst:TypeId) (x:Operand) : Option Out :=
 match opd P T x with
  | some (.v (.string s))=>match P.underlying dst with
   | some (.slice e)=>match P.underlying e with
    | some (.int .u8)=>match P.underlying src with
     | some _=>if 2 ^ 40 < s.size then none else new1 nx e false true (s.data.toList.map fun b=>.v (.int .u8 b.toNat)) (.buf nx 0 s.size 1) []
     | none=>none
    | _=>none
   | _=>pureL P nx (convert src dst (.string s))
  | some (.slice b off len c)=>match P.underlying src,P.underlying dst with
   | some (.slice e),some .string=>match P.underlying e with
    | some (.int .u8)=>strL H nx b off len
    | _=>none
   | some (.slice _),some (.slice e)=>match src == dst,P.underlying e with
    | true,some (.int .u8)=>match H.get b with
     | some k=>if nB ≤ b then some ⟨.slice b off len c,[(b,some ⟨k.elem,k.exact,true,k.cells⟩)],nx,some [b]⟩ else none
     | none=>none
    | _,_=>none
   | _,_=>none
  | some (.buf b off len _)=>match P.underlying src,P.underlying dst with
   | some (.slice e),some .string=>match P.underlying e with
    | some (.int .u8)=>strL H nx b off len
    | _=>none
   | _,_=>none
  | some (.str cs)=>match P.underlying dst with
   | some (.slice e)=>match P.underlying e with
    | some (.int .u8)=>match P.underlying src with
     | some _=>if 2 ^ 40 < cs.length then none else new1 nx e false true cs (.buf nx 0 cs.length 1) []
     | none=>none
    | _=>none
   | _=>none
  | some .emp=>match P.underlying src,P.underlying dst with
   | some (.slice e),some .string=>match P.underlying e with
    | some (.int .u8)=>val1 nx (.v (.string ⟨#[]⟩))
    | _=>none
   | _,_=>none
  | some (.sym b k lo hi ne)=>match P.underlying src,P.underlying dst with
   | some _,some (.int k')=>if hi ≤ topK k' then val1 nx (.sym b k' lo hi ne) else none
   | _,_=>none
  | some (.v x)=>pureL P nx (convert src dst x)
  | _=>none

def ej_sliceToArrayPointer (P:Program) (nB:Nat) (T:Tr LV) (H:Hp) (nx:Nat) (t:TypeId) (x:Operand) : Option Out :=
 match P.underlying t,opd P T x with
  | some (.array n _),some (.slice b off len _) | some (.array n _),some (.buf b off len _)=>if n ≤ len then val1 nx (.ptr b off) else none
  | _,_=>none

def ej_makeInterface (P:Program) (nB:Nat) (T:Tr LV) (H:Hp) (nx:Nat) (t:TypeId) (x:Operand) : Option Out :=
 match P.underlying t with
  | some (.interface _)=>none
  | some _=>match opd P T x with | some a=>val1 nx (.ifc t a) | none=>none
  | none=>none

def ej_makeFunc (P:Program) (nB:Nat) (T:Tr LV) (H:Hp) (nx:Nat) (f:Fn) (first:Array Operand) (caps:Array Operand) : Option Out :=
 match first.toList,opds P T caps.toList with
  | [],some cs=>val1 nx (.fn f cs)
  | _,_=>none

def ej_makeSlice (P:Program) (nB:Nat) (T:Tr LV) (H:Hp) (nx:Nat) (t:TypeId) (l c:Operand) : Option Out :=
 match P.underlying t,opd P T l,opd P T c with
  | some (.slice elem),some l,some c=>match natL l,natL c,zeroL P elem,sizeL P elem,P.info? elem with
   | some l,some c,some z,some n,some inf=>if l ≤ c ∧ c ≤ 2 ^ 30 ∧ inf.bytes * c ≤ 2 ^ 40 ∧ z.length = n then new1 nx elem true false (repL z c) (.slice nx 0 l c) [] else none
   | _,_,_,_,_=>none
  | _,_,_=>none

def ej_slice (P:Program) (nB:Nat) (T:Tr LV) (H:Hp) (nx:Nat) (t:TypeId) (x:Operand) (lo hi mx:Option Operand) : Option Out :=
 match opd P T x,opds P T (lo.toList ++ hi.toList ++ mx.toList) with
  | some x,some _=>sliceL P H nx t x (lo.bind (opd P T)) (hi.bind (opd P T)) (mx.bind (opd P T))
  | _,_=>none

def ej_fieldAddr (P:Program) (nB:Nat) (T:Tr LV) (H:Hp) (nx:Nat) (s:TypeId) (x:Operand) (f:Nat) : Option Out :=
 match P.underlying s,opd P T x with
  | some (.struct fs),some (.ptr b off)=>match fs[f]? with
   | some f=>match sizeL P f.type with
    | some (_ + 1)=>val1 nx (.ptr b (off + f.offset))
    | _=>none
   | none=>none
  | _,_=>none

def ej_field (P:Program) (nB:Nat) (T:Tr LV) (H:Hp) (nx:Nat) (s:TypeId) (x:Operand) (f:Nat) : Option Out :=
 match P.underlying s,opd P T x with
  | some (.struct fs),some (.agg cs)=>match fs[f]? with
   | some f=>match partL P f.type cs f.offset with | some l=>val1 nx l | none=>none
   | none=>none
  | _,_=>none

def ej_indexAddr (P:Program) (nB:Nat) (T:Tr LV) (H:Hp) (nx:Nat) (t:TypeId) (x i:Operand) : Option Out :=
 match P.underlying t,opd P T x,opd P T i with
  | some (.array n elem),some (.ptr b off),some i=>match natL i,sizeL P elem with
   | some i,some e=>if i < n then val1 nx (.ptr b (off + i * e)) else none
   | _,_=>none
  | some (.slice elem),some (.slice b off n _),some i | some (.slice elem),some (.buf b off n _),some i=>match natL i,sizeL P elem with
   | some i,some e=>if i < n then val1 nx (.ptr b (off + i * e)) else none
   | _,_=>none
  | _,_,_=>none

def ej_index (P:Program) (nB:Nat) (T:Tr LV) (H:Hp) (nx:Nat) (t:TypeId) (x i:Operand) : Option Out :=
 match opd P T x,opd P T i with
  | some (.agg cs),some i=>match P.underlying t,natL i with
   | some (.array n elem),some i=>match sizeL P elem with
    | some e=>if i < n then match partL P elem cs (i * e) with | some l=>val1 nx l | none=>none else none
    | none=>none
   | _,_=>none
  | some (.v x),some (.v i)=>pureL P nx (Instr.index t x i)
  | _,_=>none

def ej_extract (P:Program) (nB:Nat) (T:Tr LV) (H:Hp) (nx:Nat) (x:Operand) (i:Nat) : Option Out :=
 match opd P T x with
  | some (.tup cs)=>match cs[i]? with | some l=>val1 nx l | none=>none
  | _=>none

def evOpJB (P:Program) (nB:Nat) (callf:FuncId → List LV → Hp → Nat → Option Out) (T:Tr LV) (H:Hp) (nx:Nat) (o:Oper) : Option Out :=
 match o.op with
 | .move x | .assign x=>ej_move P nB T H nx x
 | .pick c a b=>ej_pick P nB T H nx c a b
 | .alloc t=>ej_alloc P nB T H nx t
 | .box t x=>ej_box P nB T H nx t x
 | .build t parts=>ej_build P nB T H nx t parts
 | .buildSlice t len parts=>ej_buildSlice P nB T H nx t len parts
 | .load t a=>ej_load P nB T H nx t a
 | .store t a x=>ej_store P nB T H nx t a x
 | .nilCheck x=>ej_nilCheck P nB T H nx x
 | .binOp op t x y _=>ej_binOp P nB T H nx op t x y
 | .unOp op _ x=>ej_unOp P nB T H nx op x
 | .convert src dst x=>ej_convert P nB T H nx src dst x
 | .sliceToArrayPointer t x=>ej_sliceToArrayPointer P nB T H nx t x
 | .makeInterface t x=>ej_makeInterface P nB T H nx t x
 | .makeFunc f first caps=>ej_makeFunc P nB T H nx f first caps
 | .makeSlice t l c=>ej_makeSlice P nB T H nx t l c
 | .slice t x lo hi mx=>ej_slice P nB T H nx t x lo hi mx
 | .fieldAddr s x f=>ej_fieldAddr P nB T H nx s x f
 | .field s x f=>ej_field P nB T H nx s x f
 | .indexAddr t x i=>ej_indexAddr P nB T H nx t x i
 | .index t x i=>ej_index P nB T H nx t x i
 | .extract x i=>ej_extract P nB T H nx x i
 | .call c=>callL P nB callf T H nx c o.type
 | _=>none
theorem evOpJB_eq (P:Program) (nB:Nat) (callf:FuncId → List LV → Hp → Nat → Option Out) (T:Tr LV) (H:Hp) (nx:Nat) (o:Oper) : evOpJB P nB callf T H nx o = evOpB P nB callf T H nx o:=by
 unfold evOpJB evOpB
 cases o.op <;> rfl
def evOpJ (P:Program) (nB:Nat) (callf:FuncId → List LV → Hp → Nat → Option Out) (T:Tr LV) (H:Hp) (nx:Nat) (o:Oper) : Option Out:=orH P callf T nx o (evOpJB P nB callf T H nx o)
theorem evOpJ_eq (P:Program) (nB:Nat) (callf:FuncId → List LV → Hp → Nat → Option Out) (T:Tr LV) (H:Hp) (nx:Nat) (o:Oper) : evOpJ P nB callf T H nx o = evOp P nB callf T H nx o:=by
 unfold evOpJ evOp
 rw [evOpJB_eq]
end Go.Proofs.YtjpfhhndjpdmoaaGreatDoor

namespace Go.Proofs.YtjpfhhndjpdmoaaGreatDoor
set_option linter.unusedVariables false
set_option linter.unusedSimpArgs false

def seqK {α : Type} (n:Nat) (f:Nat → α) : α:=match n with | 0=>f 0 | k + 1=>f (Nat.succ k)
theorem seqK_eq {α : Type} (n:Nat) (f:Nat → α) : seqK n f = f n:=by cases n <;> rfl
def putK (nt:Nat) (T:Tr LV) (dst:Option Tmp) (v:LV) : Tr LV:=match dst with
 | some d=>match Nat.ble (Nat.succ d) nt with | true=>T.set d (some v) | false=>T
 | none=>T
theorem putK_eq (nt:Nat) (T:Tr LV) (dst:Option Tmp) (v:LV) : putK nt T dst v = putT nt T dst v:=by
 unfold putK putT
 cases dst with
 | none=>rfl
 | some d =>
  by_cases h : d < nt
  ·have : Nat.ble (Nat.succ d) nt = true:=Nat.ble_eq_true_of_le h
   simp only [this,h,if_true]
  ·have : Nat.ble (Nat.succ d) nt = false:=by
    cases hb : Nat.ble (Nat.succ d) nt with
    | false=>rfl
    | true=>exact absurd (Nat.le_of_ble_eq_true hb) h
   simp only [this,h,if_false]
theorem ble_if {α : Type} (a b:Nat) (x:Option α) : (match Nat.ble a b with | true=>x | false=>none) = if a ≤ b then x else none:=by
 by_cases h : a ≤ b
 ·rw [Nat.ble_eq_true_of_le h,if_pos h]
 ·have : Nat.ble a b = false:=by
   cases hb : Nat.ble a b with
   | false=>rfl
   | true=>exact absurd (Nat.le_of_ble_eq_true hb) h
  rw [this,if_neg h]
section
variable (P:Program) (nB:Nat) (callf:FuncId → List LV → Hp → Nat → Option Out)
def evSeqK (nt:Nat) (ops:Array Oper) : List Oper → Tr LV → Hp → Nat → List Nat → Option St
 | [],T,H,nx,wr=>some ⟨nt,T,H,nx,wr⟩
 | o :: l,T,H,nx,wr=>match wantL ops T o with
  | some true=>match evOpJ P nB callf T H nx o with
   | some ⟨v,d,nx',_⟩=>seqK nx' fun nx'=>match Nat.ble nx nx' with
    | true=>evSeqK nt ops l (putK nt T o.dst v) (H.app d) nx' (oldW nx d ++ wr)
    | false=>none
   | none=>none
  | some false=>evSeqK nt ops l (putK nt T o.dst (.tup [])) H nx wr
  | none=>none
theorem evSeqK_eq (nt:Nat) (ops:Array Oper) (l:List Oper) : ∀ (T:Tr LV) (H:Hp) (nx:Nat) (wr:List Nat),evSeqK P nB callf nt ops l T H nx wr = evSeq P nB callf ops l ⟨nt,T,H,nx,wr⟩:=by
 induction l with
 | nil=>intros; rfl
 | cons o l ih =>
  intro T H nx wr
  unfold evSeqK evSeq
  simp only [seqK_eq,putK_eq,ih,ble_if,evOpJ_eq]
  cases wantL ops T o with
  | none=>rfl
  | some b=>cases b with
   | false=>rfl
   | true=>cases evOp P nB callf T H nx o with
    | none=>rfl
    | some out=>rfl
def evDrawK (nt:Nat) (ops:Array Oper) (H:Hp) : List Oper → List Nat → Nat → Tr LV → Nat → List Rc → Option (Tr LV × Nat × List Rc)
 | [],_,_,T,nx,rs=>some (T,nx,rs)
 | o :: l,m :: ms,k,T,nx,rs=>match wantL ops T o with
  | some true=>match evOpJ P nB callf T (overH H m rs) nx o with
   | some ⟨v,d,nx',foot⟩=>seqK nx' fun nx'=>match Nat.ble nx nx' with
    | true=>match freeB m (oldW nx d) foot rs with
     | true=>match dOk (overH H m rs) nx nx' foot d with
      | true=>seqK (Nat.succ k) fun k'=>evDrawK nt ops H l ms k' (putK nt T o.dst v) nx' (⟨k,d,nx,foot⟩ :: rs)
      | false=>none
     | false=>none
    | false=>none
   | none=>none
  | some false=>seqK (Nat.succ k) fun k'=>evDrawK nt ops H l ms k' (putK nt T o.dst (.tup [])) nx (⟨k,[],nx,some []⟩ :: rs)
  | none=>none
 | _ :: _,[],_,_,_,_=>none
theorem evDrawK_eq (nt:Nat) (ops:Array Oper) (H:Hp) (l:List Oper) : ∀ (ms:List Nat) (k:Nat) (T:Tr LV) (nx:Nat) (rs:List Rc),evDrawK P nB callf nt ops H l ms k T nx rs = evDraw P nB callf nt ops H l ms k T nx rs:=by
 induction l with
 | nil=>intro ms; cases ms <;> (intros; rfl)
 | cons o l ih =>
  intro ms k T nx rs
  cases ms with
  | nil=>rfl
  | cons m ms =>
   unfold evDrawK evDraw
   simp only [seqK_eq,putK_eq,ih,ble_if,evOpJ_eq]
   cases wantL ops T o with
   | none=>rfl
   | some b=>cases b with
    | false=>rfl
    | true=>cases evOp P nB callf T (overH H m rs) nx o with
     | none=>rfl
     | some out =>
      dsimp only
      by_cases h1 : nx ≤ out.nx
      ·rw [if_pos h1]
       cases h2 : freeB m (oldW nx out.d) out.foot rs with
       | false=>rw [if_neg (by simp)]
       | true =>
        cases h3 : dOk (overH H m rs) nx out.nx out.foot out.d with
        | false=>rw [if_neg (by simp)]
        | true=>rw [if_pos ⟨h1,rfl,rfl⟩]
      ·rw [if_neg h1,if_neg (fun h=>h1 h.1)]
def evRegK (ops:Array Oper) (draw:Bool) : St → Option St
 | ⟨nt,T,H,nx,wr⟩=>match draw with
  | false=>evSeqK P nB callf nt ops ops.toList T H nx wr
  | true=>match regB ops with
   | true=>match evDrawK P nB callf nt ops H ops.toList (pastsL ops.toList []) 0 T nx [] with
    | some (T,nx,rs)=>some ⟨nt,T,allH H rs,nx,wrOf rs ++ wr⟩
    | none=>none
   | false=>none
theorem evRegK_eq (ops:Array Oper) (draw:Bool) (s:St) : evRegK P nB callf ops draw s = evReg P nB callf ops draw s:=by
 cases s with
 | mk nt T H nx wr =>
  cases draw with
  | false=>exact evSeqK_eq P nB callf nt ops _ T H nx wr
  | true =>
   unfold evRegK evReg
   simp only [evDrawK_eq]
   cases regB ops with
   | true=>rfl
   | false=>rfl
def evCK : Nat → Code → St → Option (Ex × St)
 | 0,_,_=>none
 | n + 1,c,s=>match c with
  | .skip=>some (.normal,s)
  | .region _ ops draw=>match evRegK P nB callf ops draw s with | some s=>some (.normal,s) | none=>none
  | .seq a b=>match evCK n a s with
   | some (.normal,s)=>evCK n b s
   | r=>r
  | .cond c a b=>match opd P s.T c with
   | some (.v (.bool true))=>evCK n a s
   | some (.v (.bool false))=>evCK n b s
   | _=>none
  | .block id b=>match evCK n b s with
   | some (.exit i,s)=>match Nat.beq i id with | true=>some (.normal,s) | false=>some (.exit i,s)
   | r=>r
  | .loop b=>match evCK n b s with
   | some (.normal,s)=>evCK n (.loop b) s
   | r=>r
  | .exit id=>some (.exit id,s)
  | .ret=>some (.ret,s)
  | _=>none
theorem evCK_eq : ∀ (n:Nat) (c:Code) (s:St),evCK P nB callf n c s = evC P nB callf n c s:=by
 intro n
 induction n with
 | zero=>intros; rfl
 | succ n ih =>
  intro c s
  cases c with
  | block id b =>
   unfold evCK evC
   simp only [ih]
   cases evC P nB callf n b s with
   | none=>rfl
   | some r =>
    obtain ⟨e,s'⟩:=r
    cases e with
    | normal=>rfl
    | ret=>rfl
    | exit i =>
     dsimp only
     by_cases h : i = id
     ·subst h; rw [if_pos rfl,Nat.beq_refl]
     ·rw [if_neg h]
      have : Nat.beq i id = false:=by
       cases hb : Nat.beq i id with
       | false=>rfl
       | true=>exact absurd (Nat.eq_of_beq_eq_true hb) h
      rw [this]
  | _=>(unfold evCK evC; simp only [ih,evRegK_eq]; try rfl)
end
def evFK (P:Program) (nB lf:Nat) (orc:Orc) : Nat → FuncId → List LV → Hp → Nat → Option Out
 | 0,_,_,_,_=>none
 | n + 1,f,args,H,nx=>match orc f with
  | some g=>g args H nx
  | none=>match P.funcs[f]? with
   | some fn=>match fn.body with
    | some c=>seqK (args.length + (fn.ntmps - args.length)) fun nt =>
     match evCK P nB (evFK P nB lf orc n) lf c ⟨nt,argsT 0 args .nil,H,nx,[]⟩ with
     | some (.exit _,_)=>none
     | some (_,⟨_,T,H',nx',wr⟩)=>match resL P T H' fn.results.toList with
      | some rs=>let v:=oneL rs; let od:=olds nx H' wr .nil
       some ⟨v,od ++ reach nx H' (nx' + 100000) (v.ids ++ idsD od) .nil [],nx',none⟩
      | none=>none
     | none=>none
    | none=>none
   | none=>none
theorem evFK_eq (P:Program) (nB lf:Nat) (orc:Orc) (n:Nat) : evFK P nB lf orc n = evF P nB lf orc n:=by
 induction n with
 | zero=>rfl
 | succ n ih =>
  funext f args H nx
  unfold evFK evF
  simp only [ih,seqK_eq,evCK_eq]
  cases orc f with
  | some g=>rfl
  | none =>
   dsimp only
   cases P.funcs[f]? with
   | none=>rfl
   | some fn =>
    dsimp only
    cases fn.body with
    | none=>rfl
    | some c =>
     dsimp only
     cases evC P nB (evF P nB lf orc n) lf c ⟨args.length + (fn.ntmps - args.length),argsT 0 args .nil,H,nx,[]⟩ with
     | none=>rfl
     | some r =>
      obtain ⟨e,s⟩:=r
      cases s
      cases e <;> rfl
end Go.Proofs.YtjpfhhndjpdmoaaGreatDoor
