/- Part of the proof: MontF,HalfLaw,CurveSpec,Alloc. No conditions of its own. -/
import Derived.Test.YtjpfhhndjpdmoaaGreatDoorF09
namespace Go.Proofs.YtjpfhhndjpdmoaaGreatDoor
open Go.RowKit
set_option linter.unusedVariables false
set_option linter.unusedSimpArgs false

theorem sub_low {m x z:Nat} (hx:x < m) (hz:z < m) (h:¬ x < z) : nL (x + R256 - z) = nL ((x + m - z) % m):=by
 have e : (x + m - z) % m = x - z:=by rw [show x + m - z = (x - z) + m by omega,Nat.add_mod_right,Nat.mod_eq_of_lt (by omega)]
 rw [e,← nL_mod (x + R256 - z),show x + R256 - z = (x - z) + R256 by omega,Nat.add_mod_right,nL_mod]
theorem sub_high {m x z:Nat} (hx:x < m) (hz:z < m) (hm:m < R256) (h:x < z) : nL (x + R256 - z + m) = nL ((x + m - z) % m):=by
 have e : (x + m - z) % m = x + m - z:=Nat.mod_eq_of_lt (by omega)
 rw [e,← nL_mod (x + R256 - z + m),show x + R256 - z + m = (x + m - z) + R256 by omega,Nat.add_mod_right,nL_mod]
set_option maxRecDepth 100000 in
set_option maxHeartbeats 4000000 in
theorem sub_any (w:World) (g m neg ri a b:Nat) (hM:ModW w g m neg ri) (ha:a < R256) (hb:b < R256) :
  Calls Tryz.prog 150 #[.pointer (some ⟨g,0,none⟩),.agg (AQ (nL a)),.agg (AQ (nL b))] w fun e w'=>e = .returned (.agg (AQ (nL ((a % m + m - b % m) % m)))) ∧ Below w.heap.size w w':=by
 have s1:=nL_size a
 have s2:=sub_nL a
 have s5:=nL_size b
 have s6:=sub_nL b
 have HM:=Lib.hid hM
 have HLT:=Lib.hid hM.row.lt
 have hm0 : 0 < m:=by have:=hM.md.big; omega
 have hlow:=hM.md.low
 have HA:=Lib.hid (fun W h=>rest_any W g m neg ri a h ha)
 have HB:=Lib.hid (fun W h=>rest_any W g m neg ri b h hb)
 obtain ⟨x,hx⟩ : ∃ x,x = a % m:=⟨_,rfl⟩
 obtain ⟨z,hz⟩ : ∃ z,z = b % m:=⟨_,rfl⟩
 rw [← hx] at HA
 rw [← hz] at HB
 have hxm : x < m:=by rw [hx]; exact Nat.mod_lt _ hm0
 have hzm : z < m:=by rw [hz]; exact Nat.mod_lt _ hm0
 rw [← hx,← hz]
 have hlo:=fun h=>sub_low hxm hzm h
 have hhi:=fun h=>sub_high hxm hzm hlow h
 obtain ⟨y,hy⟩ : ∃ y,y = (x + m - z) % m:=⟨_,rfl⟩
 rw [← hy] at hlo hhi ⊢
 have hC:=fun W=>nsub_any W x z (Nat.lt_trans hzm hlow)
 have hbo:=boS_four x z (Nat.lt_trans hxm hlow) (Nat.lt_trans hzm hlow)
 obtain ⟨s,hs⟩ : ∃ s,s = x + R256 - z:=⟨_,rfl⟩
 rw [← hs] at hC hlo hhi
 obtain ⟨ov,hov⟩ : ∃ o,o = boS x z 4:=⟨_,rfl⟩
 rw [← hov] at hC hbo
 have HC:=Lib.hid hC
 have HV:=Lib.hid (show (ov = 0 ∧ nL s = nL y) ∨ (ov = 1 ∧ nL (s + m) = nL y) by
  by_cases h : x < z
  ·exact .inr ⟨by rw [hbo,if_pos h],hhi h⟩
  ·exact .inl ⟨by rw [hbo,if_neg h],hlo h⟩)
 have s8:=modC_size m neg
 have s9:=modC_m m neg
 have q1:=AQ_one (nL x)
 have q2:=nL_size x
 have q3:=AQ_one (nL y)
 have q4:=nL_size y
 have q5:=AQ_one (nL a)
 have q6:=AQ_one (nL b)
 have q7:=AQ_one (nL z)
 have q8:=nL_size z
 have q9:=AQ_one (nL s)
 have q10:=nL_size s
 have q11:=sub_nL s
 have z44 : 0 + 4 ≤ (AQ (nL a)).size:=by rw [s1]; decide
 have z45 : 0 + 4 ≤ (AQ (nL b)).size:=by rw [s5]; decide
 have z46 : 0 + 4 ≤ (AQ (nL s)).size:=by rw [q10]; decide
 have ov0:=over_nL #[.int .u64 0,.int .u64 0,.int .u64 0,.int .u64 0] s rfl
 clear hM ha hb hm0 hlow hx hy hz hxm hzm hlo hhi hbo hs hov hC
 go_enter Tryz.func150,Tryz.ntmps150
 go_upto_region 3 with (fail)
 obtain ⟨w0,hw0⟩ : ∃ W,W = ((w.alloc (.cells (AQ (nL a)) 177)).alloc (.cells (AQ (nL b)) 177)).alloc (.cells #[.int .u64 0,.int .u64 0,.int .u64 0,.int .u64 0] 177):=⟨_,rfl⟩
 rw [← hw0]
 have hra0 : Row w0 w.heap.size 177 (AQ (nL a)):=by rw [hw0]; exact ((Row.new _ _ _).alloc _).alloc _
 have HR:=Lib.hid (show AddSt w w0 b from by
  rw [hw0]
  refine ⟨?_,?_,(((Below.refl _ w).alloc (Nat.le_refl _) _).alloc (by simp) _).alloc (by simp; omega) _⟩
  ·have:=(Row.new (w.alloc (.cells (AQ (nL a)) 177)) 177 (AQ (nL b))).alloc (.cells #[.int .u64 0,.int .u64 0,.int .u64 0,.int .u64 0] 177)
   simpa using this
  ·exact RowN.newAt _ _ _ _ (by simp))
 clear hw0
 have hra:=hra0.drew
 have hla : w.heap.size < w0.heap.size:=hra0.lt
 have hrb0:=HR.out.r5
 have hrb:=HR.out.r5.drew
 have hlb : w.heap.size + 1 < w0.heap.size:=HR.out.r5.lt
 go_cut [7,8] (fun t7 t8 wx=>∃ g7,t7 = .pointer (some ⟨g7,0,none⟩) ∧ t8 = Q ov ∧ Row wx g7 177 (AQ (nL s)) ∧ AddSt w wx b ∧ w.heap.size + 1 + 1 < g7)
 case first =>
  --<A
  go_region_law (first
   | (refine wp_callQ 92 #[.pointer (some ⟨g,0,none⟩),.agg (AQ (nL a))] ?_ ?_
      (focus (simp [go_sem]; done))
      first
       | refine (HA.out _ (HM.out.below HR.out.drew.bel)).mono ?_
       | refine (HA.out _ (HM.out.below (HR.out.drew.alloc _).bel)).mono ?_
       | refine (HA.out _ (HM.out.below (HR.out.alloc _).drew.bel)).mono ?_
      rintro _ w2 ⟨rfl,hB⟩
      refine ⟨_,rfl,?_⟩
      have K2:=Lib.hid (show AddSt w w2 b from by first | exact HR.out.drew.below hB | exact (HR.out.drew.alloc _).below hB | exact (HR.out.alloc _).drew.below hB)
      have hrb2:=K2.out.r5
      have hlb2:=hrb2.lt
      (first
       | (have hz2:=(show Row w2 w0.heap.size 177 #[.int .u64 0,.int .u64 0,.int .u64 0,.int .u64 0] from by first | exact (Row.new w0.drew 177 #[.int .u64 0,.int .u64 0,.int .u64 0,.int .u64 0]).below hB (Row.new w0.drew 177 #[.int .u64 0,.int .u64 0,.int .u64 0,.int .u64 0]).lt | exact (Row.new w0 177 #[.int .u64 0,.int .u64 0,.int .u64 0,.int .u64 0]).drew.below hB (Row.new w0 177 #[.int .u64 0,.int .u64 0,.int .u64 0,.int .u64 0]).lt))
       | skip)
      clear hB)
   | (refine wp_callQ 92 #[.pointer (some ⟨g,0,none⟩),.agg (AQ (nL b))] ?_ ?_
      (focus (simp [go_sem]; done))
      first
       | refine (HB.out _ (HM.out.below K2.out.bel)).mono ?_
       | refine (HB.out _ (HM.out.below (K2.out.alloc _).bel)).mono ?_
      rintro _ w4 ⟨rfl,hB⟩
      refine ⟨_,rfl,?_⟩
      have K4:=Lib.hid (show AddSt w w4 b from by first | exact K2.out.below hB | exact (K2.out.alloc _).below hB)
      (first
       | (have hz4:=hz2.below hB hz2.lt)
       | (have hz4:=(Row.new w2 177 #[.int .u64 0,.int .u64 0,.int .u64 0,.int .u64 0]).below hB (Row.new w2 177 #[.int .u64 0,.int .u64 0,.int .u64 0,.int .u64 0]).lt)
       | skip)
      clear hB)
   | (refine wp_callQ 149 #[.agg (AQ (nL x)),.agg (AQ (nL z))] ?_ ?_
      (focus (simp [go_sem]; done))
      refine (HC.out _).mono ?_
      rintro _ w3 ⟨rfl,hB⟩
      refine ⟨_,rfl,?_⟩
      have K3:=Lib.hid (show AddSt w w3 b from by first | exact K4.out.below hB | exact (K4.out.alloc _).below hB)
      (first
       | (have hz3:=hz4.below hB hz4.lt)
       | (have hz3:=(Row.new w4 177 #[.int .u64 0,.int .u64 0,.int .u64 0,.int .u64 0]).below hB (Row.new w4 177 #[.int .u64 0,.int .u64 0,.int .u64 0,.int .u64 0]).lt)
       | skip)
      (first | (have hl3:=hz3.lt) | skip)
      clear hB)
   | fail)
  all_goals
   go_wp2_with fail
   go_meet
   case rel =>
    first
     | exact ⟨_,rfl,rfl,(Row.new w3 _ _).setRow _,(K3.out.alloc _).setRow (by have:=K3.out.r6.lt; omega),K3.out.r6.lt⟩
     | exact ⟨_,rfl,rfl,hz3.setRow _,K3.out.setRow (by have:=HR.out.r6.lt; have:=K2.out.r6.lt; first | omega | (have:=K4.out.r6.lt; omega)),by have:=HR.out.r6.lt; have:=K2.out.r6.lt; first | omega | (have:=K4.out.r6.lt; omega)⟩
     | trace_state
  --A>
 case rest =>
  obtain ⟨g7,rfl,rfl,h7,hK,h27⟩:=hcut
  have hl7:=h7.lt
  have KX:=Lib.hid hK
  clear hK hra hra0 hrb hrb0 hla hlb
  rcases HV.out with ⟨rfl,hy⟩ | ⟨rfl,hy⟩
  ·obtain ⟨zz,hzz,hzs⟩:=KX.out.r6
   have hov6:=over_nL zz s hzs
   have hlz:=hzz.lt
   have HY:=Lib.hid hy
   clear hy
   go_wp2_with fail
   exact ret_row (.inl rfl) rfl (w.heap.size + 1 + 1) _ _ 4 _ rfl (hzz.setRow _) Tryz.underlying177 rfl (by kernel_rfl) q10 ⟨by rw [HY.out],bSetRow KX.out.bel (by omega) _⟩
  ·have HY:=Lib.hid hy
   clear hy
   have h7d:=h7.drew
   have hMX:=(HM.out.below KX.out.bel).row
   have hrm:=hMX.drew
   have hlm:=hMX.lt
   have z13 : 0 + 4 ≤ (modC m neg).size:=by rw [s8]; decide
   have hN:=fun W=>nadd_any W s m
   obtain ⟨u,hu⟩ : ∃ u,u = s + m:=⟨_,rfl⟩
   rw [← hu] at hN
   have HN:=Lib.hid hN
   have HU:=Lib.hid (show nL u = nL y by rw [hu]; exact HY.out)
   have p1:=AQ_one (nL u)
   have p2:=nL_size u
   have p3:=sub_nL u
   have p4:=over_nL (AQ (nL s)) u q10
   have p5:=AQ_one (nL m)
   have p6:=nL_size m
   have z47 : 0 + 4 ≤ (AQ (nL u)).size:=by rw [p2]; decide
   clear hN hu
   go_upto_region 5 with (fail)
   go_region_law (first
    | (refine wp_callQ 151 #[.agg (AQ (nL s)),.agg (AQ (nL m))] ?_ ?_
       (focus (simp [go_sem]; done))
       refine (HN.out _).mono ?_
       rintro _ w5 ⟨rfl,hB⟩
       refine ⟨_,rfl,?_⟩
       have h75:=h7d.below hB h7d.lt
       have hl75:=h75.lt
       have K5:=Lib.hid (KX.out.drew.below hB)
       clear hB)
    | fail)
   all_goals
    have K6:=Lib.hid (K5.out.setRow (cs:=AQ (nL u)) h27)
    obtain ⟨zz,hzz,hzs⟩:=K6.out.r6
    have hov6:=over_nL zz u hzs
    have hlz:=hzz.lt
    have h76:=h75.setRow (AQ (nL u))
    go_wp2_with fail
    exact ret_row (.inl rfl) rfl (w.heap.size + 1 + 1) _ _ 4 _ rfl (hzz.setRow _) Tryz.underlying177 rfl (by kernel_rfl) p2 ⟨by rw [HU.out],bSetRow K6.out.bel (by omega) _⟩
end Go.Proofs.YtjpfhhndjpdmoaaGreatDoor

namespace Go.Proofs.YtjpfhhndjpdmoaaGreatDoor

def hlf (a top:Nat) : Nat:=(a + top * R256) / 2
theorem hlf_last (a top:Nat) (ha:a < R256) (ht:top ≤ 1) : lim a 3 / 2 + top * 9223372036854775808 = lim (hlf a top) 3:=by
 have : R256 = 115792089237316195423570985008687907853269984665640564039457584007913129639936:=rfl
 unfold hlf lim
 rw [this] at ha ⊢
 omega
theorem hlf_0 (a top:Nat) : lim a 0 / 2 + lim a 1 % 2 * 9223372036854775808 = lim (hlf a top) 0:=by
 have : R256 = 115792089237316195423570985008687907853269984665640564039457584007913129639936:=rfl
 unfold hlf lim
 rw [this]
 omega
theorem hlf_1 (a top:Nat) : lim a 1 / 2 + lim a 2 % 2 * 9223372036854775808 = lim (hlf a top) 1:=by
 have : R256 = 115792089237316195423570985008687907853269984665640564039457584007913129639936:=rfl
 unfold hlf lim
 rw [this]
 omega
theorem hlf_2 (a top:Nat) : lim a 2 / 2 + lim a 3 % 2 * 9223372036854775808 = lim (hlf a top) 2:=by
 have : R256 = 115792089237316195423570985008687907853269984665640564039457584007913129639936:=rfl
 unfold hlf lim
 rw [this]
 omega
end Go.Proofs.YtjpfhhndjpdmoaaGreatDoor

namespace Go.Proofs.YtjpfhhndjpdmoaaGreatDoor
set_option linter.unusedVariables false

def P256 : Nat:=0xFFFFFFFF00000001000000000000000000000000FFFFFFFFFFFFFFFFFFFFFFFF
def N256 : Nat:=0xFFFFFFFF00000000FFFFFFFFFFFFFFFFBCE6FAADA7179E84F3B9CAC2FC632551
def B256 : Nat:=0x5AC635D8AA3A93E7B3EBBD55769886BC651D06B0CC53B0F63BCE3C3E27D2604B
def GX : Nat:=0x6B17D1F2E12C4247F8BCE6E563A440F277037D812DEB33A0F4A13945D898C296
def GY : Nat:=0x4FE342E2FE1A7F9B8EE7EB4A7C0F9E162BCE33576B315ECECBB6406837BF51F5
def seqN {α : Type} (x:Nat) (k:Nat → α) : α:=match x with
 | 0=>k 0
 | n + 1=>k (n + 1)
theorem seqN_eq {α : Type} (x:Nat) (k:Nat → α) : seqN x k = k x:=by cases x <;> rfl
def addM (m a b:Nat) : Nat:=(a + b) % m
def subM (m a b:Nat) : Nat:=(a % m + m - b % m) % m
def mulM (m a b:Nat) : Nat:=a * b % m
structure T3 where
 x : Nat
 y : Nat
 z : Nat
def T3.o : T3:=⟨0,0,0⟩
def dblS (m:Nat) (p:T3) : T3 :=
 if p.z = 0 ∨ p.y = 0 then T3.o else
 let zz:=mulM m p.z p.z
 let yy:=mulM m p.y p.y
 let b:=mulM m p.x yy
 let c:=mulM m (subM m p.x zz) (addM m p.x zz)
 let a:=addM m (addM m c c) c
 let four:=addM m (addM m b b) (addM m b b)
 let x:=subM m (mulM m a a) (addM m four four)
 let yyyy:=mulM m yy yy
 let y2:=addM m yyyy yyyy
 let y4:=addM m y2 y2
 let y8:=addM m y4 y4
 ⟨x,subM m (mulM m a (subM m four x)) y8,mulM m (addM m p.y p.y) p.z⟩
def addS (m:Nat) (p q:T3) : T3 :=
 if p.z = 0 then q else if q.z = 0 then p else
 let pp:=mulM m p.z p.z
 let qq:=mulM m q.z q.z
 let u:=mulM m p.x qq
 let v:=mulM m q.x pp
 let s:=mulM m p.y (mulM m q.z qq)
 let t:=mulM m q.y (mulM m p.z pp)
 let h:=subM m v u
 let r:=subM m t s
 if h = 0 then (if r = 0 then dblS m p else T3.o) else
 let hh:=mulM m h h
 let hhh:=mulM m h hh
 let w:=mulM m u hh
 let x:=subM m (subM m (mulM m r r) hhh) (addM m w w)
 ⟨x,subM m (mulM m r (subM m w x)) (mulM m s hhh),mulM m (mulM m p.z q.z) h⟩
def frc (p:T3) (k:T3 → T3) : T3:=seqN p.x fun x=>seqN p.y fun y=>seqN p.z fun z=>k ⟨x,y,z⟩
theorem frc_eq (p:T3) (k:T3 → T3) : frc p k = k p:=by unfold frc; rw [seqN_eq,seqN_eq,seqN_eq]
def timesF (m:Nat) (t:T3) (k:Nat) : Nat → T3 → T3
 | 0,r=>r
 | i + 1,r=>frc (dblS m r) fun d=>if k / 2 ^ i % 2 = 1 then frc (addS m d t) fun e=>timesF m t k i e else timesF m t k i d
def timesS (m:Nat) (t:T3) (k:Nat) : T3:=timesF m t k 256 T3.o
structure I4 where
 u : Nat
 v : Nat
 x : Nat
 y : Nat
def halveM (m a:Nat) : Nat:=if a % 2 = 0 then a / 2 else (a + m) / 2
def invStep (m:Nat) (s:I4) : I4 :=
 if s.u % 2 = 0 then ⟨s.u / 2,s.v,halveM m s.x,s.y⟩
 else if s.u < s.v then ⟨s.v - s.u,s.u,subM m s.y s.x,s.x⟩
 else ⟨s.u - s.v,s.v,subM m s.x s.y,s.y⟩
def frcI {α : Type} (s:I4) (k:I4 → α) : α:=seqN s.u fun u=>seqN s.v fun v=>seqN s.x fun x=>seqN s.y fun y=>k ⟨u,v,x,y⟩
theorem frcI_eq {α : Type} (s:I4) (k:I4 → α) : frcI s k = k s:=by unfold frcI; rw [seqN_eq,seqN_eq,seqN_eq,seqN_eq]
def invF (m:Nat) : Nat → I4 → I4
 | 0,s=>s
 | i + 1,s=>if s.u = 0 then s else frcI (invStep m s) fun t=>invF m i t
def invI (m a:Nat) : I4:=invF m 1100 ⟨a % m,m,1,0⟩
def dropS (m:Nat) (t:T3) : Nat × Nat :=
 let i:=(invI m t.z).y
 let ii:=mulM m i i
 (mulM m t.x ii,mulM m t.y (mulM m i ii))
def pubS (k:Nat) : Nat × Nat:=dropS P256 (timesS P256 ⟨GX,GY,1⟩ k)
def onS (x y:Nat) : Bool:=decide (mulM P256 y y = addM P256 (mulM P256 (subM P256 (mulM P256 x x) 3) x) B256)
def KEY1 : Nat:=3 * 2 ^ 248 + 1
end Go.Proofs.YtjpfhhndjpdmoaaGreatDoor

namespace Go.Proofs.YtjpfhhndjpdmoaaGreatDoor
open Go.RowKit

abbrev Fresh:=Nat → Option Obj
def upd (R:Fresh) (g:Nat) (o:Obj) : Fresh:=fun k=>if k = g then some o else R k
theorem upd_same (R:Fresh) (g:Nat) (o:Obj) : upd R g o g = some o:=if_pos rfl
theorem upd_ne (R:Fresh) {g k:Nat} (o:Obj) (h:k ≠ g) : upd R g o k = R k:=if_neg h
theorem upd_comm (R:Fresh) {g k:Nat} (o p:Obj) (h:g ≠ k) : upd (upd R g o) k p = upd (upd R k p) g o:=by
 funext j
 unfold upd
 by_cases h1 : j = k
 ·rw [if_pos h1,if_neg (by omega),if_pos h1]
 ·rw [if_neg h1]
  by_cases h2 : j = g
  ·rw [if_pos h2,if_pos h2]
  ·rw [if_neg h2,if_neg h2,if_neg h1]
def CC (W:World) (R:Fresh) (w:World) : Prop:=Below W.heap.size W w ∧ ∀ g o,R g = some o → w.heap[g]? = some o
def isAl (o:Oper) : Bool:=match o.op with | .alloc _=>true | _=>false
def ptr (g:Nat) : Value:=.pointer (some ⟨g,0,none⟩)
theorem cc_fresh {W w:World} {R:Fresh} (h:CC W R w) : R w.heap.size = none:=by
 cases hr : R w.heap.size with
 | none=>rfl
 | some o=>have:=h.2 _ _ hr; simp at this
theorem cc_alloc {W w:World} {R:Fresh} (h:CC W R w) (ob:Obj) : CC W (upd R w.heap.size ob) (w.alloc ob):=by
 refine ⟨h.1.alloc h.1.size _,fun g o hg=>?_⟩
 by_cases e : g = w.heap.size
 ·subst e
  rw [upd_same] at hg
  cases hg
  exact heap_alloc_new w ob
 ·rw [upd_ne _ _ e] at hg
  have h1:=h.2 _ _ hg
  rw [Below.heap_alloc _ _ _ (Array.getElem?_eq_some_iff.1 h1).1]
  exact h1
theorem cc_ext {W w w':World} {R:Fresh} (h:CC W R w) (hb:Below w.heap.size w w') : CC W R w' :=
 ⟨h.1.trans (hb.mono h.1.size),fun g o hg=>by
  have h1:=h.2 g o hg
  exact (hb.block g (Array.getElem?_eq_some_iff.1 h1).1).trans h1⟩
section
variable {P:Program} {ops:Array Oper} {md:Region.Mode} {W:World} {ob:Nat → Obj}
def AlF (P:Program) (ops:Array Oper) (o:Oper) (b:Obj) : Prop :=
 (∀ a : Act,Region.wanted o (yielded ops a.tmps) = true) ∧ ∀ (ρ : Operand → Value) (w:World),(execOp ρ o).run P w = .ok (.value (ptr w.heap.size)) (w.alloc b)
def YieldsR (P:Program) (ops:Array Oper) (W:World) (o:Oper) (v:Value) (a:Act) : Prop :=
 (Region.wanted o (yielded ops a.tmps) = true ∧ ∀ R w,CC W R w → o.quietAt P a (CC W R) w v) ∨ (Region.wanted o (yielded ops a.tmps) = false ∧ v = undef)
theorem YieldsR.of_same {o:Oper} {v:Value} {a a':Act} (hy:YieldsR P ops W o v a) (he:execOp a'.eval o = execOp a.eval o)
  (hw:Region.wanted o (yielded ops a'.tmps) = Region.wanted o (yielded ops a.tmps)) : YieldsR P ops W o v a':=by
 unfold YieldsR Oper.quietAt at *
 rw [he,hw]
 exact hy
def aOp (P:Program) (ops:Array Oper) (W:World) (ob:Nat → Obj) (i:Nat) (K:Act → Fresh → Prop) (a:Act) (R:Fresh) : Prop :=
 match ops[i]? with
 | none=>K a R
 | some o=>if isAl o = true then ∀ g,W.heap.size ≤ g → R g = none → K (a.put o.dst (ptr g)) (upd R g (ob i)) else ∃ v,YieldsR P ops W o v a ∧ K (a.put o.dst v) R
theorem aOp_al {i:Nat} {o:Oper} {K:Act → Fresh → Prop} {a:Act} {R:Fresh} (hi:ops[i]? = some o) (h:isAl o = true) :
  aOp P ops W ob i K a R = ∀ g,W.heap.size ≤ g → R g = none → K (a.put o.dst (ptr g)) (upd R g (ob i)):=by
 unfold aOp
 simp only [hi,h,if_true]
theorem aOp_no {i:Nat} {o:Oper} {K:Act → Fresh → Prop} {a:Act} {R:Fresh} (hi:ops[i]? = some o) (h:isAl o = false) :
  aOp P ops W ob i K a R = ∃ v,YieldsR P ops W o v a ∧ K (a.put o.dst v) R:=by
 unfold aOp
 simp only [hi,h,Bool.false_eq_true,if_false]
def wpAnyA (P:Program) (md:Region.Mode) (ops:Array Oper) (W:World) (ob:Nat → Obj) (n:Nat) (L:Array Bool → Act → Fresh → Prop) : Nat → Array Bool → Act → Fresh → Prop
 | 0,listed,a,R=>L listed a R
 | f + 1,listed,a,R=>Region.ready md ops listed ≠ [] ∧ ∀ i ∈ Region.ready md ops listed,i < n ∧ aOp P ops W ob i (wpAnyA P md ops W ob n L f (listed.setIfInBounds i true)) a R
theorem wpOp_of_aOp {i n:Nat} (hin:i < n) (hal:∀ j o,j < n → ops[j]? = some o → isAl o = true → AlF P ops o (ob j)) {K:Act → Fresh → Prop} {K':Act → World → Prop} {Q':Exit → Act → World → Prop} {a:Act} {R:Fresh} {w:World}
  (hw:CC W R w) (h:∀ a' R' w',CC W R' w' → K a' R' → K' a' w') (hh:aOp P ops W ob i K a R) : wpOp P ops Q' i K' a w:=by
 unfold wpOp
 cases ho : ops[i]? with
 | none =>
  unfold aOp at hh
  simp only [ho] at hh
  exact h _ _ _ hw hh
 | some o =>
  simp only
  cases ha : isAl o with
  | true =>
   rw [aOp_al ho ha] at hh
   obtain ⟨h1,h2⟩:=hal i o hin ho ha
   rw [if_pos (h1 a)]
   left
   unfold Oper.wp
   rw [h2]
   exact h _ _ _ (cc_alloc hw _) (hh _ hw.1.size (cc_fresh hw))
  | false =>
   rw [aOp_no ho ha] at hh
   obtain ⟨v,hy,hK⟩:=hh
   rcases hy with ⟨h1,h2⟩ | ⟨h1,rfl⟩
   ·rw [if_pos h1]
    exact .inl (Oper.wp_of_quiet (C:=CC W R) (K:=fun a'=>K a' R) hw (fun a' w' hw' hk=>h a' R w' hw' hk) ⟨v,fun w hw=>h2 R w hw,hK⟩)
   ·rw [if_neg (by rw [h1]; decide)]
    exact h _ _ _ hw hK
theorem wpAny_of_A {n g:Nat} (hal:∀ j o,j < n → ops[j]? = some o → isAl o = true → AlF P ops o (ob j)) {L:Array Bool → Act → Fresh → Prop} {Q':Exit → Act → World → Prop} (hL:∀ listed a R w,CC W R w → L listed a R → wpAny P md ops Q' g listed a w) :
  ∀ (f:Nat) (listed:Array Bool) (a:Act) (R:Fresh) (w:World),CC W R w → wpAnyA P md ops W ob n L f listed a R → wpAny P md ops Q' (f + g) listed a w
 | 0,listed,a,R,w,hw,h=>by rw [Nat.zero_add]; exact hL _ _ _ _ hw h
 | f + 1,listed,a,R,w,hw,h=>by
  rw [show f + 1 + g = (f + g) + 1 by omega]
  exact ⟨fun h0=>absurd h0 h.1,fun i hi=>wpOp_of_aOp (h.2 i hi).1 hal hw (fun a' R' w' hw' h'=>wpAny_of_A hal hL f _ a' R' w' hw' h') (h.2 i hi).2⟩
variable {n:Nat} {L:Array Bool → Act → Fresh → Prop}
theorem wpAnyA_first {i:Nat} {oi:Oper} {v:Value} (hi:ops[i]? = some oi) (hna:isAl oi = false) (hsel:∀ (j:Nat) (o:Oper) cs b,ops[j]? = some o → o.op ≠ .select cs b)
  (hs:Region.sinkB md ops n = true) (hc:Region.chainB md ops n = true) (hn:n < ops.size) (hin:i < n)
  (hdone:∀ listed a R,L listed a R → ∀ j ∈ Region.ready md ops listed,n ≤ j) :
  ∀ (f:Nat) (listed:Array Bool) (a:Act) (R:Fresh),HeadInv md ops n listed →
   (∀ j oj,ops[j]? = some oj → j ≠ i → listed.getD j true = false → (∀ e ∈ oj.after,Region.binds md e = true → e.on ≠ i) → oi.apart ops oj = true) →
   i ∈ Region.ready md ops listed → YieldsR P ops W oi v a →
   wpAnyA P md ops W ob n L f (listed.setIfInBounds i true) (a.put oi.dst v) R → wpAnyA P md ops W ob n L (f + 1) listed a R:=by
 intro f
 induction f with
 | zero =>
  intro listed a R inv _ hr hy H
  refine ⟨fun h=>(by rw [h] at hr; cases hr),fun j hj=>?_⟩
  have hjn : j < n:=by
   rcases Nat.lt_or_ge j n with h | h
   ·exact h
   ·exact absurd hj (tail_waits hs hc hn inv _ i rfl hin (mem_ready.1 hr).1 j h)
  refine ⟨hjn,?_⟩
  by_cases hji : j = i
  ·subst hji; rw [aOp_no hi hna]; exact ⟨v,hy,H⟩
  ·have:=hdone _ _ _ H j (ready_mono hj hji)
   omega
 | succ f ih =>
  intro listed a R inv hfree hr hy H
  have hun:=(mem_ready.1 hr).1
  refine ⟨fun h=>(by rw [h] at hr; cases hr),fun j hj=>?_⟩
  have hjn : j < n:=by
   rcases Nat.lt_or_ge j n with h | h
   ·exact h
   ·exact absurd hj (tail_waits hs hc hn inv _ i rfl hin hun j h)
  refine ⟨hjn,?_⟩
  by_cases hji : j = i
  ·subst hji; rw [aOp_no hi hna]; exact ⟨v,hy,H⟩
  ·have h1:=(H.2 j (ready_mono hj hji)).2
   obtain ⟨hjun,oj,hoj,hall⟩:=mem_ready.1 hj
   have hnot : ∀ e ∈ oj.after,Region.binds md e = true → e.on ≠ i:=fun e he hb heq=>by
    have h1:=hall e he hb
    rw [heq,getD_both hun] at h1
    cases h1
   have hap:=hfree j oj hoj hji hjun hnot
   obtain ⟨a1,a2,a3⟩:=Oper.apart_spec hap
   have hsi:=fun cs b=>hsel i oi cs b hi
   have hsj:=fun cs b=>hsel j oj cs b hoj
   have keep : ∀ u,YieldsR P ops W oi v (a.put oj.dst u):=fun u=>hy.of_same (execOp_put oi hsi a oj.dst u a3) (wanted_put oi a oj.dst u a3)
   have hfree' : ∀ k ok,ops[k]? = some ok → k ≠ i → (listed.setIfInBounds j true).getD k true = false →
     (∀ e ∈ ok.after,Region.binds md e = true → e.on ≠ i) → oi.apart ops ok = true:=fun k ok hk hki hun hno=>by
    refine hfree k ok hk hki ?_ hno
    by_cases hjk : j = k
    ·subst hjk; exact hjun
    ·rw [getD_set_ne true hjk] at hun; exact hun
   cases ha : isAl oj with
   | true =>
    rw [aOp_al hoj ha] at h1 ⊢
    intro g hg hR
    refine ih (listed.setIfInBounds j true) _ _ (inv.set hj hjn) hfree' (ready_mono hr (Ne.symm hji)) (keep _) ?_
    rw [Array.setIfInBounds_comm _ _ hji,← Act.put_comm a v _ a2]
    exact h1 g hg hR
   | false =>
    rw [aOp_no hoj ha] at h1 ⊢
    obtain ⟨u,hu,hK⟩:=h1
    refine ⟨u,hu.of_same (execOp_put oj hsj a oi.dst v a1).symm (wanted_put oj a oi.dst v a1).symm,?_⟩
    refine ih (listed.setIfInBounds j true) _ _ (inv.set hj hjn) hfree' (ready_mono hr (Ne.symm hji)) (keep _) ?_
    rw [Array.setIfInBounds_comm _ _ hji,← Act.put_comm a v _ a2]
    exact hK
theorem wpAnyA_firstAl {i:Nat} {oi:Oper} (hi:ops[i]? = some oi) (hia:isAl oi = true)
  (hs:Region.sinkB md ops n = true) (hc:Region.chainB md ops n = true) (hn:n < ops.size) (hin:i < n)
  (hdone:∀ listed a R,L listed a R → ∀ j ∈ Region.ready md ops listed,n ≤ j) :
  ∀ (f:Nat) (listed:Array Bool) (a:Act) (R:Fresh),HeadInv md ops n listed →
   (∀ j oj,ops[j]? = some oj → j ≠ i → listed.getD j true = false → (∀ e ∈ oj.after,Region.binds md e = true → e.on ≠ i) → oi.apart ops oj = true) →
   (∀ j oj,ops[j]? = some oj → j < n → listed.getD j true = false → isAl oj = true) →
   i ∈ Region.ready md ops listed →
   (∀ g,W.heap.size ≤ g → R g = none → wpAnyA P md ops W ob n L f (listed.setIfInBounds i true) (a.put oi.dst (ptr g)) (upd R g (ob i))) → wpAnyA P md ops W ob n L (f + 1) listed a R:=by
 intro f
 induction f with
 | zero =>
  intro listed a R inv _ hAll hr H
  have hun:=(mem_ready.1 hr).1
  refine ⟨fun h=>(by rw [h] at hr; cases hr),fun j hj=>?_⟩
  have hjn : j < n:=by
   rcases Nat.lt_or_ge j n with h | h
   ·exact h
   ·exact absurd hj (tail_waits hs hc hn inv _ i rfl hin hun j h)
  refine ⟨hjn,?_⟩
  by_cases hji : j = i
  ·subst hji; rw [aOp_al hi hia]; exact H
  ·obtain ⟨hjun,oj,hoj,_⟩:=mem_ready.1 hj
   rw [aOp_al hoj (hAll j oj hoj hjn hjun)]
   intro g hg hR
   have:=hdone _ _ _ (H g hg hR) j (ready_mono hj hji)
   omega
 | succ f ih =>
  intro listed a R inv hfree hAll hr H
  have hun:=(mem_ready.1 hr).1
  refine ⟨fun h=>(by rw [h] at hr; cases hr),fun j hj=>?_⟩
  have hjn : j < n:=by
   rcases Nat.lt_or_ge j n with h | h
   ·exact h
   ·exact absurd hj (tail_waits hs hc hn inv _ i rfl hin hun j h)
  refine ⟨hjn,?_⟩
  by_cases hji : j = i
  ·subst hji; rw [aOp_al hi hia]; exact H
  ·obtain ⟨hjun,oj,hoj,hall⟩:=mem_ready.1 hj
   have hnot : ∀ e ∈ oj.after,Region.binds md e = true → e.on ≠ i:=fun e he hb heq=>by
    have h1:=hall e he hb
    rw [heq,getD_both hun] at h1
    cases h1
   obtain ⟨a1,a2,a3⟩:=Oper.apart_spec (hfree j oj hoj hji hjun hnot)
   have hja:=hAll j oj hoj hjn hjun
   rw [aOp_al hoj hja]
   intro g hg hR
   refine ih (listed.setIfInBounds j true) _ _ (inv.set hj hjn) (fun k ok hk hki hun hno=>hfree k ok hk hki (by
    by_cases hjk : j = k
    ·subst hjk; exact hjun
    ·rw [getD_set_ne true hjk] at hun; exact hun) hno) (fun k ok hk hkn hun=>hAll k ok hk hkn (by
    by_cases hjk : j = k
    ·subst hjk; exact hjun
    ·rw [getD_set_ne true hjk] at hun; exact hun)) (ready_mono hr (Ne.symm hji)) ?_
   intro gi hgi hRi
   have hne : gi ≠ g:=by
    rintro rfl
    rw [upd_same] at hRi
    cases hRi
   rw [upd_ne _ _ hne] at hRi
   have h1:=((H gi hgi hRi).2 j (ready_mono hj hji)).2
   rw [aOp_al hoj hja] at h1
   have h2:=h1 g hg (by rw [upd_ne _ _ (Ne.symm hne)]; exact hR)
   rw [Array.setIfInBounds_comm _ _ hji,← Act.put_comm a _ _ a2,upd_comm R _ _ (Ne.symm hne)]
   exact h2

/-! ### the order: the quiet ones,the new blocks,the tail -/
def alAt (ops:Array Oper) (k:Nat) : Bool:=(ops[k]?.map isAl).getD true
def piB (md:Region.Mode) (ops:Array Oper) (g n:Nat) : List Nat → Array Bool → Bool
 | [],listed=>Region.seqB md ops g n listed
 | k :: ks,listed=>(Region.ready md ops listed).contains k && Region.free md ops listed k && decide (k < n) && piB md ops g n ks (listed.setIfInBounds k true)
def piB1 (md:Region.Mode) (ops:Array Oper) (g n:Nat) (ks2:List Nat) : List Nat → Array Bool → Bool
 | [],listed=>((List.range n).all fun j=>listed.getD j true || alAt ops j) && piB md ops g n ks2 listed
 | k :: ks,listed=>(Region.ready md ops listed).contains k && Region.free md ops listed k && decide (k < n) && !alAt ops k && piB1 md ops g n ks2 ks (listed.setIfInBounds k true)
def wpAl (ops:Array Oper) (W:World) (ob:Nat → Obj) (Lq:Act → Fresh → Prop) : List Nat → Act → Fresh → Prop
 | [],a,R=>Lq a R
 | k :: ks,a,R=>match ops[k]? with
  | none=>False
  | some o=>∀ g,W.heap.size ≤ g → R g = none → wpAl ops W ob Lq ks (a.put o.dst (ptr g)) (upd R g (ob k))
def wpQR (P:Program) (ops:Array Oper) (W:World) (Lq:Act → Prop) : List Nat → Act → Prop
 | [],a=>Lq a
 | k :: ks,a=>match ops[k]? with
  | none=>False
  | some o=>∃ v,YieldsR P ops W o v a ∧ wpQR P ops W Lq ks (a.put o.dst v)
theorem alAt_some {k:Nat} {o:Oper} (h:ops[k]? = some o) : alAt ops k = isAl o:=by simp [alAt,h]
theorem wpAnyA_al {g:Nat} {Lq:Act → Fresh → Prop} (hs:Region.sinkB md ops n = true) (hc:Region.chainB md ops n = true) (hn:n < ops.size) :
  ∀ (ks:List Nat) (listed:Array Bool) (a:Act) (R:Fresh),HeadInv md ops n listed → (∀ j oj,ops[j]? = some oj → j < n → listed.getD j true = false → isAl oj = true) →
  piB md ops g n ks listed = true → wpAl ops W ob Lq ks a R →
  wpAnyA P md ops W ob n (fun listed' a' R'=>Region.seqB md ops g n listed' = true ∧ Lq a' R') ks.length listed a R
 | [],listed,a,R,_,_,hB,h=>⟨hB,h⟩
 | k :: ks,listed,a,R,inv,hAll,hB,h=>by
  simp only [piB,Bool.and_eq_true,decide_eq_true_eq] at hB
  obtain ⟨⟨⟨hr,hf⟩,hkn⟩,hB'⟩:=hB
  have hr' : k ∈ Region.ready md ops listed:=by simpa using hr
  obtain ⟨hun,o,ho,_⟩:=mem_ready.1 hr'
  unfold wpAl at h
  simp only [ho] at h
  exact wpAnyA_firstAl ho (hAll k o ho hkn hun) hs hc hn hkn (fun listed' a' R' hL=>seqB_ready hL.1) ks.length listed a R inv (Region.free_spec ho hf) hAll hr'
   (fun g hg hR=>wpAnyA_al hs hc hn ks _ _ _ (inv.set hr' hkn) (fun j oj hj hjn hu=>hAll j oj hj hjn (by
    by_cases e : k = j
    ·subst e; exact hun
    ·rw [getD_set_ne true e] at hu; exact hu)) hB' (h g hg hR))
theorem wpAnyA_pi {g:Nat} {Lq:Act → Fresh → Prop} {ks2:List Nat} (hsel:Region.noSelect ops = true) (hs:Region.sinkB md ops n = true) (hc:Region.chainB md ops n = true) (hn:n < ops.size) {R:Fresh} :
  ∀ (ks:List Nat) (listed:Array Bool) (a:Act),HeadInv md ops n listed → piB1 md ops g n ks2 ks listed = true → wpQR P ops W (fun a'=>wpAl ops W ob Lq ks2 a' R) ks a →
  wpAnyA P md ops W ob n (fun listed' a' R'=>Region.seqB md ops g n listed' = true ∧ Lq a' R') (ks2.length + ks.length) listed a R
 | [],listed,a,inv,hB,h=>by
  simp only [piB1,Bool.and_eq_true,List.all_eq_true,List.mem_range,Bool.or_eq_true] at hB
  refine wpAnyA_al hs hc hn ks2 listed a R inv (fun j oj hj hjn hu=>?_) hB.2 h
  rcases hB.1 j hjn with e | e
  ·rw [hu] at e; cases e
  ·rwa [alAt_some hj] at e
 | k :: ks,listed,a,inv,hB,h=>by
  simp only [piB1,Bool.and_eq_true,decide_eq_true_eq,Bool.not_eq_true'] at hB
  obtain ⟨⟨⟨⟨hr,hf⟩,hkn⟩,hna⟩,hB'⟩:=hB
  have hr' : k ∈ Region.ready md ops listed:=by simpa using hr
  obtain ⟨hun,o,ho,_⟩:=mem_ready.1 hr'
  rw [alAt_some ho] at hna
  unfold wpQR at h
  simp only [ho] at h
  obtain ⟨v,hy,hK⟩:=h
  exact wpAnyA_first ho hna (Region.noSelect_spec hsel) hs hc hn hkn (fun listed' a' R' hL=>seqB_ready hL.1) (ks2.length + ks.length) listed a R inv (Region.free_spec ho hf) hr' hy
   (wpAnyA_pi hsel hs hc hn ks _ _ (inv.set hr' hkn) hB' hK)
/-! ### one value for all classes,out of the last frame -/
def dstB : List Oper → Nat → Bool
 | [],_=>true
 | o :: l,s=>(match o.dst with | some d=>decide (d < s) && l.all (fun o'=>o'.dst != some d) | none=>false) && dstB l s
theorem put_size (a:Act) (d:Option Tmp) (v:Value) : (a.put d v).tmps.size = a.tmps.size:=by cases d <;> simp [Act.put]
theorem put_get_ne (a:Act) {d:Tmp} (x:Option Tmp) (v:Value) (h:x ≠ some d) : (a.put x v).tmps[d]? = a.tmps[d]?:=by
 cases x with
 | none=>rfl
 | some y =>
  have : y ≠ d:=fun e=>h (by rw [e])
  simp [Act.put,this]
theorem quiet_keeps {C:World → Prop} {aF:Act} {d:Tmp} : ∀ (l:List Oper) (a:Act),l.all (fun o'=>o'.dst != some d) = true → wpQuiet P ops C (fun a'=>a' = aF) l a → aF.tmps[d]? = a.tmps[d]?
 | [],a,_,h=>by have h : a = aF:=h; rw [h]
 | o :: l,a,hd,h=>by
  simp only [List.all_cons,Bool.and_eq_true,bne_iff_ne] at hd
  unfold wpQuiet at h
  by_cases hw : Region.wanted o (yielded ops a.tmps) = true
  ·rw [if_pos hw] at h
   obtain ⟨v,_,h2⟩:=h
   exact (quiet_keeps l _ hd.2 h2).trans (put_get_ne a _ v hd.1)
  ·rw [if_neg hw] at h
   exact (quiet_keeps l _ hd.2 h).trans (put_get_ne a _ undef hd.1)
theorem wpQR_of {aF:Act} {Lq:Act → Prop} (hF:Lq aF) : ∀ (ks:List Nat) (l:List Oper) (a:Act),ks.map (fun k=>ops[k]?) = l.map some → dstB l a.tmps.size = true →
  (∀ R,wpQuiet P ops (CC W R) (fun a'=>a' = aF) l a) → wpQR P ops W Lq ks a
 | [],l,a,hl,_,h=>by
  have : l = []:=by simpa using hl.symm
  subst this
  have : a = aF:=h (fun _=>none)
  rw [this]
  exact hF
 | k :: ks,[],a,hl,_,h=>by cases hl
 | k :: ks,o :: l,a,hl,hd,h=>by
  simp only [List.map_cons,List.cons.injEq] at hl
  obtain ⟨ho,hl⟩:=hl
  simp only [dstB,Bool.and_eq_true] at hd
  obtain ⟨hd1,hd2⟩:=hd
  unfold wpQR
  simp only [ho]
  by_cases hw : Region.wanted o (yielded ops a.tmps) = true
  ·cases hdst : o.dst with
   | none=>rw [hdst] at hd1; cases hd1
   | some d =>
    rw [hdst] at hd1
    simp only [Bool.and_eq_true,decide_eq_true_eq] at hd1
    have hv : ∀ R,(∀ w,CC W R w → o.quietAt P a (CC W R) w (aF.tmps[d]?.getD undef)) ∧ wpQuiet P ops (CC W R) (fun a'=>a' = aF) l (a.put o.dst (aF.tmps[d]?.getD undef)):=fun R=>by
     have h1:=h R
     unfold wpQuiet at h1
     rw [if_pos hw] at h1
     obtain ⟨v,h2,h3⟩:=h1
     have h4:=quiet_keeps l _ hd1.2 h3
     have h5 : aF.tmps[d]? = some v:=by rw [h4,hdst]; simp [Act.put,hd1.1]
     rw [h5]
     exact ⟨h2,h3⟩
    refine ⟨aF.tmps[d]?.getD undef,.inl ⟨hw,fun R w hw'=>(hv R).1 w hw'⟩,?_⟩
    rw [← hdst]
    exact wpQR_of hF ks l _ hl (by rw [put_size]; exact hd2) (fun R=>(hv R).2)
  ·refine ⟨undef,.inr ⟨by simpa using hw,rfl⟩,wpQR_of hF ks l _ hl (by rw [put_size]; exact hd2) (fun R=>?_)⟩
   have h1:=h R
   unfold wpQuiet at h1
   rwa [if_neg hw] at h1
def allocB (md:Region.Mode) (ops:Array Oper) (n:Nat) (ks1 ks2:List Nat) : Bool :=
 Region.noSelect ops && decide (n < ops.size) && Region.sinkB md ops n && Region.chainB md ops n && piB1 md ops (ops.size - n) n ks2 ks1 (Array.replicate ops.size false) && decide (ks2.length + ks1.length = n) && (List.range n).all fun j=>ks2.contains j || !alAt ops j
theorem wp_region_alloc {id:Nat} {Q:Exit → Act → World → Prop} {a:Act} {w:World} {l:List Oper} (n:Nat) (ks1 ks2:List Nat) (l1:List Oper) (ob:Nat → Obj) (hm:P.follows .mixedOrders = true)
  (hB:allocB .any l.toArray n ks1 ks2 = true) (hl:ks1.map (fun k=>l.toArray[k]?) = l1.map some) (hal:∀ k,k ∈ ks2 → ∀ o,l.toArray[k]? = some o → AlF P l.toArray o (ob k)) (hd:dstB l1 a.tmps.size = true)
  (h:∃ aF,(∀ R,wpQuiet P l.toArray (CC w.drew R) (fun a'=>a' = aF) l1 a) ∧ wpAl l.toArray w.drew ob (fun a' R=>∀ w',CC w.drew R w' → wpList P l.toArray Q (l.drop n) a' w') ks2 aF (fun _=>none)) :
  (Code.region id l.toArray true).wp P Q a w:=by
 simp only [allocB,Bool.and_eq_true,decide_eq_true_eq,List.all_eq_true,List.mem_range] at hB
 obtain ⟨⟨⟨⟨⟨⟨hsel,hn⟩,hs⟩,hc⟩,hpi⟩,hlen⟩,hin⟩:=hB
 obtain ⟨aF,hq,hA⟩:=h
 have hn' : n < l.length:=by simpa using hn
 have hdl : (l.drop n).length = l.toArray.size - n:=by simp
 have inv0 : HeadInv .any l.toArray n (Array.replicate l.toArray.size false) :=
  ⟨by simp,fun j oj _ hl=>(by rw [getD_replicate_false] at hl; cases hl),fun t _ ht=>getD_in (by simpa using ht) (getD_replicate_false _ _)⟩
 have hal' : ∀ j o,j < n → l.toArray[j]? = some o → isAl o = true → AlF P l.toArray o (ob j):=fun j o hjn hj ha=>by
  have h1:=hin j hjn
  rw [alAt_some hj,ha] at h1
  exact hal j (by simpa using h1) o hj
 have H:=wpAnyA_pi (P:=P) (md:=.any) (W:=w.drew) (ob:=ob) (g:=l.toArray.size - n) (Lq:=fun a' R=>∀ w',CC w.drew R w' → wpList P l.toArray Q (l.drop n) a' w') (ks2:=ks2) hsel hs hc hn (R:=fun _=>none) ks1 _ a inv0 hpi
  (wpQR_of (P:=P) (W:=w.drew) (aF:=aF) hA ks1 l1 a hl hd hq)
 refine wp_region_any hm ?_
 have:=wpAny_of_A (P:=P) (Q':=Q) (g:=l.toArray.size - n) hal' (fun listed a' R w' hw' hL=>by
  have:=wpAny_of_seq (md:=.any) (Q':=Q) (l.drop n) n listed a' w' (fun j=>by simp [List.getElem?_drop]) (by rw [hdl]; exact hL.1) (hL.2 w' hw')
  rwa [hdl] at this) _ _ _ _ w.drew (⟨Below.refl _ _,fun g o hg=>by cases hg⟩ : CC w.drew (fun _=>none) w.drew) H
 rw [hlen,show n + (l.toArray.size - n) = l.toArray.size by omega] at this
 exact this
end
theorem picks_map {l:List Oper} (o0:Oper) : ∀ (ks:List Nat),ks.all (fun k=>decide (k < l.length)) = true → ks.map (fun k=>l.toArray[k]?) = (ks.map (fun k=>l.getD k o0)).map some
 | [],_=>rfl
 | k :: ks,h=>by
  simp only [List.all_cons,Bool.and_eq_true,decide_eq_true_eq] at h
  simp only [List.map_cons,picks_map o0 ks h.2,List.cons.injEq,and_true]
  simp [h.1]
theorem wp_region_allocs {P:Program} {id:Nat} {Q:Exit → Act → World → Prop} {a:Act} {w:World} {o0:Oper} {l:List Oper} (n:Nat) (ks1 ks2:List Nat) (ob:Nat → Obj) (hm:P.follows .mixedOrders = true)
  (hB:allocB .any (o0 :: l).toArray n ks1 ks2 = true) (hk:ks1.all (fun k=>decide (k < (o0 :: l).length)) = true) (hd:dstB (ks1.map (fun k=>(o0 :: l).getD k o0)) a.tmps.size = true) (hal:∀ k,k ∈ ks2 → ∀ o,(o0 :: l).toArray[k]? = some o → AlF P (o0 :: l).toArray o (ob k))
  (h:∃ aF,(∀ R,wpQuiet P (o0 :: l).toArray (CC w.drew R) (fun a'=>a' = aF) (ks1.map (fun k=>(o0 :: l).getD k o0)) a) ∧ wpAl (o0 :: l).toArray w.drew ob (fun a' R=>∀ w',CC w.drew R w' → wpList P (o0 :: l).toArray Q ((o0 :: l).drop n) a' w') ks2 aF (fun _=>none)) :
  (Code.region id (o0 :: l).toArray true).wp P Q a w :=
 wp_region_alloc n ks1 ks2 _ ob hm hB (picks_map o0 ks1 hk) hal hd h
theorem wpAl_cons {ops:Array Oper} {W:World} {ob:Nat → Obj} {Lq:Act → Fresh → Prop} {k:Nat} {ks:List Nat} {a:Act} {R:Fresh} {o:Oper} (ho:ops[k]? = some o)
  (h:∀ g,W.heap.size ≤ g → R g = none → wpAl ops W ob Lq ks (a.put o.dst (ptr g)) (upd R g (ob k))) : wpAl ops W ob Lq (k :: ks) a R:=by
 unfold wpAl
 simp only [ho]
 exact h
/-! ### operations in these classes -/
section
variable {P:Program} {W:World} {R:Fresh} {o:Oper} {a:Act} {K:Act → Prop}
theorem qa_loadA (ty:TypeId) (x:Operand) (ho:o.op = .load ty x) (g off:Nat) (hx:a.eval x = .pointer (some ⟨g,off,none⟩)) (t:TypeId) (cs:Array Value) (hr:Row W g t cs)
  (h1:∀ w,(isAgg ty).run P w = .ok true w) (sz:Nat) (h2:∀ w,(sizeOf ty).run P w = .ok sz w) (hs:off + sz ≤ cs.size) (v:Array Value) (hv:sub cs off sz = v) (hk:K (a.put o.dst (.agg v))) : o.quiet P a (CC W R) K:=by
 refine ⟨.agg v,fun w' hw'=>?_,hk⟩
 have hr':=Row.below hr hw'.1 hr.lt
 have hl:=run_loadCells_sub (P:=P) w' g off sz t cs hr' hs
 rw [hv] at hl
 unfold Oper.quietAt execOp
 simp only [ho,hx]
 simp [Instr.loadAt,Instr.sureAddr,loadVar,Sem.run_bind,h1,h2,hl,Oper.quietUpon]
theorem qa_load1 (ty:TypeId) (x:Operand) (ho:o.op = .load ty x) (g off:Nat) (hx:a.eval x = .pointer (some ⟨g,off,none⟩)) (t:TypeId) (cs:Array Value) (hr:Row W g t cs)
  (h1:∀ w,(isAgg ty).run P w = .ok false w) (v:Value) (hv:cs[off]? = some v) (hk:K (a.put o.dst v)) : o.quiet P a (CC W R) K:=by
 refine ⟨v,fun w' hw'=>?_,hk⟩
 have hc:=(Row.below hr hw'.1 hr.lt).cell off
 rw [hv] at hc
 unfold Oper.quietAt execOp
 simp only [ho,hx]
 simp [Instr.loadAt,Instr.sureAddr,loadVar,Sem.run_bind,h1,run_load,hc,Oper.quietUpon]
theorem qa_call (f:FuncId) (args:Array Value) (hrun:∀ w,(execOp a.eval o).run P w = .ok (.enter f args) w) (v:Value)
  (hc:∀ w',Below W.heap.size W w' → Calls P f args w' (fun e w''=>e = .returned v ∧ Below w'.heap.size w' w'')) (hk:K (a.put o.dst v)) : o.quiet P a (CC W R) K:=by
 refine ⟨v,fun w' hw'=>?_,hk⟩
 unfold Oper.quietAt
 rw [hrun]
 exact ⟨rfl,(hc w' hw'.1).mono fun e w'' h=>⟨h.1,cc_ext hw' h.2⟩⟩
end
end Go.Proofs.YtjpfhhndjpdmoaaGreatDoor
