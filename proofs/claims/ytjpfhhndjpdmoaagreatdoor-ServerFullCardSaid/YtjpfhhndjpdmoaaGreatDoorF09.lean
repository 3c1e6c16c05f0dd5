/- Part of the proof: Reduce,MontC,MontD,MontE. No conditions of its own. -/
import Derived.Test.YtjpfhhndjpdmoaaGreatDoorF08
namespace Go.Proofs.YtjpfhhndjpdmoaaGreatDoor
open Go.RowKit
set_option linter.unusedVariables false
set_option linter.unusedSimpArgs false

def redP (m neg a b:Nat) : Nat → Nat
 | 0=>0
 | i + 1=>redT m neg a (redP m neg a b i) (lim b i)
theorem redP_four (m neg a b:Nat) : redP m neg a b 4 = redA m neg a b:=rfl
theorem redP_lt {m neg a b:Nat} (hm:m < R256) (ha:a < R256) : ∀ i,redP m neg a b i < 2 * R256
 | 0=>by show 0 < 2 * R256; decide
 | i + 1=>redT_lt hm ha (redP_lt hm ha i) (lim_lt _ _)
structure ReSt (w wr:World) (g m neg ri a:Nat) (l:List Nat) : Prop where
 md : ModW wr g m neg ri
 r4 : Row wr w.heap.size 177 (AQ (nL a))
 r6 : RowN wr (w.heap.size + 1 + 1) 177 4
 r7 : Row wr (w.heap.size + 1 + 1 + 1) 289 (AQ l)
 bel : Below w.heap.size w wr
 lt : g < w.heap.size
theorem ReSt.set {w wr:World} {g m neg ri a:Nat} {l:List Nat} (k:ReSt w wr g m neg ri a l) (j x:Nat) : ReSt w (wr.setCell ⟨w.heap.size + 1 + 1 + 1,j,none⟩ (Q x)) g m neg ri a (l.set j x) :=
 ⟨⟨k.md.row.setOther _ _ (by have:=k.lt; simp; omega),k.md.md⟩,k.r4.setOther _ _ (by simp; omega),k.r6.setOther _ _ (by simp),k.r7.setQ j x,k.bel.setCell (by simp; omega) _,k.lt⟩
theorem ReSt.drew {w wr:World} {g m neg ri a:Nat} {l:List Nat} (k:ReSt w wr g m neg ri a l) : ReSt w wr.drew g m neg ri a l :=
 ⟨⟨k.md.row.drew,k.md.md⟩,k.r4.drew,k.r6.drew,k.r7.drew,k.bel.drew,k.lt⟩
theorem zer6 : AQ (rowT 0 0) = #[.int .u64 0,.int .u64 0,.int .u64 0,.int .u64 0,.int .u64 0,.int .u64 0]:=by kernel_rfl
theorem run_add64z (x y z k:Nat) (hz:(x + y) % 18446744073709551616 = z) (hk:(x + y) / 18446744073709551616 = k) (w:World) : (callFunc 188 #[Q x,Q y,.int .u64 0]).run Tryz.prog w = .ok (.value (.tuple #[Q z,Q k])) w:=by
 subst hz
 subst hk
 exact run_add64w x y 0 (by decide) w
theorem redA_lt {m neg ri a b:Nat} (h:MdS m neg ri) (hb:b < R256) (hab:a * b < m * R256) : redA m neg a b < 2 * m:=by
 obtain ⟨Q,hQ,hT⟩:=redA_mul (a:=a) h hb
 have hm0 : 0 < m:=by have:=h.big; omega
 have h1 : Q * m < R256 * m:=Nat.mul_lt_mul_of_pos_right hQ hm0
 have h2 : redA m neg a b * R256 < 2 * m * R256:=by rw [hT]; have:=Nat.mul_comm R256 m; have:=Nat.mul_assoc 2 m R256; omega
 exact Nat.lt_of_mul_lt_mul_right h2
theorem isAgg_u64 (w:World) : (isAgg 49).run Tryz.prog w = .ok false w:=by kernel_rfl
theorem sizeOf_u64 (w:World) : (sizeOf 49).run Tryz.prog w = .ok 1 w:=by kernel_rfl
theorem run_idx4 (n i:Nat) (hi:i < 4) (w:World) : (Instr.index 177 (.agg (AQ (nL n))) (.int .i64 (i:Int))).run Tryz.prog w = .ok (Q (lim n i)) w:=by
 have h1 : (0 : Int) ≤ (i:Int):=by omega
 have h2 : (i:Int) < 4:=by omega
 have h3 : (AQ (nL n))[i]? = some (Q (lim n i)):=by rw [AQ_get _ _ hi,nL_get _ _ hi]
 have h4:=nL_size n
 simp [Instr.index,go_sem,h1,h2,h3,h4,isAgg_u64,sizeOf_u64,run_underlying Tryz.underlying177]
 intro h
 omega
set_option maxRecDepth 100000 in
set_option maxHeartbeats 8000000 in
theorem reduce_any (w:World) (g m neg ri a b:Nat) (hM:ModW w g m neg ri) (ha:a < R256) (hb:b < R256) (hab:a * b < m * R256) :
  Calls Tryz.prog 146 #[.pointer (some ⟨g,0,none⟩),.agg (AQ (nL a)),.agg (AQ (nL b))] w fun e w'=>e = .returned (.agg (AQ (nL (redS m neg a b)))) ∧ Below w.heap.size w w':=by
 have s1:=nL_size a
 have s2:=nL_size b
 have s3:=sub_nL a
 have s4:=sub_nL b
 have HM:=Lib.hid hM
 have HA:=Lib.hid (⟨ha,hb,hab⟩ : _ ∧ _ ∧ _)
 have HLT:=Lib.hid hM.row.lt
 have hbel : Below w.heap.size w ((((w.alloc (.cells (AQ (nL a)) 177)).alloc (.cells (AQ (nL b)) 177)).alloc (.cells #[.int .u64 0,.int .u64 0,.int .u64 0,.int .u64 0] 177)).alloc (.cells #[.int .u64 0,.int .u64 0,.int .u64 0,.int .u64 0,.int .u64 0,.int .u64 0] 289)) :=
  (((((Below.refl _ w).alloc (Nat.le_refl _) _).alloc (by simp) _).alloc (by simp; omega) _).alloc (by simp; omega) _)
 have HS0:=Lib.hid (show ReSt w ((((w.alloc (.cells (AQ (nL a)) 177)).alloc (.cells (AQ (nL b)) 177)).alloc (.cells #[.int .u64 0,.int .u64 0,.int .u64 0,.int .u64 0] 177)).alloc (.cells #[.int .u64 0,.int .u64 0,.int .u64 0,.int .u64 0,.int .u64 0,.int .u64 0] 289)) g m neg ri a (rowT 0 0) from
  ⟨hM.below hbel,((Row.new _ _ _).alloc _).alloc _ |>.alloc _,(RowN.newAt _ _ _ _ (by simp)).alloc _,by rw [zer6]; exact Row.newAt _ _ _ _ (by simp),hbel,hM.row.lt⟩)
 clear hM ha hb hab hbel
 go_enter Tryz.func146,Tryz.ntmps146
 go_wp2_with fail
 go_loopg [22] 4 (fun gk t22 wr=>∃ i v : Nat,gk + i = 4 ∧ t22 = .int .i64 (i:Int) ∧ v ≤ 1 ∧ ReSt w wr g m neg ri a (rowT (redP m neg a b i) v))
 case atStart=>exact ⟨0,0,rfl,rfl,by decide,HS0.out⟩
 case round =>
  clear HS0
  obtain ⟨i,v,hi,rfl,hv,hS⟩:=hrel
  by_cases h4 : i < 4
  ·have i1 : (i:Int) < 4:=by omega
   have i0 : (0 : Int) ≤ (i:Int):=by omega
   obtain ⟨go,hgo⟩ : ∃ n,n = gk:=⟨_,rfl⟩
   have HGO:=Lib.hid hgo
   clear hgo
   obtain ⟨x,hx⟩ : ∃ x,x = lim b i:=⟨_,rfl⟩
   obtain ⟨T,hT⟩ : ∃ T,T = redP m neg a b i:=⟨_,rfl⟩
   have hbx : ∀ W,(Instr.index 177 (.agg (AQ (nL b))) (.int .i64 (i:Int))).run Tryz.prog W = .ok (Q x) W:=fun W=>by rw [hx]; exact run_idx4 b i h4 W
   have hxl : x < 18446744073709551616:=by rw [hx]; exact lim_lt _ _
   have hTl : T < 2 * R256:=by rw [hT]; exact redP_lt HM.out.md.low HA.out.1 i
   rw [← hT] at hS
   have HS:=Lib.hid hS
   have HX:=Lib.hid (⟨hi,h4,hv,hx,hT,hxl,hTl⟩ : _ ∧ _ ∧ _ ∧ _ ∧ _ ∧ _ ∧ _)
   have hr4:=hS.r4
   have hl4 : w.heap.size < wr.heap.size:=hS.r4.lt
   obtain ⟨SS,hSS⟩ : ∃ S,S = T + x * a:=⟨_,rfl⟩
   have HSS:=Lib.hid hSS
   clear hS hi hv hx hT hxl hTl hSS h4
   go_wp2_with fail
   go_loopg [10,26] 4 (fun gj t10 t26 wx=>∃ j : Nat,gj + j = 4 ∧ t10 = Q (caS T x a j) ∧ t26 = .int .i64 (j:Int) ∧ ReSt w wx g m neg ri a (row1 SS T v j))
   case atStart=>exact ⟨0,rfl,by rw [caS_zero]; rfl,rfl,HS.out⟩
   case round =>
    --<A
    clear HS hbx
    obtain ⟨j,hj,rfl,rfl,hR⟩:=hrel
    by_cases h4 : j < 4
    ·have j1 : (j:Int) < 4:=by omega
     have j0 : (0 : Int) ≤ (j:Int):=by omega
     have j2 : j < 6:=by omega
     obtain ⟨y,hy⟩ : ∃ y,y = lim a j:=⟨_,rfl⟩
     obtain ⟨t,ht⟩ : ∃ t,t = lim T j:=⟨_,rfl⟩
     obtain ⟨c,hc⟩ : ∃ c,c = caS T x a j:=⟨_,rfl⟩
     have hax : ∀ W,(Instr.index 177 (.agg (AQ (nL a))) (.int .i64 (j:Int))).run Tryz.prog W = .ok (Q y) W:=fun W=>by rw [hy]; exact run_idx4 a j h4 W
     have hyl : y < 18446744073709551616:=by rw [hy]; exact lim_lt _ _
     have htl : t < 18446744073709551616:=by rw [ht]; exact lim_lt _ _
     have hcl : c < 18446744073709551616:=by rw [hc]; exact caS_lt _ _ _ _ HX.out.2.2.2.2.2.1
     have hxl:=HX.out.2.2.2.2.2.1
     have hst:=caS_step T x a j
     rw [← hy,← ht,← hc] at hst
     have ham:=addMul (x * y) t c
     have hov:=addMul_lt hxl hyl htl hcl
     have hHM:=mul64_any x y hxl hyl
     obtain ⟨hi,hhi⟩ : ∃ h,h = x * y / 18446744073709551616:=⟨_,rfl⟩
     obtain ⟨lo,hlo⟩ : ∃ h,h = x * y % 18446744073709551616:=⟨_,rfl⟩
     rw [← hhi,← hlo] at hHM ham
     obtain ⟨l1,hl1⟩ : ∃ h,h = (lo + t) % 18446744073709551616:=⟨_,rfl⟩
     obtain ⟨k1,hk1⟩ : ∃ h,h = (lo + t) / 18446744073709551616:=⟨_,rfl⟩
     rw [← hl1,← hk1] at ham
     obtain ⟨z,hz⟩ : ∃ h,h = (l1 + c) % 18446744073709551616:=⟨_,rfl⟩
     obtain ⟨k2,hk2⟩ : ∃ h,h = (l1 + c) / 18446744073709551616:=⟨_,rfl⟩
     rw [← hz,← hk2] at ham
     have hzl : z = lim SS j:=by rw [ham.1,hst.1,HSS.out]
     obtain ⟨h1,hh1⟩ : ∃ h,h = hi + k1:=⟨_,rfl⟩
     obtain ⟨d,hd⟩ : ∃ h,h = h1 + k2:=⟨_,rfl⟩
     have hdc : d = caS T x a (j + 1):=by rw [hd,hh1,ham.2,hst.2]
     have hdl : d < 18446744073709551616:=by rw [hd,hh1,ham.2]; exact hov
     have f2:=run_add64z lo t l1 k1 hl1.symm hk1.symm
     have f3:=run_add64z l1 c z k2 hz.symm hk2.symm
     have e1 : IntKind.u64.wrap ((hi:Int) + (k1:Int)) = (h1:Int):=by rw [IntKind.wrap_u64]; omega
     have e2 : IntKind.u64.wrap ((h1:Int) + (k2:Int)) = (d:Int):=by rw [IntKind.wrap_u64]; omega
     have e3 : ((hi:Int) + (k1:Int)) % 18446744073709551616 = (h1:Int):=by omega
     have e4 : ((h1:Int) + (k2:Int)) % 18446744073709551616 = (d:Int):=by omega
     have cT : wr.cell? ⟨w.heap.size + 1 + 1 + 1,j,none⟩ = some (Q t):=by rw [hR.r7.cell,AQ_get _ _ (by show j < 6; omega),row1_get _ _ _ _ h4,ht]
     have fT : wr.frozen? ⟨w.heap.size + 1 + 1 + 1,j,none⟩ = false:=hR.r7.frozen j
     obtain ⟨X,hX⟩ : ∃ X,X = row1 SS T v j:=⟨_,rfl⟩
     have hr7 : Row wr (w.heap.size + 1 + 1 + 1) 289 (AQ X):=by rw [hX]; exact hR.r7
     have hs7 : (AQ X).size = 6:=by rw [hX]; rfl
     have hl7 : w.heap.size + 1 + 1 + 1 < wr.heap.size:=hR.r7.lt
     have HMU:=Lib.hid hHM
     have HR:=Lib.hid hR
     have HJ:=Lib.hid (⟨hj,h4,hzl,hdc⟩ : _ ∧ _ ∧ _ ∧ _)
     rw [← hc]
     clear hR hj h4 hHM ham hst hov hhi hlo hl1 hk1 hz hk2 hzl hh1 hd hdc hdl hy ht hc hyl htl hcl hxl hX
     go_wp2_with (go_at_call 187; refine (HMU.out _).mono ?_; rintro e w' ⟨rfl,rfl⟩)
     go_roundg (gk - 1)
     case measure=>have:=HJ.out; omega
     case rel=>exact ⟨j + 1,by have:=HJ.out; omega,by rw [← HJ.out.2.2.2],by go_num,by rw [← row1_step _ _ _ _ HJ.out.2.1,← HJ.out.2.2.1]; exact HR.out.set j z⟩
    ·obtain rfl : j = 4:=by omega
     have j1 : ¬ ((4 : Nat) : Int) < 4:=by omega
     obtain ⟨c,hc⟩ : ∃ c,c = caS T x a 4:=⟨_,rfl⟩
     obtain ⟨T5,hT5⟩ : ∃ c,c = T / R256:=⟨_,rfl⟩
     obtain ⟨h0,hh0⟩ : ∃ c,c = SS / R256 % 18446744073709551616:=⟨_,rfl⟩
     obtain ⟨h5,hh5⟩ : ∃ c,c = SS / R256 / 18446744073709551616:=⟨_,rfl⟩
     have hsum : T5 + c = SS / R256:=by rw [hT5,hc,HSS.out]; exact caS_four T x a HA.out.1
     have f4:=run_add64z T5 c h0 h5 (by rw [hsum,hh0]) (by rw [hsum,hh5])
     have cT4 : wr.cell? ⟨w.heap.size + 1 + 1 + 1,4,none⟩ = some (Q T5):=by rw [hR.r7.cell,hT5]; rfl
     have fT4 : wr.frozen? ⟨w.heap.size + 1 + 1 + 1,4,none⟩ = false:=hR.r7.frozen 4
     have fT5 : wr.frozen? ⟨w.heap.size + 1 + 1 + 1,5,none⟩ = false:=hR.r7.frozen 5
     obtain ⟨X,hX⟩ : ∃ X,X = row1 SS T v 4:=⟨_,rfl⟩
     have hr7 : Row wr (w.heap.size + 1 + 1 + 1) 289 (AQ X):=by rw [hX]; exact hR.r7
     have hs7 : (AQ X).size = 6:=by rw [hX]; rfl
     have hl7 : w.heap.size + 1 + 1 + 1 < wr.heap.size:=hR.r7.lt
     have HR:=Lib.hid hR
     have HH:=Lib.hid (⟨hh0,hh5⟩ : _ ∧ _)
     rw [← hc]
     clear hR hj h4 hc hT5 hsum hh0 hh5 hX
     go_upto_region 19 with (fail)
     obtain ⟨w2,hw2⟩ : ∃ W,W = (wr.setCell ⟨w.heap.size + 1 + 1 + 1,4,none⟩ (Q h0)).setCell ⟨w.heap.size + 1 + 1 + 1,5,none⟩ (Q h5):=⟨_,rfl⟩
     have HR2:=Lib.hid (show ReSt w w2 g m neg ri a (rowS SS) by
      rw [hw2,← row1_four SS T v,← HH.out.1,← HH.out.2]
      exact (HR.out.set 4 h0).set 5 h5)
     rw [← hw2]
     clear hw2 hr7 hs7 hl7 f4 cT4 fT4 fT5
     obtain ⟨S0,hS0⟩ : ∃ s,s = lim SS 0:=⟨_,rfl⟩
     obtain ⟨m0,hm0⟩ : ∃ s,s = lim m 0:=⟨_,rfl⟩
     obtain ⟨q,hq⟩ : ∃ q,q = redQ m neg a T x:=⟨_,rfl⟩
     have hqe : q = S0 * neg % 18446744073709551616:=by rw [hq,hS0,lim0_mod,HSS.out]; rfl
     have hql : q < 18446744073709551616:=by rw [hq]; exact redQ_lt _ _ _ _ _
     have hml : m0 < 18446744073709551616:=by rw [hm0]; exact lim_lt _ _
     have cS0 : w2.drew.cell? ⟨w.heap.size + 1 + 1 + 1,0,none⟩ = some (Q S0):=by rw [HR2.out.r7.drew.cell,hS0]; rfl
     have cNg : w2.drew.cell? ⟨g,4,none⟩ = some (Q neg):=by rw [HR2.out.md.row.drew.cell]; rfl
     have cM0 : w2.drew.cell? ⟨g,0,none⟩ = some (Q m0):=by rw [HR2.out.md.row.drew.cell,hm0]; rfl
     have eq1 : IntKind.u64.wrap ((S0:Int) * (neg:Int)) = (q:Int):=by rw [IntKind.wrap_u64,hqe]; simp
     have eq2 : ((S0:Int) * (neg:Int)) % 18446744073709551616 = (q:Int):=by rw [hqe]; simp
     have hst:=caS_step SS q m 0
     rw [caS_zero,← hS0,← hm0] at hst
     have ham:=addMul (q * m0) S0 0
     have hov:=addMul_lt hql hml (t:=S0) (c:=0) (by rw [hS0]; exact lim_lt _ _) (by decide)
     have hHM:=mul64_any q m0 hql hml
     obtain ⟨hi,hhi⟩ : ∃ h,h = q * m0 / 18446744073709551616:=⟨_,rfl⟩
     obtain ⟨lo,hlo⟩ : ∃ h,h = q * m0 % 18446744073709551616:=⟨_,rfl⟩
     rw [← hhi,← hlo] at hHM ham
     obtain ⟨l1,hl1⟩ : ∃ h,h = (lo + S0) % 18446744073709551616:=⟨_,rfl⟩
     obtain ⟨k1,hk1⟩ : ∃ h,h = (lo + S0) / 18446744073709551616:=⟨_,rfl⟩
     rw [← hl1,← hk1] at ham
     obtain ⟨d,hd⟩ : ∃ h,h = hi + k1:=⟨_,rfl⟩
     have hdc : d = caS SS q m 1:=by
      rw [← hst.2,← ham.2,hd]
      have : l1 < 18446744073709551616:=by rw [hl1]; exact Nat.mod_lt _ (by decide)
      omega
     have hdl : d < 18446744073709551616:=by rw [hdc]; exact caS_lt _ _ _ _ hql
     have f2:=run_add64z lo S0 l1 k1 hl1.symm hk1.symm
     have e1 : IntKind.u64.wrap ((hi:Int) + (k1:Int)) = (d:Int):=by rw [IntKind.wrap_u64]; omega
     have e3 : ((hi:Int) + (k1:Int)) % 18446744073709551616 = (d:Int):=by omega
     have HMU:=Lib.hid hHM
     have HQ:=Lib.hid (⟨hq,hql,hdc⟩ : _ ∧ _ ∧ _)
     clear hHM hst ham hov hhi hlo hl1 hk1 hd hdc hdl hq hqe hql hml hS0 hm0
     refine wp_region_qtail (fun w'=>w' = _) 7 (by kernel_rfl) (by kernel_rfl) rfl ?_
     simp only [List.take_succ_cons,List.take_zero,List.drop_succ_cons,List.drop_zero]
     repeat (first | go_big_quiet_skip | (go_big_quiet_want; go_big_quiet_op; go_big_quiet_on))
     refine wpQuiet_nil ?_
     rintro _ rfl
     go_wp2_with (go_at_call 187; refine (HMU.out _).mono ?_; rintro e w' ⟨rfl,rfl⟩)
     clear f2 e1 e3 eq1 eq2 cS0 cNg cM0
     obtain ⟨WW,hWW⟩ : ∃ W,W = SS + q * m:=⟨_,rfl⟩
     have HWW:=Lib.hid hWW
     clear hWW
     go_loopg [10,20] 3 (fun gk t10 t20 wx=>∃ j : Nat,gk + j = 4 ∧ 1 ≤ j ∧ t10 = Q (caS SS q m j) ∧ t20 = .int .i64 (j:Int) ∧ ReSt w wx g m neg ri a (row2 SS WW j))
     case atStart=>exact ⟨1,rfl,Nat.le_refl _,by rw [← HQ.out.2.2],rfl,by rw [row2_one]; exact HR2.out.drew⟩
     case round =>
      --<C
      clear HR2
      obtain ⟨j,hj,hj1,rfl,rfl,hR⟩:=hrel
      by_cases h4 : j < 4
      ·have j1 : (j:Int) < 4:=by omega
       have j0 : (0 : Int) ≤ (j:Int):=by omega
       have j2 : j < 6:=by omega
       obtain ⟨p,hp⟩ : ∃ p,p = j - 1:=⟨_,rfl⟩
       have p1 : (j:Int) - 1 = (p:Int):=by omega
       have p2 : (0 : Int) ≤ (p:Int):=by omega
       have p3 : (p:Int) < 6:=by omega
       have p4 : p < 6:=by omega
       obtain ⟨y,hy⟩ : ∃ y,y = lim m j:=⟨_,rfl⟩
       obtain ⟨t,ht⟩ : ∃ t,t = lim SS j:=⟨_,rfl⟩
       obtain ⟨c,hc⟩ : ∃ c,c = caS SS q m j:=⟨_,rfl⟩
       have hyl : y < 18446744073709551616:=by rw [hy]; exact lim_lt _ _
       have htl : t < 18446744073709551616:=by rw [ht]; exact lim_lt _ _
       have hql:=HQ.out.2.1
       have hcl : c < 18446744073709551616:=by rw [hc]; exact caS_lt _ _ _ _ hql
       have hst:=caS_step SS q m j
       rw [← hy,← ht,← hc] at hst
       have ham:=addMul (q * y) t c
       have hov:=addMul_lt hql hyl htl hcl
       have hHM:=mul64_any q y hql hyl
       obtain ⟨hi,hhi⟩ : ∃ h,h = q * y / 18446744073709551616:=⟨_,rfl⟩
       obtain ⟨lo,hlo⟩ : ∃ h,h = q * y % 18446744073709551616:=⟨_,rfl⟩
       rw [← hhi,← hlo] at hHM ham
       obtain ⟨l1,hl1⟩ : ∃ h,h = (lo + t) % 18446744073709551616:=⟨_,rfl⟩
       obtain ⟨k1,hk1⟩ : ∃ h,h = (lo + t) / 18446744073709551616:=⟨_,rfl⟩
       rw [← hl1,← hk1] at ham
       obtain ⟨z,hz⟩ : ∃ h,h = (l1 + c) % 18446744073709551616:=⟨_,rfl⟩
       obtain ⟨k2,hk2⟩ : ∃ h,h = (l1 + c) / 18446744073709551616:=⟨_,rfl⟩
       rw [← hz,← hk2] at ham
       have hzl : z = lim WW j:=by rw [ham.1,hst.1,HWW.out]
       obtain ⟨h1,hh1⟩ : ∃ h,h = hi + k1:=⟨_,rfl⟩
       obtain ⟨d,hd⟩ : ∃ h,h = h1 + k2:=⟨_,rfl⟩
       have hdc : d = caS SS q m (j + 1):=by rw [hd,hh1,ham.2,hst.2]
       have hdl : d < 18446744073709551616:=by rw [hd,hh1,ham.2]; exact hov
       have f2:=run_add64z lo t l1 k1 hl1.symm hk1.symm
       have f3:=run_add64z l1 c z k2 hz.symm hk2.symm
       have e1 : IntKind.u64.wrap ((hi:Int) + (k1:Int)) = (h1:Int):=by rw [IntKind.wrap_u64]; omega
       have e2 : IntKind.u64.wrap ((h1:Int) + (k2:Int)) = (d:Int):=by rw [IntKind.wrap_u64]; omega
       have e3 : ((hi:Int) + (k1:Int)) % 18446744073709551616 = (h1:Int):=by omega
       have e4 : ((h1:Int) + (k2:Int)) % 18446744073709551616 = (d:Int):=by omega
       have cT : wr.cell? ⟨w.heap.size + 1 + 1 + 1,j,none⟩ = some (Q t):=by rw [hR.r7.cell,AQ_get _ _ (by show j < 6; omega),row2_get _ _ _ hj1 h4,ht]
       have cM : wr.cell? ⟨g,j,none⟩ = some (Q y):=by
        rw [hR.md.row.cell,hy]
        have : j = 1 ∨ j = 2 ∨ j = 3:=by omega
        rcases this with rfl | rfl | rfl <;> rfl
       obtain ⟨X,hX⟩ : ∃ X,X = row2 SS WW j:=⟨_,rfl⟩
       have hr7 : Row wr (w.heap.size + 1 + 1 + 1) 289 (AQ X):=by rw [hX]; exact hR.r7
       have hs7 : (AQ X).size = 6:=by rw [hX]; rfl
       have hl7 : w.heap.size + 1 + 1 + 1 < wr.heap.size:=hR.r7.lt
       have HMU:=Lib.hid hHM
       have HR:=Lib.hid hR
       have HJ:=Lib.hid (⟨hj,hj1,h4,hzl,hdc,hp⟩ : _ ∧ _ ∧ _ ∧ _ ∧ _ ∧ _)
       rw [← hc]
       clear hR hj hj1 h4 hHM ham hst hov hhi hlo hl1 hk1 hz hk2 hzl hh1 hd hdc hdl hy ht hc hyl htl hcl hql hX hp
       go_wp2_with (go_at_call 187; refine (HMU.out _).mono ?_; rintro e w' ⟨rfl,rfl⟩)
       go_roundg (gk - 1)
       case measure=>have:=HJ.out; omega
       case rel=>exact ⟨j + 1,by have:=HJ.out; omega,by omega,by rw [← HJ.out.2.2.2.2.1],by go_num,by rw [← row2_step _ _ _ HJ.out.2.1 HJ.out.2.2.1,← HJ.out.2.2.2.1,← HJ.out.2.2.2.2.2]; exact HR.out.set p z⟩
      ·obtain rfl : j = 4:=by omega
       have j1 : ¬ ((4 : Nat) : Int) < 4:=by omega
       obtain ⟨c,hc⟩ : ∃ c,c = caS SS q m 4:=⟨_,rfl⟩
       obtain ⟨Y,hY⟩ : ∃ y,y = WW / R256:=⟨_,rfl⟩
       have hsum : SS / R256 + c = Y:=by rw [hc,hY,HWW.out]; exact caS_four SS q m HM.out.md.low
       obtain ⟨z,hz⟩ : ∃ z,z = (h0 + c) % 18446744073709551616:=⟨_,rfl⟩
       obtain ⟨k3,hk3⟩ : ∃ z,z = (h0 + c) / 18446744073709551616:=⟨_,rfl⟩
       obtain ⟨h6,hh6⟩ : ∃ z,z = h5 + k3:=⟨_,rfl⟩
       have hzY : z = Y % 18446744073709551616:=by have h1:=HH.out.1; have h2:=HH.out.2; omega
       have h6Y : h6 = Y / 18446744073709551616:=by have h1:=HH.out.1; have h2:=HH.out.2; omega
       have hTW : redT m neg a T x = WW / 18446744073709551616:=by rw [HWW.out,HSS.out,HQ.out.1]; rfl
       have h6l : h6 < 2:=by
        have h1 : redT m neg a T x < 2 * R256:=redT_lt HM.out.md.low HA.out.1 HX.out.2.2.2.2.2.2 HX.out.2.2.2.2.2.1
        rw [hTW] at h1
        rw [h6Y,hY,Nat.div_div_eq_div_mul,Nat.mul_comm,← Nat.div_div_eq_div_mul,Nat.div_lt_iff_lt_mul (by decide)]
        exact h1
       have h5l : h5 ≤ 1:=by
        have h1:=S_high HX.out.2.2.2.2.2.2 HX.out.2.2.2.2.2.1 HA.out.1
        rw [← HSS.out] at h1
        have h2:=HH.out.2
        omega
       have f5:=run_add64z h0 c z k3 hz.symm hk3.symm
       have e5 : IntKind.u64.wrap ((h5:Int) + (k3:Int)) = (h6:Int):=by rw [IntKind.wrap_u64]; omega
       have e6 : ((h5:Int) + (k3:Int)) % 18446744073709551616 = (h6:Int):=by omega
       have cT4 : wr.cell? ⟨w.heap.size + 1 + 1 + 1,4,none⟩ = some (Q h0):=by rw [hR.r7.cell,HH.out.1]; rfl
       obtain ⟨X,hX⟩ : ∃ X,X = row2 SS WW 4:=⟨_,rfl⟩
       have hr7 : Row wr (w.heap.size + 1 + 1 + 1) 289 (AQ X):=by rw [hX]; exact hR.r7
       have hx5 : (AQ X)[5]? = some (Q h5):=by rw [hX,HH.out.2]; rfl
       have cT5 : wr.cell? ⟨w.heap.size + 1 + 1 + 1,5,none⟩ = some (Q h5):=by rw [hr7.cell]; exact hx5
       have cT6 : (wr.setCell ⟨w.heap.size + 1 + 1 + 1,3,none⟩ (Q z)).cell? ⟨w.heap.size + 1 + 1 + 1,5,none⟩ = some (Q h5):=by
        rw [(hr7.setQ 3 z).cell,← hx5,← AQ_set,Array.getElem?_setIfInBounds_ne (by decide)]
       have hs7 : (AQ X).size = 6:=by rw [hX]; rfl
       have hl7 : w.heap.size + 1 + 1 + 1 < wr.heap.size:=hR.r7.lt
       have HR:=Lib.hid hR
       have HE:=Lib.hid (show ((row2 SS WW 4).set 3 z).set 4 h6 = rowT (redP m neg a b (i + 1)) h5 by
        rw [hzY,h6Y,row2_four SS WW Y hY,HH.out.2,← hTW,redP,← HX.out.2.2.2.2.1,← HX.out.2.2.2.1])
       have H5:=Lib.hid h5l
       rw [← hc]
       clear hR hj hj1 h4 hc hY hsum hz hk3 hh6 hzY h6Y hTW h6l h5l hX hx5
       go_wp2_with fail
       go_roundg (go - 1)
       case measure=>have:=HGO.out; have:=HX.out; omega
       case rel=>exact ⟨i + 1,h5,by have:=HGO.out; have:=HX.out; omega,by go_num,H5.out,by rw [← HE.out]; exact (HR.out.set 3 z).set 4 h6⟩
      --C>
    --A>
  ·obtain rfl : i = 4:=by omega
   have i1 : ¬ ((4 : Nat) : Int) < 4:=by omega
   rw [redP_four] at hS
   obtain ⟨T,hT⟩ : ∃ T,T = redA m neg a b:=⟨_,rfl⟩
   rw [← hT] at hS
   have hT2 : T < 2 * m:=by rw [hT]; exact redA_lt HM.out.md HA.out.2.1 HA.out.2.2
   have hmR:=HM.out.md.low
   have hT1 : T / R256 ≤ 1:=by
    have : T / R256 < 2:=Nat.div_lt_of_lt_mul (Nat.lt_trans hT2 (by rw [Nat.mul_comm R256 2]; exact Nat.mul_lt_mul_of_pos_left hmR (by decide)))
    omega
   have hTd:=Nat.div_add_mod T R256
   obtain ⟨ov,hov⟩ : ∃ o,o = T / R256:=⟨_,rfl⟩
   have HSH:=Lib.hid (fun W (h:ModW W g m neg ri)=>show Calls Tryz.prog 152 #[.pointer (some ⟨g,0,none⟩),.agg (AQ (nL T)),Q ov] W (fun e w'=>e = .returned (.agg (AQ (nL (redS m neg a b)))) ∧ Below W.heap.size W w') by
    have e : T % R256 + T / R256 * R256 = T:=by rw [Nat.mul_comm]; exact Nat.mod_add_div T R256
    have:=shrink_any W g m neg ri (T % R256) (T / R256) h (Nat.mod_lt _ (by decide)) hT1 (by rw [e]; exact hT2)
    rw [nL_mod,← hov,show T % R256 + ov * R256 = T by rw [hov]; exact e] at this
    rw [redS,← hT]
    exact this)
   obtain ⟨X,hX⟩ : ∃ X,X = rowT T v:=⟨_,rfl⟩
   have hr7d : Row wr.drew (w.heap.size + 1 + 1 + 1) 289 (AQ X):=by rw [hX]; exact hS.r7.drew
   have hs7 : (AQ X).size = 6:=by rw [hX]; rfl
   have hsX : sub (AQ X) 0 4 = AQ (nL T):=by rw [hX]; rfl
   have hz7 : 0 + 4 ≤ (AQ X).size:=by rw [hs7]; decide
   have cT4 : wr.drew.cell? ⟨w.heap.size + 1 + 1 + 1,4,none⟩ = some (Q ov):=by rw [hS.r7.drew.cell,hov]; rfl
   have hl7 : w.heap.size + 1 + 1 + 1 < wr.heap.size:=hS.r7.lt
   have HS:=Lib.hid hS
   have z1:=nL_size (redS m neg a b)
   have z2:=AQ_one (nL (redS m neg a b))
   have z3:=nL_size T
   clear hS hi hv hT hT2 hmR hT1 hTd hov hX
   go_upto_region 34 with (fail)
   refine wp_region_qtail (fun w'=>w' = wr.drew) 6 (by kernel_rfl) (by kernel_rfl) rfl ?_
   simp only [List.take_succ_cons,List.take_zero,List.drop_succ_cons,List.drop_zero]
   repeat (first | go_big_quiet_skip | (go_big_quiet_want; go_big_quiet_op; go_big_quiet_on))
   refine wpQuiet_nil ?_
   rintro _ rfl
   go_wp2_with (go_at_call 152; refine (HSH.out _ HS.out.drew.md).mono ?_; rintro e w8 ⟨rfl,hB8⟩; obtain ⟨zz,hzz,hzs⟩:=HS.out.drew.r6.below hB8 HS.out.drew.r6.lt; have hov6:=over_nL zz (redS m neg a b) hzs; have hlz:=hzz.lt; have HB8:=Lib.hid (HS.out.drew.bel.trans (hB8.mono HS.out.drew.bel.size)); clear hB8)
   exact ret_row (.inl rfl) rfl (w.heap.size + 1 + 1) _ _ 4 _ rfl (hzz.setRow _) Tryz.underlying177 rfl (by kernel_rfl) z1 ⟨rfl,bSetRow HB8.out (by omega) _⟩
end Go.Proofs.YtjpfhhndjpdmoaaGreatDoor

namespace Go.Proofs.YtjpfhhndjpdmoaaGreatDoor
open Go.RowKit
set_option linter.unusedVariables false
set_option linter.unusedSimpArgs false

theorem rest_mod (m c ri a:Nat) (h:c * ri % m = 1) : (a * (c * c % m) * ri % m * 1 * ri) % m = a % m:=by
 rw [Nat.mul_one,Nat.mod_mul_mod]
 have e1 : a * (c * c % m) * ri * ri = a * ri * ri * (c * c % m):=by ac_rfl
 rw [e1,Nat.mul_mod_mod]
 have e2 : a * ri * ri * (c * c) = a * (c * ri) * (c * ri):=by ac_rfl
 rw [e2,← Nat.mul_mod_mod,h,Nat.mul_one,← Nat.mul_mod_mod,h,Nat.mul_one]
theorem rest_law {m neg ri a:Nat} (h:MdS m neg ri) (ha:a < R256) : redS m neg (redS m neg a (R256 * R256 % m)) 1 = a % m ∧ redS m neg a (R256 * R256 % m) < m:=by
 have hm0 : 0 < m:=by have:=h.big; omega
 have ht : R256 * R256 % m < m:=Nat.mod_lt _ hm0
 have e1:=redS_eq (a:=a) (b:=R256 * R256 % m) h (Nat.lt_trans ht h.low) (by
  rw [Nat.mul_comm m R256]
  exact Nat.lt_of_le_of_lt (Nat.mul_le_mul_right _ (Nat.le_of_lt ha)) (Nat.mul_lt_mul_of_pos_left ht (by decide)))
 have hx : redS m neg a (R256 * R256 % m) < m:=by rw [e1]; exact Nat.mod_lt _ hm0
 refine ⟨?_,hx⟩
 rw [redS_eq h (by decide) (by rw [Nat.mul_one]; exact Nat.lt_of_lt_of_le hx (Nat.le_mul_of_pos_right _ (by decide))),e1]
 exact rest_mod m R256 ri a h.inv
theorem nL_one : AQ (nL 1) = #[.int .u64 1,.int .u64 0,.int .u64 0,.int .u64 0]:=by kernel_rfl
set_option maxRecDepth 100000 in
set_option maxHeartbeats 4000000 in
theorem rest_any (w:World) (g m neg ri a:Nat) (hM:ModW w g m neg ri) (ha:a < R256) :
  Calls Tryz.prog 92 #[.pointer (some ⟨g,0,none⟩),.agg (AQ (nL a))] w fun e w'=>e = .returned (.agg (AQ (nL (a % m)))) ∧ Below w.heap.size w w':=by
 have s1:=nL_size a
 have s2:=sub_nL a
 have s3:=modC_size m neg
 have s4:=modC_two m neg
 have HM:=Lib.hid hM
 have HLT:=Lib.hid hM.row.lt
 obtain ⟨hr,hxm⟩:=rest_law hM.md ha
 have hm0 : 0 < m:=by have:=hM.md.big; omega
 have ht : R256 * R256 % m < m:=Nat.mod_lt _ hm0
 have hlow:=hM.md.low
 have hab : a * (R256 * R256 % m) < m * R256:=by
  rw [Nat.mul_comm m R256]
  exact Nat.lt_of_le_of_lt (Nat.mul_le_mul_right _ (Nat.le_of_lt ha)) (Nat.mul_lt_mul_of_pos_left ht (by decide))
 have HC:=Lib.hid (fun W h=>reduce_any W g m neg ri a (R256 * R256 % m) h ha (Nat.lt_trans ht hlow) hab)
 have HD:=Lib.hid (fun W h=>reduce_any W g m neg ri (redS m neg a (R256 * R256 % m)) 1 h (Nat.lt_trans hxm hlow) (by decide) (by rw [Nat.mul_one]; exact Nat.lt_of_lt_of_le hxm (Nat.le_mul_of_pos_right _ (by decide))))
 rw [hr,nL_one] at HD
 obtain ⟨t,ht'⟩ : ∃ t,t = R256 * R256 % m:=⟨_,rfl⟩
 rw [← ht'] at s4 HC HD
 obtain ⟨x,hx⟩ : ∃ x,x = redS m neg a t:=⟨_,rfl⟩
 rw [← hx] at HC HD
 obtain ⟨y,hy⟩ : ∃ y,y = a % m:=⟨_,rfl⟩
 rw [← hy] at HD ⊢
 have q1:=AQ_one (nL x)
 have q2:=nL_size x
 have q3:=AQ_one (nL y)
 have q4:=nL_size y
 have q5:=AQ_one (nL a)
 have z44 : 0 + 4 ≤ (AQ (nL a)).size:=by rw [s1]; decide
 have z13 : 9 + 4 ≤ (modC m neg).size:=by rw [s3]; decide
 clear hM ha hr hxm hm0 ht hlow hab ht' hx hy
 go_enter Tryz.func92,Tryz.ntmps92
 go_upto_region 3 with (fail)
 obtain ⟨w0,hw0⟩ : ∃ W,W = (w.alloc (.cells (AQ (nL a)) 177)).alloc (.cells #[.int .u64 0,.int .u64 0,.int .u64 0,.int .u64 0] 177):=⟨_,rfl⟩
 rw [← hw0]
 have HR:=Lib.hid (show Row w0 w.heap.size 177 (AQ (nL a)) ∧ RowN w0 (w.heap.size + 1) 177 4 ∧ Below w.heap.size w w0 from by
  rw [hw0]
  exact ⟨(Row.new _ _ _).alloc _,RowN.newAt _ _ _ _ (by simp),((Below.refl _ w).alloc (Nat.le_refl _) _).alloc (by simp) _⟩)
 clear hw0
 have hra:=HR.out.1.drew
 have hla : w.heap.size < w0.heap.size:=HR.out.1.lt
 have hrm:=(HM.out.below HR.out.2.2).row.drew
 have hlm : g < w0.heap.size:=(HM.out.below HR.out.2.2).row.lt
 go_region_law (first
   | (refine wp_callQ 146 #[.pointer (some ⟨g,0,none⟩),.agg (AQ (nL a)),.agg (AQ (nL t))] ?_ ?_
      (focus (simp [go_sem]; done))
      refine (HC.out _ ((HM.out.below HR.out.2.2).below (Below.refl _ _).drew)).mono ?_
      rintro _ w2 ⟨rfl,hB⟩
      refine ⟨_,rfl,?_⟩
      have HN2:=Lib.hid (show RowN w2 (w.heap.size + 1) 177 4 ∧ Below w.heap.size w w2 from ⟨HR.out.2.1.drew.below hB HR.out.2.1.lt,HR.out.2.2.drew.trans (hB.mono HR.out.2.2.size)⟩)
      clear hB)
   | (refine wp_callQ 146 #[.pointer (some ⟨g,0,none⟩),.agg (AQ (nL x)),.agg #[.int .u64 1,.int .u64 0,.int .u64 0,.int .u64 0]] ?_ ?_
      (focus (simp [go_sem]; done))
      refine (HD.out _ (HM.out.below HN2.out.2)).mono ?_
      rintro _ w3 ⟨rfl,hB⟩
      refine ⟨_,rfl,?_⟩
      obtain ⟨zz,hzz,hzs⟩:=HN2.out.1.below hB HN2.out.1.lt
      have hov:=over_nL zz y hzs
      have hlz:=hzz.lt
      have HB3:=Lib.hid (HN2.out.2.trans (hB.mono HN2.out.2.size))
      clear hB)
   | fail)
 all_goals
  go_wp2_with fail
  exact ret_row (.inl rfl) rfl (w.heap.size + 1) _ _ 4 _ rfl (hzz.setRow _) Tryz.underlying177 rfl (by kernel_rfl) q4 ⟨rfl,bSetRow HB3.out (by omega) _⟩
end Go.Proofs.YtjpfhhndjpdmoaaGreatDoor

namespace Go.Proofs.YtjpfhhndjpdmoaaGreatDoor
open Go.RowKit
set_option linter.unusedVariables false
set_option linter.unusedSimpArgs false

theorem mul_mod3 (m c ri a b:Nat) (h:c * ri % m = 1) : (a * (c * c % m) * ri % m * (b % m) * ri) % m = a * b % m:=by
 have e0 : a * (c * c % m) * ri % m * (b % m) * ri = (a * (c * c % m) * ri % m) * ((b % m) * ri):=by ac_rfl
 rw [e0,Nat.mod_mul_mod]
 have e1 : a * (c * c % m) * ri * ((b % m) * ri) = a * ri * ri * (b % m) * (c * c % m):=by ac_rfl
 rw [e1,Nat.mul_mod_mod]
 have e3 : a * ri * ri * (b % m) * (c * c) = a * ri * ri * (c * c) * (b % m):=by ac_rfl
 rw [e3,Nat.mul_mod_mod]
 have e2 : a * ri * ri * (c * c) * b = a * b * (c * ri) * (c * ri):=by ac_rfl
 rw [e2,← Nat.mul_mod_mod,h,Nat.mul_one,← Nat.mul_mod_mod,h,Nat.mul_one]
theorem mul_law {m neg ri a b:Nat} (h:MdS m neg ri) (ha:a < R256) : redS m neg (redS m neg a (R256 * R256 % m)) (b % m) = a * b % m ∧ redS m neg a (R256 * R256 % m) < m ∧ redS m neg a (R256 * R256 % m) * (b % m) < m * R256:=by
 have hm0 : 0 < m:=by have:=h.big; omega
 have ht : R256 * R256 % m < m:=Nat.mod_lt _ hm0
 have e1:=redS_eq (a:=a) (b:=R256 * R256 % m) h (Nat.lt_trans ht h.low) (by
  rw [Nat.mul_comm m R256]
  exact Nat.lt_of_le_of_lt (Nat.mul_le_mul_right _ (Nat.le_of_lt ha)) (Nat.mul_lt_mul_of_pos_left ht (by decide)))
 have hx : redS m neg a (R256 * R256 % m) < m:=by rw [e1]; exact Nat.mod_lt _ hm0
 have hb : b % m < R256:=Nat.lt_trans (Nat.mod_lt _ hm0) h.low
 have hxb : redS m neg a (R256 * R256 % m) * (b % m) < m * R256:=Nat.lt_of_le_of_lt (Nat.mul_le_mul_right _ (Nat.le_of_lt hx)) (Nat.mul_lt_mul_of_pos_left hb hm0)
 refine ⟨?_,hx,hxb⟩
 rw [redS_eq h hb hxb,e1]
 exact mul_mod3 m R256 ri a b h.inv
set_option maxRecDepth 100000 in
set_option maxHeartbeats 4000000 in
theorem mul_any (w:World) (g m neg ri a b:Nat) (hM:ModW w g m neg ri) (ha:a < R256) (hb:b < R256) :
  Calls Tryz.prog 95 #[.pointer (some ⟨g,0,none⟩),.agg (AQ (nL a)),.agg (AQ (nL b))] w fun e w'=>e = .returned (.agg (AQ (nL (a * b % m)))) ∧ Below w.heap.size w w':=by
 have s1:=nL_size a
 have s2:=sub_nL a
 have s5:=nL_size b
 have s6:=sub_nL b
 have s3:=modC_size m neg
 have s4:=modC_two m neg
 have HM:=Lib.hid hM
 have HLT:=Lib.hid hM.row.lt
 obtain ⟨hr,hxm,hxb⟩:=mul_law (b:=b) hM.md ha
 have hm0 : 0 < m:=by have:=hM.md.big; omega
 have ht : R256 * R256 % m < m:=Nat.mod_lt _ hm0
 have hlow:=hM.md.low
 have hab : a * (R256 * R256 % m) < m * R256:=by
  rw [Nat.mul_comm m R256]
  exact Nat.lt_of_le_of_lt (Nat.mul_le_mul_right _ (Nat.le_of_lt ha)) (Nat.mul_lt_mul_of_pos_left ht (by decide))
 have HC:=Lib.hid (fun W h=>reduce_any W g m neg ri a (R256 * R256 % m) h ha (Nat.lt_trans ht hlow) hab)
 have HB:=Lib.hid (fun W h=>rest_any W g m neg ri b h hb)
 have HD:=Lib.hid (fun W h=>reduce_any W g m neg ri (redS m neg a (R256 * R256 % m)) (b % m) h (Nat.lt_trans hxm hlow) (Nat.lt_trans (Nat.mod_lt _ hm0) hlow) hxb)
 rw [hr] at HD
 obtain ⟨t,ht'⟩ : ∃ t,t = R256 * R256 % m:=⟨_,rfl⟩
 rw [← ht'] at s4 HC HD
 obtain ⟨x,hx⟩ : ∃ x,x = redS m neg a t:=⟨_,rfl⟩
 rw [← hx] at HC HD
 obtain ⟨y,hy⟩ : ∃ y,y = a * b % m:=⟨_,rfl⟩
 rw [← hy] at HD ⊢
 obtain ⟨z,hz⟩ : ∃ z,z = b % m:=⟨_,rfl⟩
 rw [← hz] at HD HB
 have q1:=AQ_one (nL x)
 have q2:=nL_size x
 have q3:=AQ_one (nL y)
 have q4:=nL_size y
 have q5:=AQ_one (nL a)
 have q6:=AQ_one (nL b)
 have q7:=AQ_one (nL z)
 have q8:=nL_size z
 have z44 : 0 + 4 ≤ (AQ (nL a)).size:=by rw [s1]; decide
 have z45 : 0 + 4 ≤ (AQ (nL b)).size:=by rw [s5]; decide
 have z13 : 9 + 4 ≤ (modC m neg).size:=by rw [s3]; decide
 clear hM ha hb hr hxm hxb hm0 ht hlow hab ht' hx hy hz
 go_enter Tryz.func95,Tryz.ntmps95
 go_upto_region 3 with (fail)
 obtain ⟨w0,hw0⟩ : ∃ W,W = ((w.alloc (.cells (AQ (nL a)) 177)).alloc (.cells (AQ (nL b)) 177)).alloc (.cells #[.int .u64 0,.int .u64 0,.int .u64 0,.int .u64 0] 177):=⟨_,rfl⟩
 rw [← hw0]
 have HR:=Lib.hid (show Row w0 w.heap.size 177 (AQ (nL a)) ∧ Row w0 (w.heap.size + 1) 177 (AQ (nL b)) ∧ RowN w0 (w.heap.size + 1 + 1) 177 4 ∧ Below w.heap.size w w0 from by
  rw [hw0]
  refine ⟨((Row.new _ _ _).alloc _).alloc _,?_,?_,(((Below.refl _ w).alloc (Nat.le_refl _) _).alloc (by simp) _).alloc (by simp; omega) _⟩
  ·have:=(Row.new (w.alloc (.cells (AQ (nL a)) 177)) 177 (AQ (nL b))).alloc (.cells #[.int .u64 0,.int .u64 0,.int .u64 0,.int .u64 0] 177)
   simpa using this
  ·exact RowN.newAt _ _ _ _ (by simp))
 clear hw0
 have hra:=HR.out.1.drew
 have hla : w.heap.size < w0.heap.size:=HR.out.1.lt
 have hrb:=HR.out.2.1.drew
 have hlb : w.heap.size + 1 < w0.heap.size:=HR.out.2.1.lt
 have hrm:=(HM.out.below HR.out.2.2.2).row.drew
 have hlm : g < w0.heap.size:=(HM.out.below HR.out.2.2.2).row.lt
 go_region_law (first
   | (refine wp_callQ 146 #[.pointer (some ⟨g,0,none⟩),.agg (AQ (nL a)),.agg (AQ (nL t))] ?_ ?_
      (focus (simp [go_sem]; done))
      refine (HC.out _ ((HM.out.below HR.out.2.2.2).below (Below.refl _ _).drew)).mono ?_
      rintro _ w2 ⟨rfl,hB⟩
      refine ⟨_,rfl,?_⟩
      have HN2:=Lib.hid (show RowN w2 (w.heap.size + 1 + 1) 177 4 ∧ Below w.heap.size w w2 from ⟨HR.out.2.2.1.drew.below hB HR.out.2.2.1.lt,HR.out.2.2.2.drew.trans (hB.mono HR.out.2.2.2.size)⟩)
      have hrb2:=hrb.below hB hrb.lt
      have hlb2:=hrb2.lt
      clear hB)
   | (refine wp_callQ 92 #[.pointer (some ⟨g,0,none⟩),.agg (AQ (nL b))] ?_ ?_
      (focus (simp [go_sem]; done))
      refine (HB.out _ (HM.out.below HN2.out.2)).mono ?_
      rintro _ w4 ⟨rfl,hB⟩
      refine ⟨_,rfl,?_⟩
      have HN4:=Lib.hid (show RowN w4 (w.heap.size + 1 + 1) 177 4 ∧ Below w.heap.size w w4 from ⟨HN2.out.1.below hB HN2.out.1.lt,HN2.out.2.trans (hB.mono HN2.out.2.size)⟩)
      clear hB)
   | (refine wp_callQ 146 #[.pointer (some ⟨g,0,none⟩),.agg (AQ (nL x)),.agg (AQ (nL z))] ?_ ?_
      (focus (simp [go_sem]; done))
      refine (HD.out _ (HM.out.below HN4.out.2)).mono ?_
      rintro _ w3 ⟨rfl,hB⟩
      refine ⟨_,rfl,?_⟩
      obtain ⟨zz,hzz,hzs⟩:=HN4.out.1.below hB HN4.out.1.lt
      have hov:=over_nL zz y hzs
      have hlz:=hzz.lt
      have HB3:=Lib.hid (HN4.out.2.trans (hB.mono HN4.out.2.size))
      clear hB)
   | fail)
 all_goals
  go_wp2_with fail
  exact ret_row (.inl rfl) rfl (w.heap.size + 1 + 1) _ _ 4 _ rfl (hzz.setRow _) Tryz.underlying177 rfl (by kernel_rfl) q4 ⟨rfl,bSetRow HB3.out (by omega) _⟩
end Go.Proofs.YtjpfhhndjpdmoaaGreatDoor

namespace Go.Proofs.YtjpfhhndjpdmoaaGreatDoor
open Go.RowKit
set_option linter.unusedVariables false
set_option linter.unusedSimpArgs false

theorem shr_sum {m x y:Nat} (hx:x < m) (hy:y < m) : shrS m (x + y) = (x + y) % m:=by
 unfold shrS
 split
 ·rename_i h; exact (Nat.mod_eq_of_lt h).symm
 ·rename_i h
  rw [Nat.mod_eq_sub_mod (by omega),Nat.mod_eq_of_lt (by omega)]
theorem add_law (m a b:Nat) (h:0 < m) : shrS m (a % m + b % m) = (a + b) % m:=by
 rw [shr_sum (Nat.mod_lt _ h) (Nat.mod_lt _ h),← Nat.add_mod]
structure AddSt (w W:World) (b:Nat) : Prop where
 r5 : Row W (w.heap.size + 1) 177 (AQ (nL b))
 r6 : RowN W (w.heap.size + 1 + 1) 177 4
 bel : Below w.heap.size w W
theorem AddSt.alloc {w W:World} {b:Nat} (k:AddSt w W b) (o:Obj) : AddSt w (W.alloc o) b:=⟨k.r5.alloc _,k.r6.alloc _,k.bel.alloc k.bel.size _⟩
theorem AddSt.drew {w W:World} {b:Nat} (k:AddSt w W b) : AddSt w W.drew b:=⟨k.r5.drew,k.r6.drew,k.bel.drew⟩
theorem AddSt.below {w W W':World} {b:Nat} (k:AddSt w W b) (hB:Below W.heap.size W W') : AddSt w W' b:=⟨k.r5.below hB k.r5.lt,k.r6.below hB k.r6.lt,k.bel.trans (hB.mono k.bel.size)⟩
theorem AddSt.setRow {w W:World} {b g:Nat} {cs:Array Value} (k:AddSt w W b) (h:w.heap.size + 1 + 1 < g) : AddSt w (W.setRow g cs) b:=⟨k.r5.setRowOther _ _ (by omega),k.r6.setRowOther _ _ (by omega),bSetRow k.bel (by omega) _⟩
set_option maxRecDepth 100000 in
set_option maxHeartbeats 4000000 in
theorem add_any (w:World) (g m neg ri a b:Nat) (hM:ModW w g m neg ri) (ha:a < R256) (hb:b < R256) :
  Calls Tryz.prog 96 #[.pointer (some ⟨g,0,none⟩),.agg (AQ (nL a)),.agg (AQ (nL b))] w fun e w'=>e = .returned (.agg (AQ (nL ((a + b) % m)))) ∧ Below w.heap.size w w':=by
 have s1:=nL_size a
 have s2:=sub_nL a
 have s5:=nL_size b
 have s6:=sub_nL b
 have HM:=Lib.hid hM
 have HLT:=Lib.hid hM.row.lt
 have hm0 : 0 < m:=by have:=hM.md.big; omega
 have hlow:=hM.md.low
 have HA:=Lib.hid (fun W h=>rest_any W g m neg ri a h ha)
 have HB:=Lib.hid (fun W h=>rest_any W g m neg ri b h hb)
 obtain ⟨x,hx⟩ : ∃ x,x = a % m:=⟨_,rfl⟩
 obtain ⟨z,hz⟩ : ∃ z,z = b % m:=⟨_,rfl⟩
 have hl:=add_law m a b hm0
 rw [← hx] at HA hl
 rw [← hz] at HB hl
 have hxm : x < m:=by rw [hx]; exact Nat.mod_lt _ hm0
 have hzm : z < m:=by rw [hz]; exact Nat.mod_lt _ hm0
 obtain ⟨y,hy⟩ : ∃ y,y = (a + b) % m:=⟨_,rfl⟩
 rw [← hy] at hl ⊢
 have hs2 : x + z < 2 * m:=by omega
 have hov1 : (x + z) / R256 ≤ 1:=by
  have : (x + z) / R256 < 2:=Nat.div_lt_of_lt_mul (Nat.lt_trans hs2 (by rw [Nat.mul_comm R256 2]; exact Nat.mul_lt_mul_of_pos_left hlow (by decide)))
  omega
 have hC:=fun W=>nadd_any W x z
 have hcy:=cyS_four x z (Nat.lt_trans hxm hlow) (Nat.lt_trans hzm hlow)
 obtain ⟨s,hs⟩ : ∃ s,s = x + z:=⟨_,rfl⟩
 rw [← hs] at hC hcy hs2 hov1 hl
 obtain ⟨ov,hov⟩ : ∃ o,o = s / R256:=⟨_,rfl⟩
 rw [hcy,← hov] at hC
 have HC:=Lib.hid hC
 have HSH:=Lib.hid (fun W (h:ModW W g m neg ri)=>show Calls Tryz.prog 152 #[.pointer (some ⟨g,0,none⟩),.agg (AQ (nL s)),Q ov] W (fun e w'=>e = .returned (.agg (AQ (nL y))) ∧ Below W.heap.size W w') by
  have e : s % R256 + s / R256 * R256 = s:=by rw [Nat.mul_comm]; exact Nat.mod_add_div s R256
  have:=shrink_any W g m neg ri (s % R256) (s / R256) h (Nat.mod_lt _ (by decide)) hov1 (by rw [e]; exact hs2)
  rw [nL_mod,← hov,show s % R256 + ov * R256 = s by rw [hov]; exact e,hl] at this
  exact this)
 have q1:=AQ_one (nL x)
 have q2:=nL_size x
 have q3:=AQ_one (nL y)
 have q4:=nL_size y
 have q5:=AQ_one (nL a)
 have q6:=AQ_one (nL b)
 have q7:=AQ_one (nL z)
 have q8:=nL_size z
 have q9:=AQ_one (nL s)
 have q10:=nL_size s
 have q11:=sub_nL s
 have z44 : 0 + 4 ≤ (AQ (nL a)).size:=by rw [s1]; decide
 have z45 : 0 + 4 ≤ (AQ (nL b)).size:=by rw [s5]; decide
 have z46 : 0 + 4 ≤ (AQ (nL s)).size:=by rw [q10]; decide
 have ov0:=over_nL #[.int .u64 0,.int .u64 0,.int .u64 0,.int .u64 0] s rfl
 clear hM ha hb hm0 hlow hx hy hz hl hxm hzm hs2 hov1 hcy hs hov hC
 go_enter Tryz.func96,Tryz.ntmps96
 go_upto_region 3 with (fail)
 obtain ⟨w0,hw0⟩ : ∃ W,W = ((w.alloc (.cells (AQ (nL a)) 177)).alloc (.cells (AQ (nL b)) 177)).alloc (.cells #[.int .u64 0,.int .u64 0,.int .u64 0,.int .u64 0] 177):=⟨_,rfl⟩
 rw [← hw0]
 have hra0 : Row w0 w.heap.size 177 (AQ (nL a)):=by rw [hw0]; exact ((Row.new _ _ _).alloc _).alloc _
 have HR:=Lib.hid (show AddSt w w0 b from by
  rw [hw0]
  refine ⟨?_,?_,(((Below.refl _ w).alloc (Nat.le_refl _) _).alloc (by simp) _).alloc (by simp; omega) _⟩
  ·have:=(Row.new (w.alloc (.cells (AQ (nL a)) 177)) 177 (AQ (nL b))).alloc (.cells #[.int .u64 0,.int .u64 0,.int .u64 0,.int .u64 0] 177)
   simpa using this
  ·exact RowN.newAt _ _ _ _ (by simp))
 clear hw0
 have hra:=hra0.drew
 have hla : w.heap.size < w0.heap.size:=hra0.lt
 have hrb0:=HR.out.r5
 have hrb:=HR.out.r5.drew
 have hlb : w.heap.size + 1 < w0.heap.size:=HR.out.r5.lt
 go_cut [7,8] (fun t7 t8 wx=>∃ g7,t7 = .pointer (some ⟨g7,0,none⟩) ∧ t8 = Q ov ∧ Row wx g7 177 (AQ (nL s)) ∧ AddSt w wx b)
 case first =>
  go_region_law (first
   | (refine wp_callQ 92 #[.pointer (some ⟨g,0,none⟩),.agg (AQ (nL a))] ?_ ?_
      (focus (simp [go_sem]; done))
      first
       | refine (HA.out _ (HM.out.below HR.out.drew.bel)).mono ?_
       | refine (HA.out _ (HM.out.below (HR.out.drew.alloc _).bel)).mono ?_
       | refine (HA.out _ (HM.out.below (HR.out.alloc _).drew.bel)).mono ?_
      rintro _ w2 ⟨rfl,hB⟩
      refine ⟨_,rfl,?_⟩
      have K2:=Lib.hid (show AddSt w w2 b from by first | exact HR.out.drew.below hB | exact (HR.out.drew.alloc _).below hB | exact (HR.out.alloc _).drew.below hB)
      have hrb2:=K2.out.r5
      have hlb2:=hrb2.lt
      (first
       | (have hz2:=(show Row w2 w0.heap.size 177 #[.int .u64 0,.int .u64 0,.int .u64 0,.int .u64 0] from by first | exact (Row.new w0.drew 177 #[.int .u64 0,.int .u64 0,.int .u64 0,.int .u64 0]).below hB (Row.new w0.drew 177 #[.int .u64 0,.int .u64 0,.int .u64 0,.int .u64 0]).lt | exact (Row.new w0 177 #[.int .u64 0,.int .u64 0,.int .u64 0,.int .u64 0]).drew.below hB (Row.new w0 177 #[.int .u64 0,.int .u64 0,.int .u64 0,.int .u64 0]).lt))
       | skip)
      clear hB)
   | (refine wp_callQ 92 #[.pointer (some ⟨g,0,none⟩),.agg (AQ (nL b))] ?_ ?_
      (focus (simp [go_sem]; done))
      first
       | refine (HB.out _ (HM.out.below K2.out.bel)).mono ?_
       | refine (HB.out _ (HM.out.below (K2.out.alloc _).bel)).mono ?_
      rintro _ w4 ⟨rfl,hB⟩
      refine ⟨_,rfl,?_⟩
      have K4:=Lib.hid (show AddSt w w4 b from by first | exact K2.out.below hB | exact (K2.out.alloc _).below hB)
      (first
       | (have hz4:=hz2.below hB hz2.lt)
       | (have hz4:=(Row.new w2 177 #[.int .u64 0,.int .u64 0,.int .u64 0,.int .u64 0]).below hB (Row.new w2 177 #[.int .u64 0,.int .u64 0,.int .u64 0,.int .u64 0]).lt)
       | skip)
      clear hB)
   | (refine wp_callQ 151 #[.agg (AQ (nL x)),.agg (AQ (nL z))] ?_ ?_
      (focus (simp [go_sem]; done))
      refine (HC.out _).mono ?_
      rintro _ w3 ⟨rfl,hB⟩
      refine ⟨_,rfl,?_⟩
      have K3:=Lib.hid (show AddSt w w3 b from by first | exact K4.out.below hB | exact (K4.out.alloc _).below hB)
      (first
       | (have hz3:=hz4.below hB hz4.lt)
       | (have hz3:=(Row.new w4 177 #[.int .u64 0,.int .u64 0,.int .u64 0,.int .u64 0]).below hB (Row.new w4 177 #[.int .u64 0,.int .u64 0,.int .u64 0,.int .u64 0]).lt)
       | skip)
      (first | (have hl3:=hz3.lt) | skip)
      clear hB)
   | fail)
  all_goals
   go_wp2_with fail
   go_meet
   case rel =>
    first
     | exact ⟨_,rfl,rfl,(Row.new w3 _ _).setRow _,(K3.out.alloc _).setRow (by have:=K3.out.r6.lt; omega)⟩
     | exact ⟨_,rfl,rfl,hz3.setRow _,K3.out.setRow (by have:=HR.out.r6.lt; have:=K2.out.r6.lt; first | omega | (have:=K4.out.r6.lt; omega))⟩
     | trace_state
 case rest =>
  obtain ⟨g7,rfl,rfl,h7,hK⟩:=hcut
  have hl7:=h7.lt
  have KX:=Lib.hid hK
  clear hK hra hra0 hrb hrb0 hla hlb
  go_wp2_with (go_at_call 152; refine (HSH.out _ (HM.out.below KX.out.bel)).mono ?_; rintro e w8 ⟨rfl,hB8⟩; have K8:=Lib.hid (KX.out.below hB8); obtain ⟨zz,hzz,hzs⟩:=K8.out.r6; have hov6:=over_nL zz y hzs; have hlz:=hzz.lt; clear hB8)
  exact ret_row (.inl rfl) rfl (w.heap.size + 1 + 1) _ _ 4 _ rfl (hzz.setRow _) Tryz.underlying177 rfl (by kernel_rfl) q4 ⟨rfl,bSetRow K8.out.bel (by omega) _⟩
end Go.Proofs.YtjpfhhndjpdmoaaGreatDoor
