/- Part of the proof: MNew,CurveD. No conditions of its own. -/
import Derived.Test.YtjpfhhndjpdmoaaGreatDoorF14
namespace Go.Proofs.YtjpfhhndjpdmoaaGreatDoor
open Go.RowKit
set_option linter.unusedVariables false
set_option linter.unusedSimpArgs false

def invN (m0:Nat) : Nat → Nat
 | 0=>1
 | k + 1=>invN m0 k * ((18446744073709551618 - m0 * invN m0 k % 18446744073709551616) % 18446744073709551616) % 18446744073709551616
def negN (m:Nat) : Nat:=(18446744073709551616 - invN (lim m 0) 6) % 18446744073709551616
theorem invN_lt (m0 k:Nat) : invN m0 k < 18446744073709551616:=by
 cases k with
 | zero=>show 1 < 18446744073709551616; decide
 | succ k=>exact Nat.mod_lt _ (by decide)
theorem invN_run (m0 v:Nat) : IntKind.u64.wrap ((m0:Int) * (v:Int)) = ((m0 * v % 18446744073709551616 : Nat) : Int) ∧ IntKind.u64.wrap ((2 : Int) - ((m0 * v % 18446744073709551616 : Nat) : Int)) = (((18446744073709551618 - m0 * v % 18446744073709551616) % 18446744073709551616 : Nat) : Int):=by
 constructor
 ·rw [IntKind.wrap_u64]; simp
 ·rw [IntKind.wrap_u64]
  have:=Nat.mod_lt (m0 * v) (show 0 < 18446744073709551616 by decide)
  generalize m0 * v % 18446744073709551616 = p at this ⊢
  omega
def mdL (m neg one two:Nat) : List Nat:=nL m ++ ([neg] ++ (nL one ++ nL two))
def mdC (m neg one two:Nat) : Array Value:=AQ (mdL m neg one two)
theorem mdC_all (m neg:Nat) : mdC m neg (R256 % m) (R256 * R256 % m) = modC m neg:=rfl
theorem mdC_m (m neg one two:Nat) : sub (mdC m neg one two) 0 4 = AQ (nL m):=by unfold mdC mdL sub AQ; rfl
theorem mdC_neg (m neg:Nat) : (mdC m 0 0 0).setIfInBounds 4 (Q neg) = mdC m neg 0 0:=by unfold mdC; rw [AQ_set]; rfl
theorem mdC_one (m neg x:Nat) : over (mdC m neg 0 0) 5 (AQ (nL x)) = mdC m neg x 0:=by unfold mdC mdL over AQ; rfl
theorem mdC_two (m neg x y:Nat) : over (mdC m neg x 0) 9 (AQ (nL y)) = mdC m neg x y:=by unfold mdC mdL over AQ; rfl
def mdI (m neg i:Nat) : Array Value:=mdC m neg (if 256 < i then R256 % m else 0) 0
theorem mdI_R {w:World} {g m neg i:Nat} (h:Row w g 260 (mdI m neg i)) (hm:m < R256) : ModR w g m (mdI m neg i):=⟨h,rfl,mdC_m _ _ _ _,hm⟩
theorem pow_mod_succ (m i:Nat) (hm:0 < m) : shrS m ((2 ^ i % m + 2 ^ i % m) % R256 + (2 ^ i % m + 2 ^ i % m) / R256 * R256) = 2 ^ (i + 1) % m:=by
 have hl:=Nat.mod_lt (2 ^ i) hm
 rw [Nat.mul_comm _ R256,Nat.mod_add_div,shr_sum hl hl,← Nat.add_mod,Nat.pow_succ,Nat.mul_two]
theorem new_pow256 : R256 = 2 ^ 256:=by decide
theorem new_pow512 : R256 * R256 = 2 ^ 512:=by
 have h:=Nat.pow_add 2 256 256
 rw [show 256 + 256 = 512 from rfl] at h
 rw [new_pow256,h]
theorem Row.newE (w:World) (g:Nat) (t:TypeId) (X Y:Array Value) (hg:g = w.heap.size) (h:X = Y) : Row (w.alloc (.cells X t)) g t Y:=by subst h; exact Row.newAt _ _ _ _ hg
theorem mdI_low {m neg i:Nat} (h:i ≤ 256) : mdI m neg i = mdC m neg 0 0:=by unfold mdI; rw [if_neg (by omega)]
theorem mdI_high {m neg i:Nat} (h:256 < i) : mdI m neg i = mdC m neg (R256 % m) 0:=by unfold mdI; rw [if_pos h]
theorem neg_run (v m:Nat) (hv:v < 18446744073709551616) (h:(18446744073709551616 - v) % 18446744073709551616 = m) : IntKind.u64.wrap (-(v:Int)) = (m:Int):=by rw [IntKind.wrap_u64]; omega
theorem shrink_x {w:World} {g m a ov x:Nat} {C:Array Value} (hM:ModR w g m C) (ha:a < R256) (hov:ov ≤ 1) (hT:a + ov * R256 < 2 * m) (hx:x = shrS m (a + ov * R256)) :
  Calls Tryz.prog 152 #[.pointer (some ⟨g,0,none⟩),.agg (AQ (nL a)),Q ov] w fun e w'=>e = .returned (.agg (AQ (nL x))) ∧ Below w.heap.size w w':=by
 subst hx; exact shrink_row w g m a ov C hM ha hov hT
theorem shrink_1 {w:World} {g m:Nat} {C:Array Value} (hM:ModR w g m C) (h1:1 < m) :
  Calls Tryz.prog 152 #[.pointer (some ⟨g,0,none⟩),.agg #[.int .u64 1,.int .u64 0,.int .u64 0,.int .u64 0],.int .u64 0] w fun e w'=>e = .returned (.agg (AQ (nL 1))) ∧ Below w.heap.size w w':=by
 rw [one4n]
 have:=shrink_row w g m 1 0 C hM (by decide) (by decide) (by omega)
 rw [show shrS m (1 + 0 * R256) = 1 by unfold shrS; rw [Nat.zero_mul,Nat.add_zero,if_pos h1]] at this
 exact this
set_option maxRecDepth 100000 in
set_option maxHeartbeats 4000000 in
theorem new_any (w:World) (m ri:Nat) (hm:m < R256) (hodd:m % 2 = 1) (h1:¬ m = 1) (md:MdS m (negN m) ri) :
  Calls Tryz.prog 143 #[.agg (AQ (nL m))] w fun e w'=>∃ g,e = .returned (.tuple #[.pointer (some ⟨g,0,none⟩),.int .i64 0]) ∧ ModW w' g m (negN m) ri ∧ w.heap.size ≤ g ∧ Below w.heap.size w w':=by
 obtain ⟨m0,hm0⟩ : ∃ x,x = lim m 0:=⟨_,rfl⟩
 have f1 : bits .and .u64 (m0:Int) 1 = 1:=by have:=ba_one m0 (by rw [hm0]; exact lim_lt _ _); rw [this,hm0,lim0_even,hodd]; rfl
 have HM:=Lib.hid (⟨hm,hm0,md⟩ : _ ∧ _ ∧ _)
 have H1:=Lib.hid (show 1 < m by omega)
 have en1:=equal_num1 m hm
 clear hm hodd md hm0
 go_enter Tryz.func143,Tryz.ntmps143
 go_upto_region 1 with (fail)
 refine at_world (fun W=>Row W w.heap.size 177 (AQ (nL m)) ∧ W.heap.size = w.heap.size + 1 ∧ Below w.heap.size w W) ⟨Row.newAt _ _ _ _ rfl,by simp,(Below.refl _ w).alloc (Nat.le_refl _) _⟩ ?_
 rintro W1 ⟨i1,hs,hB⟩
 have HS:=Lib.hid hs
 have c0 : W1.cell? ⟨w.heap.size,0,none⟩ = some (Q m0):=by rw [i1.cell,HM.out.2.1]; rfl
 clear hs
 have en2 : (W1.heap.size) = w.heap.size + 1:=HS.out
 have HEN:=Lib.hid en2
 clear en2
 go_upto_region 4 with (fail)
 obtain ⟨g,hg⟩ : ∃ q_,q_ = W1.heap.size:=⟨_,rfl⟩
 refine at_world (fun W=>Row W w.heap.size 177 (AQ (nL m)) ∧ Row W g 260 (mdC m 0 0 0) ∧ Below w.heap.size w W) ⟨i1.alloc _,Row.newE _ _ _ _ _ hg (by kernel_rfl),hB.alloc (by have:=HS.out; omega) _⟩ ?_
 rintro W2 ⟨r1,rm,hB2⟩
 rw [← hg]
 have HG:=Lib.hid (show w.heap.size ≤ g ∧ w.heap.size ≠ g by have:=HS.out; omega)
 have c0 : W2.cell? ⟨w.heap.size,0,none⟩ = some (Q m0):=by rw [r1.cell,HM.out.2.1]; rfl
 clear hg i1 hB HS en1 f1
 (try clear c0_1)
 go_wp2_with fail
 go_loopg [5,22] 6 (fun gk t5 t22 wr=>∃ k : Nat,gk + k = 6 ∧ t5 = Q (invN m0 k) ∧ t22 = .int .i64 (k:Int) ∧ wr = W2)
 case atStart=>exact ⟨0,rfl,rfl,rfl,rfl⟩
 case round =>
  obtain ⟨k,hk,rfl,rfl,hwr⟩:=hrel
  subst hwr
  by_cases h6 : k < 6
  ·have k1 : (k:Int) < 6:=by omega
   have k0 : (0 : Int) ≤ (k:Int):=by omega
   obtain ⟨v,hv⟩ : ∃ v,v = invN m0 k:=⟨_,rfl⟩
   obtain ⟨e1,e2⟩:=invN_run m0 v
   obtain ⟨p,hp⟩ : ∃ p,p = m0 * v % 18446744073709551616:=⟨_,rfl⟩
   obtain ⟨q,hq⟩ : ∃ q,q = (18446744073709551618 - p) % 18446744073709551616:=⟨_,rfl⟩
   rw [← hp] at e1 e2
   rw [← hq] at e2
   obtain ⟨u,hu⟩ : ∃ u,u = v * q % 18446744073709551616:=⟨_,rfl⟩
   have e3 : IntKind.u64.wrap ((v:Int) * (q:Int)) = (u:Int):=by rw [IntKind.wrap_u64,hu]; simp
   have e1' : ((m0:Int) * (v:Int)) % 18446744073709551616 = (p:Int):=by rw [hp]; simp
   have e2' : ((2 : Int) - (p:Int)) % 18446744073709551616 = (q:Int):=by rw [← e2,IntKind.wrap_u64]
   have e3' : ((v:Int) * (q:Int)) % 18446744073709551616 = (u:Int):=by rw [hu]; simp
   have HU:=Lib.hid (show u = invN m0 (k + 1) by rw [hu,hq,hp,hv]; rfl)
   have HK:=Lib.hid hk
   rw [← hv]
   clear hv hp hq hu hk h6
   go_wp2_with fail
   go_roundg (gk - 1)
   case measure=>have:=HK.out; omega
   case rel=>exact ⟨k + 1,by have:=HK.out; omega,by rw [← HU.out],by go_num,rfl⟩
  ·obtain rfl : k = 6:=by omega
   have k1 : ¬ ((6 : Nat) : Int) < 6:=by omega
   obtain ⟨v,hv⟩ : ∃ v,v = invN m0 6:=⟨_,rfl⟩
   obtain ⟨neg,hneg⟩ : ∃ n,n = negN m:=⟨_,rfl⟩
   have en : IntKind.u64.wrap (-(v:Int)) = (neg:Int):=neg_run v neg (by rw [hv]; exact invN_lt _ _) (by rw [hneg,hv,HM.out.2.1]; rfl)
   have en' : (-(v:Int)) % 18446744073709551616 = (neg:Int):=by rw [← en,IntKind.wrap_u64]
   rw [← hv]
   have HNG:=Lib.hid hneg
   clear hv hneg hk h6
   have fm : wr.frozen? ⟨g,4,none⟩ = false:=rm.frozen 4
   have sm : (mdC m 0 0 0).size = 13:=rfl
   have lm:=rm.lt
   go_upto_region 10 with (fail)
   refine at_world (fun W=>Row W g 260 (mdI m neg 0) ∧ Below w.heap.size w W) ⟨by rw [mdI_low (by decide),← mdC_neg]; exact rm.set 4 (Q neg),hB2.setCell (by have:=HG.out; simp; omega) _⟩ ?_
   clear fm sm lm rm r1 hB2 c0
   rintro W3 ⟨rm,hB⟩
   refine wp_region_lex 3 ?_
   simp only [List.take_succ_cons,List.take_zero,List.drop_succ_cons,List.drop_zero]
   (first | go_big_quiet_skip | (go_big_quiet_want; go_big_quiet_op; first | go_big_quiet_on | (refine ⟨_,fun _ _=>rfl,?_⟩; go_big_quiet_on)))
   (first | go_big_quiet_skip | (go_big_quiet_want; go_big_quiet_op; first | go_big_quiet_on | (refine ⟨_,fun _ _=>rfl,?_⟩; go_big_quiet_on)))
   (go_big_quiet_want; refine qa_call _ _ ?_ _ (fun w' hb=>shrink_1 (mdI_R (rm.below hb rm.lt) HM.out.1) H1.out) ?_; (focus (intro w; simp [go_sem]; done)); (simp only [Act.put,lS]; go_big_quiet_on))
   refine wpQuiet_nil ?_
   intro V hcc
   replace rm:=rm.below hcc.1 rm.lt
   replace hB:=hB.trans (hcc.1.mono hB.size)
   clear hcc
   go_upto_region 11 with (fail)
   obtain ⟨g6,hg6⟩ : ∃ q_,q_ = V.heap.size:=⟨_,rfl⟩
   rw [← hg6]
   refine at_world (fun W=>Row W g6 177 (AQ (nL (2 ^ 0 % m))) ∧ Row W g 260 (mdI m neg 0) ∧ Below w.heap.size w W) ⟨by rw [Nat.pow_zero,Nat.mod_eq_of_lt H1.out]; exact (rowZ _ _ _ hg6).setRow _,(rm.alloc _).setRowOther _ _ (by have:=rm.lt; omega),bSetRow (hB.alloc hB.size _) (by have:=hB.size; omega) _⟩ ?_
   have HG6:=Lib.hid (show w.heap.size ≤ g6 ∧ g ≠ g6 by have:=hB.size; have:=rm.lt; omega)
   clear hg6 rm hB
   rintro W4 ⟨r6,rm,hB⟩
   go_wp2_with fail
   go_loopg [40] 512 (fun gk t40 wr=>∃ i : Nat,gk + i = 512 ∧ t40 = .int .i64 (i:Int) ∧ Row wr g6 177 (AQ (nL (2 ^ i % m))) ∧ Row wr g 260 (mdI m neg i) ∧ Below w.heap.size w wr)
   case atStart=>exact ⟨0,rfl,rfl,r6,rm,hB⟩
   case round =>
    clear r6 rm hB
    obtain ⟨i,hi,rfl,r6,rm,hB⟩:=hrel
    by_cases h512 : i < 512
    ·have i1 : (i:Int) < 512:=by omega
     have i0 : (0 : Int) ≤ (i:Int):=by omega
     have hpos : 0 < m:=by have:=H1.out; omega
     obtain ⟨r,hr⟩ : ∃ r,r = 2 ^ i % m:=⟨_,rfl⟩
     have br : r < R256:=by rw [hr]; exact Nat.lt_trans (Nat.mod_lt _ hpos) HM.out.1
     have hrm : r < m:=by rw [hr]; exact Nat.mod_lt _ hpos
     have hst:=pow_mod_succ m i hpos
     rw [← hr] at r6 hst
     obtain ⟨x52,h52⟩ : ∃ q_,q_ = (r + r) % R256:=⟨_,rfl⟩
     obtain ⟨c52,k52⟩ : ∃ q_,q_ = (r + r) / R256:=⟨_,rfl⟩
     have b52 : x52 < R256:=by rw [h52]; exact Nat.mod_lt _ (by decide)
     have d52 : c52 ≤ 1:=by rw [k52]; exact sum_top br br
     have t52 : x52 + c52 * R256 < 2 * m:=by rw [h52,k52,Nat.mul_comm,Nat.mod_add_div]; omega
     rw [← h52,← k52] at hst
     have H52:=Lib.hid (⟨h52,k52,hst.symm,b52,d52,t52⟩ : _ ∧ _ ∧ _ ∧ _ ∧ _ ∧ _)
     have HI:=Lib.hid hi
     have HR:=Lib.hid (⟨hr,br⟩ : _ ∧ _)
     clear h52 k52 hst b52 d52 t52 hi h512 hpos hrm br
     obtain ⟨i',hi'⟩ : ∃ j : Int,j = (i:Int):=⟨_,rfl⟩
     have sm : (mdI m neg i).size = 13:=rfl
     have lm:=rm.lt
     rcases Decidable.em (i = 256) with h256 | h256
     all_goals
      (first | (have ht:((i:Int) == 256) = true:=by rw [h256]; rfl) | (have ht:((i:Int) == 256) = false:=by simp; omega))
      have HT:=Lib.hid h256
      clear h256 hi' i'
      go_upto_region 16 with (fail)
      refine at_world (fun W=>Row W g6 177 (AQ (nL r)) ∧ Row W g 260 (mdI m neg (i + 1)) ∧ Below w.heap.size w W) ?hw ?go
      case hw =>
       first
        | (refine ⟨r6,?_,hB⟩
           have e : mdI m neg (i + 1) = mdI m neg i:=by
            unfold mdI
            by_cases h : 256 < i
            ·rw [if_pos h,if_pos (by omega)]
            ·rw [if_neg h,if_neg (by have:=HT.out; omega)]
           rw [e]
           exact rm)
        | (refine ⟨r6.setRowOther _ _ (by have:=HG6.out; omega),?_,bSetRow hB (by have:=HG.out; omega) _⟩
           have e : mdI m neg (i + 1) = over (mdI m neg i) 5 (AQ (nL r)):=by
            rw [mdI_high (i:=i + 1) (by have:=HT.out; omega),mdI_low (i:=i) (by have:=HT.out; omega),mdC_one]
            have h2 : R256 % m = r:=by rw [HR.out.1,HT.out,new_pow256]
            rw [h2]
           rw [e]
           first | exact rm.setRow _ | (rw [HR.out.1]; exact rm.setRow _))
      case go =>
      clear r6 rm hB sm lm
      rintro W5 ⟨r6,rm,hB⟩
      refine wp_region_lex 6 ?_
      simp only [List.take_succ_cons,List.take_zero,List.drop_succ_cons,List.drop_zero]
      (go_big_quiet_want; apply qn_load at_num rfl rfl r6 (hp_num r); (simp only [Act.put,lS]; go_big_quiet_on))
      (go_big_quiet_want; apply qn_load at_num rfl rfl r6 (hp_num r); (simp only [Act.put,lS]; go_big_quiet_on))
      (go_big_quiet_want; refine qa_call _ _ ?_ _ (fun w' hb=>add_t HR.out.2 HR.out.2 H52.out.1 H52.out.2.1) ?_; (focus (intro w; simp [go_sem]; done)); (simp only [Act.put,lS]; go_big_quiet_on))
      (first | go_big_quiet_skip | (go_big_quiet_want; go_big_quiet_op; first | go_big_quiet_on | (refine ⟨_,fun _ _=>rfl,?_⟩; go_big_quiet_on)))
      (first | go_big_quiet_skip | (go_big_quiet_want; go_big_quiet_op; first | go_big_quiet_on | (refine ⟨_,fun _ _=>rfl,?_⟩; go_big_quiet_on)))
      (first | go_big_quiet_skip | (go_big_quiet_want; go_big_quiet_op; first | go_big_quiet_on | (refine ⟨_,fun _ _=>rfl,?_⟩; go_big_quiet_on)))
      refine wpQuiet_nil ?_
      intro V2 hcc
      replace r6:=r6.below hcc.1 r6.lt
      replace rm:=rm.below hcc.1 rm.lt
      replace hB:=hB.trans (hcc.1.mono hB.size)
      clear hcc
      go_upto_region 17 with (fail)
      obtain ⟨g8,hg8⟩ : ∃ q_,q_ = V2.heap.size:=⟨_,rfl⟩
      rw [← hg8]
      refine at_world (fun W=>Row W g8 177 (AQ (nL x52)) ∧ Row W g6 177 (AQ (nL r)) ∧ Row W g 260 (mdI m neg (i + 1)) ∧ Below w.heap.size w W) ⟨(rowZ _ _ _ hg8).setRow _,(r6.alloc _).setRowOther _ _ (by have:=r6.lt; omega),(rm.alloc _).setRowOther _ _ (by have:=rm.lt; omega),bSetRow (hB.alloc hB.size _) (by have:=hB.size; omega) _⟩ ?_
      clear hg8 r6 rm hB
      rintro W6 ⟨r8,r6,rm,hB⟩
      refine wp_region_lex 4 ?_
      simp only [List.take_succ_cons,List.take_zero,List.drop_succ_cons,List.drop_zero]
      (first | go_big_quiet_skip | (go_big_quiet_want; go_big_quiet_op; first | go_big_quiet_on | (refine ⟨_,fun _ _=>rfl,?_⟩; go_big_quiet_on)))
      (go_big_quiet_want; apply qn_load at_num rfl rfl r8 (hp_num x52); (simp only [Act.put,lS]; go_big_quiet_on))
      (first | go_big_quiet_skip | (go_big_quiet_want; go_big_quiet_op; first | go_big_quiet_on | (refine ⟨_,fun _ _=>rfl,?_⟩; go_big_quiet_on)))
      (go_big_quiet_want; refine qa_call _ _ ?_ _ (fun w' hb=>shrink_x (mdI_R (rm.below hb rm.lt) HM.out.1) H52.out.2.2.2.1 H52.out.2.2.2.2.1 H52.out.2.2.2.2.2 H52.out.2.2.1) ?_; (focus (intro w; simp [go_sem]; done)); (simp only [Act.put,lS]; go_big_quiet_on))
      refine wpQuiet_nil ?_
      intro V3 hcc
      replace r6:=r6.below hcc.1 r6.lt
      replace rm:=rm.below hcc.1 rm.lt
      replace hB:=hB.trans (hcc.1.mono hB.size)
      clear hcc r8
      have l6:=r6.lt
      go_wp2_with fail
      go_roundg (gk - 1)
      case measure=>have:=HI.out; omega
      case rel=>exact ⟨i + 1,by have:=HI.out; omega,by go_num,r6.setRow _,rm.setRowOther _ _ (by have:=HG6.out; omega),bSetRow hB (by have:=HG6.out; omega) _⟩
    ·obtain rfl : i = 512:=by omega
     have i1 : ¬ ((512 : Nat) : Int) < 512:=by omega
     obtain ⟨r,hr⟩ : ∃ r,r = 2 ^ 512 % m:=⟨_,rfl⟩
     rw [← hr] at r6
     have HR:=Lib.hid hr
     rw [mdI_high (by decide)] at rm
     have sm : (mdC m neg (R256 % m) 0).size = 13:=rfl
     have lm:=rm.lt
     have ov:=mdC_two m neg (R256 % m) r
     have on1:=AQ_one (nL r)
     clear hr hi h512
     go_wp2_with fail
     go_ret2
     exact ⟨g,rfl,⟨by rw [← HNG.out,← mdC_all,new_pow512,← HR.out]; exact rm.setRow _,HM.out.2.2⟩,HG.out.1,bSetRow hB HG.out.1 _⟩
end Go.Proofs.YtjpfhhndjpdmoaaGreatDoor

namespace Go.Proofs.YtjpfhhndjpdmoaaGreatDoor
open Go.RowKit
set_option linter.unusedVariables false
set_option linter.unusedSimpArgs false

theorem list32v {α : Type} (l:List α) (h:l.length = 32) : ∃ x0 x1 x2 x3 x4 x5 x6 x7 x8 x9 x10 x11 x12 x13 x14 x15 x16 x17 x18 x19 x20 x21 x22 x23 x24 x25 x26 x27 x28 x29 x30 x31,l = [x0,x1,x2,x3,x4,x5,x6,x7,x8,x9,x10,x11,x12,x13,x14,x15,x16,x17,x18,x19,x20,x21,x22,x23,x24,x25,x26,x27,x28,x29,x30,x31]:=by
 obtain ⟨x0,l,rfl⟩:=List.exists_cons_of_length_eq_add_one (n:=31) h
 have h : l.length = 31:=by simpa using h
 obtain ⟨x1,l,rfl⟩:=List.exists_cons_of_length_eq_add_one (n:=30) h
 have h : l.length = 30:=by simpa using h
 obtain ⟨x2,l,rfl⟩:=List.exists_cons_of_length_eq_add_one (n:=29) h
 have h : l.length = 29:=by simpa using h
 obtain ⟨x3,l,rfl⟩:=List.exists_cons_of_length_eq_add_one (n:=28) h
 have h : l.length = 28:=by simpa using h
 obtain ⟨x4,l,rfl⟩:=List.exists_cons_of_length_eq_add_one (n:=27) h
 have h : l.length = 27:=by simpa using h
 obtain ⟨x5,l,rfl⟩:=List.exists_cons_of_length_eq_add_one (n:=26) h
 have h : l.length = 26:=by simpa using h
 obtain ⟨x6,l,rfl⟩:=List.exists_cons_of_length_eq_add_one (n:=25) h
 have h : l.length = 25:=by simpa using h
 obtain ⟨x7,l,rfl⟩:=List.exists_cons_of_length_eq_add_one (n:=24) h
 have h : l.length = 24:=by simpa using h
 obtain ⟨x8,l,rfl⟩:=List.exists_cons_of_length_eq_add_one (n:=23) h
 have h : l.length = 23:=by simpa using h
 obtain ⟨x9,l,rfl⟩:=List.exists_cons_of_length_eq_add_one (n:=22) h
 have h : l.length = 22:=by simpa using h
 obtain ⟨x10,l,rfl⟩:=List.exists_cons_of_length_eq_add_one (n:=21) h
 have h : l.length = 21:=by simpa using h
 obtain ⟨x11,l,rfl⟩:=List.exists_cons_of_length_eq_add_one (n:=20) h
 have h : l.length = 20:=by simpa using h
 obtain ⟨x12,l,rfl⟩:=List.exists_cons_of_length_eq_add_one (n:=19) h
 have h : l.length = 19:=by simpa using h
 obtain ⟨x13,l,rfl⟩:=List.exists_cons_of_length_eq_add_one (n:=18) h
 have h : l.length = 18:=by simpa using h
 obtain ⟨x14,l,rfl⟩:=List.exists_cons_of_length_eq_add_one (n:=17) h
 have h : l.length = 17:=by simpa using h
 obtain ⟨x15,l,rfl⟩:=List.exists_cons_of_length_eq_add_one (n:=16) h
 have h : l.length = 16:=by simpa using h
 obtain ⟨x16,l,rfl⟩:=List.exists_cons_of_length_eq_add_one (n:=15) h
 have h : l.length = 15:=by simpa using h
 obtain ⟨x17,l,rfl⟩:=List.exists_cons_of_length_eq_add_one (n:=14) h
 have h : l.length = 14:=by simpa using h
 obtain ⟨x18,l,rfl⟩:=List.exists_cons_of_length_eq_add_one (n:=13) h
 have h : l.length = 13:=by simpa using h
 obtain ⟨x19,l,rfl⟩:=List.exists_cons_of_length_eq_add_one (n:=12) h
 have h : l.length = 12:=by simpa using h
 obtain ⟨x20,l,rfl⟩:=List.exists_cons_of_length_eq_add_one (n:=11) h
 have h : l.length = 11:=by simpa using h
 obtain ⟨x21,l,rfl⟩:=List.exists_cons_of_length_eq_add_one (n:=10) h
 have h : l.length = 10:=by simpa using h
 obtain ⟨x22,l,rfl⟩:=List.exists_cons_of_length_eq_add_one (n:=9) h
 have h : l.length = 9:=by simpa using h
 obtain ⟨x23,l,rfl⟩:=List.exists_cons_of_length_eq_add_one (n:=8) h
 have h : l.length = 8:=by simpa using h
 obtain ⟨x24,l,rfl⟩:=List.exists_cons_of_length_eq_add_one (n:=7) h
 have h : l.length = 7:=by simpa using h
 obtain ⟨x25,l,rfl⟩:=List.exists_cons_of_length_eq_add_one (n:=6) h
 have h : l.length = 6:=by simpa using h
 obtain ⟨x26,l,rfl⟩:=List.exists_cons_of_length_eq_add_one (n:=5) h
 have h : l.length = 5:=by simpa using h
 obtain ⟨x27,l,rfl⟩:=List.exists_cons_of_length_eq_add_one (n:=4) h
 have h : l.length = 4:=by simpa using h
 obtain ⟨x28,l,rfl⟩:=List.exists_cons_of_length_eq_add_one (n:=3) h
 have h : l.length = 3:=by simpa using h
 obtain ⟨x29,l,rfl⟩:=List.exists_cons_of_length_eq_add_one (n:=2) h
 have h : l.length = 2:=by simpa using h
 obtain ⟨x30,l,rfl⟩:=List.exists_cons_of_length_eq_add_one (n:=1) h
 have h : l.length = 1:=by simpa using h
 obtain ⟨x31,l,rfl⟩:=List.exists_cons_of_length_eq_add_one (n:=0) h
 have h : l.length = 0:=by simpa using h
 obtain rfl : l = []:=List.eq_nil_of_length_eq_zero h
 exact ⟨x0,x1,x2,x3,x4,x5,x6,x7,x8,x9,x10,x11,x12,x13,x14,x15,x16,x17,x18,x19,x20,x21,x22,x23,x24,x25,x26,x27,x28,x29,x30,x31,rfl⟩
theorem build_lit (x0 x1 x2 x3 x4 x5 x6 x7 x8 x9 x10 x11 x12 x13 x14 x15 x16 x17 x18 x19 x20 x21 x22 x23 x24 x25 x26 x27 x28 x29 x30 x31 y0 y1 y2 y3 y4 y5 y6 y7 y8 y9 y10 y11 y12 y13 y14 y15 y16 y17 y18 y19 y20 y21 y22 y23 y24 y25 y26 y27 y28 y29 y30 y31:Value) (w:World) : (Instr.build 169 #[(0,.agg [x0,x1,x2,x3,x4,x5,x6,x7,x8,x9,x10,x11,x12,x13,x14,x15,x16,x17,x18,x19,x20,x21,x22,x23,x24,x25,x26,x27,x28,x29,x30,x31].toArray),(1,.agg [y0,y1,y2,y3,y4,y5,y6,y7,y8,y9,y10,y11,y12,y13,y14,y15,y16,y17,y18,y19,y20,y21,y22,y23,y24,y25,y26,y27,y28,y29,y30,y31].toArray)]).run Tryz.prog w = .ok (.agg [x0,x1,x2,x3,x4,x5,x6,x7,x8,x9,x10,x11,x12,x13,x14,x15,x16,x17,x18,x19,x20,x21,x22,x23,x24,x25,x26,x27,x28,x29,x30,x31,y0,y1,y2,y3,y4,y5,y6,y7,y8,y9,y10,y11,y12,y13,y14,y15,y16,y17,y18,y19,y20,y21,y22,y23,y24,y25,y26,y27,y28,y29,y30,y31].toArray) w:=by kernel_rfl
theorem build_pt {a b:List UInt8} (ha:a.length = 32) (hb:b.length = 32) (w:World) : (Instr.build 169 #[(0,.agg (AB a)),(1,.agg (AB b))]).run Tryz.prog w = .ok (.agg (ptC a b)) w:=by
 obtain ⟨x0,x1,x2,x3,x4,x5,x6,x7,x8,x9,x10,x11,x12,x13,x14,x15,x16,x17,x18,x19,x20,x21,x22,x23,x24,x25,x26,x27,x28,x29,x30,x31,ea⟩:=list32v (a.map B) (by simpa using ha)
 obtain ⟨y0,y1,y2,y3,y4,y5,y6,y7,y8,y9,y10,y11,y12,y13,y14,y15,y16,y17,y18,y19,y20,y21,y22,y23,y24,y25,y26,y27,y28,y29,y30,y31,eb⟩:=list32v (b.map B) (by simpa using hb)
 have e : (AB (a ++ b)) = [x0,x1,x2,x3,x4,x5,x6,x7,x8,x9,x10,x11,x12,x13,x14,x15,x16,x17,x18,x19,x20,x21,x22,x23,x24,x25,x26,x27,x28,x29,x30,x31,y0,y1,y2,y3,y4,y5,y6,y7,y8,y9,y10,y11,y12,y13,y14,y15,y16,y17,y18,y19,y20,y21,y22,y23,y24,y25,y26,y27,y28,y29,y30,y31].toArray:=by unfold AB; rw [List.map_append,ea,eb]; rfl
 unfold ptC
 rw [e]
 unfold AB
 rw [ea,eb]
 exact build_lit x0 x1 x2 x3 x4 x5 x6 x7 x8 x9 x10 x11 x12 x13 x14 x15 x16 x17 x18 x19 x20 x21 x22 x23 x24 x25 x26 x27 x28 x29 x30 x31 y0 y1 y2 y3 y4 y5 y6 y7 y8 y9 y10 y11 y12 y13 y14 y15 y16 y17 y18 y19 y20 y21 y22 y23 y24 y25 y26 y27 y28 y29 y30 y31 w
theorem run_pt {ρ : Operand → Value} {dst:Option Tmp} {x y:Operand} {type:TypeId} {pos:String} {after:Array Edge} {guard:Option (Nat × Bool)} {a b:List UInt8} (ha:a.length = 32) (hb:b.length = 32) (hx:ρ x = .agg (AB a)) (hy:ρ y = .agg (AB b)) (w:World) :
  (execOp ρ { dst,op:=.build 169 #[(0,x),(1,y)],type,pos,after,guard }).run Tryz.prog w = .ok (.value (.agg (ptC a b))) w:=by
 unfold execOp
 simp only [List.map_toArray,List.map_cons,List.map_nil,hx,hy]
 rw [Sem.run_bind,build_pt ha hb]
 rfl
structure CurveW (w:World) : Prop where
 order : ∃ t,Row w 1 t (AQ (nL N256))
 baseX : ∃ t,Row w 2 t (AQ (nL GX))
 baseY : ∃ t,Row w 3 t (AQ (nL GY))
 prime : ∃ t,Row w 6 t (AQ (nL P256))
 coeff : ∃ t,Row w 7 t (AQ (nL B256))
theorem CurveW.below {w w':World} (h:CurveW w) (hb:Below w.heap.size w w') : CurveW w':=by
 obtain ⟨⟨t1,h1⟩,⟨t2,h2⟩,⟨t3,h3⟩,⟨t4,h4⟩,⟨t5,h5⟩⟩:=h
 exact ⟨⟨t1,h1.below hb h1.lt⟩,⟨t2,h2.below hb h2.lt⟩,⟨t3,h3.below hb h3.lt⟩,⟨t4,h4.below hb h4.lt⟩,⟨t5,h5.below hb h5.lt⟩⟩
theorem CurveW.rPrime {w:World} (h:CurveW w) : Row w 6 h.prime.choose (AQ (nL P256)):=h.prime.choose_spec
theorem CurveW.rOrder {w:World} (h:CurveW w) : Row w 1 h.order.choose (AQ (nL N256)):=h.order.choose_spec
theorem CurveW.rCoeff {w:World} (h:CurveW w) : Row w 7 h.coeff.choose (AQ (nL B256)):=h.coeff.choose_spec
def RIP : Nat:=0xfffffffe00000003fffffffd0000000200000001fffffffe0000000300000000
def RIN : Nat:=0x60d066334905c1e907f8b6041e607725badef3e243566fafce1bc8f79c197c79
theorem md_P : MdS P256 (negN P256) RIP:=⟨by decide +kernel,by decide +kernel,by decide +kernel,by decide +kernel,by decide +kernel⟩
theorem md_N : MdS N256 (negN N256) RIN:=⟨by decide +kernel,by decide +kernel,by decide +kernel,by decide +kernel,by decide +kernel⟩
abbrev FldW (w:World) (g:Nat) : Prop:=ModW w g P256 (negN P256) RIP
theorem mk_P (w:World) : Calls Tryz.prog 143 #[.agg (AQ (nL P256))] w fun e w'=>∃ g,e = .returned (.tuple #[.pointer (some ⟨g,0,none⟩),.int .i64 0]) ∧ FldW w' g ∧ w.heap.size ≤ g ∧ Below w.heap.size w w' :=
 new_any w P256 RIP (by decide +kernel) (by decide +kernel) (by decide +kernel) md_P
theorem mk_N (w:World) : Calls Tryz.prog 143 #[.agg (AQ (nL N256))] w fun e w'=>∃ g,e = .returned (.tuple #[.pointer (some ⟨g,0,none⟩),.int .i64 0]) ∧ ModW w' g N256 (negN N256) RIN ∧ w.heap.size ≤ g ∧ Below w.heap.size w w' :=
 new_any w N256 RIN (by decide +kernel) (by decide +kernel) (by decide +kernel) md_N
theorem over_f (g:Nat) : over #[.pointer none] 0 (fC g) = fC g:=over_all _ _ rfl
set_option maxRecDepth 100000 in
set_option maxHeartbeats 4000000 in
theorem newField_gen (w:World) (P neg ri:Nat) (t:TypeId) (h0:Row w 6 t (AQ (nL P)))
  (hmk:∀ w,Calls Tryz.prog 143 #[.agg (AQ (nL P))] w fun e w'=>∃ g,e = .returned (.tuple #[.pointer (some ⟨g,0,none⟩),.int .i64 0]) ∧ ModW w' g P neg ri ∧ w.heap.size ≤ g ∧ Below w.heap.size w w') :
  Calls Tryz.prog 133 #[] w fun e w'=>∃ g,e = .returned (.agg (fC g)) ∧ ModW w' g P neg ri ∧ Below w.heap.size w w':=by
 have HMK:=Lib.hid hmk
 clear hmk
 go_enter Tryz.func133,Tryz.ntmps133
 go_upto_region 1 with (fail)
 refine at_world (fun W=>Row W 6 t (AQ (nL P)) ∧ Row W w.heap.size 243 #[.pointer none] ∧ Below w.heap.size w W) ⟨h0.alloc _,Row.new _ _ _,(Below.refl _ w).alloc (Nat.le_refl _) _⟩ ?_
 clear h0
 rintro W1 ⟨h0,r0,hB⟩
 refine wp_region_lex 1 ?_
 simp only [List.take_succ_cons,List.take_zero,List.drop_succ_cons,List.drop_zero]
 (go_big_quiet_want; apply qn_load at_num rfl rfl h0 (hp_num P); (simp only [Act.put,lS]; go_big_quiet_on))
 refine wpQuiet_nil ?_
 intro W2 hcc
 replace r0:=r0.below hcc.1 r0.lt
 replace hB:=hB.trans (hcc.1.mono hB.size)
 clear hcc h0
 go_wp2_with fail
 refine (HMK.out _).mono ?_
 rintro e w1 ⟨g,rfl,hM,hg,hB1⟩
 have hgn : g ≠ w.heap.size:=by have:=r0.lt; omega
 have HGN:=Lib.hid hgn
 replace r0:=r0.below hB1 r0.lt
 replace hB:=hB.trans (hB1.mono hB.size)
 have HM:=Lib.hid hM
 have l0:=r0.lt
 clear hM hB1 hg hgn
 go_wp2_with fail
 exact ret_row (by first | exact .inl rfl | exact .inr rfl) rfl w.heap.size 243 _ 1 _ rfl (r0.set 0 _) Tryz.underlying243 rfl (by kernel_rfl) rfl ⟨g,rfl,⟨HM.out.row.setOther _ _ HGN.out,HM.out.md⟩,hB.setCell (Nat.le_refl _) _⟩
end Go.Proofs.YtjpfhhndjpdmoaaGreatDoor
