/- Part of the proof: Press,App,State. No conditions of its own. -/
import Derived.Test.YtjpfhhndjpdmoaaGreatDoorF18
import Derived.Laws.AppendOwnNone
import Derived.ArgAppend
import Derived.Maps.AppendAt
namespace Go.Proofs.YtjpfhhndjpdmoaaGreatDoor
open Go.RowKit
set_option linter.unusedVariables false
set_option linter.unusedSimpArgs false

theorem zw8 : AD (List.replicate 8 0) = #[.int .u32 0,.int .u32 0,.int .u32 0,.int .u32 0,.int .u32 0,.int .u32 0,.int .u32 0,.int .u32 0]:=by kernel_rfl
theorem AD_size (l:List UInt32) : (AD l).size = l.length:=by simp [AD]
theorem AD_get (l:List UInt32) (i:Nat) (h:i < l.length) : (AD l)[i]? = some (D (gw l i)):=by simp [AD,gw,h]
theorem AD_set (l:List UInt32) (i:Nat) (x:UInt32) : (AD l).setIfInBounds i (D x) = AD (l.set i x):=by
 apply Array.ext'
 simp [AD,List.map_set]
theorem qe_call {P:Program} {o:Oper} {a:Act} {W:World} {K:Act → Prop} (f:FuncId) (args:Array Value) (hrun:∀ w,(execOp a.eval o).run P w = .ok (.enter f args) w) (v:Value)
  (hc:Calls P f args W (fun e w''=>e = .returned v ∧ w'' = W)) (hk:K (a.put o.dst v)) : o.quiet P a (fun w'=>w' = W) K:=by
 refine ⟨v,fun w' hw'=>?_,hk⟩
 subst hw'
 unfold Oper.quietAt
 rw [hrun]
 exact ⟨rfl,hc.mono fun e w'' h=>⟨h.1,h.2⟩⟩
attribute [local go_sem] dw_xor dw_and dw_or dw_add dw_addm sr_8 sr_1024
theorem gen_wpR {c:Code} {Q:Exit → Act → World → Prop} {a:Act} {w:World} (R:World → Prop) (h:R w) (k:∀ w,R w → Code.wp Tryz.prog c Q a w) : Code.wp Tryz.prog c Q a w:=k w h
set_option maxRecDepth 100000 in
theorem zw64 : AD (List.replicate 64 0) = #[.int .u32 0,.int .u32 0,.int .u32 0,.int .u32 0,.int .u32 0,.int .u32 0,.int .u32 0,.int .u32 0,.int .u32 0,.int .u32 0,.int .u32 0,.int .u32 0,.int .u32 0,.int .u32 0,.int .u32 0,.int .u32 0,.int .u32 0,.int .u32 0,.int .u32 0,.int .u32 0,.int .u32 0,.int .u32 0,.int .u32 0,.int .u32 0,.int .u32 0,.int .u32 0,.int .u32 0,.int .u32 0,.int .u32 0,.int .u32 0,.int .u32 0,.int .u32 0,.int .u32 0,.int .u32 0,.int .u32 0,.int .u32 0,.int .u32 0,.int .u32 0,.int .u32 0,.int .u32 0,.int .u32 0,.int .u32 0,.int .u32 0,.int .u32 0,.int .u32 0,.int .u32 0,.int .u32 0,.int .u32 0,.int .u32 0,.int .u32 0,.int .u32 0,.int .u32 0,.int .u32 0,.int .u32 0,.int .u32 0,.int .u32 0,.int .u32 0,.int .u32 0,.int .u32 0,.int .u32 0,.int .u32 0,.int .u32 0,.int .u32 0,.int .u32 0]:=by kernel_rfl
structure PrSt (w:World) (g4 g5:Nat) (h l:List UInt32) (wr:World) : Prop where
 r2 : Row wr w.heap.size 298 (AD h)
 r4 : Row wr g4 298 (AD (List.replicate 8 0))
 r5 : Row wr g5 276 (AD l)
 bel : Below w.heap.size w wr
 l4 : w.heap.size < g4
 l5 : g4 < g5
theorem PrSt.drew {w wr:World} {g4 g5:Nat} {h l:List UInt32} (k:PrSt w g4 g5 h l wr) : PrSt w g4 g5 h l wr.drew:=⟨k.r2.drew,k.r4.drew,k.r5.drew,k.bel.drew,k.l4,k.l5⟩
theorem PrSt.set {w wr:World} {g4 g5:Nat} {h l:List UInt32} (k:PrSt w g4 g5 h l wr) (i:Nat) (x:UInt32) : PrSt w g4 g5 h (l.set i x) (wr.setCell ⟨g5,i,none⟩ (D x)):=by
 have h4:=k.l4
 have h5:=k.l5
 exact ⟨k.r2.setOther _ _ (show w.heap.size ≠ g5 by omega),k.r4.setOther _ _ (show g4 ≠ g5 by omega),AD_set l i x ▸ k.r5.set i (D x),k.bel.setCell (p:=⟨g5,i,none⟩) (by show w.heap.size ≤ g5; omega) _,h4,h5⟩
set_option maxRecDepth 100000 in
set_option maxHeartbeats 4000000 in
theorem press_any {tg:TypeId} (h:List UInt32) (vb:Value) (b:List UInt8) (w:World) (hv:Row w 10 tg (AD roundsS)) (hh:h.length = 8) (hs:SlB w vb b) (hb:b.length = 64) : Calls Tryz.prog 197 #[.agg (AD h),vb] w fun e w'=>e = .returned (.agg (AD (pressS h b))) ∧ Below w.heap.size w w':=by
 obtain ⟨gb',ob,cp,rfl,hcp,hcm,hbl,hcell⟩:=hs.addr (by omega)
 rw [hb] at hcp ⊢
 have HV:=Lib.hid hv
 have HCELL:=Lib.hid hcell
 have HB:=Lib.hid hb
 have c0 : (64 : Int) ≤ (cp:Int):=by omega
 have hne2 : gb' ≠ w.heap.size:=by omega
 clear hcell hb hs hv
 go_enter Tryz.func197,Tryz.ntmps197
 go_wp2_with fail
 obtain ⟨g4,hg4⟩ : ∃ g,g = w.heap.size + 1:=⟨_,rfl⟩
 obtain ⟨g5,hg5⟩ : ∃ g,g = w.heap.size + 1 + 1:=⟨_,rfl⟩
 rw [← hg5,← hg4]
 refine gen_wpR (PrSt w g4 g5 h (schS b 0)) ?_ ?_
 ·rw [← zw8,← zw64,hg4,hg5]
  refine ⟨((Row.new w _ _).alloc _).alloc _,(Row.newAt _ _ _ _ (by simp)).alloc _,Row.newAt _ _ _ _ (by simp),(((Below.refl _ w).alloc (Nat.le_refl _) _).alloc (by simp) _).alloc (by simp; omega) _,by omega,by omega⟩
 intro w0 hP
 clear hg4 hg5
 go_loopg [22] 16 (fun g t22 wr=>∃ i : Nat,g + i = 16 ∧ t22 = .int .i64 (i:Int) ∧ PrSt w g4 g5 h (schS b i) wr)
 case atStart=>exact ⟨0,by omega,rfl,hP⟩
 case round =>
  obtain ⟨i,hi,rfl,hP⟩:=hrel
  by_cases hlt : i < 16
  ·have z0 : (0 : Int) ≤ (i:Int):=by omega
   have z1 : (i:Int) < 16:=by omega
   have hnc : ¬ cp = 4 * i:=by omega
   have HP:=Lib.hid hP
   clear hP
   go_wp2_with fail
   have hp:=HP.out
   have hcl : ∀ j,j < 4 → wr.cell? ⟨gb',ob + 4 * i + j,none⟩ = some (B (b.getD (4 * i + j) 0)):=fun j hj=>by
    have h1:=HCELL.out (4 * i + j) (by have:=HB.out; omega)
    rw [← Nat.add_assoc] at h1
    exact (hp.bel.cell (p:=⟨gb',ob + 4 * i + j,none⟩) hbl).trans h1
   obtain ⟨x0,e0⟩ : ∃ x,x = b.getD (4 * i) 0:=⟨_,rfl⟩
   obtain ⟨x1,e1⟩ : ∃ x,x = b.getD (4 * i + 1) 0:=⟨_,rfl⟩
   obtain ⟨x2,e2⟩ : ∃ x,x = b.getD (4 * i + 2) 0:=⟨_,rfl⟩
   obtain ⟨x3,e3⟩ : ∃ x,x = b.getD (4 * i + 3) 0:=⟨_,rfl⟩
   have hc0:=hcl 0 (by omega)
   have hc1:=hcl 1 (by omega)
   have hc2:=hcl 2 (by omega)
   have hc3:=hcl 3 (by omega)
   rw [Nat.add_zero,Nat.add_zero,← e0] at hc0
   rw [← e1] at hc1
   rw [← e2] at hc2
   rw [← e3] at hc3
   have hx0:=x0.toNat_lt
   have hx1:=x1.toNat_lt
   have hx2:=x2.toNat_lt
   have hx3:=x3.toNat_lt
   have hc5 : wr.drew.cell? ⟨g5,i,none⟩ = some (D (gw (schS b i) i)):=by rw [hp.r5.drew.cell]; exact AD_get _ _ (by rw [schS_len]; omega)
   have hf5 : wr.drew.frozen? ⟨g5,i,none⟩ = false:=hp.r5.drew.frozen i
   have hw4 : 4 * i + 4 - 4 * i = 4:=by omega
   have HE:=Lib.hid (⟨e0,e1,e2,e3⟩ : _ ∧ _ ∧ _ ∧ _)
   clear hcl e0 e1 e2 e3 hp
   refine wp_region_qtail (fun w'=>w' = _) 24 (by kernel_rfl) (by kernel_rfl) rfl ?_
   simp only [List.take_succ_cons,List.take_zero,List.drop_succ_cons,List.drop_zero,hw4]
   repeat (first | go_big_quiet_skip | (go_big_quiet_want; go_big_quiet_op; go_big_quiet_on))
   refine wpQuiet_nil ?_
   rintro _ rfl
   go_wp2_with fail
   go_roundg (gk - 1)
   case measure=>omega
   case rel =>
    refine ⟨i + 1,by omega,by go_num,?_⟩
    have:=HP.out.drew.set i (be4 x0 x1 x2 x3)
    rw [be4_bits]
    have e : schS b (i + 1) = (schS b i).set i (be4 x0 x1 x2 x3):=by
     rw [schS,if_pos hlt]
     unfold wordS
     rw [← HE.out.1,← HE.out.2.1,← HE.out.2.2.1,← HE.out.2.2.2]
    rw [e]
    exact this
  ·obtain rfl : i = 16:=by omega
   have z1 : ¬ ((16 : Nat) : Int) < 16:=by omega
   have HP:=Lib.hid hP
   clear hP
   go_wp2_with fail
   go_loopg [8] 48 (fun g t8 wr=>∃ i : Nat,g + i = 64 ∧ 16 ≤ i ∧ t8 = .int .i64 (i:Int) ∧ PrSt w g4 g5 h (schS b i) wr)
   case atStart=>exact ⟨16,by omega,by omega,rfl,HP.out⟩
   case round =>
    clear HP
    obtain ⟨i,hi,h16,rfl,hP⟩:=hrel
    by_cases hlt : i < 64
    ·have z0 : (16 : Int) ≤ (i:Int):=by omega
     have z1 : (i:Int) < 64:=by omega
     have z2 : ((i:Int) - 15).toNat = i - 15:=by omega
     have z3 : ((i:Int) - 2).toNat = i - 2:=by omega
     have z4 : ((i:Int) - 16).toNat = i - 16:=by omega
     have z5 : ((i:Int) - 7).toNat = i - 7:=by omega
     have cell : ∀ (W:World) (j:Nat),j < 64 → Row W g5 276 (AD (schS b i)) → W.cell? ⟨g5,j,none⟩ = some (D (gw (schS b i) j)):=fun W j hj hr=>by rw [hr.cell]; exact AD_get _ _ (by rw [schS_len]; exact hj)
     have hcx:=cell wr.drew (i - 15) (by omega) hP.r5.drew
     have hcy:=cell wr.drew (i - 2) (by omega) hP.r5.drew
     have hcu:=cell wr.drew.drew (i - 16) (by omega) hP.r5.drew.drew
     have hcv:=cell wr.drew.drew (i - 7) (by omega) hP.r5.drew.drew
     have hci:=cell wr.drew.drew i (by omega) hP.r5.drew.drew
     have hfi : wr.drew.drew.frozen? ⟨g5,i,none⟩ = false:=hP.r5.drew.drew.frozen i
     obtain ⟨x,ex⟩ : ∃ x,x = gw (schS b i) (i - 15):=⟨_,rfl⟩
     obtain ⟨y,ey⟩ : ∃ x,x = gw (schS b i) (i - 2):=⟨_,rfl⟩
     obtain ⟨u,eu⟩ : ∃ x,x = gw (schS b i) (i - 16):=⟨_,rfl⟩
     obtain ⟨v,ev⟩ : ∃ x,x = gw (schS b i) (i - 7):=⟨_,rfl⟩
     rw [← ex] at hcx
     rw [← ey] at hcy
     rw [← eu] at hcu
     rw [← ev] at hcv
     have HE:=Lib.hid (⟨ex,ey,eu,ev⟩ : _ ∧ _ ∧ _ ∧ _)
     have HP:=Lib.hid hP
     clear cell ex ey eu ev hP
     go_wp2_with fail
     refine wp_region_qtail (fun w'=>w' = _) 9 (by kernel_rfl) (by kernel_rfl) rfl ?_
     simp only [List.take_succ_cons,List.take_zero,List.drop_succ_cons,List.drop_zero]
     repeat (first | go_big_quiet_skip | (go_big_quiet_want; go_big_quiet_op; go_big_quiet_on))
     refine wpQuiet_nil ?_
     rintro _ rfl
     go_wp2_with fail
     refine wp_region_qtail (fun w'=>w' = _) 28 (by kernel_rfl) (by kernel_rfl) rfl ?_
     simp only [List.take_succ_cons,List.take_zero,List.drop_succ_cons,List.drop_zero]
     iterate 11 (first | go_big_quiet_skip | (go_big_quiet_want; go_big_quiet_op; go_big_quiet_on))
     (go_big_quiet_want; refine qe_call _ _ ?_ _ (right_7 x _) ?_; (focus (intro w; simp [go_sem]; done)); (simp only [Act.put,lS]; go_big_quiet_on))
     (first | go_big_quiet_skip | (go_big_quiet_want; go_big_quiet_op; go_big_quiet_on))
     (go_big_quiet_want; refine qe_call _ _ ?_ _ (right_18 x _) ?_; (focus (intro w; simp [go_sem]; done)); (simp only [Act.put,lS]; go_big_quiet_on))
     iterate 6 (first | go_big_quiet_skip | (go_big_quiet_want; go_big_quiet_op; go_big_quiet_on))
     (go_big_quiet_want; refine qe_call _ _ ?_ _ (right_17 y _) ?_; (focus (intro w; simp [go_sem]; done)); (simp only [Act.put,lS]; go_big_quiet_on))
     (first | go_big_quiet_skip | (go_big_quiet_want; go_big_quiet_op; go_big_quiet_on))
     (go_big_quiet_want; refine qe_call _ _ ?_ _ (right_19 y _) ?_; (focus (intro w; simp [go_sem]; done)); (simp only [Act.put,lS]; go_big_quiet_on))
     iterate 5 (first | go_big_quiet_skip | (go_big_quiet_want; go_big_quiet_op; go_big_quiet_on))
     refine wpQuiet_nil ?_
     rintro _ rfl
     go_wp2_with fail
     go_roundg (gk - 1)
     case measure=>omega
     case rel =>
      refine ⟨i + 1,by omega,by omega,by go_num,?_⟩
      have hm : mixW (schS b i) i = aw (aw (aw u v) (s0 x)) (s1 y):=by
       unfold mixW
       rw [← HE.out.1,← HE.out.2.1,← HE.out.2.2.1,← HE.out.2.2.2]
      have:=HP.out.drew.drew.set i (mixW (schS b i) i)
      rw [show schS b (i + 1) = (schS b i).set i (mixW (schS b i) i) by rw [schS,if_neg (by omega)]]
      rw [hm] at this ⊢
      exact this
    ·obtain rfl : i = 64:=by omega
     have z1 : ¬ ((64 : Nat) : Int) < 64:=by omega
     have HP:=Lib.hid hP
     clear hP
     go_wp2_with fail
     have cell : ∀ (j:Nat),j < 8 → wr.drew.cell? ⟨w.heap.size,j,none⟩ = some (D (gw h j)):=fun j hj=>by rw [HP.out.r2.drew.cell]; exact AD_get _ _ (by omega)
     have hc0:=cell 0 (by omega)
     have hc1:=cell 1 (by omega)
     have hc2:=cell 2 (by omega)
     have hc3:=cell 3 (by omega)
     have hc4:=cell 4 (by omega)
     have hc5:=cell 5 (by omega)
     have hc6:=cell 6 (by omega)
     have hc7:=cell 7 (by omega)
     obtain ⟨h0,e0⟩ : ∃ x,x = gw h 0:=⟨_,rfl⟩
     rw [← e0] at hc0
     obtain ⟨h1,e1⟩ : ∃ x,x = gw h 1:=⟨_,rfl⟩
     rw [← e1] at hc1
     obtain ⟨h2,e2⟩ : ∃ x,x = gw h 2:=⟨_,rfl⟩
     rw [← e2] at hc2
     obtain ⟨h3,e3⟩ : ∃ x,x = gw h 3:=⟨_,rfl⟩
     rw [← e3] at hc3
     obtain ⟨h4,e4⟩ : ∃ x,x = gw h 4:=⟨_,rfl⟩
     rw [← e4] at hc4
     obtain ⟨h5,e5⟩ : ∃ x,x = gw h 5:=⟨_,rfl⟩
     rw [← e5] at hc5
     obtain ⟨h6,e6⟩ : ∃ x,x = gw h 6:=⟨_,rfl⟩
     rw [← e6] at hc6
     obtain ⟨h7,e7⟩ : ∃ x,x = gw h 7:=⟨_,rfl⟩
     rw [← e7] at hc7
     have HE:=Lib.hid (show ofS h = ⟨h0,h1,h2,h3,h4,h5,h6,h7⟩ by unfold ofS; rw [e0,e1,e2,e3,e4,e5,e6,e7])
     have HEG:=Lib.hid (⟨e0,e1,e2,e3,e4,e5,e6,e7⟩ : _ ∧ _ ∧ _ ∧ _ ∧ _ ∧ _ ∧ _ ∧ _)
     have HP1:=Lib.hid HP.out.drew
     clear cell e0 e1 e2 e3 e4 e5 e6 e7
     refine wp_region_qtail (fun w'=>w' = _) 23 (by kernel_rfl) (by kernel_rfl) rfl ?_
     simp only [List.take_succ_cons,List.take_zero,List.drop_succ_cons,List.drop_zero]
     repeat (first | go_big_quiet_skip | (go_big_quiet_want; go_big_quiet_op; go_big_quiet_on))
     refine wpQuiet_nil ?_
     rintro _ rfl
     clear hc0 hc1 hc2 hc3 hc4 hc5 hc6 hc7
     go_wp2_with fail
     go_loopg [11,12,13,14,15,16,17,18,114] 64 (fun g t11 t12 t13 t14 t15 t16 t17 t18 t114 wr=>∃ (i:Nat) (v:S8),g + i = 64 ∧ t114 = .int .i64 (i:Int) ∧ v = runS roundsS (schS b 64) (ofS h) i ∧ t11 = D v.a ∧ t12 = D v.b ∧ t13 = D v.c ∧ t14 = D v.d ∧ t15 = D v.e ∧ t16 = D v.f ∧ t17 = D v.g ∧ t18 = D v.h ∧ PrSt w g4 g5 h (schS b 64) wr)
     case atStart=>exact ⟨0,ofS h,by omega,rfl,rfl,by rw [HE.out],by rw [HE.out],by rw [HE.out],by rw [HE.out],by rw [HE.out],by rw [HE.out],by rw [HE.out],by rw [HE.out],HP1.out⟩
     case round =>
      clear HP HP1
      obtain ⟨i,⟨va,vb',vc,vd,ve,vf,vg,vh⟩,hi,rfl,hv,rfl,rfl,rfl,rfl,rfl,rfl,rfl,rfl,hP⟩:=hrel
      by_cases hlt : i < 64
      ·have z0 : (0 : Int) ≤ (i:Int):=by omega
       have z1 : (i:Int) < 64:=by omega
       have hcg : wr.drew.cell? ⟨10,i,none⟩ = some (D (gw roundsS i)):=by
        have h1:=(HV.out.cell i).trans (AD_get _ _ hlt)
        exact (hP.bel.drew.cell (p:=⟨10,i,none⟩) HV.out.lt).trans h1
       have hcw : wr.drew.cell? ⟨g5,i,none⟩ = some (D (gw (schS b 64) i)):=by rw [hP.r5.drew.cell]; exact AD_get _ _ (by rw [schS_len]; exact hlt)
       obtain ⟨kk,ek⟩ : ∃ x,x = gw roundsS i:=⟨_,rfl⟩
       obtain ⟨ww,ew⟩ : ∃ x,x = gw (schS b 64) i:=⟨_,rfl⟩
       rw [← ek] at hcg
       rw [← ew] at hcw
       have HE2:=Lib.hid (⟨ek,ew,hv⟩ : _ ∧ _ ∧ _)
       have HP:=Lib.hid hP
       clear hP ek ew hv
       go_wp2_with fail
       refine wp_region_qtail (fun w'=>w' = _) 25 (by kernel_rfl) (by kernel_rfl) rfl ?_
       simp only [List.take_succ_cons,List.take_zero,List.drop_succ_cons,List.drop_zero]
       iterate 2 (first | go_big_quiet_skip | (go_big_quiet_want; go_big_quiet_op; go_big_quiet_on))
       (go_big_quiet_want; refine qe_call _ _ ?_ _ (right_6 ve _) ?_; (focus (intro w; simp [go_sem]; done)); (simp only [Act.put,lS]; go_big_quiet_on))
       (first | go_big_quiet_skip | (go_big_quiet_want; go_big_quiet_op; go_big_quiet_on))
       (go_big_quiet_want; refine qe_call _ _ ?_ _ (right_11 ve _) ?_; (focus (intro w; simp [go_sem]; done)); (simp only [Act.put,lS]; go_big_quiet_on))
       iterate 2 (first | go_big_quiet_skip | (go_big_quiet_want; go_big_quiet_op; go_big_quiet_on))
       (go_big_quiet_want; refine qe_call _ _ ?_ _ (right_25 ve _) ?_; (focus (intro w; simp [go_sem]; done)); (simp only [Act.put,lS]; go_big_quiet_on))
       repeat (first | go_big_quiet_skip | (go_big_quiet_want; go_big_quiet_op; go_big_quiet_on))
       refine wpQuiet_nil ?_
       rintro _ rfl
       go_wp2_with (first
        | (refine (right_2 va _).mono ?_; rintro e w' ⟨rfl,rfl⟩)
        | (refine (right_13 va _).mono ?_; rintro e w' ⟨rfl,rfl⟩)
        | (refine (right_22 va _).mono ?_; rintro e w' ⟨rfl,rfl⟩))
       go_roundg (gk - 1)
       case measure=>omega
       case rel=>exact ⟨i + 1,oneS kk ww ⟨va,vb',vc,vd,ve,vf,vg,vh⟩,by omega,by go_num,by rw [HE2.out.2.2,HE2.out.1,HE2.out.2.1]; rfl,rfl,rfl,rfl,rfl,rfl,rfl,rfl,rfl,HP.out.drew⟩
      ·obtain rfl : i = 64:=by omega
       have z1 : ¬ ((64 : Nat) : Int) < 64:=by omega
       obtain ⟨e0,e1,e2,e3,e4,e5,e6,e7⟩:=HEG.out
       have cell : ∀ (j:Nat),j < 8 → wr.cell? ⟨w.heap.size,j,none⟩ = some (D (gw h j)):=fun j hj=>by rw [hP.r2.cell]; exact AD_get _ _ (by omega)
       have hc0:=cell 0 (by omega)
       rw [← e0] at hc0
       have hc1:=cell 1 (by omega)
       rw [← e1] at hc1
       have hc2:=cell 2 (by omega)
       rw [← e2] at hc2
       have hc3:=cell 3 (by omega)
       rw [← e3] at hc3
       have hc4:=cell 4 (by omega)
       rw [← e4] at hc4
       have hc5:=cell 5 (by omega)
       rw [← e5] at hc5
       have hc6:=cell 6 (by omega)
       rw [← e6] at hc6
       have hc7:=cell 7 (by omega)
       rw [← e7] at hc7
       have hr4:=hP.r4
       have HP:=Lib.hid hP
       have HV2:=Lib.hid hv
       have HRES:=Lib.hid (show pressS h b = [aw h0 va,aw h1 vb',aw h2 vc,aw h3 vd,aw h4 ve,aw h5 vf,aw h6 vg,aw h7 vh] by
        unfold pressS
        rw [← hv,e0,e1,e2,e3,e4,e5,e6,e7])
       clear cell e0 e1 e2 e3 e4 e5 e6 e7 hP hv
       go_wp2_with fail
       rw [HRES.out]
       exact ret_row (.inl rfl) rfl g4 _ _ 8 _ rfl (hr4.setRow _) Tryz.underlying298 rfl (by kernel_rfl) rfl ⟨rfl,bSetRow HP.out.bel (Nat.le_of_lt HP.out.l4) _⟩
end Go.Proofs.YtjpfhhndjpdmoaaGreatDoor

namespace Go.Proofs.YtjpfhhndjpdmoaaGreatDoor
open Go.RowKit

theorem wpl_appendS {P:Program} {w:World} {ops:Array Oper} {rest:List Oper} {o:Oper} {a:Act} {Q:Exit → Act → World → Prop} (hgd:o.guard = none) (s x:Operand) (t:TypeId)
  (ho:o.op = .call { callee:=.builtin .append,args:=#[s,x],argTypes:=#[t,t] })
  {e:TypeId} (ht:P.underlying t = some (.slice e)) (hinf:(P.info? e).map (fun i=>(i.zero,i.size,i.bytes)) = some (some (.int .u8 0),1,1))
  (base:Nat) (v:Value) (l:List UInt8) (hs:a.eval s = v) (hbuf:Buf e w base v l) (vx:Value) (m:List UInt8) (hx:a.eval x = vx) (hS:SlB w vx m)
  (hlen:l.length + m.length ≤ 140737488355328) (hbase:base ≤ w.heap.size)
  (h:∀ v' w',Buf e w' base v' (l ++ m) → w.grownBy w' v.ownBlock → wpList P ops Q rest (a.put o.dst v') w') : wpList P ops Q (o :: rest) a w:=by
 obtain ⟨i0,hi,hz0,hz1,hz2⟩:=info_parts hinf
 obtain ⟨ad,cap,rfl,h1,h2,h3,h4⟩:=hS
 cases ad with
 | none =>
  have hm : m = []:=List.eq_nil_of_length_eq_zero (by have:=h3 rfl; omega)
  subst hm
  obtain rfl : cap = 0:=h3 rfl
  refine wpList_append_own_none hgd s x t ho base e i0 1 ht hi v l.length (l.map B) hs hbuf hx ?_
  have:=h v w (by simpa using hbuf) (World.grownBy.refl w _)
  exact this
 | some ad =>
  obtain ⟨hsp,hc⟩:=h4 _ rfl
  obtain ⟨b,o',sp⟩:=ad
  simp only at hsp
  subst hsp
  refine wpList_append_own w hgd s x t ho base e i0 (.int .u8 0) 1 1 ht hi hz0 hz1 hz2 rfl (by decide) v l.length (l.map B) hs hbuf ⟨b,o',none⟩ m.length cap (m.map B) hx (by simp) ?_ ?_ (by unfold maxLen; omega) (by omega) hbase ?_
  ·intro j u hj
   have hj' : j < m.length:=by simpa using (List.getElem?_eq_some_iff.1 hj).1
   rw [Addr.add_lit,hc j hj']
   simpa [gb,hj'] using hj
  ·intro u hu
   obtain ⟨y,_,rfl⟩:=List.mem_map.1 hu
   rfl
  ·intro v' w' hb hg _
   exact h v' w' (by simpa [Buf] using hb) hg
theorem Buf.empty {e:TypeId} (w:World) (base g:Nat) (hg:g = w.heap.size) (hb:base ≤ g) : Buf e (w.alloc (.cells #[] e)) base (.slice (some ⟨g,0,none⟩) 0 0) [] :=
 ⟨by simp,.inr ⟨g,0,#[],rfl,hb,by rw [hg]; exact heap_alloc_new w _,Nat.le_refl _,Nat.zero_le _,by simp,by simp⟩⟩
theorem SlB.take {w:World} {a:Option Addr} {n cap:Nat} {l:List UInt8} (h:SlB w (.slice a n cap) l) (m:Nat) (hm:m ≤ n) : SlB w (.slice a m cap) (l.take m):=by
 obtain ⟨a',cap',hv,h1,h2,h3,h4⟩:=h
 simp only [Value.slice.injEq] at hv
 obtain ⟨rfl,rfl,rfl⟩:=hv
 have hlen : (l.take m).length = m:=by simp; omega
 refine ⟨a,cap,by rw [hlen],by omega,h2,h3,fun ad had=>⟨(h4 ad had).1,fun i hi=>?_⟩⟩
 rw [(h4 ad had).2 i (by omega)]
 simp [gb,show i < m by omega]
theorem SlB.len {w:World} {a:Option Addr} {n cap:Nat} {l:List UInt8} (h:SlB w (.slice a n cap) l) : l.length = n:=by
 obtain ⟨a',cap',hv,_⟩:=h
 simp only [Value.slice.injEq] at hv
 exact hv.2.1.symm
theorem Pre.set {cur:Array Value} {l:List UInt8} (h:Pre cur l) (k:Nat) (x:UInt8) (_hk:k < l.length) : Pre (cur.setIfInBounds k (B x)) (l.set k x):=by
 have h' : cur.toList.take l.length = l.map B:=h
 unfold Pre
 rw [List.length_set,Array.toList_setIfInBounds,List.take_set,h',List.map_set]
theorem KeyAt.setCell {tk te t:TypeId} {w:World} {p:Value} {W:List UInt8} {m g:Nat} {cu:Array Value} (h:KeyAt tk te w p W m) (hr:Row w g t cu) (h1:t ≠ tk) (h2:t ≠ te) (i:Nat) (v:Value) : KeyAt tk te (w.setCell ⟨g,i,none⟩ v) p W m:=by
 obtain ⟨kb,kk,cap,cur,e1,e2,e3,e4⟩:=h
 have n1 : kb ≠ g:=by
  rintro rfl
  have:=hr.symm.trans e2
  simp only [Option.some.injEq,Prod.mk.injEq] at this
  exact h1 this.1
 have n2 : kk ≠ g:=by
  rintro rfl
  have:=hr.symm.trans e3
  simp only [Option.some.injEq,Prod.mk.injEq] at this
  exact h2 this.1
 exact ⟨kb,kk,cap,cur,e1,e2.setOther _ _ n1,e3.setOther _ _ n2,e4⟩
end Go.Proofs.YtjpfhhndjpdmoaaGreatDoor

namespace Go.Proofs.YtjpfhhndjpdmoaaGreatDoor
open Go.RowKit
set_option linter.unusedVariables false
set_option linter.unusedSimpArgs false

/-! ### plain laws -/
theorem pressAll_snoc (h:List UInt32) : ∀ (k:Nat) (X:List UInt8),pressAll h (k + 1) X = pressS (pressAll h k X) ((X.drop (64 * k)).take 64)
 | 0,X=>by simp [pressAll]
 | k + 1,X=>by
  rw [pressAll,pressAll_snoc _ k (X.drop 64)]
  rw [show pressAll h (k + 1) X = pressAll (pressS h (X.take 64)) k (X.drop 64) from rfl]
  rw [List.drop_drop,show 64 + 64 * k = 64 * (k + 1) by omega]
theorem pressAll_add (h:List UInt32) (X:List UInt8) (a:Nat) : ∀ b,pressAll h (a + b) X = pressAll (pressAll h a X) b (X.drop (64 * a))
 | 0=>rfl
 | b + 1=>by
  rw [← Nat.add_assoc,pressAll_snoc,pressAll_snoc,pressAll_add h X a b,List.drop_drop]
  congr 3
  omega
theorem pressAll_pre (h:List UInt32) (X p:List UInt8) : ∀ k,64 * k ≤ X.length → pressAll h k (X ++ p) = pressAll h k X
 | 0,_=>rfl
 | k + 1,hk=>by
  rw [pressAll_snoc,pressAll_snoc,pressAll_pre h X p k (by omega)]
  congr 1
  rw [List.drop_append_of_le_length (by omega),List.take_append_of_le_length (by rw [List.length_drop]; omega)]
theorem pressAll_len (h:List UInt32) (X:List UInt8) (hh:h.length = 8) : ∀ k,(pressAll h k X).length = 8
 | 0=>hh
 | k + 1=>by rw [pressAll_snoc]; rfl
def hS (L:List UInt8) : List UInt32:=pressAll startS (L.length / 64) L
def waitS (L:List UInt8) : List UInt8:=L.drop (64 * (L.length / 64))
theorem hS_len (L:List UInt8) : (hS L).length = 8:=pressAll_len _ _ rfl _
theorem waitS_len (L:List UInt8) : (waitS L).length = L.length % 64:=by unfold waitS; rw [List.length_drop]; omega
/-! ### the cells -/
def f8 (h:List UInt32) : List UInt32:=(List.range 8).map (gw h)
theorem f8_len (h:List UInt32) : (f8 h).length = 8:=by simp [f8]
theorem f8_of {h:List UInt32} (hh:h.length = 8) : f8 h = h:=by
 apply List.ext_getElem?
 intro i
 by_cases hi : i < 8
 ·simp [f8,gw,hi,show i < h.length by omega]
 ·rw [List.getElem?_eq_none (by rw [f8_len]; omega),List.getElem?_eq_none (by omega)]
def stC (h:List UInt32) (v:Value) (n:Int) : Array Value:=((f8 h).map D ++ [v,.int .i64 n]).toArray
section
variable {h:List UInt32} {v u:Value} {n m:Int}
theorem stC_sz : (stC h v n).size = 10:=by simp [stC,f8_len]
theorem stC_8 : (stC h v n)[8]? = some v:=by
 unfold stC
 rw [List.getElem?_toArray,List.getElem?_append_right (by simp [f8_len])]
 simp [f8_len]
theorem stC_9 : (stC h v n)[9]? = some (.int .i64 n):=by
 unfold stC
 rw [List.getElem?_toArray,List.getElem?_append_right (by simp [f8_len])]
 simp [f8_len]
theorem stC_h : sub (stC h v n) 0 8 = AD (f8 h):=by
 apply Array.ext'
 have : ((f8 h).map D).length = 8:=by simp [f8_len]
 simp [sub,stC,AD,List.take_append_of_le_length,this]
theorem stC_oh (x:List UInt32) (hx:x.length = 8) : over (stC h v n) 0 (AD x) = stC x v n:=by
 unfold over stC
 apply Array.ext'
 have e : ((f8 h).map D).length = 8:=by simp [f8_len]
 rw [f8_of hx]
 simp [AD,hx]
 rw [List.drop_append_of_le_length (by omega),List.drop_eq_nil_of_le (by omega)]
 rfl
theorem stC_s8 : (stC h v n).setIfInBounds 8 u = stC h u n:=by
 unfold stC
 apply Array.ext'
 rw [Array.toList_setIfInBounds]
 rw [List.set_append_right _ _ (by simp [f8_len])]
 simp [f8_len]
theorem stC_s9 : (stC h v n).setIfInBounds 9 (.int .i64 m) = stC h v m:=by
 unfold stC
 apply Array.ext'
 rw [Array.toList_setIfInBounds]
 rw [List.set_append_right _ _ (by simp [f8_len])]
 simp [f8_len]
end
theorem stC_f8 (h:List UInt32) (v:Value) (n:Int) (hh:h.length = 8) : sub (stC h v n) 0 8 = AD h:=by rw [stC_h,f8_of hh]
/-! ### the bytes that wait -/
def OwnW (w:World) (B0:Nat) (v:Value) (l:List UInt8) : Prop :=
 (v = .slice none 0 0 ∧ l = []) ∨ ∃ b o cap cur,v = .slice (some ⟨b,o,none⟩) l.length cap ∧ B0 ≤ b ∧ Row w b 5 cur ∧ l.length ≤ cap ∧ o + cap ≤ cur.size ∧ cap ≤ maxLen ∧ ∀ i,i < l.length → cur[o + i]? = some (B (gb l i))
theorem OwnW.slb {w:World} {B0:Nat} {v:Value} {l:List UInt8} (h:OwnW w B0 v l) : SlB w v l:=by
 rcases h with ⟨rfl,rfl⟩ | ⟨b,o,cap,cur,rfl,_,hr,h1,h2,h3,h4⟩
 ·exact ⟨none,0,rfl,Nat.le_refl _,Nat.zero_le _,fun _=>rfl,fun _ h=>by cases h⟩
 ·refine ⟨_,cap,rfl,h1,h3,(fun h=>by cases h),fun ad had=>?_⟩
  obtain rfl:=Option.some.inj had
  exact ⟨rfl,fun i hi=>(hr.cell _).trans (h4 i hi)⟩
theorem OwnW.row {w:World} {B0:Nat} {v:Value} {l:List UInt8} (h:OwnW w B0 v l) : v.ownBlock = none ∨ ∃ b cs,v.ownBlock = some b ∧ B0 ≤ b ∧ Row w b 5 cs:=by
 rcases h with ⟨rfl,rfl⟩ | ⟨b,o,cap,cur,rfl,hb,hr,_⟩
 ·exact .inl rfl
 ·exact .inr ⟨b,cur,rfl,hb,hr⟩
theorem OwnW.congr {w w':World} {B0:Nat} {v:Value} {l:List UInt8} (h:OwnW w B0 v l) (hk:∀ k,v.ownBlock = some k → w'.heap[k]? = w.heap[k]?) : OwnW w' B0 v l:=by
 rcases h with h | ⟨b,o,cap,cur,rfl,hb,hr,rest⟩
 ·exact .inl h
 ·exact .inr ⟨b,o,cap,cur,rfl,hb,(row_congr (hk b rfl)).trans hr,rest⟩
theorem OwnW.below {w w':World} {B0:Nat} {v:Value} {l:List UInt8} (h:OwnW w B0 v l) (hb:Below w.heap.size w w') : OwnW w' B0 v l :=
 h.congr fun k hk=>by
  rcases h.row with e | ⟨b,cs,e,_,hr⟩
  ·rw [e] at hk; cases hk
  ·rw [e] at hk
   obtain rfl:=Option.some.inj hk
   exact hb.block _ hr.lt
theorem OwnW.of_buf {w:World} {B0:Nat} {v:Value} {l:List UInt8} (h:Buf 5 w B0 v l) : OwnW w B0 v l:=by
 rcases h.2 with ⟨rfl,h0⟩ | ⟨g,cap,cur,rfl,hg,hh,h1,h2,h3,h4⟩
 ·exact .inl ⟨rfl,List.eq_nil_of_length_eq_zero h0⟩
 ·refine .inr ⟨g,0,cap,cur,rfl,hg,Row.of_heap hh,h1,by omega,h2,fun i hi=>?_⟩
  have hp : Pre cur l:=by simpa [Pre] using h4
  rw [Nat.zero_add]
  exact hp.get i hi
theorem OwnW.drop {w:World} {B0 b o cap n:Nat} {l:List UInt8} (h:OwnW w B0 (.slice (some ⟨b,o,none⟩) l.length cap) l) (hn:n ≤ l.length) : OwnW w B0 (.slice (some ⟨b,o + n,none⟩) (l.length - n) (cap - n)) (l.drop n):=by
 rcases h with ⟨e,_⟩ | ⟨b',o',cap',cur,e,hb,hr,h1,h2,h3,h4⟩
 ·cases e
 ·obtain ⟨e1,_,rfl⟩:=Value.slice.inj e
  obtain ⟨rfl,rfl,_⟩:=Addr.mk.inj (Option.some.inj e1)
  refine .inr ⟨b,o + n,cap - n,cur,by rw [List.length_drop],hb,hr,by rw [List.length_drop]; omega,by omega,by omega,fun i hi=>?_⟩
  rw [List.length_drop] at hi
  rw [Nat.add_assoc,h4 (n + i) (by omega)]
  simp [gb]
theorem OwnW.zero {w:World} {B0 b o cap:Nat} {l:List UInt8} (h:OwnW w B0 (.slice (some ⟨b,o,none⟩) l.length cap) l) : OwnW w B0 (.slice (some ⟨b,o,none⟩) 0 0) []:=by
 rcases h with ⟨e,_⟩ | ⟨b',o',cap',cur,e,hb,hr,h1,h2,h3,h4⟩
 ·cases e
 ·obtain ⟨e1,_,rfl⟩:=Value.slice.inj e
  obtain ⟨rfl,rfl,_⟩:=Addr.mk.inj (Option.some.inj e1)
  exact .inr ⟨b,o,0,cur,rfl,hb,hr,Nat.le_refl _,by omega,Nat.zero_le _,fun i hi=>absurd hi (Nat.not_lt_zero i)⟩
theorem info_u8S : (Tryz.prog.info? 5).map (fun i=>(i.zero,i.size,i.bytes)) = some (some (.int .u8 0),1,1):=by kernel_rfl
theorem row_setCells {b:Nat} {t:TypeId} : ∀ (vs:List Value) (o:Nat) (w:World) (cur:Array Value),Row w b t cur → o + vs.length ≤ cur.size →
  ∃ cur',Row (w.setCells b o vs) b t cur' ∧ cur'.size = cur.size ∧ (∀ i,i < o → cur'[i]? = cur[i]?) ∧ ∀ j u,vs[j]? = some u → cur'[o + j]? = some u
 | [],o,w,cur,hr,_=>⟨cur,hr,rfl,fun _ _=>rfl,fun j u h=>by cases h⟩
 | v :: vs,o,w,cur,hr,hl=>by
  simp only [List.length_cons] at hl
  obtain ⟨cur',h1,h2,h3,h4⟩:=row_setCells vs (o + 1) (w.setCell ⟨b,o,none⟩ v) (cur.setIfInBounds o v) (hr.set o v) (by simp; omega)
  refine ⟨cur',h1,by rw [h2]; simp,fun i hi=>?_,fun j u hj=>?_⟩
  ·rw [h3 i (by omega),Array.getElem?_setIfInBounds_ne (by omega)]
  ·match j,hj with
   | 0,hj =>
    obtain rfl : v = u:=by simpa using hj
    rw [Nat.add_zero,h3 o (by omega)]
    simp [show o < cur.size by omega]
   | j + 1,hj =>
    have:=h4 j u (by simpa using hj)
    rw [show o + (j + 1) = o + 1 + j by omega]
    exact this
theorem heap_setCells (b:Nat) : ∀ (vs:List Value) (o:Nat) (w:World),(w.setCells b o vs).os = w.os ∧ (w.setCells b o vs).tape = w.tape ∧ (w.setCells b o vs).output = w.output ∧ (w.setCells b o vs).heap.size = w.heap.size ∧ ∀ k,k ≠ b → (w.setCells b o vs).heap[k]? = w.heap[k]?
 | [],o,w=>⟨rfl,rfl,rfl,rfl,fun _ _=>rfl⟩
 | v :: vs,o,w=>by
  obtain ⟨h1,h2,h3,h4,h5⟩:=heap_setCells b vs (o + 1) (w.setCell ⟨b,o,none⟩ v)
  exact ⟨h1,h2,h3,by rw [World.setCells,h4]; simp,fun k hk=>(h5 k hk).trans (heap_setCell_other w _ k v hk)⟩
theorem grownBy_setCells (w:World) (b:Nat) (vs:List Value) (o:Nat) : w.grownBy (w.setCells b o vs) (some b):=by
 obtain ⟨h1,h2,h3,h4,h5⟩:=heap_setCells b vs o w
 exact ⟨h1,h2,h3,Nat.le_of_eq h4.symm,fun k hk hne=>h5 k (fun e=>hne (by rw [e]))⟩
theorem run_appW (w:World) (B0:Nat) (v:Value) (l:List UInt8) (h:OwnW w B0 v l) (vx:Value) (m:List UInt8) (hS:SlB w vx m) (hlen:l.length + m.length ≤ 1000000000) (hbase:B0 ≤ w.heap.size) (ty:TypeId) :
  ∃ v' w',(Builtin.append_ #[22,22] ty #[v,vx]).run Tryz.prog w = .ok v' w' ∧ OwnW w' B0 v' (l ++ m) ∧ w.grownBy w' v.ownBlock ∧ (v'.ownBlock = v.ownBlock ∨ v'.ownBlock = some w.heap.size):=by
 obtain ⟨i,hi,hz,hs1,hb1⟩:=info_parts info_u8S
 have hB : ∀ (l:List UInt8) u,u ∈ l.map B → u.oneCell' = true:=fun l u hu=>by obtain ⟨y,_,rfl⟩:=List.mem_map.1 hu; rfl
 obtain ⟨ad,capx,rfl,k1,k2,k3,k4⟩:=hS
 have hsrc : ∀ (w':World),w' = w → ∀ (ax:Addr),ad = some ax → ∀ j u,(m.map B)[j]? = some u → w'.cell? (ax.add j) = some u:=fun w' hw ax e j u hj=>by
  subst hw
  obtain ⟨hsp,hc⟩:=k4 ax e
  obtain ⟨b',o',sp⟩:=ax
  simp only at hsp
  subst hsp
  have hj' : j < m.length:=by simpa using (List.getElem?_eq_some_iff.1 hj).1
  rw [Addr.add_lit,hc j hj']
  simpa [gb,hj'] using hj
 rcases h with ⟨rfl,rfl⟩ | ⟨b,o,cap,cur,rfl,hb,hr,h1,h2,h3,h4⟩
 ·cases ad with
  | none =>
   have hm : m = []:=List.eq_nil_of_length_eq_zero (by have:=k3 rfl; omega)
   subst hm
   obtain rfl : capx = 0:=k3 rfl
   exact ⟨.slice none 0 0,w,run_append_owned_none (P:=Tryz.prog) (w:=w) B0 22 ty 5 i 1 Tryz.underlying22 hi (.slice none 0 0) 0 [] (World.ownsRow_nil _ _ _ _),.inl ⟨rfl,rfl⟩,World.grownBy.refl w _,.inl rfl⟩
  | some ax =>
   obtain ⟨v',w',hrun,q1,q2,_,q4⟩:=run_append_own_at (P:=Tryz.prog) w B0 22 ty 5 i _ 1 1 Tryz.underlying22 hi hz hs1 hb1 rfl (by decide) (.slice none 0 0) 0 [] (World.ownsRow_nil _ _ _ _) ax m.length capx (m.map B) (by simp) (hsrc w rfl ax rfl) (hB m) (by unfold maxLen; omega) (by omega) hbase
   exact ⟨v',w',hrun,OwnW.of_buf (by simpa [Buf] using q1),q2,q4⟩
 ·cases ad with
  | none =>
   have hm : m = []:=List.eq_nil_of_length_eq_zero (by have:=k3 rfl; omega)
   subst hm
   obtain rfl : capx = 0:=k3 rfl
   refine ⟨.slice (some ⟨b,o,none⟩) l.length cap,w,?_,by rw [List.append_nil]; exact .inr ⟨b,o,cap,cur,rfl,hb,hr,h1,h2,h3,h4⟩,World.grownBy.refl w _,.inl rfl⟩
   simp [Builtin.append_,run_underlying Tryz.underlying22,sizeOf,typeInfo,hi,Builtin.lenOf,Builtin.firstCells,h1,storeCells]
  | some ax =>
   by_cases hroom : l.length + m.length ≤ cap
   ·have hrun:=run_append_room_cells (P:=Tryz.prog) (w:=w) 22 ty 5 i Tryz.underlying22 hi b o l.length cap ax m.length capx (m.map B) (by simp [hs1]) (hsrc w rfl ax rfl) (hB m) hroom (fun j hj=>by
     simp only [List.length_map] at hj
     rw [hr.cell,hs1,Array.getElem?_eq_getElem (by omega)]; rfl) (fun j hj=>hr.frozen _)
    rw [hs1,Nat.mul_one] at hrun
    obtain ⟨cur',c1,c2,c3,c4⟩:=row_setCells (m.map B) (o + l.length) w cur hr (by simp; omega)
    refine ⟨_,_,hrun,.inr ⟨b,o,cap,cur',by rw [List.length_append],hb,c1,by rw [List.length_append]; exact hroom,by rw [c2]; exact h2,h3,fun j hj=>?_⟩,grownBy_setCells w b _ _,.inl rfl⟩
    rw [List.length_append] at hj
    by_cases hjl : j < l.length
    ·rw [c3 _ (by omega),h4 j hjl,show gb (l ++ m) j = gb l j by simp [gb,List.getElem?_append_left hjl]]
    ·have:=c4 (j - l.length) (B (gb m (j - l.length))) (by simp [gb,show j - l.length < m.length by omega])
     rw [show o + l.length + (j - l.length) = o + j by omega] at this
     rw [this]
     simp [gb,List.getElem?_append_right (show l.length ≤ j by omega)]
   ·have hold : ∀ j u,(l.map B)[j]? = some u → w.cell? ((⟨b,o,none⟩ : Addr).add j) = some u:=fun j u hj=>by
     have hj' : j < l.length:=by simpa using (List.getElem?_eq_some_iff.1 hj).1
     rw [Addr.add_lit,hr.cell,h4 j hj']
     simpa [gb,hj'] using hj
    have hbd : Builtin.nextslicecap (l.length + m.length) cap * i.bytes ≤ 281474976710656:=by
     rw [hb1,Nat.mul_one]
     exact Nat.le_trans (nextslicecap_le (by omega)) (by omega)
    have hrun:=run_append_grow (P:=Tryz.prog) (w:=w) 22 ty 5 i _ Tryz.underlying22 hi hz ⟨b,o,none⟩ l.length cap (l.map B) (by simp [hs1]) hold ax m.length capx (m.map B) (by simp [hs1]) (hsrc w rfl ax rfl) (by omega) (by omega) hbd
    have hge:=grownCap_ge w (l.length + m.length) cap 5
    have hcm:=grownCap_le_maxLen w (l.length + m.length) cap 5 (by unfold maxLen; omega)
    refine ⟨_,_,hrun,.inr ⟨w.heap.size,0,_,_,by rw [List.length_append],hbase,Row.newAt w.drew _ _ _ rfl,by rw [List.length_append]; exact hge,?_,hcm,fun j hj=>?_⟩,⟨rfl,rfl,rfl,by simp,fun k hk _=>Below.heap_alloc w.drew _ k hk⟩,.inr rfl⟩
    ·simp only [Array.size_append,List.size_toArray,List.length_map,size_zeroCells]
     show 0 + _ ≤ _ + _ + _ * 1
     omega
    ·rw [List.length_append] at hj
     rw [Nat.zero_add,Array.getElem?_append_left (by simp; omega)]
     have e : (List.map B l).toArray ++ (List.map B m).toArray = ((l ++ m).map B).toArray:=by rw [List.map_append]; simp
     rw [e,List.getElem?_toArray,List.getElem?_map,List.getElem?_eq_getElem (by rw [List.length_append]; exact hj)]
     simp [gb,hj]
end Go.Proofs.YtjpfhhndjpdmoaaGreatDoor
