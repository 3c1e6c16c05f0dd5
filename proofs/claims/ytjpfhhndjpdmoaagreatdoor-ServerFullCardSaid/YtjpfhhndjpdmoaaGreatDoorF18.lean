/- Part of the proof: CurveF,Sha,Right,NewSpec. No conditions of its own. -/
import Derived.Test.YtjpfhhndjpdmoaaGreatDoorF13
import Derived.Test.YtjpfhhndjpdmoaaGreatDoorF17
import Derived.Laws.BitsAllLaws
import Derived.Test.YtjpfhhndjpdmoaaGreatDoorProg
namespace Go.Proofs.YtjpfhhndjpdmoaaGreatDoor
open Go.RowKit
set_option linter.unusedVariables false
set_option linter.unusedSimpArgs false

theorem bit_1 {w:World} {a j:Nat} (hj:j < 256) (h:a / 2 ^ j % 2 = 1) : Calls Tryz.prog 137 #[.agg (AQ (nL a)),.int .i64 (j:Int)] w fun e w'=>e = .returned (.int .i64 1) ∧ Below w.heap.size w w':=by
 have:=bit_any w a j hj
 rw [h] at this
 exact this
theorem bit_0 {w:World} {a j:Nat} (hj:j < 256) (h:a / 2 ^ j % 2 = 0) : Calls Tryz.prog 137 #[.agg (AQ (nL a)),.int .i64 (j:Int)] w fun e w'=>e = .returned (.int .i64 0) ∧ Below w.heap.size w w':=by
 have:=bit_any w a j hj
 rw [h] at this
 exact this
theorem timesF_1 {m k j:Nat} {t r:T3} (h:k / 2 ^ j % 2 = 1) : timesF m t k (j + 1) r = timesF m t k j (addS m (dblS m r) t):=by
 conv=>lhs; unfold timesF
 rw [frc_eq,if_pos h,frc_eq]
theorem timesF_0 {m k j:Nat} {t r:T3} (h:k / 2 ^ j % 2 = 0) : timesF m t k (j + 1) r = timesF m t k j (dblS m r):=by
 conv=>lhs; unfold timesF
 rw [frc_eq,if_neg (by omega)]

set_option maxRecDepth 100000 in
set_option maxHeartbeats 4000000 in
theorem times_gen {w:World} {m neg ri Bc:Nat} {t1 t2:TypeId} {lk la lb:List UInt8} {fin:T3} (hmd:MdS m neg ri) (hP:Row w 6 t1 (AQ (nL m))) (hC:Row w 7 t2 (AQ (nL Bc))) (hBc:Bc < R256) (hmk:∀ w,Calls Tryz.prog 143 #[.agg (AQ (nL m))] w fun e w'=>∃ g,e = .returned (.tuple #[.pointer (some ⟨g,0,none⟩),.int .i64 0]) ∧ ModW w' g m neg ri ∧ w.heap.size ≤ g ∧ Below w.heap.size w w') (hlk:lk.length = 32) (hla:la.length = 32) (hlb:lb.length = 32) (hx:natB la < m) (hy:natB lb < m) (hon:onM m Bc (natB la) (natB lb)) (hfin:timesF m ⟨natB la,natB lb,1⟩ (natB lk) 256 T3.o = fin) (hu:(invI m fin.z).u = 0) (hv:(invI m fin.z).v = 1) : Calls Tryz.prog 84 #[.agg (AB lk),.agg (ptC la lb)] w fun e w'=>e = .returned (.agg (ptC (be32 (dropS m fin).1) (be32 (dropS m fin).2))) ∧ Below w.heap.size w w':=by
 have HGP:=Lib.hid (show ∀ W,Below w.heap.size w W → Row W 6 t1 (AQ (nL m)) from fun W hb=>hP.below hb hP.lt)
 have HGC:=Lib.hid (show ∀ W,Below w.heap.size w W → Row W 7 t2 (AQ (nL Bc)) from fun W hb=>hC.below hb hC.lt)
 have HBC:=Lib.hid hBc
 have HLA:=Lib.hid hla
 have HLB:=Lib.hid hlb
 have HLK:=Lib.hid hlk
 have HON:=Lib.hid (⟨hx,hy,hon⟩ : _ ∧ _ ∧ _)
 have HFIN:=Lib.hid hfin
 have HI:=Lib.hid (⟨hu,hv⟩ : _ ∧ _)
 have HMK:=Lib.hid hmk
 have HP:=Lib.hid hmd.pos
 have HL:=Lib.hid hmd.low
 clear hP hC hBc hla hlb hlk hx hy hon hfin hu hv hmk hmd
 go_enter Tryz.func84,Tryz.ntmps84
 go_upto_region 1 with (fail)
 refine at_world (fun W=>Row W w.heap.size 24 (AB lk) ∧ Row W (w.heap.size + 1) 169 (ptC la lb) ∧ Row W (w.heap.size + 1 + 1) 169 (ptC zer32 zer32) ∧ Below w.heap.size w W) (⟨(((Row.newAt _ _ _ _ rfl).alloc _).alloc _),((Row.newAt _ _ _ _ (by simp)).alloc _),(by rw [zerPt_eq]; exact (Row.newAt _ _ _ _ (by simp))),((((Below.refl _ w).alloc (Nat.le_refl _) _).alloc (by simp) _).alloc (by simp; omega) _)⟩) ?_
 rintro W1 ⟨i1_2,i1_3,i1_4,hB1⟩
 go_wp2_with fail
 refine (newField_gen _ m neg ri t1 (HGP.out _ hB1) HMK.out).mono ?_
 rintro e W0 ⟨g,rfl,hM,hB0⟩
 replace i1_2:=i1_2.below hB0 i1_2.lt
 replace i1_3:=i1_3.below hB0 i1_3.lt
 replace i1_4:=i1_4.below hB0 i1_4.lt
 have hA0:=hB1.trans (hB0.mono hB1.size)
 have HA:=Lib.hid hA0
 have HM:=Lib.hid (show ∀ W,Below W0.heap.size W0 W → ModW W g m neg ri from fun W hb=>hM.below hb)
 replace HGP:=Lib.hid (fun W (hb:Below W0.heap.size W0 W)=>HGP.out W (HA.out.trans (hb.mono HA.out.size)))
 replace HGC:=Lib.hid (fun W (hb:Below W0.heap.size W0 W)=>HGC.out W (HA.out.trans (hb.mono HA.out.size)))
 have HLT:=Lib.hid (⟨i1_2.lt,i1_3.lt,i1_4.lt⟩ : _ ∧ _ ∧ _)
 clear hM hB0 hA0 hB1
 have ovf:=over_f g
 have onf : allOne (fC g) = true:=by kernel_rfl
 have szf : (fC g).size = 1:=rfl
 go_upto_region 2 with (fail)
 obtain ⟨g5,hg5⟩ : ∃ q_,q_ = W0.heap.size:=⟨_,rfl⟩
 rw [← hg5]
 refine at_world (fun W=>Row W w.heap.size 24 (AB lk) ∧ Row W (w.heap.size + 1) 169 (ptC la lb) ∧ Row W (w.heap.size + 1 + 1) 169 (ptC zer32 zer32) ∧ Row W g5 243 (fC g) ∧ Below W0.heap.size W0 W) (⟨((i1_2.alloc _).setRowOther _ _ (by have:=HLT.out; omega)),((i1_3.alloc _).setRowOther _ _ (by have:=HLT.out; omega)),((i1_4.alloc _).setRowOther _ _ (by have:=HLT.out; omega)),((Row.newAt W0 g5 243 _ hg5).setRow _),(bSetRow ((Below.refl _ W0).alloc (Nat.le_refl _) _) (by omega) _)⟩) ?_
 clear i1_2 i1_3 i1_4
 rintro W2 ⟨i2_2,i2_3,i2_4,i2_5,hB2⟩
 have lb_g5 : W0.heap.size ≤ g5:=by omega
 clear hg5
 replace i2_2:=i2_2.drew
 replace i2_3:=i2_3.drew
 replace i2_4:=i2_4.drew
 replace i2_5:=i2_5.drew
 replace hB2:=hB2.drew
 obtain ⟨x12,h12⟩ : ∃ q_,q_ = natB lk:=⟨_,rfl⟩
 have b_x12 : x12 < R256:=by rw [h12]; exact natB_lt32 HLK.out
 have H12:=Lib.hid h12
 clear h12
 refine wp_region_allocs 7 [0,1,2,3,4] [5,6] (fun k=>if k = 5 then .cells (AQ (nL 0)) 177 else if k = 6 then .cells (t3C 0 0 0) 247 else .cells #[] 0) (by kernel_rfl) (by kernel_rfl) (by kernel_rfl) (by kernel_rfl) ?hal ?h
 case hal =>
  intro k hk o ho
  simp only [List.mem_cons,List.not_mem_nil,or_false] at hk
  rcases hk with rfl | rfl
  ·cases ho; exact alF_of _ (fun _ _=>by kernel_rfl)
  ·cases ho; exact alF_of _ (fun _ _=>by kernel_rfl)
 case h =>
 apply Exists.intro
 refine ⟨fun R=>?_,?_⟩
 ·simp only [List.map_cons,List.map_nil,List.getD_cons_zero,List.getD_cons_succ]
  (go_big_quiet_want; apply qn_load at_b32 rfl rfl i2_2 (hp_b HLK.out); (simp only [Act.put,lS]; go_big_quiet_on))
  (go_big_quiet_want; refine qa_call _ _ ?_ _ (fun w' hb=>of_x HLK.out H12.out) ?_; (focus (intro w; simp [go_sem]; done)); (simp only [Act.put,lS]; go_big_quiet_on))
  (go_big_quiet_want; apply qn_load at_f rfl rfl i2_5 (hp_f g); (simp only [Act.put,lS]; go_big_quiet_on))
  (go_big_quiet_want; apply qn_load at_pt rfl rfl i2_3 (hp_p HLA.out HLB.out); (simp only [Act.put,lS]; go_big_quiet_on))
  (go_big_quiet_want; refine qa_call _ _ ?_ _ (fun w' hb=>lift_yes (HM.out _ (hB2.trans (hb.mono hB2.size))) (HGP.out _ (hB2.trans (hb.mono hB2.size))) (HGC.out _ (hB2.trans (hb.mono hB2.size))) HBC.out HLA.out HLB.out HON.out.1 HON.out.2.1 HON.out.2.2) ?_; (focus (intro w; simp [go_sem]; done)); (simp only [Act.put,lS]; go_big_quiet_on))
  exact wpQuiet_nil rfl
 ·refine wpAl_consP rfl ?_
  intro g6 hg6 nng6
  refine wpAl_consP rfl ?_
  intro g7 hg7 nng7
  intro w2 hcc
  have ne_g7_g6 : g7 ≠ g6:=by rintro rfl; simp [upd] at nng7
  have ne_2_g6 : w.heap.size ≠ g6:=by have:=i2_2.lt; omega
  have ne_2_g7 : w.heap.size ≠ g7:=by have:=i2_2.lt; omega
  have ne_3_g6 : (w.heap.size + 1) ≠ g6:=by have:=i2_3.lt; omega
  have ne_3_g7 : (w.heap.size + 1) ≠ g7:=by have:=i2_3.lt; omega
  have ne_4_g6 : (w.heap.size + 1 + 1) ≠ g6:=by have:=i2_4.lt; omega
  have ne_4_g7 : (w.heap.size + 1 + 1) ≠ g7:=by have:=i2_4.lt; omega
  have ne_5_g6 : g5 ≠ g6:=by have:=i2_5.lt; omega
  have ne_5_g7 : g5 ≠ g7:=by have:=i2_5.lt; omega
  replace i2_2:=i2_2.below hcc.1 i2_2.lt
  replace i2_3:=i2_3.below hcc.1 i2_3.lt
  replace i2_4:=i2_4.below hcc.1 i2_4.lt
  replace i2_5:=i2_5.below hcc.1 i2_5.lt
  have j_6 : Row w2 g6 177 (AQ (nL 0)):=.of_heap (hcc.2 g6 _ (by simp [upd,ne_g7_g6.symm]))
  have j_7 : Row w2 g7 247 (t3C 0 0 0):=.of_heap (hcc.2 g7 _ (by simp [upd]))
  have hg_le : W0.heap.size ≤ w2.heap.size:=Nat.le_trans hB2.size hcc.1.size
  have lb_g6 : W0.heap.size ≤ g6:=Nat.le_trans hB2.size hg6
  have lb_g7 : W0.heap.size ≤ g7:=Nat.le_trans hB2.size hg7
  replace hB2:=hB2.trans (hcc.1.mono hB2.size)
  clear hcc hg_le hg6 nng6 hg7 nng7
  have qn10 : g7 ≠ g6:=by omega
  have lt_6:=j_6.lt
  have lt_7:=j_7.lt
  go_upto_region 3 with (fail)
  refine at_world (fun W=>Row W w.heap.size 24 (AB lk) ∧ Row W (w.heap.size + 1) 169 (ptC la lb) ∧ Row W (w.heap.size + 1 + 1) 169 (ptC zer32 zer32) ∧ Row W g5 243 (fC g) ∧ Row W g6 177 (AQ (nL x12)) ∧ Row W g7 247 (t3C (natB la) (natB lb) 1) ∧ Below W0.heap.size W0 W) (⟨((i2_2.setRowOther _ _ (by omega)).setRowOther _ _ (by omega)),((i2_3.setRowOther _ _ (by omega)).setRowOther _ _ (by omega)),((i2_4.setRowOther _ _ (by omega)).setRowOther _ _ (by omega)),((i2_5.setRowOther _ _ (by omega)).setRowOther _ _ (by omega)),((j_6.setRow _).setRowOther _ _ (by omega)),((j_7.setRowOther _ _ (by omega)).setRow _),(bSetRow (bSetRow hB2 lb_g6 _) lb_g7 _)⟩) ?_
  clear i2_2 i2_3 i2_4 i2_5 j_6 j_7 qn10 lt_6 lt_7 hB2
  rintro W3 ⟨i3_2,i3_3,i3_4,i3_5,i3_6,i3_7,hB3⟩
  clear i3_2 i3_3
  have lw_4 : (w.heap.size + 1 + 1) < W3.heap.size:=i3_4.lt
  have lw_5 : g5 < W3.heap.size:=i3_5.lt
  have lw_6 : g6 < W3.heap.size:=i3_6.lt
  have lw_7 : g7 < W3.heap.size:=i3_7.lt
  go_wp2_with fail
  obtain ⟨g8,hg8⟩ : ∃ q_,q_ = W3.heap.size:=⟨_,rfl⟩
  rw [← hg8]
  have HNE:=Lib.hid (show (w.heap.size + 1 + 1) ≠ g8 ∧ g5 ≠ g8 ∧ g6 ≠ g8 ∧ g7 ≠ g8 ∧ W0.heap.size ≤ g8 from by have:=hB3.size; omega)
  have b_o : natB la < R256 ∧ natB lb < R256:=⟨natB_lt32 HLA.out,natB_lt32 HLB.out⟩
  go_loopg [9] 256 (fun gk t9 wr=>∃ r : T3,gk ≤ 256 ∧ timesF m ⟨natB la,natB lb,1⟩ (natB lk) gk r = fin ∧ (r.x < R256 ∧ r.y < R256 ∧ r.z < R256) ∧ t9 = .int .i64 ((gk:Int) - 1) ∧ Row wr g8 247 (t3C r.x r.y r.z) ∧ Row wr (w.heap.size + 1 + 1) 169 (ptC zer32 zer32) ∧ Row wr g5 243 (fC g) ∧ Row wr g6 177 (AQ (nL x12)) ∧ Row wr g7 247 (t3C (natB la) (natB lb) 1) ∧ Below W0.heap.size W0 wr)
  case atStart=>exact ⟨T3.o,Nat.le_refl _,HFIN.out,⟨by decide,by decide,by decide⟩,rfl,rowZ3 _ _ _ hg8,i3_4.alloc _,i3_5.alloc _,i3_6.alloc _,i3_7.alloc _,hB3.alloc hB3.size _⟩
  case round =>
   clear hg8 lw_4 lw_5 lw_6 lw_7 i3_4 i3_5 i3_6 i3_7 hB3
   obtain ⟨r,hk,hf,b_r,rfl,r8,r4,r5,r6,r7,hB⟩:=hrel
   obtain ⟨ne_4_g8,ne_5_g8,ne_6_g8,ne_7_g8,lb_g8⟩:=HNE.out
   by_cases hz : gk = 0
   ·subst hz
    have hs : r = fin:=hf
    subst hs
    clear hf
    have i0 : ¬ (0 : Int) ≤ ((0 : Nat) : Int) - 1:=by omega
    go_upto_region 10 with (fail)
    refine at_world (fun W=>Row W (w.heap.size + 1 + 1) 169 (ptC zer32 zer32) ∧ Row W g5 243 (fC g) ∧ Row W g8 247 (t3C r.x r.y r.z) ∧ Below W0.heap.size W0 W) (⟨r4,r5,r8,hB⟩) ?_
    clear r4 r5 r8 r6 r7 hB
    rintro W4 ⟨i4_4,i4_5,i4_8,hB4⟩
    have ovp:=over_pt zer32_len zer32_len (be32_len (mulM m r.x (mulM m (invI m r.z).y (invI m r.z).y))) (be32_len (mulM m r.y (mulM m (invI m r.z).y (mulM m (invI m r.z).y (invI m r.z).y))))
    have ops:=ptC_size (be32_len (mulM m r.x (mulM m (invI m r.z).y (invI m r.z).y))) (be32_len (mulM m r.y (mulM m (invI m r.z).y (mulM m (invI m r.z).y (invI m r.z).y))))
    have ops0:=ptC_size zer32_len zer32_len
    have opo:=ptC_one (be32 (mulM m r.x (mulM m (invI m r.z).y (invI m r.z).y))) (be32 (mulM m r.y (mulM m (invI m r.z).y (mulM m (invI m r.z).y (invI m r.z).y))))
    refine wp_region_lex 3 ?_
    simp only [List.take_succ_cons,List.take_zero,List.drop_succ_cons,List.drop_zero]
    (go_big_quiet_want; apply qn_load at_f rfl rfl i4_5 (hp_f g); (simp only [Act.put,lS]; go_big_quiet_on))
    (go_big_quiet_want; apply qn_load at_t3 rfl rfl i4_8 (hp_t r.x r.y r.z); (simp only [Act.put,lS]; go_big_quiet_on))
    (go_big_quiet_want; refine qa_call _ _ ?_ _ (fun w' hb=>drop_any (HM.out _ (hB4.trans (hb.mono hB4.size))) b_r.1 b_r.2.1 b_r.2.2 HI.out.1 HI.out.2) ?_; (focus (intro w; simp [go_sem]; done)); (simp only [Act.put,lS]; go_big_quiet_on))
    refine wpQuiet_nil ?_
    intro w2 hcc
    replace i4_4:=i4_4.below hcc.1 i4_4.lt
    replace i4_5:=i4_5.below hcc.1 i4_5.lt
    replace i4_8:=i4_8.below hcc.1 i4_8.lt
    have hg_le : W0.heap.size ≤ w2.heap.size:=Nat.le_trans hB4.size hcc.1.size
    replace hB4:=hB4.trans (hcc.1.mono hB4.size)
    clear hcc hg_le
    have lt_4:=i4_4.lt
    go_wp2_with fail
    exact ret_row (by first | exact .inl rfl | exact .inr rfl) rfl ((w.heap.size + 1 + 1)) 169 (ptC (be32 (mulM m r.x (mulM m (invI m r.z).y (invI m r.z).y))) (be32 (mulM m r.y (mulM m (invI m r.z).y (mulM m (invI m r.z).y (invI m r.z).y))))) 64 _ rfl (i4_4.setRow _) Tryz.underlying169 rfl (by kernel_rfl) (ptC_size (be32_len _) (be32_len _)) ⟨rfl,bSetRow (HA.out.trans (hB4.mono HA.out.size)) (by omega) _⟩
   ·obtain ⟨j,rfl⟩ : ∃ j,gk = j + 1:=⟨gk - 1,by omega⟩
    have ej : ((j + 1 : Nat) : Int) - 1 = (j:Int):=by omega
    rw [ej]
    have i0 : (0 : Int) ≤ (j:Int):=by omega
    have i1 : (j:Int) ≤ 255:=by omega
    have HJ:=Lib.hid (show j < 256 by omega)
    clear hz ej hk
    rcases Nat.mod_two_eq_zero_or_one (natB lk / 2 ^ j) with hbit | hbit
    ·rw [timesF_0 hbit] at hf
     have HBIT:=Lib.hid (show x12 / 2 ^ j % 2 = 0 from by rw [H12.out]; exact hbit)
     have HF:=Lib.hid hf
     clear hbit hf
     go_upto_region 7 with (fail)
     refine at_world (fun W=>Row W (w.heap.size + 1 + 1) 169 (ptC zer32 zer32) ∧ Row W g5 243 (fC g) ∧ Row W g6 177 (AQ (nL x12)) ∧ Row W g7 247 (t3C (natB la) (natB lb) 1) ∧ Row W g8 247 (t3C r.x r.y r.z) ∧ Below W0.heap.size W0 W) (⟨r4,r5,r6,r7,r8,hB⟩) ?_
     clear r4 r5 r6 r7 r8 hB
     rintro W4 ⟨i4_4,i4_5,i4_6,i4_7,i4_8,hB4⟩
     obtain ⟨T22,h22⟩ : ∃ q_,q_ = dblS m ⟨r.x,r.y,r.z⟩:=⟨_,rfl⟩
     have b_T22 : T22.x < R256 ∧ T22.y < R256 ∧ T22.z < R256:=by rw [h22]; exact dblS_lt HP.out HL.out
     have H22:=Lib.hid h22
     clear h22
     refine wp_region_lex 3 ?_
     simp only [List.take_succ_cons,List.take_zero,List.drop_succ_cons,List.drop_zero]
     (go_big_quiet_want; apply qn_load at_f rfl rfl i4_5 (hp_f g); (simp only [Act.put,lS]; go_big_quiet_on))
     (go_big_quiet_want; apply qn_load at_t3 rfl rfl i4_8 (hp_t r.x r.y r.z); (simp only [Act.put,lS]; go_big_quiet_on))
     (go_big_quiet_want; refine qa_call _ _ ?_ _ (fun w' hb=>dbl_x (HM.out _ (hB4.trans (hb.mono hB4.size))) b_r.1 b_r.2.1 b_r.2.2 H22.out) ?_; (focus (intro w; simp [go_sem]; done)); (simp only [Act.put,lS]; go_big_quiet_on))
     refine wpQuiet_nil ?_
     intro w2 hcc
     replace i4_4:=i4_4.below hcc.1 i4_4.lt
     replace i4_5:=i4_5.below hcc.1 i4_5.lt
     replace i4_6:=i4_6.below hcc.1 i4_6.lt
     replace i4_7:=i4_7.below hcc.1 i4_7.lt
     replace i4_8:=i4_8.below hcc.1 i4_8.lt
     have hg_le : W0.heap.size ≤ w2.heap.size:=Nat.le_trans hB4.size hcc.1.size
     replace hB4:=hB4.trans (hcc.1.mono hB4.size)
     clear hcc hg_le
     have lt_8:=i4_8.lt
     go_upto_region 8 with (fail)
     refine at_world (fun W=>Row W (w.heap.size + 1 + 1) 169 (ptC zer32 zer32) ∧ Row W g5 243 (fC g) ∧ Row W g6 177 (AQ (nL x12)) ∧ Row W g7 247 (t3C (natB la) (natB lb) 1) ∧ Row W g8 247 (t3C T22.x T22.y T22.z) ∧ Below W0.heap.size W0 W) (⟨(i4_4.setRowOther _ _ (by omega)),(i4_5.setRowOther _ _ (by omega)),(i4_6.setRowOther _ _ (by omega)),(i4_7.setRowOther _ _ (by omega)),(i4_8.setRow _),(bSetRow hB4 lb_g8 _)⟩) ?_
     clear i4_4 i4_5 i4_6 i4_7 i4_8 lt_8 hB4
     rintro W5 ⟨i5_4,i5_5,i5_6,i5_7,i5_8,hB5⟩
     refine wp_region_lex 3 ?_
     simp only [List.take_succ_cons,List.take_zero,List.drop_succ_cons,List.drop_zero]
     (go_big_quiet_want; apply qn_load at_num rfl rfl i5_6 (hp_num x12); (simp only [Act.put,lS]; go_big_quiet_on))
     (first | go_big_quiet_skip | (go_big_quiet_want; go_big_quiet_op; first | go_big_quiet_on | (refine ⟨_,fun _ _=>rfl,?_⟩; go_big_quiet_on)))
     (go_big_quiet_want; refine qa_call _ _ ?_ _ (fun w' hb=>bit_0 HJ.out HBIT.out) ?_; (focus (intro w; simp [go_sem]; done)); (simp only [Act.put,lS]; go_big_quiet_on))
     refine wpQuiet_nil ?_
     intro w2 hcc
     replace i5_4:=i5_4.below hcc.1 i5_4.lt
     replace i5_5:=i5_5.below hcc.1 i5_5.lt
     replace i5_6:=i5_6.below hcc.1 i5_6.lt
     replace i5_7:=i5_7.below hcc.1 i5_7.lt
     replace i5_8:=i5_8.below hcc.1 i5_8.lt
     have hg_le : W0.heap.size ≤ w2.heap.size:=Nat.le_trans hB5.size hcc.1.size
     replace hB5:=hB5.trans (hcc.1.mono hB5.size)
     clear hcc hg_le
     go_wp2_with fail
     go_roundg j
     case measure=>omega
     case rel=>exact ⟨T22,by have:=HJ.out; omega,(by have e:=HF.out; rw [← H22.out] at e; exact e),b_T22,rfl,i5_8,i5_4,i5_5,i5_6,i5_7,hB5⟩
    ·rw [timesF_1 hbit] at hf
     have HBIT:=Lib.hid (show x12 / 2 ^ j % 2 = 1 from by rw [H12.out]; exact hbit)
     have HF:=Lib.hid hf
     clear hbit hf
     go_upto_region 7 with (fail)
     refine at_world (fun W=>Row W (w.heap.size + 1 + 1) 169 (ptC zer32 zer32) ∧ Row W g5 243 (fC g) ∧ Row W g6 177 (AQ (nL x12)) ∧ Row W g7 247 (t3C (natB la) (natB lb) 1) ∧ Row W g8 247 (t3C r.x r.y r.z) ∧ Below W0.heap.size W0 W) (⟨r4,r5,r6,r7,r8,hB⟩) ?_
     clear r4 r5 r6 r7 r8 hB
     rintro W4 ⟨i4_4,i4_5,i4_6,i4_7,i4_8,hB4⟩
     obtain ⟨T22,h22⟩ : ∃ q_,q_ = dblS m ⟨r.x,r.y,r.z⟩:=⟨_,rfl⟩
     have b_T22 : T22.x < R256 ∧ T22.y < R256 ∧ T22.z < R256:=by rw [h22]; exact dblS_lt HP.out HL.out
     have H22:=Lib.hid h22
     clear h22
     refine wp_region_lex 3 ?_
     simp only [List.take_succ_cons,List.take_zero,List.drop_succ_cons,List.drop_zero]
     (go_big_quiet_want; apply qn_load at_f rfl rfl i4_5 (hp_f g); (simp only [Act.put,lS]; go_big_quiet_on))
     (go_big_quiet_want; apply qn_load at_t3 rfl rfl i4_8 (hp_t r.x r.y r.z); (simp only [Act.put,lS]; go_big_quiet_on))
     (go_big_quiet_want; refine qa_call _ _ ?_ _ (fun w' hb=>dbl_x (HM.out _ (hB4.trans (hb.mono hB4.size))) b_r.1 b_r.2.1 b_r.2.2 H22.out) ?_; (focus (intro w; simp [go_sem]; done)); (simp only [Act.put,lS]; go_big_quiet_on))
     refine wpQuiet_nil ?_
     intro w2 hcc
     replace i4_4:=i4_4.below hcc.1 i4_4.lt
     replace i4_5:=i4_5.below hcc.1 i4_5.lt
     replace i4_6:=i4_6.below hcc.1 i4_6.lt
     replace i4_7:=i4_7.below hcc.1 i4_7.lt
     replace i4_8:=i4_8.below hcc.1 i4_8.lt
     have hg_le : W0.heap.size ≤ w2.heap.size:=Nat.le_trans hB4.size hcc.1.size
     replace hB4:=hB4.trans (hcc.1.mono hB4.size)
     clear hcc hg_le
     have lt_8:=i4_8.lt
     go_upto_region 8 with (fail)
     refine at_world (fun W=>Row W (w.heap.size + 1 + 1) 169 (ptC zer32 zer32) ∧ Row W g5 243 (fC g) ∧ Row W g6 177 (AQ (nL x12)) ∧ Row W g7 247 (t3C (natB la) (natB lb) 1) ∧ Row W g8 247 (t3C T22.x T22.y T22.z) ∧ Below W0.heap.size W0 W) (⟨(i4_4.setRowOther _ _ (by omega)),(i4_5.setRowOther _ _ (by omega)),(i4_6.setRowOther _ _ (by omega)),(i4_7.setRowOther _ _ (by omega)),(i4_8.setRow _),(bSetRow hB4 lb_g8 _)⟩) ?_
     clear i4_4 i4_5 i4_6 i4_7 i4_8 lt_8 hB4
     rintro W5 ⟨i5_4,i5_5,i5_6,i5_7,i5_8,hB5⟩
     refine wp_region_lex 3 ?_
     simp only [List.take_succ_cons,List.take_zero,List.drop_succ_cons,List.drop_zero]
     (go_big_quiet_want; apply qn_load at_num rfl rfl i5_6 (hp_num x12); (simp only [Act.put,lS]; go_big_quiet_on))
     (first | go_big_quiet_skip | (go_big_quiet_want; go_big_quiet_op; first | go_big_quiet_on | (refine ⟨_,fun _ _=>rfl,?_⟩; go_big_quiet_on)))
     (go_big_quiet_want; refine qa_call _ _ ?_ _ (fun w' hb=>bit_1 HJ.out HBIT.out) ?_; (focus (intro w; simp [go_sem]; done)); (simp only [Act.put,lS]; go_big_quiet_on))
     refine wpQuiet_nil ?_
     intro w2 hcc
     replace i5_4:=i5_4.below hcc.1 i5_4.lt
     replace i5_5:=i5_5.below hcc.1 i5_5.lt
     replace i5_6:=i5_6.below hcc.1 i5_6.lt
     replace i5_7:=i5_7.below hcc.1 i5_7.lt
     replace i5_8:=i5_8.below hcc.1 i5_8.lt
     have hg_le : W0.heap.size ≤ w2.heap.size:=Nat.le_trans hB5.size hcc.1.size
     replace hB5:=hB5.trans (hcc.1.mono hB5.size)
     clear hcc hg_le
     go_upto_region 9 with (fail)
     refine at_world (fun W=>Row W (w.heap.size + 1 + 1) 169 (ptC zer32 zer32) ∧ Row W g5 243 (fC g) ∧ Row W g6 177 (AQ (nL x12)) ∧ Row W g7 247 (t3C (natB la) (natB lb) 1) ∧ Row W g8 247 (t3C T22.x T22.y T22.z) ∧ Below W0.heap.size W0 W) (⟨i5_4,i5_5,i5_6,i5_7,i5_8,hB5⟩) ?_
     clear i5_4 i5_5 i5_6 i5_7 i5_8 hB5
     rintro W6 ⟨i6_4,i6_5,i6_6,i6_7,i6_8,hB6⟩
     obtain ⟨T30,h30⟩ : ∃ q_,q_ = addS m ⟨T22.x,T22.y,T22.z⟩ ⟨(natB la),(natB lb),1⟩:=⟨_,rfl⟩
     have b_T30 : T30.x < R256 ∧ T30.y < R256 ∧ T30.z < R256:=by rw [h30]; exact addS_lt HP.out HL.out ⟨b_T22.1,b_T22.2.1,b_T22.2.2⟩ ⟨b_o.1,b_o.2,(show 1 < R256 by decide)⟩
     have H30:=Lib.hid h30
     clear h30
     refine wp_region_lex 4 ?_
     simp only [List.take_succ_cons,List.take_zero,List.drop_succ_cons,List.drop_zero]
     (go_big_quiet_want; apply qn_load at_f rfl rfl i6_5 (hp_f g); (simp only [Act.put,lS]; go_big_quiet_on))
     (go_big_quiet_want; apply qn_load at_t3 rfl rfl i6_8 (hp_t T22.x T22.y T22.z); (simp only [Act.put,lS]; go_big_quiet_on))
     (go_big_quiet_want; apply qn_load at_t3 rfl rfl i6_7 (hp_t (natB la) (natB lb) 1); (simp only [Act.put,lS]; go_big_quiet_on))
     (go_big_quiet_want; refine qa_call _ _ ?_ _ (fun w' hb=>add3_x (HM.out _ (hB6.trans (hb.mono hB6.size))) b_T22.1 b_T22.2.1 b_T22.2.2 b_o.1 b_o.2 (show 1 < R256 by decide) H30.out) ?_; (focus (intro w; simp [go_sem]; done)); (simp only [Act.put,lS]; go_big_quiet_on))
     refine wpQuiet_nil ?_
     intro w2 hcc
     replace i6_4:=i6_4.below hcc.1 i6_4.lt
     replace i6_5:=i6_5.below hcc.1 i6_5.lt
     replace i6_6:=i6_6.below hcc.1 i6_6.lt
     replace i6_7:=i6_7.below hcc.1 i6_7.lt
     replace i6_8:=i6_8.below hcc.1 i6_8.lt
     have hg_le : W0.heap.size ≤ w2.heap.size:=Nat.le_trans hB6.size hcc.1.size
     replace hB6:=hB6.trans (hcc.1.mono hB6.size)
     clear hcc hg_le
     have lt_8:=i6_8.lt
     go_wp2_with fail
     go_roundg j
     case measure=>omega
     case rel=>exact ⟨T30,by have:=HJ.out; omega,(by have e:=HF.out; rw [← H22.out] at e; rw [← H30.out] at e; exact e),b_T30,rfl,(i6_8.setRow _),(i6_4.setRowOther _ _ (by omega)),(i6_5.setRowOther _ _ (by omega)),(i6_6.setRowOther _ _ (by omega)),(i6_7.setRowOther _ _ (by omega)),(bSetRow hB6 lb_g8 _)⟩
end Go.Proofs.YtjpfhhndjpdmoaaGreatDoor

namespace Go.Proofs.YtjpfhhndjpdmoaaGreatDoor
open Go.RowKit

abbrev D (x:UInt32) : Value:=.int .u32 (x.toNat : Int)
abbrev AD (l:List UInt32) : Array Value:=(l.map D).toArray
def xw (a b:UInt32) : UInt32:=a ^^^ b
def nw (a b:UInt32) : UInt32:=a &&& b
def ow (a b:UInt32) : UInt32:=a ||| b
def aw (a b:UInt32) : UInt32:=a + b
def cw (a:UInt32) : UInt32:= ~~~ a
theorem wrapN32 (a:Nat) : IntKind.u32.wrap (a:Int) = ((a % 4294967296 : Nat) : Int):=by rw [IntKind.wrap_u32']; omega
theorem dw_xor (a b:UInt32) : bits .xor .u32 (a.toNat : Int) (b.toNat : Int) = ((xw a b).toNat : Int):=by
 rw [u32_xor_nat _ _ a.toNat_lt b.toNat_lt,xw,UInt32.toNat_xor]
theorem dw_and (a b:UInt32) : bits .and .u32 (a.toNat : Int) (b.toNat : Int) = ((nw a b).toNat : Int):=by
 rw [u32_and_nat _ _ a.toNat_lt b.toNat_lt,nw,UInt32.toNat_and]
theorem dw_or (a b:UInt32) : bits .or .u32 (a.toNat : Int) (b.toNat : Int) = ((ow a b).toNat : Int):=by
 rw [u32_or_nat _ _ a.toNat_lt b.toNat_lt,ow,UInt32.toNat_or]
theorem dw_add (a b:UInt32) : IntKind.u32.wrap ((a.toNat : Int) + (b.toNat : Int)) = ((aw a b).toNat : Int):=by
 rw [show ((a.toNat : Int) + (b.toNat : Int)) = ((a.toNat + b.toNat : Nat) : Int) by omega,wrapN32,aw,UInt32.toNat_add]
theorem dw_addm (a b:UInt32) : ((a.toNat : Int) + (b.toNat : Int)) % 4294967296 = ((aw a b).toNat : Int):=by
 rw [← dw_add,IntKind.wrap_u32']
def srW (n:Nat) (x:UInt32) : UInt32:=UInt32.ofNat (x.toNat / 2 ^ n)
def sl (n:Nat) (x:UInt32) : UInt32:=UInt32.ofNat (x.toNat * 2 ^ n % 4294967296)
theorem srW_nat (n:Nat) (x:UInt32) : ((srW n x).toNat : Int) = (x.toNat : Int) / 2 ^ n:=by
 have h:=x.toNat_lt
 have h1 : x.toNat / 2 ^ n ≤ x.toNat:=Nat.div_le_self _ _
 rw [srW,UInt32.toNat_ofNat',Nat.mod_eq_of_lt (by omega)]
 simp
theorem sl_nat (n:Nat) (x:UInt32) : ((sl n x).toNat : Int) = IntKind.u32.wrap ((x.toNat : Int) * 2 ^ n):=by
 rw [show ((x.toNat : Int) * 2 ^ n) = ((x.toNat * 2 ^ n : Nat) : Int) by simp,wrapN32,sl,UInt32.toNat_ofNat']
 have : x.toNat * 2 ^ n % 4294967296 < 4294967296:=Nat.mod_lt _ (by omega)
 rw [Nat.mod_eq_of_lt (by omega)]
theorem sr_8 (x:UInt32) : (x.toNat : Int) / 8 = ((srW 3 x).toNat : Int):=(srW_nat 3 x).symm
theorem sr_1024 (x:UInt32) : (x.toNat : Int) / 1024 = ((srW 10 x).toNat : Int):=(srW_nat 10 x).symm
def rr (n:Nat) (x:UInt32) : UInt32:=ow (srW n x) (sl (32 - n) x)
def rrB (n:Nat) (x:UInt32) : UInt32:=ow (sl (32 - n) x) (srW n x)
theorem rrB_eq (n:Nat) (x:UInt32) : rrB n x = rr n x:=by unfold rr rrB ow; exact UInt32.or_comm _ _
theorem rr_bits (n:Nat) (x:UInt32) (a b:Int) (ha:a = 2 ^ (32 - n)) (hb:b = 2 ^ n) : Value.int .u32 (bits .or .u32 ((x.toNat : Int) * a % 4294967296) ((x.toNat : Int) / b)) = D (rr n x):=by
 rw [← rrB_eq]
 unfold rrB D
 rw [← dw_or,sl_nat,srW_nat,IntKind.wrap_u32',ha,hb]
def gw (l:List UInt32) (i:Nat) : UInt32:=l.getD i 0
def be4 (a b c d:UInt8) : UInt32:=UInt32.ofNat (a.toNat * 16777216 + b.toNat * 65536 + c.toNat * 256 + d.toNat)
theorem or_shift (a b k:Nat) (h:b < 2 ^ k) : a * 2 ^ k ||| b = a * 2 ^ k + b:=by
 rw [← Nat.shiftLeft_eq,Nat.shiftLeft_add_eq_or_of_lt h]
theorem be4_bits (x0 x1 x2 x3:UInt8) : Value.int .u32 (bits .or .u32 (bits .or .u32 (bits .or .u32 ((x0.toNat : Int) * 16777216) ((x1.toNat : Int) * 65536)) ((x2.toNat : Int) * 256)) (x3.toNat : Int)) = D (be4 x0 x1 x2 x3):=by
 have h0:=x0.toNat_lt
 have h1:=x1.toNat_lt
 have h2:=x2.toNat_lt
 have h3:=x3.toNat_lt
 have e0 : ((x0.toNat : Int) * 16777216) = ((x0.toNat * 16777216 : Nat) : Int):=by omega
 have e1 : ((x1.toNat : Int) * 65536) = ((x1.toNat * 65536 : Nat) : Int):=by omega
 have e2 : ((x2.toNat : Int) * 256) = ((x2.toNat * 256 : Nat) : Int):=by omega
 have a1:=or_shift x0.toNat (x1.toNat * 65536) 24 (by omega)
 have a2:=or_shift (x0.toNat * 256 + x1.toNat) (x2.toNat * 256) 16 (by omega)
 have a3:=or_shift (x0.toNat * 65536 + x1.toNat * 256 + x2.toNat) x3.toNat 8 (by omega)
 rw [show (2 : Nat) ^ 24 = 16777216 from rfl] at a1
 rw [show (2 : Nat) ^ 16 = 65536 from rfl,show (x0.toNat * 256 + x1.toNat) * 65536 = x0.toNat * 16777216 + x1.toNat * 65536 by omega] at a2
 rw [show (2 : Nat) ^ 8 = 256 from rfl,show (x0.toNat * 65536 + x1.toNat * 256 + x2.toNat) * 256 = x0.toNat * 16777216 + x1.toNat * 65536 + x2.toNat * 256 by omega] at a3
 rw [e0,e1,e2,u32_or_nat _ _ (by omega) (by omega),a1,u32_or_nat _ _ (by omega) (by omega),a2,u32_or_nat _ _ (by omega) (by omega),a3]
 unfold D be4
 rw [UInt32.toNat_ofNat',Nat.mod_eq_of_lt (by omega)]
def s0 (x:UInt32) : UInt32:=xw (xw (rr 7 x) (rr 18 x)) (srW 3 x)
def s1 (x:UInt32) : UInt32:=xw (xw (rr 17 x) (rr 19 x)) (srW 10 x)
def b0 (x:UInt32) : UInt32:=xw (xw (rr 2 x) (rr 13 x)) (rr 22 x)
def b1 (x:UInt32) : UInt32:=xw (xw (rr 6 x) (rr 11 x)) (rr 25 x)
def chS (e f g:UInt32) : UInt32:=xw g (nw e (xw f g))
def maS (a b c:UInt32) : UInt32:=ow (nw a b) (nw c (ow a b))
def mixW (l:List UInt32) (i:Nat) : UInt32:=aw (aw (aw (gw l (i - 16)) (gw l (i - 7))) (s0 (gw l (i - 15)))) (s1 (gw l (i - 2)))
def wordS (b:List UInt8) (i:Nat) : UInt32:=be4 (b.getD (4 * i) 0) (b.getD (4 * i + 1) 0) (b.getD (4 * i + 2) 0) (b.getD (4 * i + 3) 0)
def schS (b:List UInt8) : Nat → List UInt32
 | 0=>List.replicate 64 0
 | i + 1=>(schS b i).set i (if i < 16 then wordS b i else mixW (schS b i) i)
theorem schS_len (b:List UInt8) : ∀ i,(schS b i).length = 64
 | 0=>List.length_replicate
 | i + 1=>by rw [schS,List.length_set]; exact schS_len b i
structure S8 where
 a : UInt32
 b : UInt32
 c : UInt32
 d : UInt32
 e : UInt32
 f : UInt32
 g : UInt32
 h : UInt32
def tS (k w:UInt32) (v:S8) : UInt32:=aw (aw (aw (aw v.h (b1 v.e)) (chS v.e v.f v.g)) k) w
def uS (v:S8) : UInt32:=aw (b0 v.a) (maS v.a v.b v.c)
def oneS (k w:UInt32) (v:S8) : S8:=⟨aw (tS k w v) (uS v),v.a,v.b,v.c,aw v.d (tS k w v),v.e,v.f,v.g⟩
def runS (ks ws:List UInt32) (v:S8) : Nat → S8
 | 0=>v
 | i + 1=>oneS (gw ks i) (gw ws i) (runS ks ws v i)
def ofS (l:List UInt32) : S8:=⟨gw l 0,gw l 1,gw l 2,gw l 3,gw l 4,gw l 5,gw l 6,gw l 7⟩
def roundsS : List UInt32:=[
 0x428a2f98,0x71374491,0xb5c0fbcf,0xe9b5dba5,0x3956c25b,0x59f111f1,0x923f82a4,0xab1c5ed5,
 0xd807aa98,0x12835b01,0x243185be,0x550c7dc3,0x72be5d74,0x80deb1fe,0x9bdc06a7,0xc19bf174,
 0xe49b69c1,0xefbe4786,0x0fc19dc6,0x240ca1cc,0x2de92c6f,0x4a7484aa,0x5cb0a9dc,0x76f988da,
 0x983e5152,0xa831c66d,0xb00327c8,0xbf597fc7,0xc6e00bf3,0xd5a79147,0x06ca6351,0x14292967,
 0x27b70a85,0x2e1b2138,0x4d2c6dfc,0x53380d13,0x650a7354,0x766a0abb,0x81c2c92e,0x92722c85,
 0xa2bfe8a1,0xa81a664b,0xc24b8b70,0xc76c51a3,0xd192e819,0xd6990624,0xf40e3585,0x106aa070,
 0x19a4c116,0x1e376c08,0x2748774c,0x34b0bcb5,0x391c0cb3,0x4ed8aa4a,0x5b9cca4f,0x682e6ff3,
 0x748f82ee,0x78a5636f,0x84c87814,0x8cc70208,0x90befffa,0xa4506ceb,0xbef9a3f7,0xc67178f2]
def startS : List UInt32:=[0x6a09e667,0xbb67ae85,0x3c6ef372,0xa54ff53a,0x510e527f,0x9b05688c,0x1f83d9ab,0x5be0cd19]
def pressS (h:List UInt32) (b:List UInt8) : List UInt32 :=
 let v:=runS roundsS (schS b 64) (ofS h) 64
 [aw (gw h 0) v.a,aw (gw h 1) v.b,aw (gw h 2) v.c,aw (gw h 3) v.d,aw (gw h 4) v.e,aw (gw h 5) v.f,aw (gw h 6) v.g,aw (gw h 7) v.h]
def pressAll (h:List UInt32) : Nat → List UInt8 → List UInt32
 | 0,_=>h
 | n + 1,l=>pressAll (pressS h (l.take 64)) n (l.drop 64)
def padS (n:Nat) (l:List UInt8) : List UInt8 :=
 l ++ (0x80 :: (List.replicate ((119 - l.length % 64) % 64) 0 ++ (List.range 8).map fun i=>UInt8.ofNat (n * 8 / 2 ^ (56 - 8 * i))))
def bytesS (h:List UInt32) : List UInt8:=h.flatMap fun x=>[UInt8.ofNat (x.toNat / 16777216),UInt8.ofNat (x.toNat / 65536),UInt8.ofNat (x.toNat / 256),UInt8.ofNat x.toNat]
def shaS (l:List UInt8) : List UInt8:=bytesS (pressAll startS ((padS l.length l).length / 64) (padS l.length l))
end Go.Proofs.YtjpfhhndjpdmoaaGreatDoor

namespace Go.Proofs.YtjpfhhndjpdmoaaGreatDoor
open Go.RowKit
theorem d_lt (x:UInt32) : 0 ≤ (x.toNat : Int) ∧ (x.toNat : Int) < 4294967296:=by have:=x.toNat_lt; omega
set_option maxRecDepth 100000 in
theorem right_7 (x:UInt32) (w:World) : Calls Tryz.prog 215 #[D x,.int .i64 7] w fun e w'=>e = .returned (D (rr 7 x)) ∧ w' = w:=by
 obtain ⟨h1,h2⟩:=d_lt x
 have hb : bits .and .u64 (IntKind.u64.wrap (-7)) 31 = 25:=by kernel_rfl
 go_enter Tryz.func215,Tryz.ntmps215
 go_wp2
 go_ret
 refine ⟨?_,rfl⟩
 rw [← rr_bits 7 x 33554432 128 rfl rfl]
 rfl
set_option maxRecDepth 100000 in
theorem right_18 (x:UInt32) (w:World) : Calls Tryz.prog 215 #[D x,.int .i64 18] w fun e w'=>e = .returned (D (rr 18 x)) ∧ w' = w:=by
 obtain ⟨h1,h2⟩:=d_lt x
 have hb : bits .and .u64 (IntKind.u64.wrap (-18)) 31 = 14:=by kernel_rfl
 go_enter Tryz.func215,Tryz.ntmps215
 go_wp2
 go_ret
 refine ⟨?_,rfl⟩
 rw [← rr_bits 18 x 16384 262144 rfl rfl]
 rfl
set_option maxRecDepth 100000 in
theorem right_17 (x:UInt32) (w:World) : Calls Tryz.prog 215 #[D x,.int .i64 17] w fun e w'=>e = .returned (D (rr 17 x)) ∧ w' = w:=by
 obtain ⟨h1,h2⟩:=d_lt x
 have hb : bits .and .u64 (IntKind.u64.wrap (-17)) 31 = 15:=by kernel_rfl
 go_enter Tryz.func215,Tryz.ntmps215
 go_wp2
 go_ret
 refine ⟨?_,rfl⟩
 rw [← rr_bits 17 x 32768 131072 rfl rfl]
 rfl
set_option maxRecDepth 100000 in
theorem right_19 (x:UInt32) (w:World) : Calls Tryz.prog 215 #[D x,.int .i64 19] w fun e w'=>e = .returned (D (rr 19 x)) ∧ w' = w:=by
 obtain ⟨h1,h2⟩:=d_lt x
 have hb : bits .and .u64 (IntKind.u64.wrap (-19)) 31 = 13:=by kernel_rfl
 go_enter Tryz.func215,Tryz.ntmps215
 go_wp2
 go_ret
 refine ⟨?_,rfl⟩
 rw [← rr_bits 19 x 8192 524288 rfl rfl]
 rfl
set_option maxRecDepth 100000 in
theorem right_6 (x:UInt32) (w:World) : Calls Tryz.prog 215 #[D x,.int .i64 6] w fun e w'=>e = .returned (D (rr 6 x)) ∧ w' = w:=by
 obtain ⟨h1,h2⟩:=d_lt x
 have hb : bits .and .u64 (IntKind.u64.wrap (-6)) 31 = 26:=by kernel_rfl
 go_enter Tryz.func215,Tryz.ntmps215
 go_wp2
 go_ret
 refine ⟨?_,rfl⟩
 rw [← rr_bits 6 x 67108864 64 rfl rfl]
 rfl
set_option maxRecDepth 100000 in
theorem right_11 (x:UInt32) (w:World) : Calls Tryz.prog 215 #[D x,.int .i64 11] w fun e w'=>e = .returned (D (rr 11 x)) ∧ w' = w:=by
 obtain ⟨h1,h2⟩:=d_lt x
 have hb : bits .and .u64 (IntKind.u64.wrap (-11)) 31 = 21:=by kernel_rfl
 go_enter Tryz.func215,Tryz.ntmps215
 go_wp2
 go_ret
 refine ⟨?_,rfl⟩
 rw [← rr_bits 11 x 2097152 2048 rfl rfl]
 rfl
set_option maxRecDepth 100000 in
theorem right_25 (x:UInt32) (w:World) : Calls Tryz.prog 215 #[D x,.int .i64 25] w fun e w'=>e = .returned (D (rr 25 x)) ∧ w' = w:=by
 obtain ⟨h1,h2⟩:=d_lt x
 have hb : bits .and .u64 (IntKind.u64.wrap (-25)) 31 = 7:=by kernel_rfl
 go_enter Tryz.func215,Tryz.ntmps215
 go_wp2
 go_ret
 refine ⟨?_,rfl⟩
 rw [← rr_bits 25 x 128 33554432 rfl rfl]
 rfl
set_option maxRecDepth 100000 in
theorem right_2 (x:UInt32) (w:World) : Calls Tryz.prog 215 #[D x,.int .i64 2] w fun e w'=>e = .returned (D (rr 2 x)) ∧ w' = w:=by
 obtain ⟨h1,h2⟩:=d_lt x
 have hb : bits .and .u64 (IntKind.u64.wrap (-2)) 31 = 30:=by kernel_rfl
 go_enter Tryz.func215,Tryz.ntmps215
 go_wp2
 go_ret
 refine ⟨?_,rfl⟩
 rw [← rr_bits 2 x 1073741824 4 rfl rfl]
 rfl
set_option maxRecDepth 100000 in
theorem right_13 (x:UInt32) (w:World) : Calls Tryz.prog 215 #[D x,.int .i64 13] w fun e w'=>e = .returned (D (rr 13 x)) ∧ w' = w:=by
 obtain ⟨h1,h2⟩:=d_lt x
 have hb : bits .and .u64 (IntKind.u64.wrap (-13)) 31 = 19:=by kernel_rfl
 go_enter Tryz.func215,Tryz.ntmps215
 go_wp2
 go_ret
 refine ⟨?_,rfl⟩
 rw [← rr_bits 13 x 524288 8192 rfl rfl]
 rfl
set_option maxRecDepth 100000 in
theorem right_22 (x:UInt32) (w:World) : Calls Tryz.prog 215 #[D x,.int .i64 22] w fun e w'=>e = .returned (D (rr 22 x)) ∧ w' = w:=by
 obtain ⟨h1,h2⟩:=d_lt x
 have hb : bits .and .u64 (IntKind.u64.wrap (-22)) 31 = 10:=by kernel_rfl
 go_enter Tryz.func215,Tryz.ntmps215
 go_wp2
 go_ret
 refine ⟨?_,rfl⟩
 rw [← rr_bits 22 x 1024 4194304 rfl rfl]
 rfl
end Go.Proofs.YtjpfhhndjpdmoaaGreatDoor

namespace Go.Proofs.YtjpfhhndjpdmoaaGreatDoor
open Go.RowKit

def dbl (x:UInt8) : UInt8:=if x &&& 0x80 ≠ 0 then (x <<< 1) ^^^ 0x1B else x <<< 1
def tmN : Nat → UInt8 → UInt8 → UInt8 → UInt8
 | 0,_,_,p=>p
 | f + 1,a,n,p=>if n = 0 then p else tmN f (dbl a) (n >>> 1) (if n &&& 1 = 1 then xr p a else p)
def tm (a n:UInt8) : UInt8:=tmN 8 a n 0
def mixB (b r:List UInt8) (i:Nat) : Nat → UInt8
 | 0=>0
 | j + 1=>xr (mixB b r i j) (tm (gb b (i / 4 * 4 + (i + j) % 4)) (gb r j))
def mixL (b r:List UInt8) (k j:Nat) : List UInt8:=tab 16 fun i=>if i < k then mixB b r i 4 else if i = k then mixB b r k j else 0
def addF (a b:List UInt8) (k:Nat) : List UInt8:=tab 16 fun i=>if i < k then xr (gb a i) (gb b i) else gb a i
/-! ### one byte's operations as the walk spells them -/
def dblOk (n:Nat) : Bool :=
 let x:=UInt8.ofNat n
 if bits .and .u8 (x.toNat : Int) 128 != 0 then bits .xor .u8 ((x.toNat : Int) * 2 % 256) 27 == ((dbl x).toNat : Int) else ((x.toNat : Int) * 2 % 256) == ((dbl x).toNat : Int)
def halfOk (n:Nat) : Bool :=
 let x:=UInt8.ofNat n
 (bits .and .u8 (x.toNat : Int) 1 == ((x &&& 1).toNat : Int)) && ((x.toNat : Int) / 2 == ((x >>> 1).toNat : Int)) && (bits .and .u8 (x.toNat : Int) 1 == 1) == decide (x &&& 1 = 1)
end Go.Proofs.YtjpfhhndjpdmoaaGreatDoor

/- What block's ready makes: the two boxes,by the powers of three. -/
namespace Go.Proofs.YtjpfhhndjpdmoaaGreatDoor
open Go.RowKit

def orr (a b:UInt8) : UInt8:=a ||| b
def shl (a n:UInt8) : UInt8:=a <<< n
def shr (a n:UInt8) : UInt8:=a >>> n
def q3 (q:UInt8) : UInt8:=xr (xr (xr q (shl q 1)) (shl (xr q (shl q 1)) 2)) (shl (xr (xr q (shl q 1)) (shl (xr q (shl q 1)) 2)) 4)
def qn (q:UInt8) : UInt8:=if q3 q &&& 0x80 ≠ 0 then xr (q3 q) 9 else q3 q
def affine (q:UInt8) : UInt8 :=
 xr (xr (xr (xr (xr q (orr (shl q 1) (shr q 7))) (orr (shl q 2) (shr q 6))) (orr (shl q 3) (shr q 5))) (orr (shl q 4) (shr q 4))) 0x63
structure Rd where
 p : UInt8
 q : UInt8
 T : List UInt8
 K : List UInt8
def rd : Nat → Rd
 | 0=>⟨1,1,List.replicate 256 0,List.replicate 256 0⟩
 | k + 1 =>
  let r:=rd k
  let p:=xr r.p (dbl r.p)
  let q:=qn r.q
  let x:=affine q
  ⟨p,q,r.T.set p.toNat x,r.K.set x.toNat p⟩
def pk : Nat → UInt8
 | 0=>1
 | k + 1=>xr (pk k) (dbl (pk k))
def pkOk : Nat → UInt8 → Bool
 | 0,p=>p == 1
 | k + 1,p=>p != 1 && pkOk k (xr p (dbl p))
def boxT : List UInt8:=[99,124,119,123,242,107,111,197,48,1,103,43,254,215,171,118,202,130,201,125,250,89,71,240,173,212,162,175,156,164,114,192,183,253,147,38,54,63,247,204,52,165,229,241,113,216,49,21,4,199,35,195,24,150,5,154,7,18,128,226,235,39,178,117,9,131,44,26,27,110,90,160,82,59,214,179,41,227,47,132,83,209,0,237,32,252,177,91,106,203,190,57,74,76,88,207,208,239,170,251,67,77,51,133,69,249,2,127,80,60,159,168,81,163,64,143,146,157,56,245,188,182,218,33,16,255,243,210,205,12,19,236,95,151,68,23,196,167,126,61,100,93,25,115,96,129,79,220,34,42,144,136,70,238,184,20,222,94,11,219,224,50,58,10,73,6,36,92,194,211,172,98,145,149,228,121,231,200,55,109,141,213,78,169,108,86,244,234,101,122,174,8,186,120,37,46,28,166,180,198,232,221,116,31,75,189,139,138,112,62,181,102,72,3,246,14,97,53,87,185,134,193,29,158,225,248,152,17,105,217,142,148,155,30,135,233,206,85,40,223,140,161,137,13,191,230,66,104,65,153,45,15,176,84,187,22]
def boxK : List UInt8:=[82,9,106,213,48,54,165,56,191,64,163,158,129,243,215,251,124,227,57,130,155,47,255,135,52,142,67,68,196,222,233,203,84,123,148,50,166,194,35,61,238,76,149,11,66,250,195,78,8,46,161,102,40,217,36,178,118,91,162,73,109,139,209,37,114,248,246,100,134,104,152,22,212,164,92,204,93,101,182,146,108,112,72,80,253,237,185,218,94,21,70,87,167,141,157,132,144,216,171,0,140,188,211,10,247,228,88,5,184,179,69,6,208,44,30,143,202,63,15,2,193,175,189,3,1,19,138,107,58,145,17,65,79,103,220,234,151,242,207,206,240,180,230,115,150,172,116,34,231,173,53,133,226,249,55,232,28,117,223,110,71,241,26,113,29,41,197,137,111,183,98,14,170,24,190,27,252,86,62,75,198,210,121,32,154,219,192,254,120,205,90,244,31,221,168,51,136,7,199,49,177,18,16,89,39,128,236,95,96,81,127,169,25,181,74,13,45,229,122,159,147,201,156,239,160,224,59,77,174,42,245,176,200,235,187,60,131,83,153,97,23,43,4,126,186,119,214,38,225,105,20,99,85,33,12,125]
/-! ### spellings -/
def spellOk (n:Nat) : Bool :=
 let x:=UInt8.ofNat n
 ((x.toNat : Int) * 2 % 256 == ((shl x 1).toNat : Int)) && ((x.toNat : Int) * 4 % 256 == ((shl x 2).toNat : Int)) && ((x.toNat : Int) * 8 % 256 == ((shl x 3).toNat : Int)) && ((x.toNat : Int) * 16 % 256 == ((shl x 4).toNat : Int)) &&
 ((x.toNat : Int) / 16 == ((shr x 4).toNat : Int)) && ((x.toNat : Int) / 32 == ((shr x 5).toNat : Int)) && ((x.toNat : Int) / 64 == ((shr x 6).toNat : Int)) && ((x.toNat : Int) / 128 == ((shr x 7).toNat : Int)) &&
 (bits .and .u8 (x.toNat : Int) 128 != 0) == decide (x &&& 0x80 ≠ 0)
section
variable (x y:UInt8)
end
/-! ### a Key's cells: the two boxes,and the slice of the rounds' keys -/
def keyC (T K:List UInt8) (kv:Value) : Array Value:=(T.map B ++ K.map B ++ [kv]).toArray
end Go.Proofs.YtjpfhhndjpdmoaaGreatDoor

/- What block's New reckons: the rounds' keys; how slices of bytes lie in memory. -/
namespace Go.Proofs.YtjpfhhndjpdmoaaGreatDoor
open Go.RowKit

def SlB (w:World) (v:Value) (l:List UInt8) : Prop :=
 ∃ (a:Option Addr) (cap:Nat),v = .slice a l.length cap ∧ l.length ≤ cap ∧ cap ≤ maxLen ∧ (a = none → cap = 0) ∧
  ∀ ad,a = some ad → ad.spot = none ∧ ∀ i,i < l.length → w.cell? ⟨ad.block,ad.off + i,none⟩ = some (B (gb l i))
theorem SlB.below {w w':World} {v:Value} {l:List UInt8} (h:SlB w v l) (hb:Below w.heap.size w w') : SlB w' v l:=by
 obtain ⟨a,cap,hv,h1,h2,h3,h4⟩:=h
 refine ⟨a,cap,hv,h1,h2,h3,fun ad had=>⟨(h4 ad had).1,fun i hi=>?_⟩⟩
 have hc:=(h4 ad had).2 i hi
 exact (hb.cell (World.block_lt_of_cell? w _ hc)).trans hc
theorem SlB.addr {w:World} {v:Value} {l:List UInt8} (h:SlB w v l) (hl:0 < l.length) : ∃ b o cap,v = .slice (some ⟨b,o,none⟩) l.length cap ∧ l.length ≤ cap ∧ cap ≤ maxLen ∧ b < w.heap.size ∧
  ∀ i,i < l.length → w.cell? ⟨b,o + i,none⟩ = some (B (gb l i)):=by
 obtain ⟨a,cap,hv,h1,h2,h3,h4⟩:=h
 cases a with
 | none=>have:=h3 rfl; omega
 | some ad =>
  obtain ⟨b,o,s⟩:=ad
  obtain ⟨hs,hc⟩:=h4 _ rfl
  simp only at hs
  subst hs
  exact ⟨b,o,cap,hv,h1,h2,World.block_lt_of_cell? w _ (hc 0 hl),hc⟩
def Pre (cur:Array Value) (l:List UInt8) : Prop:=cur.toList.take l.length = l.map B
theorem Pre.get {cur:Array Value} {l:List UInt8} (h:Pre cur l) (i:Nat) (hi:i < l.length) : cur[i]? = some (B (gb l i)):=by
 have : (cur.toList.take l.length)[i]? = (l.map B)[i]?:=by rw [h]
 rw [List.getElem?_take,if_pos hi] at this
 simp only [Array.getElem?_toList] at this
 rw [this]
 simp [gb,hi]
theorem Pre.size {cur:Array Value} {l:List UInt8} (h:Pre cur l) : l.length ≤ cur.size:=by
 have:=congrArg List.length h
 simp only [List.length_take,List.length_map,Array.length_toList] at this
 omega
theorem Pre.sub {cur:Array Value} {l:List UInt8} (h:Pre cur l) (o n:Nat) (hn:o + n ≤ l.length) : sub cur o n = AB ((l.drop o).take n):=by
 have hs:=h.size
 apply Array.ext
 ·simp [Go.Proofs.YtjpfhhndjpdmoaaGreatDoor.sub,AB]; omega
 ·intro i h1 h2
  have hi : i < n:=by simp [Go.Proofs.YtjpfhhndjpdmoaaGreatDoor.sub] at h1; omega
  have hg:=h.get (o + i) (by omega)
  have e1 : (Go.Proofs.YtjpfhhndjpdmoaaGreatDoor.sub cur o n)[i]? = cur[o + i]?:=by
   simp only [Go.Proofs.YtjpfhhndjpdmoaaGreatDoor.sub,Array.getElem?_extract]
   rw [if_pos (by omega)]
  have e2 : (AB ((l.drop o).take n))[i]? = some (B (gb l (o + i))):=by
   rw [AB_get _ _ (by simp; omega)]
   congr 2
   simp [gb,hi,List.getElem?_drop]
  have : (Go.Proofs.YtjpfhhndjpdmoaaGreatDoor.sub cur o n)[i]? = (AB ((l.drop o).take n))[i]?:=by rw [e1,e2,hg]
  rw [Array.getElem?_eq_getElem h1,Array.getElem?_eq_getElem h2] at this
  exact Option.some.inj this
def Buf (e:TypeId) (w:World) (base:Nat) (v:Value) (l:List UInt8) : Prop:=w.ownsRow base e 1 v l.length (l.map B)
theorem Buf.open {e:TypeId} {w:World} {base:Nat} {v:Value} {l:List UInt8} (h:Buf e w base v l) (hl:0 < l.length) :
  ∃ g cap cur,v = .slice (some ⟨g,0,none⟩) l.length cap ∧ base ≤ g ∧ Row w g e cur ∧ l.length ≤ cap ∧ cap ≤ maxLen ∧ cur.size = cap ∧ Pre cur l:=by
 rcases h.2 with ⟨_,h0⟩ | ⟨g,cap,cur,hv,hg,hh,h1,h2,h3,h4⟩
 ·omega
 ·exact ⟨g,cap,cur,hv,hg,Row.of_heap hh,h1,h2,by simpa using h3,by simpa [Pre] using h4⟩
theorem Buf.slb {e:TypeId} {w:World} {base:Nat} {v:Value} {l:List UInt8} (h:Buf e w base v l) : SlB w v l:=by
 rcases h.2 with ⟨hv,h0⟩ | ⟨g,cap,cur,hv,hg,hh,h1,h2,h3,h4⟩
 ·have : l = []:=List.eq_nil_of_length_eq_zero h0
  subst this
  exact ⟨none,0,hv,Nat.le_refl _,Nat.zero_le _,fun _=>rfl,fun _ h=>by cases h⟩
 ·refine ⟨_,cap,hv,h1,h2,fun h=>(by cases h),fun ad had=>?_⟩
  obtain rfl:=Option.some.inj had
  refine ⟨rfl,fun i hi=>?_⟩
  have hp : Pre cur l:=by simpa [Pre] using h4
  exact ((Row.of_heap hh).cell _).trans (by rw [Nat.zero_add]; exact hp.get i hi)

theorem Buf.alloc {e:TypeId} {w:World} {base:Nat} {v:Value} {l:List UInt8} (h:Buf e w base v l) (o:Obj) : Buf e (w.alloc o) base v l:=World.ownsRow.alloc h o
theorem Buf.kept {e:TypeId} {w w':World} {base:Nat} {v:Value} {l:List UInt8} {r:Option Nat} (h:Buf e w base v l) (hg:w.grownBy w' r) (hne:v.ownBlock = none ∨ v.ownBlock ≠ r) : Buf e w' base v l:=World.ownsRow.kept h hg hne
theorem Buf.lt {e:TypeId} {w:World} {base:Nat} {v:Value} {l:List UInt8} (h:Buf e w base v l) (k:Nat) (hk:v.ownBlock = some k) : base ≤ k ∧ k < w.heap.size:=World.ownsRow.lt h k hk
theorem wpl_append1 {P:Program} {w:World} {ops:Array Oper} {rest:List Oper} {o:Oper} {a:Act} {Q:Exit → Act → World → Prop} (hgd:o.guard = none) (s x:Operand) (t:TypeId)
  (ho:o.op = .call { callee:=.builtin .append,args:=#[s,x],argTypes:=#[t,t] })
  {e:TypeId} (ht:P.underlying t = some (.slice e)) (hinf:(P.info? e).map (fun i=>(i.zero,i.size,i.bytes)) = some (some (.int .u8 0),1,1))
  (base:Nat) (v:Value) (l:List UInt8) (hs:a.eval s = v) (hbuf:Buf e w base v l) (g:Nat) (y:UInt8) (hx:a.eval x = .slice (some ⟨g,0,none⟩) 1 1) (hcell:w.cell? ⟨g,0,none⟩ = some (B y))
  (hlen:l.length + 1 ≤ 140737488355328) (hbase:base ≤ w.heap.size)
  (h:∀ v' w',Buf e w' base v' (l ++ [y]) → w.grownBy w' v.ownBlock → wpList P ops Q rest (a.put o.dst v') w') : wpList P ops Q (o :: rest) a w:=by
 obtain ⟨i0,hi,hz0,hz1,hz2⟩:=info_parts hinf
 refine wpList_append_own w hgd s x t ho base e i0 (.int .u8 0) 1 1 ht hi hz0 hz1 hz2 rfl (by decide) v l.length (l.map B) hs hbuf ⟨g,0,none⟩ 1 1 [B y] hx rfl ?_ ?_ (by unfold maxLen; omega) (by omega) hbase ?_
 ·intro j u hj
  match j,hj with
  | 0,hj=>simp only [List.getElem?_cons_zero,Option.some.injEq] at hj; subst hj; rw [Addr.add_zero']; exact hcell
 ·intro u hu; obtain rfl:=List.mem_singleton.1 hu; rfl
 ·intro v' w' h1 h2 _
  exact h v' w' (by simpa [Buf] using h1) h2
theorem ownsRow_ne {w:World} {base:Nat} {e t:TypeId} {size:Nat} {v:Value} {n:Nat} {xs:List Value} {g:Nat} {cur:Array Value} (h:w.ownsRow base e size v n xs) (hr:Row w g t cur) (hte:t ≠ e) : v.ownBlock ≠ some g:=by
 intro e1
 rcases h.2 with ⟨rfl,_⟩ | ⟨g',cap,cur',rfl,_,hh,_⟩
 ·simp [Value.ownBlock] at e1
 ·simp only [Value.ownBlock,Option.some.injEq] at e1
  subst e1
  have:=hr.heap
  rw [hh] at this
  simp only [Option.some.injEq,Obj.cells.injEq] at this
  exact hte this.2.1.symm
def z256 : List UInt8:=List.replicate 256 0
/-! ### the rounds' keys -/
def wx (n i:Nat) (c:UInt8) (w:List UInt8) (j:Nat) : UInt8 :=
 let l:=w.length
 if i % n = 0 then (if j = 0 then xr (gb boxT (gb w (l - 4 + 1)).toNat) c else gb boxT (gb w (l - 4 + (j + 1) % 4)).toNat)
 else if n = 8 ∧ i % n = 4 then gb boxT (gb w (l - 4 + j)).toNat
 else gb w (l - 4 + j)
def wj (n i:Nat) (c:UInt8) (w:List UInt8) (j:Nat) : List UInt8 :=
 w ++ (List.range j).map fun k=>xr (gb w (w.length - n * 4 + k)) (wx n i c w k)
structure Ks where
 w : List UInt8
 c : UInt8
def ks (n:Nat) (key:List UInt8) : Nat → Ks
 | 0=>⟨key,1⟩
 | m + 1=>let s:=ks n key m; ⟨wj n (n + m) s.c s.w 4,if (n + m) % n = 0 then dbl s.c else s.c⟩
def expand (key:List UInt8) : List UInt8:=(ks (key.length / 4) key (3 * (key.length / 4) + 28)).w
section
variable {n i:Nat} {c:UInt8} {W X:List UInt8}
end

/-! ### a Key in memory -/
def KeyAt (tk te:TypeId) (w:World) (p:Value) (W:List UInt8) (m:Nat) : Prop :=
 ∃ kb kk cap cur,p = .pointer (some ⟨kb,0,none⟩) ∧ Row w kb tk (keyC boxT boxK (.slice (some ⟨kk,0,none⟩) m cap)) ∧ Row w kk te cur ∧ W.length = 16 * m ∧ Pre cur W ∧ m ≤ cap ∧ cap ≤ maxLen
theorem KeyAt.below {tk te:TypeId} {w w':World} {p:Value} {W:List UInt8} {m:Nat} (h:KeyAt tk te w p W m) (hb:Below w.heap.size w w') : KeyAt tk te w' p W m:=by
 obtain ⟨kb,kk,cap,cur,h1,h2,h3,h4⟩:=h
 exact ⟨kb,kk,cap,cur,h1,h2.below hb h2.lt,h3.below hb h3.lt,h4⟩
end Go.Proofs.YtjpfhhndjpdmoaaGreatDoor
