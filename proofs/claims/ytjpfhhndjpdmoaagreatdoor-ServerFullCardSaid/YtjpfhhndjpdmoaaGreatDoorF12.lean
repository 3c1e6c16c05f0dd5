/- Part of the proof: CurveB. No conditions of its own. -/
import Derived.Test.YtjpfhhndjpdmoaaGreatDoorF11
namespace Go.Proofs.YtjpfhhndjpdmoaaGreatDoor
open Go.RowKit
set_option linter.unusedVariables false
set_option linter.unusedSimpArgs false

set_option maxRecDepth 100000 in
set_option maxHeartbeats 4000000 in
theorem dbl_z {w:World} {g m a b c:Nat} (ha:a < R256) (hb:b < R256) (hc:c < R256) : Calls Tryz.prog 136 #[.agg (fC g),.agg (t3C a b 0)] w fun e w'=>e = .returned (.agg (t3C (dblS m ⟨a,b,0⟩).x (dblS m ⟨a,b,0⟩).y (dblS m ⟨a,b,0⟩).z)) ∧ Below w.heap.size w w':=by
 have b_a:=ha
 have b_b:=hb
 have b_c:=hc
 clear ha hb hc
 have b_0 : 0 < R256:=by decide
 have HE:=Lib.hid (show dblS m ⟨a,b,0⟩ = T3.o from by unfold dblS; exact if_pos (.inl rfl))
 obtain ⟨T,hT⟩ : ∃ T,T = dblS m ⟨a,b,0⟩:=⟨_,rfl⟩
 rw [← hT] at HE ⊢
 clear hT
 go_enter Tryz.func136,Tryz.ntmps136
 go_upto_region 1 with (fail)
 refine at_world (fun W=>Row W w.heap.size 243 (fC g) ∧ Row W (w.heap.size + 1) 247 (t3C a b 0) ∧ Row W (w.heap.size + 1 + 1) 247 (t3C 0 0 0) ∧ Below w.heap.size w W) (⟨(((Row.newAt _ _ _ _ rfl).alloc _).alloc _),((Row.newAt _ _ _ _ (by simp)).alloc _),(by rw [t3C_zero]; exact (Row.newAt _ _ _ _ (by simp))),((((Below.refl _ w).alloc (Nat.le_refl _) _).alloc (by simp) _).alloc (by simp; omega) _)⟩) ?_
 rintro W1 ⟨i1_2,i1_3,i1_4,hB1⟩
 have lt_4:=i1_4.lt
 go_wp2_with fail
 exact ret_row (by first | exact .inl rfl | exact .inr rfl) rfl ((w.heap.size + 1 + 1)) 247 (t3C 0 0 0) 12 _ rfl (i1_4.setRow _) Tryz.underlying247 rfl (by kernel_rfl) rfl ⟨by rw [HE.out]; rfl,(bSetRow hB1 (by omega) _)⟩
set_option maxRecDepth 100000 in
set_option maxHeartbeats 4000000 in
theorem dbl_y {w:World} {g m a b c:Nat} (ha:a < R256) (hb:b < R256) (hc:c < R256) (hz:¬ c = 0) : Calls Tryz.prog 136 #[.agg (fC g),.agg (t3C a 0 c)] w fun e w'=>e = .returned (.agg (t3C (dblS m ⟨a,0,c⟩).x (dblS m ⟨a,0,c⟩).y (dblS m ⟨a,0,c⟩).z)) ∧ Below w.heap.size w w':=by
 have b_a:=ha
 have b_b:=hb
 have b_c:=hc
 clear ha hb hc
 have b_0 : 0 < R256:=by decide
 have HE:=Lib.hid (show dblS m ⟨a,0,c⟩ = T3.o from by unfold dblS; exact if_pos (.inr rfl))
 obtain ⟨T,hT⟩ : ∃ T,T = dblS m ⟨a,0,c⟩:=⟨_,rfl⟩
 rw [← hT] at HE ⊢
 clear hT
 go_enter Tryz.func136,Tryz.ntmps136
 go_upto_region 1 with (fail)
 refine at_world (fun W=>Row W w.heap.size 243 (fC g) ∧ Row W (w.heap.size + 1) 247 (t3C a 0 c) ∧ Row W (w.heap.size + 1 + 1) 247 (t3C 0 0 0) ∧ Below w.heap.size w W) (⟨(((Row.newAt _ _ _ _ rfl).alloc _).alloc _),((Row.newAt _ _ _ _ (by simp)).alloc _),(by rw [t3C_zero]; exact (Row.newAt _ _ _ _ (by simp))),((((Below.refl _ w).alloc (Nat.le_refl _) _).alloc (by simp) _).alloc (by simp; omega) _)⟩) ?_
 rintro W1 ⟨i1_2,i1_3,i1_4,hB1⟩
 have lt_4:=i1_4.lt
 go_wp2_with fail
 exact ret_row (by first | exact .inl rfl | exact .inr rfl) rfl ((w.heap.size + 1 + 1)) 247 (t3C 0 0 0) 12 _ rfl (i1_4.setRow _) Tryz.underlying247 rfl (by kernel_rfl) rfl ⟨by rw [HE.out]; rfl,(bSetRow hB1 (by omega) _)⟩
set_option maxRecDepth 100000 in
set_option maxHeartbeats 4000000 in
theorem dbl_some {w:World} {g m neg ri a b c:Nat} (hM:ModW w g m neg ri) (ha:a < R256) (hb:b < R256) (hc:c < R256) (hz:¬ c = 0) (hy:¬ b = 0) : Calls Tryz.prog 136 #[.agg (fC g),.agg (t3C a b c)] w fun e w'=>e = .returned (.agg (t3C (dblS m ⟨a,b,c⟩).x (dblS m ⟨a,b,c⟩).y (dblS m ⟨a,b,c⟩).z)) ∧ Below w.heap.size w w':=by
 have HM:=Lib.hid (show ∀ W,Below w.heap.size w W → ModW W g m neg ri from fun W hb=>hM.below hb)
 have HP:=Lib.hid hM.md.pos
 have HL:=Lib.hid hM.md.low
 clear hM
 have b_a:=ha
 have b_b:=hb
 have b_c:=hc
 clear ha hb hc
 obtain ⟨T,hT⟩ : ∃ T,T = dblS m ⟨a,b,c⟩:=⟨_,rfl⟩
 rw [← hT]
 have HX:=Lib.hid hT
 clear hT
 have HZ:=Lib.hid (show ¬ (c = 0 ∨ b = 0) from fun h=>h.elim hz hy)
 go_enter Tryz.func136,Tryz.ntmps136
 go_upto_region 1 with (fail)
 refine at_world (fun W=>Row W w.heap.size 243 (fC g) ∧ Row W (w.heap.size + 1) 247 (t3C a b c) ∧ Row W (w.heap.size + 1 + 1) 247 (t3C 0 0 0) ∧ Below w.heap.size w W) (⟨(((Row.newAt _ _ _ _ rfl).alloc _).alloc _),((Row.newAt _ _ _ _ (by simp)).alloc _),(by rw [t3C_zero]; exact (Row.newAt _ _ _ _ (by simp))),((((Below.refl _ w).alloc (Nat.le_refl _) _).alloc (by simp) _).alloc (by simp; omega) _)⟩) ?_
 rintro W1 ⟨i1_2,i1_3,i1_4,hB1⟩
 go_upto_region 3 with (fail)
 refine at_world (fun W=>Row W w.heap.size 243 (fC g) ∧ Row W (w.heap.size + 1) 247 (t3C a b c) ∧ Row W (w.heap.size + 1 + 1) 247 (t3C 0 0 0) ∧ Below w.heap.size w W) (⟨i1_2,i1_3,i1_4,hB1⟩) ?_
 clear i1_2 i1_3 i1_4 hB1
 rintro W2 ⟨i2_2,i2_3,i2_4,hB2⟩
 replace i2_2:=i2_2.drew
 replace i2_3:=i2_3.drew
 replace i2_4:=i2_4.drew
 replace hB2:=hB2.drew
 obtain ⟨x29,h29⟩ : ∃ x,x = mulM m c c:=⟨_,rfl⟩
 have b_x29 : x29 < R256:=by rw [h29]; exact Nat.lt_trans (mulM_lt HP.out) HL.out
 have H29:=Lib.hid h29
 clear h29
 obtain ⟨x36,h36⟩ : ∃ x,x = mulM m b b:=⟨_,rfl⟩
 have b_x36 : x36 < R256:=by rw [h36]; exact Nat.lt_trans (mulM_lt HP.out) HL.out
 have H36:=Lib.hid h36
 clear h36
 refine wp_region_allocs 16 [0,1,2,3,4,5,6,7,8,9,10,11,12,13] [14,15] (fun _=>.cells (AQ (nL 0)) 177) (by kernel_rfl) (by kernel_rfl) (by kernel_rfl) (by kernel_rfl) ?hal ?h
 case hal =>
  intro k hk o ho
  simp only [List.mem_cons,List.not_mem_nil,or_false] at hk
  rcases hk with rfl | rfl
  ·cases ho; exact alF_of _ (fun _ _=>by kernel_rfl)
  ·cases ho; exact alF_of _ (fun _ _=>by kernel_rfl)
 case h =>
 apply Exists.intro
 refine ⟨fun R=>?_,?_⟩
 ·simp only [List.map_cons,List.map_nil,List.getD_cons_zero,List.getD_cons_succ]
  (first | go_big_quiet_skip | (go_big_quiet_want; go_big_quiet_op; first | go_big_quiet_on | (refine ⟨_,fun _ _=>rfl,?_⟩; go_big_quiet_on)))
  (go_big_quiet_want; apply qn_load1 ot_mod rfl rfl i2_2 (fC_ptr g); (simp only [Act.put,lS]; go_big_quiet_on))
  (first | go_big_quiet_skip | (go_big_quiet_want; go_big_quiet_op; first | go_big_quiet_on | (refine ⟨_,fun _ _=>rfl,?_⟩; go_big_quiet_on)))
  (go_big_quiet_want; apply qn_load at_num rfl rfl i2_3 (hp_tz a b c); (simp only [Act.put,lS]; go_big_quiet_on))
  (first | go_big_quiet_skip | (go_big_quiet_want; go_big_quiet_op; first | go_big_quiet_on | (refine ⟨_,fun _ _=>rfl,?_⟩; go_big_quiet_on)))
  (go_big_quiet_want; apply qn_load at_num rfl rfl i2_3 (hp_tz a b c); (simp only [Act.put,lS]; go_big_quiet_on))
  (go_big_quiet_want; refine qa_call _ _ ?_ _ (fun w' hb=>mul_x (HM.out _ (hB2.trans (hb.mono hB2.size))) b_c b_c H29.out) ?_; (focus (intro w; simp [go_sem]; done)); (simp only [Act.put,lS]; go_big_quiet_on))
  (first | go_big_quiet_skip | (go_big_quiet_want; go_big_quiet_op; first | go_big_quiet_on | (refine ⟨_,fun _ _=>rfl,?_⟩; go_big_quiet_on)))
  (go_big_quiet_want; apply qn_load1 ot_mod rfl rfl i2_2 (fC_ptr g); (simp only [Act.put,lS]; go_big_quiet_on))
  (first | go_big_quiet_skip | (go_big_quiet_want; go_big_quiet_op; first | go_big_quiet_on | (refine ⟨_,fun _ _=>rfl,?_⟩; go_big_quiet_on)))
  (go_big_quiet_want; apply qn_load at_num rfl rfl i2_3 (hp_ty a b c); (simp only [Act.put,lS]; go_big_quiet_on))
  (first | go_big_quiet_skip | (go_big_quiet_want; go_big_quiet_op; first | go_big_quiet_on | (refine ⟨_,fun _ _=>rfl,?_⟩; go_big_quiet_on)))
  (go_big_quiet_want; apply qn_load at_num rfl rfl i2_3 (hp_ty a b c); (simp only [Act.put,lS]; go_big_quiet_on))
  (go_big_quiet_want; refine qa_call _ _ ?_ _ (fun w' hb=>mul_x (HM.out _ (hB2.trans (hb.mono hB2.size))) b_b b_b H36.out) ?_; (focus (intro w; simp [go_sem]; done)); (simp only [Act.put,lS]; go_big_quiet_on))
  exact wpQuiet_nil rfl
 ·refine wpAl_consP rfl ?_
  intro g5 hg5 nng5
  refine wpAl_consP rfl ?_
  intro g6 hg6 nng6
  intro w2 hcc
  have ne_g6_g5 : g6 ≠ g5:=by rintro rfl; simp [upd] at nng6
  have ne_2_g5 : w.heap.size ≠ g5:=by have:=i2_2.lt; omega
  have ne_2_g6 : w.heap.size ≠ g6:=by have:=i2_2.lt; omega
  have ne_3_g5 : (w.heap.size + 1) ≠ g5:=by have:=i2_3.lt; omega
  have ne_3_g6 : (w.heap.size + 1) ≠ g6:=by have:=i2_3.lt; omega
  have ne_4_g5 : (w.heap.size + 1 + 1) ≠ g5:=by have:=i2_4.lt; omega
  have ne_4_g6 : (w.heap.size + 1 + 1) ≠ g6:=by have:=i2_4.lt; omega
  replace i2_2:=i2_2.below hcc.1 i2_2.lt
  replace i2_3:=i2_3.below hcc.1 i2_3.lt
  replace i2_4:=i2_4.below hcc.1 i2_4.lt
  have j_5 : Row w2 g5 177 (AQ (nL 0)):=.of_heap (hcc.2 g5 _ (by simp [upd,ne_g6_g5.symm]))
  have j_6 : Row w2 g6 177 (AQ (nL 0)):=.of_heap (hcc.2 g6 _ (by simp [upd]))
  have hg_le : w.heap.size ≤ w2.heap.size:=Nat.le_trans hB2.size hcc.1.size
  have lb_g5 : w.heap.size ≤ g5:=Nat.le_trans hB2.size hg5
  have lb_g6 : w.heap.size ≤ g6:=Nat.le_trans hB2.size hg6
  replace hB2:=hB2.trans (hcc.1.mono hB2.size)
  clear hcc hg_le hg5 nng5 hg6 nng6
  have lt_5:=j_5.lt
  have lt_6:=j_6.lt
  go_upto_region 4 with (fail)
  refine at_world (fun W=>Row W w.heap.size 243 (fC g) ∧ Row W (w.heap.size + 1) 247 (t3C a b c) ∧ Row W (w.heap.size + 1 + 1) 247 (t3C 0 0 0) ∧ Row W g5 177 (AQ (nL x29)) ∧ Row W g6 177 (AQ (nL x36)) ∧ Below w.heap.size w W) (⟨((i2_2.setRowOther _ _ (by omega)).setRowOther _ _ (by omega)),((i2_3.setRowOther _ _ (by omega)).setRowOther _ _ (by omega)),((i2_4.setRowOther _ _ (by omega)).setRowOther _ _ (by omega)),((j_5.setRow _).setRowOther _ _ (by omega)),((j_6.setRowOther _ _ (by omega)).setRow _),(bSetRow (bSetRow hB2 lb_g5 _) lb_g6 _)⟩) ?_
  clear i2_2 i2_3 i2_4 j_5 j_6 lt_5 lt_6 hB2
  rintro W3 ⟨i3_2,i3_3,i3_4,i3_5,i3_6,hB3⟩
  obtain ⟨x42,h42⟩ : ∃ x,x = mulM m a x36:=⟨_,rfl⟩
  have b_x42 : x42 < R256:=by rw [h42]; exact Nat.lt_trans (mulM_lt HP.out) HL.out
  have H42:=Lib.hid h42
  clear h42
  refine wp_region_num 7 [0,1,2,3,4,5] [6] (fun _=>.cells (AQ (nL 0)) 177) (by kernel_rfl) (by kernel_rfl) (by kernel_rfl) (by kernel_rfl) ?hal ?h
  case hal =>
   intro k hk o ho
   simp only [List.mem_cons,List.not_mem_nil,or_false] at hk
   subst hk
   ·cases ho; exact alF_of _ (fun _ _=>by kernel_rfl)
  case h =>
  apply Exists.intro
  refine ⟨fun R=>?_,?_⟩
  ·simp only [List.map_cons,List.map_nil,List.getD_cons_zero,List.getD_cons_succ]
   (first | go_big_quiet_skip | (go_big_quiet_want; go_big_quiet_op; first | go_big_quiet_on | (refine ⟨_,fun _ _=>rfl,?_⟩; go_big_quiet_on)))
   (go_big_quiet_want; apply qn_load1 ot_mod rfl rfl i3_2 (fC_ptr g); (simp only [Act.put,lS]; go_big_quiet_on))
   (first | go_big_quiet_skip | (go_big_quiet_want; go_big_quiet_op; first | go_big_quiet_on | (refine ⟨_,fun _ _=>rfl,?_⟩; go_big_quiet_on)))
   (go_big_quiet_want; apply qn_load at_num rfl rfl i3_3 (hp_tx a b c); (simp only [Act.put,lS]; go_big_quiet_on))
   (go_big_quiet_want; apply qn_load at_num rfl rfl i3_6 (hp_num x36); (simp only [Act.put,lS]; go_big_quiet_on))
   (go_big_quiet_want; refine qa_call _ _ ?_ _ (fun w' hb=>mul_x (HM.out _ (hB3.trans (hb.mono hB3.size))) b_a b_x36 H42.out) ?_; (focus (intro w; simp [go_sem]; done)); (simp only [Act.put,lS]; go_big_quiet_on))
   exact wpQuiet_nil rfl
  ·refine wpAl_consP rfl ?_
   intro g7 hg7 nng7
   intro w2 hcc
   have ne_2_g7 : w.heap.size ≠ g7:=by have:=i3_2.lt; omega
   have ne_3_g7 : (w.heap.size + 1) ≠ g7:=by have:=i3_3.lt; omega
   have ne_4_g7 : (w.heap.size + 1 + 1) ≠ g7:=by have:=i3_4.lt; omega
   have ne_5_g7 : g5 ≠ g7:=by have:=i3_5.lt; omega
   have ne_6_g7 : g6 ≠ g7:=by have:=i3_6.lt; omega
   replace i3_2:=i3_2.below hcc.1 i3_2.lt
   replace i3_3:=i3_3.below hcc.1 i3_3.lt
   replace i3_4:=i3_4.below hcc.1 i3_4.lt
   replace i3_5:=i3_5.below hcc.1 i3_5.lt
   replace i3_6:=i3_6.below hcc.1 i3_6.lt
   have j_7 : Row w2 g7 177 (AQ (nL 0)):=.of_heap (hcc.2 g7 _ (by simp [upd]))
   have hg_le : w.heap.size ≤ w2.heap.size:=Nat.le_trans hB3.size hcc.1.size
   have lb_g7 : w.heap.size ≤ g7:=Nat.le_trans hB3.size hg7
   replace hB3:=hB3.trans (hcc.1.mono hB3.size)
   clear hcc hg_le hg7 nng7
   have lt_7:=j_7.lt
   go_upto_region 5 with (fail)
   refine at_world (fun W=>Row W w.heap.size 243 (fC g) ∧ Row W (w.heap.size + 1) 247 (t3C a b c) ∧ Row W (w.heap.size + 1 + 1) 247 (t3C 0 0 0) ∧ Row W g5 177 (AQ (nL x29)) ∧ Row W g6 177 (AQ (nL x36)) ∧ Row W g7 177 (AQ (nL x42)) ∧ Below w.heap.size w W) (⟨(i3_2.setRowOther _ _ (by omega)),(i3_3.setRowOther _ _ (by omega)),(i3_4.setRowOther _ _ (by omega)),(i3_5.setRowOther _ _ (by omega)),(i3_6.setRowOther _ _ (by omega)),(j_7.setRow _),(bSetRow hB3 lb_g7 _)⟩) ?_
   clear i3_2 i3_3 i3_4 i3_5 i3_6 j_7 lt_7 hB3
   rintro W4 ⟨i4_2,i4_3,i4_4,i4_5,i4_6,i4_7,hB4⟩
   replace i4_2:=i4_2.drew
   replace i4_3:=i4_3.drew
   replace i4_4:=i4_4.drew
   replace i4_5:=i4_5.drew
   replace i4_6:=i4_6.drew
   replace i4_7:=i4_7.drew
   replace hB4:=hB4.drew
   obtain ⟨x51,h51⟩ : ∃ x,x = subM m a x29:=⟨_,rfl⟩
   have b_x51 : x51 < R256:=by rw [h51]; exact Nat.lt_trans (subM_lt HP.out) HL.out
   have H51:=Lib.hid h51
   clear h51
   obtain ⟨x57,h57⟩ : ∃ x,x = addM m a x29:=⟨_,rfl⟩
   have b_x57 : x57 < R256:=by rw [h57]; exact Nat.lt_trans (addM_lt HP.out) HL.out
   have H57:=Lib.hid h57
   clear h57
   obtain ⟨x58,h58⟩ : ∃ x,x = mulM m x51 x57:=⟨_,rfl⟩
   have b_x58 : x58 < R256:=by rw [h58]; exact Nat.lt_trans (mulM_lt HP.out) HL.out
   have H58:=Lib.hid h58
   clear h58
   obtain ⟨x59,h59⟩ : ∃ x,x = thM m x58:=⟨_,rfl⟩
   have b_x59 : x59 < R256:=by rw [h59]; exact Nat.lt_trans (thM_lt HP.out) HL.out
   have H59:=Lib.hid h59
   clear h59
   refine wp_region_allocs 18 [0,1,2,3,4,5,6,7,8,9,10,11,12,13,14,15,16] [17] (fun _=>.cells (AQ (nL 0)) 177) (by kernel_rfl) (by kernel_rfl) (by kernel_rfl) (by kernel_rfl) ?hal ?h
   case hal =>
    intro k hk o ho
    simp only [List.mem_cons,List.not_mem_nil,or_false] at hk
    subst hk
    ·cases ho; exact alF_of _ (fun _ _=>by kernel_rfl)
   case h =>
   apply Exists.intro
   refine ⟨fun R=>?_,?_⟩
   ·simp only [List.map_cons,List.map_nil,List.getD_cons_zero,List.getD_cons_succ]
    (go_big_quiet_want; apply qn_load at_f rfl rfl i4_2 (hp_f g); (simp only [Act.put,lS]; go_big_quiet_on))
    (first | go_big_quiet_skip | (go_big_quiet_want; go_big_quiet_op; first | go_big_quiet_on | (refine ⟨_,fun _ _=>rfl,?_⟩; go_big_quiet_on)))
    (go_big_quiet_want; apply qn_load1 ot_mod rfl rfl i4_2 (fC_ptr g); (simp only [Act.put,lS]; go_big_quiet_on))
    (first | go_big_quiet_skip | (go_big_quiet_want; go_big_quiet_op; first | go_big_quiet_on | (refine ⟨_,fun _ _=>rfl,?_⟩; go_big_quiet_on)))
    (go_big_quiet_want; apply qn_load1 ot_mod rfl rfl i4_2 (fC_ptr g); (simp only [Act.put,lS]; go_big_quiet_on))
    (first | go_big_quiet_skip | (go_big_quiet_want; go_big_quiet_op; first | go_big_quiet_on | (refine ⟨_,fun _ _=>rfl,?_⟩; go_big_quiet_on)))
    (go_big_quiet_want; apply qn_load at_num rfl rfl i4_3 (hp_tx a b c); (simp only [Act.put,lS]; go_big_quiet_on))
    (go_big_quiet_want; apply qn_load at_num rfl rfl i4_5 (hp_num x29); (simp only [Act.put,lS]; go_big_quiet_on))
    (go_big_quiet_want; refine qa_call _ _ ?_ _ (fun w' hb=>sub_x (HM.out _ (hB4.trans (hb.mono hB4.size))) b_a b_x29 H51.out) ?_; (focus (intro w; simp [go_sem]; done)); (simp only [Act.put,lS]; go_big_quiet_on))
    (first | go_big_quiet_skip | (go_big_quiet_want; go_big_quiet_op; first | go_big_quiet_on | (refine ⟨_,fun _ _=>rfl,?_⟩; go_big_quiet_on)))
    (go_big_quiet_want; apply qn_load1 ot_mod rfl rfl i4_2 (fC_ptr g); (simp only [Act.put,lS]; go_big_quiet_on))
    (first | go_big_quiet_skip | (go_big_quiet_want; go_big_quiet_op; first | go_big_quiet_on | (refine ⟨_,fun _ _=>rfl,?_⟩; go_big_quiet_on)))
    (go_big_quiet_want; apply qn_load at_num rfl rfl i4_3 (hp_tx a b c); (simp only [Act.put,lS]; go_big_quiet_on))
    (go_big_quiet_want; apply qn_load at_num rfl rfl i4_5 (hp_num x29); (simp only [Act.put,lS]; go_big_quiet_on))
    (go_big_quiet_want; refine qa_call _ _ ?_ _ (fun w' hb=>add_x (HM.out _ (hB4.trans (hb.mono hB4.size))) b_a b_x29 H57.out) ?_; (focus (intro w; simp [go_sem]; done)); (simp only [Act.put,lS]; go_big_quiet_on))
    (go_big_quiet_want; refine qa_call _ _ ?_ _ (fun w' hb=>mul_x (HM.out _ (hB4.trans (hb.mono hB4.size))) b_x51 b_x57 H58.out) ?_; (focus (intro w; simp [go_sem]; done)); (simp only [Act.put,lS]; go_big_quiet_on))
    (go_big_quiet_want; refine qa_call _ _ ?_ _ (fun w' hb=>thrice_x (HM.out _ (hB4.trans (hb.mono hB4.size))) b_x58 H59.out) ?_; (focus (intro w; simp [go_sem]; done)); (simp only [Act.put,lS]; go_big_quiet_on))
    exact wpQuiet_nil rfl
   ·refine wpAl_consP rfl ?_
    intro g8 hg8 nng8
    intro w2 hcc
    have ne_2_g8 : w.heap.size ≠ g8:=by have:=i4_2.lt; omega
    have ne_3_g8 : (w.heap.size + 1) ≠ g8:=by have:=i4_3.lt; omega
    have ne_4_g8 : (w.heap.size + 1 + 1) ≠ g8:=by have:=i4_4.lt; omega
    have ne_5_g8 : g5 ≠ g8:=by have:=i4_5.lt; omega
    have ne_6_g8 : g6 ≠ g8:=by have:=i4_6.lt; omega
    have ne_7_g8 : g7 ≠ g8:=by have:=i4_7.lt; omega
    replace i4_2:=i4_2.below hcc.1 i4_2.lt
    replace i4_3:=i4_3.below hcc.1 i4_3.lt
    replace i4_4:=i4_4.below hcc.1 i4_4.lt
    replace i4_5:=i4_5.below hcc.1 i4_5.lt
    replace i4_6:=i4_6.below hcc.1 i4_6.lt
    replace i4_7:=i4_7.below hcc.1 i4_7.lt
    have j_8 : Row w2 g8 177 (AQ (nL 0)):=.of_heap (hcc.2 g8 _ (by simp [upd]))
    have hg_le : w.heap.size ≤ w2.heap.size:=Nat.le_trans hB4.size hcc.1.size
    have lb_g8 : w.heap.size ≤ g8:=Nat.le_trans hB4.size hg8
    replace hB4:=hB4.trans (hcc.1.mono hB4.size)
    clear hcc hg_le hg8 nng8
    have lt_8:=j_8.lt
    go_upto_region 6 with (fail)
    refine at_world (fun W=>Row W w.heap.size 243 (fC g) ∧ Row W (w.heap.size + 1) 247 (t3C a b c) ∧ Row W (w.heap.size + 1 + 1) 247 (t3C 0 0 0) ∧ Row W g6 177 (AQ (nL x36)) ∧ Row W g7 177 (AQ (nL x42)) ∧ Row W g8 177 (AQ (nL x59)) ∧ Below w.heap.size w W) (⟨(i4_2.setRowOther _ _ (by omega)),(i4_3.setRowOther _ _ (by omega)),(i4_4.setRowOther _ _ (by omega)),(i4_6.setRowOther _ _ (by omega)),(i4_7.setRowOther _ _ (by omega)),(j_8.setRow _),(bSetRow hB4 lb_g8 _)⟩) ?_
    clear i4_2 i4_3 i4_4 i4_6 i4_7 j_8 lt_8 i4_5 hB4
    rintro W5 ⟨i5_2,i5_3,i5_4,i5_6,i5_7,i5_8,hB5⟩
    replace i5_2:=i5_2.drew
    replace i5_3:=i5_3.drew
    replace i5_4:=i5_4.drew
    replace i5_6:=i5_6.drew
    replace i5_7:=i5_7.drew
    replace i5_8:=i5_8.drew
    replace hB5:=hB5.drew
    obtain ⟨x63,h63⟩ : ∃ x,x = twM m x42:=⟨_,rfl⟩
    have b_x63 : x63 < R256:=by rw [h63]; exact Nat.lt_trans (twM_lt HP.out) HL.out
    have H63:=Lib.hid h63
    clear h63
    obtain ⟨x64,h64⟩ : ∃ x,x = twM m x63:=⟨_,rfl⟩
    have b_x64 : x64 < R256:=by rw [h64]; exact Nat.lt_trans (twM_lt HP.out) HL.out
    have H64:=Lib.hid h64
    clear h64
    refine wp_region_allocs 6 [0,1,2,3,4] [5] (fun _=>.cells (AQ (nL 0)) 177) (by kernel_rfl) (by kernel_rfl) (by kernel_rfl) (by kernel_rfl) ?hal ?h
    case hal =>
     intro k hk o ho
     simp only [List.mem_cons,List.not_mem_nil,or_false] at hk
     subst hk
     ·cases ho; exact alF_of _ (fun _ _=>by kernel_rfl)
    case h =>
    apply Exists.intro
    refine ⟨fun R=>?_,?_⟩
    ·simp only [List.map_cons,List.map_nil,List.getD_cons_zero,List.getD_cons_succ]
     (go_big_quiet_want; apply qn_load at_f rfl rfl i5_2 (hp_f g); (simp only [Act.put,lS]; go_big_quiet_on))
     (go_big_quiet_want; apply qn_load at_f rfl rfl i5_2 (hp_f g); (simp only [Act.put,lS]; go_big_quiet_on))
     (go_big_quiet_want; apply qn_load at_num rfl rfl i5_7 (hp_num x42); (simp only [Act.put,lS]; go_big_quiet_on))
     (go_big_quiet_want; refine qa_call _ _ ?_ _ (fun w' hb=>twice_x (HM.out _ (hB5.trans (hb.mono hB5.size))) b_x42 H63.out) ?_; (focus (intro w; simp [go_sem]; done)); (simp only [Act.put,lS]; go_big_quiet_on))
     (go_big_quiet_want; refine qa_call _ _ ?_ _ (fun w' hb=>twice_x (HM.out _ (hB5.trans (hb.mono hB5.size))) b_x63 H64.out) ?_; (focus (intro w; simp [go_sem]; done)); (simp only [Act.put,lS]; go_big_quiet_on))
     exact wpQuiet_nil rfl
    ·refine wpAl_consP rfl ?_
     intro g9 hg9 nng9
     intro w2 hcc
     have ne_2_g9 : w.heap.size ≠ g9:=by have:=i5_2.lt; omega
     have ne_3_g9 : (w.heap.size + 1) ≠ g9:=by have:=i5_3.lt; omega
     have ne_4_g9 : (w.heap.size + 1 + 1) ≠ g9:=by have:=i5_4.lt; omega
     have ne_6_g9 : g6 ≠ g9:=by have:=i5_6.lt; omega
     have ne_7_g9 : g7 ≠ g9:=by have:=i5_7.lt; omega
     have ne_8_g9 : g8 ≠ g9:=by have:=i5_8.lt; omega
     replace i5_2:=i5_2.below hcc.1 i5_2.lt
     replace i5_3:=i5_3.below hcc.1 i5_3.lt
     replace i5_4:=i5_4.below hcc.1 i5_4.lt
     replace i5_6:=i5_6.below hcc.1 i5_6.lt
     replace i5_7:=i5_7.below hcc.1 i5_7.lt
     replace i5_8:=i5_8.below hcc.1 i5_8.lt
     have j_9 : Row w2 g9 177 (AQ (nL 0)):=.of_heap (hcc.2 g9 _ (by simp [upd]))
     have hg_le : w.heap.size ≤ w2.heap.size:=Nat.le_trans hB5.size hcc.1.size
     have lb_g9 : w.heap.size ≤ g9:=Nat.le_trans hB5.size hg9
     replace hB5:=hB5.trans (hcc.1.mono hB5.size)
     clear hcc hg_le hg9 nng9
     have lt_9:=j_9.lt
     go_upto_region 7 with (fail)
     refine at_world (fun W=>Row W w.heap.size 243 (fC g) ∧ Row W (w.heap.size + 1) 247 (t3C a b c) ∧ Row W (w.heap.size + 1 + 1) 247 (t3C 0 0 0) ∧ Row W g6 177 (AQ (nL x36)) ∧ Row W g8 177 (AQ (nL x59)) ∧ Row W g9 177 (AQ (nL x64)) ∧ Below w.heap.size w W) (⟨(i5_2.setRowOther _ _ (by omega)),(i5_3.setRowOther _ _ (by omega)),(i5_4.setRowOther _ _ (by omega)),(i5_6.setRowOther _ _ (by omega)),(i5_8.setRowOther _ _ (by omega)),(j_9.setRow _),(bSetRow hB5 lb_g9 _)⟩) ?_
     clear i5_2 i5_3 i5_4 i5_6 i5_8 j_9 lt_9 i5_7 hB5
     rintro W6 ⟨i6_2,i6_3,i6_4,i6_6,i6_8,i6_9,hB6⟩
     replace i6_2:=i6_2.drew
     replace i6_3:=i6_3.drew
     replace i6_4:=i6_4.drew
     replace i6_6:=i6_6.drew
     replace i6_8:=i6_8.drew
     replace i6_9:=i6_9.drew
     replace hB6:=hB6.drew
     obtain ⟨x71,h71⟩ : ∃ x,x = mulM m x59 x59:=⟨_,rfl⟩
     have b_x71 : x71 < R256:=by rw [h71]; exact Nat.lt_trans (mulM_lt HP.out) HL.out
     have H71:=Lib.hid h71
     clear h71
     obtain ⟨x74,h74⟩ : ∃ x,x = twM m x64:=⟨_,rfl⟩
     have b_x74 : x74 < R256:=by rw [h74]; exact Nat.lt_trans (twM_lt HP.out) HL.out
     have H74:=Lib.hid h74
     clear h74
     obtain ⟨x75,h75⟩ : ∃ x,x = subM m x71 x74:=⟨_,rfl⟩
     have b_x75 : x75 < R256:=by rw [h75]; exact Nat.lt_trans (subM_lt HP.out) HL.out
     have H75:=Lib.hid h75
     clear h75
     refine wp_region_allocs 12 [0,1,2,3,4,5,6,7,8,9,10] [11] (fun _=>.cells (AQ (nL 0)) 177) (by kernel_rfl) (by kernel_rfl) (by kernel_rfl) (by kernel_rfl) ?hal ?h
     case hal =>
      intro k hk o ho
      simp only [List.mem_cons,List.not_mem_nil,or_false] at hk
      subst hk
      ·cases ho; exact alF_of _ (fun _ _=>by kernel_rfl)
     case h =>
     apply Exists.intro
     refine ⟨fun R=>?_,?_⟩
     ·simp only [List.map_cons,List.map_nil,List.getD_cons_zero,List.getD_cons_succ]
      (first | go_big_quiet_skip | (go_big_quiet_want; go_big_quiet_op; first | go_big_quiet_on | (refine ⟨_,fun _ _=>rfl,?_⟩; go_big_quiet_on)))
      (go_big_quiet_want; apply qn_load1 ot_mod rfl rfl i6_2 (fC_ptr g); (simp only [Act.put,lS]; go_big_quiet_on))
      (first | go_big_quiet_skip | (go_big_quiet_want; go_big_quiet_op; first | go_big_quiet_on | (refine ⟨_,fun _ _=>rfl,?_⟩; go_big_quiet_on)))
      (go_big_quiet_want; apply qn_load1 ot_mod rfl rfl i6_2 (fC_ptr g); (simp only [Act.put,lS]; go_big_quiet_on))
      (go_big_quiet_want; apply qn_load at_num rfl rfl i6_8 (hp_num x59); (simp only [Act.put,lS]; go_big_quiet_on))
      (go_big_quiet_want; apply qn_load at_num rfl rfl i6_8 (hp_num x59); (simp only [Act.put,lS]; go_big_quiet_on))
      (go_big_quiet_want; refine qa_call _ _ ?_ _ (fun w' hb=>mul_x (HM.out _ (hB6.trans (hb.mono hB6.size))) b_x59 b_x59 H71.out) ?_; (focus (intro w; simp [go_sem]; done)); (simp only [Act.put,lS]; go_big_quiet_on))
      (go_big_quiet_want; apply qn_load at_f rfl rfl i6_2 (hp_f g); (simp only [Act.put,lS]; go_big_quiet_on))
      (go_big_quiet_want; apply qn_load at_num rfl rfl i6_9 (hp_num x64); (simp only [Act.put,lS]; go_big_quiet_on))
      (go_big_quiet_want; refine qa_call _ _ ?_ _ (fun w' hb=>twice_x (HM.out _ (hB6.trans (hb.mono hB6.size))) b_x64 H74.out) ?_; (focus (intro w; simp [go_sem]; done)); (simp only [Act.put,lS]; go_big_quiet_on))
      (go_big_quiet_want; refine qa_call _ _ ?_ _ (fun w' hb=>sub_x (HM.out _ (hB6.trans (hb.mono hB6.size))) b_x71 b_x74 H75.out) ?_; (focus (intro w; simp [go_sem]; done)); (simp only [Act.put,lS]; go_big_quiet_on))
      exact wpQuiet_nil rfl
     ·refine wpAl_consP rfl ?_
      intro g10 hg10 nng10
      intro w2 hcc
      have ne_2_g10 : w.heap.size ≠ g10:=by have:=i6_2.lt; omega
      have ne_3_g10 : (w.heap.size + 1) ≠ g10:=by have:=i6_3.lt; omega
      have ne_4_g10 : (w.heap.size + 1 + 1) ≠ g10:=by have:=i6_4.lt; omega
      have ne_6_g10 : g6 ≠ g10:=by have:=i6_6.lt; omega
      have ne_8_g10 : g8 ≠ g10:=by have:=i6_8.lt; omega
      have ne_9_g10 : g9 ≠ g10:=by have:=i6_9.lt; omega
      replace i6_2:=i6_2.below hcc.1 i6_2.lt
      replace i6_3:=i6_3.below hcc.1 i6_3.lt
      replace i6_4:=i6_4.below hcc.1 i6_4.lt
      replace i6_6:=i6_6.below hcc.1 i6_6.lt
      replace i6_8:=i6_8.below hcc.1 i6_8.lt
      replace i6_9:=i6_9.below hcc.1 i6_9.lt
      have j_10 : Row w2 g10 177 (AQ (nL 0)):=.of_heap (hcc.2 g10 _ (by simp [upd]))
      have hg_le : w.heap.size ≤ w2.heap.size:=Nat.le_trans hB6.size hcc.1.size
      have lb_g10 : w.heap.size ≤ g10:=Nat.le_trans hB6.size hg10
      replace hB6:=hB6.trans (hcc.1.mono hB6.size)
      clear hcc hg_le hg10 nng10
      have lt_10:=j_10.lt
      go_upto_region 8 with (fail)
      refine at_world (fun W=>Row W w.heap.size 243 (fC g) ∧ Row W (w.heap.size + 1) 247 (t3C a b c) ∧ Row W (w.heap.size + 1 + 1) 247 (t3C 0 0 0) ∧ Row W g6 177 (AQ (nL x36)) ∧ Row W g8 177 (AQ (nL x59)) ∧ Row W g9 177 (AQ (nL x64)) ∧ Row W g10 177 (AQ (nL x75)) ∧ Below w.heap.size w W) (⟨(i6_2.setRowOther _ _ (by omega)),(i6_3.setRowOther _ _ (by omega)),(i6_4.setRowOther _ _ (by omega)),(i6_6.setRowOther _ _ (by omega)),(i6_8.setRowOther _ _ (by omega)),(i6_9.setRowOther _ _ (by omega)),(j_10.setRow _),(bSetRow hB6 lb_g10 _)⟩) ?_
      clear i6_2 i6_3 i6_4 i6_6 i6_8 i6_9 j_10 lt_10 hB6
      rintro W7 ⟨i7_2,i7_3,i7_4,i7_6,i7_8,i7_9,i7_10,hB7⟩
      replace i7_2:=i7_2.drew
      replace i7_3:=i7_3.drew
      replace i7_4:=i7_4.drew
      replace i7_6:=i7_6.drew
      replace i7_8:=i7_8.drew
      replace i7_9:=i7_9.drew
      replace i7_10:=i7_10.drew
      replace hB7:=hB7.drew
      obtain ⟨x83,h83⟩ : ∃ x,x = mulM m x36 x36:=⟨_,rfl⟩
      have b_x83 : x83 < R256:=by rw [h83]; exact Nat.lt_trans (mulM_lt HP.out) HL.out
      have H83:=Lib.hid h83
      clear h83
      obtain ⟨x84,h84⟩ : ∃ x,x = twM m x83:=⟨_,rfl⟩
      have b_x84 : x84 < R256:=by rw [h84]; exact Nat.lt_trans (twM_lt HP.out) HL.out
      have H84:=Lib.hid h84
      clear h84
      obtain ⟨x85,h85⟩ : ∃ x,x = twM m x84:=⟨_,rfl⟩
      have b_x85 : x85 < R256:=by rw [h85]; exact Nat.lt_trans (twM_lt HP.out) HL.out
      have H85:=Lib.hid h85
      clear h85
      obtain ⟨x86,h86⟩ : ∃ x,x = twM m x85:=⟨_,rfl⟩
      have b_x86 : x86 < R256:=by rw [h86]; exact Nat.lt_trans (twM_lt HP.out) HL.out
      have H86:=Lib.hid h86
      clear h86
      refine wp_region_allocs 12 [0,1,2,3,4,5,6,7,8,9,10] [11] (fun _=>.cells (AQ (nL 0)) 177) (by kernel_rfl) (by kernel_rfl) (by kernel_rfl) (by kernel_rfl) ?hal ?h
      case hal =>
       intro k hk o ho
       simp only [List.mem_cons,List.not_mem_nil,or_false] at hk
       subst hk
       ·cases ho; exact alF_of _ (fun _ _=>by kernel_rfl)
      case h =>
      apply Exists.intro
      refine ⟨fun R=>?_,?_⟩
      ·simp only [List.map_cons,List.map_nil,List.getD_cons_zero,List.getD_cons_succ]
       (go_big_quiet_want; apply qn_load at_f rfl rfl i7_2 (hp_f g); (simp only [Act.put,lS]; go_big_quiet_on))
       (go_big_quiet_want; apply qn_load at_f rfl rfl i7_2 (hp_f g); (simp only [Act.put,lS]; go_big_quiet_on))
       (go_big_quiet_want; apply qn_load at_f rfl rfl i7_2 (hp_f g); (simp only [Act.put,lS]; go_big_quiet_on))
       (first | go_big_quiet_skip | (go_big_quiet_want; go_big_quiet_op; first | go_big_quiet_on | (refine ⟨_,fun _ _=>rfl,?_⟩; go_big_quiet_on)))
       (go_big_quiet_want; apply qn_load1 ot_mod rfl rfl i7_2 (fC_ptr g); (simp only [Act.put,lS]; go_big_quiet_on))
       (go_big_quiet_want; apply qn_load at_num rfl rfl i7_6 (hp_num x36); (simp only [Act.put,lS]; go_big_quiet_on))
       (go_big_quiet_want; apply qn_load at_num rfl rfl i7_6 (hp_num x36); (simp only [Act.put,lS]; go_big_quiet_on))
       (go_big_quiet_want; refine qa_call _ _ ?_ _ (fun w' hb=>mul_x (HM.out _ (hB7.trans (hb.mono hB7.size))) b_x36 b_x36 H83.out) ?_; (focus (intro w; simp [go_sem]; done)); (simp only [Act.put,lS]; go_big_quiet_on))
       (go_big_quiet_want; refine qa_call _ _ ?_ _ (fun w' hb=>twice_x (HM.out _ (hB7.trans (hb.mono hB7.size))) b_x83 H84.out) ?_; (focus (intro w; simp [go_sem]; done)); (simp only [Act.put,lS]; go_big_quiet_on))
       (go_big_quiet_want; refine qa_call _ _ ?_ _ (fun w' hb=>twice_x (HM.out _ (hB7.trans (hb.mono hB7.size))) b_x84 H85.out) ?_; (focus (intro w; simp [go_sem]; done)); (simp only [Act.put,lS]; go_big_quiet_on))
       (go_big_quiet_want; refine qa_call _ _ ?_ _ (fun w' hb=>twice_x (HM.out _ (hB7.trans (hb.mono hB7.size))) b_x85 H86.out) ?_; (focus (intro w; simp [go_sem]; done)); (simp only [Act.put,lS]; go_big_quiet_on))
       exact wpQuiet_nil rfl
      ·refine wpAl_consP rfl ?_
       intro g11 hg11 nng11
       intro w2 hcc
       have ne_2_g11 : w.heap.size ≠ g11:=by have:=i7_2.lt; omega
       have ne_3_g11 : (w.heap.size + 1) ≠ g11:=by have:=i7_3.lt; omega
       have ne_4_g11 : (w.heap.size + 1 + 1) ≠ g11:=by have:=i7_4.lt; omega
       have ne_6_g11 : g6 ≠ g11:=by have:=i7_6.lt; omega
       have ne_8_g11 : g8 ≠ g11:=by have:=i7_8.lt; omega
       have ne_9_g11 : g9 ≠ g11:=by have:=i7_9.lt; omega
       have ne_10_g11 : g10 ≠ g11:=by have:=i7_10.lt; omega
       replace i7_2:=i7_2.below hcc.1 i7_2.lt
       replace i7_3:=i7_3.below hcc.1 i7_3.lt
       replace i7_4:=i7_4.below hcc.1 i7_4.lt
       replace i7_6:=i7_6.below hcc.1 i7_6.lt
       replace i7_8:=i7_8.below hcc.1 i7_8.lt
       replace i7_9:=i7_9.below hcc.1 i7_9.lt
       replace i7_10:=i7_10.below hcc.1 i7_10.lt
       have j_11 : Row w2 g11 177 (AQ (nL 0)):=.of_heap (hcc.2 g11 _ (by simp [upd]))
       have hg_le : w.heap.size ≤ w2.heap.size:=Nat.le_trans hB7.size hcc.1.size
       have lb_g11 : w.heap.size ≤ g11:=Nat.le_trans hB7.size hg11
       replace hB7:=hB7.trans (hcc.1.mono hB7.size)
       clear hcc hg_le hg11 nng11
       have lt_11:=j_11.lt
       go_upto_region 9 with (fail)
       refine at_world (fun W=>Row W w.heap.size 243 (fC g) ∧ Row W (w.heap.size + 1) 247 (t3C a b c) ∧ Row W (w.heap.size + 1 + 1) 247 (t3C 0 0 0) ∧ Row W g8 177 (AQ (nL x59)) ∧ Row W g9 177 (AQ (nL x64)) ∧ Row W g10 177 (AQ (nL x75)) ∧ Row W g11 177 (AQ (nL x86)) ∧ Below w.heap.size w W) (⟨(i7_2.setRowOther _ _ (by omega)),(i7_3.setRowOther _ _ (by omega)),(i7_4.setRowOther _ _ (by omega)),(i7_8.setRowOther _ _ (by omega)),(i7_9.setRowOther _ _ (by omega)),(i7_10.setRowOther _ _ (by omega)),(j_11.setRow _),(bSetRow hB7 lb_g11 _)⟩) ?_
       clear i7_2 i7_3 i7_4 i7_8 i7_9 i7_10 j_11 lt_11 i7_6 hB7
       rintro W8 ⟨i8_2,i8_3,i8_4,i8_8,i8_9,i8_10,i8_11,hB8⟩
       replace i8_2:=i8_2.drew
       replace i8_3:=i8_3.drew
       replace i8_4:=i8_4.drew
       replace i8_8:=i8_8.drew
       replace i8_9:=i8_9.drew
       replace i8_10:=i8_10.drew
       replace i8_11:=i8_11.drew
       replace hB8:=hB8.drew
       obtain ⟨x97,h97⟩ : ∃ x,x = subM m x64 x75:=⟨_,rfl⟩
       have b_x97 : x97 < R256:=by rw [h97]; exact Nat.lt_trans (subM_lt HP.out) HL.out
       have H97:=Lib.hid h97
       clear h97
       obtain ⟨x98,h98⟩ : ∃ x,x = mulM m x59 x97:=⟨_,rfl⟩
       have b_x98 : x98 < R256:=by rw [h98]; exact Nat.lt_trans (mulM_lt HP.out) HL.out
       have H98:=Lib.hid h98
       clear h98
       obtain ⟨x100,h100⟩ : ∃ x,x = subM m x98 x86:=⟨_,rfl⟩
       have b_x100 : x100 < R256:=by rw [h100]; exact Nat.lt_trans (subM_lt HP.out) HL.out
       have H100:=Lib.hid h100
       clear h100
       obtain ⟨x106,h106⟩ : ∃ x,x = twM m b:=⟨_,rfl⟩
       have b_x106 : x106 < R256:=by rw [h106]; exact Nat.lt_trans (twM_lt HP.out) HL.out
       have H106:=Lib.hid h106
       clear h106
       obtain ⟨x109,h109⟩ : ∃ x,x = mulM m x106 c:=⟨_,rfl⟩
       have b_x109 : x109 < R256:=by rw [h109]; exact Nat.lt_trans (mulM_lt HP.out) HL.out
       have H109:=Lib.hid h109
       clear h109
       refine wp_region_allocs 24 [0,1,2,3,4,5,6,7,8,9,10,11,12,13,14,15,16,17,18,19,20,21,22,23] [] (fun _=>.cells #[] 0) (by kernel_rfl) (by kernel_rfl) (by kernel_rfl) (by kernel_rfl) ?hal ?h
       case hal =>
        intro k hk o ho
        cases hk
       case h =>
       apply Exists.intro
       refine ⟨fun R=>?_,?_⟩
       ·simp only [List.map_cons,List.map_nil,List.getD_cons_zero,List.getD_cons_succ]
        (go_big_quiet_want; apply qn_load at_num rfl rfl i8_10 (hp_num x75); (simp only [Act.put,lS]; go_big_quiet_on))
        (first | go_big_quiet_skip | (go_big_quiet_want; go_big_quiet_op; first | go_big_quiet_on | (refine ⟨_,fun _ _=>rfl,?_⟩; go_big_quiet_on)))
        (go_big_quiet_want; apply qn_load1 ot_mod rfl rfl i8_2 (fC_ptr g); (simp only [Act.put,lS]; go_big_quiet_on))
        (first | go_big_quiet_skip | (go_big_quiet_want; go_big_quiet_op; first | go_big_quiet_on | (refine ⟨_,fun _ _=>rfl,?_⟩; go_big_quiet_on)))
        (go_big_quiet_want; apply qn_load1 ot_mod rfl rfl i8_2 (fC_ptr g); (simp only [Act.put,lS]; go_big_quiet_on))
        (go_big_quiet_want; apply qn_load at_num rfl rfl i8_8 (hp_num x59); (simp only [Act.put,lS]; go_big_quiet_on))
        (first | go_big_quiet_skip | (go_big_quiet_want; go_big_quiet_op; first | go_big_quiet_on | (refine ⟨_,fun _ _=>rfl,?_⟩; go_big_quiet_on)))
        (go_big_quiet_want; apply qn_load1 ot_mod rfl rfl i8_2 (fC_ptr g); (simp only [Act.put,lS]; go_big_quiet_on))
        (go_big_quiet_want; apply qn_load at_num rfl rfl i8_9 (hp_num x64); (simp only [Act.put,lS]; go_big_quiet_on))
        (go_big_quiet_want; apply qn_load at_num rfl rfl i8_10 (hp_num x75); (simp only [Act.put,lS]; go_big_quiet_on))
        (go_big_quiet_want; refine qa_call _ _ ?_ _ (fun w' hb=>sub_x (HM.out _ (hB8.trans (hb.mono hB8.size))) b_x64 b_x75 H97.out) ?_; (focus (intro w; simp [go_sem]; done)); (simp only [Act.put,lS]; go_big_quiet_on))
        (go_big_quiet_want; refine qa_call _ _ ?_ _ (fun w' hb=>mul_x (HM.out _ (hB8.trans (hb.mono hB8.size))) b_x59 b_x97 H98.out) ?_; (focus (intro w; simp [go_sem]; done)); (simp only [Act.put,lS]; go_big_quiet_on))
        (go_big_quiet_want; apply qn_load at_num rfl rfl i8_11 (hp_num x86); (simp only [Act.put,lS]; go_big_quiet_on))
        (go_big_quiet_want; refine qa_call _ _ ?_ _ (fun w' hb=>sub_x (HM.out _ (hB8.trans (hb.mono hB8.size))) b_x98 b_x86 H100.out) ?_; (focus (intro w; simp [go_sem]; done)); (simp only [Act.put,lS]; go_big_quiet_on))
        (first | go_big_quiet_skip | (go_big_quiet_want; go_big_quiet_op; first | go_big_quiet_on | (refine ⟨_,fun _ _=>rfl,?_⟩; go_big_quiet_on)))
        (go_big_quiet_want; apply qn_load1 ot_mod rfl rfl i8_2 (fC_ptr g); (simp only [Act.put,lS]; go_big_quiet_on))
        (go_big_quiet_want; apply qn_load at_f rfl rfl i8_2 (hp_f g); (simp only [Act.put,lS]; go_big_quiet_on))
        (first | go_big_quiet_skip | (go_big_quiet_want; go_big_quiet_op; first | go_big_quiet_on | (refine ⟨_,fun _ _=>rfl,?_⟩; go_big_quiet_on)))
        (go_big_quiet_want; apply qn_load at_num rfl rfl i8_3 (hp_ty a b c); (simp only [Act.put,lS]; go_big_quiet_on))
        (go_big_quiet_want; refine qa_call _ _ ?_ _ (fun w' hb=>twice_x (HM.out _ (hB8.trans (hb.mono hB8.size))) b_b H106.out) ?_; (focus (intro w; simp [go_sem]; done)); (simp only [Act.put,lS]; go_big_quiet_on))
        (first | go_big_quiet_skip | (go_big_quiet_want; go_big_quiet_op; first | go_big_quiet_on | (refine ⟨_,fun _ _=>rfl,?_⟩; go_big_quiet_on)))
        (go_big_quiet_want; apply qn_load at_num rfl rfl i8_3 (hp_tz a b c); (simp only [Act.put,lS]; go_big_quiet_on))
        (go_big_quiet_want; refine qa_call _ _ ?_ _ (fun w' hb=>mul_x (HM.out _ (hB8.trans (hb.mono hB8.size))) b_x106 b_c H109.out) ?_; (focus (intro w; simp [go_sem]; done)); (simp only [Act.put,lS]; go_big_quiet_on))
        (go_big_quiet_want; refine qa_pure (.agg (t3C x75 x100 x109)) (fun w=>by kernel_rfl) ?_; (simp only [Act.put,lS]; go_big_quiet_on))
        exact wpQuiet_nil rfl
       ·intro w2 hcc
        replace i8_2:=i8_2.below hcc.1 i8_2.lt
        replace i8_3:=i8_3.below hcc.1 i8_3.lt
        replace i8_4:=i8_4.below hcc.1 i8_4.lt
        replace i8_8:=i8_8.below hcc.1 i8_8.lt
        replace i8_9:=i8_9.below hcc.1 i8_9.lt
        replace i8_10:=i8_10.below hcc.1 i8_10.lt
        replace i8_11:=i8_11.below hcc.1 i8_11.lt
        have hg_le : w.heap.size ≤ w2.heap.size:=Nat.le_trans hB8.size hcc.1.size
        replace hB8:=hB8.trans (hcc.1.mono hB8.size)
        clear hcc hg_le
        have lt_4:=i8_4.lt
        go_wp2_with fail
        exact ret_row (by first | exact .inl rfl | exact .inr rfl) rfl ((w.heap.size + 1 + 1)) 247 (t3C x75 x100 x109) 12 _ rfl (i8_4.setRow _) Tryz.underlying247 rfl (by kernel_rfl) rfl ⟨by rw [HX.out]; unfold dblS; rw [if_neg HZ.out]; simp only [twM,thM,H29.out,H36.out,H42.out,H51.out,H57.out,H58.out,H59.out,H63.out,H64.out,H71.out,H74.out,H75.out,H83.out,H84.out,H85.out,H86.out,H97.out,H98.out,H100.out,H106.out,H109.out],(bSetRow hB8 (by omega) _)⟩
theorem dbl_any {w:World} {g m neg ri a b c:Nat} (hM:ModW w g m neg ri) (ha:a < R256) (hb:b < R256) (hc:c < R256) : Calls Tryz.prog 136 #[.agg (fC g),.agg (t3C a b c)] w fun e w'=>e = .returned (.agg (t3C (dblS m ⟨a,b,c⟩).x (dblS m ⟨a,b,c⟩).y (dblS m ⟨a,b,c⟩).z)) ∧ Below w.heap.size w w':=by
 by_cases hz : c = 0
 ·subst hz; exact dbl_z (c:=0) ha hb hc
 ·by_cases hy : b = 0
  ·subst hy; exact dbl_y (b:=0) ha hb hc hz
  ·exact dbl_some hM ha hb hc hz hy
end Go.Proofs.YtjpfhhndjpdmoaaGreatDoor
