/- Part of the proof: CurveC. No conditions of its own. -/
import Derived.Test.YtjpfhhndjpdmoaaGreatDoorF12
namespace Go.Proofs.YtjpfhhndjpdmoaaGreatDoor
open Go.RowKit
set_option linter.unusedVariables false
set_option linter.unusedSimpArgs false

theorem dblS_lt {m:Nat} {p:T3} (h:0 < m) (hm:m < R256) : (dblS m p).x < R256 ∧ (dblS m p).y < R256 ∧ (dblS m p).z < R256:=by
 unfold dblS
 split
 ·exact ⟨by decide,by decide,by decide⟩
 ·exact ⟨Nat.lt_trans (Nat.mod_lt _ h) hm,Nat.lt_trans (Nat.mod_lt _ h) hm,Nat.lt_trans (Nat.mod_lt _ h) hm⟩
theorem addS_lt {m:Nat} {p q:T3} (h:0 < m) (hm:m < R256) (hp:p.x < R256 ∧ p.y < R256 ∧ p.z < R256) (hq:q.x < R256 ∧ q.y < R256 ∧ q.z < R256) : (addS m p q).x < R256 ∧ (addS m p q).y < R256 ∧ (addS m p q).z < R256:=by
 unfold addS
 split
 ·exact hq
 ·split
  ·exact hp
  ·simp only []
   split
   ·split
    ·exact dblS_lt h hm
    ·exact ⟨by decide,by decide,by decide⟩
   ·exact ⟨Nat.lt_trans (Nat.mod_lt _ h) hm,Nat.lt_trans (Nat.mod_lt _ h) hm,Nat.lt_trans (Nat.mod_lt _ h) hm⟩
theorem dbl_x {w:World} {g m neg ri a b c:Nat} {T:T3} (hM:ModW w g m neg ri) (ha:a < R256) (hb:b < R256) (hc:c < R256) (hT:T = dblS m ⟨a,b,c⟩) : Calls Tryz.prog 136 #[.agg (fC g),.agg (t3C a b c)] w fun e w'=>e = .returned (.agg (t3C T.x T.y T.z)) ∧ Below w.heap.size w w':=by
 subst hT; exact dbl_any hM ha hb hc
set_option maxRecDepth 100000 in
set_option maxHeartbeats 4000000 in
theorem add3_pz {w:World} {g m a1 b1 c1 a2 b2 c2:Nat} (ha1:a1 < R256) (hb1:b1 < R256) (hc1:c1 < R256) (ha2:a2 < R256) (hb2:b2 < R256) (hc2:c2 < R256) : Calls Tryz.prog 138 #[.agg (fC g),.agg (t3C a1 b1 0),.agg (t3C a2 b2 c2)] w fun e w'=>e = .returned (.agg (t3C (addS m ⟨a1,b1,0⟩ ⟨a2,b2,c2⟩).x (addS m ⟨a1,b1,0⟩ ⟨a2,b2,c2⟩).y (addS m ⟨a1,b1,0⟩ ⟨a2,b2,c2⟩).z)) ∧ Below w.heap.size w w':=by
 have b_a1:=ha1
 have b_b1:=hb1
 have b_c1:=hc1
 have b_a2:=ha2
 have b_b2:=hb2
 have b_c2:=hc2
 clear ha1 hb1 hc1 ha2 hb2 hc2
 have b_0 : 0 < R256:=by decide
 obtain ⟨T,hT⟩ : ∃ T,T = addS m ⟨a1,b1,0⟩ ⟨a2,b2,c2⟩:=⟨_,rfl⟩
 rw [← hT]
 have HE:=Lib.hid (show T = ⟨a2,b2,c2⟩ from by rw [hT]; unfold addS; exact if_pos rfl)
 clear hT
 go_enter Tryz.func138,Tryz.ntmps138
 go_upto_region 1 with (fail)
 refine at_world (fun W=>Row W w.heap.size 243 (fC g) ∧ Row W (w.heap.size + 1) 247 (t3C a1 b1 0) ∧ Row W (w.heap.size + 1 + 1) 247 (t3C a2 b2 c2) ∧ Row W (w.heap.size + 1 + 1 + 1) 247 (t3C 0 0 0) ∧ Below w.heap.size w W) (⟨((((Row.newAt _ _ _ _ rfl).alloc _).alloc _).alloc _),(((Row.newAt _ _ _ _ (by simp)).alloc _).alloc _),((Row.newAt _ _ _ _ (by simp)).alloc _),(by rw [t3C_zero]; exact (Row.newAt _ _ _ _ (by simp))),(((((Below.refl _ w).alloc (Nat.le_refl _) _).alloc (by simp) _).alloc (by simp; omega) _).alloc (by simp; omega) _)⟩) ?_
 rintro W1 ⟨i1_3,i1_4,i1_5,i1_6,hB1⟩
 have lt_6:=i1_6.lt
 go_wp2_with fail
 exact ret_row (by first | exact .inl rfl | exact .inr rfl) rfl ((w.heap.size + 1 + 1 + 1)) 247 (t3C a2 b2 c2) 12 _ rfl (i1_6.setRow _) Tryz.underlying247 rfl (by kernel_rfl) rfl ⟨by rw [HE.out],(bSetRow hB1 (by omega) _)⟩
set_option maxRecDepth 100000 in
set_option maxHeartbeats 4000000 in
theorem add3_qz {w:World} {g m a1 b1 c1 a2 b2 c2:Nat} (ha1:a1 < R256) (hb1:b1 < R256) (hc1:c1 < R256) (ha2:a2 < R256) (hb2:b2 < R256) (hc2:c2 < R256) (hz1:¬ c1 = 0) : Calls Tryz.prog 138 #[.agg (fC g),.agg (t3C a1 b1 c1),.agg (t3C a2 b2 0)] w fun e w'=>e = .returned (.agg (t3C (addS m ⟨a1,b1,c1⟩ ⟨a2,b2,0⟩).x (addS m ⟨a1,b1,c1⟩ ⟨a2,b2,0⟩).y (addS m ⟨a1,b1,c1⟩ ⟨a2,b2,0⟩).z)) ∧ Below w.heap.size w w':=by
 have b_a1:=ha1
 have b_b1:=hb1
 have b_c1:=hc1
 have b_a2:=ha2
 have b_b2:=hb2
 have b_c2:=hc2
 clear ha1 hb1 hc1 ha2 hb2 hc2
 have b_0 : 0 < R256:=by decide
 obtain ⟨T,hT⟩ : ∃ T,T = addS m ⟨a1,b1,c1⟩ ⟨a2,b2,0⟩:=⟨_,rfl⟩
 rw [← hT]
 have HE:=Lib.hid (show T = ⟨a1,b1,c1⟩ from by rw [hT]; unfold addS; rw [if_neg hz1]; exact if_pos rfl)
 clear hT
 go_enter Tryz.func138,Tryz.ntmps138
 go_upto_region 1 with (fail)
 refine at_world (fun W=>Row W w.heap.size 243 (fC g) ∧ Row W (w.heap.size + 1) 247 (t3C a1 b1 c1) ∧ Row W (w.heap.size + 1 + 1) 247 (t3C a2 b2 0) ∧ Row W (w.heap.size + 1 + 1 + 1) 247 (t3C 0 0 0) ∧ Below w.heap.size w W) (⟨((((Row.newAt _ _ _ _ rfl).alloc _).alloc _).alloc _),(((Row.newAt _ _ _ _ (by simp)).alloc _).alloc _),((Row.newAt _ _ _ _ (by simp)).alloc _),(by rw [t3C_zero]; exact (Row.newAt _ _ _ _ (by simp))),(((((Below.refl _ w).alloc (Nat.le_refl _) _).alloc (by simp) _).alloc (by simp; omega) _).alloc (by simp; omega) _)⟩) ?_
 rintro W1 ⟨i1_3,i1_4,i1_5,i1_6,hB1⟩
 have lt_6:=i1_6.lt
 go_wp2_with fail
 exact ret_row (by first | exact .inl rfl | exact .inr rfl) rfl ((w.heap.size + 1 + 1 + 1)) 247 (t3C a1 b1 c1) 12 _ rfl (i1_6.setRow _) Tryz.underlying247 rfl (by kernel_rfl) rfl ⟨by rw [HE.out],(bSetRow hB1 (by omega) _)⟩
set_option maxRecDepth 100000 in
set_option maxHeartbeats 4000000 in
theorem add3_some {w:World} {g m neg ri a1 b1 c1 a2 b2 c2:Nat} (hM:ModW w g m neg ri) (ha1:a1 < R256) (hb1:b1 < R256) (hc1:c1 < R256) (ha2:a2 < R256) (hb2:b2 < R256) (hc2:c2 < R256) (hz1:¬ c1 = 0) (hz2:¬ c2 = 0) : Calls Tryz.prog 138 #[.agg (fC g),.agg (t3C a1 b1 c1),.agg (t3C a2 b2 c2)] w fun e w'=>e = .returned (.agg (t3C (addS m ⟨a1,b1,c1⟩ ⟨a2,b2,c2⟩).x (addS m ⟨a1,b1,c1⟩ ⟨a2,b2,c2⟩).y (addS m ⟨a1,b1,c1⟩ ⟨a2,b2,c2⟩).z)) ∧ Below w.heap.size w w':=by
 have HM:=Lib.hid (show ∀ W,Below w.heap.size w W → ModW W g m neg ri from fun W hb=>hM.below hb)
 have HP:=Lib.hid hM.md.pos
 have HL:=Lib.hid hM.md.low
 clear hM
 have b_a1:=ha1
 have b_b1:=hb1
 have b_c1:=hc1
 have b_a2:=ha2
 have b_b2:=hb2
 have b_c2:=hc2
 clear ha1 hb1 hc1 ha2 hb2 hc2
 have b_0 : 0 < R256:=by decide
 obtain ⟨T,hT⟩ : ∃ T,T = addS m ⟨a1,b1,c1⟩ ⟨a2,b2,c2⟩:=⟨_,rfl⟩
 rw [← hT]
 have HX:=Lib.hid hT
 clear hT
 have HZ:=Lib.hid (⟨hz1,hz2⟩ : _ ∧ _)
 go_enter Tryz.func138,Tryz.ntmps138
 go_upto_region 1 with (fail)
 refine at_world (fun W=>Row W w.heap.size 243 (fC g) ∧ Row W (w.heap.size + 1) 247 (t3C a1 b1 c1) ∧ Row W (w.heap.size + 1 + 1) 247 (t3C a2 b2 c2) ∧ Row W (w.heap.size + 1 + 1 + 1) 247 (t3C 0 0 0) ∧ Below w.heap.size w W) (⟨((((Row.newAt _ _ _ _ rfl).alloc _).alloc _).alloc _),(((Row.newAt _ _ _ _ (by simp)).alloc _).alloc _),((Row.newAt _ _ _ _ (by simp)).alloc _),(by rw [t3C_zero]; exact (Row.newAt _ _ _ _ (by simp))),(((((Below.refl _ w).alloc (Nat.le_refl _) _).alloc (by simp) _).alloc (by simp; omega) _).alloc (by simp; omega) _)⟩) ?_
 rintro W1 ⟨i1_3,i1_4,i1_5,i1_6,hB1⟩
 go_upto_region 5 with (fail)
 refine at_world (fun W=>Row W w.heap.size 243 (fC g) ∧ Row W (w.heap.size + 1) 247 (t3C a1 b1 c1) ∧ Row W (w.heap.size + 1 + 1) 247 (t3C a2 b2 c2) ∧ Row W (w.heap.size + 1 + 1 + 1) 247 (t3C 0 0 0) ∧ Below w.heap.size w W) (⟨i1_3,i1_4,i1_5,i1_6,hB1⟩) ?_
 clear i1_3 i1_4 i1_5 i1_6 hB1
 rintro W2 ⟨i2_3,i2_4,i2_5,i2_6,hB2⟩
 replace i2_3:=i2_3.drew
 replace i2_4:=i2_4.drew
 replace i2_5:=i2_5.drew
 replace i2_6:=i2_6.drew
 replace hB2:=hB2.drew
 obtain ⟨x37,h37⟩ : ∃ q_,q_ = mulM m c1 c1:=⟨_,rfl⟩
 have b_x37 : x37 < R256:=by rw [h37]; exact Nat.lt_trans (mulM_lt HP.out) HL.out
 have H37:=Lib.hid h37
 clear h37
 obtain ⟨x44,h44⟩ : ∃ q_,q_ = mulM m c2 c2:=⟨_,rfl⟩
 have b_x44 : x44 < R256:=by rw [h44]; exact Nat.lt_trans (mulM_lt HP.out) HL.out
 have H44:=Lib.hid h44
 clear h44
 refine wp_region_allocs 16 [0,1,2,3,4,5,6,7,8,9,10,11,12,13] [14,15] (fun _=>.cells (AQ (nL 0)) 177) (by kernel_rfl) (by kernel_rfl) (by kernel_rfl) (by kernel_rfl) ?hal ?h
 case hal =>
  intro k hk o ho
  simp only [List.mem_cons,List.not_mem_nil,or_false] at hk
  rcases hk with rfl | rfl
  ·cases ho; exact alF_of _ (fun _ _=>by kernel_rfl)
  ·cases ho; exact alF_of _ (fun _ _=>by kernel_rfl)
 case h =>
 apply Exists.intro
 refine ⟨fun R=>?_,?_⟩
 ·simp only [List.map_cons,List.map_nil,List.getD_cons_zero,List.getD_cons_succ]
  (first | go_big_quiet_skip | (go_big_quiet_want; go_big_quiet_op; first | go_big_quiet_on | (refine ⟨_,fun _ _=>rfl,?_⟩; go_big_quiet_on)))
  (go_big_quiet_want; apply qn_load1 ot_mod rfl rfl i2_3 (fC_ptr g); (simp only [Act.put,lS]; go_big_quiet_on))
  (first | go_big_quiet_skip | (go_big_quiet_want; go_big_quiet_op; first | go_big_quiet_on | (refine ⟨_,fun _ _=>rfl,?_⟩; go_big_quiet_on)))
  (go_big_quiet_want; apply qn_load at_num rfl rfl i2_4 (hp_tz a1 b1 c1); (simp only [Act.put,lS]; go_big_quiet_on))
  (first | go_big_quiet_skip | (go_big_quiet_want; go_big_quiet_op; first | go_big_quiet_on | (refine ⟨_,fun _ _=>rfl,?_⟩; go_big_quiet_on)))
  (go_big_quiet_want; apply qn_load at_num rfl rfl i2_4 (hp_tz a1 b1 c1); (simp only [Act.put,lS]; go_big_quiet_on))
  (go_big_quiet_want; refine qa_call _ _ ?_ _ (fun w' hb=>mul_x (HM.out _ (hB2.trans (hb.mono hB2.size))) b_c1 b_c1 H37.out) ?_; (focus (intro w; simp [go_sem]; done)); (simp only [Act.put,lS]; go_big_quiet_on))
  (first | go_big_quiet_skip | (go_big_quiet_want; go_big_quiet_op; first | go_big_quiet_on | (refine ⟨_,fun _ _=>rfl,?_⟩; go_big_quiet_on)))
  (go_big_quiet_want; apply qn_load1 ot_mod rfl rfl i2_3 (fC_ptr g); (simp only [Act.put,lS]; go_big_quiet_on))
  (first | go_big_quiet_skip | (go_big_quiet_want; go_big_quiet_op; first | go_big_quiet_on | (refine ⟨_,fun _ _=>rfl,?_⟩; go_big_quiet_on)))
  (go_big_quiet_want; apply qn_load at_num rfl rfl i2_5 (hp_tz a2 b2 c2); (simp only [Act.put,lS]; go_big_quiet_on))
  (first | go_big_quiet_skip | (go_big_quiet_want; go_big_quiet_op; first | go_big_quiet_on | (refine ⟨_,fun _ _=>rfl,?_⟩; go_big_quiet_on)))
  (go_big_quiet_want; apply qn_load at_num rfl rfl i2_5 (hp_tz a2 b2 c2); (simp only [Act.put,lS]; go_big_quiet_on))
  (go_big_quiet_want; refine qa_call _ _ ?_ _ (fun w' hb=>mul_x (HM.out _ (hB2.trans (hb.mono hB2.size))) b_c2 b_c2 H44.out) ?_; (focus (intro w; simp [go_sem]; done)); (simp only [Act.put,lS]; go_big_quiet_on))
  exact wpQuiet_nil rfl
 ·refine wpAl_consP rfl ?_
  intro g7 hg7 nng7
  refine wpAl_consP rfl ?_
  intro g8 hg8 nng8
  intro w2 hcc
  have ne_g8_g7 : g8 ≠ g7:=by rintro rfl; simp [upd] at nng8
  have ne_3_g7 : w.heap.size ≠ g7:=by have:=i2_3.lt; omega
  have ne_3_g8 : w.heap.size ≠ g8:=by have:=i2_3.lt; omega
  have ne_4_g7 : (w.heap.size + 1) ≠ g7:=by have:=i2_4.lt; omega
  have ne_4_g8 : (w.heap.size + 1) ≠ g8:=by have:=i2_4.lt; omega
  have ne_5_g7 : (w.heap.size + 1 + 1) ≠ g7:=by have:=i2_5.lt; omega
  have ne_5_g8 : (w.heap.size + 1 + 1) ≠ g8:=by have:=i2_5.lt; omega
  have ne_6_g7 : (w.heap.size + 1 + 1 + 1) ≠ g7:=by have:=i2_6.lt; omega
  have ne_6_g8 : (w.heap.size + 1 + 1 + 1) ≠ g8:=by have:=i2_6.lt; omega
  replace i2_3:=i2_3.below hcc.1 i2_3.lt
  replace i2_4:=i2_4.below hcc.1 i2_4.lt
  replace i2_5:=i2_5.below hcc.1 i2_5.lt
  replace i2_6:=i2_6.below hcc.1 i2_6.lt
  have j_7 : Row w2 g7 177 (AQ (nL 0)):=.of_heap (hcc.2 g7 _ (by simp [upd,ne_g8_g7.symm]))
  have j_8 : Row w2 g8 177 (AQ (nL 0)):=.of_heap (hcc.2 g8 _ (by simp [upd]))
  have hg_le : w.heap.size ≤ w2.heap.size:=Nat.le_trans hB2.size hcc.1.size
  have lb_g7 : w.heap.size ≤ g7:=Nat.le_trans hB2.size hg7
  have lb_g8 : w.heap.size ≤ g8:=Nat.le_trans hB2.size hg8
  replace hB2:=hB2.trans (hcc.1.mono hB2.size)
  clear hcc hg_le hg7 nng7 hg8 nng8
  have qn10 : g8 ≠ g7:=by omega
  have lt_7:=j_7.lt
  have lt_8:=j_8.lt
  go_upto_region 6 with (fail)
  refine at_world (fun W=>Row W w.heap.size 243 (fC g) ∧ Row W (w.heap.size + 1) 247 (t3C a1 b1 c1) ∧ Row W (w.heap.size + 1 + 1) 247 (t3C a2 b2 c2) ∧ Row W (w.heap.size + 1 + 1 + 1) 247 (t3C 0 0 0) ∧ Row W g7 177 (AQ (nL x37)) ∧ Row W g8 177 (AQ (nL x44)) ∧ Below w.heap.size w W) (⟨((i2_3.setRowOther _ _ (by omega)).setRowOther _ _ (by omega)),((i2_4.setRowOther _ _ (by omega)).setRowOther _ _ (by omega)),((i2_5.setRowOther _ _ (by omega)).setRowOther _ _ (by omega)),((i2_6.setRowOther _ _ (by omega)).setRowOther _ _ (by omega)),((j_7.setRow _).setRowOther _ _ (by omega)),((j_8.setRowOther _ _ (by omega)).setRow _),(bSetRow (bSetRow hB2 lb_g7 _) lb_g8 _)⟩) ?_
  clear i2_3 i2_4 i2_5 i2_6 j_7 j_8 qn10 lt_7 lt_8 hB2
  rintro W3 ⟨i3_3,i3_4,i3_5,i3_6,i3_7,i3_8,hB3⟩
  replace i3_3:=i3_3.drew
  replace i3_4:=i3_4.drew
  replace i3_5:=i3_5.drew
  replace i3_6:=i3_6.drew
  replace i3_7:=i3_7.drew
  replace i3_8:=i3_8.drew
  replace hB3:=hB3.drew
  obtain ⟨x50,h50⟩ : ∃ q_,q_ = mulM m a1 x44:=⟨_,rfl⟩
  have b_x50 : x50 < R256:=by rw [h50]; exact Nat.lt_trans (mulM_lt HP.out) HL.out
  have H50:=Lib.hid h50
  clear h50
  obtain ⟨x56,h56⟩ : ∃ q_,q_ = mulM m a2 x37:=⟨_,rfl⟩
  have b_x56 : x56 < R256:=by rw [h56]; exact Nat.lt_trans (mulM_lt HP.out) HL.out
  have H56:=Lib.hid h56
  clear h56
  refine wp_region_allocs 14 [0,1,2,3,4,5,6,7,8,9,10,11] [12,13] (fun _=>.cells (AQ (nL 0)) 177) (by kernel_rfl) (by kernel_rfl) (by kernel_rfl) (by kernel_rfl) ?hal ?h
  case hal =>
   intro k hk o ho
   simp only [List.mem_cons,List.not_mem_nil,or_false] at hk
   rcases hk with rfl | rfl
   ·cases ho; exact alF_of _ (fun _ _=>by kernel_rfl)
   ·cases ho; exact alF_of _ (fun _ _=>by kernel_rfl)
  case h =>
  apply Exists.intro
  refine ⟨fun R=>?_,?_⟩
  ·simp only [List.map_cons,List.map_nil,List.getD_cons_zero,List.getD_cons_succ]
   (first | go_big_quiet_skip | (go_big_quiet_want; go_big_quiet_op; first | go_big_quiet_on | (refine ⟨_,fun _ _=>rfl,?_⟩; go_big_quiet_on)))
   (go_big_quiet_want; apply qn_load1 ot_mod rfl rfl i3_3 (fC_ptr g); (simp only [Act.put,lS]; go_big_quiet_on))
   (first | go_big_quiet_skip | (go_big_quiet_want; go_big_quiet_op; first | go_big_quiet_on | (refine ⟨_,fun _ _=>rfl,?_⟩; go_big_quiet_on)))
   (go_big_quiet_want; apply qn_load at_num rfl rfl i3_4 (hp_tx a1 b1 c1); (simp only [Act.put,lS]; go_big_quiet_on))
   (go_big_quiet_want; apply qn_load at_num rfl rfl i3_8 (hp_num x44); (simp only [Act.put,lS]; go_big_quiet_on))
   (go_big_quiet_want; refine qa_call _ _ ?_ _ (fun w' hb=>mul_x (HM.out _ (hB3.trans (hb.mono hB3.size))) b_a1 b_x44 H50.out) ?_; (focus (intro w; simp [go_sem]; done)); (simp only [Act.put,lS]; go_big_quiet_on))
   (first | go_big_quiet_skip | (go_big_quiet_want; go_big_quiet_op; first | go_big_quiet_on | (refine ⟨_,fun _ _=>rfl,?_⟩; go_big_quiet_on)))
   (go_big_quiet_want; apply qn_load1 ot_mod rfl rfl i3_3 (fC_ptr g); (simp only [Act.put,lS]; go_big_quiet_on))
   (first | go_big_quiet_skip | (go_big_quiet_want; go_big_quiet_op; first | go_big_quiet_on | (refine ⟨_,fun _ _=>rfl,?_⟩; go_big_quiet_on)))
   (go_big_quiet_want; apply qn_load at_num rfl rfl i3_5 (hp_tx a2 b2 c2); (simp only [Act.put,lS]; go_big_quiet_on))
   (go_big_quiet_want; apply qn_load at_num rfl rfl i3_7 (hp_num x37); (simp only [Act.put,lS]; go_big_quiet_on))
   (go_big_quiet_want; refine qa_call _ _ ?_ _ (fun w' hb=>mul_x (HM.out _ (hB3.trans (hb.mono hB3.size))) b_a2 b_x37 H56.out) ?_; (focus (intro w; simp [go_sem]; done)); (simp only [Act.put,lS]; go_big_quiet_on))
   exact wpQuiet_nil rfl
  ·refine wpAl_consP rfl ?_
   intro g9 hg9 nng9
   refine wpAl_consP rfl ?_
   intro g10 hg10 nng10
   intro w2 hcc
   have ne_g10_g9 : g10 ≠ g9:=by rintro rfl; simp [upd] at nng10
   have ne_3_g9 : w.heap.size ≠ g9:=by have:=i3_3.lt; omega
   have ne_3_g10 : w.heap.size ≠ g10:=by have:=i3_3.lt; omega
   have ne_4_g9 : (w.heap.size + 1) ≠ g9:=by have:=i3_4.lt; omega
   have ne_4_g10 : (w.heap.size + 1) ≠ g10:=by have:=i3_4.lt; omega
   have ne_5_g9 : (w.heap.size + 1 + 1) ≠ g9:=by have:=i3_5.lt; omega
   have ne_5_g10 : (w.heap.size + 1 + 1) ≠ g10:=by have:=i3_5.lt; omega
   have ne_6_g9 : (w.heap.size + 1 + 1 + 1) ≠ g9:=by have:=i3_6.lt; omega
   have ne_6_g10 : (w.heap.size + 1 + 1 + 1) ≠ g10:=by have:=i3_6.lt; omega
   have ne_7_g9 : g7 ≠ g9:=by have:=i3_7.lt; omega
   have ne_7_g10 : g7 ≠ g10:=by have:=i3_7.lt; omega
   have ne_8_g9 : g8 ≠ g9:=by have:=i3_8.lt; omega
   have ne_8_g10 : g8 ≠ g10:=by have:=i3_8.lt; omega
   replace i3_3:=i3_3.below hcc.1 i3_3.lt
   replace i3_4:=i3_4.below hcc.1 i3_4.lt
   replace i3_5:=i3_5.below hcc.1 i3_5.lt
   replace i3_6:=i3_6.below hcc.1 i3_6.lt
   replace i3_7:=i3_7.below hcc.1 i3_7.lt
   replace i3_8:=i3_8.below hcc.1 i3_8.lt
   have j_9 : Row w2 g9 177 (AQ (nL 0)):=.of_heap (hcc.2 g9 _ (by simp [upd,ne_g10_g9.symm]))
   have j_10 : Row w2 g10 177 (AQ (nL 0)):=.of_heap (hcc.2 g10 _ (by simp [upd]))
   have hg_le : w.heap.size ≤ w2.heap.size:=Nat.le_trans hB3.size hcc.1.size
   have lb_g9 : w.heap.size ≤ g9:=Nat.le_trans hB3.size hg9
   have lb_g10 : w.heap.size ≤ g10:=Nat.le_trans hB3.size hg10
   replace hB3:=hB3.trans (hcc.1.mono hB3.size)
   clear hcc hg_le hg9 nng9 hg10 nng10
   have qn10 : g10 ≠ g9:=by omega
   have lt_9:=j_9.lt
   have lt_10:=j_10.lt
   go_upto_region 7 with (fail)
   refine at_world (fun W=>Row W w.heap.size 243 (fC g) ∧ Row W (w.heap.size + 1) 247 (t3C a1 b1 c1) ∧ Row W (w.heap.size + 1 + 1) 247 (t3C a2 b2 c2) ∧ Row W (w.heap.size + 1 + 1 + 1) 247 (t3C 0 0 0) ∧ Row W g7 177 (AQ (nL x37)) ∧ Row W g8 177 (AQ (nL x44)) ∧ Row W g9 177 (AQ (nL x50)) ∧ Row W g10 177 (AQ (nL x56)) ∧ Below w.heap.size w W) (⟨((i3_3.setRowOther _ _ (by omega)).setRowOther _ _ (by omega)),((i3_4.setRowOther _ _ (by omega)).setRowOther _ _ (by omega)),((i3_5.setRowOther _ _ (by omega)).setRowOther _ _ (by omega)),((i3_6.setRowOther _ _ (by omega)).setRowOther _ _ (by omega)),((i3_7.setRowOther _ _ (by omega)).setRowOther _ _ (by omega)),((i3_8.setRowOther _ _ (by omega)).setRowOther _ _ (by omega)),((j_9.setRow _).setRowOther _ _ (by omega)),((j_10.setRowOther _ _ (by omega)).setRow _),(bSetRow (bSetRow hB3 lb_g9 _) lb_g10 _)⟩) ?_
   clear i3_3 i3_4 i3_5 i3_6 i3_7 i3_8 j_9 j_10 qn10 lt_9 lt_10 hB3
   rintro W4 ⟨i4_3,i4_4,i4_5,i4_6,i4_7,i4_8,i4_9,i4_10,hB4⟩
   replace i4_3:=i4_3.drew
   replace i4_4:=i4_4.drew
   replace i4_5:=i4_5.drew
   replace i4_6:=i4_6.drew
   replace i4_7:=i4_7.drew
   replace i4_8:=i4_8.drew
   replace i4_9:=i4_9.drew
   replace i4_10:=i4_10.drew
   replace hB4:=hB4.drew
   obtain ⟨x66,h66⟩ : ∃ q_,q_ = mulM m c2 x44:=⟨_,rfl⟩
   have b_x66 : x66 < R256:=by rw [h66]; exact Nat.lt_trans (mulM_lt HP.out) HL.out
   have H66:=Lib.hid h66
   clear h66
   obtain ⟨x67,h67⟩ : ∃ q_,q_ = mulM m b1 x66:=⟨_,rfl⟩
   have b_x67 : x67 < R256:=by rw [h67]; exact Nat.lt_trans (mulM_lt HP.out) HL.out
   have H67:=Lib.hid h67
   clear h67
   obtain ⟨x77,h77⟩ : ∃ q_,q_ = mulM m c1 x37:=⟨_,rfl⟩
   have b_x77 : x77 < R256:=by rw [h77]; exact Nat.lt_trans (mulM_lt HP.out) HL.out
   have H77:=Lib.hid h77
   clear h77
   obtain ⟨x78,h78⟩ : ∃ q_,q_ = mulM m b2 x77:=⟨_,rfl⟩
   have b_x78 : x78 < R256:=by rw [h78]; exact Nat.lt_trans (mulM_lt HP.out) HL.out
   have H78:=Lib.hid h78
   clear h78
   refine wp_region_allocs 24 [0,1,2,3,4,5,6,7,8,9,10,11,12,13,14,15,16,17,18,19,20,21] [22,23] (fun _=>.cells (AQ (nL 0)) 177) (by kernel_rfl) (by kernel_rfl) (by kernel_rfl) (by kernel_rfl) ?hal ?h
   case hal =>
    intro k hk o ho
    simp only [List.mem_cons,List.not_mem_nil,or_false] at hk
    rcases hk with rfl | rfl
    ·cases ho; exact alF_of _ (fun _ _=>by kernel_rfl)
    ·cases ho; exact alF_of _ (fun _ _=>by kernel_rfl)
   case h =>
   apply Exists.intro
   refine ⟨fun R=>?_,?_⟩
   ·simp only [List.map_cons,List.map_nil,List.getD_cons_zero,List.getD_cons_succ]
    (first | go_big_quiet_skip | (go_big_quiet_want; go_big_quiet_op; first | go_big_quiet_on | (refine ⟨_,fun _ _=>rfl,?_⟩; go_big_quiet_on)))
    (go_big_quiet_want; apply qn_load1 ot_mod rfl rfl i4_3 (fC_ptr g); (simp only [Act.put,lS]; go_big_quiet_on))
    (first | go_big_quiet_skip | (go_big_quiet_want; go_big_quiet_op; first | go_big_quiet_on | (refine ⟨_,fun _ _=>rfl,?_⟩; go_big_quiet_on)))
    (go_big_quiet_want; apply qn_load at_num rfl rfl i4_4 (hp_ty a1 b1 c1); (simp only [Act.put,lS]; go_big_quiet_on))
    (first | go_big_quiet_skip | (go_big_quiet_want; go_big_quiet_op; first | go_big_quiet_on | (refine ⟨_,fun _ _=>rfl,?_⟩; go_big_quiet_on)))
    (go_big_quiet_want; apply qn_load1 ot_mod rfl rfl i4_3 (fC_ptr g); (simp only [Act.put,lS]; go_big_quiet_on))
    (first | go_big_quiet_skip | (go_big_quiet_want; go_big_quiet_op; first | go_big_quiet_on | (refine ⟨_,fun _ _=>rfl,?_⟩; go_big_quiet_on)))
    (go_big_quiet_want; apply qn_load at_num rfl rfl i4_5 (hp_tz a2 b2 c2); (simp only [Act.put,lS]; go_big_quiet_on))
    (go_big_quiet_want; apply qn_load at_num rfl rfl i4_8 (hp_num x44); (simp only [Act.put,lS]; go_big_quiet_on))
    (go_big_quiet_want; refine qa_call _ _ ?_ _ (fun w' hb=>mul_x (HM.out _ (hB4.trans (hb.mono hB4.size))) b_c2 b_x44 H66.out) ?_; (focus (intro w; simp [go_sem]; done)); (simp only [Act.put,lS]; go_big_quiet_on))
    (go_big_quiet_want; refine qa_call _ _ ?_ _ (fun w' hb=>mul_x (HM.out _ (hB4.trans (hb.mono hB4.size))) b_b1 b_x66 H67.out) ?_; (focus (intro w; simp [go_sem]; done)); (simp only [Act.put,lS]; go_big_quiet_on))
    (first | go_big_quiet_skip | (go_big_quiet_want; go_big_quiet_op; first | go_big_quiet_on | (refine ⟨_,fun _ _=>rfl,?_⟩; go_big_quiet_on)))
    (go_big_quiet_want; apply qn_load1 ot_mod rfl rfl i4_3 (fC_ptr g); (simp only [Act.put,lS]; go_big_quiet_on))
    (first | go_big_quiet_skip | (go_big_quiet_want; go_big_quiet_op; first | go_big_quiet_on | (refine ⟨_,fun _ _=>rfl,?_⟩; go_big_quiet_on)))
    (go_big_quiet_want; apply qn_load at_num rfl rfl i4_5 (hp_ty a2 b2 c2); (simp only [Act.put,lS]; go_big_quiet_on))
    (first | go_big_quiet_skip | (go_big_quiet_want; go_big_quiet_op; first | go_big_quiet_on | (refine ⟨_,fun _ _=>rfl,?_⟩; go_big_quiet_on)))
    (go_big_quiet_want; apply qn_load1 ot_mod rfl rfl i4_3 (fC_ptr g); (simp only [Act.put,lS]; go_big_quiet_on))
    (first | go_big_quiet_skip | (go_big_quiet_want; go_big_quiet_op; first | go_big_quiet_on | (refine ⟨_,fun _ _=>rfl,?_⟩; go_big_quiet_on)))
    (go_big_quiet_want; apply qn_load at_num rfl rfl i4_4 (hp_tz a1 b1 c1); (simp only [Act.put,lS]; go_big_quiet_on))
    (go_big_quiet_want; apply qn_load at_num rfl rfl i4_7 (hp_num x37); (simp only [Act.put,lS]; go_big_quiet_on))
    (go_big_quiet_want; refine qa_call _ _ ?_ _ (fun w' hb=>mul_x (HM.out _ (hB4.trans (hb.mono hB4.size))) b_c1 b_x37 H77.out) ?_; (focus (intro w; simp [go_sem]; done)); (simp only [Act.put,lS]; go_big_quiet_on))
    (go_big_quiet_want; refine qa_call _ _ ?_ _ (fun w' hb=>mul_x (HM.out _ (hB4.trans (hb.mono hB4.size))) b_b2 b_x77 H78.out) ?_; (focus (intro w; simp [go_sem]; done)); (simp only [Act.put,lS]; go_big_quiet_on))
    exact wpQuiet_nil rfl
   ·refine wpAl_consP rfl ?_
    intro g11 hg11 nng11
    refine wpAl_consP rfl ?_
    intro g12 hg12 nng12
    intro w2 hcc
    have ne_g12_g11 : g12 ≠ g11:=by rintro rfl; simp [upd] at nng12
    have ne_3_g11 : w.heap.size ≠ g11:=by have:=i4_3.lt; omega
    have ne_3_g12 : w.heap.size ≠ g12:=by have:=i4_3.lt; omega
    have ne_4_g11 : (w.heap.size + 1) ≠ g11:=by have:=i4_4.lt; omega
    have ne_4_g12 : (w.heap.size + 1) ≠ g12:=by have:=i4_4.lt; omega
    have ne_5_g11 : (w.heap.size + 1 + 1) ≠ g11:=by have:=i4_5.lt; omega
    have ne_5_g12 : (w.heap.size + 1 + 1) ≠ g12:=by have:=i4_5.lt; omega
    have ne_6_g11 : (w.heap.size + 1 + 1 + 1) ≠ g11:=by have:=i4_6.lt; omega
    have ne_6_g12 : (w.heap.size + 1 + 1 + 1) ≠ g12:=by have:=i4_6.lt; omega
    have ne_7_g11 : g7 ≠ g11:=by have:=i4_7.lt; omega
    have ne_7_g12 : g7 ≠ g12:=by have:=i4_7.lt; omega
    have ne_8_g11 : g8 ≠ g11:=by have:=i4_8.lt; omega
    have ne_8_g12 : g8 ≠ g12:=by have:=i4_8.lt; omega
    have ne_9_g11 : g9 ≠ g11:=by have:=i4_9.lt; omega
    have ne_9_g12 : g9 ≠ g12:=by have:=i4_9.lt; omega
    have ne_10_g11 : g10 ≠ g11:=by have:=i4_10.lt; omega
    have ne_10_g12 : g10 ≠ g12:=by have:=i4_10.lt; omega
    replace i4_3:=i4_3.below hcc.1 i4_3.lt
    replace i4_4:=i4_4.below hcc.1 i4_4.lt
    replace i4_5:=i4_5.below hcc.1 i4_5.lt
    replace i4_6:=i4_6.below hcc.1 i4_6.lt
    replace i4_7:=i4_7.below hcc.1 i4_7.lt
    replace i4_8:=i4_8.below hcc.1 i4_8.lt
    replace i4_9:=i4_9.below hcc.1 i4_9.lt
    replace i4_10:=i4_10.below hcc.1 i4_10.lt
    have j_11 : Row w2 g11 177 (AQ (nL 0)):=.of_heap (hcc.2 g11 _ (by simp [upd,ne_g12_g11.symm]))
    have j_12 : Row w2 g12 177 (AQ (nL 0)):=.of_heap (hcc.2 g12 _ (by simp [upd]))
    have hg_le : w.heap.size ≤ w2.heap.size:=Nat.le_trans hB4.size hcc.1.size
    have lb_g11 : w.heap.size ≤ g11:=Nat.le_trans hB4.size hg11
    have lb_g12 : w.heap.size ≤ g12:=Nat.le_trans hB4.size hg12
    replace hB4:=hB4.trans (hcc.1.mono hB4.size)
    clear hcc hg_le hg11 nng11 hg12 nng12
    have qn10 : g12 ≠ g11:=by omega
    have lt_11:=j_11.lt
    have lt_12:=j_12.lt
    go_upto_region 8 with (fail)
    refine at_world (fun W=>Row W w.heap.size 243 (fC g) ∧ Row W (w.heap.size + 1) 247 (t3C a1 b1 c1) ∧ Row W (w.heap.size + 1 + 1) 247 (t3C a2 b2 c2) ∧ Row W (w.heap.size + 1 + 1 + 1) 247 (t3C 0 0 0) ∧ Row W g9 177 (AQ (nL x50)) ∧ Row W g10 177 (AQ (nL x56)) ∧ Row W g11 177 (AQ (nL x67)) ∧ Row W g12 177 (AQ (nL x78)) ∧ Below w.heap.size w W) (⟨((i4_3.setRowOther _ _ (by omega)).setRowOther _ _ (by omega)),((i4_4.setRowOther _ _ (by omega)).setRowOther _ _ (by omega)),((i4_5.setRowOther _ _ (by omega)).setRowOther _ _ (by omega)),((i4_6.setRowOther _ _ (by omega)).setRowOther _ _ (by omega)),((i4_9.setRowOther _ _ (by omega)).setRowOther _ _ (by omega)),((i4_10.setRowOther _ _ (by omega)).setRowOther _ _ (by omega)),((j_11.setRow _).setRowOther _ _ (by omega)),((j_12.setRowOther _ _ (by omega)).setRow _),(bSetRow (bSetRow hB4 lb_g11 _) lb_g12 _)⟩) ?_
    clear i4_3 i4_4 i4_5 i4_6 i4_9 i4_10 j_11 j_12 qn10 lt_11 lt_12 i4_7 i4_8 hB4
    rintro W5 ⟨i5_3,i5_4,i5_5,i5_6,i5_9,i5_10,i5_11,i5_12,hB5⟩
    replace i5_3:=i5_3.drew
    replace i5_4:=i5_4.drew
    replace i5_5:=i5_5.drew
    replace i5_6:=i5_6.drew
    replace i5_9:=i5_9.drew
    replace i5_10:=i5_10.drew
    replace i5_11:=i5_11.drew
    replace i5_12:=i5_12.drew
    replace hB5:=hB5.drew
    obtain ⟨x83,h83⟩ : ∃ q_,q_ = subM m x56 x50:=⟨_,rfl⟩
    have b_x83 : x83 < R256:=by rw [h83]; exact Nat.lt_trans (subM_lt HP.out) HL.out
    have H83:=Lib.hid h83
    clear h83
    obtain ⟨x88,h88⟩ : ∃ q_,q_ = subM m x78 x67:=⟨_,rfl⟩
    have b_x88 : x88 < R256:=by rw [h88]; exact Nat.lt_trans (subM_lt HP.out) HL.out
    have H88:=Lib.hid h88
    clear h88
    refine wp_region_allocs 12 [0,1,2,3,4,5,6,7,8,9] [10,11] (fun _=>.cells (AQ (nL 0)) 177) (by kernel_rfl) (by kernel_rfl) (by kernel_rfl) (by kernel_rfl) ?hal ?h
    case hal =>
     intro k hk o ho
     simp only [List.mem_cons,List.not_mem_nil,or_false] at hk
     rcases hk with rfl | rfl
     ·cases ho; exact alF_of _ (fun _ _=>by kernel_rfl)
     ·cases ho; exact alF_of _ (fun _ _=>by kernel_rfl)
    case h =>
    apply Exists.intro
    refine ⟨fun R=>?_,?_⟩
    ·simp only [List.map_cons,List.map_nil,List.getD_cons_zero,List.getD_cons_succ]
     (first | go_big_quiet_skip | (go_big_quiet_want; go_big_quiet_op; first | go_big_quiet_on | (refine ⟨_,fun _ _=>rfl,?_⟩; go_big_quiet_on)))
     (go_big_quiet_want; apply qn_load1 ot_mod rfl rfl i5_3 (fC_ptr g); (simp only [Act.put,lS]; go_big_quiet_on))
     (go_big_quiet_want; apply qn_load at_num rfl rfl i5_10 (hp_num x56); (simp only [Act.put,lS]; go_big_quiet_on))
     (go_big_quiet_want; apply qn_load at_num rfl rfl i5_9 (hp_num x50); (simp only [Act.put,lS]; go_big_quiet_on))
     (go_big_quiet_want; refine qa_call _ _ ?_ _ (fun w' hb=>sub_x (HM.out _ (hB5.trans (hb.mono hB5.size))) b_x56 b_x50 H83.out) ?_; (focus (intro w; simp [go_sem]; done)); (simp only [Act.put,lS]; go_big_quiet_on))
     (first | go_big_quiet_skip | (go_big_quiet_want; go_big_quiet_op; first | go_big_quiet_on | (refine ⟨_,fun _ _=>rfl,?_⟩; go_big_quiet_on)))
     (go_big_quiet_want; apply qn_load1 ot_mod rfl rfl i5_3 (fC_ptr g); (simp only [Act.put,lS]; go_big_quiet_on))
     (go_big_quiet_want; apply qn_load at_num rfl rfl i5_12 (hp_num x78); (simp only [Act.put,lS]; go_big_quiet_on))
     (go_big_quiet_want; apply qn_load at_num rfl rfl i5_11 (hp_num x67); (simp only [Act.put,lS]; go_big_quiet_on))
     (go_big_quiet_want; refine qa_call _ _ ?_ _ (fun w' hb=>sub_x (HM.out _ (hB5.trans (hb.mono hB5.size))) b_x78 b_x67 H88.out) ?_; (focus (intro w; simp [go_sem]; done)); (simp only [Act.put,lS]; go_big_quiet_on))
     exact wpQuiet_nil rfl
    ·refine wpAl_consP rfl ?_
     intro g13 hg13 nng13
     refine wpAl_consP rfl ?_
     intro g14 hg14 nng14
     intro w2 hcc
     have ne_g14_g13 : g14 ≠ g13:=by rintro rfl; simp [upd] at nng14
     have ne_3_g13 : w.heap.size ≠ g13:=by have:=i5_3.lt; omega
     have ne_3_g14 : w.heap.size ≠ g14:=by have:=i5_3.lt; omega
     have ne_4_g13 : (w.heap.size + 1) ≠ g13:=by have:=i5_4.lt; omega
     have ne_4_g14 : (w.heap.size + 1) ≠ g14:=by have:=i5_4.lt; omega
     have ne_5_g13 : (w.heap.size + 1 + 1) ≠ g13:=by have:=i5_5.lt; omega
     have ne_5_g14 : (w.heap.size + 1 + 1) ≠ g14:=by have:=i5_5.lt; omega
     have ne_6_g13 : (w.heap.size + 1 + 1 + 1) ≠ g13:=by have:=i5_6.lt; omega
     have ne_6_g14 : (w.heap.size + 1 + 1 + 1) ≠ g14:=by have:=i5_6.lt; omega
     have ne_9_g13 : g9 ≠ g13:=by have:=i5_9.lt; omega
     have ne_9_g14 : g9 ≠ g14:=by have:=i5_9.lt; omega
     have ne_10_g13 : g10 ≠ g13:=by have:=i5_10.lt; omega
     have ne_10_g14 : g10 ≠ g14:=by have:=i5_10.lt; omega
     have ne_11_g13 : g11 ≠ g13:=by have:=i5_11.lt; omega
     have ne_11_g14 : g11 ≠ g14:=by have:=i5_11.lt; omega
     have ne_12_g13 : g12 ≠ g13:=by have:=i5_12.lt; omega
     have ne_12_g14 : g12 ≠ g14:=by have:=i5_12.lt; omega
     replace i5_3:=i5_3.below hcc.1 i5_3.lt
     replace i5_4:=i5_4.below hcc.1 i5_4.lt
     replace i5_5:=i5_5.below hcc.1 i5_5.lt
     replace i5_6:=i5_6.below hcc.1 i5_6.lt
     replace i5_9:=i5_9.below hcc.1 i5_9.lt
     replace i5_10:=i5_10.below hcc.1 i5_10.lt
     replace i5_11:=i5_11.below hcc.1 i5_11.lt
     replace i5_12:=i5_12.below hcc.1 i5_12.lt
     have j_13 : Row w2 g13 177 (AQ (nL 0)):=.of_heap (hcc.2 g13 _ (by simp [upd,ne_g14_g13.symm]))
     have j_14 : Row w2 g14 177 (AQ (nL 0)):=.of_heap (hcc.2 g14 _ (by simp [upd]))
     have hg_le : w.heap.size ≤ w2.heap.size:=Nat.le_trans hB5.size hcc.1.size
     have lb_g13 : w.heap.size ≤ g13:=Nat.le_trans hB5.size hg13
     have lb_g14 : w.heap.size ≤ g14:=Nat.le_trans hB5.size hg14
     replace hB5:=hB5.trans (hcc.1.mono hB5.size)
     clear hcc hg_le hg13 nng13 hg14 nng14
     have qn10 : g14 ≠ g13:=by omega
     have lt_13:=j_13.lt
     have lt_14:=j_14.lt
     go_upto_region 9 with (fail)
     refine at_world (fun W=>Row W w.heap.size 243 (fC g) ∧ Row W (w.heap.size + 1) 247 (t3C a1 b1 c1) ∧ Row W (w.heap.size + 1 + 1) 247 (t3C a2 b2 c2) ∧ Row W (w.heap.size + 1 + 1 + 1) 247 (t3C 0 0 0) ∧ Row W g9 177 (AQ (nL x50)) ∧ Row W g11 177 (AQ (nL x67)) ∧ Row W g13 177 (AQ (nL x83)) ∧ Row W g14 177 (AQ (nL x88)) ∧ Below w.heap.size w W) (⟨((i5_3.setRowOther _ _ (by omega)).setRowOther _ _ (by omega)),((i5_4.setRowOther _ _ (by omega)).setRowOther _ _ (by omega)),((i5_5.setRowOther _ _ (by omega)).setRowOther _ _ (by omega)),((i5_6.setRowOther _ _ (by omega)).setRowOther _ _ (by omega)),((i5_9.setRowOther _ _ (by omega)).setRowOther _ _ (by omega)),((i5_11.setRowOther _ _ (by omega)).setRowOther _ _ (by omega)),((j_13.setRow _).setRowOther _ _ (by omega)),((j_14.setRowOther _ _ (by omega)).setRow _),(bSetRow (bSetRow hB5 lb_g13 _) lb_g14 _)⟩) ?_
     clear i5_3 i5_4 i5_5 i5_6 i5_9 i5_11 j_13 j_14 qn10 lt_13 lt_14 i5_10 i5_12 hB5
     rintro W6 ⟨i6_3,i6_4,i6_5,i6_6,i6_9,i6_11,i6_13,i6_14,hB6⟩
     clear hz1 hz2
     by_cases hh : x83 = 0
     ·have hd : decide (x83 = 0) = true:=decide_eq_true hh
      have HH:=Lib.hid hh
      clear hh
      by_cases hr : x88 = 0
      ·have hd2 : decide (x88 = 0) = true:=decide_eq_true hr
       have HR:=Lib.hid hr
       clear hr
       go_upto_region 11 with (fail)
       refine at_world (fun W=>Row W w.heap.size 243 (fC g) ∧ Row W (w.heap.size + 1) 247 (t3C a1 b1 c1) ∧ Row W (w.heap.size + 1 + 1) 247 (t3C a2 b2 c2) ∧ Row W (w.heap.size + 1 + 1 + 1) 247 (t3C 0 0 0) ∧ Row W g9 177 (AQ (nL x50)) ∧ Row W g11 177 (AQ (nL x67)) ∧ Row W g13 177 (AQ (nL x83)) ∧ Row W g14 177 (AQ (nL x88)) ∧ Below w.heap.size w W) (⟨i6_3,i6_4,i6_5,i6_6,i6_9,i6_11,i6_13,i6_14,hB6⟩) ?_
       clear i6_3 i6_4 i6_5 i6_6 i6_9 i6_11 i6_13 i6_14 hB6
       rintro W7 ⟨i7_3,i7_4,i7_5,i7_6,i7_9,i7_11,i7_13,i7_14,hB7⟩
       obtain ⟨T97,h97⟩ : ∃ q_,q_ = dblS m ⟨a1,b1,c1⟩:=⟨_,rfl⟩
       have b_T97 : T97.x < R256 ∧ T97.y < R256 ∧ T97.z < R256:=by rw [h97]; exact dblS_lt HP.out HL.out
       have H97:=Lib.hid h97
       clear h97
       refine wp_region_lex 3 ?_
       simp only [List.take_succ_cons,List.take_zero,List.drop_succ_cons,List.drop_zero]
       (go_big_quiet_want; apply qn_load at_f rfl rfl i7_3 (hp_f g); (simp only [Act.put,lS]; go_big_quiet_on))
       (go_big_quiet_want; apply qn_load at_t3 rfl rfl i7_4 (hp_t a1 b1 c1); (simp only [Act.put,lS]; go_big_quiet_on))
       (go_big_quiet_want; refine qa_call _ _ ?_ _ (fun w' hb=>dbl_x (HM.out _ (hB7.trans (hb.mono hB7.size))) b_a1 b_b1 b_c1 H97.out) ?_; (focus (intro w; simp [go_sem]; done)); (simp only [Act.put,lS]; go_big_quiet_on))
       refine wpQuiet_nil ?_
       intro w2 hcc
       replace i7_3:=i7_3.below hcc.1 i7_3.lt
       replace i7_4:=i7_4.below hcc.1 i7_4.lt
       replace i7_5:=i7_5.below hcc.1 i7_5.lt
       replace i7_6:=i7_6.below hcc.1 i7_6.lt
       replace i7_9:=i7_9.below hcc.1 i7_9.lt
       replace i7_11:=i7_11.below hcc.1 i7_11.lt
       replace i7_13:=i7_13.below hcc.1 i7_13.lt
       replace i7_14:=i7_14.below hcc.1 i7_14.lt
       have hg_le : w.heap.size ≤ w2.heap.size:=Nat.le_trans hB7.size hcc.1.size
       replace hB7:=hB7.trans (hcc.1.mono hB7.size)
       clear hcc hg_le
       have lt_6:=i7_6.lt
       go_wp2_with fail
       exact ret_row (by first | exact .inl rfl | exact .inr rfl) rfl ((w.heap.size + 1 + 1 + 1)) 247 (t3C T97.x T97.y T97.z) 12 _ rfl (i7_6.setRow _) Tryz.underlying247 rfl (by kernel_rfl) rfl ⟨by rw [HX.out,H97.out]; unfold addS; rw [if_neg HZ.out.1,if_neg HZ.out.2]; have e1:=HH.out; have e2:=HR.out; simp only [H37.out,H44.out,H50.out,H56.out,H66.out,H67.out,H77.out,H78.out,H83.out,H88.out] at e1 e2; simp only []; rw [if_pos e1,if_pos e2],(bSetRow hB7 (by omega) _)⟩
      ·have hd2 : decide (x88 = 0) = false:=decide_eq_false hr
       have HR:=Lib.hid hr
       clear hr
       have lt_6:=i6_6.lt
       go_wp2_with fail
       exact ret_row (by first | exact .inl rfl | exact .inr rfl) rfl ((w.heap.size + 1 + 1 + 1)) 247 (t3C 0 0 0) 12 _ rfl (i6_6.setRow _) Tryz.underlying247 rfl (by kernel_rfl) rfl ⟨by rw [HX.out]; unfold addS; rw [if_neg HZ.out.1,if_neg HZ.out.2]; have e1:=HH.out; have e2:=HR.out; simp only [H37.out,H44.out,H50.out,H56.out,H66.out,H67.out,H77.out,H78.out,H83.out,H88.out] at e1 e2; simp only []; rw [if_pos e1,if_neg e2]; rfl,(bSetRow hB6 (by omega) _)⟩
     ·have hd : decide (x83 = 0) = false:=decide_eq_false hh
      have HH:=Lib.hid hh
      clear hh
      go_upto_region 13 with (fail)
      refine at_world (fun W=>Row W w.heap.size 243 (fC g) ∧ Row W (w.heap.size + 1) 247 (t3C a1 b1 c1) ∧ Row W (w.heap.size + 1 + 1) 247 (t3C a2 b2 c2) ∧ Row W (w.heap.size + 1 + 1 + 1) 247 (t3C 0 0 0) ∧ Row W g9 177 (AQ (nL x50)) ∧ Row W g11 177 (AQ (nL x67)) ∧ Row W g13 177 (AQ (nL x83)) ∧ Row W g14 177 (AQ (nL x88)) ∧ Below w.heap.size w W) (⟨i6_3,i6_4,i6_5,i6_6,i6_9,i6_11,i6_13,i6_14,hB6⟩) ?_
      clear i6_3 i6_4 i6_5 i6_6 i6_9 i6_11 i6_13 i6_14 hB6
      rintro W7 ⟨i7_3,i7_4,i7_5,i7_6,i7_9,i7_11,i7_13,i7_14,hB7⟩
      obtain ⟨x103,h103⟩ : ∃ q_,q_ = mulM m x83 x83:=⟨_,rfl⟩
      have b_x103 : x103 < R256:=by rw [h103]; exact Nat.lt_trans (mulM_lt HP.out) HL.out
      have H103:=Lib.hid h103
      clear h103
      refine wp_region_num 6 [0,1,2,3,4] [5] (fun _=>.cells (AQ (nL 0)) 177) (by kernel_rfl) (by kernel_rfl) (by kernel_rfl) (by kernel_rfl) ?hal ?h
      case hal =>
       intro k hk o ho
       simp only [List.mem_cons,List.not_mem_nil,or_false] at hk
       subst hk
       ·cases ho; exact alF_of _ (fun _ _=>by kernel_rfl)
      case h =>
      apply Exists.intro
      refine ⟨fun R=>?_,?_⟩
      ·simp only [List.map_cons,List.map_nil,List.getD_cons_zero,List.getD_cons_succ]
       (first | go_big_quiet_skip | (go_big_quiet_want; go_big_quiet_op; first | go_big_quiet_on | (refine ⟨_,fun _ _=>rfl,?_⟩; go_big_quiet_on)))
       (go_big_quiet_want; apply qn_load1 ot_mod rfl rfl i7_3 (fC_ptr g); (simp only [Act.put,lS]; go_big_quiet_on))
       (go_big_quiet_want; apply qn_load at_num rfl rfl i7_13 (hp_num x83); (simp only [Act.put,lS]; go_big_quiet_on))
       (go_big_quiet_want; apply qn_load at_num rfl rfl i7_13 (hp_num x83); (simp only [Act.put,lS]; go_big_quiet_on))
       (go_big_quiet_want; refine qa_call _ _ ?_ _ (fun w' hb=>mul_x (HM.out _ (hB7.trans (hb.mono hB7.size))) b_x83 b_x83 H103.out) ?_; (focus (intro w; simp [go_sem]; done)); (simp only [Act.put,lS]; go_big_quiet_on))
       exact wpQuiet_nil rfl
      ·refine wpAl_consP rfl ?_
       intro g15 hg15 nng15
       intro w2 hcc
       have ne_3_g15 : w.heap.size ≠ g15:=by have:=i7_3.lt; omega
       have ne_4_g15 : (w.heap.size + 1) ≠ g15:=by have:=i7_4.lt; omega
       have ne_5_g15 : (w.heap.size + 1 + 1) ≠ g15:=by have:=i7_5.lt; omega
       have ne_6_g15 : (w.heap.size + 1 + 1 + 1) ≠ g15:=by have:=i7_6.lt; omega
       have ne_9_g15 : g9 ≠ g15:=by have:=i7_9.lt; omega
       have ne_11_g15 : g11 ≠ g15:=by have:=i7_11.lt; omega
       have ne_13_g15 : g13 ≠ g15:=by have:=i7_13.lt; omega
       have ne_14_g15 : g14 ≠ g15:=by have:=i7_14.lt; omega
       replace i7_3:=i7_3.below hcc.1 i7_3.lt
       replace i7_4:=i7_4.below hcc.1 i7_4.lt
       replace i7_5:=i7_5.below hcc.1 i7_5.lt
       replace i7_6:=i7_6.below hcc.1 i7_6.lt
       replace i7_9:=i7_9.below hcc.1 i7_9.lt
       replace i7_11:=i7_11.below hcc.1 i7_11.lt
       replace i7_13:=i7_13.below hcc.1 i7_13.lt
       replace i7_14:=i7_14.below hcc.1 i7_14.lt
       have j_15 : Row w2 g15 177 (AQ (nL 0)):=.of_heap (hcc.2 g15 _ (by simp [upd]))
       have hg_le : w.heap.size ≤ w2.heap.size:=Nat.le_trans hB7.size hcc.1.size
       have lb_g15 : w.heap.size ≤ g15:=Nat.le_trans hB7.size hg15
       replace hB7:=hB7.trans (hcc.1.mono hB7.size)
       clear hcc hg_le hg15 nng15
       have lt_15:=j_15.lt
       go_upto_region 14 with (fail)
       refine at_world (fun W=>Row W w.heap.size 243 (fC g) ∧ Row W (w.heap.size + 1) 247 (t3C a1 b1 c1) ∧ Row W (w.heap.size + 1 + 1) 247 (t3C a2 b2 c2) ∧ Row W (w.heap.size + 1 + 1 + 1) 247 (t3C 0 0 0) ∧ Row W g9 177 (AQ (nL x50)) ∧ Row W g11 177 (AQ (nL x67)) ∧ Row W g13 177 (AQ (nL x83)) ∧ Row W g14 177 (AQ (nL x88)) ∧ Row W g15 177 (AQ (nL x103)) ∧ Below w.heap.size w W) (⟨(i7_3.setRowOther _ _ (by omega)),(i7_4.setRowOther _ _ (by omega)),(i7_5.setRowOther _ _ (by omega)),(i7_6.setRowOther _ _ (by omega)),(i7_9.setRowOther _ _ (by omega)),(i7_11.setRowOther _ _ (by omega)),(i7_13.setRowOther _ _ (by omega)),(i7_14.setRowOther _ _ (by omega)),(j_15.setRow _),(bSetRow hB7 lb_g15 _)⟩) ?_
       clear i7_3 i7_4 i7_5 i7_6 i7_9 i7_11 i7_13 i7_14 j_15 lt_15 hB7
       rintro W8 ⟨i8_3,i8_4,i8_5,i8_6,i8_9,i8_11,i8_13,i8_14,i8_15,hB8⟩
       replace i8_3:=i8_3.drew
       replace i8_4:=i8_4.drew
       replace i8_5:=i8_5.drew
       replace i8_6:=i8_6.drew
       replace i8_9:=i8_9.drew
       replace i8_11:=i8_11.drew
       replace i8_13:=i8_13.drew
       replace i8_14:=i8_14.drew
       replace i8_15:=i8_15.drew
       replace hB8:=hB8.drew
       obtain ⟨x108,h108⟩ : ∃ q_,q_ = mulM m x83 x103:=⟨_,rfl⟩
       have b_x108 : x108 < R256:=by rw [h108]; exact Nat.lt_trans (mulM_lt HP.out) HL.out
       have H108:=Lib.hid h108
       clear h108
       obtain ⟨x113,h113⟩ : ∃ q_,q_ = mulM m x50 x103:=⟨_,rfl⟩
       have b_x113 : x113 < R256:=by rw [h113]; exact Nat.lt_trans (mulM_lt HP.out) HL.out
       have H113:=Lib.hid h113
       clear h113
       refine wp_region_allocs 12 [0,1,2,3,4,5,6,7,8,9] [10,11] (fun _=>.cells (AQ (nL 0)) 177) (by kernel_rfl) (by kernel_rfl) (by kernel_rfl) (by kernel_rfl) ?hal ?h
       case hal =>
        intro k hk o ho
        simp only [List.mem_cons,List.not_mem_nil,or_false] at hk
        rcases hk with rfl | rfl
        ·cases ho; exact alF_of _ (fun _ _=>by kernel_rfl)
        ·cases ho; exact alF_of _ (fun _ _=>by kernel_rfl)
       case h =>
       apply Exists.intro
       refine ⟨fun R=>?_,?_⟩
       ·simp only [List.map_cons,List.map_nil,List.getD_cons_zero,List.getD_cons_succ]
        (first | go_big_quiet_skip | (go_big_quiet_want; go_big_quiet_op; first | go_big_quiet_on | (refine ⟨_,fun _ _=>rfl,?_⟩; go_big_quiet_on)))
        (go_big_quiet_want; apply qn_load1 ot_mod rfl rfl i8_3 (fC_ptr g); (simp only [Act.put,lS]; go_big_quiet_on))
        (go_big_quiet_want; apply qn_load at_num rfl rfl i8_13 (hp_num x83); (simp only [Act.put,lS]; go_big_quiet_on))
        (go_big_quiet_want; apply qn_load at_num rfl rfl i8_15 (hp_num x103); (simp only [Act.put,lS]; go_big_quiet_on))
        (go_big_quiet_want; refine qa_call _ _ ?_ _ (fun w' hb=>mul_x (HM.out _ (hB8.trans (hb.mono hB8.size))) b_x83 b_x103 H108.out) ?_; (focus (intro w; simp [go_sem]; done)); (simp only [Act.put,lS]; go_big_quiet_on))
        (first | go_big_quiet_skip | (go_big_quiet_want; go_big_quiet_op; first | go_big_quiet_on | (refine ⟨_,fun _ _=>rfl,?_⟩; go_big_quiet_on)))
        (go_big_quiet_want; apply qn_load1 ot_mod rfl rfl i8_3 (fC_ptr g); (simp only [Act.put,lS]; go_big_quiet_on))
        (go_big_quiet_want; apply qn_load at_num rfl rfl i8_9 (hp_num x50); (simp only [Act.put,lS]; go_big_quiet_on))
        (go_big_quiet_want; apply qn_load at_num rfl rfl i8_15 (hp_num x103); (simp only [Act.put,lS]; go_big_quiet_on))
        (go_big_quiet_want; refine qa_call _ _ ?_ _ (fun w' hb=>mul_x (HM.out _ (hB8.trans (hb.mono hB8.size))) b_x50 b_x103 H113.out) ?_; (focus (intro w; simp [go_sem]; done)); (simp only [Act.put,lS]; go_big_quiet_on))
        exact wpQuiet_nil rfl
       ·refine wpAl_consP rfl ?_
        intro g16 hg16 nng16
        refine wpAl_consP rfl ?_
        intro g17 hg17 nng17
        intro w2 hcc
        have ne_g17_g16 : g17 ≠ g16:=by rintro rfl; simp [upd] at nng17
        have ne_3_g16 : w.heap.size ≠ g16:=by have:=i8_3.lt; omega
        have ne_3_g17 : w.heap.size ≠ g17:=by have:=i8_3.lt; omega
        have ne_4_g16 : (w.heap.size + 1) ≠ g16:=by have:=i8_4.lt; omega
        have ne_4_g17 : (w.heap.size + 1) ≠ g17:=by have:=i8_4.lt; omega
        have ne_5_g16 : (w.heap.size + 1 + 1) ≠ g16:=by have:=i8_5.lt; omega
        have ne_5_g17 : (w.heap.size + 1 + 1) ≠ g17:=by have:=i8_5.lt; omega
        have ne_6_g16 : (w.heap.size + 1 + 1 + 1) ≠ g16:=by have:=i8_6.lt; omega
        have ne_6_g17 : (w.heap.size + 1 + 1 + 1) ≠ g17:=by have:=i8_6.lt; omega
        have ne_9_g16 : g9 ≠ g16:=by have:=i8_9.lt; omega
        have ne_9_g17 : g9 ≠ g17:=by have:=i8_9.lt; omega
        have ne_11_g16 : g11 ≠ g16:=by have:=i8_11.lt; omega
        have ne_11_g17 : g11 ≠ g17:=by have:=i8_11.lt; omega
        have ne_13_g16 : g13 ≠ g16:=by have:=i8_13.lt; omega
        have ne_13_g17 : g13 ≠ g17:=by have:=i8_13.lt; omega
        have ne_14_g16 : g14 ≠ g16:=by have:=i8_14.lt; omega
        have ne_14_g17 : g14 ≠ g17:=by have:=i8_14.lt; omega
        have ne_15_g16 : g15 ≠ g16:=by have:=i8_15.lt; omega
        have ne_15_g17 : g15 ≠ g17:=by have:=i8_15.lt; omega
        replace i8_3:=i8_3.below hcc.1 i8_3.lt
        replace i8_4:=i8_4.below hcc.1 i8_4.lt
        replace i8_5:=i8_5.below hcc.1 i8_5.lt
        replace i8_6:=i8_6.below hcc.1 i8_6.lt
        replace i8_9:=i8_9.below hcc.1 i8_9.lt
        replace i8_11:=i8_11.below hcc.1 i8_11.lt
        replace i8_13:=i8_13.below hcc.1 i8_13.lt
        replace i8_14:=i8_14.below hcc.1 i8_14.lt
        replace i8_15:=i8_15.below hcc.1 i8_15.lt
        have j_16 : Row w2 g16 177 (AQ (nL 0)):=.of_heap (hcc.2 g16 _ (by simp [upd,ne_g17_g16.symm]))
        have j_17 : Row w2 g17 177 (AQ (nL 0)):=.of_heap (hcc.2 g17 _ (by simp [upd]))
        have hg_le : w.heap.size ≤ w2.heap.size:=Nat.le_trans hB8.size hcc.1.size
        have lb_g16 : w.heap.size ≤ g16:=Nat.le_trans hB8.size hg16
        have lb_g17 : w.heap.size ≤ g17:=Nat.le_trans hB8.size hg17
        replace hB8:=hB8.trans (hcc.1.mono hB8.size)
        clear hcc hg_le hg16 nng16 hg17 nng17
        have qn10 : g17 ≠ g16:=by omega
        have lt_16:=j_16.lt
        have lt_17:=j_17.lt
        go_upto_region 15 with (fail)
        refine at_world (fun W=>Row W w.heap.size 243 (fC g) ∧ Row W (w.heap.size + 1) 247 (t3C a1 b1 c1) ∧ Row W (w.heap.size + 1 + 1) 247 (t3C a2 b2 c2) ∧ Row W (w.heap.size + 1 + 1 + 1) 247 (t3C 0 0 0) ∧ Row W g11 177 (AQ (nL x67)) ∧ Row W g13 177 (AQ (nL x83)) ∧ Row W g14 177 (AQ (nL x88)) ∧ Row W g16 177 (AQ (nL x108)) ∧ Row W g17 177 (AQ (nL x113)) ∧ Below w.heap.size w W) (⟨((i8_3.setRowOther _ _ (by omega)).setRowOther _ _ (by omega)),((i8_4.setRowOther _ _ (by omega)).setRowOther _ _ (by omega)),((i8_5.setRowOther _ _ (by omega)).setRowOther _ _ (by omega)),((i8_6.setRowOther _ _ (by omega)).setRowOther _ _ (by omega)),((i8_11.setRowOther _ _ (by omega)).setRowOther _ _ (by omega)),((i8_13.setRowOther _ _ (by omega)).setRowOther _ _ (by omega)),((i8_14.setRowOther _ _ (by omega)).setRowOther _ _ (by omega)),((j_16.setRow _).setRowOther _ _ (by omega)),((j_17.setRowOther _ _ (by omega)).setRow _),(bSetRow (bSetRow hB8 lb_g16 _) lb_g17 _)⟩) ?_
        clear i8_3 i8_4 i8_5 i8_6 i8_11 i8_13 i8_14 j_16 j_17 qn10 lt_16 lt_17 i8_9 i8_15 hB8
        rintro W9 ⟨i9_3,i9_4,i9_5,i9_6,i9_11,i9_13,i9_14,i9_16,i9_17,hB9⟩
        replace i9_3:=i9_3.drew
        replace i9_4:=i9_4.drew
        replace i9_5:=i9_5.drew
        replace i9_6:=i9_6.drew
        replace i9_11:=i9_11.drew
        replace i9_13:=i9_13.drew
        replace i9_14:=i9_14.drew
        replace i9_16:=i9_16.drew
        replace i9_17:=i9_17.drew
        replace hB9:=hB9.drew
        obtain ⟨x122,h122⟩ : ∃ q_,q_ = mulM m x88 x88:=⟨_,rfl⟩
        have b_x122 : x122 < R256:=by rw [h122]; exact Nat.lt_trans (mulM_lt HP.out) HL.out
        have H122:=Lib.hid h122
        clear h122
        obtain ⟨x124,h124⟩ : ∃ q_,q_ = subM m x122 x108:=⟨_,rfl⟩
        have b_x124 : x124 < R256:=by rw [h124]; exact Nat.lt_trans (subM_lt HP.out) HL.out
        have H124:=Lib.hid h124
        clear h124
        obtain ⟨x127,h127⟩ : ∃ q_,q_ = twM m x113:=⟨_,rfl⟩
        have b_x127 : x127 < R256:=by rw [h127]; exact Nat.lt_trans (twM_lt HP.out) HL.out
        have H127:=Lib.hid h127
        clear h127
        obtain ⟨x128,h128⟩ : ∃ q_,q_ = subM m x124 x127:=⟨_,rfl⟩
        have b_x128 : x128 < R256:=by rw [h128]; exact Nat.lt_trans (subM_lt HP.out) HL.out
        have H128:=Lib.hid h128
        clear h128
        refine wp_region_allocs 16 [0,1,2,3,4,5,6,7,8,9,10,11,12,13,14] [15] (fun _=>.cells (AQ (nL 0)) 177) (by kernel_rfl) (by kernel_rfl) (by kernel_rfl) (by kernel_rfl) ?hal ?h
        case hal =>
         intro k hk o ho
         simp only [List.mem_cons,List.not_mem_nil,or_false] at hk
         subst hk
         ·cases ho; exact alF_of _ (fun _ _=>by kernel_rfl)
        case h =>
        apply Exists.intro
        refine ⟨fun R=>?_,?_⟩
        ·simp only [List.map_cons,List.map_nil,List.getD_cons_zero,List.getD_cons_succ]
         (first | go_big_quiet_skip | (go_big_quiet_want; go_big_quiet_op; first | go_big_quiet_on | (refine ⟨_,fun _ _=>rfl,?_⟩; go_big_quiet_on)))
         (go_big_quiet_want; apply qn_load1 ot_mod rfl rfl i9_3 (fC_ptr g); (simp only [Act.put,lS]; go_big_quiet_on))
         (first | go_big_quiet_skip | (go_big_quiet_want; go_big_quiet_op; first | go_big_quiet_on | (refine ⟨_,fun _ _=>rfl,?_⟩; go_big_quiet_on)))
         (go_big_quiet_want; apply qn_load1 ot_mod rfl rfl i9_3 (fC_ptr g); (simp only [Act.put,lS]; go_big_quiet_on))
         (first | go_big_quiet_skip | (go_big_quiet_want; go_big_quiet_op; first | go_big_quiet_on | (refine ⟨_,fun _ _=>rfl,?_⟩; go_big_quiet_on)))
         (go_big_quiet_want; apply qn_load1 ot_mod rfl rfl i9_3 (fC_ptr g); (simp only [Act.put,lS]; go_big_quiet_on))
         (go_big_quiet_want; apply qn_load at_num rfl rfl i9_14 (hp_num x88); (simp only [Act.put,lS]; go_big_quiet_on))
         (go_big_quiet_want; apply qn_load at_num rfl rfl i9_14 (hp_num x88); (simp only [Act.put,lS]; go_big_quiet_on))
         (go_big_quiet_want; refine qa_call _ _ ?_ _ (fun w' hb=>mul_x (HM.out _ (hB9.trans (hb.mono hB9.size))) b_x88 b_x88 H122.out) ?_; (focus (intro w; simp [go_sem]; done)); (simp only [Act.put,lS]; go_big_quiet_on))
         (go_big_quiet_want; apply qn_load at_num rfl rfl i9_16 (hp_num x108); (simp only [Act.put,lS]; go_big_quiet_on))
         (go_big_quiet_want; refine qa_call _ _ ?_ _ (fun w' hb=>sub_x (HM.out _ (hB9.trans (hb.mono hB9.size))) b_x122 b_x108 H124.out) ?_; (focus (intro w; simp [go_sem]; done)); (simp only [Act.put,lS]; go_big_quiet_on))
         (go_big_quiet_want; apply qn_load at_f rfl rfl i9_3 (hp_f g); (simp only [Act.put,lS]; go_big_quiet_on))
         (go_big_quiet_want; apply qn_load at_num rfl rfl i9_17 (hp_num x113); (simp only [Act.put,lS]; go_big_quiet_on))
         (go_big_quiet_want; refine qa_call _ _ ?_ _ (fun w' hb=>twice_x (HM.out _ (hB9.trans (hb.mono hB9.size))) b_x113 H127.out) ?_; (focus (intro w; simp [go_sem]; done)); (simp only [Act.put,lS]; go_big_quiet_on))
         (go_big_quiet_want; refine qa_call _ _ ?_ _ (fun w' hb=>sub_x (HM.out _ (hB9.trans (hb.mono hB9.size))) b_x124 b_x127 H128.out) ?_; (focus (intro w; simp [go_sem]; done)); (simp only [Act.put,lS]; go_big_quiet_on))
         exact wpQuiet_nil rfl
        ·refine wpAl_consP rfl ?_
         intro g18 hg18 nng18
         intro w2 hcc
         have ne_3_g18 : w.heap.size ≠ g18:=by have:=i9_3.lt; omega
         have ne_4_g18 : (w.heap.size + 1) ≠ g18:=by have:=i9_4.lt; omega
         have ne_5_g18 : (w.heap.size + 1 + 1) ≠ g18:=by have:=i9_5.lt; omega
         have ne_6_g18 : (w.heap.size + 1 + 1 + 1) ≠ g18:=by have:=i9_6.lt; omega
         have ne_11_g18 : g11 ≠ g18:=by have:=i9_11.lt; omega
         have ne_13_g18 : g13 ≠ g18:=by have:=i9_13.lt; omega
         have ne_14_g18 : g14 ≠ g18:=by have:=i9_14.lt; omega
         have ne_16_g18 : g16 ≠ g18:=by have:=i9_16.lt; omega
         have ne_17_g18 : g17 ≠ g18:=by have:=i9_17.lt; omega
         replace i9_3:=i9_3.below hcc.1 i9_3.lt
         replace i9_4:=i9_4.below hcc.1 i9_4.lt
         replace i9_5:=i9_5.below hcc.1 i9_5.lt
         replace i9_6:=i9_6.below hcc.1 i9_6.lt
         replace i9_11:=i9_11.below hcc.1 i9_11.lt
         replace i9_13:=i9_13.below hcc.1 i9_13.lt
         replace i9_14:=i9_14.below hcc.1 i9_14.lt
         replace i9_16:=i9_16.below hcc.1 i9_16.lt
         replace i9_17:=i9_17.below hcc.1 i9_17.lt
         have j_18 : Row w2 g18 177 (AQ (nL 0)):=.of_heap (hcc.2 g18 _ (by simp [upd]))
         have hg_le : w.heap.size ≤ w2.heap.size:=Nat.le_trans hB9.size hcc.1.size
         have lb_g18 : w.heap.size ≤ g18:=Nat.le_trans hB9.size hg18
         replace hB9:=hB9.trans (hcc.1.mono hB9.size)
         clear hcc hg_le hg18 nng18
         have lt_18:=j_18.lt
         go_upto_region 16 with (fail)
         refine at_world (fun W=>Row W w.heap.size 243 (fC g) ∧ Row W (w.heap.size + 1) 247 (t3C a1 b1 c1) ∧ Row W (w.heap.size + 1 + 1) 247 (t3C a2 b2 c2) ∧ Row W (w.heap.size + 1 + 1 + 1) 247 (t3C 0 0 0) ∧ Row W g11 177 (AQ (nL x67)) ∧ Row W g13 177 (AQ (nL x83)) ∧ Row W g14 177 (AQ (nL x88)) ∧ Row W g16 177 (AQ (nL x108)) ∧ Row W g17 177 (AQ (nL x113)) ∧ Row W g18 177 (AQ (nL x128)) ∧ Below w.heap.size w W) (⟨(i9_3.setRowOther _ _ (by omega)),(i9_4.setRowOther _ _ (by omega)),(i9_5.setRowOther _ _ (by omega)),(i9_6.setRowOther _ _ (by omega)),(i9_11.setRowOther _ _ (by omega)),(i9_13.setRowOther _ _ (by omega)),(i9_14.setRowOther _ _ (by omega)),(i9_16.setRowOther _ _ (by omega)),(i9_17.setRowOther _ _ (by omega)),(j_18.setRow _),(bSetRow hB9 lb_g18 _)⟩) ?_
         clear i9_3 i9_4 i9_5 i9_6 i9_11 i9_13 i9_14 i9_16 i9_17 j_18 lt_18 hB9
         rintro W10 ⟨i10_3,i10_4,i10_5,i10_6,i10_11,i10_13,i10_14,i10_16,i10_17,i10_18,hB10⟩
         replace i10_3:=i10_3.drew
         replace i10_4:=i10_4.drew
         replace i10_5:=i10_5.drew
         replace i10_6:=i10_6.drew
         replace i10_11:=i10_11.drew
         replace i10_13:=i10_13.drew
         replace i10_14:=i10_14.drew
         replace i10_16:=i10_16.drew
         replace i10_17:=i10_17.drew
         replace i10_18:=i10_18.drew
         replace hB10:=hB10.drew
         obtain ⟨x139,h139⟩ : ∃ q_,q_ = subM m x113 x128:=⟨_,rfl⟩
         have b_x139 : x139 < R256:=by rw [h139]; exact Nat.lt_trans (subM_lt HP.out) HL.out
         have H139:=Lib.hid h139
         clear h139
         obtain ⟨x140,h140⟩ : ∃ q_,q_ = mulM m x88 x139:=⟨_,rfl⟩
         have b_x140 : x140 < R256:=by rw [h140]; exact Nat.lt_trans (mulM_lt HP.out) HL.out
         have H140:=Lib.hid h140
         clear h140
         obtain ⟨x145,h145⟩ : ∃ q_,q_ = mulM m x67 x108:=⟨_,rfl⟩
         have b_x145 : x145 < R256:=by rw [h145]; exact Nat.lt_trans (mulM_lt HP.out) HL.out
         have H145:=Lib.hid h145
         clear h145
         obtain ⟨x146,h146⟩ : ∃ q_,q_ = subM m x140 x145:=⟨_,rfl⟩
         have b_x146 : x146 < R256:=by rw [h146]; exact Nat.lt_trans (subM_lt HP.out) HL.out
         have H146:=Lib.hid h146
         clear h146
         obtain ⟨x155,h155⟩ : ∃ q_,q_ = mulM m c1 c2:=⟨_,rfl⟩
         have b_x155 : x155 < R256:=by rw [h155]; exact Nat.lt_trans (mulM_lt HP.out) HL.out
         have H155:=Lib.hid h155
         clear h155
         obtain ⟨x157,h157⟩ : ∃ q_,q_ = mulM m x155 x83:=⟨_,rfl⟩
         have b_x157 : x157 < R256:=by rw [h157]; exact Nat.lt_trans (mulM_lt HP.out) HL.out
         have H157:=Lib.hid h157
         clear h157
         refine wp_region_allocs 30 [0,1,2,3,4,5,6,7,8,9,10,11,12,13,14,15,16,17,18,19,20,21,22,23,24,25,26,27,28,29] [] (fun _=>.cells #[] 0) (by kernel_rfl) (by kernel_rfl) (by kernel_rfl) (by kernel_rfl) ?hal ?h
         case hal =>
          intro k hk o ho
          cases hk
         case h =>
         apply Exists.intro
         refine ⟨fun R=>?_,?_⟩
         ·simp only [List.map_cons,List.map_nil,List.getD_cons_zero,List.getD_cons_succ]
          (go_big_quiet_want; apply qn_load at_num rfl rfl i10_18 (hp_num x128); (simp only [Act.put,lS]; go_big_quiet_on))
          (first | go_big_quiet_skip | (go_big_quiet_want; go_big_quiet_op; first | go_big_quiet_on | (refine ⟨_,fun _ _=>rfl,?_⟩; go_big_quiet_on)))
          (go_big_quiet_want; apply qn_load1 ot_mod rfl rfl i10_3 (fC_ptr g); (simp only [Act.put,lS]; go_big_quiet_on))
          (first | go_big_quiet_skip | (go_big_quiet_want; go_big_quiet_op; first | go_big_quiet_on | (refine ⟨_,fun _ _=>rfl,?_⟩; go_big_quiet_on)))
          (go_big_quiet_want; apply qn_load1 ot_mod rfl rfl i10_3 (fC_ptr g); (simp only [Act.put,lS]; go_big_quiet_on))
          (go_big_quiet_want; apply qn_load at_num rfl rfl i10_14 (hp_num x88); (simp only [Act.put,lS]; go_big_quiet_on))
          (first | go_big_quiet_skip | (go_big_quiet_want; go_big_quiet_op; first | go_big_quiet_on | (refine ⟨_,fun _ _=>rfl,?_⟩; go_big_quiet_on)))
          (go_big_quiet_want; apply qn_load1 ot_mod rfl rfl i10_3 (fC_ptr g); (simp only [Act.put,lS]; go_big_quiet_on))
          (go_big_quiet_want; apply qn_load at_num rfl rfl i10_17 (hp_num x113); (simp only [Act.put,lS]; go_big_quiet_on))
          (go_big_quiet_want; apply qn_load at_num rfl rfl i10_18 (hp_num x128); (simp only [Act.put,lS]; go_big_quiet_on))
          (go_big_quiet_want; refine qa_call _ _ ?_ _ (fun w' hb=>sub_x (HM.out _ (hB10.trans (hb.mono hB10.size))) b_x113 b_x128 H139.out) ?_; (focus (intro w; simp [go_sem]; done)); (simp only [Act.put,lS]; go_big_quiet_on))
          (go_big_quiet_want; refine qa_call _ _ ?_ _ (fun w' hb=>mul_x (HM.out _ (hB10.trans (hb.mono hB10.size))) b_x88 b_x139 H140.out) ?_; (focus (intro w; simp [go_sem]; done)); (simp only [Act.put,lS]; go_big_quiet_on))
          (first | go_big_quiet_skip | (go_big_quiet_want; go_big_quiet_op; first | go_big_quiet_on | (refine ⟨_,fun _ _=>rfl,?_⟩; go_big_quiet_on)))
          (go_big_quiet_want; apply qn_load1 ot_mod rfl rfl i10_3 (fC_ptr g); (simp only [Act.put,lS]; go_big_quiet_on))
          (go_big_quiet_want; apply qn_load at_num rfl rfl i10_11 (hp_num x67); (simp only [Act.put,lS]; go_big_quiet_on))
          (go_big_quiet_want; apply qn_load at_num rfl rfl i10_16 (hp_num x108); (simp only [Act.put,lS]; go_big_quiet_on))
          (go_big_quiet_want; refine qa_call _ _ ?_ _ (fun w' hb=>mul_x (HM.out _ (hB10.trans (hb.mono hB10.size))) b_x67 b_x108 H145.out) ?_; (focus (intro w; simp [go_sem]; done)); (simp only [Act.put,lS]; go_big_quiet_on))
          (go_big_quiet_want; refine qa_call _ _ ?_ _ (fun w' hb=>sub_x (HM.out _ (hB10.trans (hb.mono hB10.size))) b_x140 b_x145 H146.out) ?_; (focus (intro w; simp [go_sem]; done)); (simp only [Act.put,lS]; go_big_quiet_on))
          (first | go_big_quiet_skip | (go_big_quiet_want; go_big_quiet_op; first | go_big_quiet_on | (refine ⟨_,fun _ _=>rfl,?_⟩; go_big_quiet_on)))
          (go_big_quiet_want; apply qn_load1 ot_mod rfl rfl i10_3 (fC_ptr g); (simp only [Act.put,lS]; go_big_quiet_on))
          (first | go_big_quiet_skip | (go_big_quiet_want; go_big_quiet_op; first | go_big_quiet_on | (refine ⟨_,fun _ _=>rfl,?_⟩; go_big_quiet_on)))
          (go_big_quiet_want; apply qn_load1 ot_mod rfl rfl i10_3 (fC_ptr g); (simp only [Act.put,lS]; go_big_quiet_on))
          (first | go_big_quiet_skip | (go_big_quiet_want; go_big_quiet_op; first | go_big_quiet_on | (refine ⟨_,fun _ _=>rfl,?_⟩; go_big_quiet_on)))
          (go_big_quiet_want; apply qn_load at_num rfl rfl i10_4 (hp_tz a1 b1 c1); (simp only [Act.put,lS]; go_big_quiet_on))
          (first | go_big_quiet_skip | (go_big_quiet_want; go_big_quiet_op; first | go_big_quiet_on | (refine ⟨_,fun _ _=>rfl,?_⟩; go_big_quiet_on)))
          (go_big_quiet_want; apply qn_load at_num rfl rfl i10_5 (hp_tz a2 b2 c2); (simp only [Act.put,lS]; go_big_quiet_on))
          (go_big_quiet_want; refine qa_call _ _ ?_ _ (fun w' hb=>mul_x (HM.out _ (hB10.trans (hb.mono hB10.size))) b_c1 b_c2 H155.out) ?_; (focus (intro w; simp [go_sem]; done)); (simp only [Act.put,lS]; go_big_quiet_on))
          (go_big_quiet_want; apply qn_load at_num rfl rfl i10_13 (hp_num x83); (simp only [Act.put,lS]; go_big_quiet_on))
          (go_big_quiet_want; refine qa_call _ _ ?_ _ (fun w' hb=>mul_x (HM.out _ (hB10.trans (hb.mono hB10.size))) b_x155 b_x83 H157.out) ?_; (focus (intro w; simp [go_sem]; done)); (simp only [Act.put,lS]; go_big_quiet_on))
          (go_big_quiet_want; refine qa_pure (.agg (t3C x128 x146 x157)) (fun w=>by kernel_rfl) ?_; (simp only [Act.put,lS]; go_big_quiet_on))
          exact wpQuiet_nil rfl
         ·intro w2 hcc
          replace i10_3:=i10_3.below hcc.1 i10_3.lt
          replace i10_4:=i10_4.below hcc.1 i10_4.lt
          replace i10_5:=i10_5.below hcc.1 i10_5.lt
          replace i10_6:=i10_6.below hcc.1 i10_6.lt
          replace i10_11:=i10_11.below hcc.1 i10_11.lt
          replace i10_13:=i10_13.below hcc.1 i10_13.lt
          replace i10_14:=i10_14.below hcc.1 i10_14.lt
          replace i10_16:=i10_16.below hcc.1 i10_16.lt
          replace i10_17:=i10_17.below hcc.1 i10_17.lt
          replace i10_18:=i10_18.below hcc.1 i10_18.lt
          have hg_le : w.heap.size ≤ w2.heap.size:=Nat.le_trans hB10.size hcc.1.size
          replace hB10:=hB10.trans (hcc.1.mono hB10.size)
          clear hcc hg_le
          have lt_6:=i10_6.lt
          go_wp2_with fail
          exact ret_row (by first | exact .inl rfl | exact .inr rfl) rfl ((w.heap.size + 1 + 1 + 1)) 247 (t3C x128 x146 x157) 12 _ rfl (i10_6.setRow _) Tryz.underlying247 rfl (by kernel_rfl) rfl ⟨by rw [HX.out]; unfold addS; rw [if_neg HZ.out.1,if_neg HZ.out.2]; have e1:=HH.out; simp only [H37.out,H44.out,H50.out,H56.out,H66.out,H67.out,H77.out,H78.out,H83.out,H88.out] at e1; simp only []; rw [if_neg e1]; simp only [twM,H37.out,H44.out,H50.out,H56.out,H66.out,H67.out,H77.out,H78.out,H83.out,H88.out,H103.out,H108.out,H113.out,H122.out,H124.out,H127.out,H128.out,H139.out,H140.out,H145.out,H146.out,H155.out,H157.out],(bSetRow hB10 (by omega) _)⟩
theorem add3_x {w:World} {g m neg ri a1 b1 c1 a2 b2 c2:Nat} {T:T3} (hM:ModW w g m neg ri) (ha1:a1 < R256) (hb1:b1 < R256) (hc1:c1 < R256) (ha2:a2 < R256) (hb2:b2 < R256) (hc2:c2 < R256) (hT:T = addS m ⟨a1,b1,c1⟩ ⟨a2,b2,c2⟩) : Calls Tryz.prog 138 #[.agg (fC g),.agg (t3C a1 b1 c1),.agg (t3C a2 b2 c2)] w fun e w'=>e = .returned (.agg (t3C T.x T.y T.z)) ∧ Below w.heap.size w w':=by
 subst hT
 by_cases h1 : c1 = 0
 ·subst h1; exact add3_pz (c1:=0) ha1 hb1 hc1 ha2 hb2 hc2
 ·by_cases h2 : c2 = 0
  ·subst h2; exact add3_qz (c2:=0) ha1 hb1 hc1 ha2 hb2 hc2 h1
  ·exact add3_some hM ha1 hb1 hc1 ha2 hb2 hc2 h1 h2
end Go.Proofs.YtjpfhhndjpdmoaaGreatDoor
