/- Part of the proof: CurveE. No conditions of its own. -/
import Derived.Test.YtjpfhhndjpdmoaaGreatDoorF15
import Derived.Test.YtjpfhhndjpdmoaaGreatDoorF16
namespace Go.Proofs.YtjpfhhndjpdmoaaGreatDoor
open Go.RowKit
set_option linter.unusedVariables false
set_option linter.unusedSimpArgs false

theorem of_x {w:World} {l:List UInt8} {x:Nat} (hl:l.length = 32) (hx:x = natB l) : Calls Tryz.prog 93 #[.agg (AB l)] w fun e w'=>e = .returned (.agg (AQ (nL x))) ∧ Below w.heap.size w w':=by
 subst hx; exact of_any w l hl
theorem less_yes {w:World} {a b:Nat} (ha:a < R256) (hb:b < R256) (h:a < b) : Calls Tryz.prog 132 #[.agg (AQ (nL a)),.agg (AQ (nL b))] w fun e w'=>e = .returned (.bool true) ∧ Below w.heap.size w w':=by
 have:=nless_any w a b ha hb
 rw [decide_eq_true h] at this
 exact this
theorem invStep_lt {m:Nat} {s:I4} (h0:0 < m) (hm:m < R256) (h:ILt s) : ILt (invStep m s):=by
 obtain ⟨hu,hv,hx,hy⟩:=h
 unfold invStep
 split
 ·exact ⟨Nat.lt_of_le_of_lt (Nat.div_le_self _ _) hu,hv,halveM_lt hx hm,hy⟩
 ·split
  ·exact ⟨Nat.lt_of_le_of_lt (Nat.sub_le _ _) hv,hu,Nat.lt_trans (subM_lt h0) hm,hx⟩
  ·exact ⟨Nat.lt_of_le_of_lt (Nat.sub_le _ _) hu,hv,Nat.lt_trans (subM_lt h0) hm,hy⟩
theorem invF_lt {m:Nat} (h0:0 < m) (hm:m < R256) : ∀ (k:Nat) (s:I4),ILt s → ILt (invF m k s)
 | 0,s,h=>h
 | k + 1,s,h=>by
  by_cases hu : s.u = 0
  ·rw [invF_done hu]; exact h
  ·rw [invF_step hu]; exact invF_lt h0 hm k _ (invStep_lt h0 hm h)
theorem invI_lt {m a:Nat} (h0:0 < m) (hm:m < R256) : ILt (invI m a) :=
 invF_lt h0 hm 1100 _ ⟨Nat.lt_trans (Nat.mod_lt _ h0) hm,hm,by show 1 < R256; decide,by show 0 < R256; decide⟩
theorem inv_x {w:World} {g m neg ri a x:Nat} (hM:ModW w g m neg ri) (ha:a < R256) (hu:(invI m a).u = 0) (hv:(invI m a).v = 1) (hx:x = (invI m a).y) : Calls Tryz.prog 94 #[.pointer (some ⟨g,0,none⟩),.agg (AQ (nL a))] w fun e w'=>e = .returned (.tuple #[.agg (AQ (nL x)),.int .i64 0]) ∧ Below w.heap.size w w':=by
 subst hx; exact inv_any hM ha hu hv
def zpt : Array Value:=(List.replicate 64 (.int .u8 0)).toArray
theorem zerPt_eq : ptC zer32 zer32 = #[.int .u8 0,.int .u8 0,.int .u8 0,.int .u8 0,.int .u8 0,.int .u8 0,.int .u8 0,.int .u8 0,.int .u8 0,.int .u8 0,.int .u8 0,.int .u8 0,.int .u8 0,.int .u8 0,.int .u8 0,.int .u8 0,.int .u8 0,.int .u8 0,.int .u8 0,.int .u8 0,.int .u8 0,.int .u8 0,.int .u8 0,.int .u8 0,.int .u8 0,.int .u8 0,.int .u8 0,.int .u8 0,.int .u8 0,.int .u8 0,.int .u8 0,.int .u8 0,.int .u8 0,.int .u8 0,.int .u8 0,.int .u8 0,.int .u8 0,.int .u8 0,.int .u8 0,.int .u8 0,.int .u8 0,.int .u8 0,.int .u8 0,.int .u8 0,.int .u8 0,.int .u8 0,.int .u8 0,.int .u8 0,.int .u8 0,.int .u8 0,.int .u8 0,.int .u8 0,.int .u8 0,.int .u8 0,.int .u8 0,.int .u8 0,.int .u8 0,.int .u8 0,.int .u8 0,.int .u8 0,.int .u8 0,.int .u8 0,.int .u8 0,.int .u8 0]:=by kernel_rfl
theorem over_pt {a b c d:List UInt8} (h1:a.length = 32) (h2:b.length = 32) (h3:c.length = 32) (h4:d.length = 32) : over (ptC a b) 0 (ptC c d) = ptC c d:=over_all _ _ (by rw [ptC_size h1 h2,ptC_size h3 h4])
set_option maxRecDepth 100000 in
set_option maxHeartbeats 4000000 in
theorem order_gen (w:World) (X:Nat) (t1:TypeId) (hx:Row w 1 t1 (AQ (nL X))) : Calls Tryz.prog 142 #[] w fun e w'=>e = .returned (.agg (AB (be32 X))) ∧ Below w.heap.size w w':=by
 have HX:=Lib.hid (show ∀ W,Below w.heap.size w W → Row W 1 t1 (AQ (nL X)) from fun W hb=>hx.below hb hx.lt)
 clear hx
 go_enter Tryz.func142,Tryz.ntmps142
 go_upto_region 1 with (fail)
 refine at_world (fun W=>Row W w.heap.size 24 (AB zer32) ∧ Below w.heap.size w W) (⟨(by rw [zer32_eq]; exact (Row.newAt _ _ _ _ rfl)),((Below.refl _ w).alloc (Nat.le_refl _) _)⟩) ?_
 rintro W1 ⟨i1_0,hB1⟩
 have z1 : (AB (be32 X)).size = 32:=by rw [AB_size]; exact be32_len X
 have z3 : over (AB zer32) 0 (AB (be32 X)) = AB (be32 X):=over_all _ _ (by rw [z1]; rfl)
 have z4 : (AB zer32).size = 32:=rfl
 refine wp_region_lex 2 ?_
 simp only [List.take_succ_cons,List.take_zero,List.drop_succ_cons,List.drop_zero]
 (go_big_quiet_want; apply qn_load at_num rfl rfl (HX.out _ hB1) (hp_num X); (simp only [Act.put,lS]; go_big_quiet_on))
 (go_big_quiet_want; refine qa_call _ _ ?_ _ (fun w' hb=>bytes_any w' X) ?_; (focus (intro w; simp [go_sem]; done)); (simp only [Act.put,lS]; go_big_quiet_on))
 refine wpQuiet_nil ?_
 intro w2 hcc
 replace i1_0:=i1_0.below hcc.1 i1_0.lt
 have hg_le : w.heap.size ≤ w2.heap.size:=Nat.le_trans hB1.size hcc.1.size
 replace hB1:=hB1.trans (hcc.1.mono hB1.size)
 clear hcc hg_le
 have lt_0:=i1_0.lt
 go_wp2_with fail
 exact ret_row (by first | exact .inl rfl | exact .inr rfl) rfl (w.heap.size) 24 (AB (be32 X)) 32 _ rfl (i1_0.setRow _) Tryz.underlying24 rfl (by kernel_rfl) z1 ⟨rfl,(bSetRow hB1 (by omega) _)⟩
def onM (m c x y:Nat) : Prop:=mulM m y y = addM m (mulM m (subM m (mulM m x x) 3) x) c
set_option maxRecDepth 100000 in
set_option maxHeartbeats 4000000 in
theorem on_yes {w:World} {g m neg ri Bc:Nat} {t1 t2:TypeId} {la lb:List UInt8} (hM:ModW w g m neg ri) (hP:Row w 6 t1 (AQ (nL m))) (hC:Row w 7 t2 (AQ (nL Bc))) (hBc:Bc < R256) (hla:la.length = 32) (hlb:lb.length = 32) (hx:natB la < m) (hy:natB lb < m) (hon:onM m Bc (natB la) (natB lb)) : Calls Tryz.prog 134 #[.agg (fC g),.agg (ptC la lb)] w fun e w'=>e = .returned (.bool true) ∧ Below w.heap.size w w':=by
 have HM:=Lib.hid (show ∀ W,Below w.heap.size w W → ModW W g m neg ri from fun W hb=>hM.below hb)
 have HP:=Lib.hid hM.md.pos
 have HL:=Lib.hid hM.md.low
 clear hM
 have HGP:=Lib.hid (show ∀ W,Below w.heap.size w W → Row W 6 t1 (AQ (nL m)) from fun W hb=>hP.below hb hP.lt)
 have HGC:=Lib.hid (show ∀ W,Below w.heap.size w W → Row W 7 t2 (AQ (nL Bc)) from fun W hb=>hC.below hb hC.lt)
 have HBC:=Lib.hid hBc
 have HLA:=Lib.hid hla
 have HLB:=Lib.hid hlb
 have HON:=Lib.hid (⟨hx,hy,hon⟩ : _ ∧ _ ∧ _)
 have sz_p:=ptC_size hla hlb
 clear hP hC hBc hla hlb hx hy hon
 go_enter Tryz.func134,Tryz.ntmps134
 go_upto_region 1 with (fail)
 refine at_world (fun W=>Row W w.heap.size 243 (fC g) ∧ Row W (w.heap.size + 1) 169 (ptC la lb) ∧ Below w.heap.size w W) (⟨((Row.newAt _ _ _ _ rfl).alloc _),(Row.newAt _ _ _ _ (by simp)),(((Below.refl _ w).alloc (Nat.le_refl _) _).alloc (by simp) _)⟩) ?_
 rintro W1 ⟨i1_2,i1_3,hB1⟩
 replace i1_2:=i1_2.drew
 replace i1_3:=i1_3.drew
 replace hB1:=hB1.drew
 obtain ⟨x10,h10⟩ : ∃ q_,q_ = natB la:=⟨_,rfl⟩
 have b_x10 : x10 < R256:=by rw [h10]; exact natB_lt32 HLA.out
 have H10:=Lib.hid h10
 clear h10
 obtain ⟨x13,h13⟩ : ∃ q_,q_ = natB lb:=⟨_,rfl⟩
 have b_x13 : x13 < R256:=by rw [h13]; exact natB_lt32 HLB.out
 have H13:=Lib.hid h13
 clear h13
 refine wp_region_allocs 8 [0,1,2,3,4,5] [6,7] (fun _=>.cells (AQ (nL 0)) 177) (by kernel_rfl) (by kernel_rfl) (by kernel_rfl) (by kernel_rfl) ?hal ?h
 case hal =>
  intro k hk o ho
  simp only [List.mem_cons,List.not_mem_nil,or_false] at hk
  rcases hk with rfl | rfl
  ·cases ho; exact alF_of _ (fun _ _=>by kernel_rfl)
  ·cases ho; exact alF_of _ (fun _ _=>by kernel_rfl)
 case h =>
 apply Exists.intro
 refine ⟨fun R=>?_,?_⟩
 ·simp only [List.map_cons,List.map_nil,List.getD_cons_zero,List.getD_cons_succ]
  (first | go_big_quiet_skip | (go_big_quiet_want; go_big_quiet_op; first | go_big_quiet_on | (refine ⟨_,fun _ _=>rfl,?_⟩; go_big_quiet_on)))
  (go_big_quiet_want; apply qn_load at_b32 rfl rfl i1_3 (hp_pa HLA.out HLB.out); (simp only [Act.put,lS]; go_big_quiet_on))
  (go_big_quiet_want; refine qa_call _ _ ?_ _ (fun w' hb=>of_x HLA.out H10.out) ?_; (focus (intro w; simp [go_sem]; done)); (simp only [Act.put,lS]; go_big_quiet_on))
  (first | go_big_quiet_skip | (go_big_quiet_want; go_big_quiet_op; first | go_big_quiet_on | (refine ⟨_,fun _ _=>rfl,?_⟩; go_big_quiet_on)))
  (go_big_quiet_want; apply qn_load at_b32 rfl rfl i1_3 (hp_pb HLA.out HLB.out); (simp only [Act.put,lS]; go_big_quiet_on))
  (go_big_quiet_want; refine qa_call _ _ ?_ _ (fun w' hb=>of_x HLB.out H13.out) ?_; (focus (intro w; simp [go_sem]; done)); (simp only [Act.put,lS]; go_big_quiet_on))
  exact wpQuiet_nil rfl
 ·refine wpAl_consP rfl ?_
  intro g5 hg5 nng5
  refine wpAl_consP rfl ?_
  intro g6 hg6 nng6
  intro w2 hcc
  have ne_g6_g5 : g6 ≠ g5:=by rintro rfl; simp [upd] at nng6
  have ne_2_g5 : w.heap.size ≠ g5:=by have:=i1_2.lt; omega
  have ne_2_g6 : w.heap.size ≠ g6:=by have:=i1_2.lt; omega
  have ne_3_g5 : (w.heap.size + 1) ≠ g5:=by have:=i1_3.lt; omega
  have ne_3_g6 : (w.heap.size + 1) ≠ g6:=by have:=i1_3.lt; omega
  replace i1_2:=i1_2.below hcc.1 i1_2.lt
  replace i1_3:=i1_3.below hcc.1 i1_3.lt
  have j_5 : Row w2 g5 177 (AQ (nL 0)):=.of_heap (hcc.2 g5 _ (by simp [upd,ne_g6_g5.symm]))
  have j_6 : Row w2 g6 177 (AQ (nL 0)):=.of_heap (hcc.2 g6 _ (by simp [upd]))
  have hg_le : w.heap.size ≤ w2.heap.size:=Nat.le_trans hB1.size hcc.1.size
  have lb_g5 : w.heap.size ≤ g5:=Nat.le_trans hB1.size hg5
  have lb_g6 : w.heap.size ≤ g6:=Nat.le_trans hB1.size hg6
  replace hB1:=hB1.trans (hcc.1.mono hB1.size)
  clear hcc hg_le hg5 nng5 hg6 nng6
  have qn10 : g6 ≠ g5:=by omega
  have lt_5:=j_5.lt
  have lt_6:=j_6.lt
  go_upto_region 2 with (fail)
  refine at_world (fun W=>Row W w.heap.size 243 (fC g) ∧ Row W g5 177 (AQ (nL x10)) ∧ Row W g6 177 (AQ (nL x13)) ∧ Below w.heap.size w W) (⟨((i1_2.setRowOther _ _ (by omega)).setRowOther _ _ (by omega)),((j_5.setRow _).setRowOther _ _ (by omega)),((j_6.setRowOther _ _ (by omega)).setRow _),(bSetRow (bSetRow hB1 lb_g5 _) lb_g6 _)⟩) ?_
  clear i1_2 j_5 j_6 qn10 lt_5 lt_6 i1_3 hB1
  rintro W2 ⟨i2_2,i2_5,i2_6,hB2⟩
  refine wp_region_lex 9 ?_
  simp only [List.take_succ_cons,List.take_zero,List.drop_succ_cons,List.drop_zero]
  (go_big_quiet_want; apply qn_load at_num rfl rfl i2_5 (hp_num x10); (simp only [Act.put,lS]; go_big_quiet_on))
  (go_big_quiet_want; apply qn_load at_num rfl rfl (HGP.out _ hB2) (hp_num m); (simp only [Act.put,lS]; go_big_quiet_on))
  (go_big_quiet_want; refine qa_call _ _ ?_ _ (fun w' hb=>less_yes b_x10 HL.out (by rw [H10.out]; exact HON.out.1)) ?_; (focus (intro w; simp [go_sem]; done)); (simp only [Act.put,lS]; go_big_quiet_on))
  (first | go_big_quiet_skip | (go_big_quiet_want; go_big_quiet_op; first | go_big_quiet_on | (refine ⟨_,fun _ _=>rfl,?_⟩; go_big_quiet_on)))
  (first | go_big_quiet_skip | (go_big_quiet_want; go_big_quiet_op; first | go_big_quiet_on | (refine ⟨_,fun _ _=>rfl,?_⟩; go_big_quiet_on)))
  (go_big_quiet_want; apply qn_load at_num rfl rfl i2_6 (hp_num x13); (simp only [Act.put,lS]; go_big_quiet_on))
  (go_big_quiet_want; apply qn_load at_num rfl rfl (HGP.out _ hB2) (hp_num m); (simp only [Act.put,lS]; go_big_quiet_on))
  (go_big_quiet_want; refine qa_call _ _ ?_ _ (fun w' hb=>less_yes b_x13 HL.out (by rw [H13.out]; exact HON.out.2.1)) ?_; (focus (intro w; simp [go_sem]; done)); (simp only [Act.put,lS]; go_big_quiet_on))
  (first | go_big_quiet_skip | (go_big_quiet_want; go_big_quiet_op; first | go_big_quiet_on | (refine ⟨_,fun _ _=>rfl,?_⟩; go_big_quiet_on)))
  refine wpQuiet_nil ?_
  intro w2 hcc
  replace i2_2:=i2_2.below hcc.1 i2_2.lt
  replace i2_5:=i2_5.below hcc.1 i2_5.lt
  replace i2_6:=i2_6.below hcc.1 i2_6.lt
  have hg_le : w.heap.size ≤ w2.heap.size:=Nat.le_trans hB2.size hcc.1.size
  replace hB2:=hB2.trans (hcc.1.mono hB2.size)
  clear hcc hg_le
  go_upto_region 4 with (fail)
  refine at_world (fun W=>Row W w.heap.size 243 (fC g) ∧ Row W g5 177 (AQ (nL x10)) ∧ Row W g6 177 (AQ (nL x13)) ∧ Below w.heap.size w W) (⟨i2_2,i2_5,i2_6,hB2⟩) ?_
  clear i2_2 i2_5 i2_6 hB2
  rintro W3 ⟨i3_2,i3_5,i3_6,hB3⟩
  replace i3_2:=i3_2.drew
  replace i3_5:=i3_5.drew
  replace i3_6:=i3_6.drew
  replace hB3:=hB3.drew
  obtain ⟨x34,h34⟩ : ∃ q_,q_ = mulM m x10 x10:=⟨_,rfl⟩
  have b_x34 : x34 < R256:=by rw [h34]; exact Nat.lt_trans (mulM_lt HP.out) HL.out
  have H34:=Lib.hid h34
  clear h34
  obtain ⟨x36,h36⟩ : ∃ q_,q_ = subM m x34 3:=⟨_,rfl⟩
  have b_x36 : x36 < R256:=by rw [h36]; exact Nat.lt_trans (subM_lt HP.out) HL.out
  have H36:=Lib.hid h36
  clear h36
  obtain ⟨x38,h38⟩ : ∃ q_,q_ = mulM m x36 x10:=⟨_,rfl⟩
  have b_x38 : x38 < R256:=by rw [h38]; exact Nat.lt_trans (mulM_lt HP.out) HL.out
  have H38:=Lib.hid h38
  clear h38
  obtain ⟨x40,h40⟩ : ∃ q_,q_ = addM m x38 Bc:=⟨_,rfl⟩
  have b_x40 : x40 < R256:=by rw [h40]; exact Nat.lt_trans (addM_lt HP.out) HL.out
  have H40:=Lib.hid h40
  clear h40
  refine wp_region_allocs 18 [0,1,2,3,4,5,6,7,8,9,10,11,12,13,14,15,16] [17] (fun _=>.cells (AQ (nL 0)) 177) (by kernel_rfl) (by kernel_rfl) (by kernel_rfl) (by kernel_rfl) ?hal ?h
  case hal =>
   intro k hk o ho
   simp only [List.mem_cons,List.not_mem_nil,or_false] at hk
   subst hk
   ·cases ho; exact alF_of _ (fun _ _=>by kernel_rfl)
  case h =>
  apply Exists.intro
  refine ⟨fun R=>?_,?_⟩
  ·simp only [List.map_cons,List.map_nil,List.getD_cons_zero,List.getD_cons_succ]
   (first | go_big_quiet_skip | (go_big_quiet_want; go_big_quiet_op; first | go_big_quiet_on | (refine ⟨_,fun _ _=>rfl,?_⟩; go_big_quiet_on)))
   (go_big_quiet_want; apply qn_load1 ot_mod rfl rfl i3_2 (fC_ptr g); (simp only [Act.put,lS]; go_big_quiet_on))
   (first | go_big_quiet_skip | (go_big_quiet_want; go_big_quiet_op; first | go_big_quiet_on | (refine ⟨_,fun _ _=>rfl,?_⟩; go_big_quiet_on)))
   (go_big_quiet_want; apply qn_load1 ot_mod rfl rfl i3_2 (fC_ptr g); (simp only [Act.put,lS]; go_big_quiet_on))
   (first | go_big_quiet_skip | (go_big_quiet_want; go_big_quiet_op; first | go_big_quiet_on | (refine ⟨_,fun _ _=>rfl,?_⟩; go_big_quiet_on)))
   (go_big_quiet_want; apply qn_load1 ot_mod rfl rfl i3_2 (fC_ptr g); (simp only [Act.put,lS]; go_big_quiet_on))
   (first | go_big_quiet_skip | (go_big_quiet_want; go_big_quiet_op; first | go_big_quiet_on | (refine ⟨_,fun _ _=>rfl,?_⟩; go_big_quiet_on)))
   (go_big_quiet_want; apply qn_load1 ot_mod rfl rfl i3_2 (fC_ptr g); (simp only [Act.put,lS]; go_big_quiet_on))
   (go_big_quiet_want; apply qn_load at_num rfl rfl i3_5 (hp_num x10); (simp only [Act.put,lS]; go_big_quiet_on))
   (go_big_quiet_want; apply qn_load at_num rfl rfl i3_5 (hp_num x10); (simp only [Act.put,lS]; go_big_quiet_on))
   (go_big_quiet_want; refine qa_call _ _ ?_ _ (fun w' hb=>mul_x (HM.out _ (hB3.trans (hb.mono hB3.size))) b_x10 b_x10 H34.out) ?_; (focus (intro w; simp [go_sem]; done)); (simp only [Act.put,lS]; go_big_quiet_on))
   (go_big_quiet_want; refine qa_pure (.agg (AQ (nL 3))) (fun w=>by kernel_rfl) ?_; (simp only [Act.put,lS]; go_big_quiet_on))
   (go_big_quiet_want; refine qa_call _ _ ?_ _ (fun w' hb=>sub_x (HM.out _ (hB3.trans (hb.mono hB3.size))) b_x34 (by decide) H36.out) ?_; (focus (intro w; simp [go_sem]; done)); (simp only [Act.put,lS]; go_big_quiet_on))
   (go_big_quiet_want; apply qn_load at_num rfl rfl i3_5 (hp_num x10); (simp only [Act.put,lS]; go_big_quiet_on))
   (go_big_quiet_want; refine qa_call _ _ ?_ _ (fun w' hb=>mul_x (HM.out _ (hB3.trans (hb.mono hB3.size))) b_x36 b_x10 H38.out) ?_; (focus (intro w; simp [go_sem]; done)); (simp only [Act.put,lS]; go_big_quiet_on))
   (go_big_quiet_want; apply qn_load at_num rfl rfl (HGC.out _ hB3) (hp_num Bc); (simp only [Act.put,lS]; go_big_quiet_on))
   (go_big_quiet_want; refine qa_call _ _ ?_ _ (fun w' hb=>add_x (HM.out _ (hB3.trans (hb.mono hB3.size))) b_x38 HBC.out H40.out) ?_; (focus (intro w; simp [go_sem]; done)); (simp only [Act.put,lS]; go_big_quiet_on))
   exact wpQuiet_nil rfl
  ·refine wpAl_consP rfl ?_
   intro g7 hg7 nng7
   intro w2 hcc
   have ne_2_g7 : w.heap.size ≠ g7:=by have:=i3_2.lt; omega
   have ne_5_g7 : g5 ≠ g7:=by have:=i3_5.lt; omega
   have ne_6_g7 : g6 ≠ g7:=by have:=i3_6.lt; omega
   replace i3_2:=i3_2.below hcc.1 i3_2.lt
   replace i3_5:=i3_5.below hcc.1 i3_5.lt
   replace i3_6:=i3_6.below hcc.1 i3_6.lt
   have j_7 : Row w2 g7 177 (AQ (nL 0)):=.of_heap (hcc.2 g7 _ (by simp [upd]))
   have hg_le : w.heap.size ≤ w2.heap.size:=Nat.le_trans hB3.size hcc.1.size
   have lb_g7 : w.heap.size ≤ g7:=Nat.le_trans hB3.size hg7
   replace hB3:=hB3.trans (hcc.1.mono hB3.size)
   clear hcc hg_le hg7 nng7
   have lt_7:=j_7.lt
   go_upto_region 5 with (fail)
   refine at_world (fun W=>Row W w.heap.size 243 (fC g) ∧ Row W g6 177 (AQ (nL x13)) ∧ Row W g7 177 (AQ (nL x40)) ∧ Below w.heap.size w W) (⟨(i3_2.setRowOther _ _ (by omega)),(i3_6.setRowOther _ _ (by omega)),(j_7.setRow _),(bSetRow hB3 lb_g7 _)⟩) ?_
   clear i3_2 i3_6 j_7 lt_7 i3_5 hB3
   rintro W4 ⟨i4_2,i4_6,i4_7,hB4⟩
   replace i4_2:=i4_2.drew
   replace i4_6:=i4_6.drew
   replace i4_7:=i4_7.drew
   replace hB4:=hB4.drew
   obtain ⟨x45,h45⟩ : ∃ q_,q_ = mulM m x13 x13:=⟨_,rfl⟩
   have b_x45 : x45 < R256:=by rw [h45]; exact Nat.lt_trans (mulM_lt HP.out) HL.out
   have H45:=Lib.hid h45
   clear h45
   have hd : decide (x45 = x40) = true:=decide_eq_true (by rw [H45.out,H40.out,H38.out,H36.out,H34.out,H10.out,H13.out]; exact HON.out.2.2)
   refine wp_region_allocs 7 [0,1,2,3,4,5,6] [] (fun _=>.cells #[] 0) (by kernel_rfl) (by kernel_rfl) (by kernel_rfl) (by kernel_rfl) ?hal ?h
   case hal =>
    intro k hk o ho
    cases hk
   case h =>
   apply Exists.intro
   refine ⟨fun R=>?_,?_⟩
   ·simp only [List.map_cons,List.map_nil,List.getD_cons_zero,List.getD_cons_succ]
    (first | go_big_quiet_skip | (go_big_quiet_want; go_big_quiet_op; first | go_big_quiet_on | (refine ⟨_,fun _ _=>rfl,?_⟩; go_big_quiet_on)))
    (go_big_quiet_want; apply qn_load1 ot_mod rfl rfl i4_2 (fC_ptr g); (simp only [Act.put,lS]; go_big_quiet_on))
    (go_big_quiet_want; apply qn_load at_num rfl rfl i4_6 (hp_num x13); (simp only [Act.put,lS]; go_big_quiet_on))
    (go_big_quiet_want; apply qn_load at_num rfl rfl i4_6 (hp_num x13); (simp only [Act.put,lS]; go_big_quiet_on))
    (go_big_quiet_want; refine qa_call _ _ ?_ _ (fun w' hb=>mul_x (HM.out _ (hB4.trans (hb.mono hB4.size))) b_x13 b_x13 H45.out) ?_; (focus (intro w; simp [go_sem]; done)); (simp only [Act.put,lS]; go_big_quiet_on))
    (go_big_quiet_want; apply qn_load at_num rfl rfl i4_7 (hp_num x40); (simp only [Act.put,lS]; go_big_quiet_on))
    (first | go_big_quiet_skip | (go_big_quiet_want; go_big_quiet_op; first | go_big_quiet_on | (refine ⟨_,fun _ _=>rfl,?_⟩; go_big_quiet_on)))
    exact wpQuiet_nil rfl
   ·intro w2 hcc
    replace i4_2:=i4_2.below hcc.1 i4_2.lt
    replace i4_6:=i4_6.below hcc.1 i4_6.lt
    replace i4_7:=i4_7.below hcc.1 i4_7.lt
    have hg_le : w.heap.size ≤ w2.heap.size:=Nat.le_trans hB4.size hcc.1.size
    replace hB4:=hB4.trans (hcc.1.mono hB4.size)
    clear hcc hg_le
    go_wp2_with fail
    go_ret
    exact ⟨rfl,hB4⟩
set_option maxRecDepth 100000 in
set_option maxHeartbeats 4000000 in
theorem lift_yes {w:World} {g m neg ri Bc:Nat} {t1 t2:TypeId} {la lb:List UInt8} (hM:ModW w g m neg ri) (hP:Row w 6 t1 (AQ (nL m))) (hC:Row w 7 t2 (AQ (nL Bc))) (hBc:Bc < R256) (hla:la.length = 32) (hlb:lb.length = 32) (hx:natB la < m) (hy:natB lb < m) (hon:onM m Bc (natB la) (natB lb)) : Calls Tryz.prog 135 #[.agg (fC g),.agg (ptC la lb)] w fun e w'=>e = .returned (.agg (t3C (natB la) (natB lb) 1)) ∧ Below w.heap.size w w':=by
 have HM:=Lib.hid (show ∀ W,Below w.heap.size w W → ModW W g m neg ri from fun W hb=>hM.below hb)
 have HP:=Lib.hid hM.md.pos
 have HL:=Lib.hid hM.md.low
 clear hM
 have HGP:=Lib.hid (show ∀ W,Below w.heap.size w W → Row W 6 t1 (AQ (nL m)) from fun W hb=>hP.below hb hP.lt)
 have HGC:=Lib.hid (show ∀ W,Below w.heap.size w W → Row W 7 t2 (AQ (nL Bc)) from fun W hb=>hC.below hb hC.lt)
 have HBC:=Lib.hid hBc
 have HLA:=Lib.hid hla
 have HLB:=Lib.hid hlb
 have HON:=Lib.hid (⟨hx,hy,hon⟩ : _ ∧ _ ∧ _)
 have sz_p:=ptC_size hla hlb
 clear hP hC hBc hla hlb hx hy hon
 go_enter Tryz.func135,Tryz.ntmps135
 go_upto_region 1 with (fail)
 refine at_world (fun W=>Row W w.heap.size 243 (fC g) ∧ Row W (w.heap.size + 1) 169 (ptC la lb) ∧ Row W (w.heap.size + 1 + 1) 247 (t3C 0 0 0) ∧ Below w.heap.size w W) (⟨(((Row.newAt _ _ _ _ rfl).alloc _).alloc _),((Row.newAt _ _ _ _ (by simp)).alloc _),(by rw [t3C_zero]; exact (Row.newAt _ _ _ _ (by simp))),((((Below.refl _ w).alloc (Nat.le_refl _) _).alloc (by simp) _).alloc (by simp; omega) _)⟩) ?_
 rintro W1 ⟨i1_2,i1_3,i1_4,hB1⟩
 refine wp_region_lex 3 ?_
 simp only [List.take_succ_cons,List.take_zero,List.drop_succ_cons,List.drop_zero]
 (go_big_quiet_want; apply qn_load at_f rfl rfl i1_2 (hp_f g); (simp only [Act.put,lS]; go_big_quiet_on))
 (go_big_quiet_want; apply qn_load at_pt rfl rfl i1_3 (hp_p HLA.out HLB.out); (simp only [Act.put,lS]; go_big_quiet_on))
 (go_big_quiet_want; refine qa_call _ _ ?_ _ (fun w' hb=>on_yes (HM.out _ (hB1.trans (hb.mono hB1.size))) (HGP.out _ (hB1.trans (hb.mono hB1.size))) (HGC.out _ (hB1.trans (hb.mono hB1.size))) HBC.out HLA.out HLB.out HON.out.1 HON.out.2.1 HON.out.2.2) ?_; (focus (intro w; simp [go_sem]; done)); (simp only [Act.put,lS]; go_big_quiet_on))
 refine wpQuiet_nil ?_
 intro w2 hcc
 replace i1_2:=i1_2.below hcc.1 i1_2.lt
 replace i1_3:=i1_3.below hcc.1 i1_3.lt
 replace i1_4:=i1_4.below hcc.1 i1_4.lt
 have hg_le : w.heap.size ≤ w2.heap.size:=Nat.le_trans hB1.size hcc.1.size
 replace hB1:=hB1.trans (hcc.1.mono hB1.size)
 clear hcc hg_le
 go_upto_region 3 with (fail)
 refine at_world (fun W=>Row W (w.heap.size + 1) 169 (ptC la lb) ∧ Row W (w.heap.size + 1 + 1) 247 (t3C 0 0 0) ∧ Below w.heap.size w W) (⟨i1_3,i1_4,hB1⟩) ?_
 clear i1_3 i1_4 i1_2 hB1
 rintro W2 ⟨i2_3,i2_4,hB2⟩
 replace i2_3:=i2_3.drew
 replace i2_4:=i2_4.drew
 replace hB2:=hB2.drew
 obtain ⟨x12,h12⟩ : ∃ q_,q_ = natB la:=⟨_,rfl⟩
 have b_x12 : x12 < R256:=by rw [h12]; exact natB_lt32 HLA.out
 have H12:=Lib.hid h12
 clear h12
 obtain ⟨x15,h15⟩ : ∃ q_,q_ = natB lb:=⟨_,rfl⟩
 have b_x15 : x15 < R256:=by rw [h15]; exact natB_lt32 HLB.out
 have H15:=Lib.hid h15
 clear h15
 refine wp_region_allocs 8 [0,1,2,3,4,5,6,7] [] (fun _=>.cells #[] 0) (by kernel_rfl) (by kernel_rfl) (by kernel_rfl) (by kernel_rfl) ?hal ?h
 case hal =>
  intro k hk o ho
  cases hk
 case h =>
 apply Exists.intro
 refine ⟨fun R=>?_,?_⟩
 ·simp only [List.map_cons,List.map_nil,List.getD_cons_zero,List.getD_cons_succ]
  (first | go_big_quiet_skip | (go_big_quiet_want; go_big_quiet_op; first | go_big_quiet_on | (refine ⟨_,fun _ _=>rfl,?_⟩; go_big_quiet_on)))
  (go_big_quiet_want; apply qn_load at_b32 rfl rfl i2_3 (hp_pa HLA.out HLB.out); (simp only [Act.put,lS]; go_big_quiet_on))
  (go_big_quiet_want; refine qa_call _ _ ?_ _ (fun w' hb=>of_x HLA.out H12.out) ?_; (focus (intro w; simp [go_sem]; done)); (simp only [Act.put,lS]; go_big_quiet_on))
  (first | go_big_quiet_skip | (go_big_quiet_want; go_big_quiet_op; first | go_big_quiet_on | (refine ⟨_,fun _ _=>rfl,?_⟩; go_big_quiet_on)))
  (go_big_quiet_want; apply qn_load at_b32 rfl rfl i2_3 (hp_pb HLA.out HLB.out); (simp only [Act.put,lS]; go_big_quiet_on))
  (go_big_quiet_want; refine qa_call _ _ ?_ _ (fun w' hb=>of_x HLB.out H15.out) ?_; (focus (intro w; simp [go_sem]; done)); (simp only [Act.put,lS]; go_big_quiet_on))
  (go_big_quiet_want; refine qa_pure (.agg (AQ (nL 1))) (fun w=>by kernel_rfl) ?_; (simp only [Act.put,lS]; go_big_quiet_on))
  (go_big_quiet_want; refine qa_pure (.agg (t3C x12 x15 1)) (fun w=>by kernel_rfl) ?_; (simp only [Act.put,lS]; go_big_quiet_on))
  exact wpQuiet_nil rfl
 ·intro w2 hcc
  replace i2_3:=i2_3.below hcc.1 i2_3.lt
  replace i2_4:=i2_4.below hcc.1 i2_4.lt
  have hg_le : w.heap.size ≤ w2.heap.size:=Nat.le_trans hB2.size hcc.1.size
  replace hB2:=hB2.trans (hcc.1.mono hB2.size)
  clear hcc hg_le
  have lt_4:=i2_4.lt
  go_wp2_with fail
  exact ret_row (by first | exact .inl rfl | exact .inr rfl) rfl ((w.heap.size + 1 + 1)) 247 (t3C x12 x15 1) 12 _ rfl (i2_4.setRow _) Tryz.underlying247 rfl (by kernel_rfl) rfl ⟨by rw [H12.out,H15.out],(bSetRow hB2 (by omega) _)⟩
set_option maxRecDepth 100000 in
set_option maxHeartbeats 4000000 in
theorem drop_any {w:World} {g m neg ri a b c:Nat} (hM:ModW w g m neg ri) (ha:a < R256) (hb:b < R256) (hc:c < R256) (hu:(invI m c).u = 0) (hv:(invI m c).v = 1) : Calls Tryz.prog 139 #[.agg (fC g),.agg (t3C a b c)] w fun e w'=>e = .returned (.agg (ptC (be32 (mulM m a (mulM m (invI m c).y (invI m c).y))) (be32 (mulM m b (mulM m (invI m c).y (mulM m (invI m c).y (invI m c).y)))))) ∧ Below w.heap.size w w':=by
 have HM:=Lib.hid (show ∀ W,Below w.heap.size w W → ModW W g m neg ri from fun W hb=>hM.below hb)
 have HP:=Lib.hid hM.md.pos
 have HL:=Lib.hid hM.md.low
 clear hM
 have b_a:=ha
 have b_b:=hb
 have b_c:=hc
 have HI:=Lib.hid (⟨hu,hv⟩ : _ ∧ _)
 clear ha hb hc hu hv
 go_enter Tryz.func139,Tryz.ntmps139
 go_upto_region 1 with (fail)
 refine at_world (fun W=>Row W w.heap.size 243 (fC g) ∧ Row W (w.heap.size + 1) 247 (t3C a b c) ∧ Row W (w.heap.size + 1 + 1) 169 (ptC zer32 zer32) ∧ Below w.heap.size w W) (⟨(((Row.newAt _ _ _ _ rfl).alloc _).alloc _),((Row.newAt _ _ _ _ (by simp)).alloc _),(by rw [zerPt_eq]; exact (Row.newAt _ _ _ _ (by simp))),((((Below.refl _ w).alloc (Nat.le_refl _) _).alloc (by simp) _).alloc (by simp; omega) _)⟩) ?_
 rintro W1 ⟨i1_2,i1_3,i1_4,hB1⟩
 obtain ⟨x13,h13⟩ : ∃ q_,q_ = (invI m c).y:=⟨_,rfl⟩
 have b_x13 : x13 < R256:=by rw [h13]; exact (invI_lt HP.out HL.out).y
 have H13:=Lib.hid h13
 clear h13
 refine wp_region_lex 8 ?_
 simp only [List.take_succ_cons,List.take_zero,List.drop_succ_cons,List.drop_zero]
 (first | go_big_quiet_skip | (go_big_quiet_want; go_big_quiet_op; first | go_big_quiet_on | (refine ⟨_,fun _ _=>rfl,?_⟩; go_big_quiet_on)))
 (go_big_quiet_want; apply qn_load1 ot_mod rfl rfl i1_2 (fC_ptr g); (simp only [Act.put,lS]; go_big_quiet_on))
 (first | go_big_quiet_skip | (go_big_quiet_want; go_big_quiet_op; first | go_big_quiet_on | (refine ⟨_,fun _ _=>rfl,?_⟩; go_big_quiet_on)))
 (go_big_quiet_want; apply qn_load at_num rfl rfl i1_3 (hp_tz a b c); (simp only [Act.put,lS]; go_big_quiet_on))
 (go_big_quiet_want; refine qa_call _ _ ?_ _ (fun w' hb=>inv_x (HM.out _ (hB1.trans (hb.mono hB1.size))) b_c HI.out.1 HI.out.2 H13.out) ?_; (focus (intro w; simp [go_sem]; done)); (simp only [Act.put,lS]; go_big_quiet_on))
 (first | go_big_quiet_skip | (go_big_quiet_want; go_big_quiet_op; first | go_big_quiet_on | (refine ⟨_,fun _ _=>rfl,?_⟩; go_big_quiet_on)))
 (first | go_big_quiet_skip | (go_big_quiet_want; go_big_quiet_op; first | go_big_quiet_on | (refine ⟨_,fun _ _=>rfl,?_⟩; go_big_quiet_on)))
 (first | go_big_quiet_skip | (go_big_quiet_want; go_big_quiet_op; first | go_big_quiet_on | (refine ⟨_,fun _ _=>rfl,?_⟩; go_big_quiet_on)))
 refine wpQuiet_nil ?_
 intro V1 hcc
 replace i1_2:=i1_2.below hcc.1 i1_2.lt
 replace i1_3:=i1_3.below hcc.1 i1_3.lt
 replace i1_4:=i1_4.below hcc.1 i1_4.lt
 have lbV1 : w.heap.size ≤ V1.heap.size:=Nat.le_trans hB1.size hcc.1.size
 replace hB1:=hB1.trans (hcc.1.mono hB1.size)
 clear hcc
 have lV1_2 : w.heap.size < V1.heap.size:=i1_2.lt
 have lV1_3 : (w.heap.size + 1) < V1.heap.size:=i1_3.lt
 have lV1_4 : (w.heap.size + 1 + 1) < V1.heap.size:=i1_4.lt
 go_upto_region 4 with (fail)
 refine at_world (fun W=>Row W w.heap.size 243 (fC g) ∧ Row W (w.heap.size + 1) 247 (t3C a b c) ∧ Row W (w.heap.size + 1 + 1) 169 (ptC zer32 zer32) ∧ Row W V1.heap.size 177 (AQ (nL x13)) ∧ Below w.heap.size w W) (⟨((i1_2.alloc _).setRowOther _ _ (by omega)),((i1_3.alloc _).setRowOther _ _ (by omega)),((i1_4.alloc _).setRowOther _ _ (by omega)),((rowZ _ _ _ (by simp)).setRow _),(bSetRow (hB1.alloc (by first | exact lbV1 | (simp; omega)) _) (by omega) _)⟩) ?_
 clear i1_2 i1_3 i1_4 hB1
 rintro W2 ⟨i2_2,i2_3,i2_4,i2_5,hB2⟩
 obtain ⟨x23,h23⟩ : ∃ q_,q_ = mulM m x13 x13:=⟨_,rfl⟩
 have b_x23 : x23 < R256:=by rw [h23]; exact Nat.lt_trans (mulM_lt HP.out) HL.out
 have H23:=Lib.hid h23
 clear h23
 refine wp_region_num 6 [0,1,2,3,4] [5] (fun _=>.cells (AQ (nL 0)) 177) (by kernel_rfl) (by kernel_rfl) (by kernel_rfl) (by kernel_rfl) ?hal ?h
 case hal =>
  intro k hk o ho
  simp only [List.mem_cons,List.not_mem_nil,or_false] at hk
  subst hk
  ·cases ho; exact alF_of _ (fun _ _=>by kernel_rfl)
 case h =>
 apply Exists.intro
 refine ⟨fun R=>?_,?_⟩
 ·simp only [List.map_cons,List.map_nil,List.getD_cons_zero,List.getD_cons_succ]
  (first | go_big_quiet_skip | (go_big_quiet_want; go_big_quiet_op; first | go_big_quiet_on | (refine ⟨_,fun _ _=>rfl,?_⟩; go_big_quiet_on)))
  (go_big_quiet_want; apply qn_load1 ot_mod rfl rfl i2_2 (fC_ptr g); (simp only [Act.put,lS]; go_big_quiet_on))
  (go_big_quiet_want; apply qn_load at_num rfl rfl i2_5 (hp_num x13); (simp only [Act.put,lS]; go_big_quiet_on))
  (go_big_quiet_want; apply qn_load at_num rfl rfl i2_5 (hp_num x13); (simp only [Act.put,lS]; go_big_quiet_on))
  (go_big_quiet_want; refine qa_call _ _ ?_ _ (fun w' hb=>mul_x (HM.out _ (hB2.trans (hb.mono hB2.size))) b_x13 b_x13 H23.out) ?_; (focus (intro w; simp [go_sem]; done)); (simp only [Act.put,lS]; go_big_quiet_on))
  exact wpQuiet_nil rfl
 ·refine wpAl_consP rfl ?_
  intro g7 hg7 nng7
  intro w2 hcc
  have ne_2_g7 : w.heap.size ≠ g7:=by have:=i2_2.lt; omega
  have ne_3_g7 : (w.heap.size + 1) ≠ g7:=by have:=i2_3.lt; omega
  have ne_4_g7 : (w.heap.size + 1 + 1) ≠ g7:=by have:=i2_4.lt; omega
  have ne_5_g7 : V1.heap.size ≠ g7:=by have:=i2_5.lt; omega
  replace i2_2:=i2_2.below hcc.1 i2_2.lt
  replace i2_3:=i2_3.below hcc.1 i2_3.lt
  replace i2_4:=i2_4.below hcc.1 i2_4.lt
  replace i2_5:=i2_5.below hcc.1 i2_5.lt
  have j_7 : Row w2 g7 177 (AQ (nL 0)):=.of_heap (hcc.2 g7 _ (by simp [upd]))
  have hg_le : w.heap.size ≤ w2.heap.size:=Nat.le_trans hB2.size hcc.1.size
  have lb_g7 : w.heap.size ≤ g7:=Nat.le_trans hB2.size hg7
  replace hB2:=hB2.trans (hcc.1.mono hB2.size)
  clear hcc hg_le hg7 nng7
  have lt_7:=j_7.lt
  go_upto_region 5 with (fail)
  refine at_world (fun W=>Row W w.heap.size 243 (fC g) ∧ Row W (w.heap.size + 1) 247 (t3C a b c) ∧ Row W (w.heap.size + 1 + 1) 169 (ptC zer32 zer32) ∧ Row W V1.heap.size 177 (AQ (nL x13)) ∧ Row W g7 177 (AQ (nL x23)) ∧ Below w.heap.size w W) (⟨(i2_2.setRowOther _ _ (by omega)),(i2_3.setRowOther _ _ (by omega)),(i2_4.setRowOther _ _ (by omega)),(i2_5.setRowOther _ _ (by omega)),(j_7.setRow _),(bSetRow hB2 lb_g7 _)⟩) ?_
  clear i2_2 i2_3 i2_4 i2_5 j_7 lt_7 hB2
  rintro W3 ⟨i3_2,i3_3,i3_4,i3_5,i3_7,hB3⟩
  replace i3_2:=i3_2.drew
  replace i3_3:=i3_3.drew
  replace i3_4:=i3_4.drew
  replace i3_5:=i3_5.drew
  replace i3_7:=i3_7.drew
  replace hB3:=hB3.drew
  obtain ⟨x29,h29⟩ : ∃ q_,q_ = mulM m a x23:=⟨_,rfl⟩
  have b_x29 : x29 < R256:=by rw [h29]; exact Nat.lt_trans (mulM_lt HP.out) HL.out
  have H29:=Lib.hid h29
  clear h29
  obtain ⟨x39,h39⟩ : ∃ q_,q_ = mulM m x13 x23:=⟨_,rfl⟩
  have b_x39 : x39 < R256:=by rw [h39]; exact Nat.lt_trans (mulM_lt HP.out) HL.out
  have H39:=Lib.hid h39
  clear h39
  obtain ⟨x40,h40⟩ : ∃ q_,q_ = mulM m b x39:=⟨_,rfl⟩
  have b_x40 : x40 < R256:=by rw [h40]; exact Nat.lt_trans (mulM_lt HP.out) HL.out
  have H40:=Lib.hid h40
  clear h40
  have ovp:=over_pt zer32_len zer32_len (be32_len x29) (be32_len x40)
  have ops:=ptC_size (be32_len x29) (be32_len x40)
  have ops0:=ptC_size zer32_len zer32_len
  have opo:=ptC_one (be32 x29) (be32 x40)
  refine wp_region_allocs 19 [0,1,2,3,4,5,6,7,8,9,10,11,12,13,14,15,16,17,18] [] (fun _=>.cells #[] 0) (by kernel_rfl) (by kernel_rfl) (by kernel_rfl) (by kernel_rfl) ?hal ?h
  case hal =>
   intro k hk o ho
   cases hk
  case h =>
  apply Exists.intro
  refine ⟨fun R=>?_,?_⟩
  ·simp only [List.map_cons,List.map_nil,List.getD_cons_zero,List.getD_cons_succ]
   (first | go_big_quiet_skip | (go_big_quiet_want; go_big_quiet_op; first | go_big_quiet_on | (refine ⟨_,fun _ _=>rfl,?_⟩; go_big_quiet_on)))
   (go_big_quiet_want; apply qn_load1 ot_mod rfl rfl i3_2 (fC_ptr g); (simp only [Act.put,lS]; go_big_quiet_on))
   (first | go_big_quiet_skip | (go_big_quiet_want; go_big_quiet_op; first | go_big_quiet_on | (refine ⟨_,fun _ _=>rfl,?_⟩; go_big_quiet_on)))
   (go_big_quiet_want; apply qn_load at_num rfl rfl i3_3 (hp_tx a b c); (simp only [Act.put,lS]; go_big_quiet_on))
   (go_big_quiet_want; apply qn_load at_num rfl rfl i3_7 (hp_num x23); (simp only [Act.put,lS]; go_big_quiet_on))
   (go_big_quiet_want; refine qa_call _ _ ?_ _ (fun w' hb=>mul_x (HM.out _ (hB3.trans (hb.mono hB3.size))) b_a b_x23 H29.out) ?_; (focus (intro w; simp [go_sem]; done)); (simp only [Act.put,lS]; go_big_quiet_on))
   (go_big_quiet_want; refine qa_call _ _ ?_ _ (fun w' hb=>bytes_any w' x29) ?_; (focus (intro w; simp [go_sem]; done)); (simp only [Act.put,lS]; go_big_quiet_on))
   (first | go_big_quiet_skip | (go_big_quiet_want; go_big_quiet_op; first | go_big_quiet_on | (refine ⟨_,fun _ _=>rfl,?_⟩; go_big_quiet_on)))
   (go_big_quiet_want; apply qn_load1 ot_mod rfl rfl i3_2 (fC_ptr g); (simp only [Act.put,lS]; go_big_quiet_on))
   (first | go_big_quiet_skip | (go_big_quiet_want; go_big_quiet_op; first | go_big_quiet_on | (refine ⟨_,fun _ _=>rfl,?_⟩; go_big_quiet_on)))
   (go_big_quiet_want; apply qn_load at_num rfl rfl i3_3 (hp_ty a b c); (simp only [Act.put,lS]; go_big_quiet_on))
   (first | go_big_quiet_skip | (go_big_quiet_want; go_big_quiet_op; first | go_big_quiet_on | (refine ⟨_,fun _ _=>rfl,?_⟩; go_big_quiet_on)))
   (go_big_quiet_want; apply qn_load1 ot_mod rfl rfl i3_2 (fC_ptr g); (simp only [Act.put,lS]; go_big_quiet_on))
   (go_big_quiet_want; apply qn_load at_num rfl rfl i3_5 (hp_num x13); (simp only [Act.put,lS]; go_big_quiet_on))
   (go_big_quiet_want; apply qn_load at_num rfl rfl i3_7 (hp_num x23); (simp only [Act.put,lS]; go_big_quiet_on))
   (go_big_quiet_want; refine qa_call _ _ ?_ _ (fun w' hb=>mul_x (HM.out _ (hB3.trans (hb.mono hB3.size))) b_x13 b_x23 H39.out) ?_; (focus (intro w; simp [go_sem]; done)); (simp only [Act.put,lS]; go_big_quiet_on))
   (go_big_quiet_want; refine qa_call _ _ ?_ _ (fun w' hb=>mul_x (HM.out _ (hB3.trans (hb.mono hB3.size))) b_b b_x39 H40.out) ?_; (focus (intro w; simp [go_sem]; done)); (simp only [Act.put,lS]; go_big_quiet_on))
   (go_big_quiet_want; refine qa_call _ _ ?_ _ (fun w' hb=>bytes_any w' x40) ?_; (focus (intro w; simp [go_sem]; done)); (simp only [Act.put,lS]; go_big_quiet_on))
   (go_big_quiet_want; refine qa_pure (.agg (ptC (be32 x29) (be32 x40))) (run_pt (be32_len x29) (be32_len x40) rfl rfl) ?_; (simp only [Act.put,lS]; go_big_quiet_on))
   exact wpQuiet_nil rfl
  ·intro w2 hcc
   replace i3_2:=i3_2.below hcc.1 i3_2.lt
   replace i3_3:=i3_3.below hcc.1 i3_3.lt
   replace i3_4:=i3_4.below hcc.1 i3_4.lt
   replace i3_5:=i3_5.below hcc.1 i3_5.lt
   replace i3_7:=i3_7.below hcc.1 i3_7.lt
   have hg_le : w.heap.size ≤ w2.heap.size:=Nat.le_trans hB3.size hcc.1.size
   replace hB3:=hB3.trans (hcc.1.mono hB3.size)
   clear hcc hg_le
   have lt_4:=i3_4.lt
   go_wp2_with fail
   exact ret_row (by first | exact .inl rfl | exact .inr rfl) rfl ((w.heap.size + 1 + 1)) 169 (ptC (be32 x29) (be32 x40)) 64 _ rfl (i3_4.setRow _) Tryz.underlying169 rfl (by kernel_rfl) (ptC_size (be32_len x29) (be32_len x40)) ⟨by rw [H29.out,H40.out,H39.out,H23.out,H13.out],(bSetRow hB3 (by omega) _)⟩
end Go.Proofs.YtjpfhhndjpdmoaaGreatDoor
