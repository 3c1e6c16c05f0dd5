/- Part of the proof: Inv. No conditions of its own. -/
import Derived.Test.YtjpfhhndjpdmoaaGreatDoorF14
namespace Go.Proofs.YtjpfhhndjpdmoaaGreatDoor
open Go.RowKit
set_option linter.unusedVariables false
set_option linter.unusedSimpArgs false

structure ILt (s:I4) : Prop where
 u : s.u < R256
 v : s.v < R256
 x : s.x < R256
 y : s.y < R256
theorem invF_done {m:Nat} {s:I4} (h:s.u = 0) : ∀ k,invF m k s = s
 | 0=>rfl
 | k + 1=>by unfold invF; rw [if_pos h]
theorem invF_step {m k:Nat} {s:I4} (h:¬ s.u = 0) : invF m (k + 1) s = invF m k (invStep m s):=by
 conv=>lhs; unfold invF
 rw [if_neg h,frcI_eq]
theorem invF_fuel {m k:Nat} {s fin:I4} (hf:invF m k s = fin) (h0:fin.u = 0) (h:¬ s.u = 0) : ∃ j,k = j + 1:=by
 cases k with
 | zero=>exact absurd (by rw [← hf] at h0; exact h0) h
 | succ j=>exact ⟨j,rfl⟩

def InvCut (w:World) (b4 x m:Nat) (t6 t7:Value) (wx:World) : Prop:=∃ g6 g7,t6 = .pointer (some ⟨g6,0,none⟩) ∧ t7 = .pointer (some ⟨g7,0,none⟩) ∧ (w.heap.size ≤ g6 ∧ w.heap.size ≤ g7 ∧ g7 ≠ g6 ∧ b4 ≠ g6 ∧ b4 ≠ g7) ∧ Row wx b4 177 (AQ (nL 0)) ∧ Row wx g6 177 (AQ (nL x)) ∧ Row wx g7 177 (AQ (nL m)) ∧ Below w.heap.size w wx
section
variable {w w2:World} {b4 x m k:Nat} (r4:Row w2 b4 177 (AQ (nL 0))) (hN:Below w.heap.size w w2) (hw:w.heap.size ≤ k) (hb:b4 < k) (hk:k < w2.heap.size)
include r4 hN in
theorem icut0a  : InvCut w b4 x m (.pointer (some ⟨w2.heap.size,0,none⟩)) (.pointer (some ⟨(w2.heap.size + 1),0,none⟩)) ((((w2.alloc (.cells #[.int .u64 0,.int .u64 0,.int .u64 0,.int .u64 0] 177)).alloc (.cells #[.int .u64 0,.int .u64 0,.int .u64 0,.int .u64 0] 177)).setRow w2.heap.size (AQ (nL x))).setRow (w2.heap.size + 1) (AQ (nL m))) :=
 have hs:=hN.size
 have h4:=r4.lt
 ⟨w2.heap.size,(w2.heap.size + 1),rfl,rfl,⟨by omega,by omega,by omega,by omega,by omega⟩,(((r4.alloc _).alloc _).setRowOther _ _ (by omega)).setRowOther _ _ (by omega),(((Row.newAt w2 w2.heap.size _ _ rfl).alloc _).setRow _).setRowOther _ _ (by omega),((Row.newAt (w2.alloc (.cells #[.int .u64 0,.int .u64 0,.int .u64 0,.int .u64 0] 177)) (w2.heap.size + 1) _ _ (by simp)).setRowOther _ _ (by omega)).setRow _,bSetRow (bSetRow ((hN.alloc hs _).alloc (by simp; omega) _) (by omega) _) (by omega) _⟩
include r4 hN in
theorem icut0b  : InvCut w b4 x m (.pointer (some ⟨(w2.heap.size + 1),0,none⟩)) (.pointer (some ⟨w2.heap.size,0,none⟩)) ((((w2.alloc (.cells #[.int .u64 0,.int .u64 0,.int .u64 0,.int .u64 0] 177)).alloc (.cells #[.int .u64 0,.int .u64 0,.int .u64 0,.int .u64 0] 177)).setRow (w2.heap.size + 1) (AQ (nL x))).setRow w2.heap.size (AQ (nL m))) :=
 have hs:=hN.size
 have h4:=r4.lt
 ⟨(w2.heap.size + 1),w2.heap.size,rfl,rfl,⟨by omega,by omega,by omega,by omega,by omega⟩,(((r4.alloc _).alloc _).setRowOther _ _ (by omega)).setRowOther _ _ (by omega),((Row.newAt (w2.alloc (.cells #[.int .u64 0,.int .u64 0,.int .u64 0,.int .u64 0] 177)) (w2.heap.size + 1) _ _ (by simp)).setRow _).setRowOther _ _ (by omega),(((Row.newAt w2 w2.heap.size _ _ rfl).alloc _).setRowOther _ _ (by omega)).setRow _,bSetRow (bSetRow ((hN.alloc hs _).alloc (by simp; omega) _) (by omega) _) (by omega) _⟩
include r4 hN in
theorem icut1a (hw:w.heap.size ≤ k) (hb:b4 < k) (z:Row w2 k 177 #[.int .u64 0,.int .u64 0,.int .u64 0,.int .u64 0]) : InvCut w b4 x m (.pointer (some ⟨k,0,none⟩)) (.pointer (some ⟨w2.heap.size,0,none⟩)) (((w2.alloc (.cells #[.int .u64 0,.int .u64 0,.int .u64 0,.int .u64 0] 177)).setRow k (AQ (nL x))).setRow w2.heap.size (AQ (nL m))) :=
 have hs:=hN.size
 have h4:=r4.lt
 have hz:=z.lt
 ⟨k,w2.heap.size,rfl,rfl,⟨by omega,by omega,by omega,by omega,by omega⟩,((r4.alloc _).setRowOther _ _ (by omega)).setRowOther _ _ (by omega),((z.alloc _).setRow _).setRowOther _ _ (by omega),((Row.newAt w2 w2.heap.size _ _ rfl).setRowOther _ _ (by omega)).setRow _,bSetRow (bSetRow (hN.alloc hs _) (by omega) _) (by omega) _⟩
include r4 hN in
theorem icut1b (hw:w.heap.size ≤ k) (hb:b4 < k) (z:Row w2 k 177 #[.int .u64 0,.int .u64 0,.int .u64 0,.int .u64 0]) : InvCut w b4 x m (.pointer (some ⟨w2.heap.size,0,none⟩)) (.pointer (some ⟨k,0,none⟩)) (((w2.alloc (.cells #[.int .u64 0,.int .u64 0,.int .u64 0,.int .u64 0] 177)).setRow w2.heap.size (AQ (nL x))).setRow k (AQ (nL m))) :=
 have hs:=hN.size
 have h4:=r4.lt
 have hz:=z.lt
 ⟨w2.heap.size,k,rfl,rfl,⟨by omega,by omega,by omega,by omega,by omega⟩,((r4.alloc _).setRowOther _ _ (by omega)).setRowOther _ _ (by omega),((Row.newAt w2 w2.heap.size _ _ rfl).setRow _).setRowOther _ _ (by omega),((z.alloc _).setRowOther _ _ (by omega)).setRow _,bSetRow (bSetRow (hN.alloc hs _) (by omega) _) (by omega) _⟩
include r4 hN in
theorem icut2a (hw:w.heap.size ≤ k) (hb:b4 < k) (z:Row w2 k 177 #[.int .u64 0,.int .u64 0,.int .u64 0,.int .u64 0]) (z2:Row w2 (k + 1) 177 #[.int .u64 0,.int .u64 0,.int .u64 0,.int .u64 0]) : InvCut w b4 x m (.pointer (some ⟨k,0,none⟩)) (.pointer (some ⟨(k + 1),0,none⟩)) ((w2.setRow k (AQ (nL x))).setRow (k + 1) (AQ (nL m))) :=
 have hs:=hN.size
 have h4:=r4.lt
 have hz:=z.lt
 ⟨k,(k + 1),rfl,rfl,⟨by omega,by omega,by omega,by omega,by omega⟩,((r4).setRowOther _ _ (by omega)).setRowOther _ _ (by omega),((z).setRow _).setRowOther _ _ (by omega),((z2).setRowOther _ _ (by omega)).setRow _,bSetRow (bSetRow (hN) (by omega) _) (by omega) _⟩
include r4 hN in
theorem icut2b (hw:w.heap.size ≤ k) (hb:b4 < k) (z:Row w2 k 177 #[.int .u64 0,.int .u64 0,.int .u64 0,.int .u64 0]) (z2:Row w2 (k + 1) 177 #[.int .u64 0,.int .u64 0,.int .u64 0,.int .u64 0]) : InvCut w b4 x m (.pointer (some ⟨(k + 1),0,none⟩)) (.pointer (some ⟨k,0,none⟩)) ((w2.setRow (k + 1) (AQ (nL x))).setRow k (AQ (nL m))) :=
 have hs:=hN.size
 have h4:=r4.lt
 have hz:=z.lt
 ⟨(k + 1),k,rfl,rfl,⟨by omega,by omega,by omega,by omega,by omega⟩,((r4).setRowOther _ _ (by omega)).setRowOther _ _ (by omega),((z2).setRow _).setRowOther _ _ (by omega),((z).setRowOther _ _ (by omega)).setRow _,bSetRow (bSetRow (hN) (by omega) _) (by omega) _⟩
end
set_option maxRecDepth 100000 in
set_option maxHeartbeats 4000000 in
theorem inv_any {w:World} {g m neg ri a:Nat} (hM:ModW w g m neg ri) (ha:a < R256) (hu:(invI m a).u = 0) (hv:(invI m a).v = 1) : Calls Tryz.prog 94 #[.pointer (some ⟨g,0,none⟩),.agg (AQ (nL a))] w fun e w'=>e = .returned (.tuple #[.agg (AQ (nL (invI m a).y)),.int .i64 0]) ∧ Below w.heap.size w w':=by
 have HM:=Lib.hid (show ∀ W,Below w.heap.size w W → ModW W g m neg ri from fun W hb=>hM.below hb)
 have HP:=Lib.hid hM.md.pos
 have HL:=Lib.hid hM.md.low
 clear hM
 have b_a:=ha
 have HF:=Lib.hid (⟨hu,hv⟩ : _ ∧ _)
 clear ha hu hv
 obtain ⟨fin,hfin⟩ : ∃ f,f = invI m a:=⟨_,rfl⟩
 rw [← hfin] at HF ⊢
 have HFIN:=Lib.hid hfin
 clear hfin
 go_enter Tryz.func94,Tryz.ntmps94
 go_upto_region 3 with (fail)
 refine at_world (fun W=>Row W w.heap.size 177 (AQ (nL a)) ∧ Row W (w.heap.size + 1) 177 (AQ (nL 0)) ∧ Below w.heap.size w W) (⟨((Row.newAt _ _ _ _ rfl).alloc _),(by rw [nAQ_zero]; exact (Row.newAt _ _ _ _ (by simp))),(((Below.refl _ w).alloc (Nat.le_refl _) _).alloc (by simp) _)⟩) ?_
 rintro W1 ⟨i1_3,i1_4,hB1⟩
 obtain ⟨x15,h15⟩ : ∃ q_,q_ = a % m:=⟨_,rfl⟩
 have b_x15 : x15 < R256:=by rw [h15]; exact Nat.lt_trans (Nat.mod_lt _ HP.out) HL.out
 have H15:=Lib.hid h15
 clear h15
 have d4:=i1_4.drew
 have lt4 : (w.heap.size + 1) < W1.heap.size:=i1_4.lt
 have d3:=i1_3.drew
 have lt3 : w.heap.size < W1.heap.size:=i1_3.lt
 have dm : Row W1.drew g 260 (modC m neg):=(HM.out _ hB1.drew).row
 have um : Row W1 g 260 (modC m neg):=(HM.out _ hB1).row
 have ltm : g < W1.heap.size:=um.lt
 have cm1:=modC_m m neg
 have cm3 : #[(modC m neg)[0]'(by rw [modC_size]; decide),(modC m neg)[1]'(by rw [modC_size]; decide),(modC m neg)[2]'(by rw [modC_size]; decide),(modC m neg)[3]'(by rw [modC_size]; decide)] = AQ (nL m):=by kernel_rfl
 have cm2:=modC_size m neg
 have lbW:=hB1.size
 have ltm1 : g < W1.heap.size + 1:=by omega
 have da2 : Row ((W1.alloc (.cells #[.int .u64 0,.int .u64 0,.int .u64 0,.int .u64 0] 177)).alloc (.cells #[.int .u64 0,.int .u64 0,.int .u64 0,.int .u64 0] 177)) w.heap.size 177 (AQ (nL a)):=(i1_3.alloc _).alloc _
 have da3 : Row ((W1.alloc (.cells #[.int .u64 0,.int .u64 0,.int .u64 0,.int .u64 0] 177)).alloc (.cells #[.int .u64 0,.int .u64 0,.int .u64 0,.int .u64 0] 177)).drew w.heap.size 177 (AQ (nL a)):=(i1_3.alloc _).alloc _
 have dm2 : Row ((W1.alloc (.cells #[.int .u64 0,.int .u64 0,.int .u64 0,.int .u64 0] 177)).alloc (.cells #[.int .u64 0,.int .u64 0,.int .u64 0,.int .u64 0] 177)) g 260 (modC m neg):=(um.alloc _).alloc _
 have dm3 : Row ((W1.alloc (.cells #[.int .u64 0,.int .u64 0,.int .u64 0,.int .u64 0] 177)).alloc (.cells #[.int .u64 0,.int .u64 0,.int .u64 0,.int .u64 0] 177)).drew g 260 (modC m neg):=(um.alloc _).alloc _
 go_cut [6,7] (fun t6 t7 wx=>InvCut w (w.heap.size + 1) x15 m t6 t7 wx)
 case first =>
  go_region_law (first
   | (refine wp_callQ 92 #[.pointer (some ⟨g,0,none⟩),.agg (AQ (nL a))] ?_ ?_
      (focus (simp [go_sem]; done))
      first
       | (refine (rest_x (HM.out _ hB1.drew) b_a H15.out).mono ?_
          rintro _ w2 ⟨rfl,hB⟩
          refine ⟨_,rfl,?_⟩
          have r4:=(show Row w2 (w.heap.size + 1) 177 (AQ (nL 0)) from d4.below hB d4.lt)
          have rm:=(show Row w2 g 260 (modC m neg) from dm.below hB dm.lt)
          have rml:=rm.lt
          have hN2:=Lib.hid (show Below w.heap.size w w2 from hB1.drew.trans (hB.mono (by first | exact hB1.size | (simp; omega))))
          have rmn : g ≠ w2.heap.size:=by omega
          have rml1 : g < w2.heap.size + 1:=by omega
          have rmn1 : g ≠ w2.heap.size + 1:=by omega
          have rmn2 : g ≠ W1.heap.size:=by omega
          have rmn3 : g ≠ W1.heap.size + 1:=by omega
          have hl2 : W1.heap.size + 0 ≤ w2.heap.size:=by have:=hB.size; simp at this; omega
          have rms12 : Row (((w2.alloc (.cells #[.int .u64 0,.int .u64 0,.int .u64 0,.int .u64 0] 177)).alloc (.cells #[.int .u64 0,.int .u64 0,.int .u64 0,.int .u64 0] 177)).setRow w2.heap.size (AQ (nL x15))) g 260 (modC m neg):=((rm.alloc _).alloc _).setRowOther _ _ (by omega)
          have rms18 : Row (((w2.alloc (.cells #[.int .u64 0,.int .u64 0,.int .u64 0,.int .u64 0] 177)).alloc (.cells #[.int .u64 0,.int .u64 0,.int .u64 0,.int .u64 0] 177)).setRow (w2.heap.size + 1) (AQ (nL x15))) g 260 (modC m neg):=((rm.alloc _).alloc _).setRowOther _ _ (by omega)
          clear hB)
       | (refine (rest_x (HM.out _ (hB1.drew.alloc (by first | exact hB1.size | (simp; omega)) _)) b_a H15.out).mono ?_
          rintro _ w2 ⟨rfl,hB⟩
          refine ⟨_,rfl,?_⟩
          have r4:=(show Row w2 (w.heap.size + 1) 177 (AQ (nL 0)) from (d4.alloc _).below hB (d4.alloc _).lt)
          have rm:=(show Row w2 g 260 (modC m neg) from (dm.alloc _).below hB (dm.alloc _).lt)
          have rml:=rm.lt
          have hN2:=Lib.hid (show Below w.heap.size w w2 from (hB1.drew.alloc (by first | exact hB1.size | (simp; omega)) _).trans (hB.mono (by first | exact hB1.size | (simp; omega))))
          have rmn : g ≠ w2.heap.size:=by omega
          have rml1 : g < w2.heap.size + 1:=by omega
          have rmn1 : g ≠ w2.heap.size + 1:=by omega
          have rmn2 : g ≠ W1.heap.size:=by omega
          have rmn3 : g ≠ W1.heap.size + 1:=by omega
          have hl2 : W1.heap.size + 1 ≤ w2.heap.size:=by have:=hB.size; simp at this; omega
          have z6:=(show Row w2 W1.heap.size 177 #[.int .u64 0,.int .u64 0,.int .u64 0,.int .u64 0] from (Row.new W1.drew 177 #[.int .u64 0,.int .u64 0,.int .u64 0,.int .u64 0]).below hB (Row.new W1.drew 177 #[.int .u64 0,.int .u64 0,.int .u64 0,.int .u64 0]).lt)
          have z6l:=z6.lt
          have z6n : w2.heap.size ≠ W1.heap.size:=by omega
          have z6m : W1.heap.size ≠ w2.heap.size:=by omega
          clear hB)
       | (refine (rest_x (HM.out _ ((hB1.drew.alloc (by first | exact hB1.size | (simp; omega)) _).alloc (by first | exact hB1.size | (simp; omega)) _)) b_a H15.out).mono ?_
          rintro _ w2 ⟨rfl,hB⟩
          refine ⟨_,rfl,?_⟩
          have r4:=(show Row w2 (w.heap.size + 1) 177 (AQ (nL 0)) from ((d4.alloc _).alloc _).below hB ((d4.alloc _).alloc _).lt)
          have rm:=(show Row w2 g 260 (modC m neg) from ((dm.alloc _).alloc _).below hB ((dm.alloc _).alloc _).lt)
          have rml:=rm.lt
          have hN2:=Lib.hid (show Below w.heap.size w w2 from ((hB1.drew.alloc (by first | exact hB1.size | (simp; omega)) _).alloc (by first | exact hB1.size | (simp; omega)) _).trans (hB.mono (by first | exact hB1.size | (simp; omega))))
          have rmn : g ≠ w2.heap.size:=by omega
          have rml1 : g < w2.heap.size + 1:=by omega
          have rmn1 : g ≠ w2.heap.size + 1:=by omega
          have rmn2 : g ≠ W1.heap.size:=by omega
          have rmn3 : g ≠ W1.heap.size + 1:=by omega
          have hl2 : W1.heap.size + 2 ≤ w2.heap.size:=by have:=hB.size; simp at this; omega
          have z6:=(show Row w2 W1.heap.size 177 #[.int .u64 0,.int .u64 0,.int .u64 0,.int .u64 0] from ((Row.new W1.drew 177 #[.int .u64 0,.int .u64 0,.int .u64 0,.int .u64 0]).alloc _).below hB ((Row.new W1.drew 177 #[.int .u64 0,.int .u64 0,.int .u64 0,.int .u64 0]).alloc _).lt)
          have z6l:=z6.lt
          have z6n : w2.heap.size ≠ W1.heap.size:=by omega
          have z6m : W1.heap.size ≠ w2.heap.size:=by omega
          have z7:=(show Row w2 (W1.heap.size + 1) 177 #[.int .u64 0,.int .u64 0,.int .u64 0,.int .u64 0] from by have h:=Row.newAt (W1.drew.alloc (.cells #[.int .u64 0,.int .u64 0,.int .u64 0,.int .u64 0] 177)) (W1.heap.size + 1) 177 #[.int .u64 0,.int .u64 0,.int .u64 0,.int .u64 0] (by simp); exact h.below hB h.lt)
          have z7l:=z7.lt
          clear hB)
      )
   | fail)
  all_goals
   go_wp2_with fail
   go_meet
   case rel =>
    first
     | (with_reducible exact icut2a r4 hN2.out lbW lt4 z6 z7)
     | (with_reducible exact icut2b r4 hN2.out lbW lt4 z6 z7)
     | (with_reducible exact icut1a r4 hN2.out lbW lt4 z6)
     | (with_reducible exact icut1b r4 hN2.out lbW lt4 z6)
     | (with_reducible exact icut0a r4 hN2.out)
     | (with_reducible exact icut0b r4 hN2.out)
 case rest =>
  obtain ⟨g6,g7,rfl,rfl,⟨lb_g6,lb_g7,ne_g7_g6,ne_4_g6,ne_4_g7⟩,ii4,j_6,j_7,hBx⟩:=hcut
  clear hB1 i1_4 i1_3 d3 d4 lt3 lt4 dm um ltm ltm1 cm1 cm2 cm3 lbW da2 da3 dm2 dm3
  go_upto_region 4 with (fail)
  refine at_world (fun W=>Row W (w.heap.size + 1) 177 (AQ (nL 0)) ∧ Row W g6 177 (AQ (nL x15)) ∧ Row W g7 177 (AQ (nL m)) ∧ Below w.heap.size w W) (⟨ii4,j_6,j_7,hBx⟩) ?_
  clear ii4 j_6 j_7 hBx
  rintro W2 ⟨i2_4,i2_6,i2_7,hB2⟩
  refine wp_region_lex 2 ?_
  simp only [List.take_succ_cons,List.take_zero,List.drop_succ_cons,List.drop_zero]
  (go_big_quiet_want; refine qa_pure (.agg (AQ (nL 1))) (fun w=>by kernel_rfl) ?_; (simp only [Act.put,lS]; go_big_quiet_on))
  (go_big_quiet_want; refine qa_pure (.agg (AQ (nL 0))) (fun w=>by kernel_rfl) ?_; (simp only [Act.put,lS]; go_big_quiet_on))
  refine wpQuiet_nil ?_
  intro V2 hcc
  replace i2_4:=i2_4.below hcc.1 i2_4.lt
  replace i2_6:=i2_6.below hcc.1 i2_6.lt
  replace i2_7:=i2_7.below hcc.1 i2_7.lt
  have lbV2 : w.heap.size ≤ V2.heap.size:=Nat.le_trans hB2.size hcc.1.size
  replace hB2:=hB2.trans (hcc.1.mono hB2.size)
  clear hcc
  have lV2_4 : (w.heap.size + 1) < V2.heap.size:=i2_4.lt
  have lV2_6 : g6 < V2.heap.size:=i2_6.lt
  have lV2_7 : g7 < V2.heap.size:=i2_7.lt
  go_upto_region 5 with (fail)
  refine at_world (fun W=>Row W (w.heap.size + 1) 177 (AQ (nL 0)) ∧ Row W g6 177 (AQ (nL x15)) ∧ Row W g7 177 (AQ (nL m)) ∧ Row W V2.heap.size 177 (AQ (nL 1)) ∧ Row W (V2.heap.size + 1) 177 (AQ (nL 0)) ∧ Below w.heap.size w W) (⟨((((i2_4.alloc _).alloc _).setRowOther _ _ (by omega)).setRowOther _ _ (by omega)),((((i2_6.alloc _).alloc _).setRowOther _ _ (by omega)).setRowOther _ _ (by omega)),((((i2_7.alloc _).alloc _).setRowOther _ _ (by omega)).setRowOther _ _ (by omega)),((((rowZ _ _ _ (by simp)).alloc _).setRow _).setRowOther _ _ (by omega)),(((rowZ _ _ _ (by simp)).setRowOther _ _ (by omega)).setRow _),(bSetRow (bSetRow ((hB2.alloc (by first | exact lbV2 | (simp; omega)) _).alloc (by first | exact lbV2 | (simp; omega)) _) (by omega) _) (by omega) _)⟩) ?_
  clear i2_4 i2_6 i2_7 hB2
  rintro W3 ⟨i3_4,i3_6,i3_7,i3_8,i3_9,hB3⟩
  obtain ⟨g8,hg8⟩ : ∃ q_,q_ = V2.heap.size:=⟨_,rfl⟩
  obtain ⟨g9,hg9⟩ : ∃ q_,q_ = V2.heap.size + 1:=⟨_,rfl⟩
  rw [← hg9] at i3_9 ⊢
  rw [← hg8] at i3_8 ⊢
  have HI1:=Lib.hid (⟨hB3,hB3⟩ : _ ∧ _)
  have HNE:=Lib.hid (show g7 ≠ g6 ∧ (w.heap.size + 1) ≠ g6 ∧ (w.heap.size + 1) ≠ g7 ∧ (w.heap.size + 1) ≠ g8 ∧ (w.heap.size + 1) ≠ g9 ∧ g6 ≠ g8 ∧ g6 ≠ g9 ∧ g7 ≠ g8 ∧ g7 ≠ g9 ∧ g9 ≠ g8 from by omega)
  have HLB:=Lib.hid (show w.heap.size ≤ g6 ∧ w.heap.size ≤ g7 ∧ w.heap.size ≤ g8 ∧ w.heap.size ≤ g9 from by omega)
  clear ne_g7_g6 ne_4_g6 ne_4_g7 lb_g6 lb_g7 hg8 hg9 lbV2 lV2_4 lV2_6 lV2_7
  go_wp2_with fail
  go_loopg [] 1100 (fun gk wr=>∃ st : I4,invF m gk st = fin ∧ ILt st ∧ Row wr (w.heap.size + 1) 177 (AQ (nL 0)) ∧ Row wr g6 177 (AQ (nL st.u)) ∧ Row wr g7 177 (AQ (nL st.v)) ∧ Row wr g8 177 (AQ (nL st.x)) ∧ Row wr g9 177 (AQ (nL st.y)) ∧ Below w.heap.size w wr)
  case atStart=>exact ⟨⟨x15,m,1,0⟩,by rw [H15.out,HFIN.out]; rfl,⟨b_x15,HL.out,(by show 1 < R256; decide),(by show 0 < R256; decide)⟩,i3_4,i3_6,i3_7,i3_8,i3_9,hB3⟩
  case round =>
   clear i3_4 i3_6 i3_7 i3_8 i3_9 hB3 HI1 H15 b_x15 b_a
   obtain ⟨⟨u,v,x,y⟩,hf,⟨b_u,b_v,b_x,b_y⟩,r4,r6,r7,r8,r9,hB0⟩:=hrel
   simp only at b_u b_v b_x b_y r6 r7 r8 r9
   obtain ⟨n1,n2,n3,n4,n5,n6,n7,n8,n9,n10⟩:=HNE.out
   obtain ⟨lb_g6,lb_g7,lb_g8,lb_g9⟩:=HLB.out
   by_cases hu : u = 0
   ·have hs : fin = ⟨u,v,x,y⟩:=by rw [← hf]; exact invF_done hu gk
    subst hu
    have hv1 : v = 1:=by have:=HF.out.2; rw [hs] at this; exact this
    subst hv1
    have HS:=Lib.hid hs
    clear hs hf
    have lt4:=r4.lt
    go_wp2_with fail
    refine ret_rowT ?_ rfl ((w.heap.size + 1)) 177 (AQ (nL y)) 4 _ (.int .i64 0) ?_ (r4.setRow _) ?_ Tryz.underlying177 rfl (by kernel_rfl) rfl ?_
    ·first | exact .inl rfl | exact .inr rfl
    ·rfl
    ·rfl
    ·exact ⟨by rw [HS.out],bSetRow hB0 (by omega) _⟩
   ·obtain ⟨j,rfl⟩:=invF_fuel hf HF.out.1 hu
    rw [invF_step hu] at hf
    obtain ⟨x0,hx0⟩ : ∃ x,x = lim u 0:=⟨_,rfl⟩
    have c0 : wr.cell? ⟨g6,0,none⟩ = some (Q x0):=by rw [r6.cell,hx0]; rfl
    rcases Nat.mod_two_eq_zero_or_one u with hp | hp
    ·have f1 : bits .and .u64 (x0:Int) 1 = 0:=by have:=ba_one x0 (by rw [hx0]; exact lim_lt _ _); rw [this,hx0,lim0_even,hp]; rfl
     have hst : invStep m ⟨u,v,x,y⟩ = ⟨u / 2,v,halveM m x,y⟩:=by unfold invStep; rw [if_pos hp]
     rw [hst] at hf
     have HJ:=Lib.hid hf
     clear hst hf hp hx0
     go_upto_region 7 with (fail)
     refine at_world (fun W=>Row W (w.heap.size + 1) 177 (AQ (nL 0)) ∧ Row W g6 177 (AQ (nL u)) ∧ Row W g7 177 (AQ (nL v)) ∧ Row W g8 177 (AQ (nL x)) ∧ Row W g9 177 (AQ (nL y)) ∧ Below w.heap.size w W) (⟨r4,r6,r7,r8,r9,hB0⟩) ?_
     clear r4 r6 r7 r8 r9 hB0
     rintro W4 ⟨i4_4,i4_6,i4_7,i4_8,i4_9,hB4⟩
     replace i4_4:=i4_4.drew
     replace i4_6:=i4_6.drew
     replace i4_7:=i4_7.drew
     replace i4_8:=i4_8.drew
     replace i4_9:=i4_9.drew
     replace hB4:=hB4.drew
     obtain ⟨x31,h31⟩ : ∃ q_,q_ = hlf u 0:=⟨_,rfl⟩
     have b_x31 : x31 < R256:=by rw [h31]; exact hlf_lt b_u (by decide)
     have H31:=Lib.hid h31
     clear h31
     obtain ⟨x34,h34⟩ : ∃ q_,q_ = halveM m x:=⟨_,rfl⟩
     have b_x34 : x34 < R256:=by rw [h34]; exact halveM_lt b_x HL.out
     have H34:=Lib.hid h34
     clear h34
     refine wp_region_allocs 5 [0,1,2,3,4] [] (fun _=>.cells #[] 0) (by kernel_rfl) (by kernel_rfl) (by kernel_rfl) (by kernel_rfl) ?hal ?h
     case hal =>
      intro k hk o ho
      cases hk
     case h =>
     apply Exists.intro
     refine ⟨fun R=>?_,?_⟩
     ·simp only [List.map_cons,List.map_nil,List.getD_cons_zero,List.getD_cons_succ]
      (go_big_quiet_want; apply qn_load at_num rfl rfl i4_6 (hp_num u); (simp only [Act.put,lS]; go_big_quiet_on))
      (go_big_quiet_want; refine qa_call _ _ ?_ _ (fun w' hb=>half_0 b_u H31.out) ?_; (focus (intro w; simp [go_sem]; done)); (simp only [Act.put,lS]; go_big_quiet_on))
      (first | go_big_quiet_skip | (go_big_quiet_want; go_big_quiet_op; first | go_big_quiet_on | (refine ⟨_,fun _ _=>rfl,?_⟩; go_big_quiet_on)))
      (go_big_quiet_want; apply qn_load at_num rfl rfl i4_8 (hp_num x); (simp only [Act.put,lS]; go_big_quiet_on))
      (go_big_quiet_want; refine qa_call _ _ ?_ _ (fun w' hb=>halve_x (HM.out _ (hB4.trans (hb.mono hB4.size))) b_x H34.out) ?_; (focus (intro w; simp [go_sem]; done)); (simp only [Act.put,lS]; go_big_quiet_on))
      exact wpQuiet_nil rfl
     ·intro w2 hcc
      replace i4_4:=i4_4.below hcc.1 i4_4.lt
      replace i4_6:=i4_6.below hcc.1 i4_6.lt
      replace i4_7:=i4_7.below hcc.1 i4_7.lt
      replace i4_8:=i4_8.below hcc.1 i4_8.lt
      replace i4_9:=i4_9.below hcc.1 i4_9.lt
      have hg_le : w.heap.size ≤ w2.heap.size:=Nat.le_trans hB4.size hcc.1.size
      replace hB4:=hB4.trans (hcc.1.mono hB4.size)
      clear hcc hg_le
      have qn10 : g8 ≠ g6:=by omega
      have lt_6:=i4_6.lt
      have lt_8:=i4_8.lt
      go_wp2_with fail
      go_roundg j
      case measure=>omega
      case rel=>exact ⟨⟨x31,v,x34,y⟩,by rw [H31.out,H34.out,hlf_even]; exact HJ.out,⟨b_x31,b_v,b_x34,b_y⟩,((i4_4.setRowOther _ _ (by omega)).setRowOther _ _ (by omega)),((i4_6.setRow _).setRowOther _ _ (by omega)),((i4_7.setRowOther _ _ (by omega)).setRowOther _ _ (by omega)),((i4_8.setRowOther _ _ (by omega)).setRow _),((i4_9.setRowOther _ _ (by omega)).setRowOther _ _ (by omega)),(bSetRow (bSetRow hB4 lb_g6 _) lb_g8 _)⟩
    ·have f1 : bits .and .u64 (x0:Int) 1 = 1:=by have:=ba_one x0 (by rw [hx0]; exact lim_lt _ _); rw [this,hx0,lim0_even,hp]; rfl
     have hpe : ¬ u % 2 = 0:=by omega
     clear hx0
     by_cases hlt : u < v
     ·have hst : invStep m ⟨u,v,x,y⟩ = ⟨v - u,u,subM m y x,x⟩:=by unfold invStep; rw [if_neg hpe,if_pos hlt]
      rw [hst] at hf
      have HJ:=Lib.hid hf
      clear hst hf hp hpe
      have HLE:=Lib.hid (show u ≤ v from by omega)
      go_upto_region 8 with (fail)
      refine at_world (fun W=>Row W (w.heap.size + 1) 177 (AQ (nL 0)) ∧ Row W g6 177 (AQ (nL u)) ∧ Row W g7 177 (AQ (nL v)) ∧ Row W g8 177 (AQ (nL x)) ∧ Row W g9 177 (AQ (nL y)) ∧ Below w.heap.size w W) (⟨r4,r6,r7,r8,r9,hB0⟩) ?_
      clear r4 r6 r7 r8 r9 hB0
      rintro W4 ⟨i4_4,i4_6,i4_7,i4_8,i4_9,hB4⟩
      refine wp_region_lex 3 ?_
      simp only [List.take_succ_cons,List.take_zero,List.drop_succ_cons,List.drop_zero]
      (go_big_quiet_want; apply qn_load at_num rfl rfl i4_6 (hp_num u); (simp only [Act.put,lS]; go_big_quiet_on))
      (go_big_quiet_want; apply qn_load at_num rfl rfl i4_7 (hp_num v); (simp only [Act.put,lS]; go_big_quiet_on))
      (go_big_quiet_want; refine qa_call _ _ ?_ _ (fun w' hb=>nless_any _ _ _ b_u b_v) ?_; (focus (intro w; simp [go_sem]; done)); (simp only [Act.put,lS]; go_big_quiet_on))
      refine wpQuiet_nil ?_
      intro w2 hcc
      replace i4_4:=i4_4.below hcc.1 i4_4.lt
      replace i4_6:=i4_6.below hcc.1 i4_6.lt
      replace i4_7:=i4_7.below hcc.1 i4_7.lt
      replace i4_8:=i4_8.below hcc.1 i4_8.lt
      replace i4_9:=i4_9.below hcc.1 i4_9.lt
      have hg_le : w.heap.size ≤ w2.heap.size:=Nat.le_trans hB4.size hcc.1.size
      replace hB4:=hB4.trans (hcc.1.mono hB4.size)
      clear hcc hg_le
      have hd : decide (u < v) = true:=by simp; omega
      have HLT:=Lib.hid hlt
      clear hlt
      go_upto_region 9 with (fail)
      refine at_world (fun W=>Row W (w.heap.size + 1) 177 (AQ (nL 0)) ∧ Row W g6 177 (AQ (nL u)) ∧ Row W g7 177 (AQ (nL v)) ∧ Row W g8 177 (AQ (nL x)) ∧ Row W g9 177 (AQ (nL y)) ∧ Below w.heap.size w W) (⟨i4_4,i4_6,i4_7,i4_8,i4_9,hB4⟩) ?_
      clear i4_4 i4_6 i4_7 i4_8 i4_9 hB4
      rintro W5 ⟨i5_4,i5_6,i5_7,i5_8,i5_9,hB5⟩
      have e6:=i5_6.drew
      have l6 : g6 < W5.heap.size:=i5_6.lt
      have e7:=i5_7.drew
      have l7 : g7 < W5.heap.size:=i5_7.lt
      have e8:=i5_8.drew
      have l8 : g8 < W5.heap.size:=i5_8.lt
      have e9:=i5_9.drew
      have l9 : g9 < W5.heap.size:=i5_9.lt
      have e4:=i5_4.drew
      have eB:=hB5.drew
      have m67 : g6 ≠ g7:=by omega
      have m68 : g6 ≠ g8:=by omega
      have m69 : g6 ≠ g9:=by omega
      have m76 : g7 ≠ g6:=by omega
      have m78 : g7 ≠ g8:=by omega
      have m79 : g7 ≠ g9:=by omega
      have m86 : g8 ≠ g6:=by omega
      have m87 : g8 ≠ g7:=by omega
      have m89 : g8 ≠ g9:=by omega
      have m96 : g9 ≠ g6:=by omega
      have m97 : g9 ≠ g7:=by omega
      have m98 : g9 ≠ g8:=by omega
      go_region_law (fail)
      all_goals
       clear m67 m68 m69 m76 m78 m79 m86 m87 m89 m96 m97 m98
       clear i5_4 i5_6 i5_7 i5_8 i5_9 hB5
       have lt_6:=e6.lt
       have lt_7:=e7.lt
       have lt_8:=e8.lt
       have lt_9:=e9.lt
       go_upto_region 10 with (fail)
       refine at_world (fun W=>Row W (w.heap.size + 1) 177 (AQ (nL 0)) ∧ Row W g6 177 (AQ (nL v)) ∧ Row W g7 177 (AQ (nL u)) ∧ Row W g8 177 (AQ (nL y)) ∧ Row W g9 177 (AQ (nL x)) ∧ Below w.heap.size w W) (⟨((((e4.setRowOther _ _ (by omega)).setRowOther _ _ (by omega)).setRowOther _ _ (by omega)).setRowOther _ _ (by omega)),((((e6.setRow _).setRowOther _ _ (by omega)).setRowOther _ _ (by omega)).setRowOther _ _ (by omega)),((((e7.setRowOther _ _ (by omega)).setRow _).setRowOther _ _ (by omega)).setRowOther _ _ (by omega)),((((e8.setRowOther _ _ (by omega)).setRowOther _ _ (by omega)).setRow _).setRowOther _ _ (by omega)),((((e9.setRowOther _ _ (by omega)).setRowOther _ _ (by omega)).setRowOther _ _ (by omega)).setRow _),(bSetRow (bSetRow (bSetRow (bSetRow eB lb_g6 _) lb_g7 _) lb_g8 _) lb_g9 _)⟩) ?_
       clear e4 e6 e7 e8 e9 lt_6 lt_7 lt_8 lt_9 l6 l7 l8 l9 eB
       rintro W6 ⟨i6_4,i6_6,i6_7,i6_8,i6_9,hB6⟩
       obtain ⟨x46,h46⟩ : ∃ q_,q_ = v - u:=⟨_,rfl⟩
       have b_x46 : x46 < R256:=by rw [h46]; exact Nat.lt_of_le_of_lt (Nat.sub_le _ _) b_v
       have H46:=Lib.hid h46
       clear h46
       refine wp_region_lex 6 ?_
       simp only [List.take_succ_cons,List.take_zero,List.drop_succ_cons,List.drop_zero]
       (go_big_quiet_want; apply qn_load at_num rfl rfl i6_6 (hp_num v); (simp only [Act.put,lS]; go_big_quiet_on))
       (go_big_quiet_want; apply qn_load at_num rfl rfl i6_7 (hp_num u); (simp only [Act.put,lS]; go_big_quiet_on))
       (go_big_quiet_want; refine qa_call _ _ ?_ _ (fun w' hb=>sub_t b_v b_u HLE.out H46.out) ?_; (focus (intro w; simp [go_sem]; done)); (simp only [Act.put,lS]; go_big_quiet_on))
       (first | go_big_quiet_skip | (go_big_quiet_want; go_big_quiet_op; first | go_big_quiet_on | (refine ⟨_,fun _ _=>rfl,?_⟩; go_big_quiet_on)))
       (first | go_big_quiet_skip | (go_big_quiet_want; go_big_quiet_op; first | go_big_quiet_on | (refine ⟨_,fun _ _=>rfl,?_⟩; go_big_quiet_on)))
       (first | go_big_quiet_skip | (go_big_quiet_want; go_big_quiet_op; first | go_big_quiet_on | (refine ⟨_,fun _ _=>rfl,?_⟩; go_big_quiet_on)))
       refine wpQuiet_nil ?_
       intro w2 hcc
       replace i6_4:=i6_4.below hcc.1 i6_4.lt
       replace i6_6:=i6_6.below hcc.1 i6_6.lt
       replace i6_7:=i6_7.below hcc.1 i6_7.lt
       replace i6_8:=i6_8.below hcc.1 i6_8.lt
       replace i6_9:=i6_9.below hcc.1 i6_9.lt
       have hg_le : w.heap.size ≤ w2.heap.size:=Nat.le_trans hB6.size hcc.1.size
       replace hB6:=hB6.trans (hcc.1.mono hB6.size)
       clear hcc hg_le
       have lt_6:=i6_6.lt
       go_upto_region 11 with (fail)
       refine at_world (fun W=>Row W (w.heap.size + 1) 177 (AQ (nL 0)) ∧ Row W g6 177 (AQ (nL x46)) ∧ Row W g7 177 (AQ (nL u)) ∧ Row W g8 177 (AQ (nL y)) ∧ Row W g9 177 (AQ (nL x)) ∧ Below w.heap.size w W) (⟨(i6_4.setRowOther _ _ (by omega)),(i6_6.setRow _),(i6_7.setRowOther _ _ (by omega)),(i6_8.setRowOther _ _ (by omega)),(i6_9.setRowOther _ _ (by omega)),(bSetRow hB6 lb_g6 _)⟩) ?_
       clear i6_4 i6_6 i6_7 i6_8 i6_9 lt_6 hB6
       rintro W7 ⟨i7_4,i7_6,i7_7,i7_8,i7_9,hB7⟩
       obtain ⟨x52,h52⟩ : ∃ q_,q_ = subM m y x:=⟨_,rfl⟩
       have b_x52 : x52 < R256:=by rw [h52]; exact Nat.lt_trans (subM_lt HP.out) HL.out
       have H52:=Lib.hid h52
       clear h52
       refine wp_region_lex 4 ?_
       simp only [List.take_succ_cons,List.take_zero,List.drop_succ_cons,List.drop_zero]
       (first | go_big_quiet_skip | (go_big_quiet_want; go_big_quiet_op; first | go_big_quiet_on | (refine ⟨_,fun _ _=>rfl,?_⟩; go_big_quiet_on)))
       (go_big_quiet_want; apply qn_load at_num rfl rfl i7_8 (hp_num y); (simp only [Act.put,lS]; go_big_quiet_on))
       (go_big_quiet_want; apply qn_load at_num rfl rfl i7_9 (hp_num x); (simp only [Act.put,lS]; go_big_quiet_on))
       (go_big_quiet_want; refine qa_call _ _ ?_ _ (fun w' hb=>sub_x (HM.out _ (hB7.trans (hb.mono hB7.size))) b_y b_x H52.out) ?_; (focus (intro w; simp [go_sem]; done)); (simp only [Act.put,lS]; go_big_quiet_on))
       refine wpQuiet_nil ?_
       intro w2 hcc
       replace i7_4:=i7_4.below hcc.1 i7_4.lt
       replace i7_6:=i7_6.below hcc.1 i7_6.lt
       replace i7_7:=i7_7.below hcc.1 i7_7.lt
       replace i7_8:=i7_8.below hcc.1 i7_8.lt
       replace i7_9:=i7_9.below hcc.1 i7_9.lt
       have hg_le : w.heap.size ≤ w2.heap.size:=Nat.le_trans hB7.size hcc.1.size
       replace hB7:=hB7.trans (hcc.1.mono hB7.size)
       clear hcc hg_le
       have lt_8:=i7_8.lt
       go_wp2_with fail
       go_roundg j
       case measure=>omega
       case rel=>exact ⟨⟨x46,u,x52,x⟩,by rw [H46.out,H52.out]; exact HJ.out,⟨b_x46,b_u,b_x52,b_x⟩,(i7_4.setRowOther _ _ (by omega)),(i7_6.setRowOther _ _ (by omega)),(i7_7.setRowOther _ _ (by omega)),(i7_8.setRow _),(i7_9.setRowOther _ _ (by omega)),(bSetRow hB7 lb_g8 _)⟩
     ·have hst : invStep m ⟨u,v,x,y⟩ = ⟨u - v,v,subM m x y,y⟩:=by unfold invStep; rw [if_neg hpe,if_neg hlt]
      rw [hst] at hf
      have HJ:=Lib.hid hf
      clear hst hf hp hpe
      have HLE:=Lib.hid (show v ≤ u from by omega)
      go_upto_region 8 with (fail)
      refine at_world (fun W=>Row W (w.heap.size + 1) 177 (AQ (nL 0)) ∧ Row W g6 177 (AQ (nL u)) ∧ Row W g7 177 (AQ (nL v)) ∧ Row W g8 177 (AQ (nL x)) ∧ Row W g9 177 (AQ (nL y)) ∧ Below w.heap.size w W) (⟨r4,r6,r7,r8,r9,hB0⟩) ?_
      clear r4 r6 r7 r8 r9 hB0
      rintro W4 ⟨i4_4,i4_6,i4_7,i4_8,i4_9,hB4⟩
      refine wp_region_lex 3 ?_
      simp only [List.take_succ_cons,List.take_zero,List.drop_succ_cons,List.drop_zero]
      (go_big_quiet_want; apply qn_load at_num rfl rfl i4_6 (hp_num u); (simp only [Act.put,lS]; go_big_quiet_on))
      (go_big_quiet_want; apply qn_load at_num rfl rfl i4_7 (hp_num v); (simp only [Act.put,lS]; go_big_quiet_on))
      (go_big_quiet_want; refine qa_call _ _ ?_ _ (fun w' hb=>nless_any _ _ _ b_u b_v) ?_; (focus (intro w; simp [go_sem]; done)); (simp only [Act.put,lS]; go_big_quiet_on))
      refine wpQuiet_nil ?_
      intro w2 hcc
      replace i4_4:=i4_4.below hcc.1 i4_4.lt
      replace i4_6:=i4_6.below hcc.1 i4_6.lt
      replace i4_7:=i4_7.below hcc.1 i4_7.lt
      replace i4_8:=i4_8.below hcc.1 i4_8.lt
      replace i4_9:=i4_9.below hcc.1 i4_9.lt
      have hg_le : w.heap.size ≤ w2.heap.size:=Nat.le_trans hB4.size hcc.1.size
      replace hB4:=hB4.trans (hcc.1.mono hB4.size)
      clear hcc hg_le
      have hd : decide (u < v) = false:=by simp; omega
      have HLT:=Lib.hid hlt
      clear hlt
      go_upto_region 10 with (fail)
      refine at_world (fun W=>Row W (w.heap.size + 1) 177 (AQ (nL 0)) ∧ Row W g6 177 (AQ (nL u)) ∧ Row W g7 177 (AQ (nL v)) ∧ Row W g8 177 (AQ (nL x)) ∧ Row W g9 177 (AQ (nL y)) ∧ Below w.heap.size w W) (⟨i4_4,i4_6,i4_7,i4_8,i4_9,hB4⟩) ?_
      clear i4_4 i4_6 i4_7 i4_8 i4_9 hB4
      rintro W5 ⟨i5_4,i5_6,i5_7,i5_8,i5_9,hB5⟩
      obtain ⟨x46,h46⟩ : ∃ q_,q_ = u - v:=⟨_,rfl⟩
      have b_x46 : x46 < R256:=by rw [h46]; exact Nat.lt_of_le_of_lt (Nat.sub_le _ _) b_u
      have H46:=Lib.hid h46
      clear h46
      refine wp_region_lex 6 ?_
      simp only [List.take_succ_cons,List.take_zero,List.drop_succ_cons,List.drop_zero]
      (go_big_quiet_want; apply qn_load at_num rfl rfl i5_6 (hp_num u); (simp only [Act.put,lS]; go_big_quiet_on))
      (go_big_quiet_want; apply qn_load at_num rfl rfl i5_7 (hp_num v); (simp only [Act.put,lS]; go_big_quiet_on))
      (go_big_quiet_want; refine qa_call _ _ ?_ _ (fun w' hb=>sub_t b_u b_v HLE.out H46.out) ?_; (focus (intro w; simp [go_sem]; done)); (simp only [Act.put,lS]; go_big_quiet_on))
      (first | go_big_quiet_skip | (go_big_quiet_want; go_big_quiet_op; first | go_big_quiet_on | (refine ⟨_,fun _ _=>rfl,?_⟩; go_big_quiet_on)))
      (first | go_big_quiet_skip | (go_big_quiet_want; go_big_quiet_op; first | go_big_quiet_on | (refine ⟨_,fun _ _=>rfl,?_⟩; go_big_quiet_on)))
      (first | go_big_quiet_skip | (go_big_quiet_want; go_big_quiet_op; first | go_big_quiet_on | (refine ⟨_,fun _ _=>rfl,?_⟩; go_big_quiet_on)))
      refine wpQuiet_nil ?_
      intro w2 hcc
      replace i5_4:=i5_4.below hcc.1 i5_4.lt
      replace i5_6:=i5_6.below hcc.1 i5_6.lt
      replace i5_7:=i5_7.below hcc.1 i5_7.lt
      replace i5_8:=i5_8.below hcc.1 i5_8.lt
      replace i5_9:=i5_9.below hcc.1 i5_9.lt
      have hg_le : w.heap.size ≤ w2.heap.size:=Nat.le_trans hB5.size hcc.1.size
      replace hB5:=hB5.trans (hcc.1.mono hB5.size)
      clear hcc hg_le
      have lt_6:=i5_6.lt
      go_upto_region 11 with (fail)
      refine at_world (fun W=>Row W (w.heap.size + 1) 177 (AQ (nL 0)) ∧ Row W g6 177 (AQ (nL x46)) ∧ Row W g7 177 (AQ (nL v)) ∧ Row W g8 177 (AQ (nL x)) ∧ Row W g9 177 (AQ (nL y)) ∧ Below w.heap.size w W) (⟨(i5_4.setRowOther _ _ (by omega)),(i5_6.setRow _),(i5_7.setRowOther _ _ (by omega)),(i5_8.setRowOther _ _ (by omega)),(i5_9.setRowOther _ _ (by omega)),(bSetRow hB5 lb_g6 _)⟩) ?_
      clear i5_4 i5_6 i5_7 i5_8 i5_9 lt_6 hB5
      rintro W6 ⟨i6_4,i6_6,i6_7,i6_8,i6_9,hB6⟩
      obtain ⟨x52,h52⟩ : ∃ q_,q_ = subM m x y:=⟨_,rfl⟩
      have b_x52 : x52 < R256:=by rw [h52]; exact Nat.lt_trans (subM_lt HP.out) HL.out
      have H52:=Lib.hid h52
      clear h52
      refine wp_region_lex 4 ?_
      simp only [List.take_succ_cons,List.take_zero,List.drop_succ_cons,List.drop_zero]
      (first | go_big_quiet_skip | (go_big_quiet_want; go_big_quiet_op; first | go_big_quiet_on | (refine ⟨_,fun _ _=>rfl,?_⟩; go_big_quiet_on)))
      (go_big_quiet_want; apply qn_load at_num rfl rfl i6_8 (hp_num x); (simp only [Act.put,lS]; go_big_quiet_on))
      (go_big_quiet_want; apply qn_load at_num rfl rfl i6_9 (hp_num y); (simp only [Act.put,lS]; go_big_quiet_on))
      (go_big_quiet_want; refine qa_call _ _ ?_ _ (fun w' hb=>sub_x (HM.out _ (hB6.trans (hb.mono hB6.size))) b_x b_y H52.out) ?_; (focus (intro w; simp [go_sem]; done)); (simp only [Act.put,lS]; go_big_quiet_on))
      refine wpQuiet_nil ?_
      intro w2 hcc
      replace i6_4:=i6_4.below hcc.1 i6_4.lt
      replace i6_6:=i6_6.below hcc.1 i6_6.lt
      replace i6_7:=i6_7.below hcc.1 i6_7.lt
      replace i6_8:=i6_8.below hcc.1 i6_8.lt
      replace i6_9:=i6_9.below hcc.1 i6_9.lt
      have hg_le : w.heap.size ≤ w2.heap.size:=Nat.le_trans hB6.size hcc.1.size
      replace hB6:=hB6.trans (hcc.1.mono hB6.size)
      clear hcc hg_le
      have lt_8:=i6_8.lt
      go_wp2_with fail
      go_roundg j
      case measure=>omega
      case rel=>exact ⟨⟨x46,v,x52,y⟩,by rw [H46.out,H52.out]; exact HJ.out,⟨b_x46,b_v,b_x52,b_y⟩,(i6_4.setRowOther _ _ (by omega)),(i6_6.setRowOther _ _ (by omega)),(i6_7.setRowOther _ _ (by omega)),(i6_8.setRow _),(i6_9.setRowOther _ _ (by omega)),(bSetRow hB6 lb_g8 _)⟩
end Go.Proofs.YtjpfhhndjpdmoaaGreatDoor
