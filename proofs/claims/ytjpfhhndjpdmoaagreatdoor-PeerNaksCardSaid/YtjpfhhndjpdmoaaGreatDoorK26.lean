/- Part of the proof: CurveF, Sha. No conditions of its own. -/
import Derived.BigQuiet
import Derived.Deep.CutBlock
import Derived.Deep.DeepCutAuto
import Derived.Deep.LoopGhost
import Derived.Deep.Quiet
import Derived.Deep.QuietTactic
import Derived.Deep.RegionLaw
import Derived.Laws.Bits64b
import Derived.Lib.Hide
import Derived.Shelf.Bits.Mul64
import Derived.Shelf.Spec.BitsCarry
import Derived.StillTail
import Derived.Stop.BytesEq
import Derived.Test.YtjpfhhndjpdmoaaGreatDoorRows
import Derived.WalkKit
import Derived.Test.YtjpfhhndjpdmoaaGreatDoorK20
import Derived.Test.YtjpfhhndjpdmoaaGreatDoorK21
import Derived.Test.YtjpfhhndjpdmoaaGreatDoorK25
import Derived.Laws.BitsAllLaws
import Derived.Test.YtjpfhhndjpdmoaaGreatDoorK12
namespace Go.Proofs.YtjpfhhndjpdmoaaGreatDoor
open Go.RowKit
set_option linter.unusedVariables false
set_option linter.unusedSimpArgs false

theorem bit_1 {w : World} {a j : Nat} (hj : j < 256) (h : a / 2 ^ j % 2 = 1) : Calls Tryz.prog 137 #[.agg (AQ (nL a)), .int .i64 (j : Int)] w fun e w' => e = .returned (.int .i64 1) ∧ Below w.heap.size w w' := by
  have := bit_any w a j hj
  rw [h] at this
  exact this
theorem bit_0 {w : World} {a j : Nat} (hj : j < 256) (h : a / 2 ^ j % 2 = 0) : Calls Tryz.prog 137 #[.agg (AQ (nL a)), .int .i64 (j : Int)] w fun e w' => e = .returned (.int .i64 0) ∧ Below w.heap.size w w' := by
  have := bit_any w a j hj
  rw [h] at this
  exact this
theorem timesF_1 {m k j : Nat} {t r : T3} (h : k / 2 ^ j % 2 = 1) : timesF m t k (j + 1) r = timesF m t k j (addS m (dblS m r) t) := by
  conv => lhs; unfold timesF
  rw [frc_eq, if_pos h, frc_eq]
theorem timesF_0 {m k j : Nat} {t r : T3} (h : k / 2 ^ j % 2 = 0) : timesF m t k (j + 1) r = timesF m t k j (dblS m r) := by
  conv => lhs; unfold timesF
  rw [frc_eq, if_neg (by omega)]

set_option maxRecDepth 100000 in
set_option maxHeartbeats 4000000 in
theorem times_gen {w : World} {m neg ri Bc : Nat} {t1 t2 : TypeId} {lk la lb : List UInt8} {fin : T3} (hmd : MdS m neg ri) (hP : Row w 6 t1 (AQ (nL m))) (hC : Row w 7 t2 (AQ (nL Bc))) (hBc : Bc < R256) (hmk : ∀ w, Calls Tryz.prog 143 #[.agg (AQ (nL m))] w fun e w' => ∃ g, e = .returned (.tuple #[.pointer (some ⟨g, 0, none⟩), .int .i64 0]) ∧ ModW w' g m neg ri ∧ w.heap.size ≤ g ∧ Below w.heap.size w w') (hlk : lk.length = 32) (hla : la.length = 32) (hlb : lb.length = 32) (hx : natB la < m) (hy : natB lb < m) (hon : onM m Bc (natB la) (natB lb)) (hfin : timesF m ⟨natB la, natB lb, 1⟩ (natB lk) 256 T3.o = fin) (hu : (invI m fin.z).u = 0) (hv : (invI m fin.z).v = 1) : Calls Tryz.prog 84 #[.agg (AB lk), .agg (ptC la lb)] w fun e w' => e = .returned (.agg (ptC (be32 (dropS m fin).1) (be32 (dropS m fin).2))) ∧ Below w.heap.size w w' := by
  have HGP := Lib.hid (show ∀ W, Below w.heap.size w W → Row W 6 t1 (AQ (nL m)) from fun W hb => hP.below hb hP.lt)
  have HGC := Lib.hid (show ∀ W, Below w.heap.size w W → Row W 7 t2 (AQ (nL Bc)) from fun W hb => hC.below hb hC.lt)
  have HBC := Lib.hid hBc
  have HLA := Lib.hid hla
  have HLB := Lib.hid hlb
  have HLK := Lib.hid hlk
  have HON := Lib.hid (⟨hx, hy, hon⟩ : _ ∧ _ ∧ _)
  have HFIN := Lib.hid hfin
  have HI := Lib.hid (⟨hu, hv⟩ : _ ∧ _)
  have HMK := Lib.hid hmk
  have HP := Lib.hid hmd.pos
  have HL := Lib.hid hmd.low
  clear hP hC hBc hla hlb hlk hx hy hon hfin hu hv hmk hmd
  go_enter Tryz.func84, Tryz.ntmps84
  go_upto_region 1 with (fail)
  refine at_world (fun W => Row W w.heap.size 24 (AB lk) ∧ Row W (w.heap.size + 1) 169 (ptC la lb) ∧ Row W (w.heap.size + 1 + 1) 169 (ptC zer32 zer32) ∧ Below w.heap.size w W) (⟨(((Row.newAt _ _ _ _ rfl).alloc _).alloc _), ((Row.newAt _ _ _ _ (by simp)).alloc _), (by rw [zerPt_eq]; exact (Row.newAt _ _ _ _ (by simp))), ((((Below.refl _ w).alloc (Nat.le_refl _) _).alloc (by simp) _).alloc (by simp; omega) _)⟩) ?_
  rintro W1 ⟨i1_2, i1_3, i1_4, hB1⟩
  go_wp2_with fail
  refine (newField_gen _ m neg ri t1 (HGP.out _ hB1) HMK.out).mono ?_
  rintro e W0 ⟨g, rfl, hM, hB0⟩
  replace i1_2 := i1_2.below hB0 i1_2.lt
  replace i1_3 := i1_3.below hB0 i1_3.lt
  replace i1_4 := i1_4.below hB0 i1_4.lt
  have hA0 := hB1.trans (hB0.mono hB1.size)
  have HA := Lib.hid hA0
  have HM := Lib.hid (show ∀ W, Below W0.heap.size W0 W → ModW W g m neg ri from fun W hb => hM.below hb)
  replace HGP := Lib.hid (fun W (hb : Below W0.heap.size W0 W) => HGP.out W (HA.out.trans (hb.mono HA.out.size)))
  replace HGC := Lib.hid (fun W (hb : Below W0.heap.size W0 W) => HGC.out W (HA.out.trans (hb.mono HA.out.size)))
  have HLT := Lib.hid (⟨i1_2.lt, i1_3.lt, i1_4.lt⟩ : _ ∧ _ ∧ _)
  clear hM hB0 hA0 hB1
  have ovf := over_f g
  have onf : allOne (fC g) = true := by kernel_rfl
  have szf : (fC g).size = 1 := rfl
  go_upto_region 2 with (fail)
  obtain ⟨g5, hg5⟩ : ∃ q_, q_ = W0.heap.size := ⟨_, rfl⟩
  rw [← hg5]
  refine at_world (fun W => Row W w.heap.size 24 (AB lk) ∧ Row W (w.heap.size + 1) 169 (ptC la lb) ∧ Row W (w.heap.size + 1 + 1) 169 (ptC zer32 zer32) ∧ Row W g5 243 (fC g) ∧ Below W0.heap.size W0 W) (⟨((i1_2.alloc _).setRowOther _ _ (by have := HLT.out; omega)), ((i1_3.alloc _).setRowOther _ _ (by have := HLT.out; omega)), ((i1_4.alloc _).setRowOther _ _ (by have := HLT.out; omega)), ((Row.newAt W0 g5 243 _ hg5).setRow _), (bSetRow ((Below.refl _ W0).alloc (Nat.le_refl _) _) (by omega) _)⟩) ?_
  clear i1_2 i1_3 i1_4
  rintro W2 ⟨i2_2, i2_3, i2_4, i2_5, hB2⟩
  have lb_g5 : W0.heap.size ≤ g5 := by omega
  clear hg5
  replace i2_2 := i2_2.drew
  replace i2_3 := i2_3.drew
  replace i2_4 := i2_4.drew
  replace i2_5 := i2_5.drew
  replace hB2 := hB2.drew
  obtain ⟨x12, h12⟩ : ∃ q_, q_ = natB lk := ⟨_, rfl⟩
  have b_x12 : x12 < R256 := by rw [h12]; exact natB_lt32 HLK.out
  have H12 := Lib.hid h12
  clear h12
  refine wp_region_allocs 7 [0, 1, 2, 3, 4] [5, 6] (fun k => if k = 5 then .cells (AQ (nL 0)) 177 else if k = 6 then .cells (t3C 0 0 0) 247 else .cells #[] 0) (by kernel_rfl) (by kernel_rfl) (by kernel_rfl) (by kernel_rfl) ?hal ?h
  case hal =>
    intro k hk o ho
    simp only [List.mem_cons, List.not_mem_nil, or_false] at hk
    rcases hk with rfl | rfl
    · cases ho; exact alF_of _ (fun _ _ => by kernel_rfl)
    · cases ho; exact alF_of _ (fun _ _ => by kernel_rfl)
  case h =>
  apply Exists.intro
  refine ⟨fun R => ?_, ?_⟩
  · simp only [List.map_cons, List.map_nil, List.getD_cons_zero, List.getD_cons_succ]
    (go_big_quiet_want; apply qn_load at_b32 rfl rfl i2_2 (hp_b HLK.out); (simp only [Act.put, lS]; go_big_quiet_on))
    (go_big_quiet_want; refine qa_call _ _ ?_ _ (fun w' hb => of_x HLK.out H12.out) ?_; (focus (intro w; simp [go_sem]; done)); (simp only [Act.put, lS]; go_big_quiet_on))
    (go_big_quiet_want; apply qn_load at_f rfl rfl i2_5 (hp_f g); (simp only [Act.put, lS]; go_big_quiet_on))
    (go_big_quiet_want; apply qn_load at_pt rfl rfl i2_3 (hp_p HLA.out HLB.out); (simp only [Act.put, lS]; go_big_quiet_on))
    (go_big_quiet_want; refine qa_call _ _ ?_ _ (fun w' hb => lift_yes (HM.out _ (hB2.trans (hb.mono hB2.size))) (HGP.out _ (hB2.trans (hb.mono hB2.size))) (HGC.out _ (hB2.trans (hb.mono hB2.size))) HBC.out HLA.out HLB.out HON.out.1 HON.out.2.1 HON.out.2.2) ?_; (focus (intro w; simp [go_sem]; done)); (simp only [Act.put, lS]; go_big_quiet_on))
    exact wpQuiet_nil rfl
  · refine wpAl_consP rfl ?_
    intro g6 hg6 nng6
    refine wpAl_consP rfl ?_
    intro g7 hg7 nng7
    intro w2 hcc
    have ne_g7_g6 : g7 ≠ g6 := by rintro rfl; simp [upd] at nng7
    have ne_2_g6 : w.heap.size ≠ g6 := by have := i2_2.lt; omega
    have ne_2_g7 : w.heap.size ≠ g7 := by have := i2_2.lt; omega
    have ne_3_g6 : (w.heap.size + 1) ≠ g6 := by have := i2_3.lt; omega
    have ne_3_g7 : (w.heap.size + 1) ≠ g7 := by have := i2_3.lt; omega
    have ne_4_g6 : (w.heap.size + 1 + 1) ≠ g6 := by have := i2_4.lt; omega
    have ne_4_g7 : (w.heap.size + 1 + 1) ≠ g7 := by have := i2_4.lt; omega
    have ne_5_g6 : g5 ≠ g6 := by have := i2_5.lt; omega
    have ne_5_g7 : g5 ≠ g7 := by have := i2_5.lt; omega
    replace i2_2 := i2_2.below hcc.1 i2_2.lt
    replace i2_3 := i2_3.below hcc.1 i2_3.lt
    replace i2_4 := i2_4.below hcc.1 i2_4.lt
    replace i2_5 := i2_5.below hcc.1 i2_5.lt
    have j_6 : Row w2 g6 177 (AQ (nL 0)) := .of_heap (hcc.2 g6 _ (by simp [upd, ne_g7_g6.symm]))
    have j_7 : Row w2 g7 247 (t3C 0 0 0) := .of_heap (hcc.2 g7 _ (by simp [upd]))
    have hg_le : W0.heap.size ≤ w2.heap.size := Nat.le_trans hB2.size hcc.1.size
    have lb_g6 : W0.heap.size ≤ g6 := Nat.le_trans hB2.size hg6
    have lb_g7 : W0.heap.size ≤ g7 := Nat.le_trans hB2.size hg7
    replace hB2 := hB2.trans (hcc.1.mono hB2.size)
    clear hcc hg_le hg6 nng6 hg7 nng7
    have qn10 : g7 ≠ g6 := by omega
    have lt_6 := j_6.lt
    have lt_7 := j_7.lt
    go_upto_region 3 with (fail)
    refine at_world (fun W => Row W w.heap.size 24 (AB lk) ∧ Row W (w.heap.size + 1) 169 (ptC la lb) ∧ Row W (w.heap.size + 1 + 1) 169 (ptC zer32 zer32) ∧ Row W g5 243 (fC g) ∧ Row W g6 177 (AQ (nL x12)) ∧ Row W g7 247 (t3C (natB la) (natB lb) 1) ∧ Below W0.heap.size W0 W) (⟨((i2_2.setRowOther _ _ (by omega)).setRowOther _ _ (by omega)), ((i2_3.setRowOther _ _ (by omega)).setRowOther _ _ (by omega)), ((i2_4.setRowOther _ _ (by omega)).setRowOther _ _ (by omega)), ((i2_5.setRowOther _ _ (by omega)).setRowOther _ _ (by omega)), ((j_6.setRow _).setRowOther _ _ (by omega)), ((j_7.setRowOther _ _ (by omega)).setRow _), (bSetRow (bSetRow hB2 lb_g6 _) lb_g7 _)⟩) ?_
    clear i2_2 i2_3 i2_4 i2_5 j_6 j_7 qn10 lt_6 lt_7 hB2
    rintro W3 ⟨i3_2, i3_3, i3_4, i3_5, i3_6, i3_7, hB3⟩
    clear i3_2 i3_3
    have lw_4 : (w.heap.size + 1 + 1) < W3.heap.size := i3_4.lt
    have lw_5 : g5 < W3.heap.size := i3_5.lt
    have lw_6 : g6 < W3.heap.size := i3_6.lt
    have lw_7 : g7 < W3.heap.size := i3_7.lt
    go_wp2_with fail
    obtain ⟨g8, hg8⟩ : ∃ q_, q_ = W3.heap.size := ⟨_, rfl⟩
    rw [← hg8]
    have HNE := Lib.hid (show (w.heap.size + 1 + 1) ≠ g8 ∧ g5 ≠ g8 ∧ g6 ≠ g8 ∧ g7 ≠ g8 ∧ W0.heap.size ≤ g8 from by have := hB3.size; omega)
    have b_o : natB la < R256 ∧ natB lb < R256 := ⟨natB_lt32 HLA.out, natB_lt32 HLB.out⟩
    go_loopg [9] 256 (fun gk t9 wr => ∃ r : T3, gk ≤ 256 ∧ timesF m ⟨natB la, natB lb, 1⟩ (natB lk) gk r = fin ∧ (r.x < R256 ∧ r.y < R256 ∧ r.z < R256) ∧ t9 = .int .i64 ((gk : Int) - 1) ∧ Row wr g8 247 (t3C r.x r.y r.z) ∧ Row wr (w.heap.size + 1 + 1) 169 (ptC zer32 zer32) ∧ Row wr g5 243 (fC g) ∧ Row wr g6 177 (AQ (nL x12)) ∧ Row wr g7 247 (t3C (natB la) (natB lb) 1) ∧ Below W0.heap.size W0 wr)
    case atStart => exact ⟨T3.o, Nat.le_refl _, HFIN.out, ⟨by decide, by decide, by decide⟩, rfl, rowZ3 _ _ _ hg8, i3_4.alloc _, i3_5.alloc _, i3_6.alloc _, i3_7.alloc _, hB3.alloc hB3.size _⟩
    case round =>
      clear hg8 lw_4 lw_5 lw_6 lw_7 i3_4 i3_5 i3_6 i3_7 hB3
      obtain ⟨r, hk, hf, b_r, rfl, r8, r4, r5, r6, r7, hB⟩ := hrel
      obtain ⟨ne_4_g8, ne_5_g8, ne_6_g8, ne_7_g8, lb_g8⟩ := HNE.out
      by_cases hz : gk = 0
      · subst hz
        have hs : r = fin := hf
        subst hs
        clear hf
        have i0 : ¬ (0 : Int) ≤ ((0 : Nat) : Int) - 1 := by omega
        go_upto_region 10 with (fail)
        refine at_world (fun W => Row W (w.heap.size + 1 + 1) 169 (ptC zer32 zer32) ∧ Row W g5 243 (fC g) ∧ Row W g8 247 (t3C r.x r.y r.z) ∧ Below W0.heap.size W0 W) (⟨r4, r5, r8, hB⟩) ?_
        clear r4 r5 r8 r6 r7 hB
        rintro W4 ⟨i4_4, i4_5, i4_8, hB4⟩
        have ovp := over_pt zer32_len zer32_len (be32_len (mulM m r.x (mulM m (invI m r.z).y (invI m r.z).y))) (be32_len (mulM m r.y (mulM m (invI m r.z).y (mulM m (invI m r.z).y (invI m r.z).y))))
        have ops := ptC_size (be32_len (mulM m r.x (mulM m (invI m r.z).y (invI m r.z).y))) (be32_len (mulM m r.y (mulM m (invI m r.z).y (mulM m (invI m r.z).y (invI m r.z).y))))
        have ops0 := ptC_size zer32_len zer32_len
        have opo := ptC_one (be32 (mulM m r.x (mulM m (invI m r.z).y (invI m r.z).y))) (be32 (mulM m r.y (mulM m (invI m r.z).y (mulM m (invI m r.z).y (invI m r.z).y))))
        refine wp_region_lex 3 ?_
        simp only [List.take_succ_cons, List.take_zero, List.drop_succ_cons, List.drop_zero]
        (go_big_quiet_want; apply qn_load at_f rfl rfl i4_5 (hp_f g); (simp only [Act.put, lS]; go_big_quiet_on))
        (go_big_quiet_want; apply qn_load at_t3 rfl rfl i4_8 (hp_t r.x r.y r.z); (simp only [Act.put, lS]; go_big_quiet_on))
        (go_big_quiet_want; refine qa_call _ _ ?_ _ (fun w' hb => drop_any (HM.out _ (hB4.trans (hb.mono hB4.size))) b_r.1 b_r.2.1 b_r.2.2 HI.out.1 HI.out.2) ?_; (focus (intro w; simp [go_sem]; done)); (simp only [Act.put, lS]; go_big_quiet_on))
        refine wpQuiet_nil ?_
        intro w2 hcc
        replace i4_4 := i4_4.below hcc.1 i4_4.lt
        replace i4_5 := i4_5.below hcc.1 i4_5.lt
        replace i4_8 := i4_8.below hcc.1 i4_8.lt
        have hg_le : W0.heap.size ≤ w2.heap.size := Nat.le_trans hB4.size hcc.1.size
        replace hB4 := hB4.trans (hcc.1.mono hB4.size)
        clear hcc hg_le
        have lt_4 := i4_4.lt
        go_wp2_with fail
        exact ret_row (by first | exact .inl rfl | exact .inr rfl) rfl ((w.heap.size + 1 + 1)) 169 (ptC (be32 (mulM m r.x (mulM m (invI m r.z).y (invI m r.z).y))) (be32 (mulM m r.y (mulM m (invI m r.z).y (mulM m (invI m r.z).y (invI m r.z).y))))) 64 _ rfl (i4_4.setRow _) Tryz.underlying169 rfl (by kernel_rfl) (ptC_size (be32_len _) (be32_len _)) ⟨rfl, bSetRow (HA.out.trans (hB4.mono HA.out.size)) (by omega) _⟩
      · obtain ⟨j, rfl⟩ : ∃ j, gk = j + 1 := ⟨gk - 1, by omega⟩
        have ej : ((j + 1 : Nat) : Int) - 1 = (j : Int) := by omega
        rw [ej]
        have i0 : (0 : Int) ≤ (j : Int) := by omega
        have i1 : (j : Int) ≤ 255 := by omega
        have HJ := Lib.hid (show j < 256 by omega)
        clear hz ej hk
        rcases Nat.mod_two_eq_zero_or_one (natB lk / 2 ^ j) with hbit | hbit
        · rw [timesF_0 hbit] at hf
          have HBIT := Lib.hid (show x12 / 2 ^ j % 2 = 0 from by rw [H12.out]; exact hbit)
          have HF := Lib.hid hf
          clear hbit hf
          go_upto_region 7 with (fail)
          refine at_world (fun W => Row W (w.heap.size + 1 + 1) 169 (ptC zer32 zer32) ∧ Row W g5 243 (fC g) ∧ Row W g6 177 (AQ (nL x12)) ∧ Row W g7 247 (t3C (natB la) (natB lb) 1) ∧ Row W g8 247 (t3C r.x r.y r.z) ∧ Below W0.heap.size W0 W) (⟨r4, r5, r6, r7, r8, hB⟩) ?_
          clear r4 r5 r6 r7 r8 hB
          rintro W4 ⟨i4_4, i4_5, i4_6, i4_7, i4_8, hB4⟩
          obtain ⟨T22, h22⟩ : ∃ q_, q_ = dblS m ⟨r.x, r.y, r.z⟩ := ⟨_, rfl⟩
          have b_T22 : T22.x < R256 ∧ T22.y < R256 ∧ T22.z < R256 := by rw [h22]; exact dblS_lt HP.out HL.out
          have H22 := Lib.hid h22
          clear h22
          refine wp_region_lex 3 ?_
          simp only [List.take_succ_cons, List.take_zero, List.drop_succ_cons, List.drop_zero]
          (go_big_quiet_want; apply qn_load at_f rfl rfl i4_5 (hp_f g); (simp only [Act.put, lS]; go_big_quiet_on))
          (go_big_quiet_want; apply qn_load at_t3 rfl rfl i4_8 (hp_t r.x r.y r.z); (simp only [Act.put, lS]; go_big_quiet_on))
          (go_big_quiet_want; refine qa_call _ _ ?_ _ (fun w' hb => dbl_x (HM.out _ (hB4.trans (hb.mono hB4.size))) b_r.1 b_r.2.1 b_r.2.2 H22.out) ?_; (focus (intro w; simp [go_sem]; done)); (simp only [Act.put, lS]; go_big_quiet_on))
          refine wpQuiet_nil ?_
          intro w2 hcc
          replace i4_4 := i4_4.below hcc.1 i4_4.lt
          replace i4_5 := i4_5.below hcc.1 i4_5.lt
          replace i4_6 := i4_6.below hcc.1 i4_6.lt
          replace i4_7 := i4_7.below hcc.1 i4_7.lt
          replace i4_8 := i4_8.below hcc.1 i4_8.lt
          have hg_le : W0.heap.size ≤ w2.heap.size := Nat.le_trans hB4.size hcc.1.size
          replace hB4 := hB4.trans (hcc.1.mono hB4.size)
          clear hcc hg_le
          have lt_8 := i4_8.lt
          go_upto_region 8 with (fail)
          refine at_world (fun W => Row W (w.heap.size + 1 + 1) 169 (ptC zer32 zer32) ∧ Row W g5 243 (fC g) ∧ Row W g6 177 (AQ (nL x12)) ∧ Row W g7 247 (t3C (natB la) (natB lb) 1) ∧ Row W g8 247 (t3C T22.x T22.y T22.z) ∧ Below W0.heap.size W0 W) (⟨(i4_4.setRowOther _ _ (by omega)), (i4_5.setRowOther _ _ (by omega)), (i4_6.setRowOther _ _ (by omega)), (i4_7.setRowOther _ _ (by omega)), (i4_8.setRow _), (bSetRow hB4 lb_g8 _)⟩) ?_
          clear i4_4 i4_5 i4_6 i4_7 i4_8 lt_8 hB4
          rintro W5 ⟨i5_4, i5_5, i5_6, i5_7, i5_8, hB5⟩
          refine wp_region_lex 3 ?_
          simp only [List.take_succ_cons, List.take_zero, List.drop_succ_cons, List.drop_zero]
          (go_big_quiet_want; apply qn_load at_num rfl rfl i5_6 (hp_num x12); (simp only [Act.put, lS]; go_big_quiet_on))
          (first | go_big_quiet_skip | (go_big_quiet_want; go_big_quiet_op; first | go_big_quiet_on | (refine ⟨_, fun _ _ => rfl, ?_⟩; go_big_quiet_on)))
          (go_big_quiet_want; refine qa_call _ _ ?_ _ (fun w' hb => bit_0 HJ.out HBIT.out) ?_; (focus (intro w; simp [go_sem]; done)); (simp only [Act.put, lS]; go_big_quiet_on))
          refine wpQuiet_nil ?_
          intro w2 hcc
          replace i5_4 := i5_4.below hcc.1 i5_4.lt
          replace i5_5 := i5_5.below hcc.1 i5_5.lt
          replace i5_6 := i5_6.below hcc.1 i5_6.lt
          replace i5_7 := i5_7.below hcc.1 i5_7.lt
          replace i5_8 := i5_8.below hcc.1 i5_8.lt
          have hg_le : W0.heap.size ≤ w2.heap.size := Nat.le_trans hB5.size hcc.1.size
          replace hB5 := hB5.trans (hcc.1.mono hB5.size)
          clear hcc hg_le
          go_wp2_with fail
          go_roundg j
          case measure => omega
          case rel => exact ⟨T22, by have := HJ.out; omega, (by have e := HF.out; rw [← H22.out] at e; exact e), b_T22, rfl, i5_8, i5_4, i5_5, i5_6, i5_7, hB5⟩
        · rw [timesF_1 hbit] at hf
          have HBIT := Lib.hid (show x12 / 2 ^ j % 2 = 1 from by rw [H12.out]; exact hbit)
          have HF := Lib.hid hf
          clear hbit hf
          go_upto_region 7 with (fail)
          refine at_world (fun W => Row W (w.heap.size + 1 + 1) 169 (ptC zer32 zer32) ∧ Row W g5 243 (fC g) ∧ Row W g6 177 (AQ (nL x12)) ∧ Row W g7 247 (t3C (natB la) (natB lb) 1) ∧ Row W g8 247 (t3C r.x r.y r.z) ∧ Below W0.heap.size W0 W) (⟨r4, r5, r6, r7, r8, hB⟩) ?_
          clear r4 r5 r6 r7 r8 hB
          rintro W4 ⟨i4_4, i4_5, i4_6, i4_7, i4_8, hB4⟩
          obtain ⟨T22, h22⟩ : ∃ q_, q_ = dblS m ⟨r.x, r.y, r.z⟩ := ⟨_, rfl⟩
          have b_T22 : T22.x < R256 ∧ T22.y < R256 ∧ T22.z < R256 := by rw [h22]; exact dblS_lt HP.out HL.out
          have H22 := Lib.hid h22
          clear h22
          refine wp_region_lex 3 ?_
          simp only [List.take_succ_cons, List.take_zero, List.drop_succ_cons, List.drop_zero]
          (go_big_quiet_want; apply qn_load at_f rfl rfl i4_5 (hp_f g); (simp only [Act.put, lS]; go_big_quiet_on))
          (go_big_quiet_want; apply qn_load at_t3 rfl rfl i4_8 (hp_t r.x r.y r.z); (simp only [Act.put, lS]; go_big_quiet_on))
          (go_big_quiet_want; refine qa_call _ _ ?_ _ (fun w' hb => dbl_x (HM.out _ (hB4.trans (hb.mono hB4.size))) b_r.1 b_r.2.1 b_r.2.2 H22.out) ?_; (focus (intro w; simp [go_sem]; done)); (simp only [Act.put, lS]; go_big_quiet_on))
          refine wpQuiet_nil ?_
          intro w2 hcc
          replace i4_4 := i4_4.below hcc.1 i4_4.lt
          replace i4_5 := i4_5.below hcc.1 i4_5.lt
          replace i4_6 := i4_6.below hcc.1 i4_6.lt
          replace i4_7 := i4_7.below hcc.1 i4_7.lt
          replace i4_8 := i4_8.below hcc.1 i4_8.lt
          have hg_le : W0.heap.size ≤ w2.heap.size := Nat.le_trans hB4.size hcc.1.size
          replace hB4 := hB4.trans (hcc.1.mono hB4.size)
          clear hcc hg_le
          have lt_8 := i4_8.lt
          go_upto_region 8 with (fail)
          refine at_world (fun W => Row W (w.heap.size + 1 + 1) 169 (ptC zer32 zer32) ∧ Row W g5 243 (fC g) ∧ Row W g6 177 (AQ (nL x12)) ∧ Row W g7 247 (t3C (natB la) (natB lb) 1) ∧ Row W g8 247 (t3C T22.x T22.y T22.z) ∧ Below W0.heap.size W0 W) (⟨(i4_4.setRowOther _ _ (by omega)), (i4_5.setRowOther _ _ (by omega)), (i4_6.setRowOther _ _ (by omega)), (i4_7.setRowOther _ _ (by omega)), (i4_8.setRow _), (bSetRow hB4 lb_g8 _)⟩) ?_
          clear i4_4 i4_5 i4_6 i4_7 i4_8 lt_8 hB4
          rintro W5 ⟨i5_4, i5_5, i5_6, i5_7, i5_8, hB5⟩
          refine wp_region_lex 3 ?_
          simp only [List.take_succ_cons, List.take_zero, List.drop_succ_cons, List.drop_zero]
          (go_big_quiet_want; apply qn_load at_num rfl rfl i5_6 (hp_num x12); (simp only [Act.put, lS]; go_big_quiet_on))
          (first | go_big_quiet_skip | (go_big_quiet_want; go_big_quiet_op; first | go_big_quiet_on | (refine ⟨_, fun _ _ => rfl, ?_⟩; go_big_quiet_on)))
          (go_big_quiet_want; refine qa_call _ _ ?_ _ (fun w' hb => bit_1 HJ.out HBIT.out) ?_; (focus (intro w; simp [go_sem]; done)); (simp only [Act.put, lS]; go_big_quiet_on))
          refine wpQuiet_nil ?_
          intro w2 hcc
          replace i5_4 := i5_4.below hcc.1 i5_4.lt
          replace i5_5 := i5_5.below hcc.1 i5_5.lt
          replace i5_6 := i5_6.below hcc.1 i5_6.lt
          replace i5_7 := i5_7.below hcc.1 i5_7.lt
          replace i5_8 := i5_8.below hcc.1 i5_8.lt
          have hg_le : W0.heap.size ≤ w2.heap.size := Nat.le_trans hB5.size hcc.1.size
          replace hB5 := hB5.trans (hcc.1.mono hB5.size)
          clear hcc hg_le
          go_upto_region 9 with (fail)
          refine at_world (fun W => Row W (w.heap.size + 1 + 1) 169 (ptC zer32 zer32) ∧ Row W g5 243 (fC g) ∧ Row W g6 177 (AQ (nL x12)) ∧ Row W g7 247 (t3C (natB la) (natB lb) 1) ∧ Row W g8 247 (t3C T22.x T22.y T22.z) ∧ Below W0.heap.size W0 W) (⟨i5_4, i5_5, i5_6, i5_7, i5_8, hB5⟩) ?_
          clear i5_4 i5_5 i5_6 i5_7 i5_8 hB5
          rintro W6 ⟨i6_4, i6_5, i6_6, i6_7, i6_8, hB6⟩
          obtain ⟨T30, h30⟩ : ∃ q_, q_ = addS m ⟨T22.x, T22.y, T22.z⟩ ⟨(natB la), (natB lb), 1⟩ := ⟨_, rfl⟩
          have b_T30 : T30.x < R256 ∧ T30.y < R256 ∧ T30.z < R256 := by rw [h30]; exact addS_lt HP.out HL.out ⟨b_T22.1, b_T22.2.1, b_T22.2.2⟩ ⟨b_o.1, b_o.2, (show 1 < R256 by decide)⟩
          have H30 := Lib.hid h30
          clear h30
          refine wp_region_lex 4 ?_
          simp only [List.take_succ_cons, List.take_zero, List.drop_succ_cons, List.drop_zero]
          (go_big_quiet_want; apply qn_load at_f rfl rfl i6_5 (hp_f g); (simp only [Act.put, lS]; go_big_quiet_on))
          (go_big_quiet_want; apply qn_load at_t3 rfl rfl i6_8 (hp_t T22.x T22.y T22.z); (simp only [Act.put, lS]; go_big_quiet_on))
          (go_big_quiet_want; apply qn_load at_t3 rfl rfl i6_7 (hp_t (natB la) (natB lb) 1); (simp only [Act.put, lS]; go_big_quiet_on))
          (go_big_quiet_want; refine qa_call _ _ ?_ _ (fun w' hb => add3_x (HM.out _ (hB6.trans (hb.mono hB6.size))) b_T22.1 b_T22.2.1 b_T22.2.2 b_o.1 b_o.2 (show 1 < R256 by decide) H30.out) ?_; (focus (intro w; simp [go_sem]; done)); (simp only [Act.put, lS]; go_big_quiet_on))
          refine wpQuiet_nil ?_
          intro w2 hcc
          replace i6_4 := i6_4.below hcc.1 i6_4.lt
          replace i6_5 := i6_5.below hcc.1 i6_5.lt
          replace i6_6 := i6_6.below hcc.1 i6_6.lt
          replace i6_7 := i6_7.below hcc.1 i6_7.lt
          replace i6_8 := i6_8.below hcc.1 i6_8.lt
          have hg_le : W0.heap.size ≤ w2.heap.size := Nat.le_trans hB6.size hcc.1.size
          replace hB6 := hB6.trans (hcc.1.mono hB6.size)
          clear hcc hg_le
          have lt_8 := i6_8.lt
          go_wp2_with fail
          go_roundg j
          case measure => omega
          case rel => exact ⟨T30, by have := HJ.out; omega, (by have e := HF.out; rw [← H22.out] at e; rw [← H30.out] at e; exact e), b_T30, rfl, (i6_8.setRow _), (i6_4.setRowOther _ _ (by omega)), (i6_5.setRowOther _ _ (by omega)), (i6_6.setRowOther _ _ (by omega)), (i6_7.setRowOther _ _ (by omega)), (bSetRow hB6 lb_g8 _)⟩
end Go.Proofs.YtjpfhhndjpdmoaaGreatDoor

namespace Go.Proofs.YtjpfhhndjpdmoaaGreatDoor
open Go.RowKit

abbrev D (x : UInt32) : Value := .int .u32 (x.toNat : Int)
abbrev AD (l : List UInt32) : Array Value := (l.map D).toArray
def xw (a b : UInt32) : UInt32 := a ^^^ b
def nw (a b : UInt32) : UInt32 := a &&& b
def ow (a b : UInt32) : UInt32 := a ||| b
def aw (a b : UInt32) : UInt32 := a + b
def cw (a : UInt32) : UInt32 := ~~~ a
theorem wrapN32 (a : Nat) : IntKind.u32.wrap (a : Int) = ((a % 4294967296 : Nat) : Int) := by rw [IntKind.wrap_u32']; omega
theorem dw_xor (a b : UInt32) : bits .xor .u32 (a.toNat : Int) (b.toNat : Int) = ((xw a b).toNat : Int) := by
  rw [u32_xor_nat _ _ a.toNat_lt b.toNat_lt, xw, UInt32.toNat_xor]
theorem dw_and (a b : UInt32) : bits .and .u32 (a.toNat : Int) (b.toNat : Int) = ((nw a b).toNat : Int) := by
  rw [u32_and_nat _ _ a.toNat_lt b.toNat_lt, nw, UInt32.toNat_and]
theorem dw_or (a b : UInt32) : bits .or .u32 (a.toNat : Int) (b.toNat : Int) = ((ow a b).toNat : Int) := by
  rw [u32_or_nat _ _ a.toNat_lt b.toNat_lt, ow, UInt32.toNat_or]
theorem dw_add (a b : UInt32) : IntKind.u32.wrap ((a.toNat : Int) + (b.toNat : Int)) = ((aw a b).toNat : Int) := by
  rw [show ((a.toNat : Int) + (b.toNat : Int)) = ((a.toNat + b.toNat : Nat) : Int) by omega, wrapN32, aw, UInt32.toNat_add]
theorem dw_addm (a b : UInt32) : ((a.toNat : Int) + (b.toNat : Int)) % 4294967296 = ((aw a b).toNat : Int) := by
  rw [← dw_add, IntKind.wrap_u32']
def srW (n : Nat) (x : UInt32) : UInt32 := UInt32.ofNat (x.toNat / 2 ^ n)
def sl (n : Nat) (x : UInt32) : UInt32 := UInt32.ofNat (x.toNat * 2 ^ n % 4294967296)
theorem srW_nat (n : Nat) (x : UInt32) : ((srW n x).toNat : Int) = (x.toNat : Int) / 2 ^ n := by
  have h := x.toNat_lt
  have h1 : x.toNat / 2 ^ n ≤ x.toNat := Nat.div_le_self _ _
  rw [srW, UInt32.toNat_ofNat', Nat.mod_eq_of_lt (by omega)]
  simp
theorem sl_nat (n : Nat) (x : UInt32) : ((sl n x).toNat : Int) = IntKind.u32.wrap ((x.toNat : Int) * 2 ^ n) := by
  rw [show ((x.toNat : Int) * 2 ^ n) = ((x.toNat * 2 ^ n : Nat) : Int) by simp, wrapN32, sl, UInt32.toNat_ofNat']
  have : x.toNat * 2 ^ n % 4294967296 < 4294967296 := Nat.mod_lt _ (by omega)
  rw [Nat.mod_eq_of_lt (by omega)]
theorem sr_8 (x : UInt32) : (x.toNat : Int) / 8 = ((srW 3 x).toNat : Int) := (srW_nat 3 x).symm
theorem sr_1024 (x : UInt32) : (x.toNat : Int) / 1024 = ((srW 10 x).toNat : Int) := (srW_nat 10 x).symm
def rr (n : Nat) (x : UInt32) : UInt32 := ow (srW n x) (sl (32 - n) x)
def rrB (n : Nat) (x : UInt32) : UInt32 := ow (sl (32 - n) x) (srW n x)
theorem rrB_eq (n : Nat) (x : UInt32) : rrB n x = rr n x := by unfold rr rrB ow; exact UInt32.or_comm _ _
theorem rr_bits (n : Nat) (x : UInt32) (a b : Int) (ha : a = 2 ^ (32 - n)) (hb : b = 2 ^ n) : Value.int .u32 (bits .or .u32 ((x.toNat : Int) * a % 4294967296) ((x.toNat : Int) / b)) = D (rr n x) := by
  rw [← rrB_eq]
  unfold rrB D
  rw [← dw_or, sl_nat, srW_nat, IntKind.wrap_u32', ha, hb]
def gw (l : List UInt32) (i : Nat) : UInt32 := l.getD i 0
def be4 (a b c d : UInt8) : UInt32 := UInt32.ofNat (a.toNat * 16777216 + b.toNat * 65536 + c.toNat * 256 + d.toNat)
theorem or_shift (a b k : Nat) (h : b < 2 ^ k) : a * 2 ^ k ||| b = a * 2 ^ k + b := by
  rw [← Nat.shiftLeft_eq, Nat.shiftLeft_add_eq_or_of_lt h]
theorem be4_bits (x0 x1 x2 x3 : UInt8) : Value.int .u32 (bits .or .u32 (bits .or .u32 (bits .or .u32 ((x0.toNat : Int) * 16777216) ((x1.toNat : Int) * 65536)) ((x2.toNat : Int) * 256)) (x3.toNat : Int)) = D (be4 x0 x1 x2 x3) := by
  have h0 := x0.toNat_lt
  have h1 := x1.toNat_lt
  have h2 := x2.toNat_lt
  have h3 := x3.toNat_lt
  have e0 : ((x0.toNat : Int) * 16777216) = ((x0.toNat * 16777216 : Nat) : Int) := by omega
  have e1 : ((x1.toNat : Int) * 65536) = ((x1.toNat * 65536 : Nat) : Int) := by omega
  have e2 : ((x2.toNat : Int) * 256) = ((x2.toNat * 256 : Nat) : Int) := by omega
  have a1 := or_shift x0.toNat (x1.toNat * 65536) 24 (by omega)
  have a2 := or_shift (x0.toNat * 256 + x1.toNat) (x2.toNat * 256) 16 (by omega)
  have a3 := or_shift (x0.toNat * 65536 + x1.toNat * 256 + x2.toNat) x3.toNat 8 (by omega)
  rw [show (2 : Nat) ^ 24 = 16777216 from rfl] at a1
  rw [show (2 : Nat) ^ 16 = 65536 from rfl, show (x0.toNat * 256 + x1.toNat) * 65536 = x0.toNat * 16777216 + x1.toNat * 65536 by omega] at a2
  rw [show (2 : Nat) ^ 8 = 256 from rfl, show (x0.toNat * 65536 + x1.toNat * 256 + x2.toNat) * 256 = x0.toNat * 16777216 + x1.toNat * 65536 + x2.toNat * 256 by omega] at a3
  rw [e0, e1, e2, u32_or_nat _ _ (by omega) (by omega), a1, u32_or_nat _ _ (by omega) (by omega), a2, u32_or_nat _ _ (by omega) (by omega), a3]
  unfold D be4
  rw [UInt32.toNat_ofNat', Nat.mod_eq_of_lt (by omega)]
def s0 (x : UInt32) : UInt32 := xw (xw (rr 7 x) (rr 18 x)) (srW 3 x)
def s1 (x : UInt32) : UInt32 := xw (xw (rr 17 x) (rr 19 x)) (srW 10 x)
def b0 (x : UInt32) : UInt32 := xw (xw (rr 2 x) (rr 13 x)) (rr 22 x)
def b1 (x : UInt32) : UInt32 := xw (xw (rr 6 x) (rr 11 x)) (rr 25 x)
def chS (e f g : UInt32) : UInt32 := xw g (nw e (xw f g))
def maS (a b c : UInt32) : UInt32 := ow (nw a b) (nw c (ow a b))
def mixW (l : List UInt32) (i : Nat) : UInt32 := aw (aw (aw (gw l (i - 16)) (gw l (i - 7))) (s0 (gw l (i - 15)))) (s1 (gw l (i - 2)))
def wordS (b : List UInt8) (i : Nat) : UInt32 := be4 (b.getD (4 * i) 0) (b.getD (4 * i + 1) 0) (b.getD (4 * i + 2) 0) (b.getD (4 * i + 3) 0)
def schS (b : List UInt8) : Nat → List UInt32
  | 0 => List.replicate 64 0
  | i + 1 => (schS b i).set i (if i < 16 then wordS b i else mixW (schS b i) i)
theorem schS_len (b : List UInt8) : ∀ i, (schS b i).length = 64
  | 0 => List.length_replicate
  | i + 1 => by rw [schS, List.length_set]; exact schS_len b i
structure S8 where
  a : UInt32
  b : UInt32
  c : UInt32
  d : UInt32
  e : UInt32
  f : UInt32
  g : UInt32
  h : UInt32
def tS (k w : UInt32) (v : S8) : UInt32 := aw (aw (aw (aw v.h (b1 v.e)) (chS v.e v.f v.g)) k) w
def uS (v : S8) : UInt32 := aw (b0 v.a) (maS v.a v.b v.c)
def oneS (k w : UInt32) (v : S8) : S8 := ⟨aw (tS k w v) (uS v), v.a, v.b, v.c, aw v.d (tS k w v), v.e, v.f, v.g⟩
def runS (ks ws : List UInt32) (v : S8) : Nat → S8
  | 0 => v
  | i + 1 => oneS (gw ks i) (gw ws i) (runS ks ws v i)
def ofS (l : List UInt32) : S8 := ⟨gw l 0, gw l 1, gw l 2, gw l 3, gw l 4, gw l 5, gw l 6, gw l 7⟩
def roundsS : List UInt32 := [
  0x428a2f98, 0x71374491, 0xb5c0fbcf, 0xe9b5dba5, 0x3956c25b, 0x59f111f1, 0x923f82a4, 0xab1c5ed5,
  0xd807aa98, 0x12835b01, 0x243185be, 0x550c7dc3, 0x72be5d74, 0x80deb1fe, 0x9bdc06a7, 0xc19bf174,
  0xe49b69c1, 0xefbe4786, 0x0fc19dc6, 0x240ca1cc, 0x2de92c6f, 0x4a7484aa, 0x5cb0a9dc, 0x76f988da,
  0x983e5152, 0xa831c66d, 0xb00327c8, 0xbf597fc7, 0xc6e00bf3, 0xd5a79147, 0x06ca6351, 0x14292967,
  0x27b70a85, 0x2e1b2138, 0x4d2c6dfc, 0x53380d13, 0x650a7354, 0x766a0abb, 0x81c2c92e, 0x92722c85,
  0xa2bfe8a1, 0xa81a664b, 0xc24b8b70, 0xc76c51a3, 0xd192e819, 0xd6990624, 0xf40e3585, 0x106aa070,
  0x19a4c116, 0x1e376c08, 0x2748774c, 0x34b0bcb5, 0x391c0cb3, 0x4ed8aa4a, 0x5b9cca4f, 0x682e6ff3,
  0x748f82ee, 0x78a5636f, 0x84c87814, 0x8cc70208, 0x90befffa, 0xa4506ceb, 0xbef9a3f7, 0xc67178f2]
def startS : List UInt32 := [0x6a09e667, 0xbb67ae85, 0x3c6ef372, 0xa54ff53a, 0x510e527f, 0x9b05688c, 0x1f83d9ab, 0x5be0cd19]
def pressS (h : List UInt32) (b : List UInt8) : List UInt32 :=
  let v := runS roundsS (schS b 64) (ofS h) 64
  [aw (gw h 0) v.a, aw (gw h 1) v.b, aw (gw h 2) v.c, aw (gw h 3) v.d, aw (gw h 4) v.e, aw (gw h 5) v.f, aw (gw h 6) v.g, aw (gw h 7) v.h]
def pressAll (h : List UInt32) : Nat → List UInt8 → List UInt32
  | 0, _ => h
  | n + 1, l => pressAll (pressS h (l.take 64)) n (l.drop 64)
def padS (n : Nat) (l : List UInt8) : List UInt8 :=
  l ++ (0x80 :: (List.replicate ((119 - l.length % 64) % 64) 0 ++ (List.range 8).map fun i => UInt8.ofNat (n * 8 / 2 ^ (56 - 8 * i))))
def bytesS (h : List UInt32) : List UInt8 := h.flatMap fun x => [UInt8.ofNat (x.toNat / 16777216), UInt8.ofNat (x.toNat / 65536), UInt8.ofNat (x.toNat / 256), UInt8.ofNat x.toNat]
def shaS (l : List UInt8) : List UInt8 := bytesS (pressAll startS ((padS l.length l).length / 64) (padS l.length l))
end Go.Proofs.YtjpfhhndjpdmoaaGreatDoor
