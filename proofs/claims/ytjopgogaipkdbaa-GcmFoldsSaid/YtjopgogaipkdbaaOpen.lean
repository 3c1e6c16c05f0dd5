/- The walk of block's Open. -/
import Derived.Test.YtjopgogaipkdbaaBlockA
import Derived.Test.YtjopgogaipkdbaaSealSpec
import Derived.Deep.LoopGhost
namespace Go.Proofs.Ytjopgogaipkdbaa
open Go.RowKit
attribute [local go_sem] keyC_T keyC_K addF_len mixL_len subL_len unL_len openD_len keyC_size keyC_v keyC_vE keyC_TE keyC_KE boxT_len boxK_len

theorem mix_14 (b : List UInt8) (hb : b.length = 16) (w : World) :
    Calls Try.prog 40 #[.agg (AB b), .agg #[.int .u8 14, .int .u8 11, .int .u8 13, .int .u8 9]] w fun e w' => e = .returned (.agg (AB (mixL b [14, 11, 13, 9] 16 0))) ∧ Below w.heap.size w w' :=
  mix_any b [14, 11, 13, 9] hb rfl w
theorem open_nil (b : List UInt8) (_hb : b.length = 16) (w : World) :
    Calls Try.prog 18 #[.pointer none, .agg (AB b)] w fun e w' => e = .returned (.agg (AB (List.replicate 16 0))) ∧ Below w.heap.size w w' := by
  go_enter Try.func18, Try.ntmps18
  go_wp2
  refine ret_row (.inl rfl) rfl (w.heap.size + 1) _ _ 16 _ rfl ((Row.newAt _ _ _ _ (by simp)).setRow _) Try.underlying23 rfl (by kernel_rfl) rfl ⟨rfl, ?_⟩
  exact bSetRow ((((Below.refl _ w).alloc (Nat.le_refl _) _).alloc (by simp) _)) (by omega) _

set_option maxRecDepth 100000 in
set_option maxHeartbeats 2000000 in
theorem open_any (p : Value) (W : List UInt8) (last : Nat) (b : List UInt8) (w : World) (hk : KeyAt 67 23 w p W (last + 1)) (hb : b.length = 16) :
    Calls Try.prog 18 #[p, .agg (AB b)] w fun e w' => e = .returned (.agg (AB (openD W last last b))) ∧ Below w.heap.size w w' := by
  obtain ⟨kb, kk, cap, cur, rfl, r1, r2, hWl, hpre, hcap, hmax⟩ := hk
  have l1 := r1.lt
  have l2 := r2.lt
  have l3 : kb < w.heap.size + 1 := by omega
  have l4 : kk < w.heap.size + 1 := by omega
  have hk0 := hpre.sub 0 16 (by omega)
  rw [show (W.drop 0).take 16 = rk W 0 by simp [rk]] at hk0
  have hkl := rk_len W (last + 1) 0 hWl (by omega)
  have hsz := hpre.size
  have hsz0 : 16 ≤ cur.size := by omega
  have hlast : last < 9223372036854775807 := by unfold maxLen at hmax; omega
  have HWl := Lib.hid hWl
  have hpre := Lib.hid hpre
  have hcap := Lib.hid hcap
  have Hsz := Lib.hid (show (last + 1) * 16 ≤ cur.size by omega)
  clear hWl hsz hmax
  go_enter Try.func18, Try.ntmps18
  go_wp2_with fail
  obtain ⟨w0, hw0⟩ : ∃ w0, w0 = (w.alloc (.cells (AB b) 23)).alloc (.cells (AB (List.replicate 16 0)) 23) := ⟨_, rfl⟩
  have s1 : Row w0 kb 67 (keyC boxT boxK (.slice (some ⟨kk, 0, none⟩) (last + 1) cap)) := by rw [hw0]; exact (r1.alloc _).alloc _
  have s2 : Row w0 kk 23 cur := by rw [hw0]; exact (r2.alloc _).alloc _
  have s3 : Row w0 w.heap.size 23 (AB b) := by rw [hw0]; exact (Row.new _ _ _).alloc _
  have s4 : RowN w0 (w.heap.size + 1) 23 16 := by rw [hw0]; exact RowN.newAt _ _ _ _ (by simp)
  have hB0 : Below w.heap.size w w0 := by rw [hw0]; exact ((Below.refl _ w).alloc (Nat.le_refl _) _).alloc (by simp) _
  have hw0' : ((w.alloc (.cells (AB b) 23)).alloc (.cells #[.int .u8 0, .int .u8 0, .int .u8 0, .int .u8 0, .int .u8 0, .int .u8 0, .int .u8 0, .int .u8 0, .int .u8 0, .int .u8 0, .int .u8 0, .int .u8 0, .int .u8 0, .int .u8 0, .int .u8 0, .int .u8 0] 23)) = w0 := by rw [hw0]; rfl
  rw [hw0']
  clear hw0 hw0' r1 r2
  go_loopg [6] last (fun n rv wr => ∃ (q : Nat) (st : List UInt8), n = q ∧ q ≤ last ∧ rv = .int .i64 q ∧ st.length = 16 ∧ openD W last last b = openD W last q st ∧ Row wr w.heap.size 23 (AB st) ∧ RowN wr (w.heap.size + 1) 23 16 ∧
    Row wr kb 67 (keyC boxT boxK (.slice (some ⟨kk, 0, none⟩) (last + 1) cap)) ∧ Row wr kk 23 cur ∧ Below w.heap.size w wr)
  case atStart => exact ⟨last, b, rfl, Nat.le_refl _, rfl, hb, rfl, s3, s4, s1, s2, hB0⟩
  case round =>
    clear s1 s2 s3 s4 hB0
    obtain ⟨q0, st, hq, hql, rfl, hst, hst2, t3, t4, t1, t2, hB⟩ := hrel
    have HST := Lib.hid hst2
    clear hst2
    have u1 := t1.lt
    have u2 := t2.lt
    have u3 := t3.lt
    have u4 := t4.lt
    obtain ⟨wo, rfl⟩ : ∃ wo : World, wo = wr := ⟨_, rfl⟩
    obtain ⟨no, rfl⟩ : ∃ no : Nat, no = gk := ⟨_, rfl⟩
    cases q0 with
    | succ q =>
      by_cases hle : q + 1 ≤ last
      · have hkq := hpre.out.sub ((q + 1) * 16) 16 (by have := HWl.out; omega)
        have hkl2 := rk_len W (last + 1) (q + 1) HWl.out (by omega)
        obtain ⟨kq, hkq2⟩ : ∃ kq, kq = rk W (q + 1) := ⟨_, rfl⟩
        rw [show (W.drop ((q + 1) * 16)).take 16 = kq from hkq2.symm] at hkq
        rw [← hkq2] at hkl2
        have HKQ := Lib.hid hkq2
        have hszq : (q + 1) * 16 + 16 ≤ cur.size := by have := Hsz.out; omega
        have b0 : (0 : Int) < (q : Int) + 1 := by omega
        have b1 : ((q : Int) + 1) ≤ (last : Int) := by omega
        have b2 : ((q : Int) + 1) < (last : Int) + 1 := by omega
        clear hkq2
        go_wp2_with fail
        by_cases hl2 : q + 1 < last
        · have b3 : ((q : Int) + 1) < (last : Int) := by omega
          go_wp2_with fail
          refine wp_region_qtail (fun w' => w' = _) 8 (by kernel_rfl) (by kernel_rfl) rfl ?_
          simp only [List.take_succ_cons, List.take_zero, List.drop_succ_cons, List.drop_zero]
          repeat (first | go_big_quiet_skip | (go_big_quiet_want; go_big_quiet_op; go_big_quiet_on))
          refine wpQuiet_nil ?_
          rintro _ rfl
          go_wp2_with fail
          refine (add_any _ _ hst hkl2 _).mono ?_
          rintro e w1 ⟨rfl, hb1⟩
          have x3 := Row.below t3.drew hb1 t3.lt
          have x4 := RowN.below t4.drew hb1 t4.lt
          have x1 := Row.below t1.drew hb1 t1.lt
          have x2 := Row.below t2.drew hb1 t2.lt
          have x6 : Below w.heap.size w w1 := Below.trans (Below.drew hB) (hb1.mono (by have := t3.lt; simpa using Nat.le_of_lt this))
          go_wp2_with fail
          obtain ⟨M1, hM1⟩ : ∃ M1, M1 = addF st kq 16 := ⟨_, rfl⟩
          have hml1 : M1.length = 16 := by rw [hM1]; exact addF_len _ _ _
          rw [← hM1]
          have y3 := x3.setRow (AB M1)
          have y4 := x4.setRowOther w.heap.size (AB M1) (by omega)
          have y1 := x1.setRowOther w.heap.size (AB M1) (by omega)
          have y2 := x2.setRowOther w.heap.size (AB M1) (by omega)
          have y6 := bSetRow x6 (Nat.le_refl _) (AB M1)
          have HM1 := Lib.hid hM1
          clear hM1 x1 x2 x3 x4 x6 t1 t2 t3 t4 hB hb1
          refine (mix_14 _ hml1 _).mono ?_
          rintro e w4 ⟨rfl, hb4⟩
          obtain ⟨M, hM⟩ : ∃ M, M = mixL M1 [14, 11, 13, 9] 16 0 := ⟨_, rfl⟩
          have hml : M.length = 16 := by rw [hM]; exact mixL_len _ _ _ _
          rw [← hM]
          have HM : Hid (M = mixL (addF st kq 16) [14, 11, 13, 9] 16 0) := by rw [← HM1.out]; exact hM
          have v3 := (Row.below y3 hb4 y3.lt).setRow (AB M)
          have v4 := (RowN.below y4 hb4 y4.lt).setRowOther w.heap.size (AB M) (by omega)
          have v1 := (Row.below y1 hb4 y1.lt).setRowOther w.heap.size (AB M) (by omega)
          have v2 := (Row.below y2 hb4 y2.lt).setRowOther w.heap.size (AB M) (by omega)
          have v6 := bSetRow (Below.trans y6 (hb4.mono (Nat.le_of_lt y3.lt))) (Nat.le_refl _) (AB M)
          have y3' := Row.below y3 hb4 y3.lt
          have g4 : w.heap.size < w4.heap.size := y3'.lt
          have g5 : w.heap.size + 1 < w4.heap.size := (RowN.below y4 hb4 y4.lt).lt
          clear hM y1 y2 y3 y4 y6 hb4 HM1
          have z1 := v1.lt
          have z2 := v2.lt
          have z3 := v3.lt
          have z4 := v4.lt
          go_wp2_with fail
          go_loopg [38] 16 (fun n iv wr => ∃ k : Nat, n + k = 16 ∧ iv = .int .i64 k ∧ Row wr w4.heap.size 23 (AB (unL M k)) ∧ Row wr w.heap.size 23 (AB M) ∧ RowN wr (w.heap.size + 1) 23 16 ∧
            Row wr kb 67 (keyC boxT boxK (.slice (some ⟨kk, 0, none⟩) (last + 1) cap)) ∧ Row wr kk 23 cur ∧ Below w.heap.size w wr)
          case atStart =>
            refine ⟨0, by omega, rfl, ?_, v3.alloc _, v4.alloc _, v1.alloc _, v2.alloc _, v6.alloc (by omega) _⟩
            rw [unL_zero]; exact Row.newAt _ _ _ _ (by simp)
          case round =>
            clear v1 v2 v3 v4 v6
            obtain ⟨k, hk, rfl, t5, t3, t4, t1, t2, hB⟩ := hrel
            have hsl := unL_len M k
            by_cases hk16 : k < 16
            · have c1 : ((k : Int) + 4 * ((k : Int) % 4)) % 16 < 16 := by omega
              have c2 : 0 ≤ ((k : Int) + 4 * ((k : Int) % 4)) % 16 := by omega
              have c3 : (((k : Int) + 4 * ((k : Int) % 4)) % 16).toNat = (k + 4 * (k % 4)) % 16 := by omega
              have c4 : (k + 4 * (k % 4)) % 16 < 16 := by omega
              have c5 : (k : Int) < 16 := by omega
              obtain ⟨y, hy⟩ : ∃ y, y = gb M k := ⟨_, rfl⟩
              have c6 : y.toNat < 256 := y.toNat_lt
              have c7 : (y.toNat : Int) < 256 := by omega
              have hcy : wr.cell? ⟨w.heap.size, k, none⟩ = some (B y) := by rw [hy]; exact t3.byte _ (by omega)
              have HY := Lib.hid hy
              clear hy
              go_wp2_with fail
              refine wp_region_qtail (fun w' => w' = _) 16 (by kernel_rfl) (by kernel_rfl) rfl ?_
              simp only [List.take_succ_cons, List.take_zero, List.drop_succ_cons, List.drop_zero]
              repeat (first | go_big_quiet_skip | (go_big_quiet_want; go_big_quiet_op; go_big_quiet_on))
              refine wpQuiet_nil ?_
              rintro _ rfl
              go_wp2_with fail
              go_roundg (gk - 1)
              case measure => omega
              case rel =>
                refine ⟨k + 1, by omega, by go_num, ?_, t3.setOther _ _ (by simp; omega), t4.setOther _ _ (by simp; omega), t1.setOther _ _ (by simp; omega), t2.setOther _ _ (by simp; omega), hB.drew.setCell (by simp; omega) _⟩
                rw [← unL_step M k hk16, ← HY.out]
                exact t5.setByte _ _
            · obtain rfl : k = 16 := by omega
              go_wp2_with fail
              go_roundg (no - 1)
              case measure => omega
              case rel =>
                refine ⟨q, unL M 16, by omega, by omega, by go_num, unL_len _ _, ?_, ?_, t4.setRowOther _ _ (by omega), t1.setRowOther _ _ (by omega), t2.setRowOther _ _ (by omega), bSetRow hB (by omega) _⟩
                · rw [HST.out]
                  show openD W last q (oround W last st (q + 1)) = _
                  unfold oround
                  rw [if_pos hl2, HM.out, HKQ.out]
                · exact t3.setRow _
        · have b3 : ¬ ((q : Int) + 1) < (last : Int) := by omega
          go_wp2_with fail
          refine wp_region_qtail (fun w' => w' = _) 8 (by kernel_rfl) (by kernel_rfl) rfl ?_
          simp only [List.take_succ_cons, List.take_zero, List.drop_succ_cons, List.drop_zero]
          repeat (first | go_big_quiet_skip | (go_big_quiet_want; go_big_quiet_op; go_big_quiet_on))
          refine wpQuiet_nil ?_
          rintro _ rfl
          go_wp2_with fail
          refine (add_any _ _ hst hkl2 _).mono ?_
          rintro e w1 ⟨rfl, hb1⟩
          have x3 := Row.below t3.drew hb1 t3.lt
          have x4 := RowN.below t4.drew hb1 t4.lt
          have x1 := Row.below t1.drew hb1 t1.lt
          have x2 := Row.below t2.drew hb1 t2.lt
          have x6 : Below w.heap.size w w1 := Below.trans (Below.drew hB) (hb1.mono (by have := t3.lt; simpa using Nat.le_of_lt this))
          obtain ⟨M, hM⟩ : ∃ M, M = addF st kq 16 := ⟨_, rfl⟩
          have hml : M.length = 16 := by rw [hM]; exact addF_len _ _ _
          rw [← hM]
          have v3 := x3.setRow (AB M)
          have v4 := x4.setRowOther w.heap.size (AB M) (by omega)
          have v1 := x1.setRowOther w.heap.size (AB M) (by omega)
          have v2 := x2.setRowOther w.heap.size (AB M) (by omega)
          have v6 := bSetRow x6 (Nat.le_refl _) (AB M)
          have HM := Lib.hid hM
          have g4 : w.heap.size < w1.heap.size := x3.lt
          have g5 : w.heap.size + 1 < w1.heap.size := x4.lt
          have y3' := x3
          clear hM x1 x2 x3 x4 x6 t1 t2 t3 t4 hB hb1
          have z1 := v1.lt
          have z2 := v2.lt
          have z3 := v3.lt
          have z4 := v4.lt
          go_wp2_with fail
          go_loopg [38] 16 (fun n iv wr => ∃ k : Nat, n + k = 16 ∧ iv = .int .i64 k ∧ Row wr w1.heap.size 23 (AB (unL M k)) ∧ Row wr w.heap.size 23 (AB M) ∧ RowN wr (w.heap.size + 1) 23 16 ∧
            Row wr kb 67 (keyC boxT boxK (.slice (some ⟨kk, 0, none⟩) (last + 1) cap)) ∧ Row wr kk 23 cur ∧ Below w.heap.size w wr)
          case atStart =>
            refine ⟨0, by omega, rfl, ?_, v3.alloc _, v4.alloc _, v1.alloc _, v2.alloc _, v6.alloc (by omega) _⟩
            rw [unL_zero]; exact Row.newAt _ _ _ _ (by simp)
          case round =>
            clear v1 v2 v3 v4 v6
            obtain ⟨k, hk, rfl, t5, t3, t4, t1, t2, hB⟩ := hrel
            have hsl := unL_len M k
            by_cases hk16 : k < 16
            · have c1 : ((k : Int) + 4 * ((k : Int) % 4)) % 16 < 16 := by omega
              have c2 : 0 ≤ ((k : Int) + 4 * ((k : Int) % 4)) % 16 := by omega
              have c3 : (((k : Int) + 4 * ((k : Int) % 4)) % 16).toNat = (k + 4 * (k % 4)) % 16 := by omega
              have c4 : (k + 4 * (k % 4)) % 16 < 16 := by omega
              have c5 : (k : Int) < 16 := by omega
              obtain ⟨y, hy⟩ : ∃ y, y = gb M k := ⟨_, rfl⟩
              have c6 : y.toNat < 256 := y.toNat_lt
              have c7 : (y.toNat : Int) < 256 := by omega
              have hcy : wr.cell? ⟨w.heap.size, k, none⟩ = some (B y) := by rw [hy]; exact t3.byte _ (by omega)
              have HY := Lib.hid hy
              clear hy
              go_wp2_with fail
              refine wp_region_qtail (fun w' => w' = _) 16 (by kernel_rfl) (by kernel_rfl) rfl ?_
              simp only [List.take_succ_cons, List.take_zero, List.drop_succ_cons, List.drop_zero]
              repeat (first | go_big_quiet_skip | (go_big_quiet_want; go_big_quiet_op; go_big_quiet_on))
              refine wpQuiet_nil ?_
              rintro _ rfl
              go_wp2_with fail
              go_roundg (gk - 1)
              case measure => omega
              case rel =>
                refine ⟨k + 1, by omega, by go_num, ?_, t3.setOther _ _ (by simp; omega), t4.setOther _ _ (by simp; omega), t1.setOther _ _ (by simp; omega), t2.setOther _ _ (by simp; omega), hB.drew.setCell (by simp; omega) _⟩
                rw [← unL_step M k hk16, ← HY.out]
                exact t5.setByte _ _
            · obtain rfl : k = 16 := by omega
              go_wp2_with fail
              go_roundg (no - 1)
              case measure => omega
              case rel =>
                refine ⟨q, unL M 16, by omega, by omega, by go_num, unL_len _ _, ?_, ?_, t4.setRowOther _ _ (by omega), t1.setRowOther _ _ (by omega), t2.setRowOther _ _ (by omega), bSetRow hB (by omega) _⟩
                · rw [HST.out]
                  show openD W last q (oround W last st (q + 1)) = _
                  unfold oround
                  rw [if_neg hl2, HM.out, HKQ.out]
                · exact t3.setRow _
      · omega
    | zero =>
      obtain ⟨z, hz, hzs⟩ := t4
      go_wp2_with fail
      refine wp_region_qtail (fun w' => w' = _) 7 (by kernel_rfl) (by kernel_rfl) rfl ?_
      simp only [List.take_succ_cons, List.take_zero, List.drop_succ_cons, List.drop_zero]
      repeat (first | go_big_quiet_skip | (go_big_quiet_want; go_big_quiet_op; go_big_quiet_on))
      refine wpQuiet_nil ?_
      rintro _ rfl
      go_wp2_with fail
      refine (add_any _ _ hst hkl _).mono ?_
      rintro e w1 ⟨rfl, hb1⟩
      have x6 : Below w.heap.size w w1 := Below.trans (Below.drew hB) (hb1.mono (by simpa using Nat.le_of_lt u3))
      have x4 := Row.below hz.drew hb1 hz.lt
      have hEQ : addF st (rk W 0) 16 = openD W last last b := by rw [HST.out]; rfl
      rw [hEQ]
      have hl16 := (AB_size (openD W last last b)).trans (openD_len _ _ _ _)
      clear hEQ t1 t2 t3 hz hB hb1
      go_wp2_with fail
      exact ret_row (.inl rfl) rfl (w.heap.size + 1) _ _ 16 _ rfl (x4.setRow _) Try.underlying23 rfl (by kernel_rfl) hl16 ⟨rfl, bSetRow x6 (by omega) _⟩
end Go.Proofs.Ytjopgogaipkdbaa
