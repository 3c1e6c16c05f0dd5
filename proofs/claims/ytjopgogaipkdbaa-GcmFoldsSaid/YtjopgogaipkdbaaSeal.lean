/- The walk of block's Seal. -/
import Derived.Test.YtjopgogaipkdbaaBlockA
import Derived.Test.YtjopgogaipkdbaaSealSpec
import Derived.Deep.LoopGhost
namespace Go.Proofs.Ytjopgogaipkdbaa
open Go.RowKit
attribute [local go_sem] keyC_T keyC_K addF_len mixL_len subL_len unL_len sealN_len keyC_size keyC_v keyC_vE keyC_TE keyC_KE boxT_len boxK_len

theorem mix_2311 (b : List UInt8) (hb : b.length = 16) (w : World) :
    Calls Try.prog 40 #[.agg (AB b), .agg #[.int .u8 2, .int .u8 3, .int .u8 1, .int .u8 1]] w fun e w' => e = .returned (.agg (AB (mixL b [2, 3, 1, 1] 16 0))) ∧ Below w.heap.size w w' :=
  mix_any b [2, 3, 1, 1] hb rfl w
theorem seal_nil (b : List UInt8) (_hb : b.length = 16) (w : World) :
    Calls Try.prog 16 #[.pointer none, .agg (AB b)] w fun e w' => e = .returned (.agg (AB (List.replicate 16 0))) ∧ Below w.heap.size w w' := by
  go_enter Try.func16, Try.ntmps16
  go_wp2
  refine ret_row (.inl rfl) rfl (w.heap.size + 1) _ _ 16 _ rfl ((Row.newAt _ _ _ _ (by simp)).setRow _) Try.underlying23 rfl (by kernel_rfl) rfl ⟨rfl, ?_⟩
  exact bSetRow ((((Below.refl _ w).alloc (Nat.le_refl _) _).alloc (by simp) _)) (by omega) _

set_option maxRecDepth 100000 in
set_option maxHeartbeats 2000000 in
theorem seal_any (p : Value) (W : List UInt8) (last : Nat) (b : List UInt8) (w : World) (hk : KeyAt 67 23 w p W (last + 1)) (hb : b.length = 16) :
    Calls Try.prog 16 #[p, .agg (AB b)] w fun e w' => e = .returned (.agg (AB (sealN W last b last))) ∧ Below w.heap.size w w' := by
  obtain ⟨kb, kk, cap, cur, rfl, r1, r2, hWl, hpre, hcap, hmax⟩ := hk
  have l1 := r1.lt
  have l2 := r2.lt
  have l3 : kb < w.heap.size + 1 := by omega
  have l4 : kk < w.heap.size + 1 := by omega
  have hk0 := hpre.sub 0 16 (by omega)
  rw [show (W.drop 0).take 16 = rk W 0 by simp [rk]] at hk0
  have hkl := rk_len W (last + 1) 0 hWl (by omega)
  have hsz := hpre.size
  have hsz0 : 16 ≤ cur.size := by omega
  have hlast : last < 9223372036854775807 := by unfold maxLen at hmax; omega
  have HWl := Lib.hid hWl
  have hpre := Lib.hid hpre
  have hcap := Lib.hid hcap
  have Hsz := Lib.hid (show (last + 1) * 16 ≤ cur.size by omega)
  clear hWl hsz hmax
  go_enter Try.func16, Try.ntmps16
  go_wp2_with fail
  obtain ⟨w0, hw0⟩ : ∃ w0, w0 = (w.alloc (.cells (AB b) 23)).alloc (.cells (AB (List.replicate 16 0)) 23) := ⟨_, rfl⟩
  have s1 : Row w0 kb 67 (keyC boxT boxK (.slice (some ⟨kk, 0, none⟩) (last + 1) cap)) := by rw [hw0]; exact (r1.alloc _).alloc _
  have s2 : Row w0 kk 23 cur := by rw [hw0]; exact (r2.alloc _).alloc _
  have s3 : Row w0 w.heap.size 23 (AB b) := by rw [hw0]; exact (Row.new _ _ _).alloc _
  have s4 : RowN w0 (w.heap.size + 1) 23 16 := by rw [hw0]; exact RowN.newAt _ _ _ _ (by simp)
  have hB0 : Below w.heap.size w w0 := by rw [hw0]; exact ((Below.refl _ w).alloc (Nat.le_refl _) _).alloc (by simp) _
  have hw0' : ((w.alloc (.cells (AB b) 23)).alloc (.cells #[.int .u8 0, .int .u8 0, .int .u8 0, .int .u8 0, .int .u8 0, .int .u8 0, .int .u8 0, .int .u8 0, .int .u8 0, .int .u8 0, .int .u8 0, .int .u8 0, .int .u8 0, .int .u8 0, .int .u8 0, .int .u8 0] 23)) = w0 := by rw [hw0]; rfl
  rw [hw0']
  clear hw0 hw0' r1 r2
  refine wp_region_qtail (fun w' => w' = _) 7 (by kernel_rfl) (by kernel_rfl) rfl ?_
  simp only [List.take_succ_cons, List.take_zero, List.drop_succ_cons, List.drop_zero]
  repeat (first | go_big_quiet_skip | (go_big_quiet_want; go_big_quiet_op; go_big_quiet_on))
  refine wpQuiet_nil ?_
  rintro _ rfl
  go_wp2_with (go_at_call 39; refine (add_any _ _ hb hkl _).mono ?_; rintro e w1 ⟨rfl, hb1⟩; have t3 := Row.below s3.drew hb1 s3.lt)
  have t1 := Row.below s1.drew hb1 s1.lt
  have t2 := Row.below s2.drew hb1 s2.lt
  have t4 := RowN.below s4.drew hb1 s4.lt
  have hB1 : Below w.heap.size w w1 := hB0.drew.trans (hb1.mono (by have := s3.lt; simpa using Nat.le_of_lt this))
  go_loopg [6] last (fun n rv wr => ∃ q : Nat, n + q = last ∧ rv = .int .i64 (q + 1) ∧ Row wr w.heap.size 23 (AB (sealN W last b q)) ∧ RowN wr (w.heap.size + 1) 23 16 ∧
    Row wr kb 67 (keyC boxT boxK (.slice (some ⟨kk, 0, none⟩) (last + 1) cap)) ∧ Row wr kk 23 cur ∧ Below w.heap.size w wr)
  case atStart =>
    refine ⟨0, by omega, rfl, ?_, t4.setRowOther _ _ (by omega), t1.setRowOther _ _ (by omega), t2.setRowOther _ _ (by omega), bSetRow hB1 (by omega) _⟩
    exact t3.setRow _
  case round =>
    clear t1 t2 t3 t4 hB1 s1 s2 s3 s4 hB0 hb1
    obtain ⟨q, hq, rfl, t3, t4, t1, t2, hB⟩ := hrel
    have hst := sealN_len W last b q
    obtain ⟨st, hst2⟩ : ∃ st, st = sealN W last b q := ⟨_, rfl⟩
    rw [← hst2] at hst t3
    have HST := Lib.hid hst2
    by_cases hlt : q < last
    · have hkq := hpre.out.sub ((q + 1) * 16) 16 (by have := HWl.out; omega)
      have hkl2 := rk_len W (last + 1) (q + 1) HWl.out (by omega)
      obtain ⟨kq, hkq2⟩ : ∃ kq, kq = rk W (q + 1) := ⟨_, rfl⟩
      rw [show (W.drop ((q + 1) * 16)).take 16 = kq from hkq2.symm] at hkq
      rw [← hkq2] at hkl2
      have HKQ := Lib.hid hkq2
      have hszq : (q + 1) * 16 + 16 ≤ cur.size := by have := Hsz.out; omega
      have b1 : ((q : Int) + 1) ≤ (last : Int) := by omega
      have b2 : ((q : Int) + 1) < (last : Int) + 1 := by omega
      have u1 := t1.lt
      have u2 := t2.lt
      have u3 := t3.lt
      have u4 := t4.lt
      obtain ⟨wo, rfl⟩ : ∃ wo : World, wo = wr := ⟨_, rfl⟩
      obtain ⟨no, rfl⟩ : ∃ no : Nat, no = gk := ⟨_, rfl⟩
      clear hst2 hkq2
      go_wp2_with fail
      go_loopg [31] 16 (fun n iv wr => ∃ k : Nat, n + k = 16 ∧ iv = .int .i64 k ∧ Row wr wo.heap.size 23 (AB (subL st k)) ∧ Row wr w.heap.size 23 (AB st) ∧ RowN wr (w.heap.size + 1) 23 16 ∧
        Row wr kb 67 (keyC boxT boxK (.slice (some ⟨kk, 0, none⟩) (last + 1) cap)) ∧ Row wr kk 23 cur ∧ Below w.heap.size w wr)
      case atStart =>
        refine ⟨0, by omega, rfl, ?_, t3.alloc _, t4.alloc _, t1.alloc _, t2.alloc _, hB.alloc (by omega) _⟩
        rw [subL_zero]; exact Row.new _ _ _
      case round =>
        clear t1 t2 t3 t4 hB
        obtain ⟨k, hk, rfl, t5, t3, t4, t1, t2, hB⟩ := hrel
        have hsl := subL_len st k
        by_cases hk16 : k < 16
        · have c1 : ((k : Int) + 4 * ((k : Int) % 4)) % 16 < 16 := by omega
          have c2 : 0 ≤ ((k : Int) + 4 * ((k : Int) % 4)) % 16 := by omega
          have c3 : (((k : Int) + 4 * ((k : Int) % 4)) % 16).toNat = (k + 4 * (k % 4)) % 16 := by omega
          have c4 : (k + 4 * (k % 4)) % 16 < 16 := by omega
          have c5 : (k : Int) < 16 := by omega
          obtain ⟨y, hy⟩ : ∃ y, y = gb st ((k + 4 * (k % 4)) % 16) := ⟨_, rfl⟩
          have c6 : y.toNat < 256 := y.toNat_lt
          have c7 : (y.toNat : Int) < 256 := by omega
          have hcy : wr.cell? ⟨w.heap.size, (k + 4 * (k % 4)) % 16, none⟩ = some (B y) := by rw [hy]; exact t3.byte _ (by omega)
          have HY := Lib.hid hy
          clear hy
          go_wp2_with fail
          refine wp_region_qtail (fun w' => w' = _) 16 (by kernel_rfl) (by kernel_rfl) rfl ?_
          simp only [List.take_succ_cons, List.take_zero, List.drop_succ_cons, List.drop_zero]
          repeat (first | go_big_quiet_skip | (go_big_quiet_want; go_big_quiet_op; go_big_quiet_on))
          refine wpQuiet_nil ?_
          rintro _ rfl
          go_wp2_with fail
          go_roundg (gk - 1)
          case measure => omega
          case rel =>
            refine ⟨k + 1, by omega, by go_num, ?_, t3.setOther _ _ (by simp; omega), t4.setOther _ _ (by simp; omega), t1.setOther _ _ (by simp; omega), t2.setOther _ _ (by simp; omega), hB.drew.setCell (by simp; omega) _⟩
            rw [← subL_step st k hk16, ← HY.out]
            exact t5.setByte k _
        · obtain rfl : k = 16 := by omega
          have u5 := t5.lt
          by_cases hl2 : q + 1 < last
          · have b3 : ((q : Int) + 1) < (last : Int) := by omega
            go_wp2_with (go_at_call 40; refine (mix_2311 _ hsl _).mono ?_; rintro e w4 ⟨rfl, hb4⟩; have t5' := Row.below t5 hb4 t5.lt)
            obtain ⟨M, hM⟩ : ∃ M, M = mixL (subL st 16) [2, 3, 1, 1] 16 0 := ⟨_, rfl⟩
            have hml : M.length = 16 := by rw [hM]; exact mixL_len _ _ _ _
            rw [← hM]
            have HM := Lib.hid hM
            clear hM
            obtain ⟨w6, hw6⟩ : ∃ w6, w6 = w4.setRow wo.heap.size (AB M) := ⟨_, rfl⟩
            rw [← hw6]
            have v5 : Row w6 wo.heap.size 23 (AB M) := by rw [hw6]; exact t5'.setRow _
            have v3 : Row w6 w.heap.size 23 (AB st) := by rw [hw6]; exact (Row.below t3 hb4 t3.lt).setRowOther _ _ (by omega)
            have v4 : RowN w6 (w.heap.size + 1) 23 16 := by rw [hw6]; exact (RowN.below t4 hb4 t4.lt).setRowOther _ _ (by omega)
            have v1 : Row w6 kb 67 (keyC boxT boxK (.slice (some ⟨kk, 0, none⟩) (last + 1) cap)) := by rw [hw6]; exact (Row.below t1 hb4 t1.lt).setRowOther _ _ (by omega)
            have v2 : Row w6 kk 23 cur := by rw [hw6]; exact (Row.below t2 hb4 t2.lt).setRowOther _ _ (by omega)
            have v6 : Below w.heap.size w w6 := by rw [hw6]; exact bSetRow (hB.trans (hb4.mono (by omega))) (by omega) _
            clear hw6 hb4 t1 t2 t3 t4 t5 t5' hB
            refine wp_region_qtail (fun w' => w' = _) 8 (by kernel_rfl) (by kernel_rfl) rfl ?_
            simp only [List.take_succ_cons, List.take_zero, List.drop_succ_cons, List.drop_zero]
            repeat (first | go_big_quiet_skip | (go_big_quiet_want; go_big_quiet_op; go_big_quiet_on))
            refine wpQuiet_nil ?_
            rintro _ rfl
            go_wp2_with (go_at_call 39; refine (add_any _ _ hml hkl2 _).mono ?_; rintro e w5 ⟨rfl, hb5⟩; have x3 := Row.below v3.drew hb5 v3.lt)
            go_roundg (no - 1)
            case measure => omega
            case rel =>
              have hB6 : Below w.heap.size w w5 := Below.trans (Below.drew v6) (hb5.mono (by have := v3.lt; simpa using Nat.le_of_lt this))
              refine ⟨q + 1, by omega, by go_num, ?_, (RowN.below v4.drew hb5 v4.lt).setRowOther _ _ (by omega), (Row.below v1.drew hb5 v1.lt).setRowOther _ _ (by omega), (Row.below v2.drew hb5 v2.lt).setRowOther _ _ (by omega), bSetRow hB6 (by omega) _⟩
              have hEQ : addF M kq 16 = sealN W last b (q + 1) := by rw [HKQ.out, HM.out, HST.out]; show _ = sround W last (sealN W last b q) (q + 1); unfold sround; rw [if_pos hl2]
              have := x3.setRow (AB (addF M kq 16))
              rw [hEQ] at this ⊢
              exact this
          · have b3 : ¬ ((q : Int) + 1) < (last : Int) := by omega
            have v5 := t5
            have v3 := t3
            have v4 := t4
            have v1 := t1
            have v2 := t2
            have v6 := hB
            clear t1 t2 t3 t4 t5 hB
            have HM : Hid (subL st 16 = subL st 16) := rfl
            have hml := hsl
            go_wp2_with fail
            obtain ⟨M, hM⟩ : ∃ M, M = subL st 16 := ⟨_, rfl⟩
            rw [← hM] at v5 hml
            have HM := Lib.hid hM
            clear hM
            refine wp_region_qtail (fun w' => w' = _) 8 (by kernel_rfl) (by kernel_rfl) rfl ?_
            simp only [List.take_succ_cons, List.take_zero, List.drop_succ_cons, List.drop_zero]
            repeat (first | go_big_quiet_skip | (go_big_quiet_want; go_big_quiet_op; go_big_quiet_on))
            refine wpQuiet_nil ?_
            rintro _ rfl
            go_wp2_with (go_at_call 39; refine (add_any _ _ hml hkl2 _).mono ?_; rintro e w5 ⟨rfl, hb5⟩; have x3 := Row.below v3.drew hb5 v3.lt)
            go_roundg (no - 1)
            case measure => omega
            case rel =>
              have hB6 : Below w.heap.size w w5 := Below.trans (Below.drew v6) (hb5.mono (by have := v3.lt; simpa using Nat.le_of_lt this))
              refine ⟨q + 1, by omega, by go_num, ?_, (RowN.below v4.drew hb5 v4.lt).setRowOther _ _ (by omega), (Row.below v1.drew hb5 v1.lt).setRowOther _ _ (by omega), (Row.below v2.drew hb5 v2.lt).setRowOther _ _ (by omega), bSetRow hB6 (by omega) _⟩
              have hEQ : addF M kq 16 = sealN W last b (q + 1) := by rw [HKQ.out, HM.out, HST.out]; show _ = sround W last (sealN W last b q) (q + 1); unfold sround; rw [if_neg hl2]
              have := x3.setRow (AB (addF M kq 16))
              rw [hEQ] at this ⊢
              exact this
    · obtain rfl : q = last := by omega
      have b2 : ¬ ((q : Int) + 1) < (q : Int) + 1 := by omega
      have hl16 := (AB_size st).trans hst
      clear hst2
      obtain ⟨z, hz, hzs⟩ := t4
      go_wp2_with fail
      exact ret_row (.inl rfl) rfl (w.heap.size + 1) _ _ 16 _ rfl (hz.setRow _) Try.underlying23 rfl (by kernel_rfl) hl16 ⟨by rw [HST.out], bSetRow hB (by omega) _⟩
end Go.Proofs.Ytjopgogaipkdbaa
