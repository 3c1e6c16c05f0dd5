/- Part of the proof: RefD. No conditions of its own. -/
import Derived.BigQuiet
import Derived.BigRegion
import Derived.Deep.CutBlock
import Derived.Deep.DeepCutAuto
import Derived.Deep.LoopGhost
import Derived.Deep.Quiet
import Derived.Deep.QuietTactic
import Derived.Deep.RegionLaw
import Derived.Lib.Hide
import Derived.RangeFuncBox
import Derived.StillTail
import Derived.Test.YtcfbiafedfkbhaaDoorProg
import Derived.WalkKit
import Derived.WalkSpells
import Derived.Test.YtcfbiafedfkbhaaDoorO16
import Derived.Test.YtcfbiafedfkbhaaDoorO29
namespace Go.Proofs.YtcfbiafedfkbhaaDoor
open Go.RowKit
attribute [local go_sem] addF_len subL_len sealN_len boxT_len z256_len

theorem mul_three (a : UInt8) (w : World) : Calls Tryd.prog 75 #[B a, .int .u8 3] w fun e w' => e = .returned (B (xr a (dbl a))) ∧ w = w' := by
  rw [← ml_three]
  exact mul_any a 3 w
def mixC (s : List UInt8) (i : Nat) : UInt8 :=
  xr (xr (xr (dbl (gb s i)) (xr (gb s (i / 4 * 4 + (i + 1) % 4)) (dbl (gb s (i / 4 * 4 + (i + 1) % 4))))) (gb s (i / 4 * 4 + (i + 2) % 4))) (gb s (i / 4 * 4 + (i + 3) % 4))
def mixS (s : List UInt8) (k : Nat) : List UInt8 := tab 16 fun i => if i < k then mixC s i else 0
theorem mixS_len (s : List UInt8) (k : Nat) : (mixS s k).length = 16 := tab_length _ _
theorem mixS_zero (s : List UInt8) : mixS s 0 = List.replicate 16 0 := by
  have : mixS s 0 = tab 16 fun _ => 0 := tab_congr fun i _ => by simp
  rw [this]; rfl
theorem mixS_step (s : List UInt8) (k : Nat) : (mixS s k).set k (mixC s k) = mixS s (k + 1) := by
  unfold mixS
  rw [tab_set]
  apply tab_congr
  intro i hi
  by_cases h1 : i = k
  · subst h1; simp
  · by_cases h2 : i < k
    · simp [h1, h2, show i < k + 1 by omega]
    · simp [h1, h2, show ¬ i < k + 1 by omega]
def tmcOk (n : Nat) : Bool := tm (UInt8.ofNat n) 2 == dbl (UInt8.ofNat n) && tm (UInt8.ofNat n) 3 == xr (UInt8.ofNat n) (dbl (UInt8.ofNat n)) && tm (UInt8.ofNat n) 1 == UInt8.ofNat n
theorem tmcOk_all : (List.range 256).all tmcOk = true := by decide +kernel
theorem tm_123 (x : UInt8) : tm x 2 = dbl x ∧ tm x 3 = xr x (dbl x) ∧ tm x 1 = x := by
  have := List.all_eq_true.1 tmcOk_all x.toNat (List.mem_range.2 x.toNat_lt)
  simp only [tmcOk, UInt8.ofNat_toNat, Bool.and_eq_true, beq_iff_eq] at this
  exact ⟨this.1.1, this.1.2, this.2⟩
theorem mixS_all (s : List UInt8) : mixS s 16 = mixL s [2, 3, 1, 1] 16 0 := by
  unfold mixS mixL
  apply tab_congr
  intro i hi
  rw [if_pos hi, if_pos hi]
  have e0 : i / 4 * 4 + (i + 0) % 4 = i := by omega
  simp only [mixB, e0, mixC]
  show _ = xr (xr (xr (xr 0 (tm _ 2)) (tm _ 3)) (tm _ 1)) (tm _ 1)
  rw [(tm_123 _).1, (tm_123 _).2.1, (tm_123 _).2.2, (tm_123 _).2.2]
  simp [xr]
def putS (b s k : List UInt8) (n : Nat) : List UInt8 := tab 16 fun i => if i < n then xr (gb s i) (gb k i) else gb b i
theorem putS_len (b s k : List UInt8) (n : Nat) : (putS b s k n).length = 16 := tab_length _ _
theorem putS_zero (b s k : List UInt8) (h : b.length = 16) : putS b s k 0 = b := by unfold putS; simp [tab_gb h]
theorem putS_all (b s k : List UInt8) : putS b s k 16 = addF s k 16 := by
  unfold putS addF
  exact tab_congr fun i hi => by rw [if_pos hi, if_pos hi]
theorem putS_step (b s k : List UInt8) (n : Nat) : (putS b s k n).set n (xr (gb s n) (gb k n)) = putS b s k (n + 1) := by
  unfold putS
  rw [tab_set]
  apply tab_congr
  intro i hi
  by_cases h1 : i = n
  · subst h1; simp
  · by_cases h2 : i < n
    · simp [h1, h2, show i < n + 1 by omega]
    · simp [h1, h2, show ¬ i < n + 1 by omega]
theorem gb_rk (W : List UInt8) (r j : Nat) (h : j < 16) : gb (rk W r) j = gb W (r * 16 + j) := by
  simp [rk, gb, h]

set_option maxRecDepth 100000 in
set_option maxHeartbeats 4000000 in
theorem ref_seal (n : Nat) (key b : List UInt8) (w : World) (hn : n = 4 ∨ n = 8) (hk : key.length = n * 4) (hb : b.length = 16) :
    Calls Tryd.prog 54 #[S key, .agg (AB b)] w fun e w' => e = .returned (.agg (AB (sealN (expand key) (n + 6) b (n + 6)))) ∧ Below w.heap.size w w' := by
  have hkeys := fun w0 => keys_any n key w0 hn hk
  have HKS := Lib.hid hkeys
  have hel := expand_len key (by omega)
  rw [show key.length / 4 + 7 = n + 7 by omega] at hel
  obtain ⟨W, hW⟩ : ∃ W, W = expand key := ⟨_, rfl⟩
  rw [← hW] at hel ⊢
  have HW := Lib.hid hW
  have hn8 : n ≤ 8 := by omega
  clear hkeys hW hn
  obtain ⟨last, hlast⟩ : ∃ last, last = n + 6 := ⟨_, rfl⟩
  have h7 : n + 7 = last + 1 := by omega
  rw [← hlast]
  rw [h7] at hel
  have H7 := Lib.hid h7
  have HWl := Lib.hid hel
  have hl14 : last ≤ 14 := by omega
  clear hlast h7 hel hn8
  go_enter Tryd.func54, Tryd.ntmps54
  go_wp2_with fail
  refine (table_any _).mono ?_
  rintro e w1 ⟨rfl, hb1⟩
  have s3 := ((Row.new w 84 (AB b)).alloc (.cells (AB (List.replicate 16 0)) 84)).below hb1 (by simp <;> omega)
  have s4 := (RowN.newAt (w.alloc (.cells (AB b) 84)) (w.heap.size + 1) 84 (AB (List.replicate 16 0)) (by simp)).below hb1 (by simp)
  have hB1 : Below w.heap.size w w1 := (((Below.refl _ w).alloc (Nat.le_refl _) _).alloc (by simp) _).trans (hb1.mono (by simp <;> omega))
  have hs1 : w.heap.size + 2 ≤ w1.heap.size := by have := hb1.size; simpa using this
  obtain ⟨tb, htb⟩ : ∃ tb, tb = w1.heap.size := ⟨_, rfl⟩
  have l1 : w.heap.size < w1.heap.size := by omega
  have l2 : w.heap.size + 1 < w1.heap.size := by omega
  clear hb1
  go_upto_region 2 with (fail)
  obtain ⟨w2, hw2⟩ : ∃ w2, w2 = (w1.alloc (.cells (AB z256) 104)).setRow w1.heap.size (AB boxT) := ⟨_, rfl⟩
  rw [← hw2, ← htb]
  have r3 : Row w2 w.heap.size 84 (AB b) := by rw [hw2]; exact (s3.alloc _).setRowOther _ _ (by omega)
  have r4 : RowN w2 (w.heap.size + 1) 84 16 := by
    rw [hw2]
    have := (s4.alloc (.cells (AB z256) 104)).setRowOther w1.heap.size (AB boxT) (by omega)
    rwa [show (AB (List.replicate 16 0)).size = 16 from rfl] at this
  have r5 : Row w2 tb 104 (AB boxT) := by rw [hw2, htb]; exact (Row.new _ _ _).setRow _
  have hB2 : Below w.heap.size w w2 := by rw [hw2]; exact bSetRow (hB1.alloc (by omega) _) (by omega) _
  have hs2 : tb < w2.heap.size := r5.lt
  have ht2 : w.heap.size + 1 < tb := by omega
  clear hw2 htb s3 s4 hB1 hs1 l1 l2
  go_wp2_with fail
  refine (HKS.out _).mono ?_
  rintro e w3 ⟨kk, cap, cur, rfl, hcap, hmax, rk', hP, hkk, hb3⟩
  rw [← HW.out] at hP
  rw [H7.out] at hcap ⊢
  have t3 := r3.below hb3 r3.lt
  have t4 := r4.below hb3 r4.lt
  have t5 := r5.below hb3 r5.lt
  have hB3 := hB2.trans (hb3.mono hB2.size)
  have hkt : tb < kk := by omega
  have Hsz := Lib.hid (show (last + 1) * 16 ≤ cur.size by have := hP.size; have := HWl.out; omega)
  have hpre := Lib.hid hP
  have hcap := Lib.hid hcap
  have hlk := rk'.lt
  clear r3 r4 r5 hB2 hb3 hP hs2 hkk hmax
  go_wp2_with fail
  go_loopg [7] 16 (fun r jv wr => ∃ j : Nat, r + j = 16 ∧ jv = .int .i64 j ∧ Row wr w.heap.size 84 (AB (addF b (rk W 0) j)) ∧ RowN wr (w.heap.size + 1) 84 16 ∧ Row wr tb 104 (AB boxT) ∧ Row wr kk 84 cur ∧ Below w.heap.size w wr)
  case atStart => exact ⟨0, by omega, rfl, by rw [addF_zero _ _ hb]; exact t3, t4, t5, rk', hB3⟩
  case round =>
    clear t3 t4 t5 rk' hB3
    obtain ⟨j, hj, rfl, t3, t4, t5, t6, hB⟩ := hrel
    have l3 := t3.lt
    have l4 := t4.lt
    have l5 := t5.lt
    have l6 := t6.lt
    by_cases h16 : j < 16
    ·
      --<A
      have b1 : (j : Int) < 16 := by omega
      have b2 : (0 : Int) < (last : Int) + 1 := by omega
      obtain ⟨A, hA⟩ : ∃ A, A = addF b (rk W 0) j := ⟨_, rfl⟩
      have hAl : A.length = 16 := by rw [hA]; exact addF_len _ _ _
      rw [← hA] at t3
      have HA := Lib.hid hA
      obtain ⟨y, hy⟩ : ∃ y, y = gb W j := ⟨_, rfl⟩
      have hcy : cur[j]? = some (B y) := by rw [hy]; exact hpre.out.get j (by have := HWl.out; omega)
      have HY := Lib.hid hy
      clear hA hy
      go_wp2_with fail
      refine wp_region_qtail (fun w' => w' = _) 11 (by kernel_rfl) (by kernel_rfl) rfl ?_
      simp only [List.take_succ_cons, List.take_zero, List.drop_succ_cons, List.drop_zero]
      repeat (first | go_big_quiet_skip | (go_big_quiet_want; go_big_quiet_op; go_big_quiet_on))
      refine wpQuiet_nil ?_
      rintro _ rfl
      go_wp2_with fail
      go_roundg (gk - 1)
      case measure => omega
      case rel =>
        refine ⟨j + 1, by omega, by go_num, ?_, t4.setOther _ _ (by simp), t5.setOther _ _ (by simp; omega), t6.setOther _ _ (by simp; omega), (hB.setCell (by simp) _).drew⟩
        have e1 := addF_step b (rk W 0) j h16
        rw [← HA.out, gb_rk W 0 j h16, show 0 * 16 + j = j by omega, ← HY.out] at e1
        rw [← e1]
        exact t3.setByte j _
      --A>
    · obtain rfl : j = 16 := by omega
      have e0 : addF b (rk W 0) 16 = sealN W last b 0 := rfl
      rw [e0] at t3
      rw [show ((16 : Nat) : Int) = 16 from rfl]
      clear e0
      go_wp2_with fail
      go_loopg [8] last (fun r rv wr => ∃ q : Nat, r + q = last ∧ rv = .int .i64 (q + 1) ∧ Row wr w.heap.size 84 (AB (sealN W last b q)) ∧ RowN wr (w.heap.size + 1) 84 16 ∧ Row wr tb 104 (AB boxT) ∧ Row wr kk 84 cur ∧ Below w.heap.size w wr)
      case atStart => exact ⟨0, by omega, rfl, t3, t4, t5, t6, hB⟩
      case round =>
        clear t3 t4 t5 t6 hB l3 l4 l5 l6
        obtain ⟨q, hq, rfl, t3, t4, t5, t6, hB⟩ := hrel
        have l3 := t3.lt
        have l4 := t4.lt
        have l5 := t5.lt
        have l6 := t6.lt
        have hst := sealN_len W last b q
        obtain ⟨st, hst2⟩ : ∃ st, st = sealN W last b q := ⟨_, rfl⟩
        rw [← hst2] at hst t3
        have HST := Lib.hid hst2
        clear hst2
        by_cases hlt : q < last
        ·
          --<B
          have b2 : ((q : Int) + 1) < (last : Int) + 1 := by omega
          obtain ⟨wo, rfl⟩ : ∃ wo : World, wo = wr := ⟨_, rfl⟩
          obtain ⟨no, rfl⟩ : ∃ no : Nat, no = gk := ⟨_, rfl⟩
          go_wp2_with fail
          go_loopg [10] 16 (fun n iv wr => ∃ k : Nat, n + k = 16 ∧ iv = .int .i64 k ∧ Row wr wo.heap.size 84 (AB (subL st k)) ∧ Row wr w.heap.size 84 (AB st) ∧ RowN wr (w.heap.size + 1) 84 16 ∧ Row wr tb 104 (AB boxT) ∧ Row wr kk 84 cur ∧ Below w.heap.size w wr)
          case atStart =>
            refine ⟨0, by omega, rfl, ?_, t3.alloc _, t4.alloc _, t5.alloc _, t6.alloc _, hB.alloc (by omega) _⟩
            rw [subL_zero]; exact Row.new _ _ _
          case round =>
            clear t3 t4 t5 t6 hB
            obtain ⟨k, hk, rfl, t7, t3, t4, t5, t6, hB⟩ := hrel
            have hsl := subL_len st k
            have l7 := t7.lt
            by_cases hk16 : k < 16
            ·
              --<C
              have c1 : ((k : Int) + 4 * ((k : Int) % 4)) % 16 < 16 := by omega
              have c2 : 0 ≤ ((k : Int) + 4 * ((k : Int) % 4)) % 16 := by omega
              have c3 : (((k : Int) + 4 * ((k : Int) % 4)) % 16).toNat = (k + 4 * (k % 4)) % 16 := by omega
              have c4 : (k + 4 * (k % 4)) % 16 < 16 := by omega
              have c5 : (k : Int) < 16 := by omega
              obtain ⟨y, hy⟩ : ∃ y, y = gb st ((k + 4 * (k % 4)) % 16) := ⟨_, rfl⟩
              have c6 : y.toNat < 256 := y.toNat_lt
              have c7 : (y.toNat : Int) < 256 := by omega
              have hcy : wr.cell? ⟨w.heap.size, (k + 4 * (k % 4)) % 16, none⟩ = some (B y) := by rw [hy]; exact t3.byte _ (by omega)
              have HY := Lib.hid hy
              clear hy
              go_wp2_with fail
              go_roundg (gk - 1)
              case measure => omega
              case rel =>
                refine ⟨k + 1, by omega, by go_num, ?_, t3.setOther _ _ (by simp; omega), t4.setOther _ _ (by simp; omega), t5.setOther _ _ (by simp; omega), t6.setOther _ _ (by simp; omega), hB.setCell (by simp; omega) _⟩
                rw [← subL_step st k hk16, ← HY.out]
                exact t7.setByte k _
              --C>
            · obtain rfl : k = 16 := by omega
              rw [show ((16 : Nat) : Int) = 16 from rfl]
              go_upto_if 60 with (fail)
              go_cut [10] (fun iv w2 => Row w2 wo.heap.size 84 (AB (if q + 1 < last then mixS (subL st 16) 16 else subL st 16)) ∧ Row w2 w.heap.size 84 (AB st) ∧ RowN w2 (w.heap.size + 1) 84 16 ∧ Row w2 tb 104 (AB boxT) ∧ Row w2 kk 84 cur ∧ Below w.heap.size w w2)
              case first =>
                --<D
                obtain ⟨s, hs⟩ : ∃ s, s = subL st 16 := ⟨_, rfl⟩
                rw [← hs] at hsl t7
                have HS := Lib.hid hs
                clear hs
                by_cases hl2 : q + 1 < last
                · have b3 : ((q : Int) + 1) < (last : Int) := by omega
                  rw [show decide ((q : Int) + 1 < (last : Int)) = true from decide_eq_true b3]
                  have HL2 := Lib.hid hl2
                  clear hl2
                  obtain ⟨wp, rfl⟩ : ∃ wp : World, wp = wr := ⟨_, rfl⟩
                  obtain ⟨n3, rfl⟩ : ∃ n3 : Nat, n3 = gk := ⟨_, rfl⟩
                  go_wp2_with fail
                  go_loopg [12] 16 (fun n iv wr => ∃ k : Nat, n + k = 16 ∧ iv = .int .i64 k ∧ Row wr wp.heap.size 84 (AB (mixS s k)) ∧ Row wr wo.heap.size 84 (AB s) ∧ Row wr w.heap.size 84 (AB st) ∧ RowN wr (w.heap.size + 1) 84 16 ∧ Row wr tb 104 (AB boxT) ∧ Row wr kk 84 cur ∧ Below w.heap.size w wr)
                  case atStart =>
                    refine ⟨0, by omega, rfl, ?_, t7.alloc _, t3.alloc _, t4.alloc _, t5.alloc _, t6.alloc _, hB.alloc (by omega) _⟩
                    rw [mixS_zero]; exact Row.new _ _ _
                  case round =>
                    clear t3 t4 t5 t6 t7 hB
                    obtain ⟨k, hk, rfl, t8, t7, t3, t4, t5, t6, hB⟩ := hrel
                    have l8 := t8.lt
                    have hml := mixS_len s k
                    by_cases hk16 : k < 16
                    · have c5 : (k : Int) < 16 := by omega
                      obtain ⟨x0, hx0⟩ : ∃ x, x = gb s k := ⟨_, rfl⟩
                      obtain ⟨m1, hm1⟩ : ∃ m, m = k / 4 * 4 + (k + 1) % 4 := ⟨_, rfl⟩
                      obtain ⟨r1, hr1⟩ : ∃ r, r = (k + 1) % 4 := ⟨_, rfl⟩
                      obtain ⟨x1, hx1⟩ : ∃ x, x = gb s m1 := ⟨_, rfl⟩
                      have d1 : wr.cell? ⟨wo.heap.size, m1, none⟩ = some (B x1) := by rw [hx1]; exact t7.byte _ (by omega)
                      have e1 : (m1 : Int) < 16 := by omega
                      have f1 : ((k : Int) + 1).tmod 4 = (r1 : Int) := by rw [Int.tmod_eq_emod_of_nonneg (by omega)]; omega
                      have g1 : IntKind.i64.wrap ((k : Int) / 4 * 4 + (r1 : Int)) = (m1 : Int) := by rw [IntWalk.i64_in _ (by omega)]; omega
                      have w1' : IntKind.i64.wrap ((k : Int) + 1) = (k : Int) + 1 := IntWalk.i64_in _ (by omega)
                      obtain ⟨m2, hm2⟩ : ∃ m, m = k / 4 * 4 + (k + 2) % 4 := ⟨_, rfl⟩
                      obtain ⟨r2, hr2⟩ : ∃ r, r = (k + 2) % 4 := ⟨_, rfl⟩
                      obtain ⟨x2, hx2⟩ : ∃ x, x = gb s m2 := ⟨_, rfl⟩
                      have d2 : wr.cell? ⟨wo.heap.size, m2, none⟩ = some (B x2) := by rw [hx2]; exact t7.byte _ (by omega)
                      have e2 : (m2 : Int) < 16 := by omega
                      have f2 : ((k : Int) + 2).tmod 4 = (r2 : Int) := by rw [Int.tmod_eq_emod_of_nonneg (by omega)]; omega
                      have g2 : IntKind.i64.wrap ((k : Int) / 4 * 4 + (r2 : Int)) = (m2 : Int) := by rw [IntWalk.i64_in _ (by omega)]; omega
                      have w2' : IntKind.i64.wrap ((k : Int) + 2) = (k : Int) + 2 := IntWalk.i64_in _ (by omega)
                      obtain ⟨m3, hm3⟩ : ∃ m, m = k / 4 * 4 + (k + 3) % 4 := ⟨_, rfl⟩
                      obtain ⟨r3, hr3⟩ : ∃ r, r = (k + 3) % 4 := ⟨_, rfl⟩
                      obtain ⟨x3, hx3⟩ : ∃ x, x = gb s m3 := ⟨_, rfl⟩
                      have d3 : wr.cell? ⟨wo.heap.size, m3, none⟩ = some (B x3) := by rw [hx3]; exact t7.byte _ (by omega)
                      have e3 : (m3 : Int) < 16 := by omega
                      have f3 : ((k : Int) + 3).tmod 4 = (r3 : Int) := by rw [Int.tmod_eq_emod_of_nonneg (by omega)]; omega
                      have g3 : IntKind.i64.wrap ((k : Int) / 4 * 4 + (r3 : Int)) = (m3 : Int) := by rw [IntWalk.i64_in _ (by omega)]; omega
                      have w3' : IntKind.i64.wrap ((k : Int) + 3) = (k : Int) + 3 := IntWalk.i64_in _ (by omega)
                      have d0 : wr.cell? ⟨wo.heap.size, k, none⟩ = some (B x0) := by rw [hx0]; exact t7.byte _ (by omega)
                      have HX : Hid (xr (xr (xr (dbl x0) (xr x1 (dbl x1))) x2) x3 = mixC s k) := by rw [hx0, hx1, hx2, hx3, hm1, hm2, hm3]; rfl
                      clear hx0 hx1 hx2 hx3 hm1 hm2 hm3 hr1 hr2 hr3
                      go_wp2_with fail
                      refine wp_region_qtail (fun w' => w' = _) 31 (by kernel_rfl) (by kernel_rfl) rfl ?_
                      simp only [List.take_succ_cons, List.take_zero, List.drop_succ_cons, List.drop_zero]
                      repeat (refine wpQuiet_step (fun K hK => ?_); go_simp; first | (refine hK _ ?_; clear hK K) | (apply Exists.intro; refine ⟨?_, hK _ ?_⟩; ((go_at_call 75; first | ((with_reducible refine (mul_two _ _).mono ?_); rintro e w' ⟨rfl, rfl⟩; exact ⟨rfl, rfl⟩) | ((with_reducible refine (mul_three _ _).mono ?_); rintro e w' ⟨rfl, rfl⟩; exact ⟨rfl, rfl⟩))); clear hK K))
                      refine wpQuiet_nil ?_
                      rintro _ rfl
                      clear f1 f2 f3 g1 g2 g3 w1' w2' w3'
                      go_wp2_with fail
                      go_roundg (gk - 1)
                      case measure => omega
                      case rel =>
                        refine ⟨k + 1, by omega, by go_num, ?_, t7.setOther _ _ (by simp; omega), t3.setOther _ _ (by simp; omega), t4.setOther _ _ (by simp; omega), t5.setOther _ _ (by simp; omega), t6.setOther _ _ (by simp; omega), (hB.setCell (by simp; omega) _).drew⟩
                        rw [HX.out, ← mixS_step]
                        exact t8.setByte k _
                    · obtain rfl : k = 16 := by omega
                      go_wp2_with fail
                      go_meet
                      case rel => exact ⟨by rw [if_pos HL2.out, ← HS.out]; exact t7.setRow _, t3.setRowOther _ _ (by omega), t4.setRowOther _ _ (by omega), t5.setRowOther _ _ (by omega), t6.setRowOther _ _ (by omega), bSetRow hB (by omega) _⟩
                · have b3 : ¬ ((q : Int) + 1) < (last : Int) := by omega
                  have HL2 := Lib.hid hl2
                  clear hl2
                  go_wp2_with fail
                  go_meet
                  case rel => exact ⟨by rw [if_neg HL2.out, ← HS.out]; exact t7, t3, t4, t5, t6, hB⟩
                --D>
              case rest =>
                clear t3 t4 t5 t6 t7 hB l7
                obtain ⟨M, hM⟩ : ∃ M, M = (if q + 1 < last then mixS (subL st 16) 16 else subL st 16) := ⟨_, rfl⟩
                rw [← hM] at hcut
                obtain ⟨t7, t3, t4, t5, t6, hB⟩ := hcut
                have l7 := t7.lt
                have hml : M.length = 16 := by rw [hM]; split; exact mixS_len _ _; exact subL_len _ _
                have hMe : addF M (rk W (q + 1)) 16 = sealN W last b (q + 1) := by
                  rw [hM, HST.out]
                  show _ = sround W last (sealN W last b q) (q + 1)
                  unfold sround
                  split
                  · rw [mixS_all]
                  · rfl
                have HME := Lib.hid hMe
                clear hM hMe hsl
                go_wp2_with fail
                go_loopg [14] 16 (fun n iv wr => ∃ k : Nat, n + k = 16 ∧ iv = .int .i64 k ∧ Row wr w.heap.size 84 (AB (putS st M (rk W (q + 1)) k)) ∧ Row wr wo.heap.size 84 (AB M) ∧ RowN wr (w.heap.size + 1) 84 16 ∧ Row wr tb 104 (AB boxT) ∧ Row wr kk 84 cur ∧ Below w.heap.size w wr)
                case atStart => exact ⟨0, by omega, rfl, by rw [putS_zero _ _ _ hst]; exact t3, t7, t4, t5, t6, hB⟩
                case round =>
                  clear t3 t4 t5 t6 t7 hB
                  obtain ⟨k, hk, rfl, t3, t7, t4, t5, t6, hB⟩ := hrel
                  by_cases hk16 : k < 16
                  · have c5 : (k : Int) < 16 := by omega
                    obtain ⟨A, hA⟩ : ∃ A, A = putS st M (rk W (q + 1)) k := ⟨_, rfl⟩
                    have hAl : A.length = 16 := by rw [hA]; exact putS_len _ _ _ _
                    rw [← hA] at t3
                    have HA := Lib.hid hA
                    obtain ⟨y, hy⟩ : ∃ y, y = gb W ((q + 1) * 16 + k) := ⟨_, rfl⟩
                    have hcy : cur[(q + 1) * 16 + k]? = some (B y) := by rw [hy]; exact hpre.out.get _ (by have := HWl.out; omega)
                    have HY := Lib.hid hy
                    clear hA hy
                    have l3' := t3.lt
                    have l7' := t7.lt
                    go_wp2_with fail
                    refine wp_region_qtail (fun w' => w' = _) 12 (by kernel_rfl) (by kernel_rfl) rfl ?_
                    simp only [List.take_succ_cons, List.take_zero, List.drop_succ_cons, List.drop_zero]
                    repeat (first | go_big_quiet_skip | (go_big_quiet_want; go_big_quiet_op; go_big_quiet_on))
                    refine wpQuiet_nil ?_
                    rintro _ rfl
                    go_wp2_with fail
                    go_roundg (gk - 1)
                    case measure => omega
                    case rel =>
                      refine ⟨k + 1, by omega, by go_num, ?_, t7.setOther _ _ (by simp; omega), t4.setOther _ _ (by simp), t5.setOther _ _ (by simp; omega), t6.setOther _ _ (by simp; omega), (hB.setCell (by simp) _).drew⟩
                      have e1 := putS_step st M (rk W (q + 1)) k
                      rw [← HA.out, gb_rk W (q + 1) k hk16, ← HY.out] at e1
                      rw [← e1]
                      exact t3.setByte k _
                  · obtain rfl : k = 16 := by omega
                    rw [putS_all, HME.out] at t3
                    go_wp2_with fail
                    go_roundg (no - 1)
                    case measure => omega
                    case rel => exact ⟨q + 1, by omega, by go_num, t3, t4, t5, t6, hB⟩
          --B>
        · obtain rfl : q = last := by omega
          have b3 : ¬ ((q : Int) + 1) < (q : Int) + 1 := by omega
          have hl16 := (AB_size st).trans hst
          obtain ⟨z, hz, hzs⟩ := t4
          have HST2 := Lib.hid hst
          clear hst
          go_wp2_with fail
          exact ret_row (.inl rfl) rfl (w.heap.size + 1) _ _ 16 _ rfl (hz.setRow _) Tryd.underlying84 rfl (by kernel_rfl) hl16 ⟨by rw [HST.out], bSetRow hB (by omega) _⟩
end Go.Proofs.YtcfbiafedfkbhaaDoor
