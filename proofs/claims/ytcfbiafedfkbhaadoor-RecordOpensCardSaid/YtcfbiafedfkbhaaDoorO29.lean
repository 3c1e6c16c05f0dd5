/- Part of the proof: Keys. No conditions of its own. -/
import Derived.BigQuiet
import Derived.BigRegion
import Derived.Deep.CutBlock
import Derived.Deep.DeepCutAuto
import Derived.Deep.LoopGhost
import Derived.Deep.Quiet
import Derived.Deep.QuietTactic
import Derived.Deep.RegionLaw
import Derived.Lib.Hide
import Derived.RangeFuncBox
import Derived.StillTail
import Derived.Test.YtcfbiafedfkbhaaDoorProg
import Derived.WalkKit
import Derived.WalkSpells
import Derived.Test.YtcfbiafedfkbhaaDoorO18
import Derived.Test.YtcfbiafedfkbhaaDoorO28
namespace Go.Proofs.YtcfbiafedfkbhaaDoor
open Go.RowKit

theorem make_words (n : Nat) (w : World) (h : n = 4 ∨ n = 8) : (Instr.makeSlice 146 (.int .i64 (4 * ((n : Int) + 7))) (.int .i64 (4 * ((n : Int) + 7)))).run Tryd.prog w =
    .ok (.slice (some ⟨w.heap.size, 0, none⟩) (4 * (n + 7)) (4 * (n + 7))) (w.alloc (.cells (AB (pad [] (16 * (n + 7)))) 110)) := by
  rcases h with rfl | rfl
  · kernel_rfl
  · kernel_rfl
attribute [local go_sem] make_words
theorem mul_two (a : UInt8) (w : World) : Calls Tryd.prog 75 #[B a, .int .u8 2] w fun e w' => e = .returned (B (dbl a)) ∧ w = w' := by
  rw [← ml_two]
  exact mul_any a 2 w
set_option maxRecDepth 100000 in
set_option maxHeartbeats 4000000 in
theorem keys_any (n : Nat) (key : List UInt8) (w : World) (hn : n = 4 ∨ n = 8) (hk : key.length = n * 4) :
    Calls Tryd.prog 74 #[S key, .agg (AB boxT)] w fun e w' => ∃ kk cap cur, e = .returned (.slice (some ⟨kk, 0, none⟩) (n + 7) cap) ∧ n + 7 ≤ cap ∧ cap ≤ maxLen ∧ Row w' kk 84 cur ∧ Pre cur (expand key) ∧ w.heap.size ≤ kk ∧ Below w.heap.size w w' := by
  have HN := Lib.hid hn
  have hn8 : n ≤ 8 := by omega
  have hn4 : 4 ≤ n := by omega
  go_enter Tryd.func74, Tryd.ntmps74
  go_wp2_with fail
  clear hn
  obtain ⟨c, hc⟩ : ∃ c, c = w.heap.size + 1 := ⟨_, rfl⟩
  have hT0 := (Row.new w 104 (AB boxT)).alloc (.cells (AB (pad [] (16 * (n + 7)))) 110)
  have hV0 := Row.newAt (w.alloc (.cells (AB boxT) 104)) c 110 (AB (pad [] (16 * (n + 7)))) (by simp [hc])
  have hB0 : Below w.heap.size w ((w.alloc (.cells (AB boxT) 104)).alloc (.cells (AB (pad [] (16 * (n + 7)))) 110)) := ((Below.refl _ w).alloc (Nat.le_refl _) _).alloc (by simp) _
  rw [← hc]
  have hwc : w.heap.size < c := by omega
  clear hc
  go_loopg [8, 9] (4 * (n + 7)) (fun r cv i wr => ∃ k : Nat, r + k = 4 * (n + 7) ∧ i = .int .i64 k ∧ cv = B (ks n key (k - n)).c ∧ Row wr c 110 (AB (pad (kw n key k) (16 * (n + 7)))) ∧ Row wr w.heap.size 104 (AB boxT) ∧ Below w.heap.size w wr)
  case atStart => exact ⟨0, by omega, rfl, by rw [Nat.zero_sub]; rfl, hV0, hT0, hB0⟩
  case round =>
    clear hT0 hV0 hB0
    obtain ⟨k, hr, rfl, rfl, hV, hT, hB⟩ := hrel
    have hlc := hV.lt
    have hwl := kw_len n key hk k
    by_cases hlt : k < 4 * (n + 7)
    ·
      --<F
      have hpl := pad_len (kw n key k) (16 * (n + 7)) (by omega)
      obtain ⟨V, hV'⟩ : ∃ V, V = pad (kw n key k) (16 * (n + 7)) := ⟨_, rfl⟩
      rw [← hV'] at hV hpl
      have HV := Lib.hid hV'
      clear hV'
      by_cases hkn : k < n
      ·
        --<A
        obtain ⟨c1, hc1⟩ : ∃ c1, c1 = (ks n key (k - n)).c := ⟨_, rfl⟩
        rw [← hc1]
        have HC1 := Lib.hid hc1
        clear hc1
        have x0 : (4 * (k : Int)).toNat = 4 * k := by omega
        have x1 : (4 * (k : Int) + 1).toNat = 4 * k + 1 := by omega
        have x2 : (4 * (k : Int) + 2).toNat = 4 * k + 2 := by omega
        have x3 : (4 * (k : Int) + 3).toNat = 4 * k + 3 := by omega
        have y0 : 0 ≤ 4 * (k : Int) := by omega
        have y1 : 0 ≤ 4 * (k : Int) + 1 := by omega
        have y2 : 0 ≤ 4 * (k : Int) + 2 := by omega
        have y3 : 0 ≤ 4 * (k : Int) + 3 := by omega
        have z0 : 4 * (k : Int) < (n : Int) * 4 := by omega
        have z1 : 4 * (k : Int) + 1 < (n : Int) * 4 := by omega
        have z2 : 4 * (k : Int) + 2 < (n : Int) * 4 := by omega
        have z3 : 4 * (k : Int) + 3 < (n : Int) * 4 := by omega
        go_wp2_with fail
        refine wp_region_qtail (fun w' => w' = _) 23 (by kernel_rfl) (by kernel_rfl) rfl ?_
        simp only [List.take_succ_cons, List.take_zero, List.drop_succ_cons, List.drop_zero]
        repeat (first | go_big_quiet_skip | (go_big_quiet_want; go_big_quiet_op; go_big_quiet_on))
        refine wpQuiet_nil ?_
        rintro _ rfl
        have hpl2 : k * 4 + 4 ≤ 16 * (n + 7) := by omega
        go_wp2_with fail
        have hov : over (AB V) (k * 4) #[B (gb key (4 * k)), B (gb key (4 * k + 1)), B (gb key (4 * k + 2)), B (gb key (4 * k + 3))] = AB (pad (kw n key (k + 1)) (16 * (n + 7))) := by
          have e1 := over_AB V [gb key (4 * k), gb key (4 * k + 1), gb key (4 * k + 2), gb key (4 * k + 3)] (k * 4)
          refine e1.trans ?_
          rw [HV.out, ← kw_step n key hk k hkn, ← pad_over, hwl, Nat.mul_comm k 4]
        have HO := Lib.hid hov
        clear hov
        go_roundg (gk - 1)
        case measure => omega
        case rel => exact ⟨k + 1, by omega, by go_num, by rw [show k + 1 - n = k - n by omega, ← HC1.out], by rw [← HO.out]; exact hV.drew.setRow _, hT.drew.setRowOther _ _ (by omega), bSetRow hB.drew (by omega) _⟩
        --A>
      · obtain ⟨m, rfl⟩ : ∃ m, k = n + m := ⟨k - n, by omega⟩
        rw [show n + m - n = m by omega]
        have hkw := kw_first n key hk m
        rw [hkw] at HV hwl
        clear hkw
        obtain ⟨W, hW⟩ : ∃ W, W = (ks n key m).w := ⟨_, rfl⟩
        obtain ⟨c1, hc1⟩ : ∃ c1, c1 = (ks n key m).c := ⟨_, rfl⟩
        rw [← hW] at HV hwl
        rw [← hc1]
        have HW := Lib.hid hW
        have HC1 := Lib.hid hc1
        clear hW hc1
        obtain ⟨X, hXe⟩ : ∃ X, X = (V.drop ((n + m - 1) * 4)).take 4 := ⟨_, rfl⟩
        have hXl : X.length = 4 := by rw [hXe, List.length_take, List.length_drop, hpl]; omega
        have hX : sub (AB V) ((n + m - 1) * 4) 4 = AB X := by rw [sub_AB, hXe]
        have HXe := Lib.hid hXe
        clear hXe
        have q1 : (n + m - 1) * 4 + 4 ≤ 16 * (n + 7) := by omega
        have HXj : Hid (∀ j, j < 4 → gb X j = gb W (W.length - 4 + j)) := by
          show ∀ j, j < 4 → gb X j = gb W (W.length - 4 + j)
          intro j hj
          rw [← gb_pad W (16 * (n + 7)) _ (by omega), ← HV.out, HXe.out, hwl]
          have : (n + m - 1) * 4 + j = 4 * (n + m) - 4 + j := by omega
          simp [gb, hj, this]
        go_upto_if 64 with (fail)
        obtain ⟨wo, rfl⟩ : ∃ wo : World, wo = wr := ⟨_, rfl⟩
        obtain ⟨w5, hw5⟩ : ∃ w5, w5 = (wo.alloc (.cells #[.int .u8 0, .int .u8 0, .int .u8 0, .int .u8 0] 110)).setRow wo.heap.size (AB X) := ⟨_, rfl⟩
        rw [← hw5]
        have r1 : Row w5 wo.heap.size 110 (AB X) := by rw [hw5]; exact (Row.new _ _ _).setRow _
        have r2 : Row w5 c 110 (AB V) := by rw [hw5]; exact (hV.alloc _).setRowOther _ _ (by omega)
        have r3 : Row w5 w.heap.size 104 (AB boxT) := by rw [hw5]; exact (hT.alloc _).setRowOther _ _ (by omega)
        have hB5 : Below w.heap.size w w5 := by rw [hw5]; exact bSetRow (hB.alloc (by omega) _) (by omega) _
        clear hw5 hV hT hB
        go_cut [8] (fun c' w2 => c' = B (if (n + m) % n = 0 then dbl c1 else c1) ∧ Row w2 wo.heap.size 110 (AB ((List.range 4).map (wx n (n + m) c1 W))) ∧ Row w2 c 110 (AB V) ∧ Row w2 w.heap.size 104 (AB boxT) ∧ Below w.heap.size w w2)
        case first =>
          --<D
          have hl1 := boxT_len
          have y0 := (gb X 0).toNat_lt
          have y1 := (gb X 1).toNat_lt
          have y2 := (gb X 2).toNat_lt
          have y3 := (gb X 3).toNat_lt
          have z0 : ((gb X 0).toNat : Int) < 256 := by omega
          have z1 : ((gb X 1).toNat : Int) < 256 := by omega
          have z2 : ((gb X 2).toNat : Int) < 256 := by omega
          have z3 : ((gb X 3).toNat : Int) < 256 := by omega
          have hmn : (n + m) % n = m % n := Nat.add_mod_left n m
          have HMN := Lib.hid hmn
          clear hmn
          by_cases h0 : m % n = 0
          ·
            --<B
            have t0 : ((m : Int) % (n : Int) == 0) = true := by rw [← Int.natCast_emod, h0]; rfl
            go_wp2_with fail
            refine wp_region_qtail (fun w' => w' = _) 19 (by kernel_rfl) (by kernel_rfl) rfl ?_
            simp only [List.take_succ_cons, List.take_zero, List.drop_succ_cons, List.drop_zero]
            repeat (first | go_big_quiet_skip | (go_big_quiet_want; go_big_quiet_op; go_big_quiet_on))
            refine wpQuiet_nil ?_
            rintro _ rfl
            go_wp2_with fail
            refine (mul_two _ _).mono ?_
            rintro e w' ⟨rfl, rfl⟩
            go_wp2_with fail
            go_meet
            case rel => exact ⟨by rw [if_pos (by rw [HMN.out, h0])], by rw [wx_turn HXj.out (by rw [HMN.out, h0])]; exact r1.setRow _, r2.setRowOther _ _ (by omega), r3.setRowOther _ _ (by omega), (bSetRow hB5 (by omega) _).drew⟩
            --B>
          · have t0 : ((m : Int) % (n : Int) == 0) = false := by rw [← Int.natCast_emod, beq_eq_false_iff_ne]; omega
            have h0' : ¬ (n + m) % n = 0 := by rw [HMN.out]; exact h0
            have H0 := Lib.hid h0'
            clear h0 h0'
            by_cases h8 : n = 8
            · have t1 : ((n : Int) == 8) = true := by subst h8; rfl
              have H8 := Lib.hid h8
              clear h8
              by_cases h4 : m % n = 4
              · have t2 : ((m : Int) % (n : Int) == 4) = true := by rw [← Int.natCast_emod, h4]; rfl
                have H4 : Hid (n = 8 ∧ (n + m) % n = 4) := by rw [HMN.out]; exact Lib.hid ⟨H8.out, h4⟩
                clear h4
                go_wp2_with fail
                refine wp_region_qtail (fun w' => w' = _) 17 (by kernel_rfl) (by kernel_rfl) rfl ?_
                simp only [List.take_succ_cons, List.take_zero, List.drop_succ_cons, List.drop_zero]
                repeat (first | go_big_quiet_skip | (go_big_quiet_want; go_big_quiet_op; go_big_quiet_on))
                refine wpQuiet_nil ?_
                rintro _ rfl
                go_wp2_with fail
                go_meet
                case rel => exact ⟨by rw [if_neg H0.out], by rw [wx_sub HXj.out H0.out H4.out]; exact r1.setRow _, r2.setRowOther _ _ (by omega), r3.setRowOther _ _ (by omega), (bSetRow hB5 (by omega) _).drew⟩
              · have t2 : ((m : Int) % (n : Int) == 4) = false := by rw [← Int.natCast_emod, beq_eq_false_iff_ne]; omega
                have H4 : Hid (¬ (n = 8 ∧ (n + m) % n = 4)) := by rw [HMN.out]; exact Lib.hid fun h => h4 h.2
                clear h4
                go_wp2_with fail
                go_meet
                case rel => exact ⟨by rw [if_neg H0.out], by rw [wx_plain HXj.out hXl H0.out H4.out]; exact r1, r2, r3, hB5⟩
            · have t1 : ((n : Int) == 8) = false := by rw [beq_eq_false_iff_ne]; omega
              have H4 : Hid (¬ (n = 8 ∧ (n + m) % n = 4)) := Lib.hid fun h => h8 h.1
              clear h8
              go_wp2_with fail
              go_meet
              case rel => exact ⟨by rw [if_neg H0.out], by rw [wx_plain HXj.out hXl H0.out H4.out]; exact r1, r2, r3, hB5⟩
          --D>
        case rest =>
          --<C
          clear r1 r2 r3 hB5 hX
          obtain ⟨c2, hc2⟩ : ∃ c2, c2 = (if (n + m) % n = 0 then dbl c1 else c1) := ⟨_, rfl⟩
          obtain ⟨Y, hY⟩ : ∃ Y, Y = (List.range 4).map (wx n (n + m) c1 W) := ⟨_, rfl⟩
          rw [← hc2, ← hY] at hcut
          have hYl : Y.length = 4 := by rw [hY]; simp
          have HC2 := Lib.hid hc2
          have HY := Lib.hid hY
          clear hc2 hY
          obtain ⟨rfl, r1, r2, r3, hB5⟩ := hcut
          have hV0 : Row wc c 110 (AB (pad (wj n (n + m) c1 W 0) (16 * (n + 7)))) := by
            have e0 : wj n (n + m) c1 W 0 = W := by simp [wj]
            rw [e0, ← HV.out]; exact r2
          have HWL := Lib.hid hwl
          clear hwl r2
          go_wp2_with fail
          obtain ⟨no, rfl⟩ : ∃ no : Nat, no = gk := ⟨_, rfl⟩
          go_loopg [11] 4 (fun r jv wr => ∃ j : Nat, r + j = 4 ∧ jv = .int .i64 j ∧ Row wr c 110 (AB (pad (wj n (n + m) c1 W j) (16 * (n + 7)))) ∧ Row wr wo.heap.size 110 (AB Y) ∧ Row wr w.heap.size 104 (AB boxT) ∧ Below w.heap.size w wr)
          case atStart => exact ⟨0, by omega, rfl, hV0, r1, r3, hB5⟩
          case round =>
            clear hV0 r1 r3 hB5
            obtain ⟨j, hj, rfl, hV2, r1, r3, hB5⟩ := hrel
            have hjl := wj_len n (n + m) c1 W j
            rw [HWL.out] at hjl
            have hpl2 := pad_len (wj n (n + m) c1 W j) (16 * (n + 7)) (by omega)
            obtain ⟨V2, hVe⟩ : ∃ V2, V2 = pad (wj n (n + m) c1 W j) (16 * (n + 7)) := ⟨_, rfl⟩
            rw [← hVe] at hV2 hpl2
            have HVE := Lib.hid hVe
            have HJL := Lib.hid hjl
            have HPL2 := Lib.hid hpl2
            clear hVe hjl hpl2 hpl
            have lc := hV2.lt
            have lo := r1.lt
            by_cases hj4 : j < 4
            · have b1 : (j : Int) < 4 := by omega
              have hxy : gb Y j = wx n (n + m) c1 W j := by rw [HY.out]; simp [gb, hj4]
              have hb1 : m * 4 + j < V2.length := by rw [HPL2.out]; omega
              have hb2 : (n + m) * 4 + j < V2.length := by rw [HPL2.out]; omega
              have hb3 : j < Y.length := by omega
              have HXY := Lib.hid hxy
              clear hxy
              have m1 : ((n : Int) + m - n) = m := by omega
              have m2 : (m : Int) < 4 * (n + 7) := by omega
              have m3 : (n : Int) + m < 4 * (n + 7) := by omega
              go_wp2_with fail
              refine wp_region_qtail (fun w' => w' = _) 17 (by kernel_rfl) (by kernel_rfl) rfl ?_
              simp only [List.take_succ_cons, List.take_zero, List.drop_succ_cons, List.drop_zero]
              repeat (first | go_big_quiet_skip | (go_big_quiet_want; go_big_quiet_op; go_big_quiet_on))
              refine wpQuiet_nil ?_
              rintro _ rfl
              go_wp2_with fail
              go_roundg (gk - 1)
              case measure => omega
              case rel =>
                refine ⟨j + 1, by omega, by go_num, ?_, r1.setOther _ _ (by simp; omega), r3.setOther _ _ (by simp; omega), (hB5.setCell (by simp; omega) _).drew⟩
                have e1 := wj_step n (n + m) c1 W j (by omega) (by have := HWL.out; omega) hj4
                have e2 : W.length - n * 4 + j = m * 4 + j := by have := HWL.out; omega
                have e3 : gb V2 (m * 4 + j) = gb (wj n (n + m) c1 W j) (m * 4 + j) := by rw [HVE.out]; exact gb_pad _ _ _ (by have := HJL.out; omega)
                have e4 := pad_set (wj n (n + m) c1 W j) (16 * (n + 7)) (xr (gb V2 (m * 4 + j)) (gb Y j)) (by have := HJL.out; omega)
                rw [e3, HXY.out, ← e2, e1, HJL.out, ← HVE.out] at e4
                have e5 := hV2.setByte ((n + m) * 4 + j) (xr (gb V2 (m * 4 + j)) (gb Y j))
                rw [show (n + m) * 4 + j = 4 * (n + m) + j by omega, e3, HXY.out, ← e2, e4] at e5
                rw [show (n + m) * 4 + j = 4 * (n + m) + j by omega, e3, HXY.out, ← e2]
                exact e5
            · obtain rfl : j = 4 := by omega
              go_wp2_with fail
              go_roundg (no - 1)
              case measure => omega
              case rel =>
                refine ⟨n + m + 1, by omega, by go_num, ?_, ?_, r3, hB5⟩
                · rw [show n + m + 1 - n = m + 1 by omega, HC2.out, HC1.out]; rfl
                · have e9 : kw n key (n + m + 1) = wj n (n + m) c1 W 4 := by
                    rw [show n + m + 1 = n + (m + 1) by omega, kw_first n key hk, HC1.out, HW.out]; rfl
                  rw [e9, ← HVE.out]; exact hV2
          --C>
      --F>
    · have hk4 : k = 4 * (n + 7) := by omega
      have hWe : kw n key k = expand key := by
        have e1 : key.length / 4 = n := by omega
        unfold expand
        rw [hk4, show 4 * (n + 7) = n + (3 * n + 28) by omega, kw_first n key hk, e1]
      rw [hWe] at hV hwl
      obtain ⟨W, hW⟩ : ∃ W, W = expand key := ⟨_, rfl⟩
      rw [← hW] at hV hwl
      have hwl' : W.length = 16 * (n + 7) := by omega
      rw [pad_full _ _ hwl'] at hV
      have HW := Lib.hid hW
      have HWL := Lib.hid hwl'
      clear hW hwl hwl' hWe
      obtain ⟨c1, hc1⟩ : ∃ c1, c1 = (ks n key (k - n)).c := ⟨_, rfl⟩
      rw [← hc1]
      have b0 : ¬ (k : Int) < 4 * ((n : Int) + 7) := by omega
      clear hc1 hk4
      have hnil : wr.ownsRow (c + 1) 84 16 (.slice none 0 0) 0 (((W.take (16 * 0)).map B)) := by simpa using World.ownsRow_nil wr (c + 1) 84 16
      go_wp2_with fail
      go_loopg [12, 13] (n + 7) (fun r v rv wr => ∃ (q : Nat) (kv : Value), r + q = n + 7 ∧ kv = v ∧ rv = .int .i64 q ∧ wr.ownsRow (c + 1) 84 16 kv q ((W.take (16 * q)).map B) ∧ Row wr c 110 (AB W) ∧ Below w.heap.size w wr)
      case atStart => exact ⟨0, _, by omega, rfl, rfl, hnil, hV, hB⟩
      case round =>
        clear hnil hV hT hB hlc
        obtain ⟨q, kv, hr, rfl, rfl, hown, hV, hB⟩ := hrel
        have hlc := hV.lt
        by_cases hq : q < n + 7
        · have b1 : (q : Int) < (n : Int) + 7 := by omega
          go_wp2_with fail
          obtain ⟨no, rfl⟩ : ∃ no : Nat, no = gk := ⟨_, rfl⟩
          obtain ⟨wq, rfl⟩ : ∃ wq : World, wq = wr := ⟨_, rfl⟩
          go_loopg [15] 16 (fun r iv wr => ∃ i : Nat, r + i = 16 ∧ iv = .int .i64 i ∧ Row wr wq.heap.size 84 (AB (pad ((W.drop (16 * q)).take i) 16)) ∧ Row wr c 110 (AB W) ∧ Below wq.heap.size wq wr)
          case atStart => exact ⟨0, by omega, rfl, by rw [List.take_zero, pad_nil]; exact Row.newAt _ _ _ _ rfl, hV.alloc _, (Below.refl _ _).alloc (Nat.le_refl _) _⟩
          case round =>
            obtain ⟨i, hi, rfl, hX, hV2, hB2⟩ := hrel
            have lx := hX.lt
            have lv := hV2.lt
            have hxl : ((W.drop (16 * q)).take i).length = i := by rw [List.length_take, List.length_drop, HWL.out]; omega
            have hpl := pad_len ((W.drop (16 * q)).take i) 16 (by omega)
            obtain ⟨X, hXe⟩ : ∃ X, X = pad ((W.drop (16 * q)).take i) 16 := ⟨_, rfl⟩
            rw [← hXe] at hX hpl
            have HX := Lib.hid hXe
            have HXL := Lib.hid hxl
            have HPL := Lib.hid hpl
            clear hXe hxl hpl
            by_cases hi16 : i < 16
            · have b2 : (i : Int) < 16 := by omega
              have b3 : 4 * (q : Int) + (i : Int) / 4 < 4 * ((n : Int) + 7) := by omega
              have b4 : (4 * q + i / 4) * 4 + i % 4 < W.length := by rw [HWL.out]; omega
              have b5 : i < X.length := by rw [HPL.out]; exact hi16
              go_wp2_with fail
              go_roundg (gk - 1)
              case measure => omega
              case rel =>
                refine ⟨i + 1, by omega, by go_num, ?_, hV2.setOther _ _ (by simp; omega), hB2.setCell (by simp) _⟩
                have e1 := pad_set ((W.drop (16 * q)).take i) 16 (gb W (16 * q + i)) (by have := HXL.out; omega)
                have e2 : (W.drop (16 * q)).take i ++ [gb W (16 * q + i)] = (W.drop (16 * q)).take (i + 1) := by
                  have hlt : i < (W.drop (16 * q)).length := by rw [List.length_drop, HWL.out]; omega
                  rw [List.take_succ_eq_append_getElem hlt]
                  congr 2
                  simp [gb, show 16 * q + i < W.length by rw [HWL.out]; omega]
                rw [e2, HXL.out, ← HX.out] at e1
                rw [show (4 * q + i / 4) * 4 + i % 4 = 16 * q + i by omega, ← e1]
                exact hX.setByte i _
            · obtain rfl : i = 16 := by omega
              have hxe : X = (W.drop (16 * q)).take 16 := by rw [HX.out]; exact pad_full _ _ HXL.out
              have hx16 : X.length = 16 := HPL.out
              have HXE := Lib.hid hxe
              clear hxe
              obtain ⟨ib, hib, hzb, hsb, hbb⟩ := info_parts info_blk
              have hB3 : Below w.heap.size w wr := hB.trans (hB2.mono hB.size)
              have hX1 : ∀ j u, (X.map B)[j]? = some u → (wr.alloc (.cells (AB X) 84)).cell? ((⟨wr.heap.size, 0, none⟩ : Addr).add j) = some u := by
                intro j u hj
                have hj' : j < X.length := by simpa using (List.getElem?_eq_some_iff.1 hj).1
                rw [Addr.add_lit, Nat.zero_add]
                refine ((Row.newAt wr wr.heap.size _ _ rfl).byte j hj').trans ?_
                simpa [gb, hj'] using hj
              have hX2 : ∀ u ∈ X.map B, u.oneCell' = true := by intro u hu; obtain ⟨x, _, rfl⟩ := List.mem_map.1 hu; rfl
              have hX3 : (X.map B).length = 1 * 16 := by simp [hx16]
              have hown2 : wr.ownsRow (c + 1) 84 16 kv q ((W.take (16 * q)).map B) := ownsRow_low hown hB2
              have hrq : c + 1 ≤ (wr.alloc (.cells (AB X) 84)).heap.size := by simp; omega
              go_wp2_with (at_builtin; refine wpList_append_own _ rfl (.tmp 154) (.tmp 156) 107 rfl (c + 1) 84 ib _ 16 16 Tryd.underlying107 hib hzb hsb hbb rfl (by decide) kv q _ rfl (hown2.alloc _) ⟨wr.heap.size, 0, none⟩ 1 1 (X.map B) rfl hX3 hX1 hX2 (by unfold maxLen; omega) (by omega) hrq ?_)
              intro v' w' hown' hgrow _
              have hV3 : Row w' c 110 (AB W) := (row_congr (hgrow.block c (by simp; omega) (fun e => by have := (hown2.lt _ e.symm).1; omega))).trans (hV2.alloc _)
              have hB4 : Below w.heap.size w w' := (hB3.alloc (by have := hB3.size; omega) _).grown hgrow (by have := hB3.size; simp; omega) (fun k e => by have := (hown2.lt _ e).1; omega)
              have eW : (W.take (16 * q)).map B ++ X.map B = (W.take (16 * (q + 1))).map B := by
                rw [← List.map_append, HXE.out, ← List.take_add, show 16 * q + 16 = 16 * (q + 1) by omega]
              have hown3 : w'.ownsRow (c + 1) 84 16 v' (q + 1) ((W.take (16 * (q + 1))).map B) := by rw [← eW, List.map_take]; exact hown'
              have HO := Lib.hid hown3
              clear hX1 hX2 hX3 hown2 hrq hown' hown3 hgrow eW hB3 hV2 hB2 hX hown hV hB
              go_wp2_with fail
              go_roundg (no - 1)
              case measure => omega
              case rel => exact ⟨q + 1, _, by omega, rfl, by go_num, HO.out, hV3, hB4⟩
        · obtain rfl : q = n + 7 := by omega
          rcases hown.2 with ⟨_, h0⟩ | ⟨kk, cap2, cur2, rfl, hbk, hhk, hc1, hc2, hc3, hc4⟩
          · omega
          have hP : Pre cur2 (expand key) := by
            rw [← HW.out]
            have h4 := hc4
            rw [show (n + 7) * 16 = W.length by rw [HWL.out]; omega, show 16 * (n + 7) = W.length by rw [HWL.out], List.take_length] at h4
            exact h4
          have hR := Row.of_heap hhk
          have HF : Hid (n + 7 ≤ cap2 ∧ cap2 ≤ maxLen ∧ Row wr kk 84 cur2 ∧ Pre cur2 (expand key) ∧ w.heap.size ≤ kk ∧ Below w.heap.size w wr) := Lib.hid ⟨hc1, hc2, hR, hP, by omega, hB⟩
          clear hc4 hc3 hc1 hc2 hhk hP hR hB hV hown
          go_wp2_with fail
          go_ret
          exact ⟨kk, cap2, cur2, rfl, HF.out⟩
end Go.Proofs.YtcfbiafedfkbhaaDoor
