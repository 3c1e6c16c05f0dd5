/- Part of the proof: Press, App. No conditions of its own. -/
import Derived.BigQuiet
import Derived.Deep.DeepCutAuto
import Derived.Deep.LoopGhost
import Derived.Deep.Quiet
import Derived.Deep.QuietTactic
import Derived.Laws.BitsAllLaws
import Derived.Lib.Hide
import Derived.StillTail
import Derived.Test.YtjpfhhndjpdmoaaGreatDoorProg
import Derived.WalkKit
import Derived.Test.YtjpfhhndjpdmoaaGreatDoorK27
import Derived.Deep.RegionLaw
import Derived.Laws.AppendOwnNone
namespace Go.Proofs.YtjpfhhndjpdmoaaGreatDoor
open Go.RowKit
set_option linter.unusedVariables false
set_option linter.unusedSimpArgs false

theorem zw8 : AD (List.replicate 8 0) = #[.int .u32 0, .int .u32 0, .int .u32 0, .int .u32 0, .int .u32 0, .int .u32 0, .int .u32 0, .int .u32 0] := by kernel_rfl
theorem AD_size (l : List UInt32) : (AD l).size = l.length := by simp [AD]
theorem AD_get (l : List UInt32) (i : Nat) (h : i < l.length) : (AD l)[i]? = some (D (gw l i)) := by simp [AD, gw, h]
theorem AD_set (l : List UInt32) (i : Nat) (x : UInt32) : (AD l).setIfInBounds i (D x) = AD (l.set i x) := by
  apply Array.ext'
  simp [AD, List.map_set]
theorem qe_call {P : Program} {o : Oper} {a : Act} {W : World} {K : Act → Prop} (f : FuncId) (args : Array Value) (hrun : ∀ w, (execOp a.eval o).run P w = .ok (.enter f args) w) (v : Value)
    (hc : Calls P f args W (fun e w'' => e = .returned v ∧ w'' = W)) (hk : K (a.put o.dst v)) : o.quiet P a (fun w' => w' = W) K := by
  refine ⟨v, fun w' hw' => ?_, hk⟩
  subst hw'
  unfold Oper.quietAt
  rw [hrun]
  exact ⟨rfl, hc.mono fun e w'' h => ⟨h.1, h.2⟩⟩
attribute [local go_sem] dw_xor dw_and dw_or dw_add dw_addm sr_8 sr_1024
theorem gen_wpR {c : Code} {Q : Exit → Act → World → Prop} {a : Act} {w : World} (R : World → Prop) (h : R w) (k : ∀ w, R w → Code.wp Tryz.prog c Q a w) : Code.wp Tryz.prog c Q a w := k w h
set_option maxRecDepth 100000 in
theorem zw64 : AD (List.replicate 64 0) = #[.int .u32 0, .int .u32 0, .int .u32 0, .int .u32 0, .int .u32 0, .int .u32 0, .int .u32 0, .int .u32 0, .int .u32 0, .int .u32 0, .int .u32 0, .int .u32 0, .int .u32 0, .int .u32 0, .int .u32 0, .int .u32 0, .int .u32 0, .int .u32 0, .int .u32 0, .int .u32 0, .int .u32 0, .int .u32 0, .int .u32 0, .int .u32 0, .int .u32 0, .int .u32 0, .int .u32 0, .int .u32 0, .int .u32 0, .int .u32 0, .int .u32 0, .int .u32 0, .int .u32 0, .int .u32 0, .int .u32 0, .int .u32 0, .int .u32 0, .int .u32 0, .int .u32 0, .int .u32 0, .int .u32 0, .int .u32 0, .int .u32 0, .int .u32 0, .int .u32 0, .int .u32 0, .int .u32 0, .int .u32 0, .int .u32 0, .int .u32 0, .int .u32 0, .int .u32 0, .int .u32 0, .int .u32 0, .int .u32 0, .int .u32 0, .int .u32 0, .int .u32 0, .int .u32 0, .int .u32 0, .int .u32 0, .int .u32 0, .int .u32 0, .int .u32 0] := by kernel_rfl
structure PrSt (w : World) (g4 g5 : Nat) (h l : List UInt32) (wr : World) : Prop where
  r2 : Row wr w.heap.size 298 (AD h)
  r4 : Row wr g4 298 (AD (List.replicate 8 0))
  r5 : Row wr g5 276 (AD l)
  bel : Below w.heap.size w wr
  l4 : w.heap.size < g4
  l5 : g4 < g5
theorem PrSt.drew {w wr : World} {g4 g5 : Nat} {h l : List UInt32} (k : PrSt w g4 g5 h l wr) : PrSt w g4 g5 h l wr.drew := ⟨k.r2.drew, k.r4.drew, k.r5.drew, k.bel.drew, k.l4, k.l5⟩
theorem PrSt.set {w wr : World} {g4 g5 : Nat} {h l : List UInt32} (k : PrSt w g4 g5 h l wr) (i : Nat) (x : UInt32) : PrSt w g4 g5 h (l.set i x) (wr.setCell ⟨g5, i, none⟩ (D x)) := by
  have h4 := k.l4
  have h5 := k.l5
  exact ⟨k.r2.setOther _ _ (show w.heap.size ≠ g5 by omega), k.r4.setOther _ _ (show g4 ≠ g5 by omega), AD_set l i x ▸ k.r5.set i (D x), k.bel.setCell (p := ⟨g5, i, none⟩) (by show w.heap.size ≤ g5; omega) _, h4, h5⟩
set_option maxRecDepth 100000 in
set_option maxHeartbeats 4000000 in
theorem press_any {tg : TypeId} (h : List UInt32) (vb : Value) (b : List UInt8) (w : World) (hv : Row w 10 tg (AD roundsS)) (hh : h.length = 8) (hs : SlB w vb b) (hb : b.length = 64) : Calls Tryz.prog 197 #[.agg (AD h), vb] w fun e w' => e = .returned (.agg (AD (pressS h b))) ∧ Below w.heap.size w w' := by
  obtain ⟨gb', ob, cp, rfl, hcp, hcm, hbl, hcell⟩ := hs.addr (by omega)
  rw [hb] at hcp ⊢
  have HV := Lib.hid hv
  have HCELL := Lib.hid hcell
  have HB := Lib.hid hb
  have c0 : (64 : Int) ≤ (cp : Int) := by omega
  have hne2 : gb' ≠ w.heap.size := by omega
  clear hcell hb hs hv
  go_enter Tryz.func197, Tryz.ntmps197
  go_wp2_with fail
  obtain ⟨g4, hg4⟩ : ∃ g, g = w.heap.size + 1 := ⟨_, rfl⟩
  obtain ⟨g5, hg5⟩ : ∃ g, g = w.heap.size + 1 + 1 := ⟨_, rfl⟩
  rw [← hg5, ← hg4]
  refine gen_wpR (PrSt w g4 g5 h (schS b 0)) ?_ ?_
  · rw [← zw8, ← zw64, hg4, hg5]
    refine ⟨((Row.new w _ _).alloc _).alloc _, (Row.newAt _ _ _ _ (by simp)).alloc _, Row.newAt _ _ _ _ (by simp), (((Below.refl _ w).alloc (Nat.le_refl _) _).alloc (by simp) _).alloc (by simp; omega) _, by omega, by omega⟩
  intro w0 hP
  clear hg4 hg5
  go_loopg [22] 16 (fun g t22 wr => ∃ i : Nat, g + i = 16 ∧ t22 = .int .i64 (i : Int) ∧ PrSt w g4 g5 h (schS b i) wr)
  case atStart => exact ⟨0, by omega, rfl, hP⟩
  case round =>
    obtain ⟨i, hi, rfl, hP⟩ := hrel
    by_cases hlt : i < 16
    · have z0 : (0 : Int) ≤ (i : Int) := by omega
      have z1 : (i : Int) < 16 := by omega
      have hnc : ¬ cp = 4 * i := by omega
      have HP := Lib.hid hP
      clear hP
      go_wp2_with fail
      have hp := HP.out
      have hcl : ∀ j, j < 4 → wr.cell? ⟨gb', ob + 4 * i + j, none⟩ = some (B (b.getD (4 * i + j) 0)) := fun j hj => by
        have h1 := HCELL.out (4 * i + j) (by have := HB.out; omega)
        rw [← Nat.add_assoc] at h1
        exact (hp.bel.cell (p := ⟨gb', ob + 4 * i + j, none⟩) hbl).trans h1
      obtain ⟨x0, e0⟩ : ∃ x, x = b.getD (4 * i) 0 := ⟨_, rfl⟩
      obtain ⟨x1, e1⟩ : ∃ x, x = b.getD (4 * i + 1) 0 := ⟨_, rfl⟩
      obtain ⟨x2, e2⟩ : ∃ x, x = b.getD (4 * i + 2) 0 := ⟨_, rfl⟩
      obtain ⟨x3, e3⟩ : ∃ x, x = b.getD (4 * i + 3) 0 := ⟨_, rfl⟩
      have hc0 := hcl 0 (by omega)
      have hc1 := hcl 1 (by omega)
      have hc2 := hcl 2 (by omega)
      have hc3 := hcl 3 (by omega)
      rw [Nat.add_zero, Nat.add_zero, ← e0] at hc0
      rw [← e1] at hc1
      rw [← e2] at hc2
      rw [← e3] at hc3
      have hx0 := x0.toNat_lt
      have hx1 := x1.toNat_lt
      have hx2 := x2.toNat_lt
      have hx3 := x3.toNat_lt
      have hc5 : wr.drew.cell? ⟨g5, i, none⟩ = some (D (gw (schS b i) i)) := by rw [hp.r5.drew.cell]; exact AD_get _ _ (by rw [schS_len]; omega)
      have hf5 : wr.drew.frozen? ⟨g5, i, none⟩ = false := hp.r5.drew.frozen i
      have hw4 : 4 * i + 4 - 4 * i = 4 := by omega
      have HE := Lib.hid (⟨e0, e1, e2, e3⟩ : _ ∧ _ ∧ _ ∧ _)
      clear hcl e0 e1 e2 e3 hp
      refine wp_region_qtail (fun w' => w' = _) 24 (by kernel_rfl) (by kernel_rfl) rfl ?_
      simp only [List.take_succ_cons, List.take_zero, List.drop_succ_cons, List.drop_zero, hw4]
      repeat (first | go_big_quiet_skip | (go_big_quiet_want; go_big_quiet_op; go_big_quiet_on))
      refine wpQuiet_nil ?_
      rintro _ rfl
      go_wp2_with fail
      go_roundg (gk - 1)
      case measure => omega
      case rel =>
        refine ⟨i + 1, by omega, by go_num, ?_⟩
        have := HP.out.drew.set i (be4 x0 x1 x2 x3)
        rw [be4_bits]
        have e : schS b (i + 1) = (schS b i).set i (be4 x0 x1 x2 x3) := by
          rw [schS, if_pos hlt]
          unfold wordS
          rw [← HE.out.1, ← HE.out.2.1, ← HE.out.2.2.1, ← HE.out.2.2.2]
        rw [e]
        exact this
    · obtain rfl : i = 16 := by omega
      have z1 : ¬ ((16 : Nat) : Int) < 16 := by omega
      have HP := Lib.hid hP
      clear hP
      go_wp2_with fail
      go_loopg [8] 48 (fun g t8 wr => ∃ i : Nat, g + i = 64 ∧ 16 ≤ i ∧ t8 = .int .i64 (i : Int) ∧ PrSt w g4 g5 h (schS b i) wr)
      case atStart => exact ⟨16, by omega, by omega, rfl, HP.out⟩
      case round =>
        clear HP
        obtain ⟨i, hi, h16, rfl, hP⟩ := hrel
        by_cases hlt : i < 64
        · have z0 : (16 : Int) ≤ (i : Int) := by omega
          have z1 : (i : Int) < 64 := by omega
          have z2 : ((i : Int) - 15).toNat = i - 15 := by omega
          have z3 : ((i : Int) - 2).toNat = i - 2 := by omega
          have z4 : ((i : Int) - 16).toNat = i - 16 := by omega
          have z5 : ((i : Int) - 7).toNat = i - 7 := by omega
          have cell : ∀ (W : World) (j : Nat), j < 64 → Row W g5 276 (AD (schS b i)) → W.cell? ⟨g5, j, none⟩ = some (D (gw (schS b i) j)) := fun W j hj hr => by rw [hr.cell]; exact AD_get _ _ (by rw [schS_len]; exact hj)
          have hcx := cell wr.drew (i - 15) (by omega) hP.r5.drew
          have hcy := cell wr.drew (i - 2) (by omega) hP.r5.drew
          have hcu := cell wr.drew.drew (i - 16) (by omega) hP.r5.drew.drew
          have hcv := cell wr.drew.drew (i - 7) (by omega) hP.r5.drew.drew
          have hci := cell wr.drew.drew i (by omega) hP.r5.drew.drew
          have hfi : wr.drew.drew.frozen? ⟨g5, i, none⟩ = false := hP.r5.drew.drew.frozen i
          obtain ⟨x, ex⟩ : ∃ x, x = gw (schS b i) (i - 15) := ⟨_, rfl⟩
          obtain ⟨y, ey⟩ : ∃ x, x = gw (schS b i) (i - 2) := ⟨_, rfl⟩
          obtain ⟨u, eu⟩ : ∃ x, x = gw (schS b i) (i - 16) := ⟨_, rfl⟩
          obtain ⟨v, ev⟩ : ∃ x, x = gw (schS b i) (i - 7) := ⟨_, rfl⟩
          rw [← ex] at hcx
          rw [← ey] at hcy
          rw [← eu] at hcu
          rw [← ev] at hcv
          have HE := Lib.hid (⟨ex, ey, eu, ev⟩ : _ ∧ _ ∧ _ ∧ _)
          have HP := Lib.hid hP
          clear cell ex ey eu ev hP
          go_wp2_with fail
          refine wp_region_qtail (fun w' => w' = _) 9 (by kernel_rfl) (by kernel_rfl) rfl ?_
          simp only [List.take_succ_cons, List.take_zero, List.drop_succ_cons, List.drop_zero]
          repeat (first | go_big_quiet_skip | (go_big_quiet_want; go_big_quiet_op; go_big_quiet_on))
          refine wpQuiet_nil ?_
          rintro _ rfl
          go_wp2_with fail
          refine wp_region_qtail (fun w' => w' = _) 28 (by kernel_rfl) (by kernel_rfl) rfl ?_
          simp only [List.take_succ_cons, List.take_zero, List.drop_succ_cons, List.drop_zero]
          iterate 11 (first | go_big_quiet_skip | (go_big_quiet_want; go_big_quiet_op; go_big_quiet_on))
          (go_big_quiet_want; refine qe_call _ _ ?_ _ (right_7 x _) ?_; (focus (intro w; simp [go_sem]; done)); (simp only [Act.put, lS]; go_big_quiet_on))
          (first | go_big_quiet_skip | (go_big_quiet_want; go_big_quiet_op; go_big_quiet_on))
          (go_big_quiet_want; refine qe_call _ _ ?_ _ (right_18 x _) ?_; (focus (intro w; simp [go_sem]; done)); (simp only [Act.put, lS]; go_big_quiet_on))
          iterate 6 (first | go_big_quiet_skip | (go_big_quiet_want; go_big_quiet_op; go_big_quiet_on))
          (go_big_quiet_want; refine qe_call _ _ ?_ _ (right_17 y _) ?_; (focus (intro w; simp [go_sem]; done)); (simp only [Act.put, lS]; go_big_quiet_on))
          (first | go_big_quiet_skip | (go_big_quiet_want; go_big_quiet_op; go_big_quiet_on))
          (go_big_quiet_want; refine qe_call _ _ ?_ _ (right_19 y _) ?_; (focus (intro w; simp [go_sem]; done)); (simp only [Act.put, lS]; go_big_quiet_on))
          iterate 5 (first | go_big_quiet_skip | (go_big_quiet_want; go_big_quiet_op; go_big_quiet_on))
          refine wpQuiet_nil ?_
          rintro _ rfl
          go_wp2_with fail
          go_roundg (gk - 1)
          case measure => omega
          case rel =>
            refine ⟨i + 1, by omega, by omega, by go_num, ?_⟩
            have hm : mixW (schS b i) i = aw (aw (aw u v) (s0 x)) (s1 y) := by
              unfold mixW
              rw [← HE.out.1, ← HE.out.2.1, ← HE.out.2.2.1, ← HE.out.2.2.2]
            have := HP.out.drew.drew.set i (mixW (schS b i) i)
            rw [show schS b (i + 1) = (schS b i).set i (mixW (schS b i) i) by rw [schS, if_neg (by omega)]]
            rw [hm] at this ⊢
            exact this
        · obtain rfl : i = 64 := by omega
          have z1 : ¬ ((64 : Nat) : Int) < 64 := by omega
          have HP := Lib.hid hP
          clear hP
          go_wp2_with fail
          have cell : ∀ (j : Nat), j < 8 → wr.drew.cell? ⟨w.heap.size, j, none⟩ = some (D (gw h j)) := fun j hj => by rw [HP.out.r2.drew.cell]; exact AD_get _ _ (by omega)
          have hc0 := cell 0 (by omega)
          have hc1 := cell 1 (by omega)
          have hc2 := cell 2 (by omega)
          have hc3 := cell 3 (by omega)
          have hc4 := cell 4 (by omega)
          have hc5 := cell 5 (by omega)
          have hc6 := cell 6 (by omega)
          have hc7 := cell 7 (by omega)
          obtain ⟨h0, e0⟩ : ∃ x, x = gw h 0 := ⟨_, rfl⟩
          rw [← e0] at hc0
          obtain ⟨h1, e1⟩ : ∃ x, x = gw h 1 := ⟨_, rfl⟩
          rw [← e1] at hc1
          obtain ⟨h2, e2⟩ : ∃ x, x = gw h 2 := ⟨_, rfl⟩
          rw [← e2] at hc2
          obtain ⟨h3, e3⟩ : ∃ x, x = gw h 3 := ⟨_, rfl⟩
          rw [← e3] at hc3
          obtain ⟨h4, e4⟩ : ∃ x, x = gw h 4 := ⟨_, rfl⟩
          rw [← e4] at hc4
          obtain ⟨h5, e5⟩ : ∃ x, x = gw h 5 := ⟨_, rfl⟩
          rw [← e5] at hc5
          obtain ⟨h6, e6⟩ : ∃ x, x = gw h 6 := ⟨_, rfl⟩
          rw [← e6] at hc6
          obtain ⟨h7, e7⟩ : ∃ x, x = gw h 7 := ⟨_, rfl⟩
          rw [← e7] at hc7
          have HE := Lib.hid (show ofS h = ⟨h0, h1, h2, h3, h4, h5, h6, h7⟩ by unfold ofS; rw [e0, e1, e2, e3, e4, e5, e6, e7])
          have HEG := Lib.hid (⟨e0, e1, e2, e3, e4, e5, e6, e7⟩ : _ ∧ _ ∧ _ ∧ _ ∧ _ ∧ _ ∧ _ ∧ _)
          have HP1 := Lib.hid HP.out.drew
          clear cell e0 e1 e2 e3 e4 e5 e6 e7
          refine wp_region_qtail (fun w' => w' = _) 23 (by kernel_rfl) (by kernel_rfl) rfl ?_
          simp only [List.take_succ_cons, List.take_zero, List.drop_succ_cons, List.drop_zero]
          repeat (first | go_big_quiet_skip | (go_big_quiet_want; go_big_quiet_op; go_big_quiet_on))
          refine wpQuiet_nil ?_
          rintro _ rfl
          clear hc0 hc1 hc2 hc3 hc4 hc5 hc6 hc7
          go_wp2_with fail
          go_loopg [11, 12, 13, 14, 15, 16, 17, 18, 114] 64 (fun g t11 t12 t13 t14 t15 t16 t17 t18 t114 wr => ∃ (i : Nat) (v : S8), g + i = 64 ∧ t114 = .int .i64 (i : Int) ∧ v = runS roundsS (schS b 64) (ofS h) i ∧ t11 = D v.a ∧ t12 = D v.b ∧ t13 = D v.c ∧ t14 = D v.d ∧ t15 = D v.e ∧ t16 = D v.f ∧ t17 = D v.g ∧ t18 = D v.h ∧ PrSt w g4 g5 h (schS b 64) wr)
          case atStart => exact ⟨0, ofS h, by omega, rfl, rfl, by rw [HE.out], by rw [HE.out], by rw [HE.out], by rw [HE.out], by rw [HE.out], by rw [HE.out], by rw [HE.out], by rw [HE.out], HP1.out⟩
          case round =>
            clear HP HP1
            obtain ⟨i, ⟨va, vb', vc, vd, ve, vf, vg, vh⟩, hi, rfl, hv, rfl, rfl, rfl, rfl, rfl, rfl, rfl, rfl, hP⟩ := hrel
            by_cases hlt : i < 64
            · have z0 : (0 : Int) ≤ (i : Int) := by omega
              have z1 : (i : Int) < 64 := by omega
              have hcg : wr.drew.cell? ⟨10, i, none⟩ = some (D (gw roundsS i)) := by
                have h1 := (HV.out.cell i).trans (AD_get _ _ hlt)
                exact (hP.bel.drew.cell (p := ⟨10, i, none⟩) HV.out.lt).trans h1
              have hcw : wr.drew.cell? ⟨g5, i, none⟩ = some (D (gw (schS b 64) i)) := by rw [hP.r5.drew.cell]; exact AD_get _ _ (by rw [schS_len]; exact hlt)
              obtain ⟨kk, ek⟩ : ∃ x, x = gw roundsS i := ⟨_, rfl⟩
              obtain ⟨ww, ew⟩ : ∃ x, x = gw (schS b 64) i := ⟨_, rfl⟩
              rw [← ek] at hcg
              rw [← ew] at hcw
              have HE2 := Lib.hid (⟨ek, ew, hv⟩ : _ ∧ _ ∧ _)
              have HP := Lib.hid hP
              clear hP ek ew hv
              go_wp2_with fail
              refine wp_region_qtail (fun w' => w' = _) 25 (by kernel_rfl) (by kernel_rfl) rfl ?_
              simp only [List.take_succ_cons, List.take_zero, List.drop_succ_cons, List.drop_zero]
              iterate 2 (first | go_big_quiet_skip | (go_big_quiet_want; go_big_quiet_op; go_big_quiet_on))
              (go_big_quiet_want; refine qe_call _ _ ?_ _ (right_6 ve _) ?_; (focus (intro w; simp [go_sem]; done)); (simp only [Act.put, lS]; go_big_quiet_on))
              (first | go_big_quiet_skip | (go_big_quiet_want; go_big_quiet_op; go_big_quiet_on))
              (go_big_quiet_want; refine qe_call _ _ ?_ _ (right_11 ve _) ?_; (focus (intro w; simp [go_sem]; done)); (simp only [Act.put, lS]; go_big_quiet_on))
              iterate 2 (first | go_big_quiet_skip | (go_big_quiet_want; go_big_quiet_op; go_big_quiet_on))
              (go_big_quiet_want; refine qe_call _ _ ?_ _ (right_25 ve _) ?_; (focus (intro w; simp [go_sem]; done)); (simp only [Act.put, lS]; go_big_quiet_on))
              repeat (first | go_big_quiet_skip | (go_big_quiet_want; go_big_quiet_op; go_big_quiet_on))
              refine wpQuiet_nil ?_
              rintro _ rfl
              go_wp2_with (first
                | (refine (right_2 va _).mono ?_; rintro e w' ⟨rfl, rfl⟩)
                | (refine (right_13 va _).mono ?_; rintro e w' ⟨rfl, rfl⟩)
                | (refine (right_22 va _).mono ?_; rintro e w' ⟨rfl, rfl⟩))
              go_roundg (gk - 1)
              case measure => omega
              case rel => exact ⟨i + 1, oneS kk ww ⟨va, vb', vc, vd, ve, vf, vg, vh⟩, by omega, by go_num, by rw [HE2.out.2.2, HE2.out.1, HE2.out.2.1]; rfl, rfl, rfl, rfl, rfl, rfl, rfl, rfl, rfl, HP.out.drew⟩
            · obtain rfl : i = 64 := by omega
              have z1 : ¬ ((64 : Nat) : Int) < 64 := by omega
              obtain ⟨e0, e1, e2, e3, e4, e5, e6, e7⟩ := HEG.out
              have cell : ∀ (j : Nat), j < 8 → wr.cell? ⟨w.heap.size, j, none⟩ = some (D (gw h j)) := fun j hj => by rw [hP.r2.cell]; exact AD_get _ _ (by omega)
              have hc0 := cell 0 (by omega)
              rw [← e0] at hc0
              have hc1 := cell 1 (by omega)
              rw [← e1] at hc1
              have hc2 := cell 2 (by omega)
              rw [← e2] at hc2
              have hc3 := cell 3 (by omega)
              rw [← e3] at hc3
              have hc4 := cell 4 (by omega)
              rw [← e4] at hc4
              have hc5 := cell 5 (by omega)
              rw [← e5] at hc5
              have hc6 := cell 6 (by omega)
              rw [← e6] at hc6
              have hc7 := cell 7 (by omega)
              rw [← e7] at hc7
              have hr4 := hP.r4
              have HP := Lib.hid hP
              have HV2 := Lib.hid hv
              have HRES := Lib.hid (show pressS h b = [aw h0 va, aw h1 vb', aw h2 vc, aw h3 vd, aw h4 ve, aw h5 vf, aw h6 vg, aw h7 vh] by
                unfold pressS
                rw [← hv, e0, e1, e2, e3, e4, e5, e6, e7])
              clear cell e0 e1 e2 e3 e4 e5 e6 e7 hP hv
              go_wp2_with fail
              rw [HRES.out]
              exact ret_row (.inl rfl) rfl g4 _ _ 8 _ rfl (hr4.setRow _) Tryz.underlying298 rfl (by kernel_rfl) rfl ⟨rfl, bSetRow HP.out.bel (Nat.le_of_lt HP.out.l4) _⟩
end Go.Proofs.YtjpfhhndjpdmoaaGreatDoor

namespace Go.Proofs.YtjpfhhndjpdmoaaGreatDoor
open Go.RowKit

theorem wpl_appendS {P : Program} {w : World} {ops : Array Oper} {rest : List Oper} {o : Oper} {a : Act} {Q : Exit → Act → World → Prop} (hgd : o.guard = none) (s x : Operand) (t : TypeId)
    (ho : o.op = .call { callee := .builtin .append, args := #[s, x], argTypes := #[t, t] })
    {e : TypeId} (ht : P.underlying t = some (.slice e)) (hinf : (P.info? e).map (fun i => (i.zero, i.size, i.bytes)) = some (some (.int .u8 0), 1, 1))
    (base : Nat) (v : Value) (l : List UInt8) (hs : a.eval s = v) (hbuf : Buf e w base v l) (vx : Value) (m : List UInt8) (hx : a.eval x = vx) (hS : SlB w vx m)
    (hlen : l.length + m.length ≤ 140737488355328) (hbase : base ≤ w.heap.size)
    (h : ∀ v' w', Buf e w' base v' (l ++ m) → w.grownBy w' v.ownBlock → wpList P ops Q rest (a.put o.dst v') w') : wpList P ops Q (o :: rest) a w := by
  obtain ⟨i0, hi, hz0, hz1, hz2⟩ := info_parts hinf
  obtain ⟨ad, cap, rfl, h1, h2, h3, h4⟩ := hS
  cases ad with
  | none =>
    have hm : m = [] := List.eq_nil_of_length_eq_zero (by have := h3 rfl; omega)
    subst hm
    obtain rfl : cap = 0 := h3 rfl
    refine wpList_append_own_none hgd s x t ho base e i0 1 ht hi v l.length (l.map B) hs hbuf hx ?_
    have := h v w (by simpa using hbuf) (World.grownBy.refl w _)
    exact this
  | some ad =>
    obtain ⟨hsp, hc⟩ := h4 _ rfl
    obtain ⟨b, o', sp⟩ := ad
    simp only at hsp
    subst hsp
    refine wpList_append_own w hgd s x t ho base e i0 (.int .u8 0) 1 1 ht hi hz0 hz1 hz2 rfl (by decide) v l.length (l.map B) hs hbuf ⟨b, o', none⟩ m.length cap (m.map B) hx (by simp) ?_ ?_ (by unfold maxLen; omega) (by omega) hbase ?_
    · intro j u hj
      have hj' : j < m.length := by simpa using (List.getElem?_eq_some_iff.1 hj).1
      rw [Addr.add_lit, hc j hj']
      simpa [gb, hj'] using hj
    · intro u hu
      obtain ⟨y, _, rfl⟩ := List.mem_map.1 hu
      rfl
    · intro v' w' hb hg _
      exact h v' w' (by simpa [Buf] using hb) hg
theorem Buf.empty {e : TypeId} (w : World) (base g : Nat) (hg : g = w.heap.size) (hb : base ≤ g) : Buf e (w.alloc (.cells #[] e)) base (.slice (some ⟨g, 0, none⟩) 0 0) [] :=
  ⟨by simp, .inr ⟨g, 0, #[], rfl, hb, by rw [hg]; exact heap_alloc_new w _, Nat.le_refl _, Nat.zero_le _, by simp, by simp⟩⟩
theorem SlB.take {w : World} {a : Option Addr} {n cap : Nat} {l : List UInt8} (h : SlB w (.slice a n cap) l) (m : Nat) (hm : m ≤ n) : SlB w (.slice a m cap) (l.take m) := by
  obtain ⟨a', cap', hv, h1, h2, h3, h4⟩ := h
  simp only [Value.slice.injEq] at hv
  obtain ⟨rfl, rfl, rfl⟩ := hv
  have hlen : (l.take m).length = m := by simp; omega
  refine ⟨a, cap, by rw [hlen], by omega, h2, h3, fun ad had => ⟨(h4 ad had).1, fun i hi => ?_⟩⟩
  rw [(h4 ad had).2 i (by omega)]
  simp [gb, show i < m by omega]
theorem SlB.len {w : World} {a : Option Addr} {n cap : Nat} {l : List UInt8} (h : SlB w (.slice a n cap) l) : l.length = n := by
  obtain ⟨a', cap', hv, _⟩ := h
  simp only [Value.slice.injEq] at hv
  exact hv.2.1.symm
theorem Pre.set {cur : Array Value} {l : List UInt8} (h : Pre cur l) (k : Nat) (x : UInt8) (_hk : k < l.length) : Pre (cur.setIfInBounds k (B x)) (l.set k x) := by
  have h' : cur.toList.take l.length = l.map B := h
  unfold Pre
  rw [List.length_set, Array.toList_setIfInBounds, List.take_set, h', List.map_set]
theorem KeyAt.setCell {tk te t : TypeId} {w : World} {p : Value} {W : List UInt8} {m g : Nat} {cu : Array Value} (h : KeyAt tk te w p W m) (hr : Row w g t cu) (h1 : t ≠ tk) (h2 : t ≠ te) (i : Nat) (v : Value) : KeyAt tk te (w.setCell ⟨g, i, none⟩ v) p W m := by
  obtain ⟨kb, kk, cap, cur, e1, e2, e3, e4⟩ := h
  have n1 : kb ≠ g := by
    rintro rfl
    have := hr.symm.trans e2
    simp only [Option.some.injEq, Prod.mk.injEq] at this
    exact h1 this.1
  have n2 : kk ≠ g := by
    rintro rfl
    have := hr.symm.trans e3
    simp only [Option.some.injEq, Prod.mk.injEq] at this
    exact h2 this.1
  exact ⟨kb, kk, cap, cur, e1, e2.setOther _ _ n1, e3.setOther _ _ n2, e4⟩
end Go.Proofs.YtjpfhhndjpdmoaaGreatDoor
