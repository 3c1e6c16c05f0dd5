/- Part of the proof: Ref12. No conditions of its own. -/
import Derived.ArgAppend
import Derived.Below
import Derived.BigQuiet
import Derived.BigRegion
import Derived.ChangeOld
import Derived.Deep.CutBlock
import Derived.Deep.DeepCutAuto
import Derived.Deep.Draws
import Derived.Deep.LoopGhost
import Derived.Deep.Quiet
import Derived.Deep.QuietTactic
import Derived.Deep.RegionHeld3
import Derived.Deep.RegionLaw
import Derived.Laws.AppendOwnNone
import Derived.Laws.Bits64
import Derived.Laws.BitsAllLaws
import Derived.Laws.BytesArg
import Derived.Laws.Concat
import Derived.Laws.CopyOwn
import Derived.Laws.MakeOwn
import Derived.Lib.AppendStr
import Derived.Lib.AppendZerosOnto
import Derived.Lib.Hide
import Derived.Lib.SlBytesConst
import Derived.LoopIn
import Derived.LoopNIn
import Derived.Maps.AppendAt
import Derived.OpenShut
import Derived.OrdersIn
import Derived.OwnWalkIn
import Derived.ProofKit
import Derived.RangeFuncBound
import Derived.RangeFuncBox
import Derived.RangeFuncCalls
import Derived.RangeFuncLeaves
import Derived.RangeFuncNested
import Derived.Shelf.Abstract
import Derived.ShutString
import Derived.StillTail
import Derived.TacticsIn
import Derived.TacticsInMore
import Derived.Test.YtcfbiafedfkbhaaDoorChecked
import Derived.Test.YtcfbiafedfkbhaaDoorProg
import Derived.WalkKit
import Derived.WalkSpells
import Derived.Test.YtcfbiafedfkbhaaDoorO26
import Derived.Test.YtcfbiafedfkbhaaDoorO33
namespace Go.Proofs.YtcfbiafedfkbhaaDoor
open Go.RowKit
set_option linter.unusedVariables false
set_option linter.unusedSimpArgs false

theorem ext_S (l : List UInt8) (i j : Nat) : (⟨l.toArray⟩ : ByteArray).extract i j = ⟨((l.drop i).take (j - i)).toArray⟩ := by
  apply ByteArray.ext
  simp [ByteArray.data_extract]
theorem ext0_S (l : List UInt8) (j : Nat) : (⟨l.toArray⟩ : ByteArray).extract 0 j = ⟨(l.take j).toArray⟩ := by
  rw [ext_S, List.drop_zero, Nat.sub_zero]
theorem rkind_any (w : World) (k : Int) : Calls Tryd.prog 37 #[.int .i64 k] w fun e w' => e = .returned (.bool (kindB k)) ∧ w = w' := by
  by_cases h1 : 21 ≤ k
  · by_cases h2 : k ≤ 23
    · have H := Lib.hid (show kindB k = true by unfold kindB; simp [h1, h2])
      go_enter Tryd.func37, Tryd.ntmps37
      go_wp2
      go_ret
      exact ⟨by rw [H.out]; rfl, rfl⟩
    · have H := Lib.hid (show kindB k = false by unfold kindB; simp [h2])
      go_enter Tryd.func37, Tryd.ntmps37
      go_wp2
      go_ret
      exact ⟨by rw [H.out]; rfl, rfl⟩
  · have H := Lib.hid (show kindB k = false by unfold kindB; simp [h1])
    go_enter Tryd.func37, Tryd.ntmps37
    go_wp2
    go_ret
    exact ⟨by rw [H.out]; rfl, rfl⟩
set_option maxRecDepth 100000 in
theorem rhead_any (w : World) (k n : Nat) (hk : k ≤ 255) (hn : n ≤ 1000000) : Calls Tryd.prog 17 #[.int .i64 (k : Int), .int .i64 (n : Int)] w fun e w' => e = .returned (S (headS k n)) ∧ Below w.heap.size w w' := by
  have u1 := u8wr (n / 256) ((n : Int) / 256) (by simp)
  have u2 := u8wr n (n : Int) rfl
  have u3 := u8wr k (k : Int) rfl
  obtain ⟨x1, hx1⟩ : ∃ x, x = UInt8.ofNat (n / 256) := ⟨_, rfl⟩
  obtain ⟨x2, hx2⟩ : ∃ x, x = UInt8.ofNat n := ⟨_, rfl⟩
  obtain ⟨x3, hx3⟩ : ∃ x, x = UInt8.ofNat k := ⟨_, rfl⟩
  rw [← hx1] at u1
  rw [← hx2] at u2
  rw [← hx3] at u3
  have e : headS k n = [x3, 3, 3, x1, x2] := by rw [headS, ← hx1, ← hx2, ← hx3]
  rw [e]
  have hc := run_conv_slb (P := Tryd.prog) (w.alloc (.cells #[.int .u8 (x3.toNat : Int), .int .u8 3, .int .u8 3, .int .u8 (x1.toNat : Int), .int .u8 (x2.toNat : Int)] 5)) 23 5 9 Tryd.underlying23 Tryd.underlying5 Tryd.underlying9 (.slice (some ⟨w.heap.size, 0, none⟩) 5 5) [x3, 3, 3, x1, x2]
    ((Row.new w 5 (AB [x3, 3, 3, x1, x2])).slW (l := [x3, 3, 3, x1, x2]) (by simp))
  clear hx1 hx2 hx3 hk hn e
  go_enter Tryd.func17, Tryd.ntmps17
  go_wp2_with fail
  go_ret
  exact ⟨rfl, (Below.refl _ _).alloc (Nat.le_refl _) _⟩
def RCutSt (w : World) (l : List UInt8) (e : Ending) (w' : World) : Prop :=
  e = .returned (.tuple #[S (cutA l), S (cutZ l), .int .i64 (cutE l : Int)]) ∧ Below w.heap.size w w'
theorem RCutSt.no {w w' : World} {l : List UInt8} {k : Nat} (hk : cutE l = k) (h0 : k ≠ 0) (hb : Below w.heap.size w w') : RCutSt w l (.returned (.tuple #[S [], S [], .int .i64 (k : Int)])) w' := by
  refine ⟨?_, hb⟩
  rw [hk, cutA_no (by rw [hk]; exact h0), cutZ_no (by rw [hk]; exact h0)]
theorem RCutSt.ok {w w' : World} {l : List UInt8} {T : Nat} {l1 l2 : List UInt8} (hk : cutE l = 0) (hT : T = 5 + cutN l) (h1 : l1 = l.take T) (h2 : l2 = l.drop T) (hb : Below w.heap.size w w') : RCutSt w l (.returned (.tuple #[S l1, S l2, .int .i64 0])) w' := by
  subst h1
  subst h2
  subst hT
  refine ⟨?_, hb⟩
  rw [hk, cutA_ok hk, cutZ_ok hk]
  rfl
attribute [local go_sem] ext_S ext0_S
set_option maxRecDepth 100000 in
set_option maxHeartbeats 4000000 in
theorem rcut_bad10 (w : World) (l : List UInt8) (hn : l.length = 1) (g0 : goodB l 0 = false) : Calls Tryd.prog 24 #[S l] w (RCutSt w l) := by
  have HE := Lib.hid (show cutE l = 2 from cutE_form (formB_bad (i := 0) (by decide) (by omega) g0))
  have p0 : (0 : Int) < (l.length : Int) := by omega
  have q0 : 0 < l.length := by omega
  have p1 : ¬ (1 : Int) < (l.length : Int) := by omega
  have p2 : ¬ (2 : Int) < (l.length : Int) := by omega
  have hk0 : kindB ((gb l 0).toNat : Int) = false := g0
  have HK := Lib.hid hk0
  have t0 := (gb l 0).toNat_lt
  clear hk0 hn g0
  go_enter Tryd.func24, Tryd.ntmps24
  go_wp2_with (go_at_call 37; refine (rkind_any _ _).mono ?_; rintro e w' ⟨rfl, rfl⟩; rw [HK.out])
  refine bodyPost_ret (results_tmp3 rfl _ _ _) rfl ?_
  exact RCutSt.no (k := 2) (HE.out) (by decide) (Below.refl _ _)
set_option maxRecDepth 100000 in
set_option maxHeartbeats 4000000 in
theorem rcut_bad20 (w : World) (l : List UInt8) (hn : l.length = 2) (g0 : goodB l 0 = false) : Calls Tryd.prog 24 #[S l] w (RCutSt w l) := by
  have HE := Lib.hid (show cutE l = 2 from cutE_form (formB_bad (i := 0) (by decide) (by omega) g0))
  have p0 : (0 : Int) < (l.length : Int) := by omega
  have q0 : 0 < l.length := by omega
  have p1 : (1 : Int) < (l.length : Int) := by omega
  have q1 : 1 < l.length := by omega
  have p2 : ¬ (2 : Int) < (l.length : Int) := by omega
  have hk0 : kindB ((gb l 0).toNat : Int) = false := g0
  have HK := Lib.hid hk0
  have t0 := (gb l 0).toNat_lt
  clear hk0 hn g0
  go_enter Tryd.func24, Tryd.ntmps24
  go_wp2_with (go_at_call 37; refine (rkind_any _ _).mono ?_; rintro e w' ⟨rfl, rfl⟩; rw [HK.out])
  refine bodyPost_ret (results_tmp3 rfl _ _ _) rfl ?_
  exact RCutSt.no (k := 2) (HE.out) (by decide) (Below.refl _ _)
set_option maxRecDepth 100000 in
set_option maxHeartbeats 4000000 in
theorem rcut_bad21 (w : World) (l : List UInt8) (hn : l.length = 2) (g0 : goodB l 0 = true) (g1 : goodB l 1 = false) : Calls Tryd.prog 24 #[S l] w (RCutSt w l) := by
  have HE := Lib.hid (show cutE l = 2 from cutE_form (formB_bad (i := 1) (by decide) (by omega) g1))
  have p0 : (0 : Int) < (l.length : Int) := by omega
  have q0 : 0 < l.length := by omega
  have p1 : (1 : Int) < (l.length : Int) := by omega
  have q1 : 1 < l.length := by omega
  have p2 : ¬ (2 : Int) < (l.length : Int) := by omega
  have hk0 : kindB ((gb l 0).toNat : Int) = true := g0
  have HK := Lib.hid hk0
  have t0 := (gb l 0).toNat_lt
  have y1 : ¬ ((gb l 1).toNat : Int) = 3 := by
    intro e
    have : gb l 1 = 3 := UInt8.toNat_inj.1 (by have h2 : (3 : UInt8).toNat = 3 := rfl; omega)
    have g : (gb l 1 == 3) = false := g1
    rw [this] at g
    cases g
  clear hk0 hn g0 g1
  go_enter Tryd.func24, Tryd.ntmps24
  go_wp2_with (go_at_call 37; refine (rkind_any _ _).mono ?_; rintro e w' ⟨rfl, rfl⟩; rw [HK.out])
  refine bodyPost_ret (results_tmp3 rfl _ _ _) rfl ?_
  exact RCutSt.no (k := 2) (HE.out) (by decide) (Below.refl _ _)
set_option maxRecDepth 100000 in
set_option maxHeartbeats 4000000 in
theorem rcut_bad30 (w : World) (l : List UInt8) (hn : 3 ≤ l.length) (g0 : goodB l 0 = false) : Calls Tryd.prog 24 #[S l] w (RCutSt w l) := by
  have HE := Lib.hid (show cutE l = 2 from cutE_form (formB_bad (i := 0) (by decide) (by omega) g0))
  have p0 : (0 : Int) < (l.length : Int) := by omega
  have q0 : 0 < l.length := by omega
  have p1 : (1 : Int) < (l.length : Int) := by omega
  have q1 : 1 < l.length := by omega
  have p2 : (2 : Int) < (l.length : Int) := by omega
  have q2 : 2 < l.length := by omega
  have hk0 : kindB ((gb l 0).toNat : Int) = false := g0
  have HK := Lib.hid hk0
  have t0 := (gb l 0).toNat_lt
  clear hk0 hn g0
  go_enter Tryd.func24, Tryd.ntmps24
  go_wp2_with (go_at_call 37; refine (rkind_any _ _).mono ?_; rintro e w' ⟨rfl, rfl⟩; rw [HK.out])
  refine bodyPost_ret (results_tmp3 rfl _ _ _) rfl ?_
  exact RCutSt.no (k := 2) (HE.out) (by decide) (Below.refl _ _)
set_option maxRecDepth 100000 in
set_option maxHeartbeats 4000000 in
theorem rcut_bad31 (w : World) (l : List UInt8) (hn : 3 ≤ l.length) (g0 : goodB l 0 = true) (g1 : goodB l 1 = false) : Calls Tryd.prog 24 #[S l] w (RCutSt w l) := by
  have HE := Lib.hid (show cutE l = 2 from cutE_form (formB_bad (i := 1) (by decide) (by omega) g1))
  have p0 : (0 : Int) < (l.length : Int) := by omega
  have q0 : 0 < l.length := by omega
  have p1 : (1 : Int) < (l.length : Int) := by omega
  have q1 : 1 < l.length := by omega
  have p2 : (2 : Int) < (l.length : Int) := by omega
  have q2 : 2 < l.length := by omega
  have hk0 : kindB ((gb l 0).toNat : Int) = true := g0
  have HK := Lib.hid hk0
  have t0 := (gb l 0).toNat_lt
  have y1 : ¬ ((gb l 1).toNat : Int) = 3 := by
    intro e
    have : gb l 1 = 3 := UInt8.toNat_inj.1 (by have h2 : (3 : UInt8).toNat = 3 := rfl; omega)
    have g : (gb l 1 == 3) = false := g1
    rw [this] at g
    cases g
  clear hk0 hn g0 g1
  go_enter Tryd.func24, Tryd.ntmps24
  go_wp2_with (go_at_call 37; refine (rkind_any _ _).mono ?_; rintro e w' ⟨rfl, rfl⟩; rw [HK.out])
  refine bodyPost_ret (results_tmp3 rfl _ _ _) rfl ?_
  exact RCutSt.no (k := 2) (HE.out) (by decide) (Below.refl _ _)
set_option maxRecDepth 100000 in
set_option maxHeartbeats 4000000 in
theorem rcut_bad32 (w : World) (l : List UInt8) (hn : 3 ≤ l.length) (g0 : goodB l 0 = true) (g1 : goodB l 1 = true) (g2 : goodB l 2 = false) : Calls Tryd.prog 24 #[S l] w (RCutSt w l) := by
  have HE := Lib.hid (show cutE l = 2 from cutE_form (formB_bad (i := 2) (by decide) (by omega) g2))
  have p0 : (0 : Int) < (l.length : Int) := by omega
  have q0 : 0 < l.length := by omega
  have p1 : (1 : Int) < (l.length : Int) := by omega
  have q1 : 1 < l.length := by omega
  have p2 : (2 : Int) < (l.length : Int) := by omega
  have q2 : 2 < l.length := by omega
  have hk0 : kindB ((gb l 0).toNat : Int) = true := g0
  have HK := Lib.hid hk0
  have t0 := (gb l 0).toNat_lt
  have y1 : ((gb l 1).toNat : Int) = 3 := by
    have g : (gb l 1 == 3) = true := g1
    rw [beq_iff_eq.1 g]; rfl
  have y2 : ¬ ((gb l 2).toNat : Int) = 3 := by
    intro e
    have : gb l 2 = 3 := UInt8.toNat_inj.1 (by have h2 : (3 : UInt8).toNat = 3 := rfl; omega)
    have g : (gb l 2 == 3) = false := g2
    rw [this] at g
    cases g
  clear hk0 hn g0 g1 g2
  go_enter Tryd.func24, Tryd.ntmps24
  go_wp2_with (go_at_call 37; refine (rkind_any _ _).mono ?_; rintro e w' ⟨rfl, rfl⟩; rw [HK.out])
  refine bodyPost_ret (results_tmp3 rfl _ _ _) rfl ?_
  exact RCutSt.no (k := 2) (HE.out) (by decide) (Below.refl _ _)
set_option maxRecDepth 100000 in
set_option maxHeartbeats 4000000 in
theorem rcut_short0 (w : World) (l : List UInt8) (hn : l.length = 0) (hf : formB l = true) : Calls Tryd.prog 24 #[S l] w (RCutSt w l) := by
  have HE := Lib.hid (show cutE l = 3 from cutE_short hf (by omega))
  have p0 : ¬ (0 : Int) < (l.length : Int) := by omega
  have p1 : ¬ (1 : Int) < (l.length : Int) := by omega
  have p2 : ¬ (2 : Int) < (l.length : Int) := by omega
  have p5 : (l.length : Int) < 5 := by omega
  clear hn hf
  go_enter Tryd.func24, Tryd.ntmps24
  go_wp2_with fail
  refine bodyPost_ret (results_tmp3 rfl _ _ _) rfl ?_
  exact RCutSt.no (k := 3) (HE.out) (by decide) (Below.refl _ _)
set_option maxRecDepth 100000 in
set_option maxHeartbeats 4000000 in
theorem rcut_short1 (w : World) (l : List UInt8) (hn : l.length = 1) (hf : formB l = true) : Calls Tryd.prog 24 #[S l] w (RCutSt w l) := by
  have HE := Lib.hid (show cutE l = 3 from cutE_short hf (by omega))
  have p0 : (0 : Int) < (l.length : Int) := by omega
  have q0 : 0 < l.length := by omega
  have p1 : ¬ (1 : Int) < (l.length : Int) := by omega
  have p2 : ¬ (2 : Int) < (l.length : Int) := by omega
  have hk0 : kindB ((gb l 0).toNat : Int) = true := (formB_iff l).1 hf 0 (by decide) (by omega)
  have HK := Lib.hid hk0
  have t0 := (gb l 0).toNat_lt
  have p5 : (l.length : Int) < 5 := by omega
  clear hn hf hk0
  go_enter Tryd.func24, Tryd.ntmps24
  go_wp2_with (go_at_call 37; refine (rkind_any _ _).mono ?_; rintro e w' ⟨rfl, rfl⟩; rw [HK.out])
  refine bodyPost_ret (results_tmp3 rfl _ _ _) rfl ?_
  exact RCutSt.no (k := 3) (HE.out) (by decide) (Below.refl _ _)
set_option maxRecDepth 100000 in
set_option maxHeartbeats 4000000 in
theorem rcut_short2 (w : World) (l : List UInt8) (hn : l.length = 2) (hf : formB l = true) : Calls Tryd.prog 24 #[S l] w (RCutSt w l) := by
  have HE := Lib.hid (show cutE l = 3 from cutE_short hf (by omega))
  have p0 : (0 : Int) < (l.length : Int) := by omega
  have q0 : 0 < l.length := by omega
  have p1 : (1 : Int) < (l.length : Int) := by omega
  have q1 : 1 < l.length := by omega
  have p2 : ¬ (2 : Int) < (l.length : Int) := by omega
  have hk0 : kindB ((gb l 0).toNat : Int) = true := (formB_iff l).1 hf 0 (by decide) (by omega)
  have HK := Lib.hid hk0
  have t0 := (gb l 0).toNat_lt
  have y1 : ((gb l 1).toNat : Int) = 3 := by
    have g : (gb l 1 == 3) = true := (formB_iff l).1 hf 1 (by decide) (by omega)
    rw [beq_iff_eq.1 g]; rfl
  have p5 : (l.length : Int) < 5 := by omega
  clear hn hf hk0
  go_enter Tryd.func24, Tryd.ntmps24
  go_wp2_with (go_at_call 37; refine (rkind_any _ _).mono ?_; rintro e w' ⟨rfl, rfl⟩; rw [HK.out])
  refine bodyPost_ret (results_tmp3 rfl _ _ _) rfl ?_
  exact RCutSt.no (k := 3) (HE.out) (by decide) (Below.refl _ _)
set_option maxRecDepth 100000 in
set_option maxHeartbeats 4000000 in
theorem rcut_short3 (w : World) (l : List UInt8) (hn : 3 ≤ l.length) (hf : formB l = true) (h5 : l.length < 5) : Calls Tryd.prog 24 #[S l] w (RCutSt w l) := by
  have HE := Lib.hid (show cutE l = 3 from cutE_short hf (by omega))
  have p0 : (0 : Int) < (l.length : Int) := by omega
  have q0 : 0 < l.length := by omega
  have p1 : (1 : Int) < (l.length : Int) := by omega
  have q1 : 1 < l.length := by omega
  have p2 : (2 : Int) < (l.length : Int) := by omega
  have q2 : 2 < l.length := by omega
  have hk0 : kindB ((gb l 0).toNat : Int) = true := (formB_iff l).1 hf 0 (by decide) (by omega)
  have HK := Lib.hid hk0
  have t0 := (gb l 0).toNat_lt
  have y1 : ((gb l 1).toNat : Int) = 3 := by
    have g : (gb l 1 == 3) = true := (formB_iff l).1 hf 1 (by decide) (by omega)
    rw [beq_iff_eq.1 g]; rfl
  have y2 : ((gb l 2).toNat : Int) = 3 := by
    have g : (gb l 2 == 3) = true := (formB_iff l).1 hf 2 (by decide) (by omega)
    rw [beq_iff_eq.1 g]; rfl
  have p5 : (l.length : Int) < 5 := by omega
  clear hn hf hk0 h5
  go_enter Tryd.func24, Tryd.ntmps24
  go_wp2_with (go_at_call 37; refine (rkind_any _ _).mono ?_; rintro e w' ⟨rfl, rfl⟩; rw [HK.out])
  refine bodyPost_ret (results_tmp3 rfl _ _ _) rfl ?_
  exact RCutSt.no (k := 3) (HE.out) (by decide) (Below.refl _ _)
set_option maxRecDepth 100000 in
set_option maxHeartbeats 4000000 in
theorem rcut_big (w : World) (l : List UInt8) (h5 : 5 ≤ l.length) (hf : formB l = true) (hb : 16640 < cutN l) : Calls Tryd.prog 24 #[S l] w (RCutSt w l) := by
  have hn : 3 ≤ l.length := by omega
  have HE := Lib.hid (show cutE l = 4 from cutE_big hf h5 hb)
  have p0 : (0 : Int) < (l.length : Int) := by omega
  have q0 : 0 < l.length := by omega
  have p1 : (1 : Int) < (l.length : Int) := by omega
  have q1 : 1 < l.length := by omega
  have p2 : (2 : Int) < (l.length : Int) := by omega
  have q2 : 2 < l.length := by omega
  have hk0 : kindB ((gb l 0).toNat : Int) = true := (formB_iff l).1 hf 0 (by decide) (by omega)
  have HK := Lib.hid hk0
  have t0 := (gb l 0).toNat_lt
  have y1 : ((gb l 1).toNat : Int) = 3 := by
    have g : (gb l 1 == 3) = true := (formB_iff l).1 hf 1 (by decide) (by omega)
    rw [beq_iff_eq.1 g]; rfl
  have y2 : ((gb l 2).toNat : Int) = 3 := by
    have g : (gb l 2 == 3) = true := (formB_iff l).1 hf 2 (by decide) (by omega)
    rw [beq_iff_eq.1 g]; rfl
  have p5 : ¬ (l.length : Int) < 5 := by omega
  have p3 : (3 : Int) < (l.length : Int) := by omega
  have p4 : (4 : Int) < (l.length : Int) := by omega
  have q3 : 3 < l.length := by omega
  have q4 : 4 < l.length := by omega
  obtain ⟨N, hN⟩ : ∃ N, N = cutN l := ⟨_, rfl⟩
  have hN' : ((gb l 3).toNat : Int) * 256 + ((gb l 4).toNat : Int) = (N : Int) := by rw [hN, cutN]; omega
  have HN := Lib.hid hN
  have n0 : (N : Int) ≤ 65535 := by have := (gb l 3).toNat_lt; have := (gb l 4).toNat_lt; omega
  have t3 := (gb l 3).toNat_lt
  have t4 := (gb l 4).toNat_lt
  rw [← hN] at hb
  have n1 : (16640 : Int) < (N : Int) := by omega
  clear hn hf hk0 h5 hb hN
  go_enter Tryd.func24, Tryd.ntmps24
  go_upto_region 5 with (go_at_call 37; refine (rkind_any _ _).mono ?_; rintro e w' ⟨rfl, rfl⟩; rw [HK.out])
  refine wp_region_qtail (fun w' => w' = _) 8 (by kernel_rfl) (by kernel_rfl) rfl ?_
  simp only [List.take_succ_cons, List.take_zero, List.drop_succ_cons, List.drop_zero]
  repeat (first | go_big_quiet_skip | (go_big_quiet_want; go_big_quiet_op; go_big_quiet_on))
  refine wpQuiet_nil ?_
  rintro _ rfl
  go_wp2_with fail
  refine bodyPost_ret (results_tmp3 rfl _ _ _) rfl ?_
  exact RCutSt.no (k := 4) (HE.out) (by decide) (Below.refl _ _).drew
set_option maxRecDepth 100000 in
set_option maxHeartbeats 4000000 in
theorem rcut_tail (w : World) (l : List UInt8) (h5 : 5 ≤ l.length) (hf : formB l = true) (hb : cutN l ≤ 16640) (ht : l.length < 5 + cutN l) : Calls Tryd.prog 24 #[S l] w (RCutSt w l) := by
  have hn : 3 ≤ l.length := by omega
  have HE := Lib.hid (show cutE l = 3 from cutE_tail hf h5 hb ht)
  have p0 : (0 : Int) < (l.length : Int) := by omega
  have q0 : 0 < l.length := by omega
  have p1 : (1 : Int) < (l.length : Int) := by omega
  have q1 : 1 < l.length := by omega
  have p2 : (2 : Int) < (l.length : Int) := by omega
  have q2 : 2 < l.length := by omega
  have hk0 : kindB ((gb l 0).toNat : Int) = true := (formB_iff l).1 hf 0 (by decide) (by omega)
  have HK := Lib.hid hk0
  have t0 := (gb l 0).toNat_lt
  have y1 : ((gb l 1).toNat : Int) = 3 := by
    have g : (gb l 1 == 3) = true := (formB_iff l).1 hf 1 (by decide) (by omega)
    rw [beq_iff_eq.1 g]; rfl
  have y2 : ((gb l 2).toNat : Int) = 3 := by
    have g : (gb l 2 == 3) = true := (formB_iff l).1 hf 2 (by decide) (by omega)
    rw [beq_iff_eq.1 g]; rfl
  have p5 : ¬ (l.length : Int) < 5 := by omega
  have p3 : (3 : Int) < (l.length : Int) := by omega
  have p4 : (4 : Int) < (l.length : Int) := by omega
  have q3 : 3 < l.length := by omega
  have q4 : 4 < l.length := by omega
  obtain ⟨N, hN⟩ : ∃ N, N = cutN l := ⟨_, rfl⟩
  have hN' : ((gb l 3).toNat : Int) * 256 + ((gb l 4).toNat : Int) = (N : Int) := by rw [hN, cutN]; omega
  have HN := Lib.hid hN
  have n0 : (N : Int) ≤ 65535 := by have := (gb l 3).toNat_lt; have := (gb l 4).toNat_lt; omega
  have t3 := (gb l 3).toNat_lt
  have t4 := (gb l 4).toNat_lt
  rw [← hN] at hb ht
  have n1 : ¬ (16640 : Int) < (N : Int) := by omega
  have n2 : ((l.length : Int) - 5) < (N : Int) := by omega
  clear hn hf hk0 h5 hb hN ht
  go_enter Tryd.func24, Tryd.ntmps24
  go_upto_region 5 with (go_at_call 37; refine (rkind_any _ _).mono ?_; rintro e w' ⟨rfl, rfl⟩; rw [HK.out])
  refine wp_region_qtail (fun w' => w' = _) 8 (by kernel_rfl) (by kernel_rfl) rfl ?_
  simp only [List.take_succ_cons, List.take_zero, List.drop_succ_cons, List.drop_zero]
  repeat (first | go_big_quiet_skip | (go_big_quiet_want; go_big_quiet_op; go_big_quiet_on))
  refine wpQuiet_nil ?_
  rintro _ rfl
  go_wp2_with fail
  refine bodyPost_ret (results_tmp3 rfl _ _ _) rfl ?_
  exact RCutSt.no (k := 3) (HE.out) (by decide) (Below.refl _ _).drew
set_option maxRecDepth 100000 in
set_option maxHeartbeats 4000000 in
theorem rcut_ok (w : World) (l : List UInt8) (h5 : 5 ≤ l.length) (hf : formB l = true) (hb : cutN l ≤ 16640) (ht : 5 + cutN l ≤ l.length) (hl : l.length ≤ 1000000) : Calls Tryd.prog 24 #[S l] w (RCutSt w l) := by
  have hn : 3 ≤ l.length := by omega
  have HE := Lib.hid (show cutE l = 0 from cutE_ok hf hb ht)
  have p0 : (0 : Int) < (l.length : Int) := by omega
  have q0 : 0 < l.length := by omega
  have p1 : (1 : Int) < (l.length : Int) := by omega
  have q1 : 1 < l.length := by omega
  have p2 : (2 : Int) < (l.length : Int) := by omega
  have q2 : 2 < l.length := by omega
  have hk0 : kindB ((gb l 0).toNat : Int) = true := (formB_iff l).1 hf 0 (by decide) (by omega)
  have HK := Lib.hid hk0
  have t0 := (gb l 0).toNat_lt
  have y1 : ((gb l 1).toNat : Int) = 3 := by
    have g : (gb l 1 == 3) = true := (formB_iff l).1 hf 1 (by decide) (by omega)
    rw [beq_iff_eq.1 g]; rfl
  have y2 : ((gb l 2).toNat : Int) = 3 := by
    have g : (gb l 2 == 3) = true := (formB_iff l).1 hf 2 (by decide) (by omega)
    rw [beq_iff_eq.1 g]; rfl
  have p5 : ¬ (l.length : Int) < 5 := by omega
  have p3 : (3 : Int) < (l.length : Int) := by omega
  have p4 : (4 : Int) < (l.length : Int) := by omega
  have q3 : 3 < l.length := by omega
  have q4 : 4 < l.length := by omega
  obtain ⟨N, hN⟩ : ∃ N, N = cutN l := ⟨_, rfl⟩
  have hN' : ((gb l 3).toNat : Int) * 256 + ((gb l 4).toNat : Int) = (N : Int) := by rw [hN, cutN]; omega
  have HN := Lib.hid hN
  have n0 : (N : Int) ≤ 65535 := by have := (gb l 3).toNat_lt; have := (gb l 4).toNat_lt; omega
  have t3 := (gb l 3).toNat_lt
  have t4 := (gb l 4).toNat_lt
  rw [← hN] at hb ht
  have n1 : ¬ (16640 : Int) < (N : Int) := by omega
  have n2 : ¬ ((l.length : Int) - 5) < (N : Int) := by omega
  obtain ⟨T, hT⟩ : ∃ T, T = 5 + N := ⟨_, rfl⟩
  have n3 : (5 : Int) + (N : Int) = (T : Int) := by omega
  have n4 : (T : Int) ≤ (l.length : Int) := by omega
  have n5 : (0 : Int) ≤ (T : Int) := by omega
  have n6 : T ≤ l.length := by omega
  have n7 : (l.length : Int) ≤ 1000000 := by omega
  have HT := Lib.hid hT
  clear hn hf hk0 h5 hb hN ht hT hl
  go_enter Tryd.func24, Tryd.ntmps24
  go_upto_region 5 with (go_at_call 37; refine (rkind_any _ _).mono ?_; rintro e w' ⟨rfl, rfl⟩; rw [HK.out])
  refine wp_region_qtail (fun w' => w' = _) 8 (by kernel_rfl) (by kernel_rfl) rfl ?_
  simp only [List.take_succ_cons, List.take_zero, List.drop_succ_cons, List.drop_zero]
  repeat (first | go_big_quiet_skip | (go_big_quiet_want; go_big_quiet_op; go_big_quiet_on))
  refine wpQuiet_nil ?_
  rintro _ rfl
  go_upto_region 10 with (fail)
  refine wp_region_qtail (fun w' => w' = _) 10 (by kernel_rfl) (by kernel_rfl) rfl ?_
  simp only [List.take_succ_cons, List.take_zero, List.drop_succ_cons, List.drop_zero]
  repeat (first | go_big_quiet_skip | (go_big_quiet_want; go_big_quiet_op; go_big_quiet_on))
  refine wpQuiet_nil ?_
  rintro _ rfl
  go_wp2_with fail
  refine bodyPost_ret (results_tmp3 rfl _ _ _) rfl ?_
  exact RCutSt.ok (T := T) HE.out (by rw [HT.out, HN.out]) rfl (List.take_of_length_le (by rw [List.length_drop]; exact Nat.le_refl _)) ((Below.refl _ _).drew).drew
theorem rcut_any (w : World) (l : List UInt8) (hl : l.length ≤ 1000000) : Calls Tryd.prog 24 #[S l] w (RCutSt w l) := by
  cases hf : formB l with
  | false =>
    have hb : ¬ ∀ i, i < 3 → i < l.length → goodB l i = true := fun h => by rw [(formB_iff l).2 h] at hf; cases hf
    have G : ∀ i, goodB l i = true ∨ goodB l i = false := fun i => by cases goodB l i <;> simp
    by_cases n0 : l.length = 0
    · exact absurd (fun i _ h => by omega) hb
    rcases G 0 with g0 | g0
    · by_cases n1 : l.length = 1
      · exact absurd (fun i _ h => by rw [show i = 0 by omega]; exact g0) hb
      rcases G 1 with g1 | g1
      · by_cases n2 : l.length = 2
        · exact absurd (fun i _ h => by
            have : i = 0 ∨ i = 1 := by omega
            rcases this with rfl | rfl
            · exact g0
            · exact g1) hb
        rcases G 2 with g2 | g2
        · exact absurd (fun i h3 h => by
            have : i = 0 ∨ i = 1 ∨ i = 2 := by omega
            rcases this with rfl | rfl | rfl
            · exact g0
            · exact g1
            · exact g2) hb
        · exact rcut_bad32 w l (by omega) g0 g1 g2
      · by_cases n2 : l.length = 2
        · exact rcut_bad21 w l n2 g0 g1
        · exact rcut_bad31 w l (by omega) g0 g1
    · by_cases n1 : l.length = 1
      · exact rcut_bad10 w l n1 g0
      by_cases n2 : l.length = 2
      · exact rcut_bad20 w l n2 g0
      · exact rcut_bad30 w l (by omega) g0
  | true =>
    by_cases n0 : l.length = 0
    · exact rcut_short0 w l n0 hf
    by_cases n1 : l.length = 1
    · exact rcut_short1 w l n1 hf
    by_cases n2 : l.length = 2
    · exact rcut_short2 w l n2 hf
    by_cases h5 : l.length < 5
    · exact rcut_short3 w l (by omega) hf h5
    by_cases hb : 16640 < cutN l
    · exact rcut_big w l (by omega) hf hb
    by_cases ht : l.length < 5 + cutN l
    · exact rcut_tail w l (by omega) hf (by omega) ht
    · exact rcut_ok w l (by omega) hf (by omega) (by omega) hl
def RBodySt (w : World) (l : List UInt8) (e : Ending) (w' : World) : Prop :=
  e = .returned (.tuple #[.int .i64 (bodK l : Int), S (bodB l), .int .i64 (bodE l : Int)]) ∧ Below w.heap.size w w'
theorem RBodySt.no {w w' : World} {l : List UInt8} {k : Nat} (hk : bodE l = k) (h0 : k ≠ 0) (hb : Below w.heap.size w w') : RBodySt w l (.returned (.tuple #[.int .i64 0, S [], .int .i64 (k : Int)])) w' := by
  have h1 : bodE l ≠ 0 := by rw [hk]; exact h0
  refine ⟨?_, hb⟩
  rw [hk, bodK, if_neg h1, bodB, if_neg h1]
  rfl
theorem RBodySt.ok {w w' : World} {l l1 : List UInt8} (h0 : bodE l = 0) (h1 : l1 = l.drop 5) (hb : Below w.heap.size w w') : RBodySt w l (.returned (.tuple #[.int .i64 ((gb l 0).toNat : Int), S l1, .int .i64 0])) w' := by
  subst h1
  refine ⟨?_, hb⟩
  rw [h0, bodK, if_pos h0, bodB, if_pos h0]
  rfl
end Go.Proofs.YtcfbiafedfkbhaaDoor
