/- The walk of mac's Same. -/
import Derived.Test.YtjopgogaipkdbaaQuiet
import Derived.Test.YtjopgogaipkdbaaGcmA
namespace Go.Proofs.Ytjopgogaipkdbaa
open Go.RowKit

def orB (a b : UInt8) : UInt8 := a ||| b
theorem bq_or8 (a b : UInt8) : bits .or .u8 (a.toNat : Int) (b.toNat : Int) = ((orB a b).toNat : Int) := by
  rw [u8_or_nat _ _ a.toNat_lt b.toNat_lt, orB, UInt8.toNat_or]
attribute [local go_sem] bq_or8
theorem or_zero (a b : UInt8) : orB a b = 0 ↔ a = 0 ∧ b = 0 := by
  rw [orB, ← UInt8.toNat_inj, ← UInt8.toNat_inj, ← UInt8.toNat_inj, UInt8.toNat_or]
  exact Nat.or_eq_zero_iff
theorem xr_zeq (a b : UInt8) : xr a b = 0 ↔ a = b := by rw [xr]; exact UInt8.xor_eq_zero_iff
def difB (x y : List UInt8) : Nat → UInt8
  | 0 => 0
  | k + 1 => orB (difB x y k) (xr (gb x k) (gb y k))
theorem difB_zero (x y : List UInt8) (k : Nat) : difB x y k = 0 ↔ ∀ i, i < k → gb x i = gb y i := by
  induction k with
  | zero => exact ⟨fun _ i hi => absurd hi (by omega), fun _ => rfl⟩
  | succ k ih =>
    rw [difB, or_zero, xr_zeq, ih]
    constructor
    · rintro ⟨h1, h2⟩ i hi
      by_cases e : i = k
      · subst e; exact h2
      · exact h1 i (by omega)
    · intro h
      exact ⟨fun i hi => h i (by omega), h k (by omega)⟩
theorem difB_eq (x y : List UInt8) (h : x.length = y.length) : (difB x y x.length = 0) ↔ x = y := by
  rw [difB_zero]
  exact ⟨fun e => gb_ext h fun i hi => e i (by omega), fun e i _ => by rw [e]⟩
set_option maxRecDepth 100000 in
set_option maxHeartbeats 2000000 in
theorem same_any (va vb : Value) (x y : List UInt8) (w : World) (ha : SlB w va x) (hb : SlB w vb y) (hxl : x.length = 16) (hyl : y.length = 16) :
    Calls Try.prog 51 #[va, vb] w fun e w' => e = .returned (.bool (decide (x = y))) ∧ Below w.heap.size w w' := by
  obtain ⟨b1, o1, p1, rfl, hc1, hm1, hb1, hx1⟩ := ha.addr (by omega)
  obtain ⟨b2, o2, p2, rfl, hc2, hm2, hb2, hx2⟩ := hb.addr (by omega)
  have hfin := difB_eq x y (by omega)
  rw [hxl] at hc1 hx1 hfin ⊢
  rw [hyl] at hc2 hx2 ⊢
  have HX1 := Lib.hid hx1
  have HX2 := Lib.hid hx2
  have HF := Lib.hid hfin
  clear ha hb hx1 hx2 hfin hxl hyl
  go_enter Try.func51, Try.ntmps51
  go_wp2_with fail
  go_loopg [5, 14] 16 (fun m dv iv wr => ∃ k : Nat, m + k = 16 ∧ iv = .int .i64 (k : Int) ∧ dv = B (difB x y k) ∧ Below w.heap.size w wr)
  case atStart => exact ⟨0, by omega, rfl, rfl, Below.refl _ _⟩
  case round =>
    obtain ⟨k, hk, rfl, rfl, hB⟩ := hrel
    by_cases hk16 : k < 16
    · have c1 : (k : Int) < 16 := by omega
      have x1 : wr.cell? ⟨b1, o1 + k, none⟩ = some (B (gb x k)) := (hB.cell hb1).trans (HX1.out k hk16)
      have x2 : wr.cell? ⟨b2, o2 + k, none⟩ = some (B (gb y k)) := (hB.cell hb2).trans (HX2.out k hk16)
      have hst : orB (difB x y k) (xr (gb x k) (gb y k)) = difB x y (k + 1) := rfl
      have HST := Lib.hid hst
      obtain ⟨d, hd⟩ : ∃ d, d = difB x y k := ⟨_, rfl⟩
      rw [← hd]
      rw [← hd] at HST
      clear hst hd
      go_wp2_with fail
      refine wp_region_qtail (fun w' => w' = _) 10 (by kernel_rfl) (by kernel_rfl) rfl ?_
      simp only [List.take_succ_cons, List.take_zero, List.drop_succ_cons, List.drop_zero]
      repeat (first | go_big_quiet_skip | (go_big_quiet_want; go_big_quiet_op; go_big_quiet_on))
      refine wpQuiet_nil ?_
      rintro _ rfl
      go_wp2_with fail
      go_roundg (gk - 1)
      case measure => omega
      case rel => exact ⟨k + 1, by omega, by go_num, by rw [← HST.out], hB.drew⟩
    · obtain rfl : k = 16 := by omega
      obtain ⟨d, hd⟩ : ∃ d, d = difB x y 16 := ⟨_, rfl⟩
      have hfin : ((d.toNat : Int) == 0) = decide (x = y) := by
        rw [Bool.eq_iff_iff, beq_iff_eq, decide_eq_true_eq, ← HF.out, ← hd, ← UInt8.toNat_inj]
        simp
      have HFI := Lib.hid hfin
      rw [← hd]
      clear hd hfin
      go_wp2_with fail
      rw [HFI.out]
      go_ret
      exact ⟨rfl, hB⟩
end Go.Proofs.Ytjopgogaipkdbaa
