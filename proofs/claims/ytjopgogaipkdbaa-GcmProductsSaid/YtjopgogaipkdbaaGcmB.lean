/- The walk of gcm's bytes. -/
import Derived.Test.YtjopgogaipkdbaaGcmA
namespace Go.Proofs.Ytjopgogaipkdbaa
open Go.RowKit

def byQ (x : UInt64) (i : Nat) : UInt8 := UInt8.ofNat (x.toNat / 2 ^ (56 - 8 * i))
theorem byQ_wrap (x : UInt64) (i : Nat) : IntKind.u8.wrap ((x.toNat : Int) / 2 ^ (56 - 8 * i)) = ((byQ x i).toNat : Int) := by
  have e1 : ((x.toNat : Int) / 2 ^ (56 - 8 * i)) = ((x.toNat / 2 ^ (56 - 8 * i) : Nat) : Int) := by simp
  rw [e1, byQ, UInt8.toNat_ofNat']
  simp [IntKind.wrap, IntKind.bits, IntKind.signed]
def outQ (x y : UInt64) (k : Nat) : List UInt8 := tab 16 fun j => if j < k then byQ x j else if 8 ≤ j ∧ j < 8 + k then byQ y (j - 8) else 0
theorem outQ_len (x y : UInt64) (k : Nat) : (outQ x y k).length = 16 := tab_length _ _
theorem outQ_zero (x y : UInt64) : outQ x y 0 = List.replicate 16 0 := by
  have : outQ x y 0 = tab 16 fun _ => 0 := tab_congr fun i _ => by rw [if_neg (by omega), if_neg (by omega)]
  rw [this]; rfl
theorem outQ_step (x y : UInt64) (k : Nat) (hk : k < 8) : ((outQ x y k).set k (byQ x k)).set (k + 8) (byQ y k) = outQ x y (k + 1) := by
  unfold outQ
  rw [tab_set, tab_set]
  apply tab_congr
  intro i hi
  by_cases h1 : i = k + 8
  · subst h1
    rw [if_pos rfl, if_neg (by omega), if_pos (by omega), Nat.add_sub_cancel]
  · rw [if_neg h1]
    by_cases h2 : i = k
    · subst h2; rw [if_pos rfl, if_pos (by omega)]
    · rw [if_neg h2]
      by_cases h3 : i < k
      · rw [if_pos h3, if_pos (by omega)]
      · rw [if_neg h3, if_neg (show ¬ i < k + 1 by omega)]
        by_cases h4 : 8 ≤ i ∧ i < 8 + k
        · rw [if_pos h4, if_pos (by omega)]
        · rw [if_neg h4, if_neg (by omega)]
set_option maxRecDepth 100000 in
set_option maxHeartbeats 2000000 in
theorem gbytes_any (x y : UInt64) (w : World) : Calls Try.prog 48 #[.agg #[Q x, Q y]] w fun e w' => e = .returned (.agg (AB (outQ x y 8))) ∧ Below w.heap.size w w' := by
  go_enter Try.func48, Try.ntmps48
  go_wp2_with fail
  go_loopg [4, 5] 8 (fun n jv iv wr => ∃ k : Nat, n + k = 8 ∧ iv = .int .i64 k ∧ Row wr w.heap.size 76 #[Q x, Q y] ∧ RowN wr (w.heap.size + 1) 23 16 ∧ Row wr (w.heap.size + 1 + 1) 23 (AB (outQ x y k)) ∧ Below w.heap.size w wr)
  case atStart =>
    refine ⟨0, by omega, rfl, ((Row.new w _ _).alloc _).alloc _, (RowN.newAt _ _ _ _ (by simp)).alloc _, ?_, ((((Below.refl _ w).alloc (Nat.le_refl _) _).alloc (by simp) _)).alloc (by simp <;> omega) _⟩
    rw [outQ_zero]
    exact Row.newAt _ _ _ _ (by simp)
  case round =>
    obtain ⟨k, hk, rfl, h1, h2, h3, hB⟩ := hrel
    have l1 := h1.lt
    have l2 := h2.lt
    have l3 := h3.lt
    have hol := outQ_len x y k
    by_cases hk8 : k < 8
    · have b1 : (k : Int) < 8 := by omega
      obtain ⟨m, hm⟩ : ∃ m, m = 56 - 8 * k := ⟨_, rfl⟩
      have hm2 : (56 - 8 * (k : Int)).toNat = m := by omega
      have b2 : 0 ≤ 56 - 8 * (k : Int) := by omega
      have b3 : 56 - 8 * (k : Int) ≤ 64 := by omega
      have b4 : k < 16 := by omega
      have b5 : k + 8 < 16 := by omega
      have hs := outQ_step x y k hk8
      obtain ⟨bx, hbx⟩ : ∃ b, b = byQ x k := ⟨_, rfl⟩
      obtain ⟨bz, hbz⟩ : ∃ b, b = byQ y k := ⟨_, rfl⟩
      have hw1 : IntKind.u8.wrap ((x.toNat : Int) / 2 ^ m) = (bx.toNat : Int) := by rw [hm, hbx]; exact byQ_wrap x k
      have hw2 : IntKind.u8.wrap ((y.toNat : Int) / 2 ^ m) = (bz.toNat : Int) := by rw [hm, hbz]; exact byQ_wrap y k
      rw [← hbx, ← hbz] at hs
      obtain ⟨L, hL⟩ : ∃ L, L = outQ x y k := ⟨_, rfl⟩
      rw [← hL] at hs hol h3
      have HS := Lib.hid hs
      clear hm hbx hbz hL hs
      go_wp2_with fail
      go_roundg (gk - 1)
      case measure => omega
      case rel =>
        refine ⟨k + 1, by omega, by go_num, (h1.setOther _ _ (by simp; omega)).setOther _ _ (by simp; omega), (h2.setOther _ _ (by simp)).setOther _ _ (by simp), ?_, (hB.setCell (by simp; omega) _).setCell (by simp; omega) _⟩
        rw [← HS.out]
        exact (h3.setByte k _).setByte (k + 8) _
    · obtain rfl : k = 8 := by omega
      obtain ⟨z, hz, hzs⟩ := h2
      have hl16 := (AB_size (outQ x y 8)).trans hol
      go_wp2_with fail
      exact ret_row (.inl rfl) rfl (w.heap.size + 1) _ _ 16 _ rfl (hz.setRow _) Try.underlying23 rfl (by kernel_rfl) hl16 ⟨rfl, bSetRow hB (by omega) _⟩
end Go.Proofs.Ytjopgogaipkdbaa
