/- The walks of gcm's element: add, of, bytes, times. -/
import Derived.Test.YtjopgogaipkdbaaBlockA
import Derived.Test.YtjopgogaipkdbaaQuiet
import Derived.Test.YtjopgogaipkdbaaNewSpec
import Derived.Test.YtjopgogaipkdbaaGcmSpec
import Derived.Deep.LoopGhost
import Derived.Deep.DeepCutAuto
namespace Go.Proofs.Ytjopgogaipkdbaa
open Go.RowKit

set_option maxRecDepth 100000 in
set_option maxHeartbeats 2000000 in
theorem gadd_any (a b c d : UInt64) (w : World) : Calls Try.prog 46 #[.agg #[Q a, Q b], .agg #[Q c, Q d]] w fun e w' => e = .returned (.agg #[Q (xq a c), Q (xq b d)]) ∧ Below w.heap.size w w' := by
  go_enter Try.func46, Try.ntmps46
  go_wp2_with fail
  refine ret_row (.inl rfl) rfl (w.heap.size + 1 + 1) _ _ 2 _ rfl ((Row.newAt _ _ _ _ (by simp)).setRow _) Try.underlying76 rfl (by kernel_rfl) rfl ⟨rfl, ?_⟩
  exact bSetRow (((((Below.refl _ w).alloc (Nat.le_refl _) _).alloc (by simp) _)).alloc (by simp <;> omega) _) (by omega) _

set_option maxRecDepth 100000 in
set_option maxHeartbeats 2000000 in
theorem gof_any (v : Value) (l : List UInt8) (w : World) (hv : SlB w v l) (hl : l.length = 16) : Calls Try.prog 44 #[v] w fun e w' => e = .returned (.agg #[Q (hiQ l), Q (loQ l)]) ∧ Below w.heap.size w w' := by
  obtain ⟨b, o, cap, rfl, hcap, hmax, hb, hcell⟩ := hv.addr (by omega)
  rw [hl] at hcap ⊢
  have HL := Lib.hid hl
  clear hl
  go_enter Try.func44, Try.ntmps44
  go_wp2_with fail
  go_loopg [4, 5] 8 (fun n jv iv wr => ∃ k : Nat, n + k = 8 ∧ iv = .int .i64 k ∧ Row wr (w.heap.size + 1) 76 #[Q (upQ l k), Q (upQ (l.drop 8) k)] ∧ RowN wr w.heap.size 76 2 ∧ Below w.heap.size w wr)
  case atStart =>
    exact ⟨0, by omega, rfl, Row.newAt _ _ _ _ (by simp), (RowN.newAt _ _ _ _ rfl).alloc _, (((Below.refl _ w).alloc (Nat.le_refl _) _).alloc (by simp) _)⟩
  case round =>
    obtain ⟨k, hk, rfl, h1, h2, hB⟩ := hrel
    have l1 := h1.lt
    have l2 := h2.lt
    by_cases hk8 : k < 8
    · have b1 : (k : Int) < 8 := by omega
      obtain ⟨c1, hc1'⟩ : ∃ c, c = gb l k := ⟨_, rfl⟩
      obtain ⟨c2, hc2'⟩ : ∃ c, c = gb l (k + 8) := ⟨_, rfl⟩
      have hc1 : wr.cell? ⟨b, o + k, none⟩ = some (B c1) := by rw [hc1']; exact (hB.cell hb).trans (hcell k (by rw [HL.out]; omega))
      have hc2 : wr.cell? ⟨b, o + (k + 8), none⟩ = some (B c2) := by rw [hc2']; exact (hB.cell hb).trans (hcell (k + 8) (by rw [HL.out]; omega))
      obtain ⟨x, hx⟩ : ∃ x, x = upQ l k := ⟨_, rfl⟩
      obtain ⟨y, hy⟩ : ∃ y, y = upQ (l.drop 8) k := ⟨_, rfl⟩
      rw [← hx, ← hy] at h1
      have ex : sho x c1 = upQ l (k + 1) := by rw [hx, hc1', upQ_step l k (by rw [HL.out]; omega) hk8]
      have ey : sho y c2 = upQ (l.drop 8) (k + 1) := by
        rw [hy, hc2', ← upQ_step (l.drop 8) k (by rw [List.length_drop, HL.out]; omega) hk8]
        congr 1
        simp [gb, Nat.add_comm]
      have EX := Lib.hid ex
      have EY := Lib.hid ey
      have hne : b ≠ w.heap.size + 1 := by omega
      clear hx hy ex ey hc1' hc2'
      go_wp2_with fail
      refine wp_region_qtail (fun w' => w' = _) 10 (by kernel_rfl) (by kernel_rfl) rfl ?_
      simp only [List.take_succ_cons, List.take_zero, List.drop_succ_cons, List.drop_zero]
      repeat (first | go_big_quiet_skip | (go_big_quiet_want; go_big_quiet_op; go_big_quiet_on))
      refine wpQuiet_nil ?_
      rintro _ rfl
      go_wp2_with fail
      refine wp_region_qtail (fun w' => w' = _) 11 (by kernel_rfl) (by kernel_rfl) rfl ?_
      simp only [List.take_succ_cons, List.take_zero, List.drop_succ_cons, List.drop_zero]
      repeat (first | go_big_quiet_skip | (go_big_quiet_want; go_big_quiet_op; go_big_quiet_on))
      refine wpQuiet_nil ?_
      rintro _ rfl
      go_wp2_with fail
      go_roundg (gk - 1)
      case measure => omega
      case rel =>
        refine ⟨k + 1, by omega, by go_num, ?_, (h2.setOther _ _ (by simp)).setOther _ _ (by simp), (((hB.setCell (by simp) _).drew).setCell (by simp) _).drew⟩
        rw [← EX.out, ← EY.out]
        exact (h1.set 0 (Q (sho x c1))).set 1 (Q (sho y c2))
    · obtain rfl : k = 8 := by omega
      have e1 : upQ l 8 = hiQ l := rfl
      have e2 : upQ (l.drop 8) 8 = loQ l := rfl
      rw [e1, e2] at h1
      obtain ⟨z, hz, hzs⟩ := h2
      clear e1 e2
      go_wp2_with fail
      exact ret_row (.inl rfl) rfl w.heap.size _ _ 2 _ rfl (hz.setRow _) Try.underlying76 rfl (by kernel_rfl) rfl ⟨rfl, bSetRow hB (by omega) _⟩
end Go.Proofs.Ytjopgogaipkdbaa

/- The walk of gcm's bytes. -/
namespace Go.Proofs.Ytjopgogaipkdbaa
open Go.RowKit

def byQ (x : UInt64) (i : Nat) : UInt8 := UInt8.ofNat (x.toNat / 2 ^ (56 - 8 * i))
theorem byQ_wrap (x : UInt64) (i : Nat) : IntKind.u8.wrap ((x.toNat : Int) / 2 ^ (56 - 8 * i)) = ((byQ x i).toNat : Int) := by
  have e1 : ((x.toNat : Int) / 2 ^ (56 - 8 * i)) = ((x.toNat / 2 ^ (56 - 8 * i) : Nat) : Int) := by simp
  rw [e1, byQ, UInt8.toNat_ofNat']
  simp [IntKind.wrap, IntKind.bits, IntKind.signed]
def outQ (x y : UInt64) (k : Nat) : List UInt8 := tab 16 fun j => if j < k then byQ x j else if 8 ≤ j ∧ j < 8 + k then byQ y (j - 8) else 0
theorem outQ_len (x y : UInt64) (k : Nat) : (outQ x y k).length = 16 := tab_length _ _
theorem outQ_zero (x y : UInt64) : outQ x y 0 = List.replicate 16 0 := by
  have : outQ x y 0 = tab 16 fun _ => 0 := tab_congr fun i _ => by rw [if_neg (by omega), if_neg (by omega)]
  rw [this]; rfl
theorem outQ_step (x y : UInt64) (k : Nat) (hk : k < 8) : ((outQ x y k).set k (byQ x k)).set (k + 8) (byQ y k) = outQ x y (k + 1) := by
  unfold outQ
  rw [tab_set, tab_set]
  apply tab_congr
  intro i hi
  by_cases h1 : i = k + 8
  · subst h1
    rw [if_pos rfl, if_neg (by omega), if_pos (by omega), Nat.add_sub_cancel]
  · rw [if_neg h1]
    by_cases h2 : i = k
    · subst h2; rw [if_pos rfl, if_pos (by omega)]
    · rw [if_neg h2]
      by_cases h3 : i < k
      · rw [if_pos h3, if_pos (by omega)]
      · rw [if_neg h3, if_neg (show ¬ i < k + 1 by omega)]
        by_cases h4 : 8 ≤ i ∧ i < 8 + k
        · rw [if_pos h4, if_pos (by omega)]
        · rw [if_neg h4, if_neg (by omega)]
set_option maxRecDepth 100000 in
set_option maxHeartbeats 2000000 in
theorem gbytes_any (x y : UInt64) (w : World) : Calls Try.prog 48 #[.agg #[Q x, Q y]] w fun e w' => e = .returned (.agg (AB (outQ x y 8))) ∧ Below w.heap.size w w' := by
  go_enter Try.func48, Try.ntmps48
  go_wp2_with fail
  go_loopg [4, 5] 8 (fun n jv iv wr => ∃ k : Nat, n + k = 8 ∧ iv = .int .i64 k ∧ Row wr w.heap.size 76 #[Q x, Q y] ∧ RowN wr (w.heap.size + 1) 23 16 ∧ Row wr (w.heap.size + 1 + 1) 23 (AB (outQ x y k)) ∧ Below w.heap.size w wr)
  case atStart =>
    refine ⟨0, by omega, rfl, ((Row.new w _ _).alloc _).alloc _, (RowN.newAt _ _ _ _ (by simp)).alloc _, ?_, ((((Below.refl _ w).alloc (Nat.le_refl _) _).alloc (by simp) _)).alloc (by simp <;> omega) _⟩
    rw [outQ_zero]
    exact Row.newAt _ _ _ _ (by simp)
  case round =>
    obtain ⟨k, hk, rfl, h1, h2, h3, hB⟩ := hrel
    have l1 := h1.lt
    have l2 := h2.lt
    have l3 := h3.lt
    have hol := outQ_len x y k
    by_cases hk8 : k < 8
    · have b1 : (k : Int) < 8 := by omega
      obtain ⟨m, hm⟩ : ∃ m, m = 56 - 8 * k := ⟨_, rfl⟩
      have hm2 : (56 - 8 * (k : Int)).toNat = m := by omega
      have b2 : 0 ≤ 56 - 8 * (k : Int) := by omega
      have b3 : 56 - 8 * (k : Int) ≤ 64 := by omega
      have b4 : k < 16 := by omega
      have b5 : k + 8 < 16 := by omega
      have hs := outQ_step x y k hk8
      obtain ⟨bx, hbx⟩ : ∃ b, b = byQ x k := ⟨_, rfl⟩
      obtain ⟨bz, hbz⟩ : ∃ b, b = byQ y k := ⟨_, rfl⟩
      have hw1 : IntKind.u8.wrap ((x.toNat : Int) / 2 ^ m) = (bx.toNat : Int) := by rw [hm, hbx]; exact byQ_wrap x k
      have hw2 : IntKind.u8.wrap ((y.toNat : Int) / 2 ^ m) = (bz.toNat : Int) := by rw [hm, hbz]; exact byQ_wrap y k
      rw [← hbx, ← hbz] at hs
      obtain ⟨L, hL⟩ : ∃ L, L = outQ x y k := ⟨_, rfl⟩
      rw [← hL] at hs hol h3
      have HS := Lib.hid hs
      clear hm hbx hbz hL hs
      go_wp2_with fail
      go_roundg (gk - 1)
      case measure => omega
      case rel =>
        refine ⟨k + 1, by omega, by go_num, (h1.setOther _ _ (by simp; omega)).setOther _ _ (by simp; omega), (h2.setOther _ _ (by simp)).setOther _ _ (by simp), ?_, (hB.setCell (by simp; omega) _).setCell (by simp; omega) _⟩
        rw [← HS.out]
        exact (h3.setByte k _).setByte (k + 8) _
    · obtain rfl : k = 8 := by omega
      obtain ⟨z, hz, hzs⟩ := h2
      have hl16 := (AB_size (outQ x y 8)).trans hol
      go_wp2_with fail
      exact ret_row (.inl rfl) rfl (w.heap.size + 1) _ _ 16 _ rfl (hz.setRow _) Try.underlying23 rfl (by kernel_rfl) hl16 ⟨rfl, bSetRow hB (by omega) _⟩
end Go.Proofs.Ytjopgogaipkdbaa
