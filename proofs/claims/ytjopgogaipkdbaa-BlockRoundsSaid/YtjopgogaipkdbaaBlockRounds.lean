/- tollgatelaw04.BlockRounds: of all keys of 32 bytes, all blocks and all counts the law returns true and changes nothing that was there: a block that is turned so often is turned back as often. No conditions. -/
import Derived.Test.YtjopgogaipkdbaaLawKit
import Derived.Test.YtjopgogaipkdbaaDoor
namespace Go.Proofs.Ytjopgogaipkdbaa
open Go.RowKit

/-- So often turned. -/
def sealR (W b : List UInt8) : Nat → List UInt8
  | 0 => b
  | n + 1 => sealN W 14 (sealR W b n) 14
theorem sealR_len (W b : List UInt8) (hb : b.length = 16) (n : Nat) : (sealR W b n).length = 16 := by
  cases n with
  | zero => exact hb
  | succ n => exact sealN_len _ _ _ _
theorem sealR_back (W b : List UInt8) (hb : b.length = 16) (n : Nat) : openD W 14 14 (sealR W b (n + 1)) = sealR W b n :=
  openD_sealN W 14 _ (sealR_len W b hb n) 14

theorem rem30 (n : Int) : ∃ m : Nat, IntKind.i64.wrap ((IntKind.u64.wrap n).tmod 30) = (m : Int) ∧ m ≤ 30 := by
  have h0 := wrap_u64_nonneg n
  rw [Int.tmod_eq_emod_of_nonneg h0]
  have h1 := Int.emod_nonneg (IntKind.u64.wrap n) (show (30 : Int) ≠ 0 by omega)
  have h2 := Int.emod_lt_of_pos (IntKind.u64.wrap n) (show (0 : Int) < 30 by omega)
  refine ⟨(IntKind.u64.wrap n % 30).toNat, ?_, by omega⟩
  rw [Int.toNat_of_nonneg h1]
  exact IntWalk.i64_in _ (by omega)

set_option maxRecDepth 100000 in
set_option maxHeartbeats 4000000 in
theorem blockRounds_walk (k b : List UInt8) (n : Int) (hk : k.length = 32) (hb : b.length = 16) (_hn : (Lit.int .i64 n).wf = true) (w : World) :
    Calls Try.prog 6 #[.agg (AB k), .agg (AB b), .int .i64 n] w fun e w' => e = .returned (.bool true) ∧ Below w.heap.size w w' := by
  go_enter Try.func6, Try.ntmps6
  go_wp2_with fail
  obtain ⟨w1, hw1⟩ : ∃ w1, w1 = (w.alloc (.cells (AB k) 22)).alloc (.cells (AB b) 23) := ⟨_, rfl⟩
  rw [← hw1]
  have hs1 : w1.heap.size = w.heap.size + 2 := by rw [hw1]; simp
  have hK1 : Row w1 w.heap.size 22 (AB k) := by rw [hw1]; exact (Row.new w _ _).alloc _
  have hB1 : Row w1 (w.heap.size + 1) 23 (AB b) := by rw [hw1]; exact Row.newAt _ _ _ _ (by simp)
  have hb1 : Below w.heap.size w w1 := by rw [hw1]; exact ((Below.refl _ w).alloc (Nat.le_refl _) _).alloc (by simp) _
  clear hw1
  refine (new_ok32 _ _ _ (SlB.of_row hK1 hk (by decide)) hk).mono ?_
  rintro e w2 ⟨p, rfl, hK, hb2⟩
  obtain ⟨kb, rfl⟩ : ∃ kb, p = .pointer (some ⟨kb, 0, none⟩) := (let ⟨kb, _, _, _, h, _⟩ := hK; ⟨kb, h⟩)
  have hB2 := hB1.below hb2 (by omega)
  have hbw := hb1.trans (hb2.mono (by omega))
  have hs2 := hb2.size
  have lb : w.heap.size + 1 < w2.heap.size := by omega
  clear hb1 hb2 hB1 hK1 hs1 hs2
  obtain ⟨W, hW⟩ : ∃ W, W = expand k := ⟨_, rfl⟩
  rw [← hW] at hK
  clear hW
  go_wp2_with fail
  obtain ⟨m, hm, hm30⟩ := rem30 n
  rw [show RowKit.wrap64 ((IntKind.u64.wrap n).tmod 30) = (m : Int) by unfold RowKit.wrap64; rw [← hm, IntKind.wrap_i64]]
  clear hm
  obtain ⟨c, hc⟩ : ∃ c, c = w2.heap.size := ⟨_, rfl⟩
  obtain ⟨w3, hw3⟩ : ∃ w3, w3 = (w2.alloc (.cells #[.int .u8 0, .int .u8 0, .int .u8 0, .int .u8 0, .int .u8 0, .int .u8 0, .int .u8 0, .int .u8 0, .int .u8 0, .int .u8 0, .int .u8 0, .int .u8 0, .int .u8 0, .int .u8 0, .int .u8 0, .int .u8 0] 23)).setRow w2.heap.size (AB b) := ⟨_, rfl⟩
  rw [← hw3, ← hc]
  have hb3 : Below w2.heap.size w2 w3 := by rw [hw3]; exact bSetRow ((Below.refl _ _).alloc (Nat.le_refl _) _) (Nat.le_refl _) _
  have hC : Row w3 c 23 (AB (sealR W b 0)) := by rw [hw3, hc]; exact (Row.new _ _ _).setRow _
  have hwc := hbw.size
  have Hc := Lib.hid hc
  clear hw3 hc
  go_loopg [10] m (fun n i wr => ∃ k : Nat, n + k = m ∧ i = .int .i64 k ∧ Row wr c 23 (AB (sealR W b k)) ∧ Below w2.heap.size w2 wr)
  case atStart => exact ⟨0, by omega, rfl, hC, hb3⟩
  case round =>
    clear hC hb3
    obtain ⟨k, hk', rfl, hR, hB⟩ := hrel
    have hlt := hR.lt
    have hlen := sealR_len W b hb k
    by_cases h : k < m
    · have b1 : (k : Int) < m := by omega
      have hKr := hK.below hB
      have hnext : sealN W 14 (sealR W b k) 14 = sealR W b (k + 1) := rfl
      have hlen2 := sealR_len W b hb (k + 1)
      have Hs := Lib.hid hnext
      obtain ⟨x, hx⟩ : ∃ x, x = sealR W b k := ⟨_, rfl⟩
      obtain ⟨y, hy⟩ : ∃ y, y = sealR W b (k + 1) := ⟨_, rfl⟩
      rw [← hx] at hR hlen Hs
      rw [← hy] at hlen2 Hs
      have Hy := Lib.hid hy
      clear hnext hx hy
      go_wp2_with (go_at_call 16; refine (seal_any _ _ 14 _ _ hKr hlen).mono ?_; rintro e w4 ⟨rfl, hB4⟩; rw [Hs.out]; have hR4 := hR.below hB4 hlt; have hlt4 := hR4.lt; replace hB := hB.trans (hB4.mono hB.size); clear hR hlt hB4 hKr)
      go_roundg (gk - 1)
      case measure => omega
      case rel => exact ⟨k + 1, by omega, by go_num, by rw [← Hy.out]; exact hR4.setRow _, bSetRow hB (by rw [Hc.out]; exact Nat.le_refl _) _⟩
    · obtain rfl : k = m := by omega
      go_wp2_with fail
      obtain ⟨wo, rfl⟩ : ∃ wo : World, wo = wr := ⟨_, rfl⟩
      obtain ⟨no, rfl⟩ : ∃ no : Nat, no = gk := ⟨_, rfl⟩
      go_loopg [11] k (fun n i wr => ∃ j : Nat, n + j = k ∧ i = .int .i64 j ∧ Row wr c 23 (AB (sealR W b n)) ∧ Below w2.heap.size w2 wr)
      case atStart => exact ⟨0, by omega, rfl, hR, hB⟩
      case round =>
        clear hR hB hlt hlen
        obtain ⟨j, hj, rfl, hR, hB⟩ := hrel
        have hlt := hR.lt
        have hlen := sealR_len W b hb gk
        by_cases h2 : j < k
        · have b1 : (j : Int) < k := by omega
          obtain ⟨g, rfl⟩ : ∃ g, gk = g + 1 := ⟨gk - 1, by omega⟩
          have hKr := hK.below hB
          have hnext := sealR_back W b hb g
          have hlen2 := sealR_len W b hb g
          have Hs := Lib.hid hnext
          obtain ⟨x, hx⟩ : ∃ x, x = sealR W b (g + 1) := ⟨_, rfl⟩
          obtain ⟨y, hy⟩ : ∃ y, y = sealR W b g := ⟨_, rfl⟩
          rw [← hx] at hR hlen Hs
          rw [← hy] at hlen2 Hs
          have Hy := Lib.hid hy
          clear hnext hx hy
          go_wp2_with (go_at_call 18; refine (open_any _ _ 14 _ _ hKr hlen).mono ?_; rintro e w4 ⟨rfl, hB4⟩; rw [Hs.out]; have hR4 := hR.below hB4 hlt; have hlt4 := hR4.lt; replace hB := hB.trans (hB4.mono hB.size); clear hR hlt hB4 hKr)
          go_roundg g
          case measure => omega
          case rel => exact ⟨j + 1, by omega, by go_num, by rw [← Hy.out]; exact hR4.setRow _, bSetRow hB (by rw [Hc.out]; exact Nat.le_refl _) _⟩
        · obtain rfl : gk = 0 := by omega
          have hR : Row wr c 23 (AB b) := hR
          have hRb := hB2.below hB lb
          have hlb := hRb.lt
          have hBw := Lib.hid (hbw.trans (hB.mono hwc))
          clear hK hB hB2 hbw hwc
          go_wp2_with (go_at_call 15; refine (blocks_any _).mono ?_; rintro e w4 ⟨rfl, hB4⟩; have hR4 := hR.below hB4 hlt; have hRb4 := hRb.below hB4 hlb; replace hBw := Lib.hid (hBw.out.trans (hB4.mono hBw.out.size)); clear hR hRb hB4)
          go_ret
          exact ⟨rfl, hBw.out⟩
end Go.Proofs.Ytjopgogaipkdbaa
