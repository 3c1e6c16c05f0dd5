/- The walks of block's small functions: add, double, times, mix. -/
import Derived.Test.YtjopgogaipkdbaaProg
import Derived.Test.YtjopgogaipkdbaaQuiet
import Derived.Test.YtjopgogaipkdbaaNewSpec
import Derived.WalkSpells
namespace Go.Proofs.Ytjopgogaipkdbaa
open Go.RowKit

theorem add_any (a b : List UInt8) (ha : a.length = 16) (hb : b.length = 16) (w : World) :
    Calls Try.prog 39 #[.agg (AB a), .agg (AB b)] w fun e w' => e = .returned (.agg (AB (addF a b 16))) ∧ Below w.heap.size w w' := by
  go_enter Try.func39, Try.ntmps39
  go_wp2
  go_loopw [8] (fun i wr => ∃ k : Nat, k ≤ 16 ∧ i = .int .i64 k ∧ Row wr w.heap.size 23 (AB (addF a b k)) ∧ RowN wr (w.heap.size + 1 + 1) 23 16 ∧ Below w.heap.size w wr) (fun i _ => 16 - (intOf i).toNat)
  case atStart =>
    refine ⟨0, by omega, rfl, ?_, RowN.newAt _ _ _ _ (by simp), ((((Below.refl _ w).alloc (Nat.le_refl _) _).alloc (by simp) _).alloc (by simp <;> omega) _)⟩
    rw [addF_zero a b ha]
    exact ((Row.new w _ _).alloc _).alloc _
  case round =>
    obtain ⟨k, hk, rfl, hA, ⟨z, hz, hzs⟩, hB⟩ := hrel
    have hlt := hA.lt
    have hlen := addF_len a b k
    have hlen' := (AB_size (addF a b k)).trans hlen
    by_cases h : k < 16
    · go_wp2
      go_roundw
      case rel =>
        refine ⟨k + 1, by omega, by go_num, ?_, ⟨z, hz.setOther _ _ (by simp <;> omega), hzs⟩, hB.setCell (Nat.le_refl _) _⟩
        rw [← addF_step a b k h]
        exact hA.setByte k _
      case measure => simp [intOf]; omega
    · obtain rfl : k = 16 := by omega
      go_wp2
      exact ret_row (.inl rfl) rfl (w.heap.size + 1 + 1) _ _ 16 _ rfl (hz.setRow _) Try.underlying23 rfl (by kernel_rfl) hlen' ⟨rfl, bSetRow hB (by omega) _⟩

theorem ret_u8 {a b : Int} (h : a = b) : Ending.returned (.int .u8 a) = .returned (.int .u8 b) := by rw [h]
theorem double_any (x : UInt8) (w : World) : Calls Try.prog 37 #[B x] w fun e w' => e = .returned (B (dbl x)) ∧ w = w' := by
  cases h : (bits BinOp.and IntKind.u8 (x.toNat : Int) 128 != 0)
  · have hf := dbl_no x h
    have H := Lib.hid hf; clear hf
    go_enter Try.func37, Try.ntmps37
    go_wp2
    go_ret
    exact ⟨ret_u8 H.out, rfl⟩
  · have hf := dbl_yes x h
    have H := Lib.hid hf; clear hf
    go_enter Try.func37, Try.ntmps37
    go_wp2
    go_ret
    exact ⟨ret_u8 H.out, rfl⟩

theorem times_any (x n : UInt8) (w : World) : Calls Try.prog 54 #[B x, B n] w fun e w' => e = .returned (B (tm x n)) ∧ w = w' := by
  go_enter Try.func54, Try.ntmps54
  go_wp2
  go_loop [0, 1, 5] (fun A N p => ∃ (f : Nat) (a' n' p' : UInt8), A = B a' ∧ N = B n' ∧ p = B p' ∧ n'.toNat < 2 ^ f ∧ tmN f a' n' p' = tm x n) (fun _ N _ => (intOf N).toNat)
  case atStart => exact ⟨8, x, n, 0, rfl, rfl, rfl, n.toNat_lt, rfl⟩
  case round =>
    obtain ⟨f, a', n', p', rfl, rfl, rfl, hn, ht⟩ := hrel
    have HT := Lib.hid ht; clear ht
    by_cases h0 : n' = 0
    · subst h0
      go_wp2
      go_ret
      exact ⟨by rw [← HT.out, tmN_zero]; rfl, rfl⟩
    · have hpos : (0 : Int) < (n'.toNat : Int) := by
        have : n'.toNat ≠ 0 := fun e => h0 (by rw [← UInt8.ofNat_toNat (x := n'), e]; rfl)
        omega
      obtain ⟨f, rfl⟩ : ∃ g, f = g + 1 := by
        cases f with
        | zero => simp at hn; omega
        | succ g => exact ⟨g, rfl⟩
      have hs : (n' >>> 1).toNat = n'.toNat / 2 := by have := half_shr n'; omega
      have hlt := n'.toNat_lt
      have HS := Lib.hid (half_shr n')
      by_cases h1 : n' &&& 1 = 1
      · have HT2 := Lib.hid ((tmN_one (f := f) (a := a') (p := p') h0 h1).symm.trans HT.out)
        have hb : (bits .and .u8 (n'.toNat : Int) 1 == 1) = true := by rw [half_and]; simpa using h1
        have HN := Lib.hid hn; clear hn
        have HS2 := Lib.hid hs; clear hs h1
        go_wp2_with (go_at_call 37; refine (double_any _ _).mono ?_; rintro e w' ⟨rfl, rfl⟩)
        go_round
        case rel => exact ⟨f, dbl a', n' >>> 1, xr p' a', rfl, by rw [HS.out], rfl, by rw [HS2.out]; have := HN.out; rw [Nat.pow_succ] at this; omega, HT2.out⟩
        case measure => simp [intOf]; omega
      · have HT2 := Lib.hid ((tmN_two (f := f) (a := a') (p := p') h0 h1).symm.trans HT.out)
        have hb : (bits .and .u8 (n'.toNat : Int) 1 == 1) = false := by rw [half_and]; simpa using h1
        have HN := Lib.hid hn; clear hn
        have HS2 := Lib.hid hs; clear hs h1
        go_wp2_with (go_at_call 37; refine (double_any _ _).mono ?_; rintro e w' ⟨rfl, rfl⟩)
        go_round
        case rel => exact ⟨f, dbl a', n' >>> 1, p', rfl, by rw [HS.out], rfl, by rw [HS2.out]; have := HN.out; rw [Nat.pow_succ] at this; omega, HT2.out⟩
        case measure => simp [intOf]; omega
end Go.Proofs.Ytjopgogaipkdbaa

/- The walk of block's mix. -/
namespace Go.Proofs.Ytjopgogaipkdbaa
open Go.RowKit

def idxOk (k j : Nat) : Bool := (bits .andNot .i64 (k : Int) 3 == ((k / 4 * 4 : Nat) : Int)) && (bits .and .i64 ((k : Int) + (j : Int)) 3 == (((k + j) % 4 : Nat) : Int)) && (bits .or .i64 ((k / 4 * 4 : Nat) : Int) (((k + j) % 4 : Nat) : Int) == ((k / 4 * 4 + (k + j) % 4 : Nat) : Int))
theorem idxOk_all : ((List.range 16).all fun k => (List.range 4).all fun j => idxOk k j) = true := by decide +kernel
theorem idx_ok {k j : Nat} (hk : k < 16) (hj : j < 4) : bits .andNot .i64 (k : Int) 3 = ((k / 4 * 4 : Nat) : Int) ∧ bits .and .i64 ((k : Int) + (j : Int)) 3 = (((k + j) % 4 : Nat) : Int) ∧
    bits .or .i64 ((k / 4 * 4 : Nat) : Int) (((k + j) % 4 : Nat) : Int) = ((k / 4 * 4 + (k + j) % 4 : Nat) : Int) := by
  have := List.all_eq_true.1 (List.all_eq_true.1 idxOk_all k (List.mem_range.2 hk)) j (List.mem_range.2 hj)
  simp only [idxOk, Bool.and_eq_true, beq_iff_eq] at this
  exact ⟨this.1.1, this.1.2, this.2⟩
theorem mix_any (b r : List UInt8) (hb : b.length = 16) (hr : r.length = 4) (w : World) :
    Calls Try.prog 40 #[.agg (AB b), .agg (AB r)] w fun e w' => e = .returned (.agg (AB (mixL b r 16 0))) ∧ Below w.heap.size w w' := by
  go_enter Try.func40, Try.ntmps40
  go_wp2
  go_loopw [10] (fun i wr => ∃ k : Nat, k ≤ 16 ∧ i = .int .i64 k ∧ Row wr w.heap.size 23 (AB b) ∧ Row wr (w.heap.size + 1) 68 (AB r) ∧ RowN wr (w.heap.size + 1 + 1) 23 16 ∧ Row wr (w.heap.size + 1 + 1 + 1) 23 (AB (mixL b r k 0)) ∧ Below w.heap.size w wr) (fun i _ => 16 - (intOf i).toNat)
  case atStart =>
    refine ⟨0, by omega, rfl, ?_, ?_, ?_, ?_, ?_⟩
    · exact (((Row.new w _ _).alloc _).alloc _).alloc _
    · exact ((Row.newAt _ _ _ _ (by simp)).alloc _).alloc _
    · exact (RowN.newAt _ _ _ _ (by simp)).alloc _
    · rw [mixL_zero]; exact Row.newAt _ _ _ _ (by simp)
    · exact (((((Below.refl _ w).alloc (Nat.le_refl _) _).alloc (by simp) _).alloc (by simp <;> omega) _).alloc (by simp <;> omega) _)
  case round =>
    obtain ⟨k, hk, rfl, hA, hR, ⟨z, hz, hzs⟩, hM, hB⟩ := hrel
    have hlt := hM.lt
    have hlen' := (AB_size (mixL b r k 0)).trans (mixL_len b r k 0)
    by_cases h : k < 16
    · have b1 : (k : Int) < 16 := by omega
      obtain ⟨wo, rfl⟩ : ∃ wo : World, wo = wr := ⟨_, rfl⟩
      have I0 := (idx_ok h (j := 0) (by omega)).1
      obtain ⟨col, hcol⟩ : ∃ col, col = k / 4 * 4 := ⟨_, rfl⟩
      have HC := Lib.hid hcol
      rw [← hcol] at I0
      clear hcol
      go_wp2
      go_loopw [16] (fun i wr => ∃ j : Nat, j ≤ 4 ∧ i = .int .i64 j ∧ Row wr w.heap.size 23 (AB b) ∧ Row wr (w.heap.size + 1) 68 (AB r) ∧ RowN wr (w.heap.size + 1 + 1) 23 16 ∧ Row wr (w.heap.size + 1 + 1 + 1) 23 (AB (mixL b r k j)) ∧ Below w.heap.size w wr) (fun i _ => 4 - (intOf i).toNat)
      case atStart => exact ⟨0, by omega, rfl, hA, hR, ⟨z, hz, hzs⟩, hM, hB⟩
      case round =>
        clear hA hR hz hM hB hlen'
        obtain ⟨j, hj, rfl, hA, hR, ⟨z, hz, hzs⟩, hM, hB⟩ := hrel
        have hlt := hM.lt
        have hlen := mixL_len b r k j
        by_cases h2 : j < 4
        · obtain ⟨_, I1, I2⟩ := idx_ok h h2
          obtain ⟨q, hq⟩ : ∃ q, q = (k + j) % 4 := ⟨_, rfl⟩
          rw [← HC.out, ← hq] at I2
          rw [← hq] at I1
          have hc1 : col + q < 16 := by have := HC.out; omega
          obtain ⟨m, hm⟩ : ∃ m, m = col + q := ⟨_, rfl⟩
          rw [← hm] at I2 hc1
          have HM := Lib.hid (show m = k / 4 * 4 + (k + j) % 4 by rw [hm, hq, HC.out])
          clear hm hq
          have w1 : IntKind.i64.wrap ((k : Int) + (j : Int)) = (k : Int) + (j : Int) := IntWalk.i64_in _ (by omega)
          have b2 : (m : Int) < 16 := by omega
          go_wp2
          refine wp_region_qtail (fun w' => w' = _) 15 (by kernel_rfl) (by kernel_rfl) rfl ?_
          simp only [List.take_succ_cons, List.take_zero, List.drop_succ_cons, List.drop_zero]
          repeat (refine wpQuiet_step (fun K hK => ?_); go_simp; first | (refine hK _ ?_; clear hK K) | (apply Exists.intro; refine ⟨?_, hK _ ?_⟩; ((go_at_call 54; refine (times_any _ _ _).mono ?_; rintro e w' ⟨rfl, rfl⟩; exact ⟨rfl, rfl⟩)); clear hK K))
          refine wpQuiet_nil ?_
          rintro _ rfl
          go_wp2
          go_roundw
          case rel => exact ⟨j + 1, by omega, by go_num, hA.setOther _ _ (by simp <;> omega), hR.setOther _ _ (by simp <;> omega), ⟨z, hz.setOther _ _ (by simp <;> omega), hzs⟩, by rw [← mixL_step b r k j h, ← HM.out]; exact hM.setByte k _, hB.drew.setCell (by simp <;> omega) _⟩
          case measure => simp [intOf]; omega
        · obtain rfl : j = 4 := by omega
          go_wp2
          go_roundw
          case rel => exact ⟨k + 1, by omega, by go_num, hA, hR, ⟨z, hz, hzs⟩, by rw [← mixL_next]; exact hM, hB⟩
          case measure => simp [intOf]; omega
    · obtain rfl : k = 16 := by omega
      go_wp2
      exact ret_row (.inl rfl) rfl (w.heap.size + 1 + 1) _ _ 16 _ rfl ((hz.setRow _)) Try.underlying23 rfl (by kernel_rfl) hlen' ⟨rfl, bSetRow hB (by omega) _⟩
end Go.Proofs.Ytjopgogaipkdbaa
