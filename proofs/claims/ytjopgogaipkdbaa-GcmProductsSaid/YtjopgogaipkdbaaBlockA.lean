/- The walks of block's small functions: add, double, times, mix. -/
import Derived.Test.YtjopgogaipkdbaaProg
import Derived.Test.YtjopgogaipkdbaaQuiet
import Derived.Test.YtjopgogaipkdbaaBlockSpec
import Derived.WalkSpells
namespace Go.Proofs.Ytjopgogaipkdbaa
open Go.RowKit

theorem add_any (a b : List UInt8) (ha : a.length = 16) (hb : b.length = 16) (w : World) :
    Calls Try.prog 39 #[.agg (AB a), .agg (AB b)] w fun e w' => e = .returned (.agg (AB (addF a b 16))) ∧ Below w.heap.size w w' := by
  go_enter Try.func39, Try.ntmps39
  go_wp2
  go_loopw [8] (fun i wr => ∃ k : Nat, k ≤ 16 ∧ i = .int .i64 k ∧ Row wr w.heap.size 23 (AB (addF a b k)) ∧ RowN wr (w.heap.size + 1 + 1) 23 16 ∧ Below w.heap.size w wr) (fun i _ => 16 - (intOf i).toNat)
  case atStart =>
    refine ⟨0, by omega, rfl, ?_, RowN.newAt _ _ _ _ (by simp), ((((Below.refl _ w).alloc (Nat.le_refl _) _).alloc (by simp) _).alloc (by simp <;> omega) _)⟩
    rw [addF_zero a b ha]
    exact ((Row.new w _ _).alloc _).alloc _
  case round =>
    obtain ⟨k, hk, rfl, hA, ⟨z, hz, hzs⟩, hB⟩ := hrel
    have hlt := hA.lt
    have hlen := addF_len a b k
    have hlen' := (AB_size (addF a b k)).trans hlen
    by_cases h : k < 16
    · go_wp2
      go_roundw
      case rel =>
        refine ⟨k + 1, by omega, by go_num, ?_, ⟨z, hz.setOther _ _ (by simp <;> omega), hzs⟩, hB.setCell (Nat.le_refl _) _⟩
        rw [← addF_step a b k h]
        exact hA.setByte k _
      case measure => simp [intOf]; omega
    · obtain rfl : k = 16 := by omega
      go_wp2
      exact ret_row (.inl rfl) rfl (w.heap.size + 1 + 1) _ _ 16 _ rfl (hz.setRow _) Try.underlying23 rfl (by kernel_rfl) hlen' ⟨rfl, bSetRow hB (by omega) _⟩

theorem ret_u8 {a b : Int} (h : a = b) : Ending.returned (.int .u8 a) = .returned (.int .u8 b) := by rw [h]
theorem double_any (x : UInt8) (w : World) : Calls Try.prog 37 #[B x] w fun e w' => e = .returned (B (dbl x)) ∧ w = w' := by
  cases h : (bits BinOp.and IntKind.u8 (x.toNat : Int) 128 != 0)
  · have hf := dbl_no x h
    have H := Lib.hid hf; clear hf
    go_enter Try.func37, Try.ntmps37
    go_wp2
    go_ret
    exact ⟨ret_u8 H.out, rfl⟩
  · have hf := dbl_yes x h
    have H := Lib.hid hf; clear hf
    go_enter Try.func37, Try.ntmps37
    go_wp2
    go_ret
    exact ⟨ret_u8 H.out, rfl⟩

theorem times_any (x n : UInt8) (w : World) : Calls Try.prog 54 #[B x, B n] w fun e w' => e = .returned (B (tm x n)) ∧ w = w' := by
  go_enter Try.func54, Try.ntmps54
  go_wp2
  go_loop [0, 1, 5] (fun A N p => ∃ (f : Nat) (a' n' p' : UInt8), A = B a' ∧ N = B n' ∧ p = B p' ∧ n'.toNat < 2 ^ f ∧ tmN f a' n' p' = tm x n) (fun _ N _ => (intOf N).toNat)
  case atStart => exact ⟨8, x, n, 0, rfl, rfl, rfl, n.toNat_lt, rfl⟩
  case round =>
    obtain ⟨f, a', n', p', rfl, rfl, rfl, hn, ht⟩ := hrel
    have HT := Lib.hid ht; clear ht
    by_cases h0 : n' = 0
    · subst h0
      go_wp2
      go_ret
      exact ⟨by rw [← HT.out, tmN_zero]; rfl, rfl⟩
    · have hpos : (0 : Int) < (n'.toNat : Int) := by
        have : n'.toNat ≠ 0 := fun e => h0 (by rw [← UInt8.ofNat_toNat (x := n'), e]; rfl)
        omega
      obtain ⟨f, rfl⟩ : ∃ g, f = g + 1 := by
        cases f with
        | zero => simp at hn; omega
        | succ g => exact ⟨g, rfl⟩
      have hs : (n' >>> 1).toNat = n'.toNat / 2 := by have := half_shr n'; omega
      have hlt := n'.toNat_lt
      have HS := Lib.hid (half_shr n')
      by_cases h1 : n' &&& 1 = 1
      · have HT2 := Lib.hid ((tmN_one (f := f) (a := a') (p := p') h0 h1).symm.trans HT.out)
        have hb : (bits .and .u8 (n'.toNat : Int) 1 == 1) = true := by rw [half_and]; simpa using h1
        have HN := Lib.hid hn; clear hn
        have HS2 := Lib.hid hs; clear hs h1
        go_wp2_with (go_at_call 37; refine (double_any _ _).mono ?_; rintro e w' ⟨rfl, rfl⟩)
        go_round
        case rel => exact ⟨f, dbl a', n' >>> 1, xr p' a', rfl, by rw [HS.out], rfl, by rw [HS2.out]; have := HN.out; rw [Nat.pow_succ] at this; omega, HT2.out⟩
        case measure => simp [intOf]; omega
      · have HT2 := Lib.hid ((tmN_two (f := f) (a := a') (p := p') h0 h1).symm.trans HT.out)
        have hb : (bits .and .u8 (n'.toNat : Int) 1 == 1) = false := by rw [half_and]; simpa using h1
        have HN := Lib.hid hn; clear hn
        have HS2 := Lib.hid hs; clear hs h1
        go_wp2_with (go_at_call 37; refine (double_any _ _).mono ?_; rintro e w' ⟨rfl, rfl⟩)
        go_round
        case rel => exact ⟨f, dbl a', n' >>> 1, p', rfl, by rw [HS.out], rfl, by rw [HS2.out]; have := HN.out; rw [Nat.pow_succ] at this; omega, HT2.out⟩
        case measure => simp [intOf]; omega
end Go.Proofs.Ytjopgogaipkdbaa
