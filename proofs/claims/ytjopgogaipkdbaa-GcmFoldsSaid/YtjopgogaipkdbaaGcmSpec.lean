/- What gcm reckons with numbers of 64 bits; bytes as one number. -/
import Derived.Test.YtjopgogaipkdbaaKit
import Derived.Laws.BitsAllLaws
import Derived.Laws.Bits64
namespace Go.Proofs.Ytjopgogaipkdbaa
open Go.RowKit

/-- A number of 64 bits as a value. -/
abbrev Q (x : UInt64) : Value := .int .u64 (x.toNat : Int)
def xq (a b : UInt64) : UInt64 := a ^^^ b
theorem wrapN64 (a : Nat) : IntKind.u64.wrap (a : Int) = ((a % 18446744073709551616 : Nat) : Int) := by rw [IntKind.wrap_u64]; omega
theorem bq_xor (a b : UInt64) : bits .xor .u64 (a.toNat : Int) (b.toNat : Int) = ((xq a b).toNat : Int) := by
  rw [u64_xor_nat _ _ a.toNat_lt b.toNat_lt, xq, UInt64.toNat_xor]
/-- The next byte behind. -/
def sho (x : UInt64) (y : UInt8) : UInt64 := UInt64.ofNat ((x.toNat * 256 % 18446744073709551616) ||| y.toNat)
theorem bq_sho (x : UInt64) (y : UInt8) : bits .or .u64 (IntKind.u64.wrap ((x.toNat : Int) * 256)) (IntKind.u64.wrap (y.toNat : Int)) = ((sho x y).toNat : Int) := by
  have hy := y.toNat_lt
  have e1 : IntKind.u64.wrap ((x.toNat : Int) * 256) = ((x.toNat * 256 % 18446744073709551616 : Nat) : Int) := by
    rw [show ((x.toNat : Int) * 256) = ((x.toNat * 256 : Nat) : Int) by omega, wrapN64]
  have e2 : IntKind.u64.wrap (y.toNat : Int) = (y.toNat : Int) := by rw [wrapN64]; omega
  have h1 : x.toNat * 256 % 18446744073709551616 < 18446744073709551616 := Nat.mod_lt _ (by omega)
  have h2 : y.toNat < 18446744073709551616 := by omega
  rw [e1, e2, u64_or_nat _ _ h1 h2, sho, UInt64.toNat_ofNat']
  have h3 : (x.toNat * 256 % 18446744073709551616 ||| y.toNat) < 2 ^ 64 := Nat.or_lt_two_pow h1 h2
  rw [Nat.mod_eq_of_lt h3]
def hf (x : UInt64) : UInt64 := UInt64.ofNat (x.toNat / 2)
theorem hf_nat (x : UInt64) : (hf x).toNat = x.toNat / 2 := by
  have := x.toNat_lt
  rw [hf, UInt64.toNat_ofNat']
  omega
def orh (y x : UInt64) : UInt64 := UInt64.ofNat (y.toNat / 2 ||| x.toNat * 9223372036854775808 % 18446744073709551616)
theorem bq_orh (y x : UInt64) : bits .or .u64 ((y.toNat : Int) / 2) (IntKind.u64.wrap ((x.toNat : Int) * 9223372036854775808)) = ((orh y x).toNat : Int) := by
  have hy := y.toNat_lt
  have e1 : IntKind.u64.wrap ((x.toNat : Int) * 9223372036854775808) = ((x.toNat * 9223372036854775808 % 18446744073709551616 : Nat) : Int) := by
    rw [show ((x.toNat : Int) * 9223372036854775808) = ((x.toNat * 9223372036854775808 : Nat) : Int) by omega, wrapN64]
  have e2 : ((y.toNat : Int) / 2) = ((y.toNat / 2 : Nat) : Int) := by omega
  have h1 : x.toNat * 9223372036854775808 % 18446744073709551616 < 18446744073709551616 := Nat.mod_lt _ (by omega)
  have h2 : y.toNat / 2 < 18446744073709551616 := by omega
  rw [e1, e2, u64_or_nat _ _ h2 h1, orh, UInt64.toNat_ofNat']
  have h3 : (y.toNat / 2 ||| x.toNat * 9223372036854775808 % 18446744073709551616) < 2 ^ 64 := Nat.or_lt_two_pow h2 h1
  rw [Nat.mod_eq_of_lt h3]
def polyQ : UInt64 := 16212958658533785600
theorem bq_poly (x : UInt64) : bits .xor .u64 (x.toNat : Int) 16212958658533785600 = ((xq x polyQ).toNat : Int) := bq_xor x polyQ
def oddQ (x : UInt64) : Bool := x.toNat % 2 == 1
theorem and_one (n : Nat) : n &&& 1 = n % 2 := Nat.and_one_is_mod n
theorem bq_odd (x : UInt64) : (bits .and .u64 (x.toNat : Int) 1 == 1) = oddQ x := by
  have h := u64_and_nat x.toNat 1 x.toNat_lt (by omega)
  rw [show ((1 : Nat) : Int) = 1 from rfl, and_one] at h
  rw [h, oddQ, Bool.eq_iff_iff, beq_iff_eq, beq_iff_eq]
  omega
/-- The bit i of x. -/
def bitQ (x : UInt64) (i : Nat) : Bool := x.toNat.testBit i
theorem bq_bit (x : UInt64) (i : Nat) : (bits .and .u64 ((x.toNat : Int) / 2 ^ i) 1 == 1) = bitQ x i := by
  have hx := x.toNat_lt
  have e1 : ((x.toNat : Int) / 2 ^ i) = ((x.toNat / 2 ^ i : Nat) : Int) := by simp
  have h1 : x.toNat / 2 ^ i < 18446744073709551616 := Nat.lt_of_le_of_lt (Nat.div_le_self _ _) hx
  have h := u64_and_nat (x.toNat / 2 ^ i) 1 h1 (by omega)
  rw [show ((1 : Nat) : Int) = 1 from rfl, and_one] at h
  rw [e1, h, bitQ, Nat.testBit_eq_decide_div_mod_eq, Bool.eq_iff_iff, beq_iff_eq, decide_eq_true_eq]
  omega
attribute [go_sem] bq_xor bq_sho bq_orh bq_poly

/-! ### bytes as one number -/
def be (l : List UInt8) : Nat := l.foldl (fun n b => n * 256 + b.toNat) 0
theorem be_snoc (l : List UInt8) (x : UInt8) : be (l ++ [x]) = be l * 256 + x.toNat := by simp [be]
theorem be_nil : be [] = 0 := rfl
theorem be_lt (l : List UInt8) : be l < 256 ^ l.length := by
  suffices h : ∀ n (l : List UInt8), l.length = n → be l < 256 ^ n from h _ l rfl
  intro n
  induction n with
  | zero => intro l hl; rw [List.eq_nil_of_length_eq_zero hl]; simp [be]
  | succ n ih =>
    intro l hl
    obtain ⟨l', x, rfl⟩ : ∃ l' x, l = l' ++ [x] := by
      refine ⟨l.dropLast, l.getLast (by intro h; rw [h] at hl; simp at hl), (List.dropLast_concat_getLast _).symm⟩
    have h1 := ih l' (by simpa using hl)
    have hx := x.toNat_lt
    rw [be_snoc, Nat.pow_succ]
    omega
theorem sho_nat (x : UInt64) (y : UInt8) (h : x.toNat < 72057594037927936) : (sho x y).toNat = x.toNat * 256 + y.toNat := by
  have hy := y.toNat_lt
  have h1 : x.toNat * 256 % 18446744073709551616 = x.toNat * 256 := Nat.mod_eq_of_lt (by omega)
  have h2 : (x.toNat * 256 ||| y.toNat) = x.toNat * 256 + y.toNat := by
    have := Nat.two_pow_add_eq_or_of_lt (i := 8) hy x.toNat
    rw [Nat.mul_comm x.toNat 256]
    exact this.symm
  have h3 : x.toNat * 256 + y.toNat < 2 ^ 64 := by
    have : (2 : Nat) ^ 64 = 18446744073709551616 := by decide
    omega
  rw [sho, h1, h2, UInt64.toNat_ofNat', Nat.mod_eq_of_lt h3]
theorem take_snoc' (l : List UInt8) (k : Nat) (h : k < l.length) : l.take (k + 1) = l.take k ++ [gb l k] := by
  rw [List.take_succ_eq_append_getElem h]
  simp [gb, h]
/-- A block's two halves. -/
def hiQ (l : List UInt8) : UInt64 := UInt64.ofNat (be (l.take 8))
def loQ (l : List UInt8) : UInt64 := UInt64.ofNat (be ((l.drop 8).take 8))
theorem be_lt8 (l : List UInt8) (h : l.length ≤ 8) : be l < 18446744073709551616 :=
  Nat.lt_of_lt_of_le (be_lt l) (Nat.le_trans (Nat.pow_le_pow_right (by omega) h) (by decide))
theorem hiQ_nat (l : List UInt8) : (hiQ l).toNat = be (l.take 8) := by
  rw [hiQ, UInt64.toNat_ofNat']
  exact Nat.mod_eq_of_lt (be_lt8 _ (by simp; omega))
theorem loQ_nat (l : List UInt8) : (loQ l).toNat = be ((l.drop 8).take 8) := by
  rw [loQ, UInt64.toNat_ofNat']
  exact Nat.mod_eq_of_lt (be_lt8 _ (by simp; omega))
/-- The number of the first k bytes. -/
def upQ (l : List UInt8) (k : Nat) : UInt64 := UInt64.ofNat (be (l.take k))
theorem upQ_step (l : List UInt8) (k : Nat) (h : k < l.length) (h8 : k < 8) : sho (upQ l k) (gb l k) = upQ l (k + 1) := by
  have h1 : be (l.take k) < 72057594037927936 :=
    Nat.lt_of_lt_of_le (be_lt _) (Nat.le_trans (Nat.pow_le_pow_right (by omega) (show (l.take k).length ≤ 7 by simp; omega)) (by decide))
  have h2 : (upQ l k).toNat = be (l.take k) := by rw [upQ, UInt64.toNat_ofNat']; exact Nat.mod_eq_of_lt (by omega)
  apply UInt64.toNat_inj.1
  rw [sho_nat _ _ (by rw [h2]; exact h1), h2, upQ, UInt64.toNat_ofNat', take_snoc' _ _ h, be_snoc]
  have := (gb l k).toNat_lt
  exact (Nat.mod_eq_of_lt (by omega)).symm
end Go.Proofs.Ytjopgogaipkdbaa
