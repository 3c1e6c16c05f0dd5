/- What gcm reckons is the field of 2^128 elements (XGf). -/
import Derived.Test.YtjopgogaipkdbaaGcmD
import Derived.Test.YtjopgogaipkdbaaGf
namespace Go.Proofs.Ytjopgogaipkdbaa
open Go.RowKit

theorem xor_mul (k a b x y : Nat) (hx : x < 2 ^ k) (hy : y < 2 ^ k) : (a * 2 ^ k + x) ^^^ (b * 2 ^ k + y) = (a ^^^ b) * 2 ^ k + (x ^^^ y) := by
  have hd : ∀ c z : Nat, z < 2 ^ k → (c * 2 ^ k + z) / 2 ^ k = c := fun c z hz => by
    rw [Nat.mul_comm, Nat.mul_add_div (Nat.two_pow_pos k), Nat.div_eq_of_lt hz, Nat.add_zero]
  have hm : ∀ c z : Nat, z < 2 ^ k → (c * 2 ^ k + z) % 2 ^ k = z := fun c z hz => by
    rw [Nat.mul_comm, Nat.mul_add_mod, Nat.mod_eq_of_lt hz]
  have h1 : ((a * 2 ^ k + x) ^^^ (b * 2 ^ k + y)) / 2 ^ k = a ^^^ b := by rw [Nat.xor_div_two_pow, hd _ _ hx, hd _ _ hy]
  have h2 : ((a * 2 ^ k + x) ^^^ (b * 2 ^ k + y)) % 2 ^ k = x ^^^ y := by rw [Nat.xor_mod_two_pow, hm _ _ hx, hm _ _ hy]
  have := Nat.div_add_mod ((a * 2 ^ k + x) ^^^ (b * 2 ^ k + y)) (2 ^ k)
  rw [h1, h2, Nat.mul_comm] at this
  exact this.symm
def q2 (q : UInt64 × UInt64) : Nat := q.1.toNat * 2 ^ 64 + q.2.toNat
theorem q2_lt (q : UInt64 × UInt64) : q2 q < Gf.lim := by
  have h1 := q.1.toNat_lt
  have h2 := q.2.toNat_lt
  unfold q2 Gf.lim
  omega
theorem stL_nat (h l : UInt64) : (stL h l).toNat = l.toNat / 2 + (h.toNat % 2) * 2 ^ 63 := by
  have hh := h.toNat_lt
  have hl := l.toNat_lt
  have e1 : h.toNat * 9223372036854775808 % 18446744073709551616 = (h.toNat % 2) * 2 ^ 63 := by omega
  have e2 : (l.toNat / 2 ||| (h.toNat % 2) * 2 ^ 63) = l.toNat / 2 + (h.toNat % 2) * 2 ^ 63 := by
    have := Nat.two_pow_add_eq_or_of_lt (i := 63) (b := l.toNat / 2) (by omega) (h.toNat % 2)
    rw [Nat.or_comm, Nat.mul_comm (h.toNat % 2), ← this, Nat.add_comm]
  rw [stL, orh, e1, e2, UInt64.toNat_ofNat']
  exact Nat.mod_eq_of_lt (by omega)
theorem stH_nat (h l : UInt64) : (stH h l).toNat = if l.toNat % 2 = 1 then (h.toNat / 2) ^^^ 16212958658533785600 else h.toNat / 2 := by
  unfold stH oddQ
  by_cases ho : l.toNat % 2 = 1
  · rw [if_pos (by simpa using ho), if_pos ho, xq, UInt64.toNat_xor, hf_nat]
    rfl
  · rw [if_neg (by simpa using ho), if_neg ho, hf_nat]
theorem q2_step (h l : UInt64) : q2 (stH h l, stL h l) = Gf.S (q2 (h, l)) := by
  have hh := h.toNat_lt
  have hl := l.toNat_lt
  unfold q2 Gf.S
  simp only [stH_nat, stL_nat]
  have e1 : (h.toNat * 2 ^ 64 + l.toNat) % 2 = l.toNat % 2 := by omega
  have e2 : (h.toNat * 2 ^ 64 + l.toNat) / 2 = (h.toNat / 2) * 2 ^ 64 + (l.toNat / 2 + (h.toNat % 2) * 2 ^ 63) := by omega
  rw [e1, e2]
  by_cases ho : l.toNat % 2 = 1
  · rw [if_pos ho, if_pos ho]
    have e3 : Gf.R = 16212958658533785600 * 2 ^ 64 + 0 := by decide
    rw [e3, xor_mul 64 _ _ _ _ (by omega) (by omega), Nat.xor_zero]
  · rw [if_neg ho, if_neg ho]
theorem q2_itF (h l : UInt64) (k : Nat) : q2 (itF h l k) = Gf.Sn k (q2 (h, l)) := by
  induction k with
  | zero => rfl
  | succ k ih =>
    show q2 (stH (itF h l k).1 (itF h l k).2, stL (itF h l k).1 (itF h l k).2) = Gf.S (Gf.Sn k (q2 (h, l)))
    rw [q2_step, ← ih]
theorem bitT_q2 (x y : UInt64) (k : Nat) (hk : k < 128) : bitT x y k = (q2 (x, y)).testBit (127 - k) := by
  have hy := y.toNat_lt
  unfold bitT bitQ q2
  rw [Nat.mul_comm, Nat.testBit_two_pow_mul_add _ (by omega)]
  by_cases h : k < 64
  · rw [if_pos h, if_neg (by omega)]
    congr 1
    omega
  · rw [if_neg h, if_pos (by omega)]
theorem q2_xor (a b : UInt64 × UInt64) : q2 (xq a.1 b.1, xq a.2 b.2) = q2 a ^^^ q2 b := by
  have h1 := a.2.toNat_lt
  have h2 := b.2.toNat_lt
  unfold q2
  rw [xor_mul 64 _ _ _ _ (by omega) (by omega)]
  simp only [xq, UInt64.toNat_xor]
theorem q2_itZ (x y h l : UInt64) (k : Nat) (hk : k ≤ 128) : q2 (itZ x y h l k) = Gf.Pk (q2 (x, y)) (q2 (h, l)) k := by
  induction k with
  | zero => simp [itZ, q2, Gf.Pk]
  | succ k ih =>
    have ih := ih (by omega)
    rw [itZ, Gf.Pk, ← bitT_q2 x y k (by omega)]
    by_cases hb : bitT x y k = true
    · rw [if_pos hb, if_pos hb, q2_xor, ih, q2_itF]
    · rw [if_neg hb, if_neg hb, ih]
theorem q2_tm (a b : UInt64 × UInt64) : q2 (tmQ a b) = Gf.P (q2 a) (q2 b) := q2_itZ a.1 a.2 b.1 b.2 128 (Nat.le_refl _)

theorem be_app (a b : List UInt8) : be (a ++ b) = be a * 256 ^ b.length + be b := by
  suffices h : ∀ (b : List UInt8) (n : Nat), b.foldl (fun n b => n * 256 + b.toNat) n = n * 256 ^ b.length + be b by
    rw [be, List.foldl_append]
    exact h b (be a)
  intro b
  induction b with
  | nil => intro n; simp [be]
  | cons x b ih =>
    intro n
    have e : be (x :: b) = x.toNat * 256 ^ b.length + be b := by
      show List.foldl (fun n b => n * 256 + b.toNat) (0 * 256 + x.toNat) b = _
      rw [Nat.zero_mul, Nat.zero_add]
      exact ih x.toNat
    rw [List.foldl_cons, ih, e, List.length_cons, Nat.pow_succ, Nat.add_mul, Nat.mul_assoc, Nat.mul_comm 256, Nat.add_assoc]
theorem be_lim (l : List UInt8) (h : l.length = 16) : be l < Gf.lim := by
  have := be_lt l
  rw [h] at this
  exact this
theorem q2_el (l : List UInt8) (h : l.length = 16) : q2 (elQ l) = be l := by
  have h8 : ((l.drop 8).take 8) = l.drop 8 := List.take_of_length_le (by simp; omega)
  unfold q2 elQ
  rw [hiQ_nat, loQ_nat, h8]
  have := be_app (l.take 8) (l.drop 8)
  rw [List.take_append_drop, List.length_drop, h] at this
  rw [this]
/-- The byte k of a number of 128 bits; all sixteen. -/
def nb (n k : Nat) : UInt8 := UInt8.ofNat (n / 2 ^ (120 - 8 * k))
def fB (n : Nat) : List UInt8 := tab 16 (nb n)
theorem fB_len (n : Nat) : (fB n).length = 16 := tab_length _ _
theorem nb_nat (n k : Nat) : (nb n k).toNat = n / 2 ^ (120 - 8 * k) % 256 := UInt8.toNat_ofNat' ..
theorem u8_ofNat_congr {a b : Nat} (h : a % 256 = b % 256) : UInt8.ofNat a = UInt8.ofNat b := by
  apply UInt8.toNat_inj.1
  rw [UInt8.toNat_ofNat', UInt8.toNat_ofNat']
  exact h
theorem blQ_fB (q : UInt64 × UInt64) : blQ q = fB (q2 q) := by
  have hx := q.1.toNat_lt
  have hy := q.2.toNat_lt
  unfold blQ outQ fB
  apply tab_congr
  intro i hi
  unfold nb q2 byQ
  by_cases h : i < 8
  · rw [if_pos h]
    congr 1
    rw [show 120 - 8 * i = 64 + (56 - 8 * i) by omega, Nat.pow_add, ← Nat.div_div_eq_div_mul]
    congr 1
    omega
  · rw [if_neg h, if_pos (by omega), show 56 - 8 * (i - 8) = 120 - 8 * i by omega]
    apply u8_ofNat_congr
    have e : q.1.toNat * 2 ^ 64 = 2 ^ (120 - 8 * i) * (256 * (q.1.toNat * 2 ^ (8 * i - 64))) := by
      rw [show (2 : Nat) ^ 64 = 2 ^ (120 - 8 * i) * (2 ^ 8 * 2 ^ (8 * i - 64)) by rw [← Nat.pow_add, ← Nat.pow_add]; congr 1; omega]
      rw [show (256 : Nat) = 2 ^ 8 by rfl]
      generalize (2 : Nat) ^ (120 - 8 * i) = A
      generalize (2 : Nat) ^ (8 * i - 64) = C
      generalize (2 : Nat) ^ 8 = D
      rw [Nat.mul_left_comm q.1.toNat A, Nat.mul_left_comm q.1.toNat D]
    rw [e, Nat.mul_add_div (Nat.two_pow_pos _), Nat.mul_add_mod]
theorem gprod_fB (a b : List UInt8) (ha : a.length = 16) (hb : b.length = 16) : gprod a b = fB (Gf.P (be a) (be b)) := by
  unfold gprod
  rw [blQ_fB, q2_tm, q2_el a ha, q2_el b hb]
theorem fB_be (l : List UInt8) (h : l.length = 16) : fB (be l) = l := by
  apply gb_ext (by rw [fB_len, h])
  intro i hi
  rw [h] at hi
  unfold fB
  rw [gb_tab _ hi]
  have e : l = (l.take i ++ [gb l i]) ++ l.drop (i + 1) := by rw [← take_snoc' l i (by omega), List.take_append_drop]
  have e2 := be_app (l.take i ++ [gb l i]) (l.drop (i + 1))
  rw [← e, be_snoc, List.length_drop, h] at e2
  have h3 : be (l.drop (i + 1)) < 256 ^ (16 - (i + 1)) := by
    have := be_lt (l.drop (i + 1))
    rwa [List.length_drop, h] at this
  have e4 : (256 : Nat) ^ (16 - (i + 1)) = 2 ^ (120 - 8 * i) := by
    rw [show (256 : Nat) = 2 ^ 8 by rfl, ← Nat.pow_mul]; congr 1; omega
  rw [e4] at e2 h3
  unfold nb
  rw [e2, Nat.mul_comm _ (2 ^ (120 - 8 * i)), Nat.mul_add_div (Nat.two_pow_pos _), Nat.div_eq_of_lt h3, Nat.add_zero]
  have := (gb l i).toNat_lt
  apply UInt8.toNat_inj.1
  rw [UInt8.toNat_ofNat']
  omega
theorem be_fB (n : Nat) (h : n < Gf.lim) : be (fB n) = n := by
  suffices H : ∀ k, k ≤ 16 → be ((List.range k).map (nb n)) = n / 2 ^ (128 - 8 * k) by
    have := H 16 (Nat.le_refl _)
    rw [show 128 - 8 * 16 = 0 from rfl, Nat.pow_zero, Nat.div_one] at this
    exact this
  intro k
  induction k with
  | zero => intro _; rw [List.range_zero, List.map_nil, be_nil]; exact (Nat.div_eq_of_lt h).symm
  | succ k ih =>
    intro hk
    rw [List.range_succ, List.map_append, List.map_cons, List.map_nil, be_snoc, ih (by omega), nb_nat]
    rw [show 128 - 8 * k = (120 - 8 * k) + 8 by omega, Nat.pow_add, ← Nat.div_div_eq_div_mul, show 128 - 8 * (k + 1) = 120 - 8 * k by omega]
    omega
theorem nb_xor (x y k : Nat) : xr (nb x k) (nb y k) = nb (x ^^^ y) k := by
  apply UInt8.toNat_inj.1
  rw [xr, UInt8.toNat_xor, nb_nat, nb_nat, nb_nat, Nat.xor_div_two_pow]
  exact (Nat.xor_mod_two_pow (n := 8)).symm
def xorL (a b : List UInt8) : List UInt8 := tab 16 fun i => xr (gb a i) (gb b i)
theorem xorL_len (a b : List UInt8) : (xorL a b).length = 16 := tab_length _ _
theorem xorL_fB (x y : Nat) : xorL (fB x) (fB y) = fB (x ^^^ y) := tab_congr fun i hi => by
  unfold fB
  rw [gb_tab _ hi, gb_tab _ hi, nb_xor]
theorem be_xorL (a b : List UInt8) (ha : a.length = 16) (hb : b.length = 16) : be (xorL a b) = be a ^^^ be b := by
  have h := xorL_fB (be a) (be b)
  rw [fB_be a ha, fB_be b hb] at h
  rw [h, be_fB _ (Gf.xor_lt (be_lim a ha) (be_lim b hb))]
theorem gprod_comm (a b : List UInt8) (ha : a.length = 16) (hb : b.length = 16) : gprod a b = gprod b a := by
  rw [gprod_fB a b ha hb, gprod_fB b a hb ha, Gf.P_comm _ _ (be_lim a ha) (be_lim b hb)]
theorem gprod_add (a b c : List UInt8) (ha : a.length = 16) (hb : b.length = 16) (hc : c.length = 16) : gprod a (xorL b c) = xorL (gprod a b) (gprod a c) := by
  rw [gprod_fB a _ ha (xorL_len _ _), be_xorL b c hb hc, Gf.P_addr, gprod_fB a b ha hb, gprod_fB a c ha hc, xorL_fB]
theorem be_gprod (a b : List UInt8) (ha : a.length = 16) (hb : b.length = 16) : be (gprod a b) = Gf.P (be a) (be b) := by
  rw [gprod_fB a b ha hb, be_fB _ (Gf.P_lt _ _ (be_lim b hb))]
theorem gprod_assoc (a b c : List UInt8) (ha : a.length = 16) (hb : b.length = 16) (hc : c.length = 16) : gprod (gprod a b) c = gprod a (gprod b c) := by
  rw [gprod_fB _ c (gprod_len _ _) hc, be_gprod a b ha hb, gprod_fB a _ ha (gprod_len _ _), be_gprod b c hb hc, Gf.P_assoc _ _ _ (be_lim a ha) (be_lim b hb) (be_lim c hc)]
end Go.Proofs.Ytjopgogaipkdbaa
