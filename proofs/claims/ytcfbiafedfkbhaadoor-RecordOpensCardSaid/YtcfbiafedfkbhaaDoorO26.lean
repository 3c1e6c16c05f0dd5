/- Part of the proof: GLink. No conditions of its own. -/
import Derived.Below
import Derived.BigQuiet
import Derived.ChangeOld
import Derived.Deep.DeepCutAuto
import Derived.Deep.LoopGhost
import Derived.Deep.Quiet
import Derived.Deep.QuietTactic
import Derived.Laws.Bits64
import Derived.Laws.BitsAllLaws
import Derived.Lib.Hide
import Derived.OpenShut
import Derived.ProofKit
import Derived.ShutString
import Derived.StillTail
import Derived.Test.YtcfbiafedfkbhaaDoorProg
import Derived.WalkKit
import Derived.WalkSpells
import Derived.Test.YtcfbiafedfkbhaaDoorO14
import Derived.Test.YtcfbiafedfkbhaaDoorO25
namespace Go.Proofs.YtcfbiafedfkbhaaDoor
open Go.RowKit

theorem xor_mul (k a b x y : Nat) (hx : x < 2 ^ k) (hy : y < 2 ^ k) : (a * 2 ^ k + x) ^^^ (b * 2 ^ k + y) = (a ^^^ b) * 2 ^ k + (x ^^^ y) := by
  have hd : ∀ c z : Nat, z < 2 ^ k → (c * 2 ^ k + z) / 2 ^ k = c := fun c z hz => by
    rw [Nat.mul_comm, Nat.mul_add_div (Nat.two_pow_pos k), Nat.div_eq_of_lt hz, Nat.add_zero]
  have hm : ∀ c z : Nat, z < 2 ^ k → (c * 2 ^ k + z) % 2 ^ k = z := fun c z hz => by
    rw [Nat.mul_comm, Nat.mul_add_mod, Nat.mod_eq_of_lt hz]
  have h1 : ((a * 2 ^ k + x) ^^^ (b * 2 ^ k + y)) / 2 ^ k = a ^^^ b := by rw [Nat.xor_div_two_pow, hd _ _ hx, hd _ _ hy]
  have h2 : ((a * 2 ^ k + x) ^^^ (b * 2 ^ k + y)) % 2 ^ k = x ^^^ y := by rw [Nat.xor_mod_two_pow, hm _ _ hx, hm _ _ hy]
  have := Nat.div_add_mod ((a * 2 ^ k + x) ^^^ (b * 2 ^ k + y)) (2 ^ k)
  rw [h1, h2, Nat.mul_comm] at this
  exact this.symm
def q2 (q : UInt64 × UInt64) : Nat := q.1.toNat * 2 ^ 64 + q.2.toNat
theorem q2_lt (q : UInt64 × UInt64) : q2 q < Gf.lim := by
  have h1 := q.1.toNat_lt
  have h2 := q.2.toNat_lt
  unfold q2 Gf.lim
  omega
theorem stL_nat (h l : UInt64) : (stL h l).toNat = l.toNat / 2 + (h.toNat % 2) * 2 ^ 63 := by
  have hh := h.toNat_lt
  have hl := l.toNat_lt
  have e1 : h.toNat * 9223372036854775808 % 18446744073709551616 = (h.toNat % 2) * 2 ^ 63 := by omega
  have e2 : (l.toNat / 2 ||| (h.toNat % 2) * 2 ^ 63) = l.toNat / 2 + (h.toNat % 2) * 2 ^ 63 := by
    have := Nat.two_pow_add_eq_or_of_lt (i := 63) (b := l.toNat / 2) (by omega) (h.toNat % 2)
    rw [Nat.or_comm, Nat.mul_comm (h.toNat % 2), ← this, Nat.add_comm]
  rw [stL, orh, e1, e2, UInt64.toNat_ofNat']
  exact Nat.mod_eq_of_lt (by omega)
theorem stH_nat (h l : UInt64) : (stH h l).toNat = if l.toNat % 2 = 1 then (h.toNat / 2) ^^^ 16212958658533785600 else h.toNat / 2 := by
  unfold stH oddQ
  by_cases ho : l.toNat % 2 = 1
  · rw [if_pos (by simpa using ho), if_pos ho, xq, UInt64.toNat_xor, hf_nat]
    rfl
  · rw [if_neg (by simpa using ho), if_neg ho, hf_nat]
theorem q2_step (h l : UInt64) : q2 (stH h l, stL h l) = Gf.S (q2 (h, l)) := by
  have hh := h.toNat_lt
  have hl := l.toNat_lt
  unfold q2 Gf.S
  simp only [stH_nat, stL_nat]
  have e1 : (h.toNat * 2 ^ 64 + l.toNat) % 2 = l.toNat % 2 := by omega
  have e2 : (h.toNat * 2 ^ 64 + l.toNat) / 2 = (h.toNat / 2) * 2 ^ 64 + (l.toNat / 2 + (h.toNat % 2) * 2 ^ 63) := by omega
  rw [e1, e2]
  by_cases ho : l.toNat % 2 = 1
  · rw [if_pos ho, if_pos ho]
    have e3 : Gf.R = 16212958658533785600 * 2 ^ 64 + 0 := by decide
    rw [e3, xor_mul 64 _ _ _ _ (by omega) (by omega), Nat.xor_zero]
  · rw [if_neg ho, if_neg ho]
theorem q2_itF (h l : UInt64) (k : Nat) : q2 (itF h l k) = Gf.Sn k (q2 (h, l)) := by
  induction k with
  | zero => rfl
  | succ k ih =>
    show q2 (stH (itF h l k).1 (itF h l k).2, stL (itF h l k).1 (itF h l k).2) = Gf.S (Gf.Sn k (q2 (h, l)))
    rw [q2_step, ← ih]
theorem bitT_q2 (x y : UInt64) (k : Nat) (hk : k < 128) : bitT x y k = (q2 (x, y)).testBit (127 - k) := by
  have hy := y.toNat_lt
  unfold bitT bitQ q2
  rw [Nat.mul_comm, Nat.testBit_two_pow_mul_add _ (by omega)]
  by_cases h : k < 64
  · rw [if_pos h, if_neg (by omega)]
    congr 1
    omega
  · rw [if_neg h, if_pos (by omega)]
theorem q2_xor (a b : UInt64 × UInt64) : q2 (xq a.1 b.1, xq a.2 b.2) = q2 a ^^^ q2 b := by
  have h1 := a.2.toNat_lt
  have h2 := b.2.toNat_lt
  unfold q2
  rw [xor_mul 64 _ _ _ _ (by omega) (by omega)]
  simp only [xq, UInt64.toNat_xor]
theorem q2_itZ (x y h l : UInt64) (k : Nat) (hk : k ≤ 128) : q2 (itZ x y h l k) = Gf.Pk (q2 (x, y)) (q2 (h, l)) k := by
  induction k with
  | zero => simp [itZ, q2, Gf.Pk]
  | succ k ih =>
    have ih := ih (by omega)
    rw [itZ, Gf.Pk, ← bitT_q2 x y k (by omega)]
    by_cases hb : bitT x y k = true
    · rw [if_pos hb, if_pos hb, q2_xor, ih, q2_itF]
    · rw [if_neg hb, if_neg hb, ih]
theorem q2_tm (a b : UInt64 × UInt64) : q2 (tmQ a b) = Gf.P (q2 a) (q2 b) := q2_itZ a.1 a.2 b.1 b.2 128 (Nat.le_refl _)

theorem be_app (a b : List UInt8) : be (a ++ b) = be a * 256 ^ b.length + be b := by
  suffices h : ∀ (b : List UInt8) (n : Nat), b.foldl (fun n b => n * 256 + b.toNat) n = n * 256 ^ b.length + be b by
    rw [be, List.foldl_append]
    exact h b (be a)
  intro b
  induction b with
  | nil => intro n; simp [be]
  | cons x b ih =>
    intro n
    have e : be (x :: b) = x.toNat * 256 ^ b.length + be b := by
      show List.foldl (fun n b => n * 256 + b.toNat) (0 * 256 + x.toNat) b = _
      rw [Nat.zero_mul, Nat.zero_add]
      exact ih x.toNat
    rw [List.foldl_cons, ih, e, List.length_cons, Nat.pow_succ, Nat.add_mul, Nat.mul_assoc, Nat.mul_comm 256, Nat.add_assoc]
theorem be_lim (l : List UInt8) (h : l.length = 16) : be l < Gf.lim := by
  have := be_lt l
  rw [h] at this
  exact this
theorem q2_el (l : List UInt8) (h : l.length = 16) : q2 (elQ l) = be l := by
  have h8 : ((l.drop 8).take 8) = l.drop 8 := List.take_of_length_le (by simp; omega)
  unfold q2 elQ
  rw [hiQ_nat, loQ_nat, h8]
  have := be_app (l.take 8) (l.drop 8)
  rw [List.take_append_drop, List.length_drop, h] at this
  rw [this]
def nb (n k : Nat) : UInt8 := UInt8.ofNat (n / 2 ^ (120 - 8 * k))
def fB (n : Nat) : List UInt8 := tab 16 (nb n)
theorem fB_len (n : Nat) : (fB n).length = 16 := tab_length _ _
theorem nb_nat (n k : Nat) : (nb n k).toNat = n / 2 ^ (120 - 8 * k) % 256 := UInt8.toNat_ofNat' ..
theorem u8_ofNat_congr {a b : Nat} (h : a % 256 = b % 256) : UInt8.ofNat a = UInt8.ofNat b := by
  apply UInt8.toNat_inj.1
  rw [UInt8.toNat_ofNat', UInt8.toNat_ofNat']
  exact h
theorem blQ_fB (q : UInt64 × UInt64) : blQ q = fB (q2 q) := by
  have hx := q.1.toNat_lt
  have hy := q.2.toNat_lt
  unfold blQ outQ fB
  apply tab_congr
  intro i hi
  unfold nb q2 byQ
  by_cases h : i < 8
  · rw [if_pos h]
    congr 1
    rw [show 120 - 8 * i = 64 + (56 - 8 * i) by omega, Nat.pow_add, ← Nat.div_div_eq_div_mul]
    congr 1
    omega
  · rw [if_neg h, if_pos (by omega), show 56 - 8 * (i - 8) = 120 - 8 * i by omega]
    apply u8_ofNat_congr
    have e : q.1.toNat * 2 ^ 64 = 2 ^ (120 - 8 * i) * (256 * (q.1.toNat * 2 ^ (8 * i - 64))) := by
      rw [show (2 : Nat) ^ 64 = 2 ^ (120 - 8 * i) * (2 ^ 8 * 2 ^ (8 * i - 64)) by rw [← Nat.pow_add, ← Nat.pow_add]; congr 1; omega]
      rw [show (256 : Nat) = 2 ^ 8 by rfl]
      generalize (2 : Nat) ^ (120 - 8 * i) = A
      generalize (2 : Nat) ^ (8 * i - 64) = C
      generalize (2 : Nat) ^ 8 = D
      rw [Nat.mul_left_comm q.1.toNat A, Nat.mul_left_comm q.1.toNat D]
    rw [e, Nat.mul_add_div (Nat.two_pow_pos _), Nat.mul_add_mod]
theorem gprod_fB (a b : List UInt8) (ha : a.length = 16) (hb : b.length = 16) : gprod a b = fB (Gf.P (be a) (be b)) := by
  unfold gprod
  rw [blQ_fB, q2_tm, q2_el a ha, q2_el b hb]
theorem fB_be (l : List UInt8) (h : l.length = 16) : fB (be l) = l := by
  apply gb_ext (by rw [fB_len, h])
  intro i hi
  rw [h] at hi
  unfold fB
  rw [gb_tab _ hi]
  have e : l = (l.take i ++ [gb l i]) ++ l.drop (i + 1) := by rw [← take_snoc' l i (by omega), List.take_append_drop]
  have e2 := be_app (l.take i ++ [gb l i]) (l.drop (i + 1))
  rw [← e, be_snoc, List.length_drop, h] at e2
  have h3 : be (l.drop (i + 1)) < 256 ^ (16 - (i + 1)) := by
    have := be_lt (l.drop (i + 1))
    rwa [List.length_drop, h] at this
  have e4 : (256 : Nat) ^ (16 - (i + 1)) = 2 ^ (120 - 8 * i) := by
    rw [show (256 : Nat) = 2 ^ 8 by rfl, ← Nat.pow_mul]; congr 1; omega
  rw [e4] at e2 h3
  unfold nb
  rw [e2, Nat.mul_comm _ (2 ^ (120 - 8 * i)), Nat.mul_add_div (Nat.two_pow_pos _), Nat.div_eq_of_lt h3, Nat.add_zero]
  have := (gb l i).toNat_lt
  apply UInt8.toNat_inj.1
  rw [UInt8.toNat_ofNat']
  omega
theorem be_fB (n : Nat) (h : n < Gf.lim) : be (fB n) = n := by
  suffices H : ∀ k, k ≤ 16 → be ((List.range k).map (nb n)) = n / 2 ^ (128 - 8 * k) by
    have := H 16 (Nat.le_refl _)
    rw [show 128 - 8 * 16 = 0 from rfl, Nat.pow_zero, Nat.div_one] at this
    exact this
  intro k
  induction k with
  | zero => intro _; rw [List.range_zero, List.map_nil, be_nil]; exact (Nat.div_eq_of_lt h).symm
  | succ k ih =>
    intro hk
    rw [List.range_succ, List.map_append, List.map_cons, List.map_nil, be_snoc, ih (by omega), nb_nat]
    rw [show 128 - 8 * k = (120 - 8 * k) + 8 by omega, Nat.pow_add, ← Nat.div_div_eq_div_mul, show 128 - 8 * (k + 1) = 120 - 8 * k by omega]
    omega
theorem nb_xor (x y k : Nat) : xr (nb x k) (nb y k) = nb (x ^^^ y) k := by
  apply UInt8.toNat_inj.1
  rw [xr, UInt8.toNat_xor, nb_nat, nb_nat, nb_nat, Nat.xor_div_two_pow]
  exact (Nat.xor_mod_two_pow (n := 8)).symm
def xorL (a b : List UInt8) : List UInt8 := tab 16 fun i => xr (gb a i) (gb b i)
theorem xorL_len (a b : List UInt8) : (xorL a b).length = 16 := tab_length _ _
theorem xorL_fB (x y : Nat) : xorL (fB x) (fB y) = fB (x ^^^ y) := tab_congr fun i hi => by
  unfold fB
  rw [gb_tab _ hi, gb_tab _ hi, nb_xor]
theorem be_xorL (a b : List UInt8) (ha : a.length = 16) (hb : b.length = 16) : be (xorL a b) = be a ^^^ be b := by
  have h := xorL_fB (be a) (be b)
  rw [fB_be a ha, fB_be b hb] at h
  rw [h, be_fB _ (Gf.xor_lt (be_lim a ha) (be_lim b hb))]
end Go.Proofs.YtcfbiafedfkbhaaDoor

/- The walk of the document's Product. -/
namespace Go.Proofs.YtcfbiafedfkbhaaDoor
open Go.RowKit

def sr (x : UInt8) : UInt8 := UInt8.ofNat (x.toNat / 2)
theorem sr_nat (x : UInt8) : (sr x).toNat = x.toNat / 2 := by
  have := x.toNat_lt
  rw [sr, UInt8.toNat_ofNat']
  omega
theorem half_byte (x : UInt8) : (x.toNat : Int) / 2 = ((sr x).toNat : Int) := by rw [sr_nat]; omega
def sro (x y : UInt8) : UInt8 := UInt8.ofNat (x.toNat ||| y.toNat * 128 % 256)
theorem bq_sro (x y : UInt8) : bits .or .u8 (x.toNat : Int) (IntKind.u8.wrap ((y.toNat : Int) * 128)) = ((sro x y).toNat : Int) := by
  have hx := x.toNat_lt
  have e1 : IntKind.u8.wrap ((y.toNat : Int) * 128) = ((y.toNat * 128 % 256 : Nat) : Int) := by
    rw [show ((y.toNat : Int) * 128) = ((y.toNat * 128 : Nat) : Int) by omega]
    simp [IntKind.wrap, IntKind.bits, IntKind.signed]
  have h1 : y.toNat * 128 % 256 < 256 := Nat.mod_lt _ (by omega)
  rw [e1, u8_or_nat _ _ hx h1, sro, UInt8.toNat_ofNat']
  have h3 : (x.toNat ||| y.toNat * 128 % 256) < 2 ^ 8 := Nat.or_lt_two_pow hx h1
  rw [Nat.mod_eq_of_lt h3]
theorem bq_sro' (x y : UInt8) : bits .or .u8 (x.toNat : Int) ((y.toNat : Int) * 128 % 256) = ((sro x y).toNat : Int) := by
  rw [← bq_sro]
  congr 1
attribute [local go_sem] bq_sro bq_sro' half_byte
def zP (Z V k : Nat) : List UInt8 := tab 16 fun j => if j < k then nb (Z ^^^ V) j else nb Z j
theorem zP_len (Z V k : Nat) : (zP Z V k).length = 16 := tab_length _ _
theorem zP_zero (Z V : Nat) : zP Z V 0 = fB Z := tab_congr fun i _ => by rw [if_neg (by omega)]
theorem zP_full (Z V : Nat) : zP Z V 16 = fB (Z ^^^ V) := tab_congr fun i hi => by rw [if_pos hi]
theorem zP_get (Z V k : Nat) (h : k < 16) : gb (zP Z V k) k = nb Z k := by unfold zP; rw [gb_tab _ h, if_neg (by omega)]
theorem fB_nil : AB (fB 0) = #[.int .u8 0, .int .u8 0, .int .u8 0, .int .u8 0, .int .u8 0, .int .u8 0, .int .u8 0, .int .u8 0, .int .u8 0, .int .u8 0, .int .u8 0, .int .u8 0, .int .u8 0, .int .u8 0, .int .u8 0, .int .u8 0] := by kernel_rfl
theorem fB_get (V k : Nat) (h : k < 16) : gb (fB V) k = nb V k := gb_tab _ h
theorem zP_step (Z V k : Nat) : (zP Z V k).set k (xr (nb Z k) (nb V k)) = zP Z V (k + 1) := by
  unfold zP
  rw [tab_set]
  apply tab_congr
  intro i _
  by_cases h : i = k
  · subst h; rw [if_pos rfl, if_pos (by omega), nb_xor]
  · rw [if_neg h]
    by_cases h2 : i < k
    · rw [if_pos h2, if_pos (by omega)]
    · rw [if_neg h2, if_neg (by omega)]
def vP (V m : Nat) : List UInt8 := tab 16 fun j => if 16 - m ≤ j then nb (V / 2) j else nb V j
theorem vP_len (V m : Nat) : (vP V m).length = 16 := tab_length _ _
theorem vP_zero (V : Nat) : vP V 0 = fB V := tab_congr fun i hi => by rw [if_neg (by omega)]
theorem vP_full (V : Nat) : vP V 16 = fB (V / 2) := tab_congr fun i hi => by rw [if_pos (by omega)]
theorem vP_get (V m k : Nat) (hk : k < 16 - m) : gb (vP V m) k = nb V k := by unfold vP; rw [gb_tab _ (by omega), if_neg (by omega)]
theorem sro_nb (V k : Nat) (h : 1 ≤ k) (hk : k < 16) : sro (sr (nb V k)) (nb V (k - 1)) = nb (V / 2) k := by
  apply UInt8.toNat_inj.1
  have e1 : V / 2 ^ (120 - 8 * (k - 1)) = V / 2 ^ (120 - 8 * k) / 256 := by
    rw [Nat.div_div_eq_div_mul, show (256 : Nat) = 2 ^ 8 by rfl, ← Nat.pow_add]
    congr 2
    omega
  have e2 : V / 2 / 2 ^ (120 - 8 * k) = V / 2 ^ (120 - 8 * k) / 2 := by rw [Nat.div_div_eq_div_mul, Nat.div_div_eq_div_mul, Nat.mul_comm]
  rw [sro, UInt8.toNat_ofNat', sr_nat, nb_nat, nb_nat, nb_nat, e1, e2]
  generalize V / 2 ^ (120 - 8 * k) = W
  have e3 : (W / 256 % 256 * 128 % 256) = (W / 256 % 2) * 2 ^ 7 := by omega
  have e4 : (W % 256 / 2 ||| (W / 256 % 2) * 2 ^ 7) = W % 256 / 2 + (W / 256 % 2) * 2 ^ 7 := by
    have := Nat.two_pow_add_eq_or_of_lt (i := 7) (b := W % 256 / 2) (by omega) (W / 256 % 2)
    rw [Nat.or_comm, Nat.mul_comm (W / 256 % 2), ← this, Nat.add_comm]
  rw [e3, e4]
  omega
theorem sr_nb (V : Nat) (h : V < Gf.lim) : sr (nb V 0) = nb (V / 2) 0 := by
  apply UInt8.toNat_inj.1
  unfold Gf.lim at h
  rw [sr_nat, nb_nat, nb_nat]
  omega
theorem vP_step (V m k : Nat) (hm : m + k = 15) (x : UInt8) (hx : x = nb (V / 2) k) : (vP V m).set k x = vP V (m + 1) := by
  subst hx
  unfold vP
  rw [tab_set]
  apply tab_congr
  intro i _
  by_cases h : i = k
  · subst h; rw [if_pos rfl, if_pos (by omega)]
  · rw [if_neg h]
    by_cases h2 : 16 - m ≤ i
    · rw [if_pos h2, if_pos (by omega)]
    · rw [if_neg h2, if_neg (by omega)]
theorem red_nb (V : Nat) : (fB V).set 0 (xr (nb V 0) 225) = fB (V ^^^ Gf.R) := by
  unfold fB
  rw [tab_set]
  apply tab_congr
  intro i hi
  rw [← nb_xor]
  by_cases h : i = 0
  · subst h; rw [if_pos rfl]; rfl
  · rw [if_neg h]
    have : nb Gf.R i = 0 := by
      have : ∀ i, i < 16 → i ≠ 0 → nb Gf.R i = 0 := by decide +kernel
      exact this i hi h
    rw [this, xr]
    simp
theorem last_nb (V : Nat) : (nb V 15).toNat % 2 = V % 2 := by rw [nb_nat]; omega
theorem bit_nb (A q r : Nat) (hq : q < 16) (hr : r < 8) : (nb A q).toNat / 2 ^ (7 - r) % 2 = 1 ↔ A.testBit (127 - (8 * q + r)) = true := by
  rw [Nat.testBit_eq_decide_div_mod_eq, decide_eq_true_eq, nb_nat, show 127 - (8 * q + r) = (120 - 8 * q) + (7 - r) by omega, Nat.pow_add, ← Nat.div_div_eq_div_mul]
  generalize A / 2 ^ (120 - 8 * q) = W
  have : W % 256 / 2 ^ (7 - r) % 2 = W / 2 ^ (7 - r) % 2 := by
    match r, hr with
    | 0, _ => show W % 256 / 128 % 2 = W / 128 % 2; omega
    | 1, _ => show W % 256 / 64 % 2 = W / 64 % 2; omega
    | 2, _ => show W % 256 / 32 % 2 = W / 32 % 2; omega
    | 3, _ => show W % 256 / 16 % 2 = W / 16 % 2; omega
    | 4, _ => show W % 256 / 8 % 2 = W / 8 % 2; omega
    | 5, _ => show W % 256 / 4 % 2 = W / 4 % 2; omega
    | 6, _ => show W % 256 / 2 % 2 = W / 2 % 2; omega
    | 7, _ => show W % 256 / 1 % 2 = W / 1 % 2; omega
  rw [this]

set_option maxRecDepth 100000 in
set_option maxHeartbeats 4000000 in
theorem refProd_any (a b : List UInt8) (w : World) (ha : a.length = 16) (hb : b.length = 16) : Calls Tryd.prog 76 #[.agg (AB a), .agg (AB b)] w fun e w' => e = .returned (.agg (AB (gprod a b))) ∧ Below w.heap.size w w' := by
  have ha16 := (AB_size a).trans ha
  have hb16 := (AB_size b).trans hb
  go_enter Tryd.func76, Tryd.ntmps76
  go_wp2_with fail
  obtain ⟨w0, hw0⟩ : ∃ w0, w0 = (((((w.alloc (.cells (AB a) 84)).alloc (.cells (AB b) 84)).alloc (.cells #[.int .u8 0, .int .u8 0, .int .u8 0, .int .u8 0, .int .u8 0, .int .u8 0, .int .u8 0, .int .u8 0, .int .u8 0, .int .u8 0, .int .u8 0, .int .u8 0, .int .u8 0, .int .u8 0, .int .u8 0, .int .u8 0] 84)).alloc (.cells #[.int .u8 0, .int .u8 0, .int .u8 0, .int .u8 0, .int .u8 0, .int .u8 0, .int .u8 0, .int .u8 0, .int .u8 0, .int .u8 0, .int .u8 0, .int .u8 0, .int .u8 0, .int .u8 0, .int .u8 0, .int .u8 0] 84)).alloc (.cells #[.int .u8 0, .int .u8 0, .int .u8 0, .int .u8 0, .int .u8 0, .int .u8 0, .int .u8 0, .int .u8 0, .int .u8 0, .int .u8 0, .int .u8 0, .int .u8 0, .int .u8 0, .int .u8 0, .int .u8 0, .int .u8 0] 84)).setRow (w.heap.size + 1 + 1 + 1 + 1) (AB b) := ⟨_, rfl⟩
  rw [← hw0]
  have h2 : Row w0 w.heap.size 84 (AB a) := by rw [hw0]; exact (((((Row.new w _ _).alloc _).alloc _).alloc _).alloc _).setRowOther _ _ (by omega)
  have h4 : RowN w0 (w.heap.size + 1 + 1) 84 16 := by rw [hw0]; exact (((RowN.newAt _ _ _ #[.int .u8 0, .int .u8 0, .int .u8 0, .int .u8 0, .int .u8 0, .int .u8 0, .int .u8 0, .int .u8 0, .int .u8 0, .int .u8 0, .int .u8 0, .int .u8 0, .int .u8 0, .int .u8 0, .int .u8 0, .int .u8 0] (by simp)).alloc _).alloc _).setRowOther _ _ (by omega)
  have h5 : Row w0 (w.heap.size + 1 + 1 + 1) 84 (AB (fB (Gf.Pk (be a) (be b) 0))) := by
    rw [show AB (fB (Gf.Pk (be a) (be b) 0)) = #[.int .u8 0, .int .u8 0, .int .u8 0, .int .u8 0, .int .u8 0, .int .u8 0, .int .u8 0, .int .u8 0, .int .u8 0, .int .u8 0, .int .u8 0, .int .u8 0, .int .u8 0, .int .u8 0, .int .u8 0, .int .u8 0] from fB_nil, hw0]
    exact ((Row.newAt _ _ _ #[.int .u8 0, .int .u8 0, .int .u8 0, .int .u8 0, .int .u8 0, .int .u8 0, .int .u8 0, .int .u8 0, .int .u8 0, .int .u8 0, .int .u8 0, .int .u8 0, .int .u8 0, .int .u8 0, .int .u8 0, .int .u8 0] (by simp)).alloc _).setRowOther _ _ (by omega)
  have h6 : Row w0 (w.heap.size + 1 + 1 + 1 + 1) 84 (AB (fB (Gf.Sn 0 (be b)))) := by
    rw [hw0, show Gf.Sn 0 (be b) = be b from rfl, fB_be b hb]
    exact (Row.newAt _ _ _ #[.int .u8 0, .int .u8 0, .int .u8 0, .int .u8 0, .int .u8 0, .int .u8 0, .int .u8 0, .int .u8 0, .int .u8 0, .int .u8 0, .int .u8 0, .int .u8 0, .int .u8 0, .int .u8 0, .int .u8 0, .int .u8 0] (by simp)).setRow _
  have hB : Below w.heap.size w w0 := by rw [hw0]; exact bSetRow ((((((Below.refl _ w).alloc (Nat.le_refl _) _).alloc (by simp) _).alloc (by simp <;> omega) _).alloc (by simp <;> omega) _).alloc (by simp <;> omega) _) (by omega) _
  obtain ⟨A, hA⟩ : ∃ A, A = be a := ⟨_, rfl⟩
  obtain ⟨V0, hV0⟩ : ∃ V0, V0 = be b := ⟨_, rfl⟩
  have hlV : V0 < Gf.lim := by rw [hV0]; exact be_lim b hb
  have haA : a = fB A := by rw [hA, fB_be a ha]
  have hgp : gprod a b = fB (Gf.Pk A V0 128) := by rw [gprod_fB a b ha hb, hA, hV0]; rfl
  rw [← hA, ← hV0] at h5
  rw [← hV0] at h6
  rw [haA] at h2
  have HG := Lib.hid hgp
  have HLV := Lib.hid hlV
  clear hw0 hA hV0 hgp hlV haA ha hb ha16 hb16
  go_loopg [7] 128 (fun n iv wr => ∃ k : Nat, n + k = 128 ∧ iv = .int .i64 k ∧ Row wr w.heap.size 84 (AB (fB A)) ∧ RowN wr (w.heap.size + 1 + 1) 84 16 ∧ Row wr (w.heap.size + 1 + 1 + 1) 84 (AB (fB (Gf.Pk A V0 k))) ∧ Row wr (w.heap.size + 1 + 1 + 1 + 1) 84 (AB (fB (Gf.Sn k V0))) ∧ Below w.heap.size w wr)
  case atStart => exact ⟨0, by omega, rfl, h2, h4, h5, h6, hB⟩
  case round =>
    clear h2 h4 h5 h6 hB
    obtain ⟨k, hk, rfl, h2, h4, h5, h6, hB⟩ := hrel
    have l6 := h6.lt
    by_cases hk8 : k < 128
    · 
      --<A
      have b1 : (k : Int) < 128 := by omega
      obtain ⟨q, r, hqr, hq, hr⟩ : ∃ q r, k = 8 * q + r ∧ q < 16 ∧ r < 8 := ⟨k / 8, k % 8, by omega, by omega, by omega⟩
      have e1 : (k : Int) / 8 = (q : Int) := by omega
      have e2 : (k : Int) % 8 = (r : Int) := by omega
      have e3 : Int.tdiv (k : Int) 8 = (q : Int) := by rw [Int.tdiv_eq_ediv_of_nonneg (by omega)]; exact e1
      have e4 : Int.tmod (k : Int) 8 = (r : Int) := by rw [Int.tmod_eq_emod_of_nonneg (by omega)]; exact e2
      have e5 : (7 : Int) - (r : Int) = ((7 - r : Nat) : Int) := by omega
      have hbit := bit_nb A q r hq hr
      rw [← hqr] at hbit
      have hfl := fB_len A
      have b2 : (q : Int) < 16 := by omega
      have hZn : Gf.Pk A V0 (k + 1) = if A.testBit (127 - k) then Gf.Pk A V0 k ^^^ Gf.Sn k V0 else Gf.Pk A V0 k := rfl
      have hVn : Gf.Sn (k + 1) V0 = Gf.S (Gf.Sn k V0) := rfl
      have hVl : Gf.Sn k V0 < Gf.lim := Gf.Sn_lt k V0 HLV.out
      obtain ⟨Z, hZ⟩ : ∃ Z, Z = Gf.Pk A V0 k := ⟨_, rfl⟩
      obtain ⟨V, hV⟩ : ∃ V, V = Gf.Sn k V0 := ⟨_, rfl⟩
      rw [← hZ, ← hV] at hZn
      rw [← hV] at hVn hVl h6
      rw [← hZ] at h5
      have hlz := fB_len Z
      have hlv := fB_len V
      have hbt : (((gb (fB A) q).toNat : Int) / 2 ^ (7 - r)).tmod 2 = (((nb A q).toNat / 2 ^ (7 - r) % 2 : Nat) : Int) := by
        rw [fB_get A q hq, Int.tmod_eq_emod_of_nonneg (by exact Int.ediv_nonneg (by omega) (by exact Int.le_of_lt (Int.pow_pos (by omega))))]
        simp
      have HZN := Lib.hid hZn
      have HVN := Lib.hid hVn
      have HVL := Lib.hid hVl
      clear hZ hV hZn hVn hVl hqr
      obtain ⟨bt, hbb⟩ : ∃ bt, bt = A.testBit (127 - k) := ⟨_, rfl⟩
      rw [← hbb] at hbit
      have HBB := Lib.hid hbb
      have htest : ((((gb (fB A) q).toNat : Int) / 2 ^ (7 - r)).tmod 2 == 1) = bt := by
        rw [hbt, Bool.eq_iff_iff, ← hbit, beq_iff_eq]
        omega
      clear hbb hbit hbt
      go_upto_if 25 with (fail)
      clear htest
      go_cut [] (fun w2 => Row w2 w.heap.size 84 (AB (fB A)) ∧ RowN w2 (w.heap.size + 1 + 1) 84 16 ∧ Row w2 (w.heap.size + 1 + 1 + 1) 84 (AB (fB (Gf.Pk A V0 (k + 1)))) ∧ Row w2 (w.heap.size + 1 + 1 + 1 + 1) 84 (AB (fB V)) ∧ Below w.heap.size w w2)
      case first =>
        cases bt
        case false =>
          have e : Gf.Pk A V0 (k + 1) = Z := by rw [HZN.out, ← HBB.out, if_neg (by decide)]
          have HE := Lib.hid e
          clear e
          go_wp2_with fail
          go_meet
          case rel => exact ⟨h2, h4, by rw [HE.out]; exact h5, h6, hB⟩
        case true =>
          have e : Gf.Pk A V0 (k + 1) = Z ^^^ V := by rw [HZN.out, ← HBB.out, if_pos rfl]
          have HE := Lib.hid e
          clear e
          go_wp2_with fail
          rw [← zP_zero Z V] at h5
          go_loopg [8] 16 (fun n jv wr => ∃ j : Nat, n + j = 16 ∧ jv = .int .i64 j ∧ Row wr w.heap.size 84 (AB (fB A)) ∧ RowN wr (w.heap.size + 1 + 1) 84 16 ∧ Row wr (w.heap.size + 1 + 1 + 1) 84 (AB (zP Z V j)) ∧ Row wr (w.heap.size + 1 + 1 + 1 + 1) 84 (AB (fB V)) ∧ Below w.heap.size w wr)
          case atStart => exact ⟨0, by omega, rfl, h2, h4, h5, h6, hB⟩
          case round =>
            clear h2 h4 h5 h6 hB
            obtain ⟨j, hj, rfl, h2, h4, h5, h6, hB⟩ := hrel
            by_cases hj16 : j < 16
            · have b1 : (j : Int) < 16 := by omega
              have hx1 : (AB (zP Z V j))[j]? = some (B (nb Z j)) := by rw [AB_get _ _ (by rw [zP_len]; exact hj16), zP_get Z V j hj16]
              have hx2 : (AB (fB V))[j]? = some (B (nb V j)) := by rw [AB_get _ _ (by rw [fB_len]; exact hj16), fB_get V j hj16]
              have hs1 : (AB (zP Z V j)).size = 16 := by rw [AB_size, zP_len]
              have hst : (zP Z V j).set j (xr (gb (zP Z V j) j) (gb (fB V) j)) = zP Z V (j + 1) := by rw [zP_get Z V j hj16, fB_get V j hj16]; exact zP_step Z V j
              have HST := Lib.hid hst
              clear hst
              go_wp2_with fail
              refine wp_region_qtail (fun w' => w' = _) 8 (by kernel_rfl) (by kernel_rfl) rfl ?_
              simp only [List.take_succ_cons, List.take_zero, List.drop_succ_cons, List.drop_zero]
              repeat (first | go_big_quiet_skip | (go_big_quiet_want; go_big_quiet_op; go_big_quiet_on))
              refine wpQuiet_nil ?_
              rintro _ rfl
              go_wp2_with fail
              go_roundg (gk - 1)
              case measure => omega
              case rel => exact ⟨j + 1, by omega, by go_num, h2.drew.setOther _ _ (by simp; try omega), (by obtain ⟨z, hz, hzs⟩ := h4; exact ⟨z, hz.drew.setOther _ _ (by simp; try omega), hzs⟩), by rw [← HST.out]; exact h5.drew.setByte j _, h6.drew.setOther _ _ (by simp; try omega), hB.drew.setCell (by simp; omega) _⟩
            · obtain rfl : j = 16 := by omega
              rw [zP_full] at h5
              go_wp2_with fail
              go_meet
              case rel => exact ⟨h2, h4, by rw [HE.out]; exact h5, h6, hB⟩
      case rest =>
        clear h2 h4 h5 h6 hB HZN HBB
        obtain ⟨h2, h4, h5, h6, hB⟩ := hcut
        obtain ⟨Zn, hZn⟩ : ∃ Z, Z = Gf.Pk A V0 (k + 1) := ⟨_, rfl⟩
        rw [← hZn] at h5
        have HZ2 := Lib.hid hZn
        clear hZn
        have hlast : (((gb (fB V) 15).toNat : Int).tmod 2) = ((V % 2 : Nat) : Int) := by
          rw [fB_get V 15 (by omega), Int.tmod_eq_emod_of_nonneg (by omega), ← last_nb]
          simp
        go_upto_region 12 with (fail)
        rw [← vP_zero V] at h6
        go_wp2_with fail
        obtain ⟨no, rfl⟩ : ∃ no : Nat, no = gk := ⟨_, rfl⟩
        clear hlv hlast
        go_loopg [10] 16 (fun n jv wr => ∃ m : Nat, n + m = 16 ∧ jv = .int .i64 (15 - (m : Int)) ∧ Row wr w.heap.size 84 (AB (fB A)) ∧ RowN wr (w.heap.size + 1 + 1) 84 16 ∧ Row wr (w.heap.size + 1 + 1 + 1) 84 (AB (fB Zn)) ∧ Row wr (w.heap.size + 1 + 1 + 1 + 1) 84 (AB (vP V m)) ∧ Below w.heap.size w wr)
        case atStart => exact ⟨0, by omega, rfl, h2, h4, h5, h6, hB⟩
        case round =>
          clear h2 h4 h5 h6 hB
          obtain ⟨m, hm, rfl, h2, h4, h5, h6, hB⟩ := hrel
          have l6 := h6.lt
          by_cases hm16 : m < 16
          · obtain ⟨k2, hk2⟩ : ∃ k2, m + k2 = 15 := ⟨15 - m, by omega⟩
            have hc : 15 - (m : Int) = (k2 : Int) := by omega
            rw [hc]
            have c1 : (0 : Int) ≤ (k2 : Int) := by omega
            have c2 : (k2 : Int) < 16 := by omega
            have hlv := vP_len V m
            have hg0 := vP_get V m k2 (by omega)
            obtain ⟨L, hL⟩ : ∃ L, L = vP V m := ⟨_, rfl⟩
            rw [← hL] at h6 hlv hg0
            have HL := Lib.hid hL
            have HG0 := Lib.hid hg0
            clear hc hg0 hL
            have l4 := h4.lt
            by_cases hk0 : k2 = 0
            · subst hk0
              have hst : L.set 0 (sr (gb L 0)) = vP V (m + 1) := by
                rw [HL.out]
                exact vP_step V m 0 hk2 _ (by rw [← HL.out, HG0.out]; exact sr_nb V HVL.out)
              have HST := Lib.hid hst
              clear hst
              go_wp2_with fail
              go_roundg (gk - 1)
              case measure => omega
              case rel => exact ⟨m + 1, by omega, by go_num, h2.setOther _ _ (by simp; try omega), (by obtain ⟨z, hz, hzs⟩ := h4; exact ⟨z, hz.setOther _ _ (by simp; try omega), hzs⟩), h5.setOther _ _ (by simp; try omega), by rw [← HST.out]; exact h6.setByte 0 _, hB.setCell (by simp; omega) _⟩
            · obtain ⟨k3, hk3⟩ : ∃ k3, k2 = k3 + 1 := ⟨k2 - 1, by omega⟩
              have c3 : (0 : Int) < (k2 : Int) := by omega
              have c4 : (k2 : Int) - 1 = (k3 : Int) := by omega
              have c5 : (k3 : Int) < 16 := by omega
              have hg3 : gb L k3 = nb V k3 := by rw [HL.out]; exact vP_get V m k3 (by omega)
              have HK3 := Lib.hid hk3
              have hkn : k2 < 16 := by omega
              have hk3n : k3 < 16 := by omega
              clear hk3
              go_upto_region 17 with (fail)
              have hk3 := HK3.out
              obtain ⟨L1, hL1⟩ : ∃ L1, L1 = L.set k2 (sr (gb L k2)) := ⟨_, rfl⟩
              obtain ⟨w3, hw3⟩ : ∃ w3, w3 = wr.setCell ⟨w.heap.size + 1 + 1 + 1 + 1, k2, none⟩ (B (sr (gb L k2))) := ⟨_, rfl⟩
              rw [← hw3]
              have hgl1 : gb L1 k2 = sr (nb V k2) := by rw [hL1, gb_set _ _ _ _ (by omega), if_pos rfl, HG0.out]
              have hgl0 : gb L1 k3 = nb V k3 := by rw [hL1, gb_set _ _ _ _ (by omega), if_neg (by omega), hg3]
              have hl1 : L1.length = 16 := by rw [hL1, List.length_set]; exact hlv
              have hst : L1.set k2 (sro (gb L1 k2) (gb L1 k3)) = vP V (m + 1) := by
                rw [hgl1, hgl0, hL1, List.set_set, HL.out]
                exact vP_step V m k2 hk2 _ (by rw [show k3 = k2 - 1 by omega]; exact sro_nb V k2 (by omega) (by omega))
              have g2 : Row w3 w.heap.size 84 (AB (fB A)) := by rw [hw3]; exact h2.setOther _ _ (by simp; try omega)
              have g4 : RowN w3 (w.heap.size + 1 + 1) 84 16 := by rw [hw3]; obtain ⟨z, hz, hzs⟩ := h4; exact ⟨z, hz.setOther _ _ (by simp; try omega), hzs⟩
              have g5 : Row w3 (w.heap.size + 1 + 1 + 1) 84 (AB (fB Zn)) := by rw [hw3]; exact h5.setOther _ _ (by simp; try omega)
              have g6 : Row w3 (w.heap.size + 1 + 1 + 1 + 1) 84 (AB L1) := by rw [hw3, hL1]; exact h6.setByte k2 _
              have gB : Below w.heap.size w w3 := by rw [hw3]; exact hB.setCell (by simp; omega) _
              have HST := Lib.hid hst
              clear hk3 hst hgl1 hgl0 hw3 hL1 hg3 h2 h4 h5 h6 hB HL HG0
              refine wp_region_qtail (fun w' => w' = _) 10 (by kernel_rfl) (by kernel_rfl) rfl ?_
              simp only [List.take_succ_cons, List.take_zero, List.drop_succ_cons, List.drop_zero]
              repeat (first | go_big_quiet_skip | (go_big_quiet_want; go_big_quiet_op; go_big_quiet_on))
              refine wpQuiet_nil ?_
              rintro _ rfl
              go_wp2_with fail
              go_roundg (gk - 1)
              case measure => omega
              case rel => exact ⟨m + 1, by omega, by go_num, g2.drew.setOther _ _ (by simp; try omega), (by obtain ⟨z, hz, hzs⟩ := g4; exact ⟨z, hz.drew.setOther _ _ (by simp; try omega), hzs⟩), g5.drew.setOther _ _ (by simp; try omega), by rw [← HST.out]; exact g6.drew.setByte k2 _, gB.drew.setCell (by simp; omega) _⟩
          · obtain rfl : m = 16 := by omega
            rw [vP_full] at h6
            have hfl2 := fB_len (V / 2)
            have l4 := h4.lt
            by_cases hodd : V % 2 = 1
            · have hsn : (fB (V / 2)).set 0 (xr (gb (fB (V / 2)) 0) 225) = fB (Gf.Sn (k + 1) V0) := by
                rw [HVN.out, fB_get _ 0 (by omega), red_nb, Gf.S, if_pos hodd]
              have HSN := Lib.hid hsn
              have ho1 : (V : Int) % 2 = 1 := by omega
              have hx : ∀ x : UInt8, bits .xor .u8 (x.toNat : Int) 225 = ((xr x 225).toNat : Int) := fun x => bx8 x 225
              clear hsn hodd
              go_wp2_with fail
              go_roundg (no - 1)
              case measure => omega
              case rel => exact ⟨k + 1, by omega, by go_num, h2.setOther _ _ (by simp; try omega), (by obtain ⟨z, hz, hzs⟩ := h4; exact ⟨z, hz.setOther _ _ (by simp; try omega), hzs⟩), by rw [← HZ2.out]; exact h5.setOther _ _ (by simp; try omega), by rw [← HSN.out]; exact h6.setByte 0 _, hB.setCell (by simp; omega) _⟩
            · have hsn : fB (V / 2) = fB (Gf.Sn (k + 1) V0) := by rw [HVN.out, Gf.S, if_neg hodd]
              have HSN := Lib.hid hsn
              have ho1 : ((V : Int) % 2 == 1) = false := by rw [beq_eq_false_iff_ne]; omega
              clear hsn hodd
              go_wp2_with fail
              go_roundg (no - 1)
              case measure => omega
              case rel => exact ⟨k + 1, by omega, by go_num, h2, h4, by rw [← HZ2.out]; exact h5, by rw [← HSN.out]; exact h6, hB⟩
      --A>
    · 
      --<B
      obtain rfl : k = 128 := by omega
      have hfl := fB_len (Gf.Pk A V0 128)
      have hf16 := (AB_size _).trans hfl
      obtain ⟨Rr, hR⟩ : ∃ R, R = fB (Gf.Pk A V0 128) := ⟨_, rfl⟩
      rw [← hR] at h5 hf16
      have HR := Lib.hid hR
      obtain ⟨z, hz, hzs⟩ := h4
      clear hR hfl
      go_wp2_with fail
      exact ret_row (.inl rfl) rfl (w.heap.size + 1 + 1) _ _ 16 _ rfl (hz.setRow _) Tryd.underlying84 rfl (by kernel_rfl) hf16 ⟨by rw [HG.out, HR.out], bSetRow hB (by omega) _⟩
      --B>
end Go.Proofs.YtcfbiafedfkbhaaDoor
