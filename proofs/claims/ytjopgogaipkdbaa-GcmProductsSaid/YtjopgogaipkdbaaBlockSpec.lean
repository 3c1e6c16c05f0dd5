/- What block's functions reckon, as plain functions on bytes and lists of bytes. -/
import Derived.Test.YtjopgogaipkdbaaKit
namespace Go.Proofs.Ytjopgogaipkdbaa
open Go.RowKit

/-- Twice an element. -/
def dbl (x : UInt8) : UInt8 := if x &&& 0x80 ≠ 0 then (x <<< 1) ^^^ 0x1B else x <<< 1
/-- The product by a number below 2^f: what is gathered is p. -/
def tmN : Nat → UInt8 → UInt8 → UInt8 → UInt8
  | 0, _, _, p => p
  | f + 1, a, n, p => if n = 0 then p else tmN f (dbl a) (n >>> 1) (if n &&& 1 = 1 then xr p a else p)
def tm (a n : UInt8) : UInt8 := tmN 8 a n 0
theorem tmN_zero (f : Nat) (a p : UInt8) : tmN f a 0 p = p := by cases f <;> simp [tmN]
theorem tmN_one {f : Nat} {a n p : UInt8} (h : n ≠ 0) (h1 : n &&& 1 = 1) : tmN (f + 1) a n p = tmN f (dbl a) (n >>> 1) (xr p a) := by simp [tmN, h, h1]
theorem tmN_two {f : Nat} {a n p : UInt8} (h : n ≠ 0) (h1 : n &&& 1 ≠ 1) : tmN (f + 1) a n p = tmN f (dbl a) (n >>> 1) p := by simp [tmN, h, h1]
/-- The bytes of a column put together by a row of four numbers: the first j of them. -/
def mixB (b r : List UInt8) (i : Nat) : Nat → UInt8
  | 0 => 0
  | j + 1 => xr (mixB b r i j) (tm (gb b (i / 4 * 4 + (i + j) % 4)) (gb r j))
/-- The first k bytes mixed, j parts of the one behind them. -/
def mixL (b r : List UInt8) (k j : Nat) : List UInt8 := tab 16 fun i => if i < k then mixB b r i 4 else if i = k then mixB b r k j else 0
theorem mixL_len (b r : List UInt8) (k j : Nat) : (mixL b r k j).length = 16 := tab_length _ _
theorem mixL_zero (b r : List UInt8) : mixL b r 0 0 = List.replicate 16 0 := by
  unfold mixL
  have : tab 16 (fun i => if i < 0 then mixB b r i 4 else if i = 0 then mixB b r 0 0 else 0) = tab 16 fun _ => 0 := tab_congr fun i _ => by
    by_cases h : i = 0 <;> simp [h, mixB]
  rw [this]; rfl
theorem mixL_step (b r : List UInt8) (k j : Nat) (hk : k < 16) :
    (mixL b r k j).set k (xr (gb (mixL b r k j) k) (tm (gb b (k / 4 * 4 + (k + j) % 4)) (gb r j))) = mixL b r k (j + 1) := by
  unfold mixL
  rw [tab_set, gb_tab _ hk]
  apply tab_congr
  intro i hi
  by_cases h : i = k
  · subst h; simp [mixB]
  · simp [h]
theorem mixL_next (b r : List UInt8) (k : Nat) : mixL b r k 4 = mixL b r (k + 1) 0 := by
  apply tab_congr
  intro i hi
  by_cases h : i = k
  · subst h; simp
  · by_cases h2 : i < k
    · simp [h2, show i < k + 1 by omega]
    · by_cases h3 : i = k + 1
      · subst h3; rw [if_neg (by omega), if_neg (by omega), if_neg (by omega), if_pos rfl]; rfl
      · simp [h, h2, h3, show ¬ i < k + 1 by omega]

/-- The first k bytes of a put together with those of b. -/
def addF (a b : List UInt8) (k : Nat) : List UInt8 := tab 16 fun i => if i < k then xr (gb a i) (gb b i) else gb a i
theorem addF_len (a b : List UInt8) (k : Nat) : (addF a b k).length = 16 := tab_length _ _
theorem addF_zero (a b : List UInt8) (h : a.length = 16) : addF a b 0 = a := by
  unfold addF
  simp [tab_gb h]
theorem addF_step (a b : List UInt8) (k : Nat) (h : k < 16) : (addF a b k).set k (xr (gb (addF a b k) k) (gb b k)) = addF a b (k + 1) := by
  unfold addF
  rw [tab_set, gb_tab _ h]
  apply tab_congr
  intro i hi
  simp
  by_cases h1 : i = k
  · simp [h1]
  · by_cases h2 : i < k
    · simp [h1, h2, show i < k + 1 by omega]
    · simp [h1, h2, show ¬ i < k + 1 by omega]

/-! ### one byte's operations as the walk spells them -/
theorem all8 {p : UInt8 → Prop} (h : ∀ n : Nat, n < 256 → p (UInt8.ofNat n)) (x : UInt8) : p x := by
  have := h x.toNat x.toNat_lt
  rwa [UInt8.ofNat_toNat] at this
def dblOk (n : Nat) : Bool :=
  let x := UInt8.ofNat n
  if bits .and .u8 (x.toNat : Int) 128 != 0 then bits .xor .u8 ((x.toNat : Int) * 2 % 256) 27 == ((dbl x).toNat : Int) else ((x.toNat : Int) * 2 % 256) == ((dbl x).toNat : Int)
theorem dblOk_all : (List.range 256).all dblOk = true := by decide +kernel
theorem dbl_yes (x : UInt8) (h : (bits .and .u8 (x.toNat : Int) 128 != 0) = true) : bits .xor .u8 ((x.toNat : Int) * 2 % 256) 27 = ((dbl x).toNat : Int) := by
  have := List.all_eq_true.1 dblOk_all x.toNat (List.mem_range.2 x.toNat_lt)
  simp only [dblOk, UInt8.ofNat_toNat, h, if_true] at this
  exact eq_of_beq this
theorem dbl_no (x : UInt8) (h : (bits .and .u8 (x.toNat : Int) 128 != 0) = false) : ((x.toNat : Int) * 2 % 256) = ((dbl x).toNat : Int) := by
  have := List.all_eq_true.1 dblOk_all x.toNat (List.mem_range.2 x.toNat_lt)
  simp only [dblOk, UInt8.ofNat_toNat, h, Bool.false_eq_true, if_false] at this
  exact eq_of_beq this
def halfOk (n : Nat) : Bool :=
  let x := UInt8.ofNat n
  (bits .and .u8 (x.toNat : Int) 1 == ((x &&& 1).toNat : Int)) && ((x.toNat : Int) / 2 == ((x >>> 1).toNat : Int)) && (bits .and .u8 (x.toNat : Int) 1 == 1) == decide (x &&& 1 = 1)
theorem halfOk_all : (List.range 256).all halfOk = true := by decide +kernel
theorem half_and (x : UInt8) : (bits .and .u8 (x.toNat : Int) 1 == 1) = decide (x &&& 1 = 1) := by
  have := List.all_eq_true.1 halfOk_all x.toNat (List.mem_range.2 x.toNat_lt)
  simp only [halfOk, UInt8.ofNat_toNat, Bool.and_eq_true] at this
  exact eq_of_beq this.2
theorem half_shr (x : UInt8) : (x.toNat : Int) / (2 : Int) = ((x >>> 1).toNat : Int) := by
  have := List.all_eq_true.1 halfOk_all x.toNat (List.mem_range.2 x.toNat_lt)
  simp only [halfOk, UInt8.ofNat_toNat, Bool.and_eq_true] at this
  exact eq_of_beq this.1.2
end Go.Proofs.Ytjopgogaipkdbaa
