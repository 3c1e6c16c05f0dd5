/- What block's Seal and Open reckon. -/
import Derived.Test.YtjopgogaipkdbaaNewSpec
namespace Go.Proofs.Ytjopgogaipkdbaa
open Go.RowKit

theorem keyC_vE (T K : List UInt8) (kv : Value) (n : Nat) (hn : n < (keyC T K kv).size) (h : T.length + K.length = n) : (keyC T K kv)[n] = kv := by
  have := keyC_v T K kv n h
  rw [Array.getElem?_eq_getElem hn] at this
  exact Option.some.inj this
theorem keyC_TE (T K : List UInt8) (kv : Value) (i : Nat) (hn : i < (keyC T K kv).size) (h : i < T.length) : (keyC T K kv)[i] = B (gb T i) := by
  have := keyC_T T K kv i h
  rw [Array.getElem?_eq_getElem hn] at this
  exact Option.some.inj this
theorem keyC_KE (T K : List UInt8) (kv : Value) (i n : Nat) (hn : n + i < (keyC T K kv).size) (hT : T.length = n) (h : i < K.length) : (keyC T K kv)[n + i] = B (gb K i) := by
  have := keyC_K T K kv i n hT h
  rw [Array.getElem?_eq_getElem hn] at this
  exact Option.some.inj this
/-- A round's key. -/
def rk (W : List UInt8) (r : Nat) : List UInt8 := (W.drop (r * 16)).take 16
theorem rk_len (W : List UInt8) (m r : Nat) (h : W.length = 16 * m) (hr : r < m) : (rk W r).length = 16 := by simp [rk]; omega
def subL (b : List UInt8) (k : Nat) : List UInt8 := tab 16 fun i => if i < k then gb boxT (gb b ((i + 4 * (i % 4)) % 16)).toNat else 0
theorem subL_len (b : List UInt8) (k : Nat) : (subL b k).length = 16 := tab_length _ _
theorem subL_zero (b : List UInt8) : subL b 0 = List.replicate 16 0 := by
  have : subL b 0 = tab 16 fun _ => 0 := tab_congr fun i _ => by simp
  rw [this]; rfl
theorem subL_step (b : List UInt8) (k : Nat) (_h : k < 16) : (subL b k).set k (gb boxT (gb b ((k + 4 * (k % 4)) % 16)).toNat) = subL b (k + 1) := by
  unfold subL
  rw [tab_set]
  apply tab_congr
  intro i hi
  by_cases h1 : i = k
  · subst h1; simp
  · by_cases h2 : i < k
    · simp [h1, h2, show i < k + 1 by omega]
    · simp [h1, h2, show ¬ i < k + 1 by omega]
def sround (W : List UInt8) (last : Nat) (b : List UInt8) (r : Nat) : List UInt8 :=
  addF (if r < last then mixL (subL b 16) [2, 3, 1, 1] 16 0 else subL b 16) (rk W r) 16
def sealN (W : List UInt8) (last : Nat) (b : List UInt8) : Nat → List UInt8
  | 0 => addF b (rk W 0) 16
  | r + 1 => sround W last (sealN W last b r) (r + 1)
/-- A block, turned by the rounds' keys W. -/
def sealF (W b : List UInt8) : List UInt8 := sealN W (W.length / 16 - 1) b (W.length / 16 - 1)
theorem sealN_len (W : List UInt8) (last : Nat) (b : List UInt8) (r : Nat) : (sealN W last b r).length = 16 := by cases r <;> exact addF_len _ _ _
theorem sealF_len (W b : List UInt8) : (sealF W b).length = 16 := sealN_len _ _ _ _
/-- Where a byte goes back to. -/
def unL (b : List UInt8) (k : Nat) : List UInt8 := tab 16 fun j => if (j + 12 * (j % 4)) % 16 < k then gb boxK (gb b ((j + 12 * (j % 4)) % 16)).toNat else 0
theorem unL_len (b : List UInt8) (k : Nat) : (unL b k).length = 16 := tab_length _ _
theorem unL_zero (b : List UInt8) : unL b 0 = List.replicate 16 0 := by
  have : unL b 0 = tab 16 fun _ => 0 := tab_congr fun i _ => by simp
  rw [this]; rfl
theorem unL_step (b : List UInt8) (k : Nat) (h : k < 16) : (unL b k).set ((k + 4 * (k % 4)) % 16) (gb boxK (gb b k).toNat) = unL b (k + 1) := by
  unfold unL
  rw [tab_set]
  apply tab_congr
  intro j hj
  by_cases h1 : j = (k + 4 * (k % 4)) % 16
  · have e : (j + 12 * (j % 4)) % 16 = k := by omega
    simp [h1] at e ⊢
    simp [e]
  · have e : (j + 12 * (j % 4)) % 16 ≠ k := by omega
    by_cases h2 : (j + 12 * (j % 4)) % 16 < k
    · simp [h1, h2, show (j + 12 * (j % 4)) % 16 < k + 1 by omega]
    · simp [h1, h2, show ¬ (j + 12 * (j % 4)) % 16 < k + 1 by omega]
def oround (W : List UInt8) (last : Nat) (b : List UInt8) (r : Nat) : List UInt8 :=
  unL (if r < last then mixL (addF b (rk W r) 16) [14, 11, 13, 9] 16 0 else addF b (rk W r) 16) 16
/-- What is still to be done from round r down. -/
def openD (W : List UInt8) (last : Nat) : Nat → List UInt8 → List UInt8
  | 0, b => addF b (rk W 0) 16
  | r + 1, b => openD W last r (oround W last b (r + 1))
/-- A block, turned back. -/
def openF (W b : List UInt8) : List UInt8 := openD W (W.length / 16 - 1) (W.length / 16 - 1) b
theorem openD_len (W : List UInt8) (last : Nat) (r : Nat) (b : List UInt8) : (openD W last r b).length = 16 := by
  induction r generalizing b with
  | zero => exact addF_len _ _ _
  | succ r ih => exact ih _
theorem openF_len (W b : List UInt8) : (openF W b).length = 16 := openD_len _ _ _ _
end Go.Proofs.Ytjopgogaipkdbaa
