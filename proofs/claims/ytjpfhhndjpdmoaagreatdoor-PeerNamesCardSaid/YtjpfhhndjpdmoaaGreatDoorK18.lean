/- Part of the proof: RedLaw. No conditions of its own. -/
import Derived.BigQuiet
import Derived.Deep.Quiet
import Derived.Deep.QuietTactic
import Derived.Lib.Hide
import Derived.StillTail
import Derived.WalkKit
import Derived.Test.YtjpfhhndjpdmoaaGreatDoorK16
namespace Go.Proofs.YtjpfhhndjpdmoaaGreatDoor
set_option linter.unusedVariables false

theorem addMul (P t c : Nat) : (((P % 18446744073709551616 + t) % 18446744073709551616 + c) % 18446744073709551616 = (P + t + c) % 18446744073709551616) ∧
    (P / 18446744073709551616 + (P % 18446744073709551616 + t) / 18446744073709551616 + ((P % 18446744073709551616 + t) % 18446744073709551616 + c) / 18446744073709551616 = (P + t + c) / 18446744073709551616) := by
  constructor <;> omega
theorem mul_max {x y : Nat} (hx : x < 18446744073709551616) (hy : y < 18446744073709551616) : x * y ≤ 340282366920938463426481119284349108225 := by
  have : x * y ≤ 18446744073709551615 * 18446744073709551615 := Nat.mul_le_mul (by omega) (by omega)
  exact this
theorem addMul_lt {x y t c : Nat} (hx : x < 18446744073709551616) (hy : y < 18446744073709551616) (ht : t < 18446744073709551616) (hc : c < 18446744073709551616) : (x * y + t + c) / 18446744073709551616 < 18446744073709551616 := by
  have h := mul_max hx hy
  rw [Nat.div_lt_iff_lt_mul (by decide)]
  have e : (18446744073709551616 : Nat) * 18446744073709551616 = 340282366920938463463374607431768211456 := rfl
  rw [e]
  omega
def caS (T x a i : Nat) : Nat := (T % pw i + x * (a % pw i)) / pw i
theorem caS_zero (T x a : Nat) : caS T x a 0 = 0 := by unfold caS; rw [pw0, Nat.mod_one, Nat.mod_one, Nat.mul_zero]
theorem caS_lt (T x a i : Nat) (hx : x < 18446744073709551616) : caS T x a i < 18446744073709551616 := by
  unfold caS
  have h := pw_pos i
  have h1 := Nat.mod_lt T h
  have h2 := Nat.mod_lt a h
  rw [Nat.div_lt_iff_lt_mul h]
  have h3 : x * (a % pw i) ≤ 18446744073709551615 * (pw i - 1) := Nat.mul_le_mul (by omega) (by omega)
  omega
theorem caS_step (T x a i : Nat) : (x * lim a i + lim T i + caS T x a i) % 18446744073709551616 = lim (T + x * a) i ∧ (x * lim a i + lim T i + caS T x a i) / 18446744073709551616 = caS T x a (i + 1) := by
  have h := pw_pos i
  have hT := mod_pw_succ T i
  have ha := mod_pw_succ a i
  obtain ⟨P, hP⟩ : ∃ P, P = pw i := ⟨_, rfl⟩
  obtain ⟨V, hV⟩ : ∃ V, V = T % P + x * (a % P) := ⟨_, rfl⟩
  have hca : caS T x a i = V / P := by rw [hV, hP]; rfl
  have hVd := Nat.div_add_mod V P
  have hr : V % P < P := Nat.mod_lt _ (by rw [hP]; exact h)
  rw [← hP] at h hT ha
  have hs : T % pw (i + 1) + x * (a % pw (i + 1)) = (x * lim a i + lim T i + V / P) * P + V % P := by
    rw [hT, ha, Nat.mul_add, Nat.add_mul, Nat.add_mul, ← Nat.mul_assoc x (lim a i) P, Nat.mul_comm (V / P) P]
    omega
  have hd : (T % pw (i + 1) + x * (a % pw (i + 1))) / P = x * lim a i + lim T i + V / P := by
    rw [hs, Nat.mul_comm _ P, Nat.mul_add_div h, Nat.div_eq_of_lt hr, Nat.add_zero]
  rw [hca]
  constructor
  · obtain ⟨M, hM⟩ : ∃ M, M = pw (i + 1) := ⟨_, rfl⟩
    have hMP : M = P * 18446744073709551616 := by rw [hM, pw_succ, hP]
    have h1 : (x * a) % M = (x * (a % M)) % M := by rw [Nat.mul_mod x a, Nat.mul_mod x (a % M), Nat.mod_mod]
    have e2 : (T + x * a) % M = (T % M + x * (a % M)) % M := by rw [Nat.add_mod, h1, Nat.add_mod_mod]
    rw [← hM] at hd
    have e3 : lim (T + x * a) i = (T + x * a) % M / P := by
      rw [lim_eq, ← hP, hMP, Nat.mod_mul_right_div_self]
    rw [e3, e2]
    have e4 : (T % M + x * (a % M)) % M / P = (T % M + x * (a % M)) / P % 18446744073709551616 := by
      conv => lhs; rw [hMP]
      rw [← hMP, hMP, Nat.mod_mul_right_div_self]
    rw [e4, hd]
  · have e : caS T x a (i + 1) = (T % pw (i + 1) + x * (a % pw (i + 1))) / P / 18446744073709551616 := by
      rw [Nat.div_div_eq_div_mul, hP, ← pw_succ]
      rfl
    rw [e, hd]
theorem caS_four (T x a : Nat) (ha : a < R256) : T / R256 + caS T x a 4 = (T + x * a) / R256 := by
  unfold caS
  rw [pw4, Nat.mod_eq_of_lt ha]
  have hd := Nat.div_add_mod T R256
  have e : T + x * a = R256 * (T / R256) + (T % R256 + x * a) := by omega
  conv => rhs; rw [e]
  rw [Nat.mul_add_div (by decide)]
def rowT (T v : Nat) : List Nat := [lim T 0, lim T 1, lim T 2, lim T 3, T / R256, v]
def row1 (S T v i : Nat) : List Nat := [if 0 < i then lim S 0 else lim T 0, if 1 < i then lim S 1 else lim T 1, if 2 < i then lim S 2 else lim T 2, if 3 < i then lim S 3 else lim T 3, T / R256, v]
theorem row1_step (S T v i : Nat) (h : i < 4) : (row1 S T v i).set i (lim S i) = row1 S T v (i + 1) := by
  have : i = 0 ∨ i = 1 ∨ i = 2 ∨ i = 3 := by omega
  rcases this with rfl | rfl | rfl | rfl <;> rfl
theorem row1_get (S T v i : Nat) (h : i < 4) : (row1 S T v i).getD i 0 = lim T i := by
  have : i = 0 ∨ i = 1 ∨ i = 2 ∨ i = 3 := by omega
  rcases this with rfl | rfl | rfl | rfl <;> rfl
def rowS (S : Nat) : List Nat := [lim S 0, lim S 1, lim S 2, lim S 3, S / R256 % 18446744073709551616, S / R256 / 18446744073709551616]
theorem row1_four (S T v : Nat) : ((row1 S T v 4).set 4 (S / R256 % 18446744073709551616)).set 5 (S / R256 / 18446744073709551616) = rowS S := rfl
def row2 (S W i : Nat) : List Nat := [if 1 < i then lim W 1 else lim S 0, if 2 < i then lim W 2 else lim S 1, if 3 < i then lim W 3 else lim S 2, lim S 3, S / R256 % 18446744073709551616, S / R256 / 18446744073709551616]
theorem row2_one (S W : Nat) : row2 S W 1 = rowS S := rfl
theorem row2_step (S W i : Nat) (h0 : 1 ≤ i) (h : i < 4) : (row2 S W i).set (i - 1) (lim W i) = row2 S W (i + 1) := by
  have : i = 1 ∨ i = 2 ∨ i = 3 := by omega
  rcases this with rfl | rfl | rfl <;> rfl
theorem row2_get (S W i : Nat) (h0 : 1 ≤ i) (h : i < 4) : (row2 S W i).getD i 0 = lim S i := by
  have : i = 1 ∨ i = 2 ∨ i = 3 := by omega
  rcases this with rfl | rfl | rfl <;> rfl
theorem lim_succ (W j : Nat) : lim (W / 18446744073709551616) j = lim W (j + 1) := by
  rw [lim_eq, lim_eq, Nat.div_div_eq_div_mul, pw_succ, Nat.mul_comm]
theorem row2_four (S W Y : Nat) (hY : Y = W / R256) : ((row2 S W 4).set 3 (Y % 18446744073709551616)).set 4 (Y / 18446744073709551616) = rowT (W / 18446744073709551616) (S / R256 / 18446744073709551616) := by
  unfold rowT
  rw [lim_succ, lim_succ, lim_succ]
  have e1 : lim (W / 18446744073709551616) 3 = Y % 18446744073709551616 := by rw [lim_succ, lim_eq, pw4, hY]
  have e2 : W / 18446744073709551616 / R256 = Y / 18446744073709551616 := by rw [hY, Nat.div_div_eq_div_mul, Nat.div_div_eq_div_mul, Nat.mul_comm]
  rw [e1, e2]
  rfl
theorem lim0_mod (S : Nat) : lim S 0 = S % 18446744073709551616 := by rw [lim_eq, pw0, Nat.div_one]
theorem S_high {T x a : Nat} (hT : T < 2 * R256) (hx : x < 18446744073709551616) (ha : a < R256) : (T + x * a) / R256 ≤ 18446744073709551616 := by
  have h : x * a ≤ 18446744073709551615 * R256 := Nat.mul_le_mul (by omega) (by omega)
  have : (T + x * a) / R256 < 18446744073709551617 := by
    rw [Nat.div_lt_iff_lt_mul (by decide)]
    omega
  omega
end Go.Proofs.YtjpfhhndjpdmoaaGreatDoor
