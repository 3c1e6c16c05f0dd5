/- The walks of the document's answer on blocks: mul, box. -/
import Derived.Test.YtjopgogaipkdbaaBlockA
import Derived.Test.YtjopgogaipkdbaaBlockLaw
import Derived.Deep.DeepCutAuto
import Derived.Deep.LoopGhost
namespace Go.Proofs.Ytjopgogaipkdbaa
open Go.RowKit

def dbn (a : UInt8) : Nat → UInt8
  | 0 => a
  | i + 1 => dbl (dbn a i)
def mlP (a b : UInt8) : Nat → UInt8
  | 0 => 0
  | i + 1 => if (((b.toNat : Int) / 2 ^ i).tmod 2 == 1) = true then xr (mlP a b i) (dbn a i) else mlP a b i
/-- The product, as the document has it. -/
def ml (a b : UInt8) : UInt8 := mlP a b 8

def topOk (n : Nat) : Bool :=
  let x := UInt8.ofNat n
  if (x.toNat : Int) / 128 == 1 then bits .xor .u8 ((x.toNat : Int) * 2 % 256) 27 == ((dbl x).toNat : Int) else ((x.toNat : Int) * 2 % 256) == ((dbl x).toNat : Int)
theorem topOk_all : (List.range 256).all topOk = true := by decide +kernel
theorem top_yes (x : UInt8) (h : ((x.toNat : Int) / 128 == 1) = true) : bits .xor .u8 ((x.toNat : Int) * 2 % 256) 27 = ((dbl x).toNat : Int) := by
  have := List.all_eq_true.1 topOk_all x.toNat (List.mem_range.2 x.toNat_lt)
  simp only [topOk, UInt8.ofNat_toNat, h, if_true] at this
  exact eq_of_beq this
theorem top_no (x : UInt8) (h : ((x.toNat : Int) / 128 == 1) = false) : ((x.toNat : Int) * 2 % 256) = ((dbl x).toNat : Int) := by
  have := List.all_eq_true.1 topOk_all x.toNat (List.mem_range.2 x.toNat_lt)
  simp only [topOk, UInt8.ofNat_toNat, h, Bool.false_eq_true, if_false] at this
  exact eq_of_beq this
theorem int_congr {k : IntKind} {a b : Int} (h : a = b) : Value.int k a = .int k b := by rw [h]

set_option maxRecDepth 100000 in
set_option maxHeartbeats 2000000 in
theorem mul_any (a b : UInt8) (w : World) : Calls Try.prog 43 #[B a, B b] w fun e w' => e = .returned (B (ml a b)) ∧ w = w' := by
  go_enter Try.func43, Try.ntmps43
  go_wp2_with fail
  go_loopg [0, 5, 6] 8 (fun n x p i wr => ∃ k : Nat, n + k = 8 ∧ i = .int .i64 k ∧ x = B (dbn a k) ∧ p = B (mlP a b k) ∧ w = wr)
  case atStart => exact ⟨0, by omega, rfl, rfl, rfl, rfl⟩
  case round =>
    obtain ⟨k, hk, rfl, rfl, rfl, rfl⟩ := hrel
    by_cases h : k < 8
    · have b1 : (k : Int) < 8 := by omega
      obtain ⟨x, hx⟩ : ∃ x, x = dbn a k := ⟨_, rfl⟩
      obtain ⟨y, hy⟩ : ∃ y, y = mlP a b k := ⟨_, rfl⟩
      rw [← hx, ← hy]
      have HX := Lib.hid hx
      have HY := Lib.hid hy
      clear hx hy
      cases e1 : (((b.toNat : Int) / 2 ^ k).tmod 2 == 1)
      · cases e2 : ((x.toNat : Int) / 128 == 1)
        · have HT := Lib.hid (top_no x e2)
          go_wp2_with fail
          go_roundg (gk - 1)
          case measure => omega
          case rel => exact ⟨k + 1, by omega, by go_num, by rw [dbn, ← HX.out]; exact int_congr HT.out, by rw [mlP, e1, HY.out]; rfl, rfl⟩
        · have HT := Lib.hid (top_yes x e2)
          go_wp2_with fail
          go_roundg (gk - 1)
          case measure => omega
          case rel => exact ⟨k + 1, by omega, by go_num, by rw [dbn, ← HX.out]; exact int_congr HT.out, by rw [mlP, e1, HY.out]; rfl, rfl⟩
      · cases e2 : ((x.toNat : Int) / 128 == 1)
        · have HT := Lib.hid (top_no x e2)
          go_wp2_with fail
          go_roundg (gk - 1)
          case measure => omega
          case rel => exact ⟨k + 1, by omega, by go_num, by rw [dbn, ← HX.out]; exact int_congr HT.out, by rw [mlP, e1, ← HY.out, ← HX.out]; rfl, rfl⟩
        · have HT := Lib.hid (top_yes x e2)
          go_wp2_with fail
          go_roundg (gk - 1)
          case measure => omega
          case rel => exact ⟨k + 1, by omega, by go_num, by rw [dbn, ← HX.out]; exact int_congr HT.out, by rw [mlP, e1, ← HY.out, ← HX.out]; rfl, rfl⟩
    · obtain rfl : k = 8 := by omega
      have e : mlP a b 8 = ml a b := rfl
      rw [e]
      go_wp2_with fail
      go_ret
      exact ⟨rfl, rfl⟩
end Go.Proofs.Ytjopgogaipkdbaa
