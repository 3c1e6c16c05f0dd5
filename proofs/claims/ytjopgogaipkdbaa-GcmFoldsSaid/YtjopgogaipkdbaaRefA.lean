/- The walks of the document's answer on blocks: mul, box. -/
import Derived.Test.YtjopgogaipkdbaaBlockA
import Derived.Test.YtjopgogaipkdbaaSealSpec
import Derived.Deep.DeepCutAuto
import Derived.Deep.LoopGhost
import Derived.Test.YtjopgogaipkdbaaNewSpec
namespace Go.Proofs.Ytjopgogaipkdbaa
open Go.RowKit

def dbn (a : UInt8) : Nat → UInt8
  | 0 => a
  | i + 1 => dbl (dbn a i)
def mlP (a b : UInt8) : Nat → UInt8
  | 0 => 0
  | i + 1 => if (((b.toNat : Int) / 2 ^ i).tmod 2 == 1) = true then xr (mlP a b i) (dbn a i) else mlP a b i
/-- The product, as the document has it. -/
def ml (a b : UInt8) : UInt8 := mlP a b 8

def topOk (n : Nat) : Bool :=
  let x := UInt8.ofNat n
  if (x.toNat : Int) / 128 == 1 then bits .xor .u8 ((x.toNat : Int) * 2 % 256) 27 == ((dbl x).toNat : Int) else ((x.toNat : Int) * 2 % 256) == ((dbl x).toNat : Int)
theorem topOk_all : (List.range 256).all topOk = true := by decide +kernel
theorem top_yes (x : UInt8) (h : ((x.toNat : Int) / 128 == 1) = true) : bits .xor .u8 ((x.toNat : Int) * 2 % 256) 27 = ((dbl x).toNat : Int) := by
  have := List.all_eq_true.1 topOk_all x.toNat (List.mem_range.2 x.toNat_lt)
  simp only [topOk, UInt8.ofNat_toNat, h, if_true] at this
  exact eq_of_beq this
theorem top_no (x : UInt8) (h : ((x.toNat : Int) / 128 == 1) = false) : ((x.toNat : Int) * 2 % 256) = ((dbl x).toNat : Int) := by
  have := List.all_eq_true.1 topOk_all x.toNat (List.mem_range.2 x.toNat_lt)
  simp only [topOk, UInt8.ofNat_toNat, h, Bool.false_eq_true, if_false] at this
  exact eq_of_beq this
theorem int_congr {k : IntKind} {a b : Int} (h : a = b) : Value.int k a = .int k b := by rw [h]

set_option maxRecDepth 100000 in
set_option maxHeartbeats 2000000 in
theorem mul_any (a b : UInt8) (w : World) : Calls Try.prog 43 #[B a, B b] w fun e w' => e = .returned (B (ml a b)) ∧ w = w' := by
  go_enter Try.func43, Try.ntmps43
  go_wp2_with fail
  go_loopg [0, 5, 6] 8 (fun n x p i wr => ∃ k : Nat, n + k = 8 ∧ i = .int .i64 k ∧ x = B (dbn a k) ∧ p = B (mlP a b k) ∧ w = wr)
  case atStart => exact ⟨0, by omega, rfl, rfl, rfl, rfl⟩
  case round =>
    obtain ⟨k, hk, rfl, rfl, rfl, rfl⟩ := hrel
    by_cases h : k < 8
    · have b1 : (k : Int) < 8 := by omega
      obtain ⟨x, hx⟩ : ∃ x, x = dbn a k := ⟨_, rfl⟩
      obtain ⟨y, hy⟩ : ∃ y, y = mlP a b k := ⟨_, rfl⟩
      rw [← hx, ← hy]
      have HX := Lib.hid hx
      have HY := Lib.hid hy
      clear hx hy
      cases e1 : (((b.toNat : Int) / 2 ^ k).tmod 2 == 1)
      · cases e2 : ((x.toNat : Int) / 128 == 1)
        · have HT := Lib.hid (top_no x e2)
          go_wp2_with fail
          go_roundg (gk - 1)
          case measure => omega
          case rel => exact ⟨k + 1, by omega, by go_num, by rw [dbn, ← HX.out]; exact int_congr HT.out, by rw [mlP, e1, HY.out]; rfl, rfl⟩
        · have HT := Lib.hid (top_yes x e2)
          go_wp2_with fail
          go_roundg (gk - 1)
          case measure => omega
          case rel => exact ⟨k + 1, by omega, by go_num, by rw [dbn, ← HX.out]; exact int_congr HT.out, by rw [mlP, e1, HY.out]; rfl, rfl⟩
      · cases e2 : ((x.toNat : Int) / 128 == 1)
        · have HT := Lib.hid (top_no x e2)
          go_wp2_with fail
          go_roundg (gk - 1)
          case measure => omega
          case rel => exact ⟨k + 1, by omega, by go_num, by rw [dbn, ← HX.out]; exact int_congr HT.out, by rw [mlP, e1, ← HY.out, ← HX.out]; rfl, rfl⟩
        · have HT := Lib.hid (top_yes x e2)
          go_wp2_with fail
          go_roundg (gk - 1)
          case measure => omega
          case rel => exact ⟨k + 1, by omega, by go_num, by rw [dbn, ← HX.out]; exact int_congr HT.out, by rw [mlP, e1, ← HY.out, ← HX.out]; rfl, rfl⟩
    · obtain rfl : k = 8 := by omega
      have e : mlP a b 8 = ml a b := rfl
      rw [e]
      go_wp2_with fail
      go_ret
      exact ⟨rfl, rfl⟩
end Go.Proofs.Ytjopgogaipkdbaa

/- What the document's Keys reckons, beside block's. -/
namespace Go.Proofs.Ytjopgogaipkdbaa
open Go.RowKit

/-- l, with noughts up to L bytes. -/
def pad (l : List UInt8) (L : Nat) : List UInt8 := l ++ List.replicate (L - l.length) 0
theorem pad_len (l : List UInt8) (L : Nat) (h : l.length ≤ L) : (pad l L).length = L := by simp [pad]; omega
theorem pad_nil (L : Nat) : pad [] L = List.replicate L 0 := by simp [pad]
theorem pad_full (l : List UInt8) (L : Nat) (h : l.length = L) : pad l L = l := by subst h; simp [pad]
theorem gb_pad (l : List UInt8) (L i : Nat) (h : i < l.length) : gb (pad l L) i = gb l i := gb_append_left _ _ _ h
theorem pad_set (l : List UInt8) (L : Nat) (x : UInt8) (h : l.length < L) : (pad l L).set l.length x = pad (l ++ [x]) L := by
  unfold pad
  have : L - l.length = (L - (l ++ [x]).length) + 1 := by simp; omega
  rw [this, List.replicate_succ]
  simp
/-- The first i words of all rounds' keys. -/
def kw (n : Nat) (key : List UInt8) (i : Nat) : List UInt8 := if i ≤ n then key.take (4 * i) else (ks n key (i - n)).w
theorem kw_len (n : Nat) (key : List UInt8) (h : key.length = n * 4) (i : Nat) : (kw n key i).length = 4 * i := by
  unfold kw
  by_cases hi : i ≤ n
  · rw [if_pos hi, List.length_take]; omega
  · rw [if_neg hi, ks_len _ _ h]; omega
theorem kw_first (n : Nat) (key : List UInt8) (h : key.length = n * 4) (m : Nat) : kw n key (n + m) = (ks n key m).w := by
  unfold kw
  by_cases hi : n + m ≤ n
  · obtain rfl : m = 0 := by omega
    rw [if_pos (by omega), Nat.add_zero, List.take_of_length_le (by omega)]
    rfl
  · rw [if_neg hi]; congr 2; omega
theorem kw_step (n : Nat) (key : List UInt8) (h : key.length = n * 4) (i : Nat) (hi : i < n) : kw n key i ++ [gb key (4 * i), gb key (4 * i + 1), gb key (4 * i + 2), gb key (4 * i + 3)] = kw n key (i + 1) := by
  unfold kw
  rw [if_pos (by omega), if_pos (by omega), show 4 * (i + 1) = 4 * i + 4 by omega, List.take_add]
  congr 1
  apply gb_ext (by simp; omega)
  intro j hj
  have hj4 : j < 4 := by simp at hj; omega
  have e : gb (List.take 4 (List.drop (4 * i) key)) j = gb key (4 * i + j) := by simp [gb, hj4]
  rw [e]
  match j, hj4 with
  | 0, _ => rfl
  | 1, _ => rfl
  | 2, _ => rfl
  | 3, _ => rfl
def twoOk (n : Nat) : Bool := ml (UInt8.ofNat n) 2 == dbl (UInt8.ofNat n) && ml (UInt8.ofNat n) 3 == xr (UInt8.ofNat n) (dbl (UInt8.ofNat n))
theorem twoOk_all : (List.range 256).all twoOk = true := by decide +kernel
theorem ml_two (x : UInt8) : ml x 2 = dbl x := by
  have := List.all_eq_true.1 twoOk_all x.toNat (List.mem_range.2 x.toNat_lt)
  simp only [twoOk, UInt8.ofNat_toNat, Bool.and_eq_true] at this
  exact eq_of_beq this.1
theorem ml_three (x : UInt8) : ml x 3 = xr x (dbl x) := by
  have := List.all_eq_true.1 twoOk_all x.toNat (List.mem_range.2 x.toNat_lt)
  simp only [twoOk, UInt8.ofNat_toNat, Bool.and_eq_true] at this
  exact eq_of_beq this.2
/-- A word laid behind the words that are there. -/
theorem pad_over (l m : List UInt8) (L : Nat) : (pad l L).take l.length ++ m ++ (pad l L).drop (l.length + m.length) = pad (l ++ m) L := by
  unfold pad
  rw [List.take_left', List.drop_append]
  · rw [show l.length + m.length - l.length = m.length by omega, List.drop_of_length_le (show l.length ≤ l.length + m.length by omega), List.nil_append, List.drop_replicate]
    rw [List.length_append, show L - l.length - m.length = L - (l.length + m.length) by omega]
  · rfl
theorem ownsRow_low {w w' : World} {base e size n : Nat} {v : Value} {xs : List Value} (h : w.ownsRow base e size v n xs) (hb : Below w.heap.size w w') : w'.ownsRow base e size v n xs :=
  ⟨h.1, h.2.imp id fun ⟨g, cap, cur, hv, hg, hh, h1⟩ => ⟨g, cap, cur, hv, hg, (hb.block g (Array.getElem?_eq_some_iff.1 hh).1).trans hh, h1⟩⟩
end Go.Proofs.Ytjopgogaipkdbaa
