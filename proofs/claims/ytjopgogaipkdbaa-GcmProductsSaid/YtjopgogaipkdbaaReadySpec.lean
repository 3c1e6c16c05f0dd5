/- What block's ready makes: the two boxes, by the powers of three. -/
import Derived.Test.YtjopgogaipkdbaaBlockSpec
namespace Go.Proofs.Ytjopgogaipkdbaa
open Go.RowKit

def orr (a b : UInt8) : UInt8 := a ||| b
def shl (a n : UInt8) : UInt8 := a <<< n
def shr (a n : UInt8) : UInt8 := a >>> n
/-- q, a third of it: the sum ahead of the last step. -/
def q3 (q : UInt8) : UInt8 := xr (xr (xr q (shl q 1)) (shl (xr q (shl q 1)) 2)) (shl (xr (xr q (shl q 1)) (shl (xr q (shl q 1)) 2)) 4)
def qn (q : UInt8) : UInt8 := if q3 q &&& 0x80 ≠ 0 then xr (q3 q) 9 else q3 q
def affine (q : UInt8) : UInt8 :=
  xr (xr (xr (xr (xr q (orr (shl q 1) (shr q 7))) (orr (shl q 2) (shr q 6))) (orr (shl q 3) (shr q 5))) (orr (shl q 4) (shr q 4))) 0x63
structure Rd where
  p : UInt8
  q : UInt8
  T : List UInt8
  K : List UInt8
def rd : Nat → Rd
  | 0 => ⟨1, 1, List.replicate 256 0, List.replicate 256 0⟩
  | k + 1 =>
    let r := rd k
    let p := xr r.p (dbl r.p)
    let q := qn r.q
    let x := affine q
    ⟨p, q, r.T.set p.toNat x, r.K.set x.toNat p⟩
theorem rd_T (k : Nat) : (rd k).T.length = 256 := by
  induction k with
  | zero => exact List.length_replicate
  | succ k ih => simp [rd, ih]
theorem rd_K (k : Nat) : (rd k).K.length = 256 := by
  induction k with
  | zero => exact List.length_replicate
  | succ k ih => simp [rd, ih]
def pk : Nat → UInt8
  | 0 => 1
  | k + 1 => xr (pk k) (dbl (pk k))
theorem rd_p (k : Nat) : (rd k).p = pk k := by
  induction k with
  | zero => rfl
  | succ k ih => simp [rd, pk, ih]
def pkOk : Nat → UInt8 → Bool
  | 0, p => p == 1
  | k + 1, p => p != 1 && pkOk k (xr p (dbl p))
theorem pkOk_spec : ∀ (n k : Nat), pkOk n (pk k) = true → (∀ j, j < n → pk (k + j) ≠ 1) ∧ pk (k + n) = 1
  | 0, k, h => ⟨fun j hj => absurd hj (by omega), by simpa [pkOk] using h⟩
  | n + 1, k, h => by
    simp only [pkOk, Bool.and_eq_true, bne_iff_ne, ne_eq] at h
    obtain ⟨h1, h2⟩ := pkOk_spec n (k + 1) h.2
    refine ⟨fun j hj => ?_, by rw [← h2]; congr 1; omega⟩
    cases j with
    | zero => exact h.1
    | succ j => have := h1 j (by omega); rwa [show k + 1 + j = k + (j + 1) by omega] at this
theorem pk_round : (∀ k, k < 254 → pk (k + 1) ≠ 1) ∧ pk 255 = 1 := by
  have := pkOk_spec 254 1 (by decide +kernel)
  exact ⟨fun k hk => by have := this.1 k hk; rwa [Nat.add_comm] at this, this.2⟩
def boxT : List UInt8 := [99, 124, 119, 123, 242, 107, 111, 197, 48, 1, 103, 43, 254, 215, 171, 118, 202, 130, 201, 125, 250, 89, 71, 240, 173, 212, 162, 175, 156, 164, 114, 192, 183, 253, 147, 38, 54, 63, 247, 204, 52, 165, 229, 241, 113, 216, 49, 21, 4, 199, 35, 195, 24, 150, 5, 154, 7, 18, 128, 226, 235, 39, 178, 117, 9, 131, 44, 26, 27, 110, 90, 160, 82, 59, 214, 179, 41, 227, 47, 132, 83, 209, 0, 237, 32, 252, 177, 91, 106, 203, 190, 57, 74, 76, 88, 207, 208, 239, 170, 251, 67, 77, 51, 133, 69, 249, 2, 127, 80, 60, 159, 168, 81, 163, 64, 143, 146, 157, 56, 245, 188, 182, 218, 33, 16, 255, 243, 210, 205, 12, 19, 236, 95, 151, 68, 23, 196, 167, 126, 61, 100, 93, 25, 115, 96, 129, 79, 220, 34, 42, 144, 136, 70, 238, 184, 20, 222, 94, 11, 219, 224, 50, 58, 10, 73, 6, 36, 92, 194, 211, 172, 98, 145, 149, 228, 121, 231, 200, 55, 109, 141, 213, 78, 169, 108, 86, 244, 234, 101, 122, 174, 8, 186, 120, 37, 46, 28, 166, 180, 198, 232, 221, 116, 31, 75, 189, 139, 138, 112, 62, 181, 102, 72, 3, 246, 14, 97, 53, 87, 185, 134, 193, 29, 158, 225, 248, 152, 17, 105, 217, 142, 148, 155, 30, 135, 233, 206, 85, 40, 223, 140, 161, 137, 13, 191, 230, 66, 104, 65, 153, 45, 15, 176, 84, 187, 22]
def boxK : List UInt8 := [82, 9, 106, 213, 48, 54, 165, 56, 191, 64, 163, 158, 129, 243, 215, 251, 124, 227, 57, 130, 155, 47, 255, 135, 52, 142, 67, 68, 196, 222, 233, 203, 84, 123, 148, 50, 166, 194, 35, 61, 238, 76, 149, 11, 66, 250, 195, 78, 8, 46, 161, 102, 40, 217, 36, 178, 118, 91, 162, 73, 109, 139, 209, 37, 114, 248, 246, 100, 134, 104, 152, 22, 212, 164, 92, 204, 93, 101, 182, 146, 108, 112, 72, 80, 253, 237, 185, 218, 94, 21, 70, 87, 167, 141, 157, 132, 144, 216, 171, 0, 140, 188, 211, 10, 247, 228, 88, 5, 184, 179, 69, 6, 208, 44, 30, 143, 202, 63, 15, 2, 193, 175, 189, 3, 1, 19, 138, 107, 58, 145, 17, 65, 79, 103, 220, 234, 151, 242, 207, 206, 240, 180, 230, 115, 150, 172, 116, 34, 231, 173, 53, 133, 226, 249, 55, 232, 28, 117, 223, 110, 71, 241, 26, 113, 29, 41, 197, 137, 111, 183, 98, 14, 170, 24, 190, 27, 252, 86, 62, 75, 198, 210, 121, 32, 154, 219, 192, 254, 120, 205, 90, 244, 31, 221, 168, 51, 136, 7, 199, 49, 177, 18, 16, 89, 39, 128, 236, 95, 96, 81, 127, 169, 25, 181, 74, 13, 45, 229, 122, 159, 147, 201, 156, 239, 160, 224, 59, 77, 174, 42, 245, 176, 200, 235, 187, 60, 131, 83, 153, 97, 23, 43, 4, 126, 186, 119, 214, 38, 225, 105, 20, 99, 85, 33, 12, 125]
theorem boxT_eq : boxT = (rd 255).T.set 0 0x63 := by decide +kernel
theorem boxK_eq : boxK = (rd 255).K.set 0x63 0 := by decide +kernel
theorem boxT_len : boxT.length = 256 := by decide +kernel
theorem boxK_len : boxK.length = 256 := by decide +kernel

/-! ### spellings -/
def spellOk (n : Nat) : Bool :=
  let x := UInt8.ofNat n
  ((x.toNat : Int) * 2 % 256 == ((shl x 1).toNat : Int)) && ((x.toNat : Int) * 4 % 256 == ((shl x 2).toNat : Int)) && ((x.toNat : Int) * 8 % 256 == ((shl x 3).toNat : Int)) && ((x.toNat : Int) * 16 % 256 == ((shl x 4).toNat : Int)) &&
  ((x.toNat : Int) / 16 == ((shr x 4).toNat : Int)) && ((x.toNat : Int) / 32 == ((shr x 5).toNat : Int)) && ((x.toNat : Int) / 64 == ((shr x 6).toNat : Int)) && ((x.toNat : Int) / 128 == ((shr x 7).toNat : Int)) &&
  (bits .and .u8 (x.toNat : Int) 128 != 0) == decide (x &&& 0x80 ≠ 0)
theorem spellOk_all : (List.range 256).all spellOk = true := by decide +kernel
theorem spell (x : UInt8) : spellOk x.toNat = true := List.all_eq_true.1 spellOk_all x.toNat (List.mem_range.2 x.toNat_lt)
section
variable (x y : UInt8)
theorem sp_l1 : (x.toNat : Int) * (2 : Int) % (256 : Int) = ((shl x 1).toNat : Int) := by have := spell x; simp only [spellOk, UInt8.ofNat_toNat, Bool.and_eq_true, beq_iff_eq] at this; omega
theorem sp_l2 : (x.toNat : Int) * (4 : Int) % (256 : Int) = ((shl x 2).toNat : Int) := by have := spell x; simp only [spellOk, UInt8.ofNat_toNat, Bool.and_eq_true, beq_iff_eq] at this; omega
theorem sp_l3 : (x.toNat : Int) * (8 : Int) % (256 : Int) = ((shl x 3).toNat : Int) := by have := spell x; simp only [spellOk, UInt8.ofNat_toNat, Bool.and_eq_true, beq_iff_eq] at this; omega
theorem sp_l4 : (x.toNat : Int) * (16 : Int) % (256 : Int) = ((shl x 4).toNat : Int) := by have := spell x; simp only [spellOk, UInt8.ofNat_toNat, Bool.and_eq_true, beq_iff_eq] at this; omega
theorem sp_r4 : (x.toNat : Int) / (16 : Int) = ((shr x 4).toNat : Int) := by have := spell x; simp only [spellOk, UInt8.ofNat_toNat, Bool.and_eq_true, beq_iff_eq] at this; omega
theorem sp_r5 : (x.toNat : Int) / (32 : Int) = ((shr x 5).toNat : Int) := by have := spell x; simp only [spellOk, UInt8.ofNat_toNat, Bool.and_eq_true, beq_iff_eq] at this; omega
theorem sp_r6 : (x.toNat : Int) / (64 : Int) = ((shr x 6).toNat : Int) := by have := spell x; simp only [spellOk, UInt8.ofNat_toNat, Bool.and_eq_true, beq_iff_eq] at this; omega
theorem sp_r7 : (x.toNat : Int) / (128 : Int) = ((shr x 7).toNat : Int) := by have := spell x; simp only [spellOk, UInt8.ofNat_toNat, Bool.and_eq_true, beq_iff_eq] at this; omega
theorem sp_and : (bits .and .u8 (x.toNat : Int) 128 != 0) = decide (x &&& 0x80 ≠ 0) := by have := spell x; simp only [spellOk, UInt8.ofNat_toNat, Bool.and_eq_true, beq_iff_eq] at this; exact this.2
theorem sp_or : bits .or .u8 (x.toNat : Int) (y.toNat : Int) = ((orr x y).toNat : Int) := by rw [u8_or_nat _ _ x.toNat_lt y.toNat_lt, orr, UInt8.toNat_or]
theorem sp_x9 : bits .xor .u8 (x.toNat : Int) 9 = ((xr x 9).toNat : Int) := bx8 x 9
theorem sp_x99 : bits .xor .u8 (x.toNat : Int) 99 = ((xr x 0x63).toNat : Int) := bx8 x 0x63
end
/-! ### a Key's cells: the two boxes, and the slice of the rounds' keys -/
def keyC (T K : List UInt8) (kv : Value) : Array Value := (T.map B ++ K.map B ++ [kv]).toArray
theorem keyC_size (T K : List UInt8) (kv : Value) : (keyC T K kv).size = T.length + K.length + 1 := by simp [keyC]; omega
theorem keyC_T (T K : List UInt8) (kv : Value) (i : Nat) (h : i < T.length) : (keyC T K kv)[i]? = some (B (gb T i)) := by
  simp only [keyC, List.getElem?_toArray, List.append_assoc]
  rw [List.getElem?_append_left (by simpa using h)]
  simp [gb, h]
theorem keyC_K (T K : List UInt8) (kv : Value) (i n : Nat) (hT : T.length = n) (h : i < K.length) : (keyC T K kv)[n + i]? = some (B (gb K i)) := by
  subst hT
  simp only [keyC, List.getElem?_toArray, List.append_assoc]
  rw [List.getElem?_append_right (by simp), List.length_map, Nat.add_sub_cancel_left, List.getElem?_append_left (by simpa using h)]
  simp [gb, h]
theorem keyC_v (T K : List UInt8) (kv : Value) (n : Nat) (h : T.length + K.length = n) : (keyC T K kv)[n]? = some kv := by
  subst h
  simp only [keyC, List.getElem?_toArray]
  rw [List.getElem?_append_right (by simp)]
  simp
theorem keyC_setT (T K : List UInt8) (kv : Value) (i : Nat) (x : UInt8) (h : i < T.length) : (keyC T K kv).setIfInBounds i (B x) = keyC (T.set i x) K kv := by
  simp [keyC, h, List.map_set]
theorem keyC_setK (T K : List UInt8) (kv : Value) (i n : Nat) (x : UInt8) (hT : T.length = n) (h : i < K.length) : (keyC T K kv).setIfInBounds (n + i) (B x) = keyC T (K.set i x) kv := by
  subst hT
  simp [keyC, h, List.map_set]
theorem keyC_setv (T K : List UInt8) (kv v : Value) (n : Nat) (h : T.length + K.length = n) : (keyC T K kv).setIfInBounds n v = keyC T K v := by
  subst h
  simp [keyC]
end Go.Proofs.Ytjopgogaipkdbaa
