/- What block's Seal and Open reckon. -/
import Derived.Test.YtjopgogaipkdbaaNewSpec
namespace Go.Proofs.Ytjopgogaipkdbaa
open Go.RowKit

theorem keyC_vE (T K : List UInt8) (kv : Value) (n : Nat) (hn : n < (keyC T K kv).size) (h : T.length + K.length = n) : (keyC T K kv)[n] = kv := by
  have := keyC_v T K kv n h
  rw [Array.getElem?_eq_getElem hn] at this
  exact Option.some.inj this
theorem keyC_TE (T K : List UInt8) (kv : Value) (i : Nat) (hn : i < (keyC T K kv).size) (h : i < T.length) : (keyC T K kv)[i] = B (gb T i) := by
  have := keyC_T T K kv i h
  rw [Array.getElem?_eq_getElem hn] at this
  exact Option.some.inj this
theorem keyC_KE (T K : List UInt8) (kv : Value) (i n : Nat) (hn : n + i < (keyC T K kv).size) (hT : T.length = n) (h : i < K.length) : (keyC T K kv)[n + i] = B (gb K i) := by
  have := keyC_K T K kv i n hT h
  rw [Array.getElem?_eq_getElem hn] at this
  exact Option.some.inj this
/-- A round's key. -/
def rk (W : List UInt8) (r : Nat) : List UInt8 := (W.drop (r * 16)).take 16
theorem rk_len (W : List UInt8) (m r : Nat) (h : W.length = 16 * m) (hr : r < m) : (rk W r).length = 16 := by simp [rk]; omega
def subL (b : List UInt8) (k : Nat) : List UInt8 := tab 16 fun i => if i < k then gb boxT (gb b ((i + 4 * (i % 4)) % 16)).toNat else 0
theorem subL_len (b : List UInt8) (k : Nat) : (subL b k).length = 16 := tab_length _ _
theorem subL_zero (b : List UInt8) : subL b 0 = List.replicate 16 0 := by
  have : subL b 0 = tab 16 fun _ => 0 := tab_congr fun i _ => by simp
  rw [this]; rfl
theorem subL_step (b : List UInt8) (k : Nat) (_h : k < 16) : (subL b k).set k (gb boxT (gb b ((k + 4 * (k % 4)) % 16)).toNat) = subL b (k + 1) := by
  unfold subL
  rw [tab_set]
  apply tab_congr
  intro i hi
  by_cases h1 : i = k
  · subst h1; simp
  · by_cases h2 : i < k
    · simp [h1, h2, show i < k + 1 by omega]
    · simp [h1, h2, show ¬ i < k + 1 by omega]
def sround (W : List UInt8) (last : Nat) (b : List UInt8) (r : Nat) : List UInt8 :=
  addF (if r < last then mixL (subL b 16) [2, 3, 1, 1] 16 0 else subL b 16) (rk W r) 16
def sealN (W : List UInt8) (last : Nat) (b : List UInt8) : Nat → List UInt8
  | 0 => addF b (rk W 0) 16
  | r + 1 => sround W last (sealN W last b r) (r + 1)
/-- A block, turned by the rounds' keys W. -/
def sealF (W b : List UInt8) : List UInt8 := sealN W (W.length / 16 - 1) b (W.length / 16 - 1)
theorem sealN_len (W : List UInt8) (last : Nat) (b : List UInt8) (r : Nat) : (sealN W last b r).length = 16 := by cases r <;> exact addF_len _ _ _
theorem sealF_len (W b : List UInt8) : (sealF W b).length = 16 := sealN_len _ _ _ _
/-- Where a byte goes back to. -/
def unL (b : List UInt8) (k : Nat) : List UInt8 := tab 16 fun j => if (j + 12 * (j % 4)) % 16 < k then gb boxK (gb b ((j + 12 * (j % 4)) % 16)).toNat else 0
theorem unL_len (b : List UInt8) (k : Nat) : (unL b k).length = 16 := tab_length _ _
theorem unL_zero (b : List UInt8) : unL b 0 = List.replicate 16 0 := by
  have : unL b 0 = tab 16 fun _ => 0 := tab_congr fun i _ => by simp
  rw [this]; rfl
theorem unL_step (b : List UInt8) (k : Nat) (h : k < 16) : (unL b k).set ((k + 4 * (k % 4)) % 16) (gb boxK (gb b k).toNat) = unL b (k + 1) := by
  unfold unL
  rw [tab_set]
  apply tab_congr
  intro j hj
  by_cases h1 : j = (k + 4 * (k % 4)) % 16
  · have e : (j + 12 * (j % 4)) % 16 = k := by omega
    simp [h1] at e ⊢
    simp [e]
  · have e : (j + 12 * (j % 4)) % 16 ≠ k := by omega
    by_cases h2 : (j + 12 * (j % 4)) % 16 < k
    · simp [h1, h2, show (j + 12 * (j % 4)) % 16 < k + 1 by omega]
    · simp [h1, h2, show ¬ (j + 12 * (j % 4)) % 16 < k + 1 by omega]
def oround (W : List UInt8) (last : Nat) (b : List UInt8) (r : Nat) : List UInt8 :=
  unL (if r < last then mixL (addF b (rk W r) 16) [14, 11, 13, 9] 16 0 else addF b (rk W r) 16) 16
/-- What is still to be done from round r down. -/
def openD (W : List UInt8) (last : Nat) : Nat → List UInt8 → List UInt8
  | 0, b => addF b (rk W 0) 16
  | r + 1, b => openD W last r (oround W last b (r + 1))
/-- A block, turned back. -/
def openF (W b : List UInt8) : List UInt8 := openD W (W.length / 16 - 1) (W.length / 16 - 1) b
theorem openD_len (W : List UInt8) (last : Nat) (r : Nat) (b : List UInt8) : (openD W last r b).length = 16 := by
  induction r generalizing b with
  | zero => exact addF_len _ _ _
  | succ r ih => exact ih _
theorem openF_len (W b : List UInt8) : (openF W b).length = 16 := openD_len _ _ _ _
end Go.Proofs.Ytjopgogaipkdbaa

/- The plain law of a block: what is turned is turned back, both ways round. -/
namespace Go.Proofs.Ytjopgogaipkdbaa

/-! ### sums -/
theorem xr_comm (a b : UInt8) : xr a b = xr b a := UInt8.xor_comm a b
theorem xr_assoc (a b c : UInt8) : xr (xr a b) c = xr a (xr b c) := UInt8.xor_assoc a b c
instance : Std.Associative xr := ⟨xr_assoc⟩
instance : Std.Commutative xr := ⟨xr_comm⟩
theorem xr_left (a b c : UInt8) : xr a (xr b c) = xr b (xr a c) := by rw [← xr_assoc, xr_comm a b, xr_assoc]
theorem xr_self (a : UInt8) : xr a a = 0 := UInt8.xor_self
theorem xr_zero (a : UInt8) : xr a 0 = a := UInt8.xor_zero
theorem zero_xr (a : UInt8) : xr 0 a = a := UInt8.zero_xor
theorem xr_back (a b : UInt8) : xr (xr a b) b = a := by rw [xr_assoc, xr_self, xr_zero]
theorem xr_inj {a b c : UInt8} (h : xr a c = xr b c) : a = b := by rw [← xr_back a c, h, xr_back]

/-! ### twice an element is spread over sums -/
def dblN (n : Nat) : Nat := if n < 128 then 2 * n else (2 * n) ^^^ 0x11B
theorem dblN_all : (List.range 256).all (fun n => (dbl (UInt8.ofNat n)).toNat == dblN n) = true := by decide +kernel
theorem dbl_nat (x : UInt8) : (dbl x).toNat = dblN x.toNat := by
  have := List.all_eq_true.1 dblN_all x.toNat (List.mem_range.2 x.toNat_lt)
  rw [UInt8.ofNat_toNat] at this
  exact eq_of_beq this
theorem dblN_add : ((List.range 256).all fun a => (List.range 256).all fun b => dblN (a ^^^ b) == dblN a ^^^ dblN b) = true := by decide +kernel
theorem dbl_add (a b : UInt8) : dbl (xr a b) = xr (dbl a) (dbl b) := by
  have := List.all_eq_true.1 (List.all_eq_true.1 dblN_add a.toNat (List.mem_range.2 a.toNat_lt)) b.toNat (List.mem_range.2 b.toNat_lt)
  apply UInt8.toNat_inj.1
  unfold xr
  rw [dbl_nat, UInt8.toNat_xor, UInt8.toNat_xor, dbl_nat, dbl_nat]
  exact eq_of_beq this

/-! ### the seven products -/
def tmOk (n : Nat) : Bool :=
  let x := UInt8.ofNat n
  let d1 := dbl x
  let d2 := dbl d1
  let d3 := dbl d2
  tm x 1 == x && tm x 2 == d1 && tm x 3 == xr x d1 && tm x 9 == xr x d3 && tm x 11 == xr (xr x d1) d3 && tm x 13 == xr (xr x d2) d3 && tm x 14 == xr (xr d1 d2) d3
theorem tmOk_all : (List.range 256).all tmOk = true := by decide +kernel
theorem tm_forms (x : UInt8) : tm x 1 = x ∧ tm x 2 = dbl x ∧ tm x 3 = xr x (dbl x) ∧ tm x 9 = xr x (dbl (dbl (dbl x))) ∧ tm x 11 = xr (xr x (dbl x)) (dbl (dbl (dbl x))) ∧
    tm x 13 = xr (xr x (dbl (dbl x))) (dbl (dbl (dbl x))) ∧ tm x 14 = xr (xr (dbl x) (dbl (dbl x))) (dbl (dbl (dbl x))) := by
  have := List.all_eq_true.1 tmOk_all x.toNat (List.mem_range.2 x.toNat_lt)
  simp only [tmOk, UInt8.ofNat_toNat, Bool.and_eq_true, beq_iff_eq] at this
  obtain ⟨⟨⟨⟨⟨⟨h1, h2⟩, h3⟩, h4⟩, h5⟩, h6⟩, h7⟩ := this
  exact ⟨h1, h2, h3, h4, h5, h6, h7⟩
/-- The numbers by which columns are mixed. -/
def isRow (n : UInt8) : Prop := n = 1 ∨ n = 2 ∨ n = 3 ∨ n = 9 ∨ n = 11 ∨ n = 13 ∨ n = 14
theorem tm_add {n : UInt8} (h : isRow n) (a b : UInt8) : tm (xr a b) n = xr (tm a n) (tm b n) := by
  obtain ⟨a1, a2, a3, a4, a5, a6, a7⟩ := tm_forms a
  obtain ⟨b1, b2, b3, b4, b5, b6, b7⟩ := tm_forms b
  obtain ⟨c1, c2, c3, c4, c5, c6, c7⟩ := tm_forms (xr a b)
  rcases h with rfl | rfl | rfl | rfl | rfl | rfl | rfl
  · rw [a1, b1, c1]
  · rw [a2, b2, c2, dbl_add]
  · rw [a3, b3, c3, dbl_add]; ac_rfl
  · rw [a4, b4, c4, dbl_add, dbl_add, dbl_add]; ac_rfl
  · rw [a5, b5, c5, dbl_add, dbl_add, dbl_add]; ac_rfl
  · rw [a6, b6, c6, dbl_add, dbl_add, dbl_add]; ac_rfl
  · rw [a7, b7, c7, dbl_add, dbl_add, dbl_add]; ac_rfl
def invOk (n : Nat) : Bool :=
  let x := UInt8.ofNat n
  let t (a b : UInt8) : UInt8 := tm (tm x a) b
  xr (xr (xr (t 2 14) (t 1 11)) (t 1 13)) (t 3 9) == x && xr (xr (xr (t 3 14) (t 2 11)) (t 1 13)) (t 1 9) == 0 && xr (xr (xr (t 1 14) (t 3 11)) (t 2 13)) (t 1 9) == 0 && xr (xr (xr (t 1 14) (t 1 11)) (t 3 13)) (t 2 9) == 0 &&
  xr (xr (xr (t 14 2) (t 9 3)) (t 13 1)) (t 11 1) == x && xr (xr (xr (t 11 2) (t 14 3)) (t 9 1)) (t 13 1) == 0 && xr (xr (xr (t 13 2) (t 11 3)) (t 14 1)) (t 9 1) == 0 && xr (xr (xr (t 9 2) (t 13 3)) (t 11 1)) (t 14 1) == 0
theorem invOk_all : (List.range 256).all invOk = true := by decide +kernel

/-! ### columns -/
def mx (X : Nat → UInt8) (r0 r1 r2 r3 : UInt8) (k : Nat) : UInt8 := xr (xr (xr (tm (X (k % 4)) r0) (tm (X ((k + 1) % 4)) r1)) (tm (X ((k + 2) % 4)) r2)) (tm (X ((k + 3) % 4)) r3)
theorem mix_at (b : List UInt8) (r0 r1 r2 r3 : UInt8) (c k : Nat) (hc : c < 4) (hk : k < 4) : gb (mixL b [r0, r1, r2, r3] 16 0) (4 * c + k) = mx (fun j => gb b (4 * c + j)) r0 r1 r2 r3 k := by
  unfold mixL
  rw [gb_tab _ (by omega), if_pos (by omega)]
  have e0 : (4 * c + k) / 4 * 4 = 4 * c := by omega
  have e1 : ∀ j, (4 * c + k + j) % 4 = (k + j) % 4 := fun j => by omega
  have e2 : (4 * c + k) % 4 = k % 4 := by omega
  simp only [mixB, e0, e1, e2, zero_xr, mx, Nat.add_zero]
  rfl
theorem mx_back (X : Nat → UInt8) (k : Nat) (hk : k < 4) : mx (mx X 2 3 1 1) 14 11 13 9 k = X k := by
  have L14 := tm_add (n := 14) (by unfold isRow; simp)
  have L11 := tm_add (n := 11) (by unfold isRow; simp)
  have L13 := tm_add (n := 13) (by unfold isRow; simp)
  have L9 := tm_add (n := 9) (by unfold isRow; simp)
  have inv : ∀ x : UInt8, invOk x.toNat = true := fun x => List.all_eq_true.1 invOk_all x.toNat (List.mem_range.2 x.toNat_lt)
  have I0 : ∀ x : UInt8, xr (xr (xr (tm (tm x 2) 14) (tm (tm x 1) 11)) (tm (tm x 1) 13)) (tm (tm x 3) 9) = x := fun x => by
    have := inv x; simp only [invOk, UInt8.ofNat_toNat, Bool.and_eq_true, beq_iff_eq] at this; exact this.1.1.1.1.1.1.1
  have I1 : ∀ x : UInt8, xr (xr (xr (tm (tm x 3) 14) (tm (tm x 2) 11)) (tm (tm x 1) 13)) (tm (tm x 1) 9) = 0 := fun x => by
    have := inv x; simp only [invOk, UInt8.ofNat_toNat, Bool.and_eq_true, beq_iff_eq] at this; exact this.1.1.1.1.1.1.2
  have I2 : ∀ x : UInt8, xr (xr (xr (tm (tm x 1) 14) (tm (tm x 3) 11)) (tm (tm x 2) 13)) (tm (tm x 1) 9) = 0 := fun x => by
    have := inv x; simp only [invOk, UInt8.ofNat_toNat, Bool.and_eq_true, beq_iff_eq] at this; exact this.1.1.1.1.1.2
  have I3 : ∀ x : UInt8, xr (xr (xr (tm (tm x 1) 14) (tm (tm x 1) 11)) (tm (tm x 3) 13)) (tm (tm x 2) 9) = 0 := fun x => by
    have := inv x; simp only [invOk, UInt8.ofNat_toNat, Bool.and_eq_true, beq_iff_eq] at this; exact this.1.1.1.1.2
  have key : ∀ x0 x1 x2 x3 : UInt8,
      xr (xr (xr (tm (xr (xr (xr (tm x0 2) (tm x1 3)) (tm x2 1)) (tm x3 1)) 14) (tm (xr (xr (xr (tm x1 2) (tm x2 3)) (tm x3 1)) (tm x0 1)) 11))
        (tm (xr (xr (xr (tm x2 2) (tm x3 3)) (tm x0 1)) (tm x1 1)) 13)) (tm (xr (xr (xr (tm x3 2) (tm x0 3)) (tm x1 1)) (tm x2 1)) 9) = x0 := fun x0 x1 x2 x3 => by
    have h : xr (xr (xr (xr (xr (xr (tm (tm x0 2) 14) (tm (tm x0 1) 11)) (tm (tm x0 1) 13)) (tm (tm x0 3) 9)) (xr (xr (xr (tm (tm x1 3) 14) (tm (tm x1 2) 11)) (tm (tm x1 1) 13)) (tm (tm x1 1) 9)))
        (xr (xr (xr (tm (tm x2 1) 14) (tm (tm x2 3) 11)) (tm (tm x2 2) 13)) (tm (tm x2 1) 9))) (xr (xr (xr (tm (tm x3 1) 14) (tm (tm x3 1) 11)) (tm (tm x3 3) 13)) (tm (tm x3 2) 9)) = x0 := by
      rw [I0, I1, I2, I3, xr_zero, xr_zero, xr_zero]
    refine Eq.trans ?_ h
    simp only [L14, L11, L13, L9]
    ac_rfl
  match k, hk with
  | 0, _ => exact key (X 0) (X 1) (X 2) (X 3)
  | 1, _ => exact key (X 1) (X 2) (X 3) (X 0)
  | 2, _ => exact key (X 2) (X 3) (X 0) (X 1)
  | 3, _ => exact key (X 3) (X 0) (X 1) (X 2)
theorem mx_there (X : Nat → UInt8) (k : Nat) (hk : k < 4) : mx (mx X 14 11 13 9) 2 3 1 1 k = X k := by
  have L2 := tm_add (n := 2) (by unfold isRow; simp)
  have L3 := tm_add (n := 3) (by unfold isRow; simp)
  have L1 := tm_add (n := 1) (by unfold isRow; simp)
  have inv : ∀ x : UInt8, invOk x.toNat = true := fun x => List.all_eq_true.1 invOk_all x.toNat (List.mem_range.2 x.toNat_lt)
  have I0 : ∀ x : UInt8, xr (xr (xr (tm (tm x 14) 2) (tm (tm x 9) 3)) (tm (tm x 13) 1)) (tm (tm x 11) 1) = x := fun x => by
    have := inv x; simp only [invOk, UInt8.ofNat_toNat, Bool.and_eq_true, beq_iff_eq] at this; exact this.1.1.1.2
  have I1 : ∀ x : UInt8, xr (xr (xr (tm (tm x 11) 2) (tm (tm x 14) 3)) (tm (tm x 9) 1)) (tm (tm x 13) 1) = 0 := fun x => by
    have := inv x; simp only [invOk, UInt8.ofNat_toNat, Bool.and_eq_true, beq_iff_eq] at this; exact this.1.1.2
  have I2 : ∀ x : UInt8, xr (xr (xr (tm (tm x 13) 2) (tm (tm x 11) 3)) (tm (tm x 14) 1)) (tm (tm x 9) 1) = 0 := fun x => by
    have := inv x; simp only [invOk, UInt8.ofNat_toNat, Bool.and_eq_true, beq_iff_eq] at this; exact this.1.2
  have I3 : ∀ x : UInt8, xr (xr (xr (tm (tm x 9) 2) (tm (tm x 13) 3)) (tm (tm x 11) 1)) (tm (tm x 14) 1) = 0 := fun x => by
    have := inv x; simp only [invOk, UInt8.ofNat_toNat, Bool.and_eq_true, beq_iff_eq] at this; exact this.2
  have key : ∀ x0 x1 x2 x3 : UInt8,
      xr (xr (xr (tm (xr (xr (xr (tm x0 14) (tm x1 11)) (tm x2 13)) (tm x3 9)) 2) (tm (xr (xr (xr (tm x1 14) (tm x2 11)) (tm x3 13)) (tm x0 9)) 3))
        (tm (xr (xr (xr (tm x2 14) (tm x3 11)) (tm x0 13)) (tm x1 9)) 1)) (tm (xr (xr (xr (tm x3 14) (tm x0 11)) (tm x1 13)) (tm x2 9)) 1) = x0 := fun x0 x1 x2 x3 => by
    have h : xr (xr (xr (xr (xr (xr (tm (tm x0 14) 2) (tm (tm x0 9) 3)) (tm (tm x0 13) 1)) (tm (tm x0 11) 1)) (xr (xr (xr (tm (tm x1 11) 2) (tm (tm x1 14) 3)) (tm (tm x1 9) 1)) (tm (tm x1 13) 1)))
        (xr (xr (xr (tm (tm x2 13) 2) (tm (tm x2 11) 3)) (tm (tm x2 14) 1)) (tm (tm x2 9) 1))) (xr (xr (xr (tm (tm x3 9) 2) (tm (tm x3 13) 3)) (tm (tm x3 11) 1)) (tm (tm x3 14) 1)) = x0 := by
      rw [I0, I1, I2, I3, xr_zero, xr_zero, xr_zero]
    refine Eq.trans ?_ h
    simp only [L2, L3, L1]
    ac_rfl
  match k, hk with
  | 0, _ => exact key (X 0) (X 1) (X 2) (X 3)
  | 1, _ => exact key (X 1) (X 2) (X 3) (X 0)
  | 2, _ => exact key (X 2) (X 3) (X 0) (X 1)
  | 3, _ => exact key (X 3) (X 0) (X 1) (X 2)
theorem mx_congr {X Y : Nat → UInt8} (h : ∀ j, j < 4 → X j = Y j) (r0 r1 r2 r3 : UInt8) (k : Nat) : mx X r0 r1 r2 r3 k = mx Y r0 r1 r2 r3 k := by
  unfold mx
  rw [h _ (Nat.mod_lt _ (by omega)), h _ (Nat.mod_lt _ (by omega)), h _ (Nat.mod_lt _ (by omega)), h _ (Nat.mod_lt _ (by omega))]
theorem mix_mix (b : List UInt8) (hb : b.length = 16) (r0 r1 r2 r3 s0 s1 s2 s3 : UInt8) (h : ∀ X k, k < 4 → mx (mx X r0 r1 r2 r3) s0 s1 s2 s3 k = X k) :
    mixL (mixL b [r0, r1, r2, r3] 16 0) [s0, s1, s2, s3] 16 0 = b := by
  refine gb_ext (by rw [mixL_len, hb]) fun i hi => ?_
  have e : i = 4 * (i / 4) + i % 4 := by omega
  have hc : i / 4 < 4 := by omega
  have hk : i % 4 < 4 := by omega
  rw [e, mix_at _ _ _ _ _ _ _ hc hk, mx_congr (fun j hj => mix_at b r0 r1 r2 r3 (i / 4) j hc hj), h _ _ hk]

/-! ### the boxes -/
def boxOk (n : Nat) : Bool := gb boxK (gb boxT n).toNat == UInt8.ofNat n && gb boxT (gb boxK n).toNat == UInt8.ofNat n
theorem boxOk_all : (List.range 256).all boxOk = true := by decide +kernel
theorem box_back (x : UInt8) : gb boxK (gb boxT x.toNat).toNat = x := by
  have := List.all_eq_true.1 boxOk_all x.toNat (List.mem_range.2 x.toNat_lt)
  simp only [boxOk, UInt8.ofNat_toNat, Bool.and_eq_true, beq_iff_eq] at this
  exact this.1
theorem box_there (x : UInt8) : gb boxT (gb boxK x.toNat).toNat = x := by
  have := List.all_eq_true.1 boxOk_all x.toNat (List.mem_range.2 x.toNat_lt)
  simp only [boxOk, UInt8.ofNat_toNat, Bool.and_eq_true, beq_iff_eq] at this
  exact this.2
theorem un_sub (b : List UInt8) (hb : b.length = 16) : unL (subL b 16) 16 = b := by
  refine gb_ext (by rw [unL_len, hb]) fun j hj => ?_
  rw [hb] at hj
  unfold unL subL
  rw [gb_tab _ hj, if_pos (by omega), gb_tab _ (by omega), if_pos (by omega), box_back]
  congr 1
  omega
theorem sub_un (b : List UInt8) (hb : b.length = 16) : subL (unL b 16) 16 = b := by
  refine gb_ext (by rw [subL_len, hb]) fun j hj => ?_
  rw [hb] at hj
  unfold unL subL
  rw [gb_tab _ hj, if_pos (by omega), gb_tab _ (by omega), if_pos (by omega), box_there]
  congr 1
  omega
theorem add_add (b k : List UInt8) (hb : b.length = 16) : addF (addF b k 16) k 16 = b := by
  refine gb_ext (by rw [addF_len, hb]) fun j hj => ?_
  rw [hb] at hj
  unfold addF
  rw [gb_tab _ hj, if_pos hj, gb_tab _ hj, if_pos hj, xr_back]

/-! ### the rounds -/
theorem oround_sround (W : List UInt8) (last : Nat) (b : List UInt8) (r : Nat) (hb : b.length = 16) : oround W last (sround W last b r) r = b := by
  unfold oround sround
  by_cases h : r < last
  · rw [if_pos h, if_pos h, add_add _ _ (mixL_len _ _ _ _), mix_mix _ (subL_len _ _) _ _ _ _ _ _ _ _ mx_back, un_sub b hb]
  · rw [if_neg h, if_neg h, add_add _ _ (subL_len _ _), un_sub b hb]
theorem sround_oround (W : List UInt8) (last : Nat) (b : List UInt8) (r : Nat) (hb : b.length = 16) : sround W last (oround W last b r) r = b := by
  unfold oround sround
  by_cases h : r < last
  · rw [if_pos h, if_pos h, sub_un _ (mixL_len _ _ _ _), mix_mix _ (addF_len _ _ _) _ _ _ _ _ _ _ _ mx_there, add_add b _ hb]
  · rw [if_neg h, if_neg h, sub_un _ (addF_len _ _ _), add_add b _ hb]
theorem openD_sealN (W : List UInt8) (last : Nat) (b : List UInt8) (hb : b.length = 16) : ∀ r, openD W last r (sealN W last b r) = b
  | 0 => add_add b _ hb
  | r + 1 => by
    show openD W last r (oround W last (sround W last (sealN W last b r) (r + 1)) (r + 1)) = b
    rw [oround_sround _ _ _ _ (sealN_len _ _ _ _), openD_sealN W last b hb r]
theorem oround_len (W : List UInt8) (last : Nat) (b : List UInt8) (r : Nat) : (oround W last b r).length = 16 := unL_len _ _
theorem sealN_openD (W : List UInt8) (last : Nat) : ∀ (r : Nat) (c : List UInt8), c.length = 16 → sealN W last (openD W last r c) r = c
  | 0, c, hc => add_add c _ hc
  | r + 1, c, hc => by
    show sround W last (sealN W last (openD W last r (oround W last c (r + 1))) r) (r + 1) = c
    rw [sealN_openD W last r _ (oround_len _ _ _ _), sround_oround _ _ _ _ hc]
theorem seal_inj (W : List UInt8) (last : Nat) (a b : List UInt8) (ha : a.length = 16) (hb : b.length = 16) (h : sealN W last a last = sealN W last b last) : a = b := by
  rw [← openD_sealN W last a ha last, h, openD_sealN W last b hb last]
theorem open_inj (W : List UInt8) (last : Nat) (a b : List UInt8) (ha : a.length = 16) (hb : b.length = 16) (h : openD W last last a = openD W last last b) : a = b := by
  rw [← sealN_openD W last last a ha, h, sealN_openD W last last b hb]
end Go.Proofs.Ytjopgogaipkdbaa
