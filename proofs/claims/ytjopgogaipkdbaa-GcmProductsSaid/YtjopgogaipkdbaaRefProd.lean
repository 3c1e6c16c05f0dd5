/- The walk of the document's Product. -/
import Derived.Test.YtjopgogaipkdbaaGLink
namespace Go.Proofs.Ytjopgogaipkdbaa
open Go.RowKit

def sr (x : UInt8) : UInt8 := UInt8.ofNat (x.toNat / 2)
theorem sr_nat (x : UInt8) : (sr x).toNat = x.toNat / 2 := by
  have := x.toNat_lt
  rw [sr, UInt8.toNat_ofNat']
  omega
theorem half_byte (x : UInt8) : (x.toNat : Int) / 2 = ((sr x).toNat : Int) := by rw [sr_nat]; omega
def sro (x y : UInt8) : UInt8 := UInt8.ofNat (x.toNat ||| y.toNat * 128 % 256)
theorem bq_sro (x y : UInt8) : bits .or .u8 (x.toNat : Int) (IntKind.u8.wrap ((y.toNat : Int) * 128)) = ((sro x y).toNat : Int) := by
  have hx := x.toNat_lt
  have e1 : IntKind.u8.wrap ((y.toNat : Int) * 128) = ((y.toNat * 128 % 256 : Nat) : Int) := by
    rw [show ((y.toNat : Int) * 128) = ((y.toNat * 128 : Nat) : Int) by omega]
    simp [IntKind.wrap, IntKind.bits, IntKind.signed]
  have h1 : y.toNat * 128 % 256 < 256 := Nat.mod_lt _ (by omega)
  rw [e1, u8_or_nat _ _ hx h1, sro, UInt8.toNat_ofNat']
  have h3 : (x.toNat ||| y.toNat * 128 % 256) < 2 ^ 8 := Nat.or_lt_two_pow hx h1
  rw [Nat.mod_eq_of_lt h3]
theorem bq_sro' (x y : UInt8) : bits .or .u8 (x.toNat : Int) ((y.toNat : Int) * 128 % 256) = ((sro x y).toNat : Int) := by
  rw [← bq_sro]
  congr 1
attribute [local go_sem] bq_sro bq_sro' half_byte
def zP (Z V k : Nat) : List UInt8 := tab 16 fun j => if j < k then nb (Z ^^^ V) j else nb Z j
theorem zP_len (Z V k : Nat) : (zP Z V k).length = 16 := tab_length _ _
theorem zP_zero (Z V : Nat) : zP Z V 0 = fB Z := tab_congr fun i _ => by rw [if_neg (by omega)]
theorem zP_full (Z V : Nat) : zP Z V 16 = fB (Z ^^^ V) := tab_congr fun i hi => by rw [if_pos hi]
theorem zP_get (Z V k : Nat) (h : k < 16) : gb (zP Z V k) k = nb Z k := by unfold zP; rw [gb_tab _ h, if_neg (by omega)]
theorem fB_nil : AB (fB 0) = #[.int .u8 0, .int .u8 0, .int .u8 0, .int .u8 0, .int .u8 0, .int .u8 0, .int .u8 0, .int .u8 0, .int .u8 0, .int .u8 0, .int .u8 0, .int .u8 0, .int .u8 0, .int .u8 0, .int .u8 0, .int .u8 0] := by kernel_rfl
theorem fB_get (V k : Nat) (h : k < 16) : gb (fB V) k = nb V k := gb_tab _ h
theorem zP_step (Z V k : Nat) : (zP Z V k).set k (xr (nb Z k) (nb V k)) = zP Z V (k + 1) := by
  unfold zP
  rw [tab_set]
  apply tab_congr
  intro i _
  by_cases h : i = k
  · subst h; rw [if_pos rfl, if_pos (by omega), nb_xor]
  · rw [if_neg h]
    by_cases h2 : i < k
    · rw [if_pos h2, if_pos (by omega)]
    · rw [if_neg h2, if_neg (by omega)]
/-- m bytes from behind are turned. -/
def vP (V m : Nat) : List UInt8 := tab 16 fun j => if 16 - m ≤ j then nb (V / 2) j else nb V j
theorem vP_len (V m : Nat) : (vP V m).length = 16 := tab_length _ _
theorem vP_zero (V : Nat) : vP V 0 = fB V := tab_congr fun i hi => by rw [if_neg (by omega)]
theorem vP_full (V : Nat) : vP V 16 = fB (V / 2) := tab_congr fun i hi => by rw [if_pos (by omega)]
theorem vP_get (V m k : Nat) (hk : k < 16 - m) : gb (vP V m) k = nb V k := by unfold vP; rw [gb_tab _ (by omega), if_neg (by omega)]
theorem sro_nb (V k : Nat) (h : 1 ≤ k) (hk : k < 16) : sro (sr (nb V k)) (nb V (k - 1)) = nb (V / 2) k := by
  apply UInt8.toNat_inj.1
  have e1 : V / 2 ^ (120 - 8 * (k - 1)) = V / 2 ^ (120 - 8 * k) / 256 := by
    rw [Nat.div_div_eq_div_mul, show (256 : Nat) = 2 ^ 8 by rfl, ← Nat.pow_add]
    congr 2
    omega
  have e2 : V / 2 / 2 ^ (120 - 8 * k) = V / 2 ^ (120 - 8 * k) / 2 := by rw [Nat.div_div_eq_div_mul, Nat.div_div_eq_div_mul, Nat.mul_comm]
  rw [sro, UInt8.toNat_ofNat', sr_nat, nb_nat, nb_nat, nb_nat, e1, e2]
  generalize V / 2 ^ (120 - 8 * k) = W
  have e3 : (W / 256 % 256 * 128 % 256) = (W / 256 % 2) * 2 ^ 7 := by omega
  have e4 : (W % 256 / 2 ||| (W / 256 % 2) * 2 ^ 7) = W % 256 / 2 + (W / 256 % 2) * 2 ^ 7 := by
    have := Nat.two_pow_add_eq_or_of_lt (i := 7) (b := W % 256 / 2) (by omega) (W / 256 % 2)
    rw [Nat.or_comm, Nat.mul_comm (W / 256 % 2), ← this, Nat.add_comm]
  rw [e3, e4]
  omega
theorem sr_nb (V : Nat) (h : V < Gf.lim) : sr (nb V 0) = nb (V / 2) 0 := by
  apply UInt8.toNat_inj.1
  unfold Gf.lim at h
  rw [sr_nat, nb_nat, nb_nat]
  omega
theorem vP_step (V m k : Nat) (hm : m + k = 15) (x : UInt8) (hx : x = nb (V / 2) k) : (vP V m).set k x = vP V (m + 1) := by
  subst hx
  unfold vP
  rw [tab_set]
  apply tab_congr
  intro i _
  by_cases h : i = k
  · subst h; rw [if_pos rfl, if_pos (by omega)]
  · rw [if_neg h]
    by_cases h2 : 16 - m ≤ i
    · rw [if_pos h2, if_pos (by omega)]
    · rw [if_neg h2, if_neg (by omega)]
theorem red_nb (V : Nat) : (fB V).set 0 (xr (nb V 0) 225) = fB (V ^^^ Gf.R) := by
  unfold fB
  rw [tab_set]
  apply tab_congr
  intro i hi
  rw [← nb_xor]
  by_cases h : i = 0
  · subst h; rw [if_pos rfl]; rfl
  · rw [if_neg h]
    have : nb Gf.R i = 0 := by
      have : ∀ i, i < 16 → i ≠ 0 → nb Gf.R i = 0 := by decide +kernel
      exact this i hi h
    rw [this, xr]
    simp
theorem last_nb (V : Nat) : (nb V 15).toNat % 2 = V % 2 := by rw [nb_nat]; omega
theorem bit_nb (A q r : Nat) (hq : q < 16) (hr : r < 8) : (nb A q).toNat / 2 ^ (7 - r) % 2 = 1 ↔ A.testBit (127 - (8 * q + r)) = true := by
  rw [Nat.testBit_eq_decide_div_mod_eq, decide_eq_true_eq, nb_nat, show 127 - (8 * q + r) = (120 - 8 * q) + (7 - r) by omega, Nat.pow_add, ← Nat.div_div_eq_div_mul]
  generalize A / 2 ^ (120 - 8 * q) = W
  have : W % 256 / 2 ^ (7 - r) % 2 = W / 2 ^ (7 - r) % 2 := by
    match r, hr with
    | 0, _ => show W % 256 / 128 % 2 = W / 128 % 2; omega
    | 1, _ => show W % 256 / 64 % 2 = W / 64 % 2; omega
    | 2, _ => show W % 256 / 32 % 2 = W / 32 % 2; omega
    | 3, _ => show W % 256 / 16 % 2 = W / 16 % 2; omega
    | 4, _ => show W % 256 / 8 % 2 = W / 8 % 2; omega
    | 5, _ => show W % 256 / 4 % 2 = W / 4 % 2; omega
    | 6, _ => show W % 256 / 2 % 2 = W / 2 % 2; omega
    | 7, _ => show W % 256 / 1 % 2 = W / 1 % 2; omega
  rw [this]

set_option maxRecDepth 100000 in
set_option maxHeartbeats 4000000 in
theorem refProd_any (a b : List UInt8) (w : World) (ha : a.length = 16) (hb : b.length = 16) : Calls Try.prog 30 #[.agg (AB a), .agg (AB b)] w fun e w' => e = .returned (.agg (AB (gprod a b))) ∧ Below w.heap.size w w' := by
  have ha16 := (AB_size a).trans ha
  have hb16 := (AB_size b).trans hb
  go_enter Try.func30, Try.ntmps30
  go_wp2_with fail
  obtain ⟨w0, hw0⟩ : ∃ w0, w0 = (((((w.alloc (.cells (AB a) 23)).alloc (.cells (AB b) 23)).alloc (.cells #[.int .u8 0, .int .u8 0, .int .u8 0, .int .u8 0, .int .u8 0, .int .u8 0, .int .u8 0, .int .u8 0, .int .u8 0, .int .u8 0, .int .u8 0, .int .u8 0, .int .u8 0, .int .u8 0, .int .u8 0, .int .u8 0] 23)).alloc (.cells #[.int .u8 0, .int .u8 0, .int .u8 0, .int .u8 0, .int .u8 0, .int .u8 0, .int .u8 0, .int .u8 0, .int .u8 0, .int .u8 0, .int .u8 0, .int .u8 0, .int .u8 0, .int .u8 0, .int .u8 0, .int .u8 0] 23)).alloc (.cells #[.int .u8 0, .int .u8 0, .int .u8 0, .int .u8 0, .int .u8 0, .int .u8 0, .int .u8 0, .int .u8 0, .int .u8 0, .int .u8 0, .int .u8 0, .int .u8 0, .int .u8 0, .int .u8 0, .int .u8 0, .int .u8 0] 23)).setRow (w.heap.size + 1 + 1 + 1 + 1) (AB b) := ⟨_, rfl⟩
  rw [← hw0]
  have h2 : Row w0 w.heap.size 23 (AB a) := by rw [hw0]; exact (((((Row.new w _ _).alloc _).alloc _).alloc _).alloc _).setRowOther _ _ (by omega)
  have h4 : RowN w0 (w.heap.size + 1 + 1) 23 16 := by rw [hw0]; exact (((RowN.newAt _ _ _ #[.int .u8 0, .int .u8 0, .int .u8 0, .int .u8 0, .int .u8 0, .int .u8 0, .int .u8 0, .int .u8 0, .int .u8 0, .int .u8 0, .int .u8 0, .int .u8 0, .int .u8 0, .int .u8 0, .int .u8 0, .int .u8 0] (by simp)).alloc _).alloc _).setRowOther _ _ (by omega)
  have h5 : Row w0 (w.heap.size + 1 + 1 + 1) 23 (AB (fB (Gf.Pk (be a) (be b) 0))) := by
    rw [show AB (fB (Gf.Pk (be a) (be b) 0)) = #[.int .u8 0, .int .u8 0, .int .u8 0, .int .u8 0, .int .u8 0, .int .u8 0, .int .u8 0, .int .u8 0, .int .u8 0, .int .u8 0, .int .u8 0, .int .u8 0, .int .u8 0, .int .u8 0, .int .u8 0, .int .u8 0] from fB_nil, hw0]
    exact ((Row.newAt _ _ _ #[.int .u8 0, .int .u8 0, .int .u8 0, .int .u8 0, .int .u8 0, .int .u8 0, .int .u8 0, .int .u8 0, .int .u8 0, .int .u8 0, .int .u8 0, .int .u8 0, .int .u8 0, .int .u8 0, .int .u8 0, .int .u8 0] (by simp)).alloc _).setRowOther _ _ (by omega)
  have h6 : Row w0 (w.heap.size + 1 + 1 + 1 + 1) 23 (AB (fB (Gf.Sn 0 (be b)))) := by
    rw [hw0, show Gf.Sn 0 (be b) = be b from rfl, fB_be b hb]
    exact (Row.newAt _ _ _ #[.int .u8 0, .int .u8 0, .int .u8 0, .int .u8 0, .int .u8 0, .int .u8 0, .int .u8 0, .int .u8 0, .int .u8 0, .int .u8 0, .int .u8 0, .int .u8 0, .int .u8 0, .int .u8 0, .int .u8 0, .int .u8 0] (by simp)).setRow _
  have hB : Below w.heap.size w w0 := by rw [hw0]; exact bSetRow ((((((Below.refl _ w).alloc (Nat.le_refl _) _).alloc (by simp) _).alloc (by simp <;> omega) _).alloc (by simp <;> omega) _).alloc (by simp <;> omega) _) (by omega) _
  obtain ⟨A, hA⟩ : ∃ A, A = be a := ⟨_, rfl⟩
  obtain ⟨V0, hV0⟩ : ∃ V0, V0 = be b := ⟨_, rfl⟩
  have hlV : V0 < Gf.lim := by rw [hV0]; exact be_lim b hb
  have haA : a = fB A := by rw [hA, fB_be a ha]
  have hgp : gprod a b = fB (Gf.Pk A V0 128) := by rw [gprod_fB a b ha hb, hA, hV0]; rfl
  rw [← hA, ← hV0] at h5
  rw [← hV0] at h6
  rw [haA] at h2
  have HG := Lib.hid hgp
  have HLV := Lib.hid hlV
  clear hw0 hA hV0 hgp hlV haA ha hb ha16 hb16
  go_loopg [7] 128 (fun n iv wr => ∃ k : Nat, n + k = 128 ∧ iv = .int .i64 k ∧ Row wr w.heap.size 23 (AB (fB A)) ∧ RowN wr (w.heap.size + 1 + 1) 23 16 ∧ Row wr (w.heap.size + 1 + 1 + 1) 23 (AB (fB (Gf.Pk A V0 k))) ∧ Row wr (w.heap.size + 1 + 1 + 1 + 1) 23 (AB (fB (Gf.Sn k V0))) ∧ Below w.heap.size w wr)
  case atStart => exact ⟨0, by omega, rfl, h2, h4, h5, h6, hB⟩
  case round =>
    clear h2 h4 h5 h6 hB
    obtain ⟨k, hk, rfl, h2, h4, h5, h6, hB⟩ := hrel
    have l6 := h6.lt
    by_cases hk8 : k < 128
    · 
      --<A
      have b1 : (k : Int) < 128 := by omega
      obtain ⟨q, r, hqr, hq, hr⟩ : ∃ q r, k = 8 * q + r ∧ q < 16 ∧ r < 8 := ⟨k / 8, k % 8, by omega, by omega, by omega⟩
      have e1 : (k : Int) / 8 = (q : Int) := by omega
      have e2 : (k : Int) % 8 = (r : Int) := by omega
      have e3 : Int.tdiv (k : Int) 8 = (q : Int) := by rw [Int.tdiv_eq_ediv_of_nonneg (by omega)]; exact e1
      have e4 : Int.tmod (k : Int) 8 = (r : Int) := by rw [Int.tmod_eq_emod_of_nonneg (by omega)]; exact e2
      have e5 : (7 : Int) - (r : Int) = ((7 - r : Nat) : Int) := by omega
      have hbit := bit_nb A q r hq hr
      rw [← hqr] at hbit
      have hfl := fB_len A
      have b2 : (q : Int) < 16 := by omega
      have hZn : Gf.Pk A V0 (k + 1) = if A.testBit (127 - k) then Gf.Pk A V0 k ^^^ Gf.Sn k V0 else Gf.Pk A V0 k := rfl
      have hVn : Gf.Sn (k + 1) V0 = Gf.S (Gf.Sn k V0) := rfl
      have hVl : Gf.Sn k V0 < Gf.lim := Gf.Sn_lt k V0 HLV.out
      obtain ⟨Z, hZ⟩ : ∃ Z, Z = Gf.Pk A V0 k := ⟨_, rfl⟩
      obtain ⟨V, hV⟩ : ∃ V, V = Gf.Sn k V0 := ⟨_, rfl⟩
      rw [← hZ, ← hV] at hZn
      rw [← hV] at hVn hVl h6
      rw [← hZ] at h5
      have hlz := fB_len Z
      have hlv := fB_len V
      have hbt : (((gb (fB A) q).toNat : Int) / 2 ^ (7 - r)).tmod 2 = (((nb A q).toNat / 2 ^ (7 - r) % 2 : Nat) : Int) := by
        rw [fB_get A q hq, Int.tmod_eq_emod_of_nonneg (by exact Int.ediv_nonneg (by omega) (by exact Int.le_of_lt (Int.pow_pos (by omega))))]
        simp
      have HZN := Lib.hid hZn
      have HVN := Lib.hid hVn
      have HVL := Lib.hid hVl
      clear hZ hV hZn hVn hVl hqr
      obtain ⟨bt, hbb⟩ : ∃ bt, bt = A.testBit (127 - k) := ⟨_, rfl⟩
      rw [← hbb] at hbit
      have HBB := Lib.hid hbb
      have htest : ((((gb (fB A) q).toNat : Int) / 2 ^ (7 - r)).tmod 2 == 1) = bt := by
        rw [hbt, Bool.eq_iff_iff, ← hbit, beq_iff_eq]
        omega
      clear hbb hbit hbt
      go_upto_if 25 with (fail)
      clear htest
      go_cut [] (fun w2 => Row w2 w.heap.size 23 (AB (fB A)) ∧ RowN w2 (w.heap.size + 1 + 1) 23 16 ∧ Row w2 (w.heap.size + 1 + 1 + 1) 23 (AB (fB (Gf.Pk A V0 (k + 1)))) ∧ Row w2 (w.heap.size + 1 + 1 + 1 + 1) 23 (AB (fB V)) ∧ Below w.heap.size w w2)
      case first =>
        cases bt
        case false =>
          have e : Gf.Pk A V0 (k + 1) = Z := by rw [HZN.out, ← HBB.out, if_neg (by decide)]
          have HE := Lib.hid e
          clear e
          go_wp2_with fail
          go_meet
          case rel => exact ⟨h2, h4, by rw [HE.out]; exact h5, h6, hB⟩
        case true =>
          have e : Gf.Pk A V0 (k + 1) = Z ^^^ V := by rw [HZN.out, ← HBB.out, if_pos rfl]
          have HE := Lib.hid e
          clear e
          go_wp2_with fail
          rw [← zP_zero Z V] at h5
          go_loopg [8] 16 (fun n jv wr => ∃ j : Nat, n + j = 16 ∧ jv = .int .i64 j ∧ Row wr w.heap.size 23 (AB (fB A)) ∧ RowN wr (w.heap.size + 1 + 1) 23 16 ∧ Row wr (w.heap.size + 1 + 1 + 1) 23 (AB (zP Z V j)) ∧ Row wr (w.heap.size + 1 + 1 + 1 + 1) 23 (AB (fB V)) ∧ Below w.heap.size w wr)
          case atStart => exact ⟨0, by omega, rfl, h2, h4, h5, h6, hB⟩
          case round =>
            clear h2 h4 h5 h6 hB
            obtain ⟨j, hj, rfl, h2, h4, h5, h6, hB⟩ := hrel
            by_cases hj16 : j < 16
            · have b1 : (j : Int) < 16 := by omega
              have hx1 : (AB (zP Z V j))[j]? = some (B (nb Z j)) := by rw [AB_get _ _ (by rw [zP_len]; exact hj16), zP_get Z V j hj16]
              have hx2 : (AB (fB V))[j]? = some (B (nb V j)) := by rw [AB_get _ _ (by rw [fB_len]; exact hj16), fB_get V j hj16]
              have hs1 : (AB (zP Z V j)).size = 16 := by rw [AB_size, zP_len]
              have hst : (zP Z V j).set j (xr (gb (zP Z V j) j) (gb (fB V) j)) = zP Z V (j + 1) := by rw [zP_get Z V j hj16, fB_get V j hj16]; exact zP_step Z V j
              have HST := Lib.hid hst
              clear hst
              go_wp2_with fail
              refine wp_region_qtail (fun w' => w' = _) 8 (by kernel_rfl) (by kernel_rfl) rfl ?_
              simp only [List.take_succ_cons, List.take_zero, List.drop_succ_cons, List.drop_zero]
              repeat (first | go_big_quiet_skip | (go_big_quiet_want; go_big_quiet_op; go_big_quiet_on))
              refine wpQuiet_nil ?_
              rintro _ rfl
              go_wp2_with fail
              go_roundg (gk - 1)
              case measure => omega
              case rel => exact ⟨j + 1, by omega, by go_num, h2.drew.setOther _ _ (by simp; try omega), (by obtain ⟨z, hz, hzs⟩ := h4; exact ⟨z, hz.drew.setOther _ _ (by simp; try omega), hzs⟩), by rw [← HST.out]; exact h5.drew.setByte j _, h6.drew.setOther _ _ (by simp; try omega), hB.drew.setCell (by simp; omega) _⟩
            · obtain rfl : j = 16 := by omega
              rw [zP_full] at h5
              go_wp2_with fail
              go_meet
              case rel => exact ⟨h2, h4, by rw [HE.out]; exact h5, h6, hB⟩
      case rest =>
        clear h2 h4 h5 h6 hB HZN HBB
        obtain ⟨h2, h4, h5, h6, hB⟩ := hcut
        obtain ⟨Zn, hZn⟩ : ∃ Z, Z = Gf.Pk A V0 (k + 1) := ⟨_, rfl⟩
        rw [← hZn] at h5
        have HZ2 := Lib.hid hZn
        clear hZn
        have hlast : (((gb (fB V) 15).toNat : Int).tmod 2) = ((V % 2 : Nat) : Int) := by
          rw [fB_get V 15 (by omega), Int.tmod_eq_emod_of_nonneg (by omega), ← last_nb]
          simp
        go_upto_region 12 with (fail)
        rw [← vP_zero V] at h6
        go_wp2_with fail
        obtain ⟨no, rfl⟩ : ∃ no : Nat, no = gk := ⟨_, rfl⟩
        clear hlv hlast
        go_loopg [10] 16 (fun n jv wr => ∃ m : Nat, n + m = 16 ∧ jv = .int .i64 (15 - (m : Int)) ∧ Row wr w.heap.size 23 (AB (fB A)) ∧ RowN wr (w.heap.size + 1 + 1) 23 16 ∧ Row wr (w.heap.size + 1 + 1 + 1) 23 (AB (fB Zn)) ∧ Row wr (w.heap.size + 1 + 1 + 1 + 1) 23 (AB (vP V m)) ∧ Below w.heap.size w wr)
        case atStart => exact ⟨0, by omega, rfl, h2, h4, h5, h6, hB⟩
        case round =>
          clear h2 h4 h5 h6 hB
          obtain ⟨m, hm, rfl, h2, h4, h5, h6, hB⟩ := hrel
          have l6 := h6.lt
          by_cases hm16 : m < 16
          · obtain ⟨k2, hk2⟩ : ∃ k2, m + k2 = 15 := ⟨15 - m, by omega⟩
            have hc : 15 - (m : Int) = (k2 : Int) := by omega
            rw [hc]
            have c1 : (0 : Int) ≤ (k2 : Int) := by omega
            have c2 : (k2 : Int) < 16 := by omega
            have hlv := vP_len V m
            have hg0 := vP_get V m k2 (by omega)
            obtain ⟨L, hL⟩ : ∃ L, L = vP V m := ⟨_, rfl⟩
            rw [← hL] at h6 hlv hg0
            have HL := Lib.hid hL
            have HG0 := Lib.hid hg0
            clear hc hg0 hL
            have l4 := h4.lt
            by_cases hk0 : k2 = 0
            · subst hk0
              have hst : L.set 0 (sr (gb L 0)) = vP V (m + 1) := by
                rw [HL.out]
                exact vP_step V m 0 hk2 _ (by rw [← HL.out, HG0.out]; exact sr_nb V HVL.out)
              have HST := Lib.hid hst
              clear hst
              go_wp2_with fail
              go_roundg (gk - 1)
              case measure => omega
              case rel => exact ⟨m + 1, by omega, by go_num, h2.setOther _ _ (by simp; try omega), (by obtain ⟨z, hz, hzs⟩ := h4; exact ⟨z, hz.setOther _ _ (by simp; try omega), hzs⟩), h5.setOther _ _ (by simp; try omega), by rw [← HST.out]; exact h6.setByte 0 _, hB.setCell (by simp; omega) _⟩
            · obtain ⟨k3, hk3⟩ : ∃ k3, k2 = k3 + 1 := ⟨k2 - 1, by omega⟩
              have c3 : (0 : Int) < (k2 : Int) := by omega
              have c4 : (k2 : Int) - 1 = (k3 : Int) := by omega
              have c5 : (k3 : Int) < 16 := by omega
              have hg3 : gb L k3 = nb V k3 := by rw [HL.out]; exact vP_get V m k3 (by omega)
              have HK3 := Lib.hid hk3
              have hkn : k2 < 16 := by omega
              have hk3n : k3 < 16 := by omega
              clear hk3
              go_upto_region 17 with (fail)
              have hk3 := HK3.out
              obtain ⟨L1, hL1⟩ : ∃ L1, L1 = L.set k2 (sr (gb L k2)) := ⟨_, rfl⟩
              obtain ⟨w3, hw3⟩ : ∃ w3, w3 = wr.setCell ⟨w.heap.size + 1 + 1 + 1 + 1, k2, none⟩ (B (sr (gb L k2))) := ⟨_, rfl⟩
              rw [← hw3]
              have hgl1 : gb L1 k2 = sr (nb V k2) := by rw [hL1, gb_set _ _ _ _ (by omega), if_pos rfl, HG0.out]
              have hgl0 : gb L1 k3 = nb V k3 := by rw [hL1, gb_set _ _ _ _ (by omega), if_neg (by omega), hg3]
              have hl1 : L1.length = 16 := by rw [hL1, List.length_set]; exact hlv
              have hst : L1.set k2 (sro (gb L1 k2) (gb L1 k3)) = vP V (m + 1) := by
                rw [hgl1, hgl0, hL1, List.set_set, HL.out]
                exact vP_step V m k2 hk2 _ (by rw [show k3 = k2 - 1 by omega]; exact sro_nb V k2 (by omega) (by omega))
              have g2 : Row w3 w.heap.size 23 (AB (fB A)) := by rw [hw3]; exact h2.setOther _ _ (by simp; try omega)
              have g4 : RowN w3 (w.heap.size + 1 + 1) 23 16 := by rw [hw3]; obtain ⟨z, hz, hzs⟩ := h4; exact ⟨z, hz.setOther _ _ (by simp; try omega), hzs⟩
              have g5 : Row w3 (w.heap.size + 1 + 1 + 1) 23 (AB (fB Zn)) := by rw [hw3]; exact h5.setOther _ _ (by simp; try omega)
              have g6 : Row w3 (w.heap.size + 1 + 1 + 1 + 1) 23 (AB L1) := by rw [hw3, hL1]; exact h6.setByte k2 _
              have gB : Below w.heap.size w w3 := by rw [hw3]; exact hB.setCell (by simp; omega) _
              have HST := Lib.hid hst
              clear hk3 hst hgl1 hgl0 hw3 hL1 hg3 h2 h4 h5 h6 hB HL HG0
              refine wp_region_qtail (fun w' => w' = _) 10 (by kernel_rfl) (by kernel_rfl) rfl ?_
              simp only [List.take_succ_cons, List.take_zero, List.drop_succ_cons, List.drop_zero]
              repeat (first | go_big_quiet_skip | (go_big_quiet_want; go_big_quiet_op; go_big_quiet_on))
              refine wpQuiet_nil ?_
              rintro _ rfl
              go_wp2_with fail
              go_roundg (gk - 1)
              case measure => omega
              case rel => exact ⟨m + 1, by omega, by go_num, g2.drew.setOther _ _ (by simp; try omega), (by obtain ⟨z, hz, hzs⟩ := g4; exact ⟨z, hz.drew.setOther _ _ (by simp; try omega), hzs⟩), g5.drew.setOther _ _ (by simp; try omega), by rw [← HST.out]; exact g6.drew.setByte k2 _, gB.drew.setCell (by simp; omega) _⟩
          · obtain rfl : m = 16 := by omega
            rw [vP_full] at h6
            have hfl2 := fB_len (V / 2)
            have l4 := h4.lt
            by_cases hodd : V % 2 = 1
            · have hsn : (fB (V / 2)).set 0 (xr (gb (fB (V / 2)) 0) 225) = fB (Gf.Sn (k + 1) V0) := by
                rw [HVN.out, fB_get _ 0 (by omega), red_nb, Gf.S, if_pos hodd]
              have HSN := Lib.hid hsn
              have ho1 : (V : Int) % 2 = 1 := by omega
              have hx : ∀ x : UInt8, bits .xor .u8 (x.toNat : Int) 225 = ((xr x 225).toNat : Int) := fun x => bx8 x 225
              clear hsn hodd
              go_wp2_with fail
              go_roundg (no - 1)
              case measure => omega
              case rel => exact ⟨k + 1, by omega, by go_num, h2.setOther _ _ (by simp; try omega), (by obtain ⟨z, hz, hzs⟩ := h4; exact ⟨z, hz.setOther _ _ (by simp; try omega), hzs⟩), by rw [← HZ2.out]; exact h5.setOther _ _ (by simp; try omega), by rw [← HSN.out]; exact h6.setByte 0 _, hB.setCell (by simp; omega) _⟩
            · have hsn : fB (V / 2) = fB (Gf.Sn (k + 1) V0) := by rw [HVN.out, Gf.S, if_neg hodd]
              have HSN := Lib.hid hsn
              have ho1 : ((V : Int) % 2 == 1) = false := by rw [beq_eq_false_iff_ne]; omega
              clear hsn hodd
              go_wp2_with fail
              go_roundg (no - 1)
              case measure => omega
              case rel => exact ⟨k + 1, by omega, by go_num, h2, h4, by rw [← HZ2.out]; exact h5, by rw [← HSN.out]; exact h6, hB⟩
      --A>
    · 
      --<B
      obtain rfl : k = 128 := by omega
      have hfl := fB_len (Gf.Pk A V0 128)
      have hf16 := (AB_size _).trans hfl
      obtain ⟨Rr, hR⟩ : ∃ R, R = fB (Gf.Pk A V0 128) := ⟨_, rfl⟩
      rw [← hR] at h5 hf16
      have HR := Lib.hid hR
      obtain ⟨z, hz, hzs⟩ := h4
      clear hR hfl
      go_wp2_with fail
      exact ret_row (.inl rfl) rfl (w.heap.size + 1 + 1) _ _ 16 _ rfl (hz.setRow _) Try.underlying23 rfl (by kernel_rfl) hf16 ⟨by rw [HG.out, HR.out], bSetRow hB (by omega) _⟩
      --B>
end Go.Proofs.Ytjopgogaipkdbaa
