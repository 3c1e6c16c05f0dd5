/- The walks of the document's counter and eight. -/
import Derived.Test.YtjopgogaipkdbaaTag
import Derived.Test.YtjopgogaipkdbaaKit
namespace Go.Proofs.Ytjopgogaipkdbaa
open Go.RowKit

/-- The first k bytes of a nonce, noughts behind. -/
def noP (nonce : List UInt8) (k : Nat) : List UInt8 := tab 16 fun j => if j < k then gb nonce j else 0
theorem noP_len (nonce : List UInt8) (k : Nat) : (noP nonce k).length = 16 := tab_length _ _
theorem noP_zero (nonce : List UInt8) : noP nonce 0 = List.replicate 16 0 := by
  have : noP nonce 0 = tab 16 fun _ => 0 := tab_congr fun i _ => by rw [if_neg (by omega)]
  rw [this]; rfl
theorem noP_step (nonce : List UInt8) (k : Nat) : (noP nonce k).set k (gb nonce k) = noP nonce (k + 1) := by
  unfold noP
  rw [tab_set]
  apply tab_congr
  intro i _
  by_cases h : i = k
  · subst h; rw [if_pos rfl, if_pos (by omega)]
  · rw [if_neg h]
    by_cases h2 : i < k
    · rw [if_pos h2, if_pos (by omega)]
    · rw [if_neg h2, if_neg (by omega)]
theorem noP_full (nonce : List UInt8) (h : nonce.length = 12) : noP nonce 12 = nonce ++ List.replicate 4 0 := by
  apply gb_ext (by rw [noP_len]; simp [h])
  intro i hi
  have hi16 : i < 16 := by simpa [h] using hi
  unfold noP
  rw [gb_tab _ hi16]
  by_cases h2 : i < 12
  · rw [if_pos h2, gb_append_left _ _ _ (by omega)]
  · rw [if_neg h2]
    have h3 : ∀ i, i < 4 → (0 : UInt8) = gb (List.replicate 4 0) i := by decide
    have e : gb (nonce ++ List.replicate 4 0) i = gb (List.replicate 4 0) (i - 12) := by
      simp only [gb, List.getD_eq_getElem?_getD, List.getElem?_append, h, if_neg h2]
    rw [e]
    exact h3 (i - 12) (by omega)
set_option maxRecDepth 100000 in
set_option maxHeartbeats 2000000 in
theorem counter_any (nonce : List UInt8) (n : Nat) (w : World) (hn : nonce.length = 12) : Calls Try.prog 53 #[.agg (AB nonce), .int .i64 (n : Int)] w fun e w' => e = .returned (.agg (AB (ctrB nonce n))) ∧ Below w.heap.size w w' := by
  have hn16 := (AB_size nonce).trans hn
  have v1 : IntKind.u8.wrap ((n : Int) / 16777216) = ((UInt8.ofNat (n / 16777216)).toNat : Int) := by rw [← u8wrap]; simp
  have v2 : IntKind.u8.wrap ((n : Int) / 65536) = ((UInt8.ofNat (n / 65536)).toNat : Int) := by rw [← u8wrap]; simp
  have v3 : IntKind.u8.wrap ((n : Int) / 256) = ((UInt8.ofNat (n / 256)).toNat : Int) := by rw [← u8wrap]; simp
  have v4 := u8wrap n
  obtain ⟨b1, hb1⟩ : ∃ b, b = UInt8.ofNat (n / 16777216) := ⟨_, rfl⟩
  obtain ⟨b2, hb2⟩ : ∃ b, b = UInt8.ofNat (n / 65536) := ⟨_, rfl⟩
  obtain ⟨b3, hb3⟩ : ∃ b, b = UInt8.ofNat (n / 256) := ⟨_, rfl⟩
  obtain ⟨b4, hb4⟩ : ∃ b, b = UInt8.ofNat n := ⟨_, rfl⟩
  have hfin : ((((noP nonce 12).set 12 b1).set 13 b2).set 14 b3).set 15 b4 = ctrB nonce n := by
    rw [noP_full nonce hn, hb1, hb2, hb3, hb4]
    unfold ctrB
    simp [hn, List.replicate]
  rw [← hb1] at v1
  rw [← hb2] at v2
  rw [← hb3] at v3
  rw [← hb4] at v4
  have HFIN := Lib.hid hfin
  clear hb1 hb2 hb3 hb4 hfin
  go_enter Try.func53, Try.ntmps53
  go_wp2_with fail
  have h2 := ((Row.new w 48 (AB nonce)).alloc (.cells (AB (List.replicate 16 0)) 23)).alloc (.cells (AB (List.replicate 16 0)) 23)
  have h4 := (RowN.newAt (w.alloc (.cells (AB nonce) 48)) (w.heap.size + 1) 23 (AB (List.replicate 16 0)) (by simp)).alloc (.cells (AB (List.replicate 16 0)) 23)
  rw [show (AB (List.replicate 16 0)).size = 16 from rfl] at h4
  have h5 : Row (((w.alloc (.cells (AB nonce) 48)).alloc (.cells (AB (List.replicate 16 0)) 23)).alloc (.cells (AB (List.replicate 16 0)) 23)) (w.heap.size + 1 + 1) 23 (AB (noP nonce 0)) := by
    rw [noP_zero]
    exact Row.newAt _ _ _ _ (by simp)
  have hB : Below w.heap.size w (((w.alloc (.cells (AB nonce) 48)).alloc (.cells (AB (List.replicate 16 0)) 23)).alloc (.cells (AB (List.replicate 16 0)) 23)) := (((Below.refl _ w).alloc (Nat.le_refl _) _).alloc (by simp) _).alloc (by simp <;> omega) _
  go_loopg [6] 12 (fun m iv wr => ∃ k : Nat, m + k = 12 ∧ iv = .int .i64 k ∧ Row wr w.heap.size 48 (AB nonce) ∧ RowN wr (w.heap.size + 1) 23 16 ∧ Row wr (w.heap.size + 1 + 1) 23 (AB (noP nonce k)) ∧ Below w.heap.size w wr)
  case atStart => exact ⟨0, by omega, rfl, h2, h4, h5, hB⟩
  case round =>
    clear h2 h4 h5 hB
    obtain ⟨k, hk, rfl, h2, h4, h5, hB⟩ := hrel
    have hl := noP_len nonce k
    have l5 := h5.lt
    by_cases hk12 : k < 12
    · have c1 : (k : Int) < 12 := by omega
      have c2 : (k : Int) < 16 := by omega
      have c3 : k < 16 := by omega
      go_wp2_with fail
      go_roundg (gk - 1)
      case measure => omega
      case rel => exact ⟨k + 1, by omega, by go_num, h2.setOther _ _ (by simp; try omega), (by obtain ⟨z, hz, hzs⟩ := h4; exact ⟨z, hz.setOther _ _ (by simp; try omega), hzs⟩), by rw [← noP_step]; exact h5.setByte k _, hB.setCell (by simp; omega) _⟩
    · obtain rfl : k = 12 := by omega
      go_upto_region 7 with (fail)
      obtain ⟨w3, hw3⟩ : ∃ w3, w3 = (((wr.setCell ⟨w.heap.size + 1 + 1, 12, none⟩ (B b1)).setCell ⟨w.heap.size + 1 + 1, 13, none⟩ (B b2)).setCell ⟨w.heap.size + 1 + 1, 14, none⟩ (B b3)).setCell ⟨w.heap.size + 1 + 1, 15, none⟩ (B b4) := ⟨_, rfl⟩
      rw [← hw3]
      have k5 : Row w3 (w.heap.size + 1 + 1) 23 (AB (ctrB nonce n)) := by
        rw [hw3, ← HFIN.out]
        exact (((h5.setByte 12 b1).setByte 13 b2).setByte 14 b3).setByte 15 b4
      have k4 : RowN w3 (w.heap.size + 1) 23 16 := by
        rw [hw3]
        obtain ⟨z, hz, hzs⟩ := h4
        exact ⟨z, (((hz.setOther _ _ (by simp)).setOther _ _ (by simp)).setOther _ _ (by simp)).setOther _ _ (by simp), hzs⟩
      have kB : Below w.heap.size w w3 := by rw [hw3]; exact (((hB.setCell (by simp; omega) _).setCell (by simp; omega) _).setCell (by simp; omega) _).setCell (by simp; omega) _
      have hc16 := (AB_size _).trans (ctrB_len nonce n hn)
      obtain ⟨z, hz, hzs⟩ := k4
      clear hw3 h2 h4 h5 hB HFIN v1 v2 v3 v4
      go_wp2_with fail
      exact ret_row (.inl rfl) rfl (w.heap.size + 1) _ _ 16 _ rfl (hz.setRow _) Try.underlying23 rfl (by kernel_rfl) hc16 ⟨rfl, bSetRow kB (by omega) _⟩
end Go.Proofs.Ytjopgogaipkdbaa

/- The walk of the document's eight. -/
namespace Go.Proofs.Ytjopgogaipkdbaa
open Go.RowKit

/-- A count of bits, its first r bytes. -/
def e8P (n r : Nat) : List UInt8 := (List.range r).map fun j => UInt8.ofNat (n * 8 / 2 ^ (56 - 8 * j))
theorem e8P_len (n r : Nat) : (e8P n r).length = r := by simp [e8P]
theorem e8P_step (n r : Nat) : e8P n r ++ [UInt8.ofNat (n * 8 / 2 ^ (56 - 8 * r))] = e8P n (r + 1) := by simp [e8P, List.range_succ]
theorem cntB_e8 (b c : Nat) (hb : b ≤ 1000000) (hc : c ≤ 1000000) : cntB b c = e8P b 8 ++ e8P c 8 := by
  apply gb_ext (by rw [cntB, blQ_len, List.length_append, e8P_len, e8P_len])
  intro i hi
  rw [List.length_append, e8P_len, e8P_len] at hi
  have h1 : b * 8 % 18446744073709551616 = b * 8 := by omega
  have h2 : c * 8 % 18446744073709551616 = c * 8 := by omega
  unfold cntB blQ outQ
  rw [gb_tab _ (by omega)]
  by_cases h : i < 8
  · rw [if_pos h, gb_append_left _ _ _ (by rw [e8P_len]; exact h)]
    simp [byQ, h1, e8P, gb, h]
  · rw [if_neg h, if_pos (by omega)]
    have e : gb (e8P b 8 ++ e8P c 8) i = gb (e8P c 8) (i - 8) := by
      simp only [gb, List.getD_eq_getElem?_getD, List.getElem?_append, e8P_len, if_neg h]
    rw [e]
    simp [byQ, h2, e8P, gb, show i - 8 < 8 by omega]
set_option maxRecDepth 100000 in
set_option maxHeartbeats 2000000 in
theorem eight_any (n : Nat) (w : World) (hn : n ≤ 1000000) : Calls Try.prog 52 #[.int .i64 (n : Int)] w fun e w' => e = .returned (S (e8P n 8)) ∧ Below w.heap.size w w' := by
  have n1 : (0 : Int) ≤ (n : Int) := by omega
  have n2 : (n : Int) ≤ 1000000 := by omega
  have n3 : IntKind.u64.wrap (n : Int) = (n : Int) := by rw [IntKind.wrap_u64]; omega
  have n4 : IntKind.u64.wrap ((n : Int) * 8) = (n : Int) * 8 := by rw [IntKind.wrap_u64]; omega
  go_enter Try.func52, Try.ntmps52
  go_wp2_with fail
  go_loopg [3, 4] 8 (fun m v i wr => ∃ r : Nat, m + r = 8 ∧ i = .int .i64 (56 - 8 * (r : Int)) ∧ Buf 5 wr w.heap.size v (e8P n r) ∧ Below w.heap.size w wr)
  case atStart => exact ⟨0, by omega, rfl, by simpa [Buf, e8P] using World.ownsRow_nil w w.heap.size 5 1, Below.refl _ w⟩
  case round =>
    obtain ⟨r, hr, rfl, hbuf, hB⟩ := hrel
    have hsz := hB.size
    by_cases h : r < 8
    · obtain ⟨e, he⟩ : ∃ e, e = 56 - 8 * r := ⟨_, rfl⟩
      have hc : 56 - 8 * (r : Int) = (e : Int) := by omega
      have hnx : (e : Int) - 8 = 56 - 8 * ((r + 1 : Nat) : Int) := by omega
      rw [hc]
      have c1 : (0 : Int) ≤ (e : Int) := by omega
      have c2 : (e : Int) ≤ 56 := by omega
      have v8 : IntKind.u8.wrap ((n : Int) * 8 / 2 ^ e) = ((UInt8.ofNat (n * 8 / 2 ^ e)).toNat : Int) := by rw [← u8wrap]; simp
      obtain ⟨x, hx⟩ : ∃ x, x = UInt8.ofNat (n * 8 / 2 ^ e) := ⟨_, rfl⟩
      rw [← hx] at v8
      have hst : e8P n r ++ [x] = e8P n (r + 1) := by rw [hx, he]; exact e8P_step n r
      have hcl := e8P_len n r
      obtain ⟨L, hL⟩ : ∃ L, L = e8P n r := ⟨_, rfl⟩
      rw [← hL] at hbuf hcl hst
      have HST := Lib.hid hst
      have HNX := Lib.hid hnx
      clear hL hst hx he hc hnx
      go_wp2_with (at_builtin; refine wpl_append1 rfl (.tmp 9) (.tmp 16) 24 rfl Try.underlying24 info_u8 w.heap.size _ L rfl (hbuf.alloc _) wr.heap.size x rfl ?c1 ?c2 ?c3 ?c4)
      case c1 => simp
      case c2 => omega
      case c3 => simp; omega
      case c4 =>
        intro v' w' hbuf' hgrow
        have hB' : Below w.heap.size w w' := (hB.alloc hsz _).grown hgrow (by simp; omega) (fun j e => (hbuf.lt j e).1)
        have HB' := Lib.hid (HST.out ▸ hbuf')
        clear hbuf' hgrow hB hbuf
        go_wp2_with fail
        go_roundg (gk - 1)
        case measure => omega
        case rel => exact ⟨r + 1, by omega, by rw [← HNX.out], HB'.out, hB'⟩
    · obtain rfl : r = 8 := by omega
      have hconv := run_conv_slb (P := Try.prog) wr 24 5 9 Try.underlying24 Try.underlying5 Try.underlying9 _ _ hbuf.slb
      clear hbuf
      go_wp2_with fail
      go_ret
      exact ⟨rfl, hB⟩
end Go.Proofs.Ytjopgogaipkdbaa
