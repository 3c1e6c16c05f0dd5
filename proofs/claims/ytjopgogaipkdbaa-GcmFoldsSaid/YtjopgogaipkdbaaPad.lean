/- The walk of gcm's pad; a Box in memory. -/
import Derived.Test.YtjopgogaipkdbaaSeal
import Derived.Test.YtjopgogaipkdbaaGcmA
import Derived.Test.YtjopgogaipkdbaaDoor
import Derived.Test.YtjopgogaipkdbaaConv
import Derived.Laws.CopyOwn
namespace Go.Proofs.Ytjopgogaipkdbaa
open Go.RowKit

/-- A box's cells. -/
def boxC (kp : Value) (h : List UInt8) : Array Value := #[kp] ++ AB h
theorem boxC_size (kp : Value) (h : List UInt8) : (boxC kp h).size = 1 + h.length := by simp [boxC, AB_size]
theorem boxC_k (kp : Value) (h : List UInt8) : (boxC kp h)[0]? = some kp := by
  rw [← Array.getElem?_toList]
  simp [boxC]
theorem boxC_h (kp : Value) (h : List UInt8) : sub (boxC kp h) 1 h.length = AB h := by
  simp only [sub, boxC]
  apply Array.ext'
  simp only [AB, Array.toList_extract, List.extract_eq_take_drop, Array.toList_append, List.drop_succ_cons, List.drop_zero, List.cons_append, List.nil_append]
  rw [show 1 + h.length - 1 = (h.map B).length by simp, List.take_length]
/-- What p leads to: a box with the key W (last rounds) and the element h. -/
def BoxAt (tb tk te : TypeId) (w : World) (p : Value) (W : List UInt8) (last : Nat) (h : List UInt8) : Prop :=
  ∃ xb kp, p = .pointer (some ⟨xb, 0, none⟩) ∧ Row w xb tb (boxC kp h) ∧ KeyAt tk te w kp W (last + 1) ∧ h.length = 16
theorem BoxAt.below {tb tk te : TypeId} {w w' : World} {p : Value} {W h : List UInt8} {last : Nat} (b : BoxAt tb tk te w p W last h) (hb : Below w.heap.size w w') : BoxAt tb tk te w' p W last h := by
  obtain ⟨xb, kp, e1, e2, e3, e4⟩ := b
  exact ⟨xb, kp, e1, e2.below hb e2.lt, e3.below hb, e4⟩
/-- A nonce and a number. -/
def ctrB (nonce : List UInt8) (n : Nat) : List UInt8 := nonce ++ [UInt8.ofNat (n / 16777216), UInt8.ofNat (n / 65536), UInt8.ofNat (n / 256), UInt8.ofNat n]
theorem ctrB_len (nonce : List UInt8) (n : Nat) (h : nonce.length = 12) : (ctrB nonce n).length = 16 := by simp [ctrB, h]
theorem u8wrap (n : Nat) : IntKind.u8.wrap (n : Int) = ((UInt8.ofNat n).toNat : Int) := by
  rw [UInt8.toNat_ofNat']
  simp [IntKind.wrap, IntKind.bits, IntKind.signed]

set_option maxRecDepth 100000 in
set_option maxHeartbeats 2000000 in
theorem pad_any (p : Value) (W : List UInt8) (last : Nat) (h nonce : List UInt8) (n : Nat) (w : World) (hb : BoxAt 84 67 23 w p W last h) (hn : nonce.length = 12) :
    Calls Try.prog 58 #[p, .agg (AB nonce), .int .u32 (n : Int)] w fun e w' => e = .returned (.agg (AB (sealN W last (ctrB nonce n) last))) ∧ Below w.heap.size w w' := by
  obtain ⟨xb, kp, rfl, hx, hk, hh⟩ := hb
  have lx := hx.lt
  go_enter Try.func58, Try.ntmps58
  go_wp2_with fail
  obtain ⟨w0, hw0⟩ : ∃ w0, w0 = ((w.alloc (.cells (AB nonce) 48)).alloc (.cells (AB (List.replicate 16 0)) 23)).alloc (.cells (AB (List.replicate 16 0)) 23) := ⟨_, rfl⟩
  have h1 : Row w0 w.heap.size 48 (AB nonce) := by rw [hw0]; exact ((Row.new w _ _).alloc _).alloc _
  have h2 : RowN w0 (w.heap.size + 1) 23 16 := by rw [hw0]; exact (RowN.newAt _ _ _ (AB (List.replicate 16 0)) (by simp)).alloc _
  have h3 : Row w0 (w.heap.size + 1 + 1) 23 (AB (List.replicate 16 0)) := by rw [hw0]; exact Row.newAt _ _ _ _ (by simp)
  have hB0 : Below w.heap.size w w0 := by rw [hw0]; exact ((((Below.refl _ w).alloc (Nat.le_refl _) _).alloc (by simp) _)).alloc (by simp <;> omega) _
  have hw0' : ((w.alloc (.cells (AB nonce) 48)).alloc (.cells #[.int .u8 0, .int .u8 0, .int .u8 0, .int .u8 0, .int .u8 0, .int .u8 0, .int .u8 0, .int .u8 0, .int .u8 0, .int .u8 0, .int .u8 0, .int .u8 0, .int .u8 0, .int .u8 0, .int .u8 0, .int .u8 0] 23)).alloc (.cells #[.int .u8 0, .int .u8 0, .int .u8 0, .int .u8 0, .int .u8 0, .int .u8 0, .int .u8 0, .int .u8 0, .int .u8 0, .int .u8 0, .int .u8 0, .int .u8 0, .int .u8 0, .int .u8 0, .int .u8 0, .int .u8 0] 23) = w0 := by rw [hw0]; rfl
  rw [hw0']
  clear hw0 hw0'
  have HN := Lib.hid hn
  have hc2 : (nonce.map B).length = Nat.min 12 16 := by rw [List.length_map, hn]; rfl
  have hc3 : 0 < (nonce.map B).length → (some ⟨w.heap.size + 1 + 1, 0, none⟩ : Option Addr) = some ⟨w.heap.size + 1 + 1, 0, none⟩ ∧ ∃ ad, (some ⟨w.heap.size, 0, none⟩ : Option Addr) = some ad ∧ ∀ j v, (nonce.map B)[j]? = some v → w0.drew.cell? (ad.add j) = some v := by
    intro _
    refine ⟨rfl, _, rfl, fun j v hv => ?_⟩
    have hj : j < nonce.length := by simpa using (List.getElem?_eq_some_iff.1 hv).1
    rw [Addr.add_lit, Nat.zero_add]
    refine (h1.drew.byte j hj).trans ?_
    simpa [gb, hj] using hv
  have hc4 : 0 + (nonce.map B).length ≤ ((List.replicate 16 (0 : UInt8)).map B).length := by rw [List.length_map, hn]; decide
  have hc5 : ∀ u ∈ nonce.map B, u.oneCell' = true := by intro u hu; obtain ⟨z, _, rfl⟩ := List.mem_map.1 hu; rfl
  have HC2 := Lib.hid hc2
  have HC3 := Lib.hid hc3
  have HC4 := Lib.hid hc4
  have HC5 := Lib.hid hc5
  have H3 := Lib.hid h3.drew.heap
  have HB0 := Lib.hid (hB0.drew)
  clear hc2 hc3 hc4 hc5 hn
  refine wp_region_qtail (fun w' => w' = _) 2 (by kernel_rfl) (by kernel_rfl) rfl ?_
  simp only [List.take_succ_cons, List.take_zero, List.drop_succ_cons, List.drop_zero]
  repeat (first | go_big_quiet_skip | (go_big_quiet_want; go_big_quiet_op; go_big_quiet_on))
  refine wpQuiet_nil ?_
  rintro _ rfl
  refine wpList_copy_splice rfl (.tmp 8) (.tmp 9) 24 24 rfl 5 Try.underlying24 (by kernel_rfl) (some ⟨w.heap.size + 1 + 1, 0, none⟩) (some ⟨w.heap.size, 0, none⟩) 16 16 12 12 rfl rfl (w.heap.size + 1 + 1) 0 ((List.replicate 16 (0 : UInt8)).map B) 23 H3.out (nonce.map B) HC2.out HC3.out HC4.out HC5.out (w.heap.size + 1 + 1) w0.drew (Below.refl _ _) (Nat.le_refl _) ?_
  intro W1 hW1 hbW1
  obtain ⟨L, hL⟩ : ∃ L, L = nonce ++ List.replicate 4 0 := ⟨_, rfl⟩
  have hLl : L.length = 16 := by rw [hL]; simp [HN.out]
  have g3 : Row W1 (w.heap.size + 1 + 1) 23 (AB L) := by
    refine (Row.of_heap hW1.out).trans ?_
    congr 2
    rw [hL]
    simp only [splice, AB, List.take_zero, List.nil_append, Nat.zero_add, List.length_map, List.map_append, List.map_replicate, List.drop_replicate, HN.out]
  have g2 := h2.drew.below hbW1 (by omega)
  have gB : Below w.heap.size w W1 := HB0.out.trans (hbW1.mono (by omega))
  have hx1 := hx.below gB lx
  have hk1 := hk.below gB
  have hfin : (((L.set 12 (UInt8.ofNat (n / 16777216))).set 13 (UInt8.ofNat (n / 65536))).set 14 (UInt8.ofNat (n / 256))).set 15 (UInt8.ofNat n) = ctrB nonce n := by
    rw [hL]
    unfold ctrB
    simp [HN.out, List.replicate]
  have HFIN := Lib.hid hfin
  have HL := Lib.hid hL
  have l3 := g3.lt
  have v1 : IntKind.u8.wrap ((n : Int) / 16777216) = ((UInt8.ofNat (n / 16777216)).toNat : Int) := by rw [← u8wrap]; simp
  have v2 : IntKind.u8.wrap ((n : Int) / 65536) = ((UInt8.ofNat (n / 65536)).toNat : Int) := by rw [← u8wrap]; simp
  have v3 : IntKind.u8.wrap ((n : Int) / 256) = ((UInt8.ofNat (n / 256)).toNat : Int) := by rw [← u8wrap]; simp
  have v4 := u8wrap n
  obtain ⟨b1, hb1⟩ : ∃ b, b = UInt8.ofNat (n / 16777216) := ⟨_, rfl⟩
  obtain ⟨b2, hb2⟩ : ∃ b, b = UInt8.ofNat (n / 65536) := ⟨_, rfl⟩
  obtain ⟨b3, hb3⟩ : ∃ b, b = UInt8.ofNat (n / 256) := ⟨_, rfl⟩
  obtain ⟨b4, hb4⟩ : ∃ b, b = UInt8.ofNat n := ⟨_, rfl⟩
  rw [← hb1] at v1
  rw [← hb2] at v2
  rw [← hb3] at v3
  rw [← hb4] at v4
  have HB1 := Lib.hid hb1
  have HB2 := Lib.hid hb2
  have HB3 := Lib.hid hb3
  have HB4 := Lib.hid hb4
  clear hb1 hb2 hb3 hb4 hL hfin hW1 hbW1 h1 h2 h3 hB0 HC2 HC3 HC4 HC5 H3 HB0
  go_wp2_with fail
  obtain ⟨w2, hw2⟩ : ∃ w2, w2 = (((W1.setCell ⟨w.heap.size + 1 + 1, 12, none⟩ (B b1)).setCell ⟨w.heap.size + 1 + 1, 13, none⟩ (B b2)).setCell ⟨w.heap.size + 1 + 1, 14, none⟩ (B b3)).setCell ⟨w.heap.size + 1 + 1, 15, none⟩ (B b4) := ⟨_, rfl⟩
  rw [← hw2]
  have k3 : Row w2 (w.heap.size + 1 + 1) 23 (AB (ctrB nonce n)) := by
    rw [hw2, ← HFIN.out, ← HB1.out, ← HB2.out, ← HB3.out, ← HB4.out]
    exact (((g3.setByte 12 b1).setByte 13 b2).setByte 14 b3).setByte 15 b4
  have k2 : RowN w2 (w.heap.size + 1) 23 16 := by
    rw [hw2]
    exact (((g2.setOther _ _ (by simp)).setOther _ _ (by simp)).setOther _ _ (by simp)).setOther _ _ (by simp)
  have kB : Below w.heap.size w w2 := by
    rw [hw2]
    exact (((gB.setCell (by simp; omega) _).setCell (by simp; omega) _).setCell (by simp; omega) _).setCell (by simp; omega) _
  clear hw2 g3 g2 gB hx1 hk1 HB1 HB2 HB3 HB4 v1 v2 v3 v4 l3 HFIN HL
  have hx2 := hx.below kB lx
  have hk2 := hk.below kB
  have lx2 := hx2.lt
  have l3 := k3.lt
  have hcl := ctrB_len nonce n HN.out
  obtain ⟨c, hc⟩ : ∃ c, c = ctrB nonce n := ⟨_, rfl⟩
  rw [← hc] at k3 hcl
  have hseal : ∀ w', Below w2.heap.size w2 w' → _ := fun w' h => seal_any kp W last c w' (hk2.below h) hcl
  have hsl := sealN_len W last c last
  obtain ⟨R, hR⟩ : ∃ R, R = sealN W last c last := ⟨_, rfl⟩
  rw [← hR] at hsl hseal
  have HS := Lib.hid hseal
  have hk0 := boxC_k kp h
  have HR := Lib.hid hR
  have HC := Lib.hid hc
  clear hseal hR hc
  refine wp_region_qtail (fun w' => w' = _) 5 (by kernel_rfl) (by kernel_rfl) rfl ?_
  simp only [List.take_succ_cons, List.take_zero, List.drop_succ_cons, List.drop_zero]
  repeat (first | go_big_quiet_skip | (go_big_quiet_want; go_big_quiet_op; go_big_quiet_on))
  refine wpQuiet_nil ?_
  rintro _ rfl
  go_wp2_with fail
  refine (HS.out _ (Below.refl _ w2).drew).mono ?_
  rintro e w5 ⟨rfl, hb5⟩
  obtain ⟨z, hz, hzs⟩ := k2.drew.below hb5 k2.lt
  have HB5 : Below w.heap.size w w5 := kB.drew.trans (hb5.mono (by simpa using kB.size))
  have hl16 := (AB_size R).trans hsl
  go_wp2_with fail
  exact ret_row (.inl rfl) rfl (w.heap.size + 1) _ _ 16 _ rfl (hz.setRow _) Try.underlying23 rfl (by kernel_rfl) hl16 ⟨by rw [HR.out, HC.out], bSetRow HB5 (by omega) _⟩
end Go.Proofs.Ytjopgogaipkdbaa
