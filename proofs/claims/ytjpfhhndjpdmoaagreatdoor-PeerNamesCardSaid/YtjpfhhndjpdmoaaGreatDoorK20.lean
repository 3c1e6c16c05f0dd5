/- Part of the proof: MontC, MontD, MontE. No conditions of its own. -/
import Derived.BigQuiet
import Derived.Deep.CutBlock
import Derived.Deep.DeepCutAuto
import Derived.Deep.LoopGhost
import Derived.Deep.Quiet
import Derived.Deep.QuietTactic
import Derived.Deep.RegionLaw
import Derived.Lib.Hide
import Derived.Shelf.Bits.Mul64
import Derived.Shelf.Spec.BitsCarry
import Derived.StillTail
import Derived.Test.YtjpfhhndjpdmoaaGreatDoorRows
import Derived.WalkKit
import Derived.Test.YtjpfhhndjpdmoaaGreatDoorK19
namespace Go.Proofs.YtjpfhhndjpdmoaaGreatDoor
open Go.RowKit
set_option linter.unusedVariables false
set_option linter.unusedSimpArgs false

theorem rest_mod (m c ri a : Nat) (h : c * ri % m = 1) : (a * (c * c % m) * ri % m * 1 * ri) % m = a % m := by
  rw [Nat.mul_one, Nat.mod_mul_mod]
  have e1 : a * (c * c % m) * ri * ri = a * ri * ri * (c * c % m) := by ac_rfl
  rw [e1, Nat.mul_mod_mod]
  have e2 : a * ri * ri * (c * c) = a * (c * ri) * (c * ri) := by ac_rfl
  rw [e2, ← Nat.mul_mod_mod, h, Nat.mul_one, ← Nat.mul_mod_mod, h, Nat.mul_one]
theorem rest_law {m neg ri a : Nat} (h : MdS m neg ri) (ha : a < R256) : redS m neg (redS m neg a (R256 * R256 % m)) 1 = a % m ∧ redS m neg a (R256 * R256 % m) < m := by
  have hm0 : 0 < m := by have := h.big; omega
  have ht : R256 * R256 % m < m := Nat.mod_lt _ hm0
  have e1 := redS_eq (a := a) (b := R256 * R256 % m) h (Nat.lt_trans ht h.low) (by
    rw [Nat.mul_comm m R256]
    exact Nat.lt_of_le_of_lt (Nat.mul_le_mul_right _ (Nat.le_of_lt ha)) (Nat.mul_lt_mul_of_pos_left ht (by decide)))
  have hx : redS m neg a (R256 * R256 % m) < m := by rw [e1]; exact Nat.mod_lt _ hm0
  refine ⟨?_, hx⟩
  rw [redS_eq h (by decide) (by rw [Nat.mul_one]; exact Nat.lt_of_lt_of_le hx (Nat.le_mul_of_pos_right _ (by decide))), e1]
  exact rest_mod m R256 ri a h.inv
theorem nL_one : AQ (nL 1) = #[.int .u64 1, .int .u64 0, .int .u64 0, .int .u64 0] := by kernel_rfl
set_option maxRecDepth 100000 in
set_option maxHeartbeats 4000000 in
theorem rest_any (w : World) (g m neg ri a : Nat) (hM : ModW w g m neg ri) (ha : a < R256) :
    Calls Tryz.prog 92 #[.pointer (some ⟨g, 0, none⟩), .agg (AQ (nL a))] w fun e w' => e = .returned (.agg (AQ (nL (a % m)))) ∧ Below w.heap.size w w' := by
  have s1 := nL_size a
  have s2 := sub_nL a
  have s3 := modC_size m neg
  have s4 := modC_two m neg
  have HM := Lib.hid hM
  have HLT := Lib.hid hM.row.lt
  obtain ⟨hr, hxm⟩ := rest_law hM.md ha
  have hm0 : 0 < m := by have := hM.md.big; omega
  have ht : R256 * R256 % m < m := Nat.mod_lt _ hm0
  have hlow := hM.md.low
  have hab : a * (R256 * R256 % m) < m * R256 := by
    rw [Nat.mul_comm m R256]
    exact Nat.lt_of_le_of_lt (Nat.mul_le_mul_right _ (Nat.le_of_lt ha)) (Nat.mul_lt_mul_of_pos_left ht (by decide))
  have HC := Lib.hid (fun W h => reduce_any W g m neg ri a (R256 * R256 % m) h ha (Nat.lt_trans ht hlow) hab)
  have HD := Lib.hid (fun W h => reduce_any W g m neg ri (redS m neg a (R256 * R256 % m)) 1 h (Nat.lt_trans hxm hlow) (by decide) (by rw [Nat.mul_one]; exact Nat.lt_of_lt_of_le hxm (Nat.le_mul_of_pos_right _ (by decide))))
  rw [hr, nL_one] at HD
  obtain ⟨t, ht'⟩ : ∃ t, t = R256 * R256 % m := ⟨_, rfl⟩
  rw [← ht'] at s4 HC HD
  obtain ⟨x, hx⟩ : ∃ x, x = redS m neg a t := ⟨_, rfl⟩
  rw [← hx] at HC HD
  obtain ⟨y, hy⟩ : ∃ y, y = a % m := ⟨_, rfl⟩
  rw [← hy] at HD ⊢
  have q1 := AQ_one (nL x)
  have q2 := nL_size x
  have q3 := AQ_one (nL y)
  have q4 := nL_size y
  have q5 := AQ_one (nL a)
  have z44 : 0 + 4 ≤ (AQ (nL a)).size := by rw [s1]; decide
  have z13 : 9 + 4 ≤ (modC m neg).size := by rw [s3]; decide
  clear hM ha hr hxm hm0 ht hlow hab ht' hx hy
  go_enter Tryz.func92, Tryz.ntmps92
  go_upto_region 3 with (fail)
  obtain ⟨w0, hw0⟩ : ∃ W, W = (w.alloc (.cells (AQ (nL a)) 177)).alloc (.cells #[.int .u64 0, .int .u64 0, .int .u64 0, .int .u64 0] 177) := ⟨_, rfl⟩
  rw [← hw0]
  have HR := Lib.hid (show Row w0 w.heap.size 177 (AQ (nL a)) ∧ RowN w0 (w.heap.size + 1) 177 4 ∧ Below w.heap.size w w0 from by
    rw [hw0]
    exact ⟨(Row.new _ _ _).alloc _, RowN.newAt _ _ _ _ (by simp), ((Below.refl _ w).alloc (Nat.le_refl _) _).alloc (by simp) _⟩)
  clear hw0
  have hra := HR.out.1.drew
  have hla : w.heap.size < w0.heap.size := HR.out.1.lt
  have hrm := (HM.out.below HR.out.2.2).row.drew
  have hlm : g < w0.heap.size := (HM.out.below HR.out.2.2).row.lt
  go_region_law (first
      | (refine wp_callQ 146 #[.pointer (some ⟨g, 0, none⟩), .agg (AQ (nL a)), .agg (AQ (nL t))] ?_ ?_
         (focus (simp [go_sem]; done))
         refine (HC.out _ ((HM.out.below HR.out.2.2).below (Below.refl _ _).drew)).mono ?_
         rintro _ w2 ⟨rfl, hB⟩
         refine ⟨_, rfl, ?_⟩
         have HN2 := Lib.hid (show RowN w2 (w.heap.size + 1) 177 4 ∧ Below w.heap.size w w2 from ⟨HR.out.2.1.drew.below hB HR.out.2.1.lt, HR.out.2.2.drew.trans (hB.mono HR.out.2.2.size)⟩)
         clear hB)
      | (refine wp_callQ 146 #[.pointer (some ⟨g, 0, none⟩), .agg (AQ (nL x)), .agg #[.int .u64 1, .int .u64 0, .int .u64 0, .int .u64 0]] ?_ ?_
         (focus (simp [go_sem]; done))
         refine (HD.out _ (HM.out.below HN2.out.2)).mono ?_
         rintro _ w3 ⟨rfl, hB⟩
         refine ⟨_, rfl, ?_⟩
         obtain ⟨zz, hzz, hzs⟩ := HN2.out.1.below hB HN2.out.1.lt
         have hov := over_nL zz y hzs
         have hlz := hzz.lt
         have HB3 := Lib.hid (HN2.out.2.trans (hB.mono HN2.out.2.size))
         clear hB)
      | fail)
  all_goals
    go_wp2_with fail
    exact ret_row (.inl rfl) rfl (w.heap.size + 1) _ _ 4 _ rfl (hzz.setRow _) Tryz.underlying177 rfl (by kernel_rfl) q4 ⟨rfl, bSetRow HB3.out (by omega) _⟩
end Go.Proofs.YtjpfhhndjpdmoaaGreatDoor

namespace Go.Proofs.YtjpfhhndjpdmoaaGreatDoor
open Go.RowKit
set_option linter.unusedVariables false
set_option linter.unusedSimpArgs false

theorem mul_mod3 (m c ri a b : Nat) (h : c * ri % m = 1) : (a * (c * c % m) * ri % m * (b % m) * ri) % m = a * b % m := by
  have e0 : a * (c * c % m) * ri % m * (b % m) * ri = (a * (c * c % m) * ri % m) * ((b % m) * ri) := by ac_rfl
  rw [e0, Nat.mod_mul_mod]
  have e1 : a * (c * c % m) * ri * ((b % m) * ri) = a * ri * ri * (b % m) * (c * c % m) := by ac_rfl
  rw [e1, Nat.mul_mod_mod]
  have e3 : a * ri * ri * (b % m) * (c * c) = a * ri * ri * (c * c) * (b % m) := by ac_rfl
  rw [e3, Nat.mul_mod_mod]
  have e2 : a * ri * ri * (c * c) * b = a * b * (c * ri) * (c * ri) := by ac_rfl
  rw [e2, ← Nat.mul_mod_mod, h, Nat.mul_one, ← Nat.mul_mod_mod, h, Nat.mul_one]
theorem mul_law {m neg ri a b : Nat} (h : MdS m neg ri) (ha : a < R256) : redS m neg (redS m neg a (R256 * R256 % m)) (b % m) = a * b % m ∧ redS m neg a (R256 * R256 % m) < m ∧ redS m neg a (R256 * R256 % m) * (b % m) < m * R256 := by
  have hm0 : 0 < m := by have := h.big; omega
  have ht : R256 * R256 % m < m := Nat.mod_lt _ hm0
  have e1 := redS_eq (a := a) (b := R256 * R256 % m) h (Nat.lt_trans ht h.low) (by
    rw [Nat.mul_comm m R256]
    exact Nat.lt_of_le_of_lt (Nat.mul_le_mul_right _ (Nat.le_of_lt ha)) (Nat.mul_lt_mul_of_pos_left ht (by decide)))
  have hx : redS m neg a (R256 * R256 % m) < m := by rw [e1]; exact Nat.mod_lt _ hm0
  have hb : b % m < R256 := Nat.lt_trans (Nat.mod_lt _ hm0) h.low
  have hxb : redS m neg a (R256 * R256 % m) * (b % m) < m * R256 := Nat.lt_of_le_of_lt (Nat.mul_le_mul_right _ (Nat.le_of_lt hx)) (Nat.mul_lt_mul_of_pos_left hb hm0)
  refine ⟨?_, hx, hxb⟩
  rw [redS_eq h hb hxb, e1]
  exact mul_mod3 m R256 ri a b h.inv
set_option maxRecDepth 100000 in
set_option maxHeartbeats 4000000 in
theorem mul_any (w : World) (g m neg ri a b : Nat) (hM : ModW w g m neg ri) (ha : a < R256) (hb : b < R256) :
    Calls Tryz.prog 95 #[.pointer (some ⟨g, 0, none⟩), .agg (AQ (nL a)), .agg (AQ (nL b))] w fun e w' => e = .returned (.agg (AQ (nL (a * b % m)))) ∧ Below w.heap.size w w' := by
  have s1 := nL_size a
  have s2 := sub_nL a
  have s5 := nL_size b
  have s6 := sub_nL b
  have s3 := modC_size m neg
  have s4 := modC_two m neg
  have HM := Lib.hid hM
  have HLT := Lib.hid hM.row.lt
  obtain ⟨hr, hxm, hxb⟩ := mul_law (b := b) hM.md ha
  have hm0 : 0 < m := by have := hM.md.big; omega
  have ht : R256 * R256 % m < m := Nat.mod_lt _ hm0
  have hlow := hM.md.low
  have hab : a * (R256 * R256 % m) < m * R256 := by
    rw [Nat.mul_comm m R256]
    exact Nat.lt_of_le_of_lt (Nat.mul_le_mul_right _ (Nat.le_of_lt ha)) (Nat.mul_lt_mul_of_pos_left ht (by decide))
  have HC := Lib.hid (fun W h => reduce_any W g m neg ri a (R256 * R256 % m) h ha (Nat.lt_trans ht hlow) hab)
  have HB := Lib.hid (fun W h => rest_any W g m neg ri b h hb)
  have HD := Lib.hid (fun W h => reduce_any W g m neg ri (redS m neg a (R256 * R256 % m)) (b % m) h (Nat.lt_trans hxm hlow) (Nat.lt_trans (Nat.mod_lt _ hm0) hlow) hxb)
  rw [hr] at HD
  obtain ⟨t, ht'⟩ : ∃ t, t = R256 * R256 % m := ⟨_, rfl⟩
  rw [← ht'] at s4 HC HD
  obtain ⟨x, hx⟩ : ∃ x, x = redS m neg a t := ⟨_, rfl⟩
  rw [← hx] at HC HD
  obtain ⟨y, hy⟩ : ∃ y, y = a * b % m := ⟨_, rfl⟩
  rw [← hy] at HD ⊢
  obtain ⟨z, hz⟩ : ∃ z, z = b % m := ⟨_, rfl⟩
  rw [← hz] at HD HB
  have q1 := AQ_one (nL x)
  have q2 := nL_size x
  have q3 := AQ_one (nL y)
  have q4 := nL_size y
  have q5 := AQ_one (nL a)
  have q6 := AQ_one (nL b)
  have q7 := AQ_one (nL z)
  have q8 := nL_size z
  have z44 : 0 + 4 ≤ (AQ (nL a)).size := by rw [s1]; decide
  have z45 : 0 + 4 ≤ (AQ (nL b)).size := by rw [s5]; decide
  have z13 : 9 + 4 ≤ (modC m neg).size := by rw [s3]; decide
  clear hM ha hb hr hxm hxb hm0 ht hlow hab ht' hx hy hz
  go_enter Tryz.func95, Tryz.ntmps95
  go_upto_region 3 with (fail)
  obtain ⟨w0, hw0⟩ : ∃ W, W = ((w.alloc (.cells (AQ (nL a)) 177)).alloc (.cells (AQ (nL b)) 177)).alloc (.cells #[.int .u64 0, .int .u64 0, .int .u64 0, .int .u64 0] 177) := ⟨_, rfl⟩
  rw [← hw0]
  have HR := Lib.hid (show Row w0 w.heap.size 177 (AQ (nL a)) ∧ Row w0 (w.heap.size + 1) 177 (AQ (nL b)) ∧ RowN w0 (w.heap.size + 1 + 1) 177 4 ∧ Below w.heap.size w w0 from by
    rw [hw0]
    refine ⟨((Row.new _ _ _).alloc _).alloc _, ?_, ?_, (((Below.refl _ w).alloc (Nat.le_refl _) _).alloc (by simp) _).alloc (by simp; omega) _⟩
    · have := (Row.new (w.alloc (.cells (AQ (nL a)) 177)) 177 (AQ (nL b))).alloc (.cells #[.int .u64 0, .int .u64 0, .int .u64 0, .int .u64 0] 177)
      simpa using this
    · exact RowN.newAt _ _ _ _ (by simp))
  clear hw0
  have hra := HR.out.1.drew
  have hla : w.heap.size < w0.heap.size := HR.out.1.lt
  have hrb := HR.out.2.1.drew
  have hlb : w.heap.size + 1 < w0.heap.size := HR.out.2.1.lt
  have hrm := (HM.out.below HR.out.2.2.2).row.drew
  have hlm : g < w0.heap.size := (HM.out.below HR.out.2.2.2).row.lt
  go_region_law (first
      | (refine wp_callQ 146 #[.pointer (some ⟨g, 0, none⟩), .agg (AQ (nL a)), .agg (AQ (nL t))] ?_ ?_
         (focus (simp [go_sem]; done))
         refine (HC.out _ ((HM.out.below HR.out.2.2.2).below (Below.refl _ _).drew)).mono ?_
         rintro _ w2 ⟨rfl, hB⟩
         refine ⟨_, rfl, ?_⟩
         have HN2 := Lib.hid (show RowN w2 (w.heap.size + 1 + 1) 177 4 ∧ Below w.heap.size w w2 from ⟨HR.out.2.2.1.drew.below hB HR.out.2.2.1.lt, HR.out.2.2.2.drew.trans (hB.mono HR.out.2.2.2.size)⟩)
         have hrb2 := hrb.below hB hrb.lt
         have hlb2 := hrb2.lt
         clear hB)
      | (refine wp_callQ 92 #[.pointer (some ⟨g, 0, none⟩), .agg (AQ (nL b))] ?_ ?_
         (focus (simp [go_sem]; done))
         refine (HB.out _ (HM.out.below HN2.out.2)).mono ?_
         rintro _ w4 ⟨rfl, hB⟩
         refine ⟨_, rfl, ?_⟩
         have HN4 := Lib.hid (show RowN w4 (w.heap.size + 1 + 1) 177 4 ∧ Below w.heap.size w w4 from ⟨HN2.out.1.below hB HN2.out.1.lt, HN2.out.2.trans (hB.mono HN2.out.2.size)⟩)
         clear hB)
      | (refine wp_callQ 146 #[.pointer (some ⟨g, 0, none⟩), .agg (AQ (nL x)), .agg (AQ (nL z))] ?_ ?_
         (focus (simp [go_sem]; done))
         refine (HD.out _ (HM.out.below HN4.out.2)).mono ?_
         rintro _ w3 ⟨rfl, hB⟩
         refine ⟨_, rfl, ?_⟩
         obtain ⟨zz, hzz, hzs⟩ := HN4.out.1.below hB HN4.out.1.lt
         have hov := over_nL zz y hzs
         have hlz := hzz.lt
         have HB3 := Lib.hid (HN4.out.2.trans (hB.mono HN4.out.2.size))
         clear hB)
      | fail)
  all_goals
    go_wp2_with fail
    exact ret_row (.inl rfl) rfl (w.heap.size + 1 + 1) _ _ 4 _ rfl (hzz.setRow _) Tryz.underlying177 rfl (by kernel_rfl) q4 ⟨rfl, bSetRow HB3.out (by omega) _⟩
end Go.Proofs.YtjpfhhndjpdmoaaGreatDoor

namespace Go.Proofs.YtjpfhhndjpdmoaaGreatDoor
open Go.RowKit
set_option linter.unusedVariables false
set_option linter.unusedSimpArgs false

theorem shr_sum {m x y : Nat} (hx : x < m) (hy : y < m) : shrS m (x + y) = (x + y) % m := by
  unfold shrS
  split
  · rename_i h; exact (Nat.mod_eq_of_lt h).symm
  · rename_i h
    rw [Nat.mod_eq_sub_mod (by omega), Nat.mod_eq_of_lt (by omega)]
theorem add_law (m a b : Nat) (h : 0 < m) : shrS m (a % m + b % m) = (a + b) % m := by
  rw [shr_sum (Nat.mod_lt _ h) (Nat.mod_lt _ h), ← Nat.add_mod]
structure AddSt (w W : World) (b : Nat) : Prop where
  r5 : Row W (w.heap.size + 1) 177 (AQ (nL b))
  r6 : RowN W (w.heap.size + 1 + 1) 177 4
  bel : Below w.heap.size w W
theorem AddSt.alloc {w W : World} {b : Nat} (k : AddSt w W b) (o : Obj) : AddSt w (W.alloc o) b := ⟨k.r5.alloc _, k.r6.alloc _, k.bel.alloc k.bel.size _⟩
theorem AddSt.drew {w W : World} {b : Nat} (k : AddSt w W b) : AddSt w W.drew b := ⟨k.r5.drew, k.r6.drew, k.bel.drew⟩
theorem AddSt.below {w W W' : World} {b : Nat} (k : AddSt w W b) (hB : Below W.heap.size W W') : AddSt w W' b := ⟨k.r5.below hB k.r5.lt, k.r6.below hB k.r6.lt, k.bel.trans (hB.mono k.bel.size)⟩
theorem AddSt.setRow {w W : World} {b g : Nat} {cs : Array Value} (k : AddSt w W b) (h : w.heap.size + 1 + 1 < g) : AddSt w (W.setRow g cs) b := ⟨k.r5.setRowOther _ _ (by omega), k.r6.setRowOther _ _ (by omega), bSetRow k.bel (by omega) _⟩
set_option maxRecDepth 100000 in
set_option maxHeartbeats 4000000 in
theorem add_any (w : World) (g m neg ri a b : Nat) (hM : ModW w g m neg ri) (ha : a < R256) (hb : b < R256) :
    Calls Tryz.prog 96 #[.pointer (some ⟨g, 0, none⟩), .agg (AQ (nL a)), .agg (AQ (nL b))] w fun e w' => e = .returned (.agg (AQ (nL ((a + b) % m)))) ∧ Below w.heap.size w w' := by
  have s1 := nL_size a
  have s2 := sub_nL a
  have s5 := nL_size b
  have s6 := sub_nL b
  have HM := Lib.hid hM
  have HLT := Lib.hid hM.row.lt
  have hm0 : 0 < m := by have := hM.md.big; omega
  have hlow := hM.md.low
  have HA := Lib.hid (fun W h => rest_any W g m neg ri a h ha)
  have HB := Lib.hid (fun W h => rest_any W g m neg ri b h hb)
  obtain ⟨x, hx⟩ : ∃ x, x = a % m := ⟨_, rfl⟩
  obtain ⟨z, hz⟩ : ∃ z, z = b % m := ⟨_, rfl⟩
  have hl := add_law m a b hm0
  rw [← hx] at HA hl
  rw [← hz] at HB hl
  have hxm : x < m := by rw [hx]; exact Nat.mod_lt _ hm0
  have hzm : z < m := by rw [hz]; exact Nat.mod_lt _ hm0
  obtain ⟨y, hy⟩ : ∃ y, y = (a + b) % m := ⟨_, rfl⟩
  rw [← hy] at hl ⊢
  have hs2 : x + z < 2 * m := by omega
  have hov1 : (x + z) / R256 ≤ 1 := by
    have : (x + z) / R256 < 2 := Nat.div_lt_of_lt_mul (Nat.lt_trans hs2 (by rw [Nat.mul_comm R256 2]; exact Nat.mul_lt_mul_of_pos_left hlow (by decide)))
    omega
  have hC := fun W => nadd_any W x z
  have hcy := cyS_four x z (Nat.lt_trans hxm hlow) (Nat.lt_trans hzm hlow)
  obtain ⟨s, hs⟩ : ∃ s, s = x + z := ⟨_, rfl⟩
  rw [← hs] at hC hcy hs2 hov1 hl
  obtain ⟨ov, hov⟩ : ∃ o, o = s / R256 := ⟨_, rfl⟩
  rw [hcy, ← hov] at hC
  have HC := Lib.hid hC
  have HSH := Lib.hid (fun W (h : ModW W g m neg ri) => show Calls Tryz.prog 152 #[.pointer (some ⟨g, 0, none⟩), .agg (AQ (nL s)), Q ov] W (fun e w' => e = .returned (.agg (AQ (nL y))) ∧ Below W.heap.size W w') by
    have e : s % R256 + s / R256 * R256 = s := by rw [Nat.mul_comm]; exact Nat.mod_add_div s R256
    have := shrink_any W g m neg ri (s % R256) (s / R256) h (Nat.mod_lt _ (by decide)) hov1 (by rw [e]; exact hs2)
    rw [nL_mod, ← hov, show s % R256 + ov * R256 = s by rw [hov]; exact e, hl] at this
    exact this)
  have q1 := AQ_one (nL x)
  have q2 := nL_size x
  have q3 := AQ_one (nL y)
  have q4 := nL_size y
  have q5 := AQ_one (nL a)
  have q6 := AQ_one (nL b)
  have q7 := AQ_one (nL z)
  have q8 := nL_size z
  have q9 := AQ_one (nL s)
  have q10 := nL_size s
  have q11 := sub_nL s
  have z44 : 0 + 4 ≤ (AQ (nL a)).size := by rw [s1]; decide
  have z45 : 0 + 4 ≤ (AQ (nL b)).size := by rw [s5]; decide
  have z46 : 0 + 4 ≤ (AQ (nL s)).size := by rw [q10]; decide
  have ov0 := over_nL #[.int .u64 0, .int .u64 0, .int .u64 0, .int .u64 0] s rfl
  clear hM ha hb hm0 hlow hx hy hz hl hxm hzm hs2 hov1 hcy hs hov hC
  go_enter Tryz.func96, Tryz.ntmps96
  go_upto_region 3 with (fail)
  obtain ⟨w0, hw0⟩ : ∃ W, W = ((w.alloc (.cells (AQ (nL a)) 177)).alloc (.cells (AQ (nL b)) 177)).alloc (.cells #[.int .u64 0, .int .u64 0, .int .u64 0, .int .u64 0] 177) := ⟨_, rfl⟩
  rw [← hw0]
  have hra0 : Row w0 w.heap.size 177 (AQ (nL a)) := by rw [hw0]; exact ((Row.new _ _ _).alloc _).alloc _
  have HR := Lib.hid (show AddSt w w0 b from by
    rw [hw0]
    refine ⟨?_, ?_, (((Below.refl _ w).alloc (Nat.le_refl _) _).alloc (by simp) _).alloc (by simp; omega) _⟩
    · have := (Row.new (w.alloc (.cells (AQ (nL a)) 177)) 177 (AQ (nL b))).alloc (.cells #[.int .u64 0, .int .u64 0, .int .u64 0, .int .u64 0] 177)
      simpa using this
    · exact RowN.newAt _ _ _ _ (by simp))
  clear hw0
  have hra := hra0.drew
  have hla : w.heap.size < w0.heap.size := hra0.lt
  have hrb0 := HR.out.r5
  have hrb := HR.out.r5.drew
  have hlb : w.heap.size + 1 < w0.heap.size := HR.out.r5.lt
  go_cut [7, 8] (fun t7 t8 wx => ∃ g7, t7 = .pointer (some ⟨g7, 0, none⟩) ∧ t8 = Q ov ∧ Row wx g7 177 (AQ (nL s)) ∧ AddSt w wx b)
  case first =>
    go_region_law (first
      | (refine wp_callQ 92 #[.pointer (some ⟨g, 0, none⟩), .agg (AQ (nL a))] ?_ ?_
         (focus (simp [go_sem]; done))
         first
           | refine (HA.out _ (HM.out.below HR.out.drew.bel)).mono ?_
           | refine (HA.out _ (HM.out.below (HR.out.drew.alloc _).bel)).mono ?_
           | refine (HA.out _ (HM.out.below (HR.out.alloc _).drew.bel)).mono ?_
         rintro _ w2 ⟨rfl, hB⟩
         refine ⟨_, rfl, ?_⟩
         have K2 := Lib.hid (show AddSt w w2 b from by first | exact HR.out.drew.below hB | exact (HR.out.drew.alloc _).below hB | exact (HR.out.alloc _).drew.below hB)
         have hrb2 := K2.out.r5
         have hlb2 := hrb2.lt
         (first
           | (have hz2 := (show Row w2 w0.heap.size 177 #[.int .u64 0, .int .u64 0, .int .u64 0, .int .u64 0] from by first | exact (Row.new w0.drew 177 #[.int .u64 0, .int .u64 0, .int .u64 0, .int .u64 0]).below hB (Row.new w0.drew 177 #[.int .u64 0, .int .u64 0, .int .u64 0, .int .u64 0]).lt | exact (Row.new w0 177 #[.int .u64 0, .int .u64 0, .int .u64 0, .int .u64 0]).drew.below hB (Row.new w0 177 #[.int .u64 0, .int .u64 0, .int .u64 0, .int .u64 0]).lt))
           | skip)
         clear hB)
      | (refine wp_callQ 92 #[.pointer (some ⟨g, 0, none⟩), .agg (AQ (nL b))] ?_ ?_
         (focus (simp [go_sem]; done))
         first
           | refine (HB.out _ (HM.out.below K2.out.bel)).mono ?_
           | refine (HB.out _ (HM.out.below (K2.out.alloc _).bel)).mono ?_
         rintro _ w4 ⟨rfl, hB⟩
         refine ⟨_, rfl, ?_⟩
         have K4 := Lib.hid (show AddSt w w4 b from by first | exact K2.out.below hB | exact (K2.out.alloc _).below hB)
         (first
           | (have hz4 := hz2.below hB hz2.lt)
           | (have hz4 := (Row.new w2 177 #[.int .u64 0, .int .u64 0, .int .u64 0, .int .u64 0]).below hB (Row.new w2 177 #[.int .u64 0, .int .u64 0, .int .u64 0, .int .u64 0]).lt)
           | skip)
         clear hB)
      | (refine wp_callQ 151 #[.agg (AQ (nL x)), .agg (AQ (nL z))] ?_ ?_
         (focus (simp [go_sem]; done))
         refine (HC.out _).mono ?_
         rintro _ w3 ⟨rfl, hB⟩
         refine ⟨_, rfl, ?_⟩
         have K3 := Lib.hid (show AddSt w w3 b from by first | exact K4.out.below hB | exact (K4.out.alloc _).below hB)
         (first
           | (have hz3 := hz4.below hB hz4.lt)
           | (have hz3 := (Row.new w4 177 #[.int .u64 0, .int .u64 0, .int .u64 0, .int .u64 0]).below hB (Row.new w4 177 #[.int .u64 0, .int .u64 0, .int .u64 0, .int .u64 0]).lt)
           | skip)
         (first | (have hl3 := hz3.lt) | skip)
         clear hB)
      | fail)
    all_goals
      go_wp2_with fail
      go_meet
      case rel =>
        first
          | exact ⟨_, rfl, rfl, (Row.new w3 _ _).setRow _, (K3.out.alloc _).setRow (by have := K3.out.r6.lt; omega)⟩
          | exact ⟨_, rfl, rfl, hz3.setRow _, K3.out.setRow (by have := HR.out.r6.lt; have := K2.out.r6.lt; first | omega | (have := K4.out.r6.lt; omega))⟩
          | trace_state
  case rest =>
    obtain ⟨g7, rfl, rfl, h7, hK⟩ := hcut
    have hl7 := h7.lt
    have KX := Lib.hid hK
    clear hK hra hra0 hrb hrb0 hla hlb
    go_wp2_with (go_at_call 152; refine (HSH.out _ (HM.out.below KX.out.bel)).mono ?_; rintro e w8 ⟨rfl, hB8⟩; have K8 := Lib.hid (KX.out.below hB8); obtain ⟨zz, hzz, hzs⟩ := K8.out.r6; have hov6 := over_nL zz y hzs; have hlz := hzz.lt; clear hB8)
    exact ret_row (.inl rfl) rfl (w.heap.size + 1 + 1) _ _ 4 _ rfl (hzz.setRow _) Tryz.underlying177 rfl (by kernel_rfl) q4 ⟨rfl, bSetRow K8.out.bel (by omega) _⟩
end Go.Proofs.YtjpfhhndjpdmoaaGreatDoor
