/- Part of the proof: MontD, MontE, MontF, HalfLaw, CurveSpec. No conditions of its own. -/
import Derived.BigQuiet
import Derived.Deep.CutBlock
import Derived.Deep.DeepCutAuto
import Derived.Deep.LoopGhost
import Derived.Deep.Quiet
import Derived.Deep.QuietTactic
import Derived.Deep.RegionLaw
import Derived.Lib.Hide
import Derived.Shelf.Bits.Mul64
import Derived.Shelf.Spec.BitsCarry
import Derived.StillTail
import Derived.Test.YtjpfhhndjpdmoaaGreatDoorRows
import Derived.WalkKit
import Derived.Test.YtjpfhhndjpdmoaaGreatDoorK15
import Derived.Test.YtjpfhhndjpdmoaaGreatDoorK12
namespace Go.Proofs.YtjpfhhndjpdmoaaGreatDoor
open Go.RowKit
set_option linter.unusedVariables false
set_option linter.unusedSimpArgs false

theorem mul_mod3 (m c ri a b : Nat) (h : c * ri % m = 1) : (a * (c * c % m) * ri % m * (b % m) * ri) % m = a * b % m := by
  have e0 : a * (c * c % m) * ri % m * (b % m) * ri = (a * (c * c % m) * ri % m) * ((b % m) * ri) := by ac_rfl
  rw [e0, Nat.mod_mul_mod]
  have e1 : a * (c * c % m) * ri * ((b % m) * ri) = a * ri * ri * (b % m) * (c * c % m) := by ac_rfl
  rw [e1, Nat.mul_mod_mod]
  have e3 : a * ri * ri * (b % m) * (c * c) = a * ri * ri * (c * c) * (b % m) := by ac_rfl
  rw [e3, Nat.mul_mod_mod]
  have e2 : a * ri * ri * (c * c) * b = a * b * (c * ri) * (c * ri) := by ac_rfl
  rw [e2, ← Nat.mul_mod_mod, h, Nat.mul_one, ← Nat.mul_mod_mod, h, Nat.mul_one]
theorem mul_law {m neg ri a b : Nat} (h : MdS m neg ri) (ha : a < R256) : redS m neg (redS m neg a (R256 * R256 % m)) (b % m) = a * b % m ∧ redS m neg a (R256 * R256 % m) < m ∧ redS m neg a (R256 * R256 % m) * (b % m) < m * R256 := by
  have hm0 : 0 < m := by have := h.big; omega
  have ht : R256 * R256 % m < m := Nat.mod_lt _ hm0
  have e1 := redS_eq (a := a) (b := R256 * R256 % m) h (Nat.lt_trans ht h.low) (by
    rw [Nat.mul_comm m R256]
    exact Nat.lt_of_le_of_lt (Nat.mul_le_mul_right _ (Nat.le_of_lt ha)) (Nat.mul_lt_mul_of_pos_left ht (by decide)))
  have hx : redS m neg a (R256 * R256 % m) < m := by rw [e1]; exact Nat.mod_lt _ hm0
  have hb : b % m < R256 := Nat.lt_trans (Nat.mod_lt _ hm0) h.low
  have hxb : redS m neg a (R256 * R256 % m) * (b % m) < m * R256 := Nat.lt_of_le_of_lt (Nat.mul_le_mul_right _ (Nat.le_of_lt hx)) (Nat.mul_lt_mul_of_pos_left hb hm0)
  refine ⟨?_, hx, hxb⟩
  rw [redS_eq h hb hxb, e1]
  exact mul_mod3 m R256 ri a b h.inv
set_option maxRecDepth 100000 in
set_option maxHeartbeats 4000000 in
theorem mul_any (w : World) (g m neg ri a b : Nat) (hM : ModW w g m neg ri) (ha : a < R256) (hb : b < R256) :
    Calls Tryz.prog 95 #[.pointer (some ⟨g, 0, none⟩), .agg (AQ (nL a)), .agg (AQ (nL b))] w fun e w' => e = .returned (.agg (AQ (nL (a * b % m)))) ∧ Below w.heap.size w w' := by
  have s1 := nL_size a
  have s2 := sub_nL a
  have s5 := nL_size b
  have s6 := sub_nL b
  have s3 := modC_size m neg
  have s4 := modC_two m neg
  have HM := Lib.hid hM
  have HLT := Lib.hid hM.row.lt
  obtain ⟨hr, hxm, hxb⟩ := mul_law (b := b) hM.md ha
  have hm0 : 0 < m := by have := hM.md.big; omega
  have ht : R256 * R256 % m < m := Nat.mod_lt _ hm0
  have hlow := hM.md.low
  have hab : a * (R256 * R256 % m) < m * R256 := by
    rw [Nat.mul_comm m R256]
    exact Nat.lt_of_le_of_lt (Nat.mul_le_mul_right _ (Nat.le_of_lt ha)) (Nat.mul_lt_mul_of_pos_left ht (by decide))
  have HC := Lib.hid (fun W h => reduce_any W g m neg ri a (R256 * R256 % m) h ha (Nat.lt_trans ht hlow) hab)
  have HB := Lib.hid (fun W h => rest_any W g m neg ri b h hb)
  have HD := Lib.hid (fun W h => reduce_any W g m neg ri (redS m neg a (R256 * R256 % m)) (b % m) h (Nat.lt_trans hxm hlow) (Nat.lt_trans (Nat.mod_lt _ hm0) hlow) hxb)
  rw [hr] at HD
  obtain ⟨t, ht'⟩ : ∃ t, t = R256 * R256 % m := ⟨_, rfl⟩
  rw [← ht'] at s4 HC HD
  obtain ⟨x, hx⟩ : ∃ x, x = redS m neg a t := ⟨_, rfl⟩
  rw [← hx] at HC HD
  obtain ⟨y, hy⟩ : ∃ y, y = a * b % m := ⟨_, rfl⟩
  rw [← hy] at HD ⊢
  obtain ⟨z, hz⟩ : ∃ z, z = b % m := ⟨_, rfl⟩
  rw [← hz] at HD HB
  have q1 := AQ_one (nL x)
  have q2 := nL_size x
  have q3 := AQ_one (nL y)
  have q4 := nL_size y
  have q5 := AQ_one (nL a)
  have q6 := AQ_one (nL b)
  have q7 := AQ_one (nL z)
  have q8 := nL_size z
  have z44 : 0 + 4 ≤ (AQ (nL a)).size := by rw [s1]; decide
  have z45 : 0 + 4 ≤ (AQ (nL b)).size := by rw [s5]; decide
  have z13 : 9 + 4 ≤ (modC m neg).size := by rw [s3]; decide
  clear hM ha hb hr hxm hxb hm0 ht hlow hab ht' hx hy hz
  go_enter Tryz.func95, Tryz.ntmps95
  go_upto_region 3 with (fail)
  obtain ⟨w0, hw0⟩ : ∃ W, W = ((w.alloc (.cells (AQ (nL a)) 177)).alloc (.cells (AQ (nL b)) 177)).alloc (.cells #[.int .u64 0, .int .u64 0, .int .u64 0, .int .u64 0] 177) := ⟨_, rfl⟩
  rw [← hw0]
  have HR := Lib.hid (show Row w0 w.heap.size 177 (AQ (nL a)) ∧ Row w0 (w.heap.size + 1) 177 (AQ (nL b)) ∧ RowN w0 (w.heap.size + 1 + 1) 177 4 ∧ Below w.heap.size w w0 from by
    rw [hw0]
    refine ⟨((Row.new _ _ _).alloc _).alloc _, ?_, ?_, (((Below.refl _ w).alloc (Nat.le_refl _) _).alloc (by simp) _).alloc (by simp; omega) _⟩
    · have := (Row.new (w.alloc (.cells (AQ (nL a)) 177)) 177 (AQ (nL b))).alloc (.cells #[.int .u64 0, .int .u64 0, .int .u64 0, .int .u64 0] 177)
      simpa using this
    · exact RowN.newAt _ _ _ _ (by simp))
  clear hw0
  have hra := HR.out.1.drew
  have hla : w.heap.size < w0.heap.size := HR.out.1.lt
  have hrb := HR.out.2.1.drew
  have hlb : w.heap.size + 1 < w0.heap.size := HR.out.2.1.lt
  have hrm := (HM.out.below HR.out.2.2.2).row.drew
  have hlm : g < w0.heap.size := (HM.out.below HR.out.2.2.2).row.lt
  go_region_law (first
      | (refine wp_callQ 146 #[.pointer (some ⟨g, 0, none⟩), .agg (AQ (nL a)), .agg (AQ (nL t))] ?_ ?_
         (focus (simp [go_sem]; done))
         refine (HC.out _ ((HM.out.below HR.out.2.2.2).below (Below.refl _ _).drew)).mono ?_
         rintro _ w2 ⟨rfl, hB⟩
         refine ⟨_, rfl, ?_⟩
         have HN2 := Lib.hid (show RowN w2 (w.heap.size + 1 + 1) 177 4 ∧ Below w.heap.size w w2 from ⟨HR.out.2.2.1.drew.below hB HR.out.2.2.1.lt, HR.out.2.2.2.drew.trans (hB.mono HR.out.2.2.2.size)⟩)
         have hrb2 := hrb.below hB hrb.lt
         have hlb2 := hrb2.lt
         clear hB)
      | (refine wp_callQ 92 #[.pointer (some ⟨g, 0, none⟩), .agg (AQ (nL b))] ?_ ?_
         (focus (simp [go_sem]; done))
         refine (HB.out _ (HM.out.below HN2.out.2)).mono ?_
         rintro _ w4 ⟨rfl, hB⟩
         refine ⟨_, rfl, ?_⟩
         have HN4 := Lib.hid (show RowN w4 (w.heap.size + 1 + 1) 177 4 ∧ Below w.heap.size w w4 from ⟨HN2.out.1.below hB HN2.out.1.lt, HN2.out.2.trans (hB.mono HN2.out.2.size)⟩)
         clear hB)
      | (refine wp_callQ 146 #[.pointer (some ⟨g, 0, none⟩), .agg (AQ (nL x)), .agg (AQ (nL z))] ?_ ?_
         (focus (simp [go_sem]; done))
         refine (HD.out _ (HM.out.below HN4.out.2)).mono ?_
         rintro _ w3 ⟨rfl, hB⟩
         refine ⟨_, rfl, ?_⟩
         obtain ⟨zz, hzz, hzs⟩ := HN4.out.1.below hB HN4.out.1.lt
         have hov := over_nL zz y hzs
         have hlz := hzz.lt
         have HB3 := Lib.hid (HN4.out.2.trans (hB.mono HN4.out.2.size))
         clear hB)
      | fail)
  all_goals
    go_wp2_with fail
    exact ret_row (.inl rfl) rfl (w.heap.size + 1 + 1) _ _ 4 _ rfl (hzz.setRow _) Tryz.underlying177 rfl (by kernel_rfl) q4 ⟨rfl, bSetRow HB3.out (by omega) _⟩
end Go.Proofs.YtjpfhhndjpdmoaaGreatDoor

namespace Go.Proofs.YtjpfhhndjpdmoaaGreatDoor
open Go.RowKit
set_option linter.unusedVariables false
set_option linter.unusedSimpArgs false

theorem shr_sum {m x y : Nat} (hx : x < m) (hy : y < m) : shrS m (x + y) = (x + y) % m := by
  unfold shrS
  split
  · rename_i h; exact (Nat.mod_eq_of_lt h).symm
  · rename_i h
    rw [Nat.mod_eq_sub_mod (by omega), Nat.mod_eq_of_lt (by omega)]
theorem add_law (m a b : Nat) (h : 0 < m) : shrS m (a % m + b % m) = (a + b) % m := by
  rw [shr_sum (Nat.mod_lt _ h) (Nat.mod_lt _ h), ← Nat.add_mod]
structure AddSt (w W : World) (b : Nat) : Prop where
  r5 : Row W (w.heap.size + 1) 177 (AQ (nL b))
  r6 : RowN W (w.heap.size + 1 + 1) 177 4
  bel : Below w.heap.size w W
theorem AddSt.alloc {w W : World} {b : Nat} (k : AddSt w W b) (o : Obj) : AddSt w (W.alloc o) b := ⟨k.r5.alloc _, k.r6.alloc _, k.bel.alloc k.bel.size _⟩
theorem AddSt.drew {w W : World} {b : Nat} (k : AddSt w W b) : AddSt w W.drew b := ⟨k.r5.drew, k.r6.drew, k.bel.drew⟩
theorem AddSt.below {w W W' : World} {b : Nat} (k : AddSt w W b) (hB : Below W.heap.size W W') : AddSt w W' b := ⟨k.r5.below hB k.r5.lt, k.r6.below hB k.r6.lt, k.bel.trans (hB.mono k.bel.size)⟩
theorem AddSt.setRow {w W : World} {b g : Nat} {cs : Array Value} (k : AddSt w W b) (h : w.heap.size + 1 + 1 < g) : AddSt w (W.setRow g cs) b := ⟨k.r5.setRowOther _ _ (by omega), k.r6.setRowOther _ _ (by omega), bSetRow k.bel (by omega) _⟩
set_option maxRecDepth 100000 in
set_option maxHeartbeats 4000000 in
theorem add_any (w : World) (g m neg ri a b : Nat) (hM : ModW w g m neg ri) (ha : a < R256) (hb : b < R256) :
    Calls Tryz.prog 96 #[.pointer (some ⟨g, 0, none⟩), .agg (AQ (nL a)), .agg (AQ (nL b))] w fun e w' => e = .returned (.agg (AQ (nL ((a + b) % m)))) ∧ Below w.heap.size w w' := by
  have s1 := nL_size a
  have s2 := sub_nL a
  have s5 := nL_size b
  have s6 := sub_nL b
  have HM := Lib.hid hM
  have HLT := Lib.hid hM.row.lt
  have hm0 : 0 < m := by have := hM.md.big; omega
  have hlow := hM.md.low
  have HA := Lib.hid (fun W h => rest_any W g m neg ri a h ha)
  have HB := Lib.hid (fun W h => rest_any W g m neg ri b h hb)
  obtain ⟨x, hx⟩ : ∃ x, x = a % m := ⟨_, rfl⟩
  obtain ⟨z, hz⟩ : ∃ z, z = b % m := ⟨_, rfl⟩
  have hl := add_law m a b hm0
  rw [← hx] at HA hl
  rw [← hz] at HB hl
  have hxm : x < m := by rw [hx]; exact Nat.mod_lt _ hm0
  have hzm : z < m := by rw [hz]; exact Nat.mod_lt _ hm0
  obtain ⟨y, hy⟩ : ∃ y, y = (a + b) % m := ⟨_, rfl⟩
  rw [← hy] at hl ⊢
  have hs2 : x + z < 2 * m := by omega
  have hov1 : (x + z) / R256 ≤ 1 := by
    have : (x + z) / R256 < 2 := Nat.div_lt_of_lt_mul (Nat.lt_trans hs2 (by rw [Nat.mul_comm R256 2]; exact Nat.mul_lt_mul_of_pos_left hlow (by decide)))
    omega
  have hC := fun W => nadd_any W x z
  have hcy := cyS_four x z (Nat.lt_trans hxm hlow) (Nat.lt_trans hzm hlow)
  obtain ⟨s, hs⟩ : ∃ s, s = x + z := ⟨_, rfl⟩
  rw [← hs] at hC hcy hs2 hov1 hl
  obtain ⟨ov, hov⟩ : ∃ o, o = s / R256 := ⟨_, rfl⟩
  rw [hcy, ← hov] at hC
  have HC := Lib.hid hC
  have HSH := Lib.hid (fun W (h : ModW W g m neg ri) => show Calls Tryz.prog 152 #[.pointer (some ⟨g, 0, none⟩), .agg (AQ (nL s)), Q ov] W (fun e w' => e = .returned (.agg (AQ (nL y))) ∧ Below W.heap.size W w') by
    have e : s % R256 + s / R256 * R256 = s := by rw [Nat.mul_comm]; exact Nat.mod_add_div s R256
    have := shrink_any W g m neg ri (s % R256) (s / R256) h (Nat.mod_lt _ (by decide)) hov1 (by rw [e]; exact hs2)
    rw [nL_mod, ← hov, show s % R256 + ov * R256 = s by rw [hov]; exact e, hl] at this
    exact this)
  have q1 := AQ_one (nL x)
  have q2 := nL_size x
  have q3 := AQ_one (nL y)
  have q4 := nL_size y
  have q5 := AQ_one (nL a)
  have q6 := AQ_one (nL b)
  have q7 := AQ_one (nL z)
  have q8 := nL_size z
  have q9 := AQ_one (nL s)
  have q10 := nL_size s
  have q11 := sub_nL s
  have z44 : 0 + 4 ≤ (AQ (nL a)).size := by rw [s1]; decide
  have z45 : 0 + 4 ≤ (AQ (nL b)).size := by rw [s5]; decide
  have z46 : 0 + 4 ≤ (AQ (nL s)).size := by rw [q10]; decide
  have ov0 := over_nL #[.int .u64 0, .int .u64 0, .int .u64 0, .int .u64 0] s rfl
  clear hM ha hb hm0 hlow hx hy hz hl hxm hzm hs2 hov1 hcy hs hov hC
  go_enter Tryz.func96, Tryz.ntmps96
  go_upto_region 3 with (fail)
  obtain ⟨w0, hw0⟩ : ∃ W, W = ((w.alloc (.cells (AQ (nL a)) 177)).alloc (.cells (AQ (nL b)) 177)).alloc (.cells #[.int .u64 0, .int .u64 0, .int .u64 0, .int .u64 0] 177) := ⟨_, rfl⟩
  rw [← hw0]
  have hra0 : Row w0 w.heap.size 177 (AQ (nL a)) := by rw [hw0]; exact ((Row.new _ _ _).alloc _).alloc _
  have HR := Lib.hid (show AddSt w w0 b from by
    rw [hw0]
    refine ⟨?_, ?_, (((Below.refl _ w).alloc (Nat.le_refl _) _).alloc (by simp) _).alloc (by simp; omega) _⟩
    · have := (Row.new (w.alloc (.cells (AQ (nL a)) 177)) 177 (AQ (nL b))).alloc (.cells #[.int .u64 0, .int .u64 0, .int .u64 0, .int .u64 0] 177)
      simpa using this
    · exact RowN.newAt _ _ _ _ (by simp))
  clear hw0
  have hra := hra0.drew
  have hla : w.heap.size < w0.heap.size := hra0.lt
  have hrb0 := HR.out.r5
  have hrb := HR.out.r5.drew
  have hlb : w.heap.size + 1 < w0.heap.size := HR.out.r5.lt
  go_cut [7, 8] (fun t7 t8 wx => ∃ g7, t7 = .pointer (some ⟨g7, 0, none⟩) ∧ t8 = Q ov ∧ Row wx g7 177 (AQ (nL s)) ∧ AddSt w wx b)
  case first =>
    go_region_law (first
      | (refine wp_callQ 92 #[.pointer (some ⟨g, 0, none⟩), .agg (AQ (nL a))] ?_ ?_
         (focus (simp [go_sem]; done))
         first
           | refine (HA.out _ (HM.out.below HR.out.drew.bel)).mono ?_
           | refine (HA.out _ (HM.out.below (HR.out.drew.alloc _).bel)).mono ?_
           | refine (HA.out _ (HM.out.below (HR.out.alloc _).drew.bel)).mono ?_
         rintro _ w2 ⟨rfl, hB⟩
         refine ⟨_, rfl, ?_⟩
         have K2 := Lib.hid (show AddSt w w2 b from by first | exact HR.out.drew.below hB | exact (HR.out.drew.alloc _).below hB | exact (HR.out.alloc _).drew.below hB)
         have hrb2 := K2.out.r5
         have hlb2 := hrb2.lt
         (first
           | (have hz2 := (show Row w2 w0.heap.size 177 #[.int .u64 0, .int .u64 0, .int .u64 0, .int .u64 0] from by first | exact (Row.new w0.drew 177 #[.int .u64 0, .int .u64 0, .int .u64 0, .int .u64 0]).below hB (Row.new w0.drew 177 #[.int .u64 0, .int .u64 0, .int .u64 0, .int .u64 0]).lt | exact (Row.new w0 177 #[.int .u64 0, .int .u64 0, .int .u64 0, .int .u64 0]).drew.below hB (Row.new w0 177 #[.int .u64 0, .int .u64 0, .int .u64 0, .int .u64 0]).lt))
           | skip)
         clear hB)
      | (refine wp_callQ 92 #[.pointer (some ⟨g, 0, none⟩), .agg (AQ (nL b))] ?_ ?_
         (focus (simp [go_sem]; done))
         first
           | refine (HB.out _ (HM.out.below K2.out.bel)).mono ?_
           | refine (HB.out _ (HM.out.below (K2.out.alloc _).bel)).mono ?_
         rintro _ w4 ⟨rfl, hB⟩
         refine ⟨_, rfl, ?_⟩
         have K4 := Lib.hid (show AddSt w w4 b from by first | exact K2.out.below hB | exact (K2.out.alloc _).below hB)
         (first
           | (have hz4 := hz2.below hB hz2.lt)
           | (have hz4 := (Row.new w2 177 #[.int .u64 0, .int .u64 0, .int .u64 0, .int .u64 0]).below hB (Row.new w2 177 #[.int .u64 0, .int .u64 0, .int .u64 0, .int .u64 0]).lt)
           | skip)
         clear hB)
      | (refine wp_callQ 151 #[.agg (AQ (nL x)), .agg (AQ (nL z))] ?_ ?_
         (focus (simp [go_sem]; done))
         refine (HC.out _).mono ?_
         rintro _ w3 ⟨rfl, hB⟩
         refine ⟨_, rfl, ?_⟩
         have K3 := Lib.hid (show AddSt w w3 b from by first | exact K4.out.below hB | exact (K4.out.alloc _).below hB)
         (first
           | (have hz3 := hz4.below hB hz4.lt)
           | (have hz3 := (Row.new w4 177 #[.int .u64 0, .int .u64 0, .int .u64 0, .int .u64 0]).below hB (Row.new w4 177 #[.int .u64 0, .int .u64 0, .int .u64 0, .int .u64 0]).lt)
           | skip)
         (first | (have hl3 := hz3.lt) | skip)
         clear hB)
      | fail)
    all_goals
      go_wp2_with fail
      go_meet
      case rel =>
        first
          | exact ⟨_, rfl, rfl, (Row.new w3 _ _).setRow _, (K3.out.alloc _).setRow (by have := K3.out.r6.lt; omega)⟩
          | exact ⟨_, rfl, rfl, hz3.setRow _, K3.out.setRow (by have := HR.out.r6.lt; have := K2.out.r6.lt; first | omega | (have := K4.out.r6.lt; omega))⟩
          | trace_state
  case rest =>
    obtain ⟨g7, rfl, rfl, h7, hK⟩ := hcut
    have hl7 := h7.lt
    have KX := Lib.hid hK
    clear hK hra hra0 hrb hrb0 hla hlb
    go_wp2_with (go_at_call 152; refine (HSH.out _ (HM.out.below KX.out.bel)).mono ?_; rintro e w8 ⟨rfl, hB8⟩; have K8 := Lib.hid (KX.out.below hB8); obtain ⟨zz, hzz, hzs⟩ := K8.out.r6; have hov6 := over_nL zz y hzs; have hlz := hzz.lt; clear hB8)
    exact ret_row (.inl rfl) rfl (w.heap.size + 1 + 1) _ _ 4 _ rfl (hzz.setRow _) Tryz.underlying177 rfl (by kernel_rfl) q4 ⟨rfl, bSetRow K8.out.bel (by omega) _⟩
end Go.Proofs.YtjpfhhndjpdmoaaGreatDoor

namespace Go.Proofs.YtjpfhhndjpdmoaaGreatDoor
open Go.RowKit
set_option linter.unusedVariables false
set_option linter.unusedSimpArgs false

theorem sub_low {m x z : Nat} (hx : x < m) (hz : z < m) (h : ¬ x < z) : nL (x + R256 - z) = nL ((x + m - z) % m) := by
  have e : (x + m - z) % m = x - z := by rw [show x + m - z = (x - z) + m by omega, Nat.add_mod_right, Nat.mod_eq_of_lt (by omega)]
  rw [e, ← nL_mod (x + R256 - z), show x + R256 - z = (x - z) + R256 by omega, Nat.add_mod_right, nL_mod]
theorem sub_high {m x z : Nat} (hx : x < m) (hz : z < m) (hm : m < R256) (h : x < z) : nL (x + R256 - z + m) = nL ((x + m - z) % m) := by
  have e : (x + m - z) % m = x + m - z := Nat.mod_eq_of_lt (by omega)
  rw [e, ← nL_mod (x + R256 - z + m), show x + R256 - z + m = (x + m - z) + R256 by omega, Nat.add_mod_right, nL_mod]
set_option maxRecDepth 100000 in
set_option maxHeartbeats 4000000 in
theorem sub_any (w : World) (g m neg ri a b : Nat) (hM : ModW w g m neg ri) (ha : a < R256) (hb : b < R256) :
    Calls Tryz.prog 150 #[.pointer (some ⟨g, 0, none⟩), .agg (AQ (nL a)), .agg (AQ (nL b))] w fun e w' => e = .returned (.agg (AQ (nL ((a % m + m - b % m) % m)))) ∧ Below w.heap.size w w' := by
  have s1 := nL_size a
  have s2 := sub_nL a
  have s5 := nL_size b
  have s6 := sub_nL b
  have HM := Lib.hid hM
  have HLT := Lib.hid hM.row.lt
  have hm0 : 0 < m := by have := hM.md.big; omega
  have hlow := hM.md.low
  have HA := Lib.hid (fun W h => rest_any W g m neg ri a h ha)
  have HB := Lib.hid (fun W h => rest_any W g m neg ri b h hb)
  obtain ⟨x, hx⟩ : ∃ x, x = a % m := ⟨_, rfl⟩
  obtain ⟨z, hz⟩ : ∃ z, z = b % m := ⟨_, rfl⟩
  rw [← hx] at HA
  rw [← hz] at HB
  have hxm : x < m := by rw [hx]; exact Nat.mod_lt _ hm0
  have hzm : z < m := by rw [hz]; exact Nat.mod_lt _ hm0
  rw [← hx, ← hz]
  have hlo := fun h => sub_low hxm hzm h
  have hhi := fun h => sub_high hxm hzm hlow h
  obtain ⟨y, hy⟩ : ∃ y, y = (x + m - z) % m := ⟨_, rfl⟩
  rw [← hy] at hlo hhi ⊢
  have hC := fun W => nsub_any W x z (Nat.lt_trans hzm hlow)
  have hbo := boS_four x z (Nat.lt_trans hxm hlow) (Nat.lt_trans hzm hlow)
  obtain ⟨s, hs⟩ : ∃ s, s = x + R256 - z := ⟨_, rfl⟩
  rw [← hs] at hC hlo hhi
  obtain ⟨ov, hov⟩ : ∃ o, o = boS x z 4 := ⟨_, rfl⟩
  rw [← hov] at hC hbo
  have HC := Lib.hid hC
  have HV := Lib.hid (show (ov = 0 ∧ nL s = nL y) ∨ (ov = 1 ∧ nL (s + m) = nL y) by
    by_cases h : x < z
    · exact .inr ⟨by rw [hbo, if_pos h], hhi h⟩
    · exact .inl ⟨by rw [hbo, if_neg h], hlo h⟩)
  have s8 := modC_size m neg
  have s9 := modC_m m neg
  have q1 := AQ_one (nL x)
  have q2 := nL_size x
  have q3 := AQ_one (nL y)
  have q4 := nL_size y
  have q5 := AQ_one (nL a)
  have q6 := AQ_one (nL b)
  have q7 := AQ_one (nL z)
  have q8 := nL_size z
  have q9 := AQ_one (nL s)
  have q10 := nL_size s
  have q11 := sub_nL s
  have z44 : 0 + 4 ≤ (AQ (nL a)).size := by rw [s1]; decide
  have z45 : 0 + 4 ≤ (AQ (nL b)).size := by rw [s5]; decide
  have z46 : 0 + 4 ≤ (AQ (nL s)).size := by rw [q10]; decide
  have ov0 := over_nL #[.int .u64 0, .int .u64 0, .int .u64 0, .int .u64 0] s rfl
  clear hM ha hb hm0 hlow hx hy hz hxm hzm hlo hhi hbo hs hov hC
  go_enter Tryz.func150, Tryz.ntmps150
  go_upto_region 3 with (fail)
  obtain ⟨w0, hw0⟩ : ∃ W, W = ((w.alloc (.cells (AQ (nL a)) 177)).alloc (.cells (AQ (nL b)) 177)).alloc (.cells #[.int .u64 0, .int .u64 0, .int .u64 0, .int .u64 0] 177) := ⟨_, rfl⟩
  rw [← hw0]
  have hra0 : Row w0 w.heap.size 177 (AQ (nL a)) := by rw [hw0]; exact ((Row.new _ _ _).alloc _).alloc _
  have HR := Lib.hid (show AddSt w w0 b from by
    rw [hw0]
    refine ⟨?_, ?_, (((Below.refl _ w).alloc (Nat.le_refl _) _).alloc (by simp) _).alloc (by simp; omega) _⟩
    · have := (Row.new (w.alloc (.cells (AQ (nL a)) 177)) 177 (AQ (nL b))).alloc (.cells #[.int .u64 0, .int .u64 0, .int .u64 0, .int .u64 0] 177)
      simpa using this
    · exact RowN.newAt _ _ _ _ (by simp))
  clear hw0
  have hra := hra0.drew
  have hla : w.heap.size < w0.heap.size := hra0.lt
  have hrb0 := HR.out.r5
  have hrb := HR.out.r5.drew
  have hlb : w.heap.size + 1 < w0.heap.size := HR.out.r5.lt
  go_cut [7, 8] (fun t7 t8 wx => ∃ g7, t7 = .pointer (some ⟨g7, 0, none⟩) ∧ t8 = Q ov ∧ Row wx g7 177 (AQ (nL s)) ∧ AddSt w wx b ∧ w.heap.size + 1 + 1 < g7)
  case first =>
    --<A
    go_region_law (first
      | (refine wp_callQ 92 #[.pointer (some ⟨g, 0, none⟩), .agg (AQ (nL a))] ?_ ?_
         (focus (simp [go_sem]; done))
         first
           | refine (HA.out _ (HM.out.below HR.out.drew.bel)).mono ?_
           | refine (HA.out _ (HM.out.below (HR.out.drew.alloc _).bel)).mono ?_
           | refine (HA.out _ (HM.out.below (HR.out.alloc _).drew.bel)).mono ?_
         rintro _ w2 ⟨rfl, hB⟩
         refine ⟨_, rfl, ?_⟩
         have K2 := Lib.hid (show AddSt w w2 b from by first | exact HR.out.drew.below hB | exact (HR.out.drew.alloc _).below hB | exact (HR.out.alloc _).drew.below hB)
         have hrb2 := K2.out.r5
         have hlb2 := hrb2.lt
         (first
           | (have hz2 := (show Row w2 w0.heap.size 177 #[.int .u64 0, .int .u64 0, .int .u64 0, .int .u64 0] from by first | exact (Row.new w0.drew 177 #[.int .u64 0, .int .u64 0, .int .u64 0, .int .u64 0]).below hB (Row.new w0.drew 177 #[.int .u64 0, .int .u64 0, .int .u64 0, .int .u64 0]).lt | exact (Row.new w0 177 #[.int .u64 0, .int .u64 0, .int .u64 0, .int .u64 0]).drew.below hB (Row.new w0 177 #[.int .u64 0, .int .u64 0, .int .u64 0, .int .u64 0]).lt))
           | skip)
         clear hB)
      | (refine wp_callQ 92 #[.pointer (some ⟨g, 0, none⟩), .agg (AQ (nL b))] ?_ ?_
         (focus (simp [go_sem]; done))
         first
           | refine (HB.out _ (HM.out.below K2.out.bel)).mono ?_
           | refine (HB.out _ (HM.out.below (K2.out.alloc _).bel)).mono ?_
         rintro _ w4 ⟨rfl, hB⟩
         refine ⟨_, rfl, ?_⟩
         have K4 := Lib.hid (show AddSt w w4 b from by first | exact K2.out.below hB | exact (K2.out.alloc _).below hB)
         (first
           | (have hz4 := hz2.below hB hz2.lt)
           | (have hz4 := (Row.new w2 177 #[.int .u64 0, .int .u64 0, .int .u64 0, .int .u64 0]).below hB (Row.new w2 177 #[.int .u64 0, .int .u64 0, .int .u64 0, .int .u64 0]).lt)
           | skip)
         clear hB)
      | (refine wp_callQ 149 #[.agg (AQ (nL x)), .agg (AQ (nL z))] ?_ ?_
         (focus (simp [go_sem]; done))
         refine (HC.out _).mono ?_
         rintro _ w3 ⟨rfl, hB⟩
         refine ⟨_, rfl, ?_⟩
         have K3 := Lib.hid (show AddSt w w3 b from by first | exact K4.out.below hB | exact (K4.out.alloc _).below hB)
         (first
           | (have hz3 := hz4.below hB hz4.lt)
           | (have hz3 := (Row.new w4 177 #[.int .u64 0, .int .u64 0, .int .u64 0, .int .u64 0]).below hB (Row.new w4 177 #[.int .u64 0, .int .u64 0, .int .u64 0, .int .u64 0]).lt)
           | skip)
         (first | (have hl3 := hz3.lt) | skip)
         clear hB)
      | fail)
    all_goals
      go_wp2_with fail
      go_meet
      case rel =>
        first
          | exact ⟨_, rfl, rfl, (Row.new w3 _ _).setRow _, (K3.out.alloc _).setRow (by have := K3.out.r6.lt; omega), K3.out.r6.lt⟩
          | exact ⟨_, rfl, rfl, hz3.setRow _, K3.out.setRow (by have := HR.out.r6.lt; have := K2.out.r6.lt; first | omega | (have := K4.out.r6.lt; omega)), by have := HR.out.r6.lt; have := K2.out.r6.lt; first | omega | (have := K4.out.r6.lt; omega)⟩
          | trace_state
    --A>
  case rest =>
    obtain ⟨g7, rfl, rfl, h7, hK, h27⟩ := hcut
    have hl7 := h7.lt
    have KX := Lib.hid hK
    clear hK hra hra0 hrb hrb0 hla hlb
    rcases HV.out with ⟨rfl, hy⟩ | ⟨rfl, hy⟩
    · obtain ⟨zz, hzz, hzs⟩ := KX.out.r6
      have hov6 := over_nL zz s hzs
      have hlz := hzz.lt
      have HY := Lib.hid hy
      clear hy
      go_wp2_with fail
      exact ret_row (.inl rfl) rfl (w.heap.size + 1 + 1) _ _ 4 _ rfl (hzz.setRow _) Tryz.underlying177 rfl (by kernel_rfl) q10 ⟨by rw [HY.out], bSetRow KX.out.bel (by omega) _⟩
    · have HY := Lib.hid hy
      clear hy
      have h7d := h7.drew
      have hMX := (HM.out.below KX.out.bel).row
      have hrm := hMX.drew
      have hlm := hMX.lt
      have z13 : 0 + 4 ≤ (modC m neg).size := by rw [s8]; decide
      have hN := fun W => nadd_any W s m
      obtain ⟨u, hu⟩ : ∃ u, u = s + m := ⟨_, rfl⟩
      rw [← hu] at hN
      have HN := Lib.hid hN
      have HU := Lib.hid (show nL u = nL y by rw [hu]; exact HY.out)
      have p1 := AQ_one (nL u)
      have p2 := nL_size u
      have p3 := sub_nL u
      have p4 := over_nL (AQ (nL s)) u q10
      have p5 := AQ_one (nL m)
      have p6 := nL_size m
      have z47 : 0 + 4 ≤ (AQ (nL u)).size := by rw [p2]; decide
      clear hN hu
      go_upto_region 5 with (fail)
      go_region_law (first
        | (refine wp_callQ 151 #[.agg (AQ (nL s)), .agg (AQ (nL m))] ?_ ?_
           (focus (simp [go_sem]; done))
           refine (HN.out _).mono ?_
           rintro _ w5 ⟨rfl, hB⟩
           refine ⟨_, rfl, ?_⟩
           have h75 := h7d.below hB h7d.lt
           have hl75 := h75.lt
           have K5 := Lib.hid (KX.out.drew.below hB)
           clear hB)
        | fail)
      all_goals
        have K6 := Lib.hid (K5.out.setRow (cs := AQ (nL u)) h27)
        obtain ⟨zz, hzz, hzs⟩ := K6.out.r6
        have hov6 := over_nL zz u hzs
        have hlz := hzz.lt
        have h76 := h75.setRow (AQ (nL u))
        go_wp2_with fail
        exact ret_row (.inl rfl) rfl (w.heap.size + 1 + 1) _ _ 4 _ rfl (hzz.setRow _) Tryz.underlying177 rfl (by kernel_rfl) p2 ⟨by rw [HU.out], bSetRow K6.out.bel (by omega) _⟩
end Go.Proofs.YtjpfhhndjpdmoaaGreatDoor

namespace Go.Proofs.YtjpfhhndjpdmoaaGreatDoor

def hlf (a top : Nat) : Nat := (a + top * R256) / 2
theorem hlf_last (a top : Nat) (ha : a < R256) (ht : top ≤ 1) : lim a 3 / 2 + top * 9223372036854775808 = lim (hlf a top) 3 := by
  have : R256 = 115792089237316195423570985008687907853269984665640564039457584007913129639936 := rfl
  unfold hlf lim
  rw [this] at ha ⊢
  omega
theorem hlf_0 (a top : Nat) : lim a 0 / 2 + lim a 1 % 2 * 9223372036854775808 = lim (hlf a top) 0 := by
  have : R256 = 115792089237316195423570985008687907853269984665640564039457584007913129639936 := rfl
  unfold hlf lim
  rw [this]
  omega
theorem hlf_1 (a top : Nat) : lim a 1 / 2 + lim a 2 % 2 * 9223372036854775808 = lim (hlf a top) 1 := by
  have : R256 = 115792089237316195423570985008687907853269984665640564039457584007913129639936 := rfl
  unfold hlf lim
  rw [this]
  omega
theorem hlf_2 (a top : Nat) : lim a 2 / 2 + lim a 3 % 2 * 9223372036854775808 = lim (hlf a top) 2 := by
  have : R256 = 115792089237316195423570985008687907853269984665640564039457584007913129639936 := rfl
  unfold hlf lim
  rw [this]
  omega
end Go.Proofs.YtjpfhhndjpdmoaaGreatDoor

namespace Go.Proofs.YtjpfhhndjpdmoaaGreatDoor
set_option linter.unusedVariables false

def P256 : Nat := 0xFFFFFFFF00000001000000000000000000000000FFFFFFFFFFFFFFFFFFFFFFFF
def N256 : Nat := 0xFFFFFFFF00000000FFFFFFFFFFFFFFFFBCE6FAADA7179E84F3B9CAC2FC632551
def B256 : Nat := 0x5AC635D8AA3A93E7B3EBBD55769886BC651D06B0CC53B0F63BCE3C3E27D2604B
def GX : Nat := 0x6B17D1F2E12C4247F8BCE6E563A440F277037D812DEB33A0F4A13945D898C296
def GY : Nat := 0x4FE342E2FE1A7F9B8EE7EB4A7C0F9E162BCE33576B315ECECBB6406837BF51F5
def seqN {α : Type} (x : Nat) (k : Nat → α) : α := match x with
  | 0 => k 0
  | n + 1 => k (n + 1)
theorem seqN_eq {α : Type} (x : Nat) (k : Nat → α) : seqN x k = k x := by cases x <;> rfl
def addM (m a b : Nat) : Nat := (a + b) % m
def subM (m a b : Nat) : Nat := (a % m + m - b % m) % m
def mulM (m a b : Nat) : Nat := a * b % m
structure T3 where
  x : Nat
  y : Nat
  z : Nat
def T3.o : T3 := ⟨0, 0, 0⟩
def dblS (m : Nat) (p : T3) : T3 :=
  if p.z = 0 ∨ p.y = 0 then T3.o else
  let zz := mulM m p.z p.z
  let yy := mulM m p.y p.y
  let b := mulM m p.x yy
  let c := mulM m (subM m p.x zz) (addM m p.x zz)
  let a := addM m (addM m c c) c
  let four := addM m (addM m b b) (addM m b b)
  let x := subM m (mulM m a a) (addM m four four)
  let yyyy := mulM m yy yy
  let y2 := addM m yyyy yyyy
  let y4 := addM m y2 y2
  let y8 := addM m y4 y4
  ⟨x, subM m (mulM m a (subM m four x)) y8, mulM m (addM m p.y p.y) p.z⟩
def addS (m : Nat) (p q : T3) : T3 :=
  if p.z = 0 then q else if q.z = 0 then p else
  let pp := mulM m p.z p.z
  let qq := mulM m q.z q.z
  let u := mulM m p.x qq
  let v := mulM m q.x pp
  let s := mulM m p.y (mulM m q.z qq)
  let t := mulM m q.y (mulM m p.z pp)
  let h := subM m v u
  let r := subM m t s
  if h = 0 then (if r = 0 then dblS m p else T3.o) else
  let hh := mulM m h h
  let hhh := mulM m h hh
  let w := mulM m u hh
  let x := subM m (subM m (mulM m r r) hhh) (addM m w w)
  ⟨x, subM m (mulM m r (subM m w x)) (mulM m s hhh), mulM m (mulM m p.z q.z) h⟩
def frc (p : T3) (k : T3 → T3) : T3 := seqN p.x fun x => seqN p.y fun y => seqN p.z fun z => k ⟨x, y, z⟩
theorem frc_eq (p : T3) (k : T3 → T3) : frc p k = k p := by unfold frc; rw [seqN_eq, seqN_eq, seqN_eq]
def timesF (m : Nat) (t : T3) (k : Nat) : Nat → T3 → T3
  | 0, r => r
  | i + 1, r => frc (dblS m r) fun d => if k / 2 ^ i % 2 = 1 then frc (addS m d t) fun e => timesF m t k i e else timesF m t k i d
def timesS (m : Nat) (t : T3) (k : Nat) : T3 := timesF m t k 256 T3.o
structure I4 where
  u : Nat
  v : Nat
  x : Nat
  y : Nat
def halveM (m a : Nat) : Nat := if a % 2 = 0 then a / 2 else (a + m) / 2
def invStep (m : Nat) (s : I4) : I4 :=
  if s.u % 2 = 0 then ⟨s.u / 2, s.v, halveM m s.x, s.y⟩
  else if s.u < s.v then ⟨s.v - s.u, s.u, subM m s.y s.x, s.x⟩
  else ⟨s.u - s.v, s.v, subM m s.x s.y, s.y⟩
def frcI {α : Type} (s : I4) (k : I4 → α) : α := seqN s.u fun u => seqN s.v fun v => seqN s.x fun x => seqN s.y fun y => k ⟨u, v, x, y⟩
theorem frcI_eq {α : Type} (s : I4) (k : I4 → α) : frcI s k = k s := by unfold frcI; rw [seqN_eq, seqN_eq, seqN_eq, seqN_eq]
def invF (m : Nat) : Nat → I4 → I4
  | 0, s => s
  | i + 1, s => if s.u = 0 then s else frcI (invStep m s) fun t => invF m i t
def invI (m a : Nat) : I4 := invF m 1100 ⟨a % m, m, 1, 0⟩
def dropS (m : Nat) (t : T3) : Nat × Nat :=
  let i := (invI m t.z).y
  let ii := mulM m i i
  (mulM m t.x ii, mulM m t.y (mulM m i ii))
def pubS (k : Nat) : Nat × Nat := dropS P256 (timesS P256 ⟨GX, GY, 1⟩ k)
def onS (x y : Nat) : Bool := decide (mulM P256 y y = addM P256 (mulM P256 (subM P256 (mulM P256 x x) 3) x) B256)
def KEY1 : Nat := 3 * 2 ^ 248 + 1
end Go.Proofs.YtjpfhhndjpdmoaaGreatDoor
