/- Part of the proof: Of, Halve. No conditions of its own. -/
import Derived.BigQuiet
import Derived.Deep.CutBlock
import Derived.Deep.DeepCutAuto
import Derived.Deep.LoopGhost
import Derived.Deep.Quiet
import Derived.Deep.QuietTactic
import Derived.Deep.RegionLaw
import Derived.Laws.Bits64b
import Derived.Lib.Hide
import Derived.Shelf.Bits.Mul64
import Derived.Shelf.Spec.BitsCarry
import Derived.StillTail
import Derived.Stop.BytesEq
import Derived.Test.YtjpfhhndjpdmoaaGreatDoorRows
import Derived.WalkKit
import Derived.Test.YtjpfhhndjpdmoaaGreatDoorK23
import Derived.Test.YtjpfhhndjpdmoaaGreatDoorK26
namespace Go.Proofs.YtjpfhhndjpdmoaaGreatDoor
open Go.RowKit
set_option linter.unusedVariables false
set_option linter.unusedSimpArgs false

theorem nOfS_succ (l : List UInt8) (i : Nat) (hi : i < 32) (hl : l.length = 32) : nOfS l (i + 1) = (natB (l.take i) * 256 + (gb l i).toNat) * 256 ^ (31 - i) := by
  have e : l.take (i + 1) = l.take i ++ [gb l i] := by
    rw [List.take_succ_eq_append_getElem (by omega)]
    simp [gb, show i < l.length by omega]
  unfold nOfS
  rw [e, natB_snoc, show 32 - (i + 1) = 31 - i by omega]
theorem of_or (l : List UInt8) (i : Nat) (hi : i < 32) : lim (nOfS l i) (3 - i / 8) ||| (gb l i).toNat * 2 ^ (56 - 8 * (i % 8)) = lim (nOfS l i) (3 - i / 8) + (gb l i).toNat * 2 ^ (56 - 8 * (i % 8)) := by
  obtain ⟨s, hs⟩ : ∃ s, s = 56 - 8 * (i % 8) := ⟨_, rfl⟩
  obtain ⟨k, hk⟩ : ∃ k, k = 3 - i / 8 := ⟨_, rfl⟩
  rw [← hs, ← hk]
  have e1 : (256 : Nat) ^ (32 - i) = 2 ^ (s + 8) * 18446744073709551616 ^ k := by
    rw [show (18446744073709551616 : Nat) = 2 ^ 64 from rfl, show (256 : Nat) = 2 ^ 8 from rfl, ← Nat.pow_mul, ← Nat.pow_mul, ← Nat.pow_add]
    congr 1
    omega
  have e2 : lim (nOfS l i) k = 2 ^ (s + 8) * (natB (l.take i) % 2 ^ (56 - s)) := by
    unfold lim nOfS
    rw [e1, ← Nat.mul_assoc, Nat.mul_div_cancel _ (Nat.pow_pos (by decide)), show (18446744073709551616 : Nat) = 2 ^ (s + 8) * 2 ^ (56 - s) by rw [← Nat.pow_add, show s + 8 + (56 - s) = 64 by omega], Nat.mul_comm (natB _), Nat.mul_mod_mul_left]
  have hx := (gb l i).toNat_lt
  have hb : (gb l i).toNat * 2 ^ s < 2 ^ (s + 8) := by
    rw [Nat.pow_add, Nat.mul_comm]
    exact Nat.mul_lt_mul_of_pos_left hx (Nat.pow_pos (by decide))
  rw [e2, Nat.two_pow_add_eq_or_of_lt hb]
theorem of_set (l : List UInt8) (i : Nat) (hi : i < 32) (hl : l.length = 32) : (nL (nOfS l i)).set (3 - i / 8) (lim (nOfS l i) (3 - i / 8) ||| (gb l i).toNat * 2 ^ (56 - 8 * (i % 8))) = nL (nOfS l (i + 1)) := by
  rw [of_or l i hi, nOfS_succ l i hi hl]
  have h := fun j hj => of_all (natB (l.take i)) (gb l i).toNat (gb l i).toNat_lt i j hi hj
  have h0 := h 0 (by decide)
  have h1 := h 1 (by decide)
  have h2 := h 2 (by decide)
  have h3 := h 3 (by decide)
  change lim _ 0 = if 0 = 3 - i / 8 then lim (nOfS l i) 0 + _ else lim (nOfS l i) 0 at h0
  change lim _ 1 = if 1 = 3 - i / 8 then lim (nOfS l i) 1 + _ else lim (nOfS l i) 1 at h1
  change lim _ 2 = if 2 = 3 - i / 8 then lim (nOfS l i) 2 + _ else lim (nOfS l i) 2 at h2
  change lim _ 3 = if 3 = 3 - i / 8 then lim (nOfS l i) 3 + _ else lim (nOfS l i) 3 at h3
  unfold nL
  rw [h0, h1, h2, h3]
  have : 3 - i / 8 = 0 ∨ 3 - i / 8 = 1 ∨ 3 - i / 8 = 2 ∨ 3 - i / 8 = 3 := by omega
  rcases this with e | e | e | e <;> rw [e] <;> rfl
theorem of_run (z x s y : Nat) (hz : z < 18446744073709551616) (hx : x < 256) (hs : s ≤ 56) (h : z ||| x * 2 ^ s = y) : bits .or .u64 (z : Int) (IntKind.u64.wrap ((x : Int) * 2 ^ s)) = (y : Int) := by
  have hb : x * 2 ^ s < 18446744073709551616 := by
    refine Nat.lt_of_lt_of_le (Nat.mul_lt_mul_of_pos_right hx (Nat.pow_pos (by decide))) ?_
    rw [show (256 : Nat) = 2 ^ 8 from rfl, ← Nat.pow_add]
    exact Nat.pow_le_pow_right (by decide) (show 8 + s ≤ 64 by omega)
  have e : IntKind.u64.wrap ((x : Int) * 2 ^ s) = ((x * 2 ^ s : Nat) : Int) := by
    rw [show ((x : Int) * 2 ^ s) = ((x * 2 ^ s : Nat) : Int) by simp, IntKind.wrap_u64]
    generalize x * 2 ^ s = q at hb ⊢
    omega
  rw [e, bits_or_u64_nat _ _ hz hb, h]
set_option maxRecDepth 100000 in
set_option maxHeartbeats 4000000 in
theorem of_any (w : World) (l : List UInt8) (hl : l.length = 32) : Calls Tryz.prog 93 #[.agg (AB l)] w fun e w' => e = .returned (.agg (AQ (nL (natB l)))) ∧ Below w.heap.size w w' := by
  have z1 : (AB l).size = 32 := by rw [AB_size]; exact hl
  have z2 := sub_all (AB l) 32 z1
  have HL := Lib.hid hl
  clear hl
  go_enter Tryz.func93, Tryz.ntmps93
  go_upto_region 2 with (fail)
  refine at_world (fun W => Row W w.heap.size 24 (AB l) ∧ Row W (w.heap.size + 1) 177 (AQ (nL 0)) ∧ Row W (w.heap.size + 1 + 1) 177 (AQ (nL 0)) ∧ Below w.heap.size w W) ⟨((Row.newAt _ _ _ _ rfl).alloc _).alloc _, (rowZ _ _ _ (by simp)).alloc _, rowZ _ _ _ (by simp), (((Below.refl _ w).alloc (Nat.le_refl _) _).alloc (by simp) _).alloc (by simp; omega) _⟩ ?_
  rintro W1 ⟨i1, i2, i3, hB⟩
  go_wp2_with fail
  go_loopg [7] 32 (fun gk t7 wr => ∃ i : Nat, gk + i = 32 ∧ t7 = .int .i64 (i : Int) ∧ Row wr (w.heap.size + 1) 177 (AQ (nL 0)) ∧ Row wr (w.heap.size + 1 + 1) 177 (AQ (nL (nOfS l i))) ∧ Below w.heap.size w wr)
  case atStart => exact ⟨0, rfl, rfl, i2, by rw [nOfS_zero]; exact i3, hB⟩
  case round =>
    clear i1 i2 i3 hB
    obtain ⟨i, hi, rfl, r2, r3, hb⟩ := hrel
    by_cases h32 : i < 32
    · have q0 : (0 : Int) ≤ (i : Int) := by omega
      have q1 : (i : Int) < 32 := by omega
      have q1' : i < 32 := by omega
      obtain ⟨q, hq⟩ : ∃ k, k = i / 8 := ⟨_, rfl⟩
      obtain ⟨r, hr⟩ : ∃ k, k = i % 8 := ⟨_, rfl⟩
      obtain ⟨k, hk⟩ : ∃ k, k = 3 - q := ⟨_, rfl⟩
      obtain ⟨s, hs⟩ : ∃ k, k = 56 - 8 * r := ⟨_, rfl⟩
      obtain ⟨m8, hm8⟩ : ∃ k, k = 8 * r := ⟨_, rfl⟩
      have g1 : (i : Int).tdiv 8 = (q : Int) := by rw [hq]; rfl
      have g1' : IntKind.i64.wrap ((i : Int).tdiv 8) = (q : Int) := by rw [g1]; exact IntWalk.i64_in _ (by omega)
      have g1q : IntKind.i64.wrap (q : Int) = (q : Int) := IntWalk.i64_in _ (by omega)
      have g2 : IntKind.i64.wrap ((3 : Int) - (q : Int)) = (k : Int) := by rw [show (3 : Int) - (q : Int) = (k : Int) by omega]; exact IntWalk.i64_in _ (by omega)
      have g3 : (i : Int).tmod 8 = (r : Int) := by rw [hr]; rfl
      have g3' : IntKind.i64.wrap ((i : Int).tmod 8) = (r : Int) := by rw [g3]; exact IntWalk.i64_in _ (by omega)
      have g3q : IntKind.i64.wrap (r : Int) = (r : Int) := IntWalk.i64_in _ (by omega)
      have g4 : IntKind.i64.wrap (8 * (r : Int)) = (m8 : Int) := by rw [show 8 * (r : Int) = (m8 : Int) by omega]; exact IntWalk.i64_in _ (by omega)
      have g5 : IntKind.i64.wrap ((56 : Int) - (m8 : Int)) = (s : Int) := by rw [show (56 : Int) - (m8 : Int) = (s : Int) by omega]; exact IntWalk.i64_in _ (by omega)
      have k4 : k < 4 := by omega
      have k5 : (k : Int) < 4 := by omega
      have k5' : (0 : Int) ≤ (k : Int) := by omega
      have s4 : (s : Int) < 64 := by omega
      have s5 : (0 : Int) ≤ (s : Int) := by omega
      have s6 : ¬ (s : Int) < 0 := by omega
      obtain ⟨S, hS⟩ : ∃ S, S = nOfS l i := ⟨_, rfl⟩
      obtain ⟨z, hz⟩ : ∃ z, z = lim S k := ⟨_, rfl⟩
      rw [← hS] at r3
      have cA : wr.drew.cell? ⟨w.heap.size + 1 + 1, k, none⟩ = some (Q z) := by rw [r3.drew.cell, AQ_get _ _ k4, nL_get _ _ k4, hz]
      have fA : wr.drew.frozen? ⟨w.heap.size + 1 + 1, k, none⟩ = false := r3.drew.frozen k
      have hx1 := (gb l i).toNat_lt
      have gx : IntKind.u64.wrap ((gb l i).toNat : Int) = ((gb l i).toNat : Int) := by rw [IntKind.wrap_u64]; omega
      obtain ⟨y, hy⟩ : ∃ y, y = z ||| (gb l i).toNat * 2 ^ s := ⟨_, rfl⟩
      have fx := of_run z (gb l i).toNat s y (by rw [hz]; exact lim_lt _ _) hx1 (by omega) hy.symm
      have HN := Lib.hid (show (nL S).set k y = nL (nOfS l (i + 1)) by rw [hy, hz, hS, hk, hs, hq, hr]; exact of_set l i h32 HL.out)
      have r3d := r3.drew
      have hb' := hb.drew
      have r2d := r2.drew
      have lt3 := r3.lt
      have HI := Lib.hid hi
      clear hq hr hk hs hz hS hy hi h32 hm8 hx1
      go_upto_region 5 with (fail)
      refine wp_region_qtail (fun w' => w' = _) 14 (by kernel_rfl) (by kernel_rfl) rfl ?_
      simp only [List.take_succ_cons, List.take_zero, List.drop_succ_cons, List.drop_zero]
      repeat (first | go_big_quiet_skip | (go_big_quiet_want; go_big_quiet_op; go_big_quiet_on))
      refine wpQuiet_nil ?_
      rintro _ rfl
      have q4 : (AQ (nL S)).size = 4 := rfl
      go_wp2_with fail
      go_roundg (gk - 1)
      case measure => have := HI.out; omega
      case rel => exact ⟨i + 1, by have := HI.out; omega, by go_num, r2d.setOther _ _ (by simp), by rw [← HN.out]; exact r3d.setQ k y, hb'.setCell (by simp; omega) _⟩
    · obtain rfl : i = 32 := by omega
      rw [nOfS_all HL.out] at r3
      have q1 : ¬ ((32 : Nat) : Int) < 32 := by omega
      have l2 := r2.lt
      have l3 := r3.lt
      go_wp2_with fail
      exact ret_row (by first | exact .inl rfl | exact .inr rfl) rfl (w.heap.size + 1) 177 (AQ (nL (natB l))) 4 _ rfl (r2.setRow _) Tryz.underlying177 rfl (by kernel_rfl) rfl ⟨rfl, bSetRow hb (by omega) _⟩
end Go.Proofs.YtjpfhhndjpdmoaaGreatDoor

namespace Go.Proofs.YtjpfhhndjpdmoaaGreatDoor
open Go.RowKit
set_option linter.unusedVariables false
set_option linter.unusedSimpArgs false

theorem sum_top {a b : Nat} (ha : a < R256) (hb : b < R256) : (a + b) / R256 ≤ 1 := by
  have : (a + b) / R256 < 2 := Nat.div_lt_of_lt_mul (by omega)
  omega
theorem add_t {w : World} {a b s c : Nat} (ha : a < R256) (hb : b < R256) (hs : s = (a + b) % R256) (hc : c = (a + b) / R256) : Calls Tryz.prog 151 #[.agg (AQ (nL a)), .agg (AQ (nL b))] w fun e w' => e = .returned (.tuple #[.agg (AQ (nL s)), Q c]) ∧ Below w.heap.size w w' := by
  subst hs hc
  rw [nL_mod, ← cyS_four a b ha hb]
  exact nadd_any w a b
theorem sub_t {w : World} {a b x : Nat} (ha : a < R256) (hb : b < R256) (hle : b ≤ a) (hx : x = a - b) : Calls Tryz.prog 149 #[.agg (AQ (nL a)), .agg (AQ (nL b))] w fun e w' => e = .returned (.tuple #[.agg (AQ (nL x)), .int .u64 0]) ∧ Below w.heap.size w w' := by
  have h := nsub_any w a b hb
  have e : nL (a + R256 - b) = nL x := by rw [show a + R256 - b = (a - b) + R256 by omega, ← nL_mod ((a - b) + R256), Nat.add_mod_right, nL_mod, hx]
  rw [boS_four a b ha hb, if_neg (by omega), e] at h
  exact h
theorem hlf_lt {a t : Nat} (ha : a < R256) (ht : t ≤ 1) : hlf a t < R256 := by
  unfold hlf
  have : t * R256 ≤ 1 * R256 := Nat.mul_le_mul_right _ ht
  omega
theorem half_x {w : World} {a t x : Nat} (ha : a < R256) (ht : t ≤ 1) (hx : x = hlf a t) : Calls Tryz.prog 147 #[.agg (AQ (nL a)), Q t] w fun e w' => e = .returned (.agg (AQ (nL x))) ∧ Below w.heap.size w w' := by
  subst hx; exact half_any w a t ha ht
theorem half_0 {w : World} {a x : Nat} (ha : a < R256) (hx : x = hlf a 0) : Calls Tryz.prog 147 #[.agg (AQ (nL a)), .int .u64 0] w fun e w' => e = .returned (.agg (AQ (nL x))) ∧ Below w.heap.size w w' := by
  subst hx; exact half_any w a 0 ha (by decide)
theorem halveM_lt {m a : Nat} (ha : a < R256) (hm : m < R256) : halveM m a < R256 := by unfold halveM; split <;> omega
theorem hlf_even (a : Nat) : hlf a 0 = a / 2 := by unfold hlf; rw [Nat.zero_mul, Nat.add_zero]
theorem hlf_sum (a : Nat) : hlf (a % R256) (a / R256) = a / 2 := by unfold hlf; rw [Nat.mul_comm, Nat.mod_add_div]
theorem lim0_even (a : Nat) : lim a 0 % 2 = a % 2 := by unfold lim; omega

set_option maxRecDepth 100000 in
set_option maxHeartbeats 4000000 in
theorem halve_even {w : World} {g m neg ri a : Nat} (hM : ModW w g m neg ri) (ha : a < R256) (hp : a % 2 = 0) : Calls Tryz.prog 148 #[.pointer (some ⟨g, 0, none⟩), .agg (AQ (nL a))] w fun e w' => e = .returned (.agg (AQ (nL (halveM m a)))) ∧ Below w.heap.size w w' := by
  have HM := Lib.hid (show ∀ W, Below w.heap.size w W → ModW W g m neg ri from fun W hb => hM.below hb)
  have HP := Lib.hid hM.md.pos
  have HL := Lib.hid hM.md.low
  clear hM
  have b_a := ha
  obtain ⟨x0, hx0⟩ : ∃ x, x = lim a 0 := ⟨_, rfl⟩
  have f1 : bits .and .u64 (x0 : Int) 1 = 0 := by have := ba_one x0 (by rw [hx0]; exact lim_lt _ _); rw [this, hx0, lim0_even, hp]; rfl
  have HA0 := Lib.hid hx0
  clear hx0
  have HPA := Lib.hid hp
  clear hp ha
  go_enter Tryz.func148, Tryz.ntmps148
  go_upto_region 1 with (fail)
  refine at_world (fun W => Row W w.heap.size 177 (AQ (nL a)) ∧ Row W (w.heap.size + 1) 177 (AQ (nL 0)) ∧ Below w.heap.size w W) (⟨((Row.newAt _ _ _ _ rfl).alloc _), (by rw [nAQ_zero]; exact (Row.newAt _ _ _ _ (by simp))), (((Below.refl _ w).alloc (Nat.le_refl _) _).alloc (by simp) _)⟩) ?_
  rintro W1 ⟨i1_3, i1_4, hB1⟩
  have c0 : W1.cell? ⟨w.heap.size, 0, none⟩ = some (Q x0) := by rw [i1_3.cell, HA0.out]; rfl
  go_upto_region 2 with (fail)
  refine at_world (fun W => Row W w.heap.size 177 (AQ (nL a)) ∧ Row W (w.heap.size + 1) 177 (AQ (nL 0)) ∧ Below w.heap.size w W) (⟨i1_3, i1_4, hB1⟩) ?_
  clear i1_3 i1_4 c0 hB1
  rintro W2 ⟨i2_3, i2_4, hB2⟩
  obtain ⟨x12, h12⟩ : ∃ x, x = hlf a 0 := ⟨_, rfl⟩
  have b_x12 : x12 < R256 := by rw [h12]; exact hlf_lt b_a (by decide)
  have H12 := Lib.hid h12
  clear h12
  refine wp_region_num 2 [0, 1] [] (fun _ => .cells #[] 0) (by kernel_rfl) (by kernel_rfl) (by kernel_rfl) (by kernel_rfl) ?hal ?h
  case hal =>
    intro k hk o ho
    cases hk
  case h =>
  apply Exists.intro
  refine ⟨fun R => ?_, ?_⟩
  · simp only [List.map_cons, List.map_nil, List.getD_cons_zero, List.getD_cons_succ]
    (go_big_quiet_want; apply qn_load at_num rfl rfl i2_3 (hp_num a); (simp only [Act.put, lS]; go_big_quiet_on))
    (go_big_quiet_want; refine qa_call _ _ ?_ _ (fun w' hb => half_0 b_a H12.out) ?_; (focus (intro w; simp [go_sem]; done)); (simp only [Act.put, lS]; go_big_quiet_on))
    exact wpQuiet_nil rfl
  · intro w2 hcc
    replace i2_3 := i2_3.below hcc.1 i2_3.lt
    replace i2_4 := i2_4.below hcc.1 i2_4.lt
    have hg_le : w.heap.size ≤ w2.heap.size := Nat.le_trans hB2.size hcc.1.size
    replace hB2 := hB2.trans (hcc.1.mono hB2.size)
    clear hcc hg_le
    have lt_4 := i2_4.lt
    go_wp2_with fail
    exact ret_row (by first | exact .inl rfl | exact .inr rfl) rfl ((w.heap.size + 1)) 177 (AQ (nL x12)) 4 _ rfl (i2_4.setRow _) Tryz.underlying177 rfl (by kernel_rfl) rfl ⟨by rw [H12.out, hlf_even]; unfold halveM; rw [if_pos HPA.out], (bSetRow hB2 (by omega) _)⟩
set_option maxRecDepth 100000 in
set_option maxHeartbeats 4000000 in
theorem halve_odd {w : World} {g m neg ri a : Nat} (hM : ModW w g m neg ri) (ha : a < R256) (hp : a % 2 = 1) : Calls Tryz.prog 148 #[.pointer (some ⟨g, 0, none⟩), .agg (AQ (nL a))] w fun e w' => e = .returned (.agg (AQ (nL (halveM m a)))) ∧ Below w.heap.size w w' := by
  have HM := Lib.hid (show ∀ W, Below w.heap.size w W → ModW W g m neg ri from fun W hb => hM.below hb)
  have HP := Lib.hid hM.md.pos
  have HL := Lib.hid hM.md.low
  clear hM
  have b_a := ha
  obtain ⟨x0, hx0⟩ : ∃ x, x = lim a 0 := ⟨_, rfl⟩
  have f1 : bits .and .u64 (x0 : Int) 1 = 1 := by have := ba_one x0 (by rw [hx0]; exact lim_lt _ _); rw [this, hx0, lim0_even, hp]; rfl
  have HA0 := Lib.hid hx0
  clear hx0
  have HPA := Lib.hid hp
  clear hp ha
  go_enter Tryz.func148, Tryz.ntmps148
  go_upto_region 1 with (fail)
  refine at_world (fun W => Row W w.heap.size 177 (AQ (nL a)) ∧ Row W (w.heap.size + 1) 177 (AQ (nL 0)) ∧ Below w.heap.size w W) (⟨((Row.newAt _ _ _ _ rfl).alloc _), (by rw [nAQ_zero]; exact (Row.newAt _ _ _ _ (by simp))), (((Below.refl _ w).alloc (Nat.le_refl _) _).alloc (by simp) _)⟩) ?_
  rintro W1 ⟨i1_3, i1_4, hB1⟩
  have c0 : W1.cell? ⟨w.heap.size, 0, none⟩ = some (Q x0) := by rw [i1_3.cell, HA0.out]; rfl
  go_upto_region 3 with (fail)
  refine at_world (fun W => Row W w.heap.size 177 (AQ (nL a)) ∧ Row W (w.heap.size + 1) 177 (AQ (nL 0)) ∧ Below w.heap.size w W) (⟨i1_3, i1_4, hB1⟩) ?_
  clear i1_3 i1_4 c0 hB1
  rintro W2 ⟨i2_3, i2_4, hB2⟩
  obtain ⟨x19, h19⟩ : ∃ x, x = (a + m) % R256 := ⟨_, rfl⟩
  obtain ⟨c19, k19⟩ : ∃ x, x = (a + m) / R256 := ⟨_, rfl⟩
  have b_x19 : x19 < R256 := by rw [h19]; exact Nat.mod_lt _ (by decide)
  have d_c19 : c19 ≤ 1 := by rw [k19]; exact sum_top b_a HL.out
  have H19 := Lib.hid h19
  have K19 := Lib.hid k19
  clear h19 k19
  have hmm : Row W2.drew g 260 (modC m neg) := (HM.out _ hB2.drew).row
  have hm4 := modC_m m neg
  have hms := modC_size m neg
  have hml : g < W2.heap.size := hmm.lt
  have hmu : Row W2 g 260 (modC m neg) := (HM.out _ hB2).row
  have d3 := i2_3.drew
  have lt3 : w.heap.size < W2.heap.size := i2_3.lt
  have d4 := i2_4.drew
  have lt4 : (w.heap.size + 1) < W2.heap.size := i2_4.lt
  go_cut [5, 6] (fun t5 t6 wx => ∃ g5, t5 = .pointer (some ⟨g5, 0, none⟩) ∧ t6 = Q c19 ∧ w.heap.size ≤ g5 ∧ (w.heap.size + 1) ≠ g5 ∧ Row wx g5 177 (AQ (nL x19)) ∧ Row wx (w.heap.size + 1) 177 (AQ (nL 0)) ∧ Below w.heap.size w wx)
  case first =>
    go_region_law (first
      | (refine wp_callQ 151 #[.agg (AQ (nL a)), .agg (AQ (nL m))] ?_ ?_
         (focus (simp [go_sem]; done))
         refine (add_t b_a HL.out H19.out K19.out).mono ?_
         rintro _ w2 ⟨rfl, hB⟩
         refine ⟨_, rfl, ?_⟩
         have r4 := (show Row w2 (w.heap.size + 1) 177 (AQ (nL 0)) from by first | exact d4.below hB d4.lt | exact (d4.alloc _).below hB (d4.alloc _).lt)
         have hN2 := Lib.hid (show Below w.heap.size w w2 from by first | exact hB2.drew.trans (hB.mono hB2.size) | exact (hB2.drew.alloc hB2.size _).trans (hB.mono (by have := hB2.size; simp; omega)))
         have hl2 : W2.heap.size ≤ w2.heap.size := by have := hB.size; simp at this; omega
         (first
           | (have hz2 := (show Row w2 W2.heap.size 177 #[.int .u64 0, .int .u64 0, .int .u64 0, .int .u64 0] from by first | exact (Row.new W2.drew 177 #[.int .u64 0, .int .u64 0, .int .u64 0, .int .u64 0]).below hB (Row.new W2.drew 177 #[.int .u64 0, .int .u64 0, .int .u64 0, .int .u64 0]).lt)
              have hzl2 := hz2.lt)
           | skip)
         clear hB)
      | fail)
    all_goals
      go_wp2_with fail
      go_meet
      case rel =>
        first
          | exact ⟨w2.heap.size, rfl, rfl, hN2.out.size, (by have := r4.lt; omega), (Row.new _ _ _).setRow _, (r4.alloc _).setRowOther _ _ (by have := r4.lt; omega), bSetRow (hN2.out.alloc hN2.out.size _) hN2.out.size _⟩
          | exact ⟨W2.heap.size, rfl, rfl, hB2.size, (by omega), hz2.setRow _, r4.setRowOther _ _ (by omega), bSetRow hN2.out hB2.size _⟩
  case rest =>
    obtain ⟨g5, rfl, rfl, lb_g5, ne_4_g5, j_5, i3_4, hB3⟩ := hcut
    clear i2_3 i2_4 hB2 d3 d4 lt3 lt4
    clear hmm hm4 hms hml hmu
    go_upto_region 4 with (fail)
    refine at_world (fun W => Row W (w.heap.size + 1) 177 (AQ (nL 0)) ∧ Row W g5 177 (AQ (nL x19)) ∧ Below w.heap.size w W) (⟨i3_4, j_5, hB3⟩) ?_
    clear i3_4 j_5 hB3
    rintro W4 ⟨i4_4, i4_5, hB4⟩
    obtain ⟨x24, h24⟩ : ∃ x, x = hlf x19 c19 := ⟨_, rfl⟩
    have b_x24 : x24 < R256 := by rw [h24]; exact hlf_lt b_x19 d_c19
    have H24 := Lib.hid h24
    clear h24
    refine wp_region_num 3 [0, 1, 2] [] (fun _ => .cells #[] 0) (by kernel_rfl) (by kernel_rfl) (by kernel_rfl) (by kernel_rfl) ?hal ?h
    case hal =>
      intro k hk o ho
      cases hk
    case h =>
    apply Exists.intro
    refine ⟨fun R => ?_, ?_⟩
    · simp only [List.map_cons, List.map_nil, List.getD_cons_zero, List.getD_cons_succ]
      (go_big_quiet_want; apply qn_load at_num rfl rfl i4_5 (hp_num x19); (simp only [Act.put, lS]; go_big_quiet_on))
      (first | go_big_quiet_skip | (go_big_quiet_want; go_big_quiet_op; first | go_big_quiet_on | (refine ⟨_, fun _ _ => rfl, ?_⟩; go_big_quiet_on)))
      (go_big_quiet_want; refine qa_call _ _ ?_ _ (fun w' hb => half_x b_x19 d_c19 H24.out) ?_; (focus (intro w; simp [go_sem]; done)); (simp only [Act.put, lS]; go_big_quiet_on))
      exact wpQuiet_nil rfl
    · intro w2 hcc
      replace i4_4 := i4_4.below hcc.1 i4_4.lt
      replace i4_5 := i4_5.below hcc.1 i4_5.lt
      have hg_le : w.heap.size ≤ w2.heap.size := Nat.le_trans hB4.size hcc.1.size
      replace hB4 := hB4.trans (hcc.1.mono hB4.size)
      clear hcc hg_le
      have lt_4 := i4_4.lt
      go_wp2_with fail
      exact ret_row (by first | exact .inl rfl | exact .inr rfl) rfl ((w.heap.size + 1)) 177 (AQ (nL x24)) 4 _ rfl (i4_4.setRow _) Tryz.underlying177 rfl (by kernel_rfl) rfl ⟨by rw [H24.out, H19.out, K19.out, hlf_sum]; unfold halveM; rw [if_neg (by have := HPA.out; omega)], (bSetRow hB4 (by omega) _)⟩
theorem halve_x {w : World} {g m neg ri a x : Nat} (hM : ModW w g m neg ri) (ha : a < R256) (hx : x = halveM m a) : Calls Tryz.prog 148 #[.pointer (some ⟨g, 0, none⟩), .agg (AQ (nL a))] w fun e w' => e = .returned (.agg (AQ (nL x))) ∧ Below w.heap.size w w' := by
  subst hx
  rcases Nat.mod_two_eq_zero_or_one a with h | h
  · exact halve_even hM ha h
  · exact halve_odd hM ha h
end Go.Proofs.YtjpfhhndjpdmoaaGreatDoor
