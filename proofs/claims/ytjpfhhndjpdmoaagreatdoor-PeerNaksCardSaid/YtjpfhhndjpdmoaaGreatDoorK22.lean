/- Part of the proof: Halve, MNew. No conditions of its own. -/
import Derived.BigQuiet
import Derived.Deep.CutBlock
import Derived.Deep.DeepCutAuto
import Derived.Deep.LoopGhost
import Derived.Deep.Quiet
import Derived.Deep.QuietTactic
import Derived.Deep.RegionLaw
import Derived.Laws.Bits64b
import Derived.Lib.Hide
import Derived.Shelf.Bits.Mul64
import Derived.Shelf.Spec.BitsCarry
import Derived.StillTail
import Derived.Stop.BytesEq
import Derived.Test.YtjpfhhndjpdmoaaGreatDoorRows
import Derived.WalkKit
import Derived.Test.YtjpfhhndjpdmoaaGreatDoorK21
namespace Go.Proofs.YtjpfhhndjpdmoaaGreatDoor
open Go.RowKit
set_option linter.unusedVariables false
set_option linter.unusedSimpArgs false

theorem sum_top {a b : Nat} (ha : a < R256) (hb : b < R256) : (a + b) / R256 ≤ 1 := by
  have : (a + b) / R256 < 2 := Nat.div_lt_of_lt_mul (by omega)
  omega
theorem add_t {w : World} {a b s c : Nat} (ha : a < R256) (hb : b < R256) (hs : s = (a + b) % R256) (hc : c = (a + b) / R256) : Calls Tryz.prog 151 #[.agg (AQ (nL a)), .agg (AQ (nL b))] w fun e w' => e = .returned (.tuple #[.agg (AQ (nL s)), Q c]) ∧ Below w.heap.size w w' := by
  subst hs hc
  rw [nL_mod, ← cyS_four a b ha hb]
  exact nadd_any w a b
theorem sub_t {w : World} {a b x : Nat} (ha : a < R256) (hb : b < R256) (hle : b ≤ a) (hx : x = a - b) : Calls Tryz.prog 149 #[.agg (AQ (nL a)), .agg (AQ (nL b))] w fun e w' => e = .returned (.tuple #[.agg (AQ (nL x)), .int .u64 0]) ∧ Below w.heap.size w w' := by
  have h := nsub_any w a b hb
  have e : nL (a + R256 - b) = nL x := by rw [show a + R256 - b = (a - b) + R256 by omega, ← nL_mod ((a - b) + R256), Nat.add_mod_right, nL_mod, hx]
  rw [boS_four a b ha hb, if_neg (by omega), e] at h
  exact h
theorem hlf_lt {a t : Nat} (ha : a < R256) (ht : t ≤ 1) : hlf a t < R256 := by
  unfold hlf
  have : t * R256 ≤ 1 * R256 := Nat.mul_le_mul_right _ ht
  omega
theorem half_x {w : World} {a t x : Nat} (ha : a < R256) (ht : t ≤ 1) (hx : x = hlf a t) : Calls Tryz.prog 147 #[.agg (AQ (nL a)), Q t] w fun e w' => e = .returned (.agg (AQ (nL x))) ∧ Below w.heap.size w w' := by
  subst hx; exact half_any w a t ha ht
theorem half_0 {w : World} {a x : Nat} (ha : a < R256) (hx : x = hlf a 0) : Calls Tryz.prog 147 #[.agg (AQ (nL a)), .int .u64 0] w fun e w' => e = .returned (.agg (AQ (nL x))) ∧ Below w.heap.size w w' := by
  subst hx; exact half_any w a 0 ha (by decide)
theorem halveM_lt {m a : Nat} (ha : a < R256) (hm : m < R256) : halveM m a < R256 := by unfold halveM; split <;> omega
theorem hlf_even (a : Nat) : hlf a 0 = a / 2 := by unfold hlf; rw [Nat.zero_mul, Nat.add_zero]
theorem hlf_sum (a : Nat) : hlf (a % R256) (a / R256) = a / 2 := by unfold hlf; rw [Nat.mul_comm, Nat.mod_add_div]
theorem lim0_even (a : Nat) : lim a 0 % 2 = a % 2 := by unfold lim; omega

set_option maxRecDepth 100000 in
set_option maxHeartbeats 4000000 in
theorem halve_even {w : World} {g m neg ri a : Nat} (hM : ModW w g m neg ri) (ha : a < R256) (hp : a % 2 = 0) : Calls Tryz.prog 148 #[.pointer (some ⟨g, 0, none⟩), .agg (AQ (nL a))] w fun e w' => e = .returned (.agg (AQ (nL (halveM m a)))) ∧ Below w.heap.size w w' := by
  have HM := Lib.hid (show ∀ W, Below w.heap.size w W → ModW W g m neg ri from fun W hb => hM.below hb)
  have HP := Lib.hid hM.md.pos
  have HL := Lib.hid hM.md.low
  clear hM
  have b_a := ha
  obtain ⟨x0, hx0⟩ : ∃ x, x = lim a 0 := ⟨_, rfl⟩
  have f1 : bits .and .u64 (x0 : Int) 1 = 0 := by have := ba_one x0 (by rw [hx0]; exact lim_lt _ _); rw [this, hx0, lim0_even, hp]; rfl
  have HA0 := Lib.hid hx0
  clear hx0
  have HPA := Lib.hid hp
  clear hp ha
  go_enter Tryz.func148, Tryz.ntmps148
  go_upto_region 1 with (fail)
  refine at_world (fun W => Row W w.heap.size 177 (AQ (nL a)) ∧ Row W (w.heap.size + 1) 177 (AQ (nL 0)) ∧ Below w.heap.size w W) (⟨((Row.newAt _ _ _ _ rfl).alloc _), (by rw [nAQ_zero]; exact (Row.newAt _ _ _ _ (by simp))), (((Below.refl _ w).alloc (Nat.le_refl _) _).alloc (by simp) _)⟩) ?_
  rintro W1 ⟨i1_3, i1_4, hB1⟩
  have c0 : W1.cell? ⟨w.heap.size, 0, none⟩ = some (Q x0) := by rw [i1_3.cell, HA0.out]; rfl
  go_upto_region 2 with (fail)
  refine at_world (fun W => Row W w.heap.size 177 (AQ (nL a)) ∧ Row W (w.heap.size + 1) 177 (AQ (nL 0)) ∧ Below w.heap.size w W) (⟨i1_3, i1_4, hB1⟩) ?_
  clear i1_3 i1_4 c0 hB1
  rintro W2 ⟨i2_3, i2_4, hB2⟩
  obtain ⟨x12, h12⟩ : ∃ x, x = hlf a 0 := ⟨_, rfl⟩
  have b_x12 : x12 < R256 := by rw [h12]; exact hlf_lt b_a (by decide)
  have H12 := Lib.hid h12
  clear h12
  refine wp_region_num 2 [0, 1] [] (fun _ => .cells #[] 0) (by kernel_rfl) (by kernel_rfl) (by kernel_rfl) (by kernel_rfl) ?hal ?h
  case hal =>
    intro k hk o ho
    cases hk
  case h =>
  apply Exists.intro
  refine ⟨fun R => ?_, ?_⟩
  · simp only [List.map_cons, List.map_nil, List.getD_cons_zero, List.getD_cons_succ]
    (go_big_quiet_want; apply qn_load at_num rfl rfl i2_3 (hp_num a); (simp only [Act.put, lS]; go_big_quiet_on))
    (go_big_quiet_want; refine qa_call _ _ ?_ _ (fun w' hb => half_0 b_a H12.out) ?_; (focus (intro w; simp [go_sem]; done)); (simp only [Act.put, lS]; go_big_quiet_on))
    exact wpQuiet_nil rfl
  · intro w2 hcc
    replace i2_3 := i2_3.below hcc.1 i2_3.lt
    replace i2_4 := i2_4.below hcc.1 i2_4.lt
    have hg_le : w.heap.size ≤ w2.heap.size := Nat.le_trans hB2.size hcc.1.size
    replace hB2 := hB2.trans (hcc.1.mono hB2.size)
    clear hcc hg_le
    have lt_4 := i2_4.lt
    go_wp2_with fail
    exact ret_row (by first | exact .inl rfl | exact .inr rfl) rfl ((w.heap.size + 1)) 177 (AQ (nL x12)) 4 _ rfl (i2_4.setRow _) Tryz.underlying177 rfl (by kernel_rfl) rfl ⟨by rw [H12.out, hlf_even]; unfold halveM; rw [if_pos HPA.out], (bSetRow hB2 (by omega) _)⟩
set_option maxRecDepth 100000 in
set_option maxHeartbeats 4000000 in
theorem halve_odd {w : World} {g m neg ri a : Nat} (hM : ModW w g m neg ri) (ha : a < R256) (hp : a % 2 = 1) : Calls Tryz.prog 148 #[.pointer (some ⟨g, 0, none⟩), .agg (AQ (nL a))] w fun e w' => e = .returned (.agg (AQ (nL (halveM m a)))) ∧ Below w.heap.size w w' := by
  have HM := Lib.hid (show ∀ W, Below w.heap.size w W → ModW W g m neg ri from fun W hb => hM.below hb)
  have HP := Lib.hid hM.md.pos
  have HL := Lib.hid hM.md.low
  clear hM
  have b_a := ha
  obtain ⟨x0, hx0⟩ : ∃ x, x = lim a 0 := ⟨_, rfl⟩
  have f1 : bits .and .u64 (x0 : Int) 1 = 1 := by have := ba_one x0 (by rw [hx0]; exact lim_lt _ _); rw [this, hx0, lim0_even, hp]; rfl
  have HA0 := Lib.hid hx0
  clear hx0
  have HPA := Lib.hid hp
  clear hp ha
  go_enter Tryz.func148, Tryz.ntmps148
  go_upto_region 1 with (fail)
  refine at_world (fun W => Row W w.heap.size 177 (AQ (nL a)) ∧ Row W (w.heap.size + 1) 177 (AQ (nL 0)) ∧ Below w.heap.size w W) (⟨((Row.newAt _ _ _ _ rfl).alloc _), (by rw [nAQ_zero]; exact (Row.newAt _ _ _ _ (by simp))), (((Below.refl _ w).alloc (Nat.le_refl _) _).alloc (by simp) _)⟩) ?_
  rintro W1 ⟨i1_3, i1_4, hB1⟩
  have c0 : W1.cell? ⟨w.heap.size, 0, none⟩ = some (Q x0) := by rw [i1_3.cell, HA0.out]; rfl
  go_upto_region 3 with (fail)
  refine at_world (fun W => Row W w.heap.size 177 (AQ (nL a)) ∧ Row W (w.heap.size + 1) 177 (AQ (nL 0)) ∧ Below w.heap.size w W) (⟨i1_3, i1_4, hB1⟩) ?_
  clear i1_3 i1_4 c0 hB1
  rintro W2 ⟨i2_3, i2_4, hB2⟩
  obtain ⟨x19, h19⟩ : ∃ x, x = (a + m) % R256 := ⟨_, rfl⟩
  obtain ⟨c19, k19⟩ : ∃ x, x = (a + m) / R256 := ⟨_, rfl⟩
  have b_x19 : x19 < R256 := by rw [h19]; exact Nat.mod_lt _ (by decide)
  have d_c19 : c19 ≤ 1 := by rw [k19]; exact sum_top b_a HL.out
  have H19 := Lib.hid h19
  have K19 := Lib.hid k19
  clear h19 k19
  have hmm : Row W2.drew g 260 (modC m neg) := (HM.out _ hB2.drew).row
  have hm4 := modC_m m neg
  have hms := modC_size m neg
  have hml : g < W2.heap.size := hmm.lt
  have hmu : Row W2 g 260 (modC m neg) := (HM.out _ hB2).row
  have d3 := i2_3.drew
  have lt3 : w.heap.size < W2.heap.size := i2_3.lt
  have d4 := i2_4.drew
  have lt4 : (w.heap.size + 1) < W2.heap.size := i2_4.lt
  go_cut [5, 6] (fun t5 t6 wx => ∃ g5, t5 = .pointer (some ⟨g5, 0, none⟩) ∧ t6 = Q c19 ∧ w.heap.size ≤ g5 ∧ (w.heap.size + 1) ≠ g5 ∧ Row wx g5 177 (AQ (nL x19)) ∧ Row wx (w.heap.size + 1) 177 (AQ (nL 0)) ∧ Below w.heap.size w wx)
  case first =>
    go_region_law (first
      | (refine wp_callQ 151 #[.agg (AQ (nL a)), .agg (AQ (nL m))] ?_ ?_
         (focus (simp [go_sem]; done))
         refine (add_t b_a HL.out H19.out K19.out).mono ?_
         rintro _ w2 ⟨rfl, hB⟩
         refine ⟨_, rfl, ?_⟩
         have r4 := (show Row w2 (w.heap.size + 1) 177 (AQ (nL 0)) from by first | exact d4.below hB d4.lt | exact (d4.alloc _).below hB (d4.alloc _).lt)
         have hN2 := Lib.hid (show Below w.heap.size w w2 from by first | exact hB2.drew.trans (hB.mono hB2.size) | exact (hB2.drew.alloc hB2.size _).trans (hB.mono (by have := hB2.size; simp; omega)))
         have hl2 : W2.heap.size ≤ w2.heap.size := by have := hB.size; simp at this; omega
         (first
           | (have hz2 := (show Row w2 W2.heap.size 177 #[.int .u64 0, .int .u64 0, .int .u64 0, .int .u64 0] from by first | exact (Row.new W2.drew 177 #[.int .u64 0, .int .u64 0, .int .u64 0, .int .u64 0]).below hB (Row.new W2.drew 177 #[.int .u64 0, .int .u64 0, .int .u64 0, .int .u64 0]).lt)
              have hzl2 := hz2.lt)
           | skip)
         clear hB)
      | fail)
    all_goals
      go_wp2_with fail
      go_meet
      case rel =>
        first
          | exact ⟨w2.heap.size, rfl, rfl, hN2.out.size, (by have := r4.lt; omega), (Row.new _ _ _).setRow _, (r4.alloc _).setRowOther _ _ (by have := r4.lt; omega), bSetRow (hN2.out.alloc hN2.out.size _) hN2.out.size _⟩
          | exact ⟨W2.heap.size, rfl, rfl, hB2.size, (by omega), hz2.setRow _, r4.setRowOther _ _ (by omega), bSetRow hN2.out hB2.size _⟩
  case rest =>
    obtain ⟨g5, rfl, rfl, lb_g5, ne_4_g5, j_5, i3_4, hB3⟩ := hcut
    clear i2_3 i2_4 hB2 d3 d4 lt3 lt4
    clear hmm hm4 hms hml hmu
    go_upto_region 4 with (fail)
    refine at_world (fun W => Row W (w.heap.size + 1) 177 (AQ (nL 0)) ∧ Row W g5 177 (AQ (nL x19)) ∧ Below w.heap.size w W) (⟨i3_4, j_5, hB3⟩) ?_
    clear i3_4 j_5 hB3
    rintro W4 ⟨i4_4, i4_5, hB4⟩
    obtain ⟨x24, h24⟩ : ∃ x, x = hlf x19 c19 := ⟨_, rfl⟩
    have b_x24 : x24 < R256 := by rw [h24]; exact hlf_lt b_x19 d_c19
    have H24 := Lib.hid h24
    clear h24
    refine wp_region_num 3 [0, 1, 2] [] (fun _ => .cells #[] 0) (by kernel_rfl) (by kernel_rfl) (by kernel_rfl) (by kernel_rfl) ?hal ?h
    case hal =>
      intro k hk o ho
      cases hk
    case h =>
    apply Exists.intro
    refine ⟨fun R => ?_, ?_⟩
    · simp only [List.map_cons, List.map_nil, List.getD_cons_zero, List.getD_cons_succ]
      (go_big_quiet_want; apply qn_load at_num rfl rfl i4_5 (hp_num x19); (simp only [Act.put, lS]; go_big_quiet_on))
      (first | go_big_quiet_skip | (go_big_quiet_want; go_big_quiet_op; first | go_big_quiet_on | (refine ⟨_, fun _ _ => rfl, ?_⟩; go_big_quiet_on)))
      (go_big_quiet_want; refine qa_call _ _ ?_ _ (fun w' hb => half_x b_x19 d_c19 H24.out) ?_; (focus (intro w; simp [go_sem]; done)); (simp only [Act.put, lS]; go_big_quiet_on))
      exact wpQuiet_nil rfl
    · intro w2 hcc
      replace i4_4 := i4_4.below hcc.1 i4_4.lt
      replace i4_5 := i4_5.below hcc.1 i4_5.lt
      have hg_le : w.heap.size ≤ w2.heap.size := Nat.le_trans hB4.size hcc.1.size
      replace hB4 := hB4.trans (hcc.1.mono hB4.size)
      clear hcc hg_le
      have lt_4 := i4_4.lt
      go_wp2_with fail
      exact ret_row (by first | exact .inl rfl | exact .inr rfl) rfl ((w.heap.size + 1)) 177 (AQ (nL x24)) 4 _ rfl (i4_4.setRow _) Tryz.underlying177 rfl (by kernel_rfl) rfl ⟨by rw [H24.out, H19.out, K19.out, hlf_sum]; unfold halveM; rw [if_neg (by have := HPA.out; omega)], (bSetRow hB4 (by omega) _)⟩
theorem halve_x {w : World} {g m neg ri a x : Nat} (hM : ModW w g m neg ri) (ha : a < R256) (hx : x = halveM m a) : Calls Tryz.prog 148 #[.pointer (some ⟨g, 0, none⟩), .agg (AQ (nL a))] w fun e w' => e = .returned (.agg (AQ (nL x))) ∧ Below w.heap.size w w' := by
  subst hx
  rcases Nat.mod_two_eq_zero_or_one a with h | h
  · exact halve_even hM ha h
  · exact halve_odd hM ha h
end Go.Proofs.YtjpfhhndjpdmoaaGreatDoor

namespace Go.Proofs.YtjpfhhndjpdmoaaGreatDoor
open Go.RowKit
set_option linter.unusedVariables false
set_option linter.unusedSimpArgs false

def invN (m0 : Nat) : Nat → Nat
  | 0 => 1
  | k + 1 => invN m0 k * ((18446744073709551618 - m0 * invN m0 k % 18446744073709551616) % 18446744073709551616) % 18446744073709551616
def negN (m : Nat) : Nat := (18446744073709551616 - invN (lim m 0) 6) % 18446744073709551616
theorem invN_lt (m0 k : Nat) : invN m0 k < 18446744073709551616 := by
  cases k with
  | zero => show 1 < 18446744073709551616; decide
  | succ k => exact Nat.mod_lt _ (by decide)
theorem invN_run (m0 v : Nat) : IntKind.u64.wrap ((m0 : Int) * (v : Int)) = ((m0 * v % 18446744073709551616 : Nat) : Int) ∧ IntKind.u64.wrap ((2 : Int) - ((m0 * v % 18446744073709551616 : Nat) : Int)) = (((18446744073709551618 - m0 * v % 18446744073709551616) % 18446744073709551616 : Nat) : Int) := by
  constructor
  · rw [IntKind.wrap_u64]; simp
  · rw [IntKind.wrap_u64]
    have := Nat.mod_lt (m0 * v) (show 0 < 18446744073709551616 by decide)
    generalize m0 * v % 18446744073709551616 = p at this ⊢
    omega
def mdL (m neg one two : Nat) : List Nat := nL m ++ ([neg] ++ (nL one ++ nL two))
def mdC (m neg one two : Nat) : Array Value := AQ (mdL m neg one two)
theorem mdC_all (m neg : Nat) : mdC m neg (R256 % m) (R256 * R256 % m) = modC m neg := rfl
theorem mdC_m (m neg one two : Nat) : sub (mdC m neg one two) 0 4 = AQ (nL m) := by unfold mdC mdL sub AQ; rfl
theorem mdC_neg (m neg : Nat) : (mdC m 0 0 0).setIfInBounds 4 (Q neg) = mdC m neg 0 0 := by unfold mdC; rw [AQ_set]; rfl
theorem mdC_one (m neg x : Nat) : over (mdC m neg 0 0) 5 (AQ (nL x)) = mdC m neg x 0 := by unfold mdC mdL over AQ; rfl
theorem mdC_two (m neg x y : Nat) : over (mdC m neg x 0) 9 (AQ (nL y)) = mdC m neg x y := by unfold mdC mdL over AQ; rfl
def mdI (m neg i : Nat) : Array Value := mdC m neg (if 256 < i then R256 % m else 0) 0
theorem mdI_R {w : World} {g m neg i : Nat} (h : Row w g 260 (mdI m neg i)) (hm : m < R256) : ModR w g m (mdI m neg i) := ⟨h, rfl, mdC_m _ _ _ _, hm⟩
theorem pow_mod_succ (m i : Nat) (hm : 0 < m) : shrS m ((2 ^ i % m + 2 ^ i % m) % R256 + (2 ^ i % m + 2 ^ i % m) / R256 * R256) = 2 ^ (i + 1) % m := by
  have hl := Nat.mod_lt (2 ^ i) hm
  rw [Nat.mul_comm _ R256, Nat.mod_add_div, shr_sum hl hl, ← Nat.add_mod, Nat.pow_succ, Nat.mul_two]
theorem new_pow256 : R256 = 2 ^ 256 := by decide
theorem new_pow512 : R256 * R256 = 2 ^ 512 := by
  have h := Nat.pow_add 2 256 256
  rw [show 256 + 256 = 512 from rfl] at h
  rw [new_pow256, h]
theorem Row.newE (w : World) (g : Nat) (t : TypeId) (X Y : Array Value) (hg : g = w.heap.size) (h : X = Y) : Row (w.alloc (.cells X t)) g t Y := by subst h; exact Row.newAt _ _ _ _ hg
theorem mdI_low {m neg i : Nat} (h : i ≤ 256) : mdI m neg i = mdC m neg 0 0 := by unfold mdI; rw [if_neg (by omega)]
theorem mdI_high {m neg i : Nat} (h : 256 < i) : mdI m neg i = mdC m neg (R256 % m) 0 := by unfold mdI; rw [if_pos h]
theorem neg_run (v m : Nat) (hv : v < 18446744073709551616) (h : (18446744073709551616 - v) % 18446744073709551616 = m) : IntKind.u64.wrap (-(v : Int)) = (m : Int) := by rw [IntKind.wrap_u64]; omega
theorem shrink_x {w : World} {g m a ov x : Nat} {C : Array Value} (hM : ModR w g m C) (ha : a < R256) (hov : ov ≤ 1) (hT : a + ov * R256 < 2 * m) (hx : x = shrS m (a + ov * R256)) :
    Calls Tryz.prog 152 #[.pointer (some ⟨g, 0, none⟩), .agg (AQ (nL a)), Q ov] w fun e w' => e = .returned (.agg (AQ (nL x))) ∧ Below w.heap.size w w' := by
  subst hx; exact shrink_row w g m a ov C hM ha hov hT
theorem shrink_1 {w : World} {g m : Nat} {C : Array Value} (hM : ModR w g m C) (h1 : 1 < m) :
    Calls Tryz.prog 152 #[.pointer (some ⟨g, 0, none⟩), .agg #[.int .u64 1, .int .u64 0, .int .u64 0, .int .u64 0], .int .u64 0] w fun e w' => e = .returned (.agg (AQ (nL 1))) ∧ Below w.heap.size w w' := by
  rw [one4n]
  have := shrink_row w g m 1 0 C hM (by decide) (by decide) (by omega)
  rw [show shrS m (1 + 0 * R256) = 1 by unfold shrS; rw [Nat.zero_mul, Nat.add_zero, if_pos h1]] at this
  exact this
set_option maxRecDepth 100000 in
set_option maxHeartbeats 4000000 in
theorem new_any (w : World) (m ri : Nat) (hm : m < R256) (hodd : m % 2 = 1) (h1 : ¬ m = 1) (md : MdS m (negN m) ri) :
    Calls Tryz.prog 143 #[.agg (AQ (nL m))] w fun e w' => ∃ g, e = .returned (.tuple #[.pointer (some ⟨g, 0, none⟩), .int .i64 0]) ∧ ModW w' g m (negN m) ri ∧ w.heap.size ≤ g ∧ Below w.heap.size w w' := by
  obtain ⟨m0, hm0⟩ : ∃ x, x = lim m 0 := ⟨_, rfl⟩
  have f1 : bits .and .u64 (m0 : Int) 1 = 1 := by have := ba_one m0 (by rw [hm0]; exact lim_lt _ _); rw [this, hm0, lim0_even, hodd]; rfl
  have HM := Lib.hid (⟨hm, hm0, md⟩ : _ ∧ _ ∧ _)
  have H1 := Lib.hid (show 1 < m by omega)
  have en1 := equal_num1 m hm
  clear hm hodd md hm0
  go_enter Tryz.func143, Tryz.ntmps143
  go_upto_region 1 with (fail)
  refine at_world (fun W => Row W w.heap.size 177 (AQ (nL m)) ∧ W.heap.size = w.heap.size + 1 ∧ Below w.heap.size w W) ⟨Row.newAt _ _ _ _ rfl, by simp, (Below.refl _ w).alloc (Nat.le_refl _) _⟩ ?_
  rintro W1 ⟨i1, hs, hB⟩
  have HS := Lib.hid hs
  have c0 : W1.cell? ⟨w.heap.size, 0, none⟩ = some (Q m0) := by rw [i1.cell, HM.out.2.1]; rfl
  clear hs
  have en2 : (W1.heap.size) = w.heap.size + 1 := HS.out
  have HEN := Lib.hid en2
  clear en2
  go_upto_region 4 with (fail)
  obtain ⟨g, hg⟩ : ∃ q_, q_ = W1.heap.size := ⟨_, rfl⟩
  refine at_world (fun W => Row W w.heap.size 177 (AQ (nL m)) ∧ Row W g 260 (mdC m 0 0 0) ∧ Below w.heap.size w W) ⟨i1.alloc _, Row.newE _ _ _ _ _ hg (by kernel_rfl), hB.alloc (by have := HS.out; omega) _⟩ ?_
  rintro W2 ⟨r1, rm, hB2⟩
  rw [← hg]
  have HG := Lib.hid (show w.heap.size ≤ g ∧ w.heap.size ≠ g by have := HS.out; omega)
  have c0 : W2.cell? ⟨w.heap.size, 0, none⟩ = some (Q m0) := by rw [r1.cell, HM.out.2.1]; rfl
  clear hg i1 hB HS en1 f1
  (try clear c0_1)
  go_wp2_with fail
  go_loopg [5, 22] 6 (fun gk t5 t22 wr => ∃ k : Nat, gk + k = 6 ∧ t5 = Q (invN m0 k) ∧ t22 = .int .i64 (k : Int) ∧ wr = W2)
  case atStart => exact ⟨0, rfl, rfl, rfl, rfl⟩
  case round =>
    obtain ⟨k, hk, rfl, rfl, hwr⟩ := hrel
    subst hwr
    by_cases h6 : k < 6
    · have k1 : (k : Int) < 6 := by omega
      have k0 : (0 : Int) ≤ (k : Int) := by omega
      obtain ⟨v, hv⟩ : ∃ v, v = invN m0 k := ⟨_, rfl⟩
      obtain ⟨e1, e2⟩ := invN_run m0 v
      obtain ⟨p, hp⟩ : ∃ p, p = m0 * v % 18446744073709551616 := ⟨_, rfl⟩
      obtain ⟨q, hq⟩ : ∃ q, q = (18446744073709551618 - p) % 18446744073709551616 := ⟨_, rfl⟩
      rw [← hp] at e1 e2
      rw [← hq] at e2
      obtain ⟨u, hu⟩ : ∃ u, u = v * q % 18446744073709551616 := ⟨_, rfl⟩
      have e3 : IntKind.u64.wrap ((v : Int) * (q : Int)) = (u : Int) := by rw [IntKind.wrap_u64, hu]; simp
      have e1' : ((m0 : Int) * (v : Int)) % 18446744073709551616 = (p : Int) := by rw [hp]; simp
      have e2' : ((2 : Int) - (p : Int)) % 18446744073709551616 = (q : Int) := by rw [← e2, IntKind.wrap_u64]
      have e3' : ((v : Int) * (q : Int)) % 18446744073709551616 = (u : Int) := by rw [hu]; simp
      have HU := Lib.hid (show u = invN m0 (k + 1) by rw [hu, hq, hp, hv]; rfl)
      have HK := Lib.hid hk
      rw [← hv]
      clear hv hp hq hu hk h6
      go_wp2_with fail
      go_roundg (gk - 1)
      case measure => have := HK.out; omega
      case rel => exact ⟨k + 1, by have := HK.out; omega, by rw [← HU.out], by go_num, rfl⟩
    · obtain rfl : k = 6 := by omega
      have k1 : ¬ ((6 : Nat) : Int) < 6 := by omega
      obtain ⟨v, hv⟩ : ∃ v, v = invN m0 6 := ⟨_, rfl⟩
      obtain ⟨neg, hneg⟩ : ∃ n, n = negN m := ⟨_, rfl⟩
      have en : IntKind.u64.wrap (-(v : Int)) = (neg : Int) := neg_run v neg (by rw [hv]; exact invN_lt _ _) (by rw [hneg, hv, HM.out.2.1]; rfl)
      have en' : (-(v : Int)) % 18446744073709551616 = (neg : Int) := by rw [← en, IntKind.wrap_u64]
      rw [← hv]
      have HNG := Lib.hid hneg
      clear hv hneg hk h6
      have fm : wr.frozen? ⟨g, 4, none⟩ = false := rm.frozen 4
      have sm : (mdC m 0 0 0).size = 13 := rfl
      have lm := rm.lt
      go_upto_region 10 with (fail)
      refine at_world (fun W => Row W g 260 (mdI m neg 0) ∧ Below w.heap.size w W) ⟨by rw [mdI_low (by decide), ← mdC_neg]; exact rm.set 4 (Q neg), hB2.setCell (by have := HG.out; simp; omega) _⟩ ?_
      clear fm sm lm rm r1 hB2 c0
      rintro W3 ⟨rm, hB⟩
      refine wp_region_lex 3 ?_
      simp only [List.take_succ_cons, List.take_zero, List.drop_succ_cons, List.drop_zero]
      (first | go_big_quiet_skip | (go_big_quiet_want; go_big_quiet_op; first | go_big_quiet_on | (refine ⟨_, fun _ _ => rfl, ?_⟩; go_big_quiet_on)))
      (first | go_big_quiet_skip | (go_big_quiet_want; go_big_quiet_op; first | go_big_quiet_on | (refine ⟨_, fun _ _ => rfl, ?_⟩; go_big_quiet_on)))
      (go_big_quiet_want; refine qa_call _ _ ?_ _ (fun w' hb => shrink_1 (mdI_R (rm.below hb rm.lt) HM.out.1) H1.out) ?_; (focus (intro w; simp [go_sem]; done)); (simp only [Act.put, lS]; go_big_quiet_on))
      refine wpQuiet_nil ?_
      intro V hcc
      replace rm := rm.below hcc.1 rm.lt
      replace hB := hB.trans (hcc.1.mono hB.size)
      clear hcc
      go_upto_region 11 with (fail)
      obtain ⟨g6, hg6⟩ : ∃ q_, q_ = V.heap.size := ⟨_, rfl⟩
      rw [← hg6]
      refine at_world (fun W => Row W g6 177 (AQ (nL (2 ^ 0 % m))) ∧ Row W g 260 (mdI m neg 0) ∧ Below w.heap.size w W) ⟨by rw [Nat.pow_zero, Nat.mod_eq_of_lt H1.out]; exact (rowZ _ _ _ hg6).setRow _, (rm.alloc _).setRowOther _ _ (by have := rm.lt; omega), bSetRow (hB.alloc hB.size _) (by have := hB.size; omega) _⟩ ?_
      have HG6 := Lib.hid (show w.heap.size ≤ g6 ∧ g ≠ g6 by have := hB.size; have := rm.lt; omega)
      clear hg6 rm hB
      rintro W4 ⟨r6, rm, hB⟩
      go_wp2_with fail
      go_loopg [40] 512 (fun gk t40 wr => ∃ i : Nat, gk + i = 512 ∧ t40 = .int .i64 (i : Int) ∧ Row wr g6 177 (AQ (nL (2 ^ i % m))) ∧ Row wr g 260 (mdI m neg i) ∧ Below w.heap.size w wr)
      case atStart => exact ⟨0, rfl, rfl, r6, rm, hB⟩
      case round =>
        clear r6 rm hB
        obtain ⟨i, hi, rfl, r6, rm, hB⟩ := hrel
        by_cases h512 : i < 512
        · have i1 : (i : Int) < 512 := by omega
          have i0 : (0 : Int) ≤ (i : Int) := by omega
          have hpos : 0 < m := by have := H1.out; omega
          obtain ⟨r, hr⟩ : ∃ r, r = 2 ^ i % m := ⟨_, rfl⟩
          have br : r < R256 := by rw [hr]; exact Nat.lt_trans (Nat.mod_lt _ hpos) HM.out.1
          have hrm : r < m := by rw [hr]; exact Nat.mod_lt _ hpos
          have hst := pow_mod_succ m i hpos
          rw [← hr] at r6 hst
          obtain ⟨x52, h52⟩ : ∃ q_, q_ = (r + r) % R256 := ⟨_, rfl⟩
          obtain ⟨c52, k52⟩ : ∃ q_, q_ = (r + r) / R256 := ⟨_, rfl⟩
          have b52 : x52 < R256 := by rw [h52]; exact Nat.mod_lt _ (by decide)
          have d52 : c52 ≤ 1 := by rw [k52]; exact sum_top br br
          have t52 : x52 + c52 * R256 < 2 * m := by rw [h52, k52, Nat.mul_comm, Nat.mod_add_div]; omega
          rw [← h52, ← k52] at hst
          have H52 := Lib.hid (⟨h52, k52, hst.symm, b52, d52, t52⟩ : _ ∧ _ ∧ _ ∧ _ ∧ _ ∧ _)
          have HI := Lib.hid hi
          have HR := Lib.hid (⟨hr, br⟩ : _ ∧ _)
          clear h52 k52 hst b52 d52 t52 hi h512 hpos hrm br
          obtain ⟨i', hi'⟩ : ∃ j : Int, j = (i : Int) := ⟨_, rfl⟩
          have sm : (mdI m neg i).size = 13 := rfl
          have lm := rm.lt
          rcases Decidable.em (i = 256) with h256 | h256
          all_goals
            (first | (have ht : ((i : Int) == 256) = true := by rw [h256]; rfl) | (have ht : ((i : Int) == 256) = false := by simp; omega))
            have HT := Lib.hid h256
            clear h256 hi' i'
            go_upto_region 16 with (fail)
            refine at_world (fun W => Row W g6 177 (AQ (nL r)) ∧ Row W g 260 (mdI m neg (i + 1)) ∧ Below w.heap.size w W) ?hw ?go
            case hw =>
              first
                | (refine ⟨r6, ?_, hB⟩
                   have e : mdI m neg (i + 1) = mdI m neg i := by
                     unfold mdI
                     by_cases h : 256 < i
                     · rw [if_pos h, if_pos (by omega)]
                     · rw [if_neg h, if_neg (by have := HT.out; omega)]
                   rw [e]
                   exact rm)
                | (refine ⟨r6.setRowOther _ _ (by have := HG6.out; omega), ?_, bSetRow hB (by have := HG.out; omega) _⟩
                   have e : mdI m neg (i + 1) = over (mdI m neg i) 5 (AQ (nL r)) := by
                     rw [mdI_high (i := i + 1) (by have := HT.out; omega), mdI_low (i := i) (by have := HT.out; omega), mdC_one]
                     have h2 : R256 % m = r := by rw [HR.out.1, HT.out, new_pow256]
                     rw [h2]
                   rw [e]
                   first | exact rm.setRow _ | (rw [HR.out.1]; exact rm.setRow _))
            case go =>
            clear r6 rm hB sm lm
            rintro W5 ⟨r6, rm, hB⟩
            refine wp_region_lex 6 ?_
            simp only [List.take_succ_cons, List.take_zero, List.drop_succ_cons, List.drop_zero]
            (go_big_quiet_want; apply qn_load at_num rfl rfl r6 (hp_num r); (simp only [Act.put, lS]; go_big_quiet_on))
            (go_big_quiet_want; apply qn_load at_num rfl rfl r6 (hp_num r); (simp only [Act.put, lS]; go_big_quiet_on))
            (go_big_quiet_want; refine qa_call _ _ ?_ _ (fun w' hb => add_t HR.out.2 HR.out.2 H52.out.1 H52.out.2.1) ?_; (focus (intro w; simp [go_sem]; done)); (simp only [Act.put, lS]; go_big_quiet_on))
            (first | go_big_quiet_skip | (go_big_quiet_want; go_big_quiet_op; first | go_big_quiet_on | (refine ⟨_, fun _ _ => rfl, ?_⟩; go_big_quiet_on)))
            (first | go_big_quiet_skip | (go_big_quiet_want; go_big_quiet_op; first | go_big_quiet_on | (refine ⟨_, fun _ _ => rfl, ?_⟩; go_big_quiet_on)))
            (first | go_big_quiet_skip | (go_big_quiet_want; go_big_quiet_op; first | go_big_quiet_on | (refine ⟨_, fun _ _ => rfl, ?_⟩; go_big_quiet_on)))
            refine wpQuiet_nil ?_
            intro V2 hcc
            replace r6 := r6.below hcc.1 r6.lt
            replace rm := rm.below hcc.1 rm.lt
            replace hB := hB.trans (hcc.1.mono hB.size)
            clear hcc
            go_upto_region 17 with (fail)
            obtain ⟨g8, hg8⟩ : ∃ q_, q_ = V2.heap.size := ⟨_, rfl⟩
            rw [← hg8]
            refine at_world (fun W => Row W g8 177 (AQ (nL x52)) ∧ Row W g6 177 (AQ (nL r)) ∧ Row W g 260 (mdI m neg (i + 1)) ∧ Below w.heap.size w W) ⟨(rowZ _ _ _ hg8).setRow _, (r6.alloc _).setRowOther _ _ (by have := r6.lt; omega), (rm.alloc _).setRowOther _ _ (by have := rm.lt; omega), bSetRow (hB.alloc hB.size _) (by have := hB.size; omega) _⟩ ?_
            clear hg8 r6 rm hB
            rintro W6 ⟨r8, r6, rm, hB⟩
            refine wp_region_lex 4 ?_
            simp only [List.take_succ_cons, List.take_zero, List.drop_succ_cons, List.drop_zero]
            (first | go_big_quiet_skip | (go_big_quiet_want; go_big_quiet_op; first | go_big_quiet_on | (refine ⟨_, fun _ _ => rfl, ?_⟩; go_big_quiet_on)))
            (go_big_quiet_want; apply qn_load at_num rfl rfl r8 (hp_num x52); (simp only [Act.put, lS]; go_big_quiet_on))
            (first | go_big_quiet_skip | (go_big_quiet_want; go_big_quiet_op; first | go_big_quiet_on | (refine ⟨_, fun _ _ => rfl, ?_⟩; go_big_quiet_on)))
            (go_big_quiet_want; refine qa_call _ _ ?_ _ (fun w' hb => shrink_x (mdI_R (rm.below hb rm.lt) HM.out.1) H52.out.2.2.2.1 H52.out.2.2.2.2.1 H52.out.2.2.2.2.2 H52.out.2.2.1) ?_; (focus (intro w; simp [go_sem]; done)); (simp only [Act.put, lS]; go_big_quiet_on))
            refine wpQuiet_nil ?_
            intro V3 hcc
            replace r6 := r6.below hcc.1 r6.lt
            replace rm := rm.below hcc.1 rm.lt
            replace hB := hB.trans (hcc.1.mono hB.size)
            clear hcc r8
            have l6 := r6.lt
            go_wp2_with fail
            go_roundg (gk - 1)
            case measure => have := HI.out; omega
            case rel => exact ⟨i + 1, by have := HI.out; omega, by go_num, r6.setRow _, rm.setRowOther _ _ (by have := HG6.out; omega), bSetRow hB (by have := HG6.out; omega) _⟩
        · obtain rfl : i = 512 := by omega
          have i1 : ¬ ((512 : Nat) : Int) < 512 := by omega
          obtain ⟨r, hr⟩ : ∃ r, r = 2 ^ 512 % m := ⟨_, rfl⟩
          rw [← hr] at r6
          have HR := Lib.hid hr
          rw [mdI_high (by decide)] at rm
          have sm : (mdC m neg (R256 % m) 0).size = 13 := rfl
          have lm := rm.lt
          have ov := mdC_two m neg (R256 % m) r
          have on1 := AQ_one (nL r)
          clear hr hi h512
          go_wp2_with fail
          go_ret2
          exact ⟨g, rfl, ⟨by rw [← HNG.out, ← mdC_all, new_pow512, ← HR.out]; exact rm.setRow _, HM.out.2.2⟩, HG.out.1, bSetRow hB HG.out.1 _⟩
end Go.Proofs.YtjpfhhndjpdmoaaGreatDoor
