/- Part of the proof: MontB, Mul64, RedLaw. No conditions of its own. -/
import Derived.BigQuiet
import Derived.Deep.CutBlock
import Derived.Deep.DeepCutAuto
import Derived.Deep.LoopGhost
import Derived.Deep.Quiet
import Derived.Deep.QuietTactic
import Derived.Deep.RegionLaw
import Derived.Lib.Hide
import Derived.Shelf.Spec.BitsCarry
import Derived.StillTail
import Derived.Test.YtjpfhhndjpdmoaaGreatDoorRows
import Derived.WalkKit
import Derived.Test.YtjpfhhndjpdmoaaGreatDoorK13
import Derived.Shelf.Bits.Mul64
namespace Go.Proofs.YtjpfhhndjpdmoaaGreatDoor
open Go.RowKit
set_option linter.unusedVariables false
set_option linter.unusedSimpArgs false

theorem wp_callQ {o : Oper} {a : Act} {w : World} {K : Act → World → Prop} {Q : Exit → Act → World → Prop} (f : FuncId) (args : Array Value) (hrun : (execOp a.eval o).run Tryz.prog w = .ok (.enter f args) w) (hc : Calls Tryz.prog f args w fun e w' => ∃ v, e = .returned v ∧ K (a.put o.dst v) w') : o.wp Tryz.prog a w K Q := by
  unfold Oper.wp
  rw [hrun, Oper.upon_enter]
  refine hc.mono ?_
  rintro e w' ⟨v, rfl, h⟩
  exact h
def modL (m neg : Nat) : List Nat := nL m ++ ([neg] ++ (nL (R256 % m) ++ nL (R256 * R256 % m)))
def modC (m neg : Nat) : Array Value := AQ (modL m neg)
theorem modC_size (m neg : Nat) : (modC m neg).size = 13 := rfl
theorem modC_m (m neg : Nat) : sub (modC m neg) 0 4 = AQ (nL m) := by
  unfold modC modL sub AQ
  rfl
theorem modC_two (m neg : Nat) : sub (modC m neg) 9 4 = AQ (nL (R256 * R256 % m)) := by
  unfold modC modL sub AQ
  rfl
structure ModW (w : World) (g m neg ri : Nat) : Prop where
  row : Row w g 260 (modC m neg)
  md : MdS m neg ri
theorem ModW.below {w w' : World} {g m neg ri : Nat} (h : ModW w g m neg ri) (hb : Below w.heap.size w w') : ModW w' g m neg ri := ⟨h.row.below hb h.row.lt, h.md⟩
theorem shr_low {m a ov : Nat} (hm : m < R256) (ha : a < R256) (hov : ov ≤ 1) (h : a + ov * R256 < m) : ov = 0 ∧ a < m ∧ shrS m (a + ov * R256) = a := by
  have : ov = 0 := by
    rcases Nat.eq_zero_or_pos ov with h0 | h0
    · exact h0
    · obtain rfl : ov = 1 := by omega
      omega
  subst this
  rw [Nat.zero_mul, Nat.add_zero] at h ⊢
  exact ⟨rfl, h, by unfold shrS; rw [if_pos h]⟩
theorem shr_high {m a ov : Nat} (hm : m < R256) (ha : a < R256) (hov : ov ≤ 1) (h2 : a + ov * R256 < 2 * m) (h : ¬ a + ov * R256 < m) : (ov = 1 ∨ ¬ a < m) ∧ nL (a + R256 - m) = nL (shrS m (a + ov * R256)) := by
  have hs : shrS m (a + ov * R256) = a + ov * R256 - m := by unfold shrS; rw [if_neg h]
  rcases Nat.eq_zero_or_pos ov with h0 | h0
  · subst h0
    rw [Nat.zero_mul, Nat.add_zero] at h hs ⊢
    refine ⟨.inr h, ?_⟩
    rw [hs, ← nL_mod (a + R256 - m), show a + R256 - m = (a - m) + R256 by omega, Nat.add_mod_right, nL_mod]
  · obtain rfl : ov = 1 := by omega
    rw [Nat.one_mul] at hs ⊢
    exact ⟨.inl rfl, by rw [hs]⟩
structure ModR (w : World) (g m : Nat) (C : Array Value) : Prop where
  row : Row w g 260 C
  sz : C.size = 13
  mm : sub C 0 4 = AQ (nL m)
  low : m < R256
theorem ModR.below {w w' : World} {g m : Nat} {C : Array Value} (h : ModR w g m C) (hb : Below w.heap.size w w') : ModR w' g m C := ⟨h.row.below hb h.row.lt, h.sz, h.mm, h.low⟩
set_option maxRecDepth 100000 in
set_option maxHeartbeats 4000000 in
theorem shrink_row (w : World) (g m a ov : Nat) (C : Array Value) (hM : ModR w g m C) (ha : a < R256) (hov : ov ≤ 1) (hT : a + ov * R256 < 2 * m) :
    Calls Tryz.prog 152 #[.pointer (some ⟨g, 0, none⟩), .agg (AQ (nL a)), Q ov] w fun e w' => e = .returned (.agg (AQ (nL (shrS m (a + ov * R256))))) ∧ Below w.heap.size w w' := by
  have s1 := nL_size a
  have s2 := sub_nL a
  have s3 := hM.sz
  have s4 := hM.mm
  have HM := Lib.hid hM
  have HLT := Lib.hid hM.row.lt
  have HC := Lib.hid (fun W => nsub_any W a m hM.low)
  have HF := Lib.hid (boS_four a m ha hM.low)
  have HV := Lib.hid (⟨hM.low, ha, hov, hT⟩ : _ ∧ _ ∧ _ ∧ _)
  obtain ⟨e, he⟩ : ∃ e, e = boS a m 4 := ⟨_, rfl⟩
  obtain ⟨s, hs⟩ : ∃ s, s = a + R256 - m := ⟨_, rfl⟩
  rw [← he] at HC HF
  rw [← hs] at HC
  have HS := Lib.hid hs
  have q1 := AQ_one (nL s)
  have q2 := nL_size s
  have q3 := sub_nL s
  have q4 := AQ_one (nL a)
  have q5 := over_nL #[.int .u64 0, .int .u64 0, .int .u64 0, .int .u64 0] s rfl
  have z44 : 0 + 4 ≤ (AQ (nL a)).size := by rw [s1]; decide
  clear hM ha hov hT he hs
  go_enter Tryz.func152, Tryz.ntmps152
  go_upto_region 1 with (fail)
  obtain ⟨w0, hw0⟩ : ∃ W, W = (w.alloc (.cells (AQ (nL a)) 177)).alloc (.cells #[.int .u64 0, .int .u64 0, .int .u64 0, .int .u64 0] 177) := ⟨_, rfl⟩
  rw [← hw0]
  have HR := Lib.hid (show Row w0 w.heap.size 177 (AQ (nL a)) ∧ RowN w0 (w.heap.size + 1) 177 4 ∧ Below w.heap.size w w0 from by
    rw [hw0]
    exact ⟨(Row.new _ _ _).alloc _, RowN.newAt _ _ _ _ (by simp), ((Below.refl _ w).alloc (Nat.le_refl _) _).alloc (by simp) _⟩)
  clear hw0
  have hra0 := HR.out.1
  have hrm0 := (HM.out.below HR.out.2.2).row
  have hra := HR.out.1.drew
  have hla : w.heap.size < w0.heap.size := HR.out.1.lt
  have hrm := (HM.out.below HR.out.2.2).row.drew
  have hlm : g < w0.heap.size := (HM.out.below HR.out.2.2).row.lt
  go_cut [7, 8] (fun t7 t8 wx => ∃ g7, t7 = .pointer (some ⟨g7, 0, none⟩) ∧ t8 = Q e ∧ Row wx g7 177 (AQ (nL s)) ∧ Row wx w.heap.size 177 (AQ (nL a)) ∧ RowN wx (w.heap.size + 1) 177 4 ∧ Below w.heap.size w wx)
  case first =>
    go_region_law (first
      | (refine wp_callQ 149 #[.agg (AQ (nL a)), .agg (AQ (nL m))] ?_ ?_
         (focus (simp [go_sem]; done))
         refine (HC.out _).mono ?_
         rintro _ w2 ⟨rfl, hB⟩
         refine ⟨_, rfl, ?_⟩
         have hra2 := (show Row w2 w.heap.size 177 (AQ (nL a)) from by first | exact hra.below hB hra.lt | exact (hra.alloc _).below hB (hra.alloc _).lt | exact ((HR.out.1.alloc _).drew).below hB ((HR.out.1.alloc _).drew).lt)
         have HN2 := Lib.hid (show RowN w2 (w.heap.size + 1) 177 4 ∧ Below w.heap.size w w2 from by
           first
             | exact ⟨HR.out.2.1.drew.below hB HR.out.2.1.lt, HR.out.2.2.drew.trans (hB.mono HR.out.2.2.size)⟩
             | exact ⟨(HR.out.2.1.drew.alloc _).below hB (HR.out.2.1.drew.alloc _).lt, (HR.out.2.2.drew.alloc HR.out.2.2.size _).trans (hB.mono (by have := HR.out.2.2.size; simp; omega))⟩)
         (first
           | (have hz2 := (show Row w2 w0.heap.size 177 #[.int .u64 0, .int .u64 0, .int .u64 0, .int .u64 0] from by first | exact (Row.new w0.drew 177 #[.int .u64 0, .int .u64 0, .int .u64 0, .int .u64 0]).below hB (Row.new w0.drew 177 #[.int .u64 0, .int .u64 0, .int .u64 0, .int .u64 0]).lt | exact (Row.new w0 177 #[.int .u64 0, .int .u64 0, .int .u64 0, .int .u64 0]).drew.below hB (Row.new w0 177 #[.int .u64 0, .int .u64 0, .int .u64 0, .int .u64 0]).lt)
              have hzl2 := hz2.lt)
           | skip)
         clear hB)
      | fail)
    all_goals
      go_wp2_with fail
      go_meet
      case rel =>
        first
          | exact ⟨w2.heap.size, rfl, rfl, (Row.new _ _ _).setRow _, (hra2.alloc _).setRowOther _ _ (by have := hra2.lt; omega), (HN2.out.1.alloc _).setRowOther _ _ (by have := HN2.out.1.lt; omega), bSetRow (HN2.out.2.alloc HN2.out.2.size _) HN2.out.2.size _⟩
          | exact ⟨w0.heap.size, rfl, rfl, hz2.setRow _, hra2.setRowOther _ _ (by omega), HN2.out.1.setRowOther _ _ (by have := HR.out.2.1.lt; omega), bSetRow HN2.out.2 (by omega) _⟩
  case rest =>
    obtain ⟨g7, rfl, rfl, h7, hra3, hn3, hB3⟩ := hcut
    obtain ⟨z, hz, hzs⟩ := hn3
    have hl7 := h7.lt
    have hla3 := hra3.lt
    have hlz := hz.lt
    have HB3 := Lib.hid hB3
    have ov1 := over_nL z a hzs
    have ov2 := over_nL z s hzs
    clear hra hra0 hrm hrm0 hla hlm hB3 HR
    by_cases hlow : a + ov * R256 < m
    · obtain ⟨rfl, h2, h3⟩ := shr_low HV.out.1 HV.out.2.1 HV.out.2.2.1 hlow
      obtain rfl : e = 1 := by rw [HF.out, if_pos h2]
      have H3 := Lib.hid h3
      clear hlow h2 h3
      go_wp2_with fail
      exact ret_row (.inl rfl) rfl (w.heap.size + 1) _ _ 4 _ rfl (hz.setRow _) Tryz.underlying177 rfl (by kernel_rfl) s1 ⟨by rw [H3.out], bSetRow HB3.out (by omega) _⟩
    · obtain ⟨h2, h3⟩ := shr_high HV.out.1 HV.out.2.1 HV.out.2.2.1 HV.out.2.2.2 hlow
      rw [← HS.out] at h3
      have H3 := Lib.hid h3
      clear hlow h3
      rcases h2 with rfl | h2
      · go_wp2_with fail
        exact ret_row (.inl rfl) rfl (w.heap.size + 1) _ _ 4 _ rfl (hz.setRow _) Tryz.underlying177 rfl (by kernel_rfl) q2 ⟨by rw [← H3.out], bSetRow HB3.out (by omega) _⟩
      · obtain rfl : e = 0 := by rw [HF.out, if_neg h2]
        clear h2
        go_wp2_with fail
        all_goals exact ret_row (.inl rfl) rfl (w.heap.size + 1) _ _ 4 _ rfl (hz.setRow _) Tryz.underlying177 rfl (by kernel_rfl) q2 ⟨by rw [← H3.out], bSetRow HB3.out (by omega) _⟩
theorem shrink_any (w : World) (g m neg ri a ov : Nat) (hM : ModW w g m neg ri) (ha : a < R256) (hov : ov ≤ 1) (hT : a + ov * R256 < 2 * m) :
    Calls Tryz.prog 152 #[.pointer (some ⟨g, 0, none⟩), .agg (AQ (nL a)), Q ov] w fun e w' => e = .returned (.agg (AQ (nL (shrS m (a + ov * R256))))) ∧ Below w.heap.size w w' :=
  shrink_row w g m a ov _ ⟨hM.row, modC_size m neg, modC_m m neg, hM.md.low⟩ ha hov hT
end Go.Proofs.YtjpfhhndjpdmoaaGreatDoor

namespace Go.Proofs.YtjpfhhndjpdmoaaGreatDoor
open Go.RowKit Go.Lib
set_option linter.unusedVariables false
set_option linter.unusedSimpArgs false
set_option maxRecDepth 100000 in
set_option maxHeartbeats 1000000 in
theorem mul64_any (x y : Nat) (hx : x < 18446744073709551616) (hy : y < 18446744073709551616) (w : World) :
    Calls Tryz.prog 187 #[Q x, Q y] w fun e w' => e = .returned (.tuple #[Q (x * y / 18446744073709551616), Q (x * y % 18446744073709551616)]) ∧ w' = w := by
  obtain ⟨bd, bt, bw, hhi⟩ := Lib.mul64_hi x y hx hy
  have ba := Lib.half_mul_le (a := x / 4294967296) (b := y / 4294967296) (by omega) (by omega)
  have bb := Lib.half_mul_le (a := x / 4294967296) (b := y % 4294967296) (by omega) (by omega)
  have bc := Lib.half_mul_le (a := x % 4294967296) (b := y / 4294967296) (by omega) (by omega)
  have ba' : x / 4294967296 * (y / 4294967296) < 18446744073709551616 := by omega
  have bb' : x / 4294967296 * (y % 4294967296) < 18446744073709551616 := by omega
  have bc' : x % 4294967296 * (y / 4294967296) < 18446744073709551616 := by omega
  have bh1 : x / 4294967296 * (y / 4294967296) + (x / 4294967296 * (y % 4294967296) + x % 4294967296 * (y % 4294967296) / 4294967296) / 4294967296 < 18446744073709551616 := by omega
  have bh : x / 4294967296 * (y / 4294967296) + (x / 4294967296 * (y % 4294967296) + x % 4294967296 * (y % 4294967296) / 4294967296) / 4294967296 + ((x / 4294967296 * (y % 4294967296) + x % 4294967296 * (y % 4294967296) / 4294967296) % 4294967296 + x % 4294967296 * (y / 4294967296)) / 4294967296 < 18446744073709551616 := by omega
  go_enter Tryz.func187, Tryz.ntmps187
  go_wp2
  -- the walk's numbers, folded from the inside out: each step of the school method is a natural number that does not wrap
  simp only [Mul64.maskN x hx, Mul64.maskN y hy, Mul64.divN, Mul64.mulN, Mul64.addN, Mul64.wrapN _ bd, Mul64.wrapN _ bb', Mul64.wrapN _ bt, Mul64.maskN _ bt, Mul64.wrapN _ bc', Mul64.wrapN _ bw, Mul64.wrapN _ ba', Mul64.wrapN _ bh1, Mul64.wrapN _ bh, Mul64.wrapM (x * y)]
  rw [hhi]
  go_ret2
  exact ⟨rfl, rfl⟩
end Go.Proofs.YtjpfhhndjpdmoaaGreatDoor

namespace Go.Proofs.YtjpfhhndjpdmoaaGreatDoor
set_option linter.unusedVariables false

theorem addMul (P t c : Nat) : (((P % 18446744073709551616 + t) % 18446744073709551616 + c) % 18446744073709551616 = (P + t + c) % 18446744073709551616) ∧
    (P / 18446744073709551616 + (P % 18446744073709551616 + t) / 18446744073709551616 + ((P % 18446744073709551616 + t) % 18446744073709551616 + c) / 18446744073709551616 = (P + t + c) / 18446744073709551616) := by
  constructor <;> omega
theorem mul_max {x y : Nat} (hx : x < 18446744073709551616) (hy : y < 18446744073709551616) : x * y ≤ 340282366920938463426481119284349108225 := by
  have : x * y ≤ 18446744073709551615 * 18446744073709551615 := Nat.mul_le_mul (by omega) (by omega)
  exact this
theorem addMul_lt {x y t c : Nat} (hx : x < 18446744073709551616) (hy : y < 18446744073709551616) (ht : t < 18446744073709551616) (hc : c < 18446744073709551616) : (x * y + t + c) / 18446744073709551616 < 18446744073709551616 := by
  have h := mul_max hx hy
  rw [Nat.div_lt_iff_lt_mul (by decide)]
  have e : (18446744073709551616 : Nat) * 18446744073709551616 = 340282366920938463463374607431768211456 := rfl
  rw [e]
  omega
def caS (T x a i : Nat) : Nat := (T % pw i + x * (a % pw i)) / pw i
theorem caS_zero (T x a : Nat) : caS T x a 0 = 0 := by unfold caS; rw [pw0, Nat.mod_one, Nat.mod_one, Nat.mul_zero]
theorem caS_lt (T x a i : Nat) (hx : x < 18446744073709551616) : caS T x a i < 18446744073709551616 := by
  unfold caS
  have h := pw_pos i
  have h1 := Nat.mod_lt T h
  have h2 := Nat.mod_lt a h
  rw [Nat.div_lt_iff_lt_mul h]
  have h3 : x * (a % pw i) ≤ 18446744073709551615 * (pw i - 1) := Nat.mul_le_mul (by omega) (by omega)
  omega
theorem caS_step (T x a i : Nat) : (x * lim a i + lim T i + caS T x a i) % 18446744073709551616 = lim (T + x * a) i ∧ (x * lim a i + lim T i + caS T x a i) / 18446744073709551616 = caS T x a (i + 1) := by
  have h := pw_pos i
  have hT := mod_pw_succ T i
  have ha := mod_pw_succ a i
  obtain ⟨P, hP⟩ : ∃ P, P = pw i := ⟨_, rfl⟩
  obtain ⟨V, hV⟩ : ∃ V, V = T % P + x * (a % P) := ⟨_, rfl⟩
  have hca : caS T x a i = V / P := by rw [hV, hP]; rfl
  have hVd := Nat.div_add_mod V P
  have hr : V % P < P := Nat.mod_lt _ (by rw [hP]; exact h)
  rw [← hP] at h hT ha
  have hs : T % pw (i + 1) + x * (a % pw (i + 1)) = (x * lim a i + lim T i + V / P) * P + V % P := by
    rw [hT, ha, Nat.mul_add, Nat.add_mul, Nat.add_mul, ← Nat.mul_assoc x (lim a i) P, Nat.mul_comm (V / P) P]
    omega
  have hd : (T % pw (i + 1) + x * (a % pw (i + 1))) / P = x * lim a i + lim T i + V / P := by
    rw [hs, Nat.mul_comm _ P, Nat.mul_add_div h, Nat.div_eq_of_lt hr, Nat.add_zero]
  rw [hca]
  constructor
  · obtain ⟨M, hM⟩ : ∃ M, M = pw (i + 1) := ⟨_, rfl⟩
    have hMP : M = P * 18446744073709551616 := by rw [hM, pw_succ, hP]
    have h1 : (x * a) % M = (x * (a % M)) % M := by rw [Nat.mul_mod x a, Nat.mul_mod x (a % M), Nat.mod_mod]
    have e2 : (T + x * a) % M = (T % M + x * (a % M)) % M := by rw [Nat.add_mod, h1, Nat.add_mod_mod]
    rw [← hM] at hd
    have e3 : lim (T + x * a) i = (T + x * a) % M / P := by
      rw [lim_eq, ← hP, hMP, Nat.mod_mul_right_div_self]
    rw [e3, e2]
    have e4 : (T % M + x * (a % M)) % M / P = (T % M + x * (a % M)) / P % 18446744073709551616 := by
      conv => lhs; rw [hMP]
      rw [← hMP, hMP, Nat.mod_mul_right_div_self]
    rw [e4, hd]
  · have e : caS T x a (i + 1) = (T % pw (i + 1) + x * (a % pw (i + 1))) / P / 18446744073709551616 := by
      rw [Nat.div_div_eq_div_mul, hP, ← pw_succ]
      rfl
    rw [e, hd]
theorem caS_four (T x a : Nat) (ha : a < R256) : T / R256 + caS T x a 4 = (T + x * a) / R256 := by
  unfold caS
  rw [pw4, Nat.mod_eq_of_lt ha]
  have hd := Nat.div_add_mod T R256
  have e : T + x * a = R256 * (T / R256) + (T % R256 + x * a) := by omega
  conv => rhs; rw [e]
  rw [Nat.mul_add_div (by decide)]
def rowT (T v : Nat) : List Nat := [lim T 0, lim T 1, lim T 2, lim T 3, T / R256, v]
def row1 (S T v i : Nat) : List Nat := [if 0 < i then lim S 0 else lim T 0, if 1 < i then lim S 1 else lim T 1, if 2 < i then lim S 2 else lim T 2, if 3 < i then lim S 3 else lim T 3, T / R256, v]
theorem row1_step (S T v i : Nat) (h : i < 4) : (row1 S T v i).set i (lim S i) = row1 S T v (i + 1) := by
  have : i = 0 ∨ i = 1 ∨ i = 2 ∨ i = 3 := by omega
  rcases this with rfl | rfl | rfl | rfl <;> rfl
theorem row1_get (S T v i : Nat) (h : i < 4) : (row1 S T v i).getD i 0 = lim T i := by
  have : i = 0 ∨ i = 1 ∨ i = 2 ∨ i = 3 := by omega
  rcases this with rfl | rfl | rfl | rfl <;> rfl
def rowS (S : Nat) : List Nat := [lim S 0, lim S 1, lim S 2, lim S 3, S / R256 % 18446744073709551616, S / R256 / 18446744073709551616]
theorem row1_four (S T v : Nat) : ((row1 S T v 4).set 4 (S / R256 % 18446744073709551616)).set 5 (S / R256 / 18446744073709551616) = rowS S := rfl
def row2 (S W i : Nat) : List Nat := [if 1 < i then lim W 1 else lim S 0, if 2 < i then lim W 2 else lim S 1, if 3 < i then lim W 3 else lim S 2, lim S 3, S / R256 % 18446744073709551616, S / R256 / 18446744073709551616]
theorem row2_one (S W : Nat) : row2 S W 1 = rowS S := rfl
theorem row2_step (S W i : Nat) (h0 : 1 ≤ i) (h : i < 4) : (row2 S W i).set (i - 1) (lim W i) = row2 S W (i + 1) := by
  have : i = 1 ∨ i = 2 ∨ i = 3 := by omega
  rcases this with rfl | rfl | rfl <;> rfl
theorem row2_get (S W i : Nat) (h0 : 1 ≤ i) (h : i < 4) : (row2 S W i).getD i 0 = lim S i := by
  have : i = 1 ∨ i = 2 ∨ i = 3 := by omega
  rcases this with rfl | rfl | rfl <;> rfl
theorem lim_succ (W j : Nat) : lim (W / 18446744073709551616) j = lim W (j + 1) := by
  rw [lim_eq, lim_eq, Nat.div_div_eq_div_mul, pw_succ, Nat.mul_comm]
theorem row2_four (S W Y : Nat) (hY : Y = W / R256) : ((row2 S W 4).set 3 (Y % 18446744073709551616)).set 4 (Y / 18446744073709551616) = rowT (W / 18446744073709551616) (S / R256 / 18446744073709551616) := by
  unfold rowT
  rw [lim_succ, lim_succ, lim_succ]
  have e1 : lim (W / 18446744073709551616) 3 = Y % 18446744073709551616 := by rw [lim_succ, lim_eq, pw4, hY]
  have e2 : W / 18446744073709551616 / R256 = Y / 18446744073709551616 := by rw [hY, Nat.div_div_eq_div_mul, Nat.div_div_eq_div_mul, Nat.mul_comm]
  rw [e1, e2]
  rfl
theorem lim0_mod (S : Nat) : lim S 0 = S % 18446744073709551616 := by rw [lim_eq, pw0, Nat.div_one]
theorem S_high {T x a : Nat} (hT : T < 2 * R256) (hx : x < 18446744073709551616) (ha : a < R256) : (T + x * a) / R256 ≤ 18446744073709551616 := by
  have h : x * a ≤ 18446744073709551615 * R256 := Nat.mul_le_mul (by omega) (by omega)
  have : (T + x * a) / R256 < 18446744073709551617 := by
    rw [Nat.div_lt_iff_lt_mul (by decide)]
    omega
  omega
end Go.Proofs.YtjpfhhndjpdmoaaGreatDoor
