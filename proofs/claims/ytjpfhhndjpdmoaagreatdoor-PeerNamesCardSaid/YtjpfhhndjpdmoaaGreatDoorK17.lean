/- Part of the proof: MontA, MontB, Mul64. No conditions of its own. -/
import Derived.BigQuiet
import Derived.Deep.LoopGhost
import Derived.Deep.Quiet
import Derived.Deep.QuietTactic
import Derived.Deep.RegionLaw
import Derived.Lib.Hide
import Derived.Shelf.Spec.BitsCarry
import Derived.StillTail
import Derived.Test.YtjpfhhndjpdmoaaGreatDoorRows
import Derived.WalkKit
import Derived.Test.YtjpfhhndjpdmoaaGreatDoorK16
import Derived.Deep.CutBlock
import Derived.Deep.DeepCutAuto
import Derived.Shelf.Bits.Mul64
namespace Go.Proofs.YtjpfhhndjpdmoaaGreatDoor
open Go.RowKit
set_option linter.unusedVariables false
set_option linter.unusedSimpArgs false

theorem run_add64w (x y c : Nat) (hc : c ≤ 1) (w : World) : (callFunc 188 #[Q x, Q y, Q c]).run Tryz.prog w = .ok (.value (.tuple #[Q ((x + y + c) % 18446744073709551616), Q ((x + y + c) / 18446744073709551616)])) w := by
  rw [run_callFunc_extern Tryz.func188 (by kernel_rfl) (by kernel_rfl) (by kernel_rfl) (e := add64Entry) (by kernel_rfl), run_add64 x y c (by omega) (by omega) (by omega) (by omega)]
  simp only [Result.andThen]
  congr 5 <;> omega
theorem run_sub64w (x y b : Nat) (hb : b ≤ 1) (w : World) : (callFunc 189 #[Q x, Q y, Q b]).run Tryz.prog w = .ok (.value (.tuple #[Q ((x + 18446744073709551616 - y - b) % 18446744073709551616), Q (if x < y + b then 1 else 0)])) w := by
  rw [run_callFunc_extern Tryz.func189 (by kernel_rfl) (by kernel_rfl) (by kernel_rfl) (e := sub64Entry) (by kernel_rfl), run_sub64 x y b hb]
  rfl
theorem ret_rowT {P : Program} {fn : Func} {p q : Tmp} {ty : TypeId} {tmps : Array Value} {w : World} {R : Ending → World → Prop} {e : Exit} (he : e = .ret ∨ e = .normal) (h : fn.results = #[.cell p ty, .tmp q]) (g : Nat) (t : TypeId) (cs : Array Value) (n : Nat) (d : TypeDesc) (v : Value)
    (hp : tmps.getD p undef = .pointer (some ⟨g, 0, none⟩)) (hr : Row w g t cs) (hq : tmps.getD q undef = v)
    (hu : P.underlying ty = some d) (hd : (match d with | .struct _ | .array _ _ => true | _ => false) = true) (hi : (P.info? ty).map (·.size) = some n) (hn : cs.size = n)
    (hR : R (.returned (.tuple #[.agg cs, v])) w) : bodyPost P fn R e { tmps, defers := [] } w := by
  have hres : (results fn tmps).run P w = .ok (.tuple #[.agg cs, v]) w := by
    have hp' : tmps[p]?.getD undef = .pointer (some ⟨g, 0, none⟩) := by simpa using hp
    have hq' : tmps[q]?.getD undef = v := by simpa using hq
    simp [results, h, hp', hq', asAddr, run_loadVar_row w g t ty cs (0, 0) d hr.heap hu hd (by rw [hi, hn])]
  rcases he with rfl | rfl <;> exact ⟨rfl, _, hres, hR⟩
theorem Row.setQ {w : World} {b : Nat} {t : TypeId} {l : List Nat} (h : Row w b t (AQ l)) (i : Nat) (x : Nat) : Row (w.setCell ⟨b, i, none⟩ (Q x)) b t (AQ (l.set i x)) := by
  have := h.set i (Q x)
  rwa [AQ_set] at this
theorem nL_size (n : Nat) : (AQ (nL n)).size = 4 := rfl
theorem sub_nL (n : Nat) : sub (AQ (nL n)) 0 4 = AQ (nL n) := sub_all _ _ rfl
theorem over_nL (z : Array Value) (n : Nat) (h : z.size = 4) : over z 0 (AQ (nL n)) = AQ (nL n) := over_all _ _ h
theorem zer4 : AQ (nK 0 0) = #[.int .u64 0, .int .u64 0, .int .u64 0, .int .u64 0] := by kernel_rfl
theorem nK_any (n m : Nat) : nK n 0 = nK m 0 := rfl
structure AdSt (w wr : World) (a b s i : Nat) : Prop where
  r2 : Row wr w.heap.size 177 (AQ (nL a))
  r3 : Row wr (w.heap.size + 1) 177 (AQ (nL b))
  r4 : RowN wr (w.heap.size + 1 + 1) 177 4
  r6 : Row wr (w.heap.size + 1 + 1 + 1) 177 (AQ (nK s i))
  bel : Below w.heap.size w wr
set_option maxRecDepth 100000 in
set_option maxHeartbeats 4000000 in
theorem nadd_any (w : World) (a b : Nat) : Calls Tryz.prog 151 #[.agg (AQ (nL a)), .agg (AQ (nL b))] w fun e w' => e = .returned (.tuple #[.agg (AQ (nL (a + b))), Q (cyS a b 4)]) ∧ Below w.heap.size w w' := by
  have s1 := nL_size a
  have s2 := nL_size b
  obtain ⟨s, hs⟩ : ∃ s, s = (a + b) := ⟨_, rfl⟩
  rw [← hs]
  have HS := Lib.hid hs
  clear hs
  have HA0 := Lib.hid (show AdSt w ((((w.alloc (.cells (AQ (nL a)) 177)).alloc (.cells (AQ (nL b)) 177)).alloc (.cells #[.int .u64 0, .int .u64 0, .int .u64 0, .int .u64 0] 177)).alloc (.cells #[.int .u64 0, .int .u64 0, .int .u64 0, .int .u64 0] 177)) a b s 0 from
    ⟨((Row.new _ _ _).alloc _).alloc _ |>.alloc _, ((Row.newAt _ _ _ _ (by simp)).alloc _).alloc _, (RowN.newAt _ _ _ _ (by simp)).alloc _, by rw [nK_any s 0, zer4]; exact Row.newAt _ _ _ _ (by simp), ((((Below.refl _ w).alloc (Nat.le_refl _) _).alloc (by simp) _).alloc (by simp; omega) _).alloc (by simp; omega) _⟩)
  have hc0 : cyS a b 0 = 0 := cyS_zero a b
  go_enter Tryz.func151, Tryz.ntmps151
  go_wp2_with fail
  go_loopg [7, 9] 4 (fun gk t7 t9 wr => ∃ i : Nat, gk + i = 4 ∧ t7 = Q (cyS a b i) ∧ t9 = .int .i64 (i : Int) ∧ AdSt w wr a b s i)
  case atStart => exact ⟨0, rfl, by rw [hc0]; rfl, rfl, HA0.out⟩
  case round =>
    clear HA0 hc0
    obtain ⟨i, hi, rfl, rfl, hA⟩ := hrel
    by_cases h4 : i < 4
    · have i1 : (i : Int) < 4 := by omega
      have i0 : (0 : Int) ≤ (i : Int) := by omega
      have i2 : i < 4 := h4
      have cA : wr.drew.cell? ⟨w.heap.size, i, none⟩ = some (Q (lim a i)) := by rw [hA.r2.drew.cell, AQ_get _ _ h4, nL_get _ _ h4]
      have cB : wr.drew.cell? ⟨w.heap.size + 1, i, none⟩ = some (Q (lim b i)) := by rw [hA.r3.drew.cell, AQ_get _ _ h4, nL_get _ _ h4]
      obtain ⟨x, hx⟩ : ∃ x, x = lim a i := ⟨_, rfl⟩
      obtain ⟨y, hy⟩ : ∃ x, x = lim b i := ⟨_, rfl⟩
      obtain ⟨c, hc⟩ : ∃ x, x = cyS a b i := ⟨_, rfl⟩
      obtain ⟨z, hz⟩ : ∃ x, x = lim s i := ⟨_, rfl⟩
      obtain ⟨d, hd⟩ : ∃ x, x = cyS a b (i + 1) := ⟨_, rfl⟩
      have hf : ∀ W, (callFunc 188 #[Q x, Q y, Q c]).run Tryz.prog W = .ok (.value (.tuple #[Q z, Q d])) W := fun W => by
        have := run_add64w x y c (by rw [hc]; exact cyS_le _ _ _) W
        rw [hx, hy, hc, (cyS_step a b i).1, (cyS_step a b i).2, ← HS.out, ← hx, ← hy, ← hc, ← hz, ← hd] at this
        exact this
      rw [← hx] at cA
      rw [← hy] at cB
      rw [← hc]
      clear hx hy hc
      obtain ⟨X, hX⟩ : ∃ X, X = nK s i := ⟨_, rfl⟩
      have hXl : X.length = 4 := by rw [hX]; exact nK_len _ _
      have hXs : (AQ X).size = 4 := by rw [AQ_size]; exact hXl
      have hr6 : Row wr (w.heap.size + 1 + 1 + 1) 177 (AQ X) := by rw [hX]; exact hA.r6
      have hr6d := hr6.drew
      have hlt6 := hr6.lt
      have f6 : wr.drew.frozen? ⟨w.heap.size + 1 + 1 + 1, i, none⟩ = false := hr6.drew.frozen i
      have HA := Lib.hid hA
      have HX := Lib.hid (show X.set i z = nK s (i + 1) by rw [hX, ← nK_step _ _ h4, hz])
      have HI := Lib.hid (⟨hi, hd⟩ : _ ∧ _)
      clear hA hX hz hi hd h4
      go_wp2_with fail
      go_region_law (fail)
      all_goals
        go_wp2_with fail
        go_roundg (gk - 1)
        case measure => have := HI.out; omega
        case rel => exact ⟨i + 1, by have := HI.out; omega, by rw [← HI.out.2], by go_num, HA.out.r2.drew.setOther _ _ (by first | (simp; done) | (simp; omega)), HA.out.r3.drew.setOther _ _ (by first | (simp; done) | (simp; omega)), HA.out.r4.drew.setOther _ _ (by first | (simp; done) | (simp; omega)), by rw [← HX.out]; exact hr6d.setQ i z, HA.out.bel.drew.setCell (by simp; omega) _⟩
    · obtain rfl : i = 4 := by omega
      have i1 : ¬ ((4 : Nat) : Int) < 4 := by omega
      have hr6 := hA.r6
      rw [nK_all] at hr6
      have hlt6 := hr6.lt
      have z1 := nL_size s
      have z2 := sub_nL s
      have z3 := AQ_one (nL s)
      have z4 : w.heap.size + 1 + 1 < wr.heap.size := hA.r4.lt
      obtain ⟨z, hz, hzs⟩ := hA.r4
      have hov := over_nL z s hzs
      have hB := Lib.hid hA.bel
      clear hA hi
      go_wp2_with fail
      refine ret_rowT ?_ rfl (w.heap.size + 1 + 1) 177 (AQ (nL s)) 4 _ (Q (cyS a b 4)) ?_ (hz.setRow _) ?_ Tryz.underlying177 rfl (by kernel_rfl) (nL_size s) ?_
      · first | exact .inl rfl | exact .inr rfl
      · rfl
      · rfl
      · exact ⟨rfl, bSetRow hB.out (by omega) _⟩
set_option maxRecDepth 100000 in
set_option maxHeartbeats 4000000 in
theorem nsub_any (w : World) (a b : Nat) (hb : b < R256) : Calls Tryz.prog 149 #[.agg (AQ (nL a)), .agg (AQ (nL b))] w fun e w' => e = .returned (.tuple #[.agg (AQ (nL (a + R256 - b))), Q (boS a b 4)]) ∧ Below w.heap.size w w' := by
  have HBB := Lib.hid hb
  clear hb
  have s1 := nL_size a
  have s2 := nL_size b
  obtain ⟨s, hs⟩ : ∃ s, s = (a + R256 - b) := ⟨_, rfl⟩
  rw [← hs]
  have HS := Lib.hid hs
  clear hs
  have HA0 := Lib.hid (show AdSt w ((((w.alloc (.cells (AQ (nL a)) 177)).alloc (.cells (AQ (nL b)) 177)).alloc (.cells #[.int .u64 0, .int .u64 0, .int .u64 0, .int .u64 0] 177)).alloc (.cells #[.int .u64 0, .int .u64 0, .int .u64 0, .int .u64 0] 177)) a b s 0 from
    ⟨((Row.new _ _ _).alloc _).alloc _ |>.alloc _, ((Row.newAt _ _ _ _ (by simp)).alloc _).alloc _, (RowN.newAt _ _ _ _ (by simp)).alloc _, by rw [nK_any s 0, zer4]; exact Row.newAt _ _ _ _ (by simp), ((((Below.refl _ w).alloc (Nat.le_refl _) _).alloc (by simp) _).alloc (by simp; omega) _).alloc (by simp; omega) _⟩)
  have hc0 : boS a b 0 = 0 := boS_zero a b
  go_enter Tryz.func149, Tryz.ntmps149
  go_wp2_with fail
  go_loopg [7, 9] 4 (fun gk t7 t9 wr => ∃ i : Nat, gk + i = 4 ∧ t7 = Q (boS a b i) ∧ t9 = .int .i64 (i : Int) ∧ AdSt w wr a b s i)
  case atStart => exact ⟨0, rfl, by rw [hc0]; rfl, rfl, HA0.out⟩
  case round =>
    clear HA0 hc0
    obtain ⟨i, hi, rfl, rfl, hA⟩ := hrel
    by_cases h4 : i < 4
    · have i1 : (i : Int) < 4 := by omega
      have i0 : (0 : Int) ≤ (i : Int) := by omega
      have i2 : i < 4 := h4
      have cA : wr.drew.cell? ⟨w.heap.size, i, none⟩ = some (Q (lim a i)) := by rw [hA.r2.drew.cell, AQ_get _ _ h4, nL_get _ _ h4]
      have cB : wr.drew.cell? ⟨w.heap.size + 1, i, none⟩ = some (Q (lim b i)) := by rw [hA.r3.drew.cell, AQ_get _ _ h4, nL_get _ _ h4]
      obtain ⟨x, hx⟩ : ∃ x, x = lim a i := ⟨_, rfl⟩
      obtain ⟨y, hy⟩ : ∃ x, x = lim b i := ⟨_, rfl⟩
      obtain ⟨c, hc⟩ : ∃ x, x = boS a b i := ⟨_, rfl⟩
      obtain ⟨z, hz⟩ : ∃ x, x = lim s i := ⟨_, rfl⟩
      obtain ⟨d, hd⟩ : ∃ x, x = boS a b (i + 1) := ⟨_, rfl⟩
      have hf : ∀ W, (callFunc 189 #[Q x, Q y, Q c]).run Tryz.prog W = .ok (.value (.tuple #[Q z, Q d])) W := fun W => by
        have := run_sub64w x y c (by rw [hc]; exact boS_le _ _ _) W
        rw [hx, hy, hc, (boS_step a b i HBB.out h4).1, (boS_step a b i HBB.out h4).2, ← HS.out, ← hx, ← hy, ← hc, ← hz, ← hd] at this
        exact this
      rw [← hx] at cA
      rw [← hy] at cB
      rw [← hc]
      clear hx hy hc
      obtain ⟨X, hX⟩ : ∃ X, X = nK s i := ⟨_, rfl⟩
      have hXl : X.length = 4 := by rw [hX]; exact nK_len _ _
      have hXs : (AQ X).size = 4 := by rw [AQ_size]; exact hXl
      have hr6 : Row wr (w.heap.size + 1 + 1 + 1) 177 (AQ X) := by rw [hX]; exact hA.r6
      have hr6d := hr6.drew
      have hlt6 := hr6.lt
      have f6 : wr.drew.frozen? ⟨w.heap.size + 1 + 1 + 1, i, none⟩ = false := hr6.drew.frozen i
      have HA := Lib.hid hA
      have HX := Lib.hid (show X.set i z = nK s (i + 1) by rw [hX, ← nK_step _ _ h4, hz])
      have HI := Lib.hid (⟨hi, hd⟩ : _ ∧ _)
      clear hA hX hz hi hd h4
      go_wp2_with fail
      go_region_law (fail)
      all_goals
        go_wp2_with fail
        go_roundg (gk - 1)
        case measure => have := HI.out; omega
        case rel => exact ⟨i + 1, by have := HI.out; omega, by rw [← HI.out.2], by go_num, HA.out.r2.drew.setOther _ _ (by first | (simp; done) | (simp; omega)), HA.out.r3.drew.setOther _ _ (by first | (simp; done) | (simp; omega)), HA.out.r4.drew.setOther _ _ (by first | (simp; done) | (simp; omega)), by rw [← HX.out]; exact hr6d.setQ i z, HA.out.bel.drew.setCell (by simp; omega) _⟩
    · obtain rfl : i = 4 := by omega
      have i1 : ¬ ((4 : Nat) : Int) < 4 := by omega
      have hr6 := hA.r6
      rw [nK_all] at hr6
      have hlt6 := hr6.lt
      have z1 := nL_size s
      have z2 := sub_nL s
      have z3 := AQ_one (nL s)
      have z4 : w.heap.size + 1 + 1 < wr.heap.size := hA.r4.lt
      obtain ⟨z, hz, hzs⟩ := hA.r4
      have hov := over_nL z s hzs
      have hB := Lib.hid hA.bel
      clear hA hi
      go_wp2_with fail
      refine ret_rowT ?_ rfl (w.heap.size + 1 + 1) 177 (AQ (nL s)) 4 _ (Q (boS a b 4)) ?_ (hz.setRow _) ?_ Tryz.underlying177 rfl (by kernel_rfl) (nL_size s) ?_
      · first | exact .inl rfl | exact .inr rfl
      · rfl
      · rfl
      · exact ⟨rfl, bSetRow hB.out (by omega) _⟩
theorem pw_mod (a i : Nat) (h : i < 4) : a % R256 / pw i % 18446744073709551616 = a / pw i % 18446744073709551616 := by
  have : i = 0 ∨ i = 1 ∨ i = 2 ∨ i = 3 := by omega
  have hR : R256 = 115792089237316195423570985008687907853269984665640564039457584007913129639936 := rfl
  rw [hR]
  rcases this with rfl | rfl | rfl | rfl
  · rw [pw0]; omega
  · rw [pw1]; omega
  · rw [pw2]; omega
  · rw [pw3]; omega
theorem nL_mod (a : Nat) : nL (a % R256) = nL a := by
  unfold nL
  simp only [lim_eq, pw_mod a 0 (by decide), pw_mod a 1 (by decide), pw_mod a 2 (by decide), pw_mod a 3 (by decide)]
theorem boS_four (a b : Nat) (ha : a < R256) (hb : b < R256) : boS a b 4 = if a < b then 1 else 0 := by
  unfold boS
  rw [pw4, Nat.mod_eq_of_lt ha, Nat.mod_eq_of_lt hb]
theorem cyS_four (a b : Nat) (ha : a < R256) (hb : b < R256) : cyS a b 4 = (a + b) / R256 := by
  unfold cyS
  rw [pw4, Nat.mod_eq_of_lt ha, Nat.mod_eq_of_lt hb]
set_option maxRecDepth 100000 in
set_option maxHeartbeats 4000000 in
theorem nless_any (w : World) (a b : Nat) (ha : a < R256) (hb : b < R256) : Calls Tryz.prog 132 #[.agg (AQ (nL a)), .agg (AQ (nL b))] w fun e w' => e = .returned (.bool (decide (a < b))) ∧ Below w.heap.size w w' := by
  have s1 := nL_size a
  have s2 := nL_size b
  have s3 := sub_nL a
  have s4 := sub_nL b
  have q1 := AQ_one (nL (a + R256 - b))
  have q2 := nL_size (a + R256 - b)
  have HC := Lib.hid (fun W => nsub_any W a b hb)
  have HF := Lib.hid (boS_four a b ha hb)
  obtain ⟨e, he⟩ : ∃ e, e = boS a b 4 := ⟨_, rfl⟩
  rw [← he] at HC HF
  clear ha hb he
  go_enter Tryz.func132, Tryz.ntmps132
  go_wp2_with fail
  refine (HC.out _).mono ?_
  rintro _ w1 ⟨rfl, hB1⟩
  have HB1 := Lib.hid ((((Below.refl _ w).alloc (Nat.le_refl _) _).alloc (by simp) _).trans (hB1.mono (by simp; omega)))
  clear hB1
  by_cases h : a < b
  · have h1 : e = 1 := by rw [HF.out, if_pos h]
    have HR := Lib.hid h
    subst h1
    clear h
    go_wp2_with fail
    go_ret
    exact ⟨by rw [decide_eq_true HR.out]; rfl, bSetRow (HB1.out.alloc HB1.out.size _) HB1.out.size _⟩
  · have h1 : e = 0 := by rw [HF.out, if_neg h]
    have HR := Lib.hid h
    subst h1
    clear h
    go_wp2_with fail
    go_ret
    exact ⟨by rw [decide_eq_false HR.out]; rfl, bSetRow (HB1.out.alloc HB1.out.size _) HB1.out.size _⟩
end Go.Proofs.YtjpfhhndjpdmoaaGreatDoor

namespace Go.Proofs.YtjpfhhndjpdmoaaGreatDoor
open Go.RowKit
set_option linter.unusedVariables false
set_option linter.unusedSimpArgs false

theorem wp_callQ {o : Oper} {a : Act} {w : World} {K : Act → World → Prop} {Q : Exit → Act → World → Prop} (f : FuncId) (args : Array Value) (hrun : (execOp a.eval o).run Tryz.prog w = .ok (.enter f args) w) (hc : Calls Tryz.prog f args w fun e w' => ∃ v, e = .returned v ∧ K (a.put o.dst v) w') : o.wp Tryz.prog a w K Q := by
  unfold Oper.wp
  rw [hrun, Oper.upon_enter]
  refine hc.mono ?_
  rintro e w' ⟨v, rfl, h⟩
  exact h
def modL (m neg : Nat) : List Nat := nL m ++ ([neg] ++ (nL (R256 % m) ++ nL (R256 * R256 % m)))
def modC (m neg : Nat) : Array Value := AQ (modL m neg)
theorem modC_size (m neg : Nat) : (modC m neg).size = 13 := rfl
theorem modC_m (m neg : Nat) : sub (modC m neg) 0 4 = AQ (nL m) := by
  unfold modC modL sub AQ
  rfl
theorem modC_two (m neg : Nat) : sub (modC m neg) 9 4 = AQ (nL (R256 * R256 % m)) := by
  unfold modC modL sub AQ
  rfl
structure ModW (w : World) (g m neg ri : Nat) : Prop where
  row : Row w g 260 (modC m neg)
  md : MdS m neg ri
theorem ModW.below {w w' : World} {g m neg ri : Nat} (h : ModW w g m neg ri) (hb : Below w.heap.size w w') : ModW w' g m neg ri := ⟨h.row.below hb h.row.lt, h.md⟩
theorem shr_low {m a ov : Nat} (hm : m < R256) (ha : a < R256) (hov : ov ≤ 1) (h : a + ov * R256 < m) : ov = 0 ∧ a < m ∧ shrS m (a + ov * R256) = a := by
  have : ov = 0 := by
    rcases Nat.eq_zero_or_pos ov with h0 | h0
    · exact h0
    · obtain rfl : ov = 1 := by omega
      omega
  subst this
  rw [Nat.zero_mul, Nat.add_zero] at h ⊢
  exact ⟨rfl, h, by unfold shrS; rw [if_pos h]⟩
theorem shr_high {m a ov : Nat} (hm : m < R256) (ha : a < R256) (hov : ov ≤ 1) (h2 : a + ov * R256 < 2 * m) (h : ¬ a + ov * R256 < m) : (ov = 1 ∨ ¬ a < m) ∧ nL (a + R256 - m) = nL (shrS m (a + ov * R256)) := by
  have hs : shrS m (a + ov * R256) = a + ov * R256 - m := by unfold shrS; rw [if_neg h]
  rcases Nat.eq_zero_or_pos ov with h0 | h0
  · subst h0
    rw [Nat.zero_mul, Nat.add_zero] at h hs ⊢
    refine ⟨.inr h, ?_⟩
    rw [hs, ← nL_mod (a + R256 - m), show a + R256 - m = (a - m) + R256 by omega, Nat.add_mod_right, nL_mod]
  · obtain rfl : ov = 1 := by omega
    rw [Nat.one_mul] at hs ⊢
    exact ⟨.inl rfl, by rw [hs]⟩
structure ModR (w : World) (g m : Nat) (C : Array Value) : Prop where
  row : Row w g 260 C
  sz : C.size = 13
  mm : sub C 0 4 = AQ (nL m)
  low : m < R256
theorem ModR.below {w w' : World} {g m : Nat} {C : Array Value} (h : ModR w g m C) (hb : Below w.heap.size w w') : ModR w' g m C := ⟨h.row.below hb h.row.lt, h.sz, h.mm, h.low⟩
set_option maxRecDepth 100000 in
set_option maxHeartbeats 4000000 in
theorem shrink_row (w : World) (g m a ov : Nat) (C : Array Value) (hM : ModR w g m C) (ha : a < R256) (hov : ov ≤ 1) (hT : a + ov * R256 < 2 * m) :
    Calls Tryz.prog 152 #[.pointer (some ⟨g, 0, none⟩), .agg (AQ (nL a)), Q ov] w fun e w' => e = .returned (.agg (AQ (nL (shrS m (a + ov * R256))))) ∧ Below w.heap.size w w' := by
  have s1 := nL_size a
  have s2 := sub_nL a
  have s3 := hM.sz
  have s4 := hM.mm
  have HM := Lib.hid hM
  have HLT := Lib.hid hM.row.lt
  have HC := Lib.hid (fun W => nsub_any W a m hM.low)
  have HF := Lib.hid (boS_four a m ha hM.low)
  have HV := Lib.hid (⟨hM.low, ha, hov, hT⟩ : _ ∧ _ ∧ _ ∧ _)
  obtain ⟨e, he⟩ : ∃ e, e = boS a m 4 := ⟨_, rfl⟩
  obtain ⟨s, hs⟩ : ∃ s, s = a + R256 - m := ⟨_, rfl⟩
  rw [← he] at HC HF
  rw [← hs] at HC
  have HS := Lib.hid hs
  have q1 := AQ_one (nL s)
  have q2 := nL_size s
  have q3 := sub_nL s
  have q4 := AQ_one (nL a)
  have q5 := over_nL #[.int .u64 0, .int .u64 0, .int .u64 0, .int .u64 0] s rfl
  have z44 : 0 + 4 ≤ (AQ (nL a)).size := by rw [s1]; decide
  clear hM ha hov hT he hs
  go_enter Tryz.func152, Tryz.ntmps152
  go_upto_region 1 with (fail)
  obtain ⟨w0, hw0⟩ : ∃ W, W = (w.alloc (.cells (AQ (nL a)) 177)).alloc (.cells #[.int .u64 0, .int .u64 0, .int .u64 0, .int .u64 0] 177) := ⟨_, rfl⟩
  rw [← hw0]
  have HR := Lib.hid (show Row w0 w.heap.size 177 (AQ (nL a)) ∧ RowN w0 (w.heap.size + 1) 177 4 ∧ Below w.heap.size w w0 from by
    rw [hw0]
    exact ⟨(Row.new _ _ _).alloc _, RowN.newAt _ _ _ _ (by simp), ((Below.refl _ w).alloc (Nat.le_refl _) _).alloc (by simp) _⟩)
  clear hw0
  have hra0 := HR.out.1
  have hrm0 := (HM.out.below HR.out.2.2).row
  have hra := HR.out.1.drew
  have hla : w.heap.size < w0.heap.size := HR.out.1.lt
  have hrm := (HM.out.below HR.out.2.2).row.drew
  have hlm : g < w0.heap.size := (HM.out.below HR.out.2.2).row.lt
  go_cut [7, 8] (fun t7 t8 wx => ∃ g7, t7 = .pointer (some ⟨g7, 0, none⟩) ∧ t8 = Q e ∧ Row wx g7 177 (AQ (nL s)) ∧ Row wx w.heap.size 177 (AQ (nL a)) ∧ RowN wx (w.heap.size + 1) 177 4 ∧ Below w.heap.size w wx)
  case first =>
    go_region_law (first
      | (refine wp_callQ 149 #[.agg (AQ (nL a)), .agg (AQ (nL m))] ?_ ?_
         (focus (simp [go_sem]; done))
         refine (HC.out _).mono ?_
         rintro _ w2 ⟨rfl, hB⟩
         refine ⟨_, rfl, ?_⟩
         have hra2 := (show Row w2 w.heap.size 177 (AQ (nL a)) from by first | exact hra.below hB hra.lt | exact (hra.alloc _).below hB (hra.alloc _).lt | exact ((HR.out.1.alloc _).drew).below hB ((HR.out.1.alloc _).drew).lt)
         have HN2 := Lib.hid (show RowN w2 (w.heap.size + 1) 177 4 ∧ Below w.heap.size w w2 from by
           first
             | exact ⟨HR.out.2.1.drew.below hB HR.out.2.1.lt, HR.out.2.2.drew.trans (hB.mono HR.out.2.2.size)⟩
             | exact ⟨(HR.out.2.1.drew.alloc _).below hB (HR.out.2.1.drew.alloc _).lt, (HR.out.2.2.drew.alloc HR.out.2.2.size _).trans (hB.mono (by have := HR.out.2.2.size; simp; omega))⟩)
         (first
           | (have hz2 := (show Row w2 w0.heap.size 177 #[.int .u64 0, .int .u64 0, .int .u64 0, .int .u64 0] from by first | exact (Row.new w0.drew 177 #[.int .u64 0, .int .u64 0, .int .u64 0, .int .u64 0]).below hB (Row.new w0.drew 177 #[.int .u64 0, .int .u64 0, .int .u64 0, .int .u64 0]).lt | exact (Row.new w0 177 #[.int .u64 0, .int .u64 0, .int .u64 0, .int .u64 0]).drew.below hB (Row.new w0 177 #[.int .u64 0, .int .u64 0, .int .u64 0, .int .u64 0]).lt)
              have hzl2 := hz2.lt)
           | skip)
         clear hB)
      | fail)
    all_goals
      go_wp2_with fail
      go_meet
      case rel =>
        first
          | exact ⟨w2.heap.size, rfl, rfl, (Row.new _ _ _).setRow _, (hra2.alloc _).setRowOther _ _ (by have := hra2.lt; omega), (HN2.out.1.alloc _).setRowOther _ _ (by have := HN2.out.1.lt; omega), bSetRow (HN2.out.2.alloc HN2.out.2.size _) HN2.out.2.size _⟩
          | exact ⟨w0.heap.size, rfl, rfl, hz2.setRow _, hra2.setRowOther _ _ (by omega), HN2.out.1.setRowOther _ _ (by have := HR.out.2.1.lt; omega), bSetRow HN2.out.2 (by omega) _⟩
  case rest =>
    obtain ⟨g7, rfl, rfl, h7, hra3, hn3, hB3⟩ := hcut
    obtain ⟨z, hz, hzs⟩ := hn3
    have hl7 := h7.lt
    have hla3 := hra3.lt
    have hlz := hz.lt
    have HB3 := Lib.hid hB3
    have ov1 := over_nL z a hzs
    have ov2 := over_nL z s hzs
    clear hra hra0 hrm hrm0 hla hlm hB3 HR
    by_cases hlow : a + ov * R256 < m
    · obtain ⟨rfl, h2, h3⟩ := shr_low HV.out.1 HV.out.2.1 HV.out.2.2.1 hlow
      obtain rfl : e = 1 := by rw [HF.out, if_pos h2]
      have H3 := Lib.hid h3
      clear hlow h2 h3
      go_wp2_with fail
      exact ret_row (.inl rfl) rfl (w.heap.size + 1) _ _ 4 _ rfl (hz.setRow _) Tryz.underlying177 rfl (by kernel_rfl) s1 ⟨by rw [H3.out], bSetRow HB3.out (by omega) _⟩
    · obtain ⟨h2, h3⟩ := shr_high HV.out.1 HV.out.2.1 HV.out.2.2.1 HV.out.2.2.2 hlow
      rw [← HS.out] at h3
      have H3 := Lib.hid h3
      clear hlow h3
      rcases h2 with rfl | h2
      · go_wp2_with fail
        exact ret_row (.inl rfl) rfl (w.heap.size + 1) _ _ 4 _ rfl (hz.setRow _) Tryz.underlying177 rfl (by kernel_rfl) q2 ⟨by rw [← H3.out], bSetRow HB3.out (by omega) _⟩
      · obtain rfl : e = 0 := by rw [HF.out, if_neg h2]
        clear h2
        go_wp2_with fail
        all_goals exact ret_row (.inl rfl) rfl (w.heap.size + 1) _ _ 4 _ rfl (hz.setRow _) Tryz.underlying177 rfl (by kernel_rfl) q2 ⟨by rw [← H3.out], bSetRow HB3.out (by omega) _⟩
theorem shrink_any (w : World) (g m neg ri a ov : Nat) (hM : ModW w g m neg ri) (ha : a < R256) (hov : ov ≤ 1) (hT : a + ov * R256 < 2 * m) :
    Calls Tryz.prog 152 #[.pointer (some ⟨g, 0, none⟩), .agg (AQ (nL a)), Q ov] w fun e w' => e = .returned (.agg (AQ (nL (shrS m (a + ov * R256))))) ∧ Below w.heap.size w w' :=
  shrink_row w g m a ov _ ⟨hM.row, modC_size m neg, modC_m m neg, hM.md.low⟩ ha hov hT
end Go.Proofs.YtjpfhhndjpdmoaaGreatDoor

namespace Go.Proofs.YtjpfhhndjpdmoaaGreatDoor
open Go.RowKit Go.Lib
set_option linter.unusedVariables false
set_option linter.unusedSimpArgs false
set_option maxRecDepth 100000 in
set_option maxHeartbeats 1000000 in
theorem mul64_any (x y : Nat) (hx : x < 18446744073709551616) (hy : y < 18446744073709551616) (w : World) :
    Calls Tryz.prog 187 #[Q x, Q y] w fun e w' => e = .returned (.tuple #[Q (x * y / 18446744073709551616), Q (x * y % 18446744073709551616)]) ∧ w' = w := by
  obtain ⟨bd, bt, bw, hhi⟩ := Lib.mul64_hi x y hx hy
  have ba := Lib.half_mul_le (a := x / 4294967296) (b := y / 4294967296) (by omega) (by omega)
  have bb := Lib.half_mul_le (a := x / 4294967296) (b := y % 4294967296) (by omega) (by omega)
  have bc := Lib.half_mul_le (a := x % 4294967296) (b := y / 4294967296) (by omega) (by omega)
  have ba' : x / 4294967296 * (y / 4294967296) < 18446744073709551616 := by omega
  have bb' : x / 4294967296 * (y % 4294967296) < 18446744073709551616 := by omega
  have bc' : x % 4294967296 * (y / 4294967296) < 18446744073709551616 := by omega
  have bh1 : x / 4294967296 * (y / 4294967296) + (x / 4294967296 * (y % 4294967296) + x % 4294967296 * (y % 4294967296) / 4294967296) / 4294967296 < 18446744073709551616 := by omega
  have bh : x / 4294967296 * (y / 4294967296) + (x / 4294967296 * (y % 4294967296) + x % 4294967296 * (y % 4294967296) / 4294967296) / 4294967296 + ((x / 4294967296 * (y % 4294967296) + x % 4294967296 * (y % 4294967296) / 4294967296) % 4294967296 + x % 4294967296 * (y / 4294967296)) / 4294967296 < 18446744073709551616 := by omega
  go_enter Tryz.func187, Tryz.ntmps187
  go_wp2
  -- the walk's numbers, folded from the inside out: each step of the school method is a natural number that does not wrap
  simp only [Mul64.maskN x hx, Mul64.maskN y hy, Mul64.divN, Mul64.mulN, Mul64.addN, Mul64.wrapN _ bd, Mul64.wrapN _ bb', Mul64.wrapN _ bt, Mul64.maskN _ bt, Mul64.wrapN _ bc', Mul64.wrapN _ bw, Mul64.wrapN _ ba', Mul64.wrapN _ bh1, Mul64.wrapN _ bh, Mul64.wrapM (x * y)]
  rw [hhi]
  go_ret2
  exact ⟨rfl, rfl⟩
end Go.Proofs.YtjpfhhndjpdmoaaGreatDoor
