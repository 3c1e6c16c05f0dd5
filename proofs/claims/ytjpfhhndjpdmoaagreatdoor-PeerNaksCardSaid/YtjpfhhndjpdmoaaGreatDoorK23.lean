/- Part of the proof: CurveD. No conditions of its own. -/
import Derived.BigQuiet
import Derived.Deep.CutBlock
import Derived.Deep.DeepCutAuto
import Derived.Deep.LoopGhost
import Derived.Deep.Quiet
import Derived.Deep.QuietTactic
import Derived.Deep.RegionLaw
import Derived.Laws.Bits64b
import Derived.Lib.Hide
import Derived.Shelf.Bits.Mul64
import Derived.Shelf.Spec.BitsCarry
import Derived.StillTail
import Derived.Stop.BytesEq
import Derived.Test.YtjpfhhndjpdmoaaGreatDoorRows
import Derived.WalkKit
import Derived.Test.YtjpfhhndjpdmoaaGreatDoorK22
namespace Go.Proofs.YtjpfhhndjpdmoaaGreatDoor
open Go.RowKit
set_option linter.unusedVariables false
set_option linter.unusedSimpArgs false

theorem list32v {α : Type} (l : List α) (h : l.length = 32) : ∃ x0 x1 x2 x3 x4 x5 x6 x7 x8 x9 x10 x11 x12 x13 x14 x15 x16 x17 x18 x19 x20 x21 x22 x23 x24 x25 x26 x27 x28 x29 x30 x31, l = [x0, x1, x2, x3, x4, x5, x6, x7, x8, x9, x10, x11, x12, x13, x14, x15, x16, x17, x18, x19, x20, x21, x22, x23, x24, x25, x26, x27, x28, x29, x30, x31] := by
  obtain ⟨x0, l, rfl⟩ := List.exists_cons_of_length_eq_add_one (n := 31) h
  have h : l.length = 31 := by simpa using h
  obtain ⟨x1, l, rfl⟩ := List.exists_cons_of_length_eq_add_one (n := 30) h
  have h : l.length = 30 := by simpa using h
  obtain ⟨x2, l, rfl⟩ := List.exists_cons_of_length_eq_add_one (n := 29) h
  have h : l.length = 29 := by simpa using h
  obtain ⟨x3, l, rfl⟩ := List.exists_cons_of_length_eq_add_one (n := 28) h
  have h : l.length = 28 := by simpa using h
  obtain ⟨x4, l, rfl⟩ := List.exists_cons_of_length_eq_add_one (n := 27) h
  have h : l.length = 27 := by simpa using h
  obtain ⟨x5, l, rfl⟩ := List.exists_cons_of_length_eq_add_one (n := 26) h
  have h : l.length = 26 := by simpa using h
  obtain ⟨x6, l, rfl⟩ := List.exists_cons_of_length_eq_add_one (n := 25) h
  have h : l.length = 25 := by simpa using h
  obtain ⟨x7, l, rfl⟩ := List.exists_cons_of_length_eq_add_one (n := 24) h
  have h : l.length = 24 := by simpa using h
  obtain ⟨x8, l, rfl⟩ := List.exists_cons_of_length_eq_add_one (n := 23) h
  have h : l.length = 23 := by simpa using h
  obtain ⟨x9, l, rfl⟩ := List.exists_cons_of_length_eq_add_one (n := 22) h
  have h : l.length = 22 := by simpa using h
  obtain ⟨x10, l, rfl⟩ := List.exists_cons_of_length_eq_add_one (n := 21) h
  have h : l.length = 21 := by simpa using h
  obtain ⟨x11, l, rfl⟩ := List.exists_cons_of_length_eq_add_one (n := 20) h
  have h : l.length = 20 := by simpa using h
  obtain ⟨x12, l, rfl⟩ := List.exists_cons_of_length_eq_add_one (n := 19) h
  have h : l.length = 19 := by simpa using h
  obtain ⟨x13, l, rfl⟩ := List.exists_cons_of_length_eq_add_one (n := 18) h
  have h : l.length = 18 := by simpa using h
  obtain ⟨x14, l, rfl⟩ := List.exists_cons_of_length_eq_add_one (n := 17) h
  have h : l.length = 17 := by simpa using h
  obtain ⟨x15, l, rfl⟩ := List.exists_cons_of_length_eq_add_one (n := 16) h
  have h : l.length = 16 := by simpa using h
  obtain ⟨x16, l, rfl⟩ := List.exists_cons_of_length_eq_add_one (n := 15) h
  have h : l.length = 15 := by simpa using h
  obtain ⟨x17, l, rfl⟩ := List.exists_cons_of_length_eq_add_one (n := 14) h
  have h : l.length = 14 := by simpa using h
  obtain ⟨x18, l, rfl⟩ := List.exists_cons_of_length_eq_add_one (n := 13) h
  have h : l.length = 13 := by simpa using h
  obtain ⟨x19, l, rfl⟩ := List.exists_cons_of_length_eq_add_one (n := 12) h
  have h : l.length = 12 := by simpa using h
  obtain ⟨x20, l, rfl⟩ := List.exists_cons_of_length_eq_add_one (n := 11) h
  have h : l.length = 11 := by simpa using h
  obtain ⟨x21, l, rfl⟩ := List.exists_cons_of_length_eq_add_one (n := 10) h
  have h : l.length = 10 := by simpa using h
  obtain ⟨x22, l, rfl⟩ := List.exists_cons_of_length_eq_add_one (n := 9) h
  have h : l.length = 9 := by simpa using h
  obtain ⟨x23, l, rfl⟩ := List.exists_cons_of_length_eq_add_one (n := 8) h
  have h : l.length = 8 := by simpa using h
  obtain ⟨x24, l, rfl⟩ := List.exists_cons_of_length_eq_add_one (n := 7) h
  have h : l.length = 7 := by simpa using h
  obtain ⟨x25, l, rfl⟩ := List.exists_cons_of_length_eq_add_one (n := 6) h
  have h : l.length = 6 := by simpa using h
  obtain ⟨x26, l, rfl⟩ := List.exists_cons_of_length_eq_add_one (n := 5) h
  have h : l.length = 5 := by simpa using h
  obtain ⟨x27, l, rfl⟩ := List.exists_cons_of_length_eq_add_one (n := 4) h
  have h : l.length = 4 := by simpa using h
  obtain ⟨x28, l, rfl⟩ := List.exists_cons_of_length_eq_add_one (n := 3) h
  have h : l.length = 3 := by simpa using h
  obtain ⟨x29, l, rfl⟩ := List.exists_cons_of_length_eq_add_one (n := 2) h
  have h : l.length = 2 := by simpa using h
  obtain ⟨x30, l, rfl⟩ := List.exists_cons_of_length_eq_add_one (n := 1) h
  have h : l.length = 1 := by simpa using h
  obtain ⟨x31, l, rfl⟩ := List.exists_cons_of_length_eq_add_one (n := 0) h
  have h : l.length = 0 := by simpa using h
  obtain rfl : l = [] := List.eq_nil_of_length_eq_zero h
  exact ⟨x0, x1, x2, x3, x4, x5, x6, x7, x8, x9, x10, x11, x12, x13, x14, x15, x16, x17, x18, x19, x20, x21, x22, x23, x24, x25, x26, x27, x28, x29, x30, x31, rfl⟩
theorem build_lit (x0 x1 x2 x3 x4 x5 x6 x7 x8 x9 x10 x11 x12 x13 x14 x15 x16 x17 x18 x19 x20 x21 x22 x23 x24 x25 x26 x27 x28 x29 x30 x31 y0 y1 y2 y3 y4 y5 y6 y7 y8 y9 y10 y11 y12 y13 y14 y15 y16 y17 y18 y19 y20 y21 y22 y23 y24 y25 y26 y27 y28 y29 y30 y31 : Value) (w : World) : (Instr.build 169 #[(0, .agg [x0, x1, x2, x3, x4, x5, x6, x7, x8, x9, x10, x11, x12, x13, x14, x15, x16, x17, x18, x19, x20, x21, x22, x23, x24, x25, x26, x27, x28, x29, x30, x31].toArray), (1, .agg [y0, y1, y2, y3, y4, y5, y6, y7, y8, y9, y10, y11, y12, y13, y14, y15, y16, y17, y18, y19, y20, y21, y22, y23, y24, y25, y26, y27, y28, y29, y30, y31].toArray)]).run Tryz.prog w = .ok (.agg [x0, x1, x2, x3, x4, x5, x6, x7, x8, x9, x10, x11, x12, x13, x14, x15, x16, x17, x18, x19, x20, x21, x22, x23, x24, x25, x26, x27, x28, x29, x30, x31, y0, y1, y2, y3, y4, y5, y6, y7, y8, y9, y10, y11, y12, y13, y14, y15, y16, y17, y18, y19, y20, y21, y22, y23, y24, y25, y26, y27, y28, y29, y30, y31].toArray) w := by kernel_rfl
theorem build_pt {a b : List UInt8} (ha : a.length = 32) (hb : b.length = 32) (w : World) : (Instr.build 169 #[(0, .agg (AB a)), (1, .agg (AB b))]).run Tryz.prog w = .ok (.agg (ptC a b)) w := by
  obtain ⟨x0, x1, x2, x3, x4, x5, x6, x7, x8, x9, x10, x11, x12, x13, x14, x15, x16, x17, x18, x19, x20, x21, x22, x23, x24, x25, x26, x27, x28, x29, x30, x31, ea⟩ := list32v (a.map B) (by simpa using ha)
  obtain ⟨y0, y1, y2, y3, y4, y5, y6, y7, y8, y9, y10, y11, y12, y13, y14, y15, y16, y17, y18, y19, y20, y21, y22, y23, y24, y25, y26, y27, y28, y29, y30, y31, eb⟩ := list32v (b.map B) (by simpa using hb)
  have e : (AB (a ++ b)) = [x0, x1, x2, x3, x4, x5, x6, x7, x8, x9, x10, x11, x12, x13, x14, x15, x16, x17, x18, x19, x20, x21, x22, x23, x24, x25, x26, x27, x28, x29, x30, x31, y0, y1, y2, y3, y4, y5, y6, y7, y8, y9, y10, y11, y12, y13, y14, y15, y16, y17, y18, y19, y20, y21, y22, y23, y24, y25, y26, y27, y28, y29, y30, y31].toArray := by unfold AB; rw [List.map_append, ea, eb]; rfl
  unfold ptC
  rw [e]
  unfold AB
  rw [ea, eb]
  exact build_lit x0 x1 x2 x3 x4 x5 x6 x7 x8 x9 x10 x11 x12 x13 x14 x15 x16 x17 x18 x19 x20 x21 x22 x23 x24 x25 x26 x27 x28 x29 x30 x31 y0 y1 y2 y3 y4 y5 y6 y7 y8 y9 y10 y11 y12 y13 y14 y15 y16 y17 y18 y19 y20 y21 y22 y23 y24 y25 y26 y27 y28 y29 y30 y31 w
theorem run_pt {ρ : Operand → Value} {dst : Option Tmp} {x y : Operand} {type : TypeId} {pos : String} {after : Array Edge} {guard : Option (Nat × Bool)} {a b : List UInt8} (ha : a.length = 32) (hb : b.length = 32) (hx : ρ x = .agg (AB a)) (hy : ρ y = .agg (AB b)) (w : World) :
    (execOp ρ { dst, op := .build 169 #[(0, x), (1, y)], type, pos, after, guard }).run Tryz.prog w = .ok (.value (.agg (ptC a b))) w := by
  unfold execOp
  simp only [List.map_toArray, List.map_cons, List.map_nil, hx, hy]
  rw [Sem.run_bind, build_pt ha hb]
  rfl
structure CurveW (w : World) : Prop where
  order : ∃ t, Row w 1 t (AQ (nL N256))
  baseX : ∃ t, Row w 2 t (AQ (nL GX))
  baseY : ∃ t, Row w 3 t (AQ (nL GY))
  prime : ∃ t, Row w 6 t (AQ (nL P256))
  coeff : ∃ t, Row w 7 t (AQ (nL B256))
theorem CurveW.below {w w' : World} (h : CurveW w) (hb : Below w.heap.size w w') : CurveW w' := by
  obtain ⟨⟨t1, h1⟩, ⟨t2, h2⟩, ⟨t3, h3⟩, ⟨t4, h4⟩, ⟨t5, h5⟩⟩ := h
  exact ⟨⟨t1, h1.below hb h1.lt⟩, ⟨t2, h2.below hb h2.lt⟩, ⟨t3, h3.below hb h3.lt⟩, ⟨t4, h4.below hb h4.lt⟩, ⟨t5, h5.below hb h5.lt⟩⟩
theorem CurveW.rPrime {w : World} (h : CurveW w) : Row w 6 h.prime.choose (AQ (nL P256)) := h.prime.choose_spec
theorem CurveW.rOrder {w : World} (h : CurveW w) : Row w 1 h.order.choose (AQ (nL N256)) := h.order.choose_spec
theorem CurveW.rCoeff {w : World} (h : CurveW w) : Row w 7 h.coeff.choose (AQ (nL B256)) := h.coeff.choose_spec
def RIP : Nat := 0xfffffffe00000003fffffffd0000000200000001fffffffe0000000300000000
def RIN : Nat := 0x60d066334905c1e907f8b6041e607725badef3e243566fafce1bc8f79c197c79
theorem md_P : MdS P256 (negN P256) RIP := ⟨by decide +kernel, by decide +kernel, by decide +kernel, by decide +kernel, by decide +kernel⟩
theorem md_N : MdS N256 (negN N256) RIN := ⟨by decide +kernel, by decide +kernel, by decide +kernel, by decide +kernel, by decide +kernel⟩
abbrev FldW (w : World) (g : Nat) : Prop := ModW w g P256 (negN P256) RIP
theorem mk_P (w : World) : Calls Tryz.prog 143 #[.agg (AQ (nL P256))] w fun e w' => ∃ g, e = .returned (.tuple #[.pointer (some ⟨g, 0, none⟩), .int .i64 0]) ∧ FldW w' g ∧ w.heap.size ≤ g ∧ Below w.heap.size w w' :=
  new_any w P256 RIP (by decide +kernel) (by decide +kernel) (by decide +kernel) md_P
theorem mk_N (w : World) : Calls Tryz.prog 143 #[.agg (AQ (nL N256))] w fun e w' => ∃ g, e = .returned (.tuple #[.pointer (some ⟨g, 0, none⟩), .int .i64 0]) ∧ ModW w' g N256 (negN N256) RIN ∧ w.heap.size ≤ g ∧ Below w.heap.size w w' :=
  new_any w N256 RIN (by decide +kernel) (by decide +kernel) (by decide +kernel) md_N
theorem over_f (g : Nat) : over #[.pointer none] 0 (fC g) = fC g := over_all _ _ rfl
set_option maxRecDepth 100000 in
set_option maxHeartbeats 4000000 in
theorem newField_gen (w : World) (P neg ri : Nat) (t : TypeId) (h0 : Row w 6 t (AQ (nL P)))
    (hmk : ∀ w, Calls Tryz.prog 143 #[.agg (AQ (nL P))] w fun e w' => ∃ g, e = .returned (.tuple #[.pointer (some ⟨g, 0, none⟩), .int .i64 0]) ∧ ModW w' g P neg ri ∧ w.heap.size ≤ g ∧ Below w.heap.size w w') :
    Calls Tryz.prog 133 #[] w fun e w' => ∃ g, e = .returned (.agg (fC g)) ∧ ModW w' g P neg ri ∧ Below w.heap.size w w' := by
  have HMK := Lib.hid hmk
  clear hmk
  go_enter Tryz.func133, Tryz.ntmps133
  go_upto_region 1 with (fail)
  refine at_world (fun W => Row W 6 t (AQ (nL P)) ∧ Row W w.heap.size 243 #[.pointer none] ∧ Below w.heap.size w W) ⟨h0.alloc _, Row.new _ _ _, (Below.refl _ w).alloc (Nat.le_refl _) _⟩ ?_
  clear h0
  rintro W1 ⟨h0, r0, hB⟩
  refine wp_region_lex 1 ?_
  simp only [List.take_succ_cons, List.take_zero, List.drop_succ_cons, List.drop_zero]
  (go_big_quiet_want; apply qn_load at_num rfl rfl h0 (hp_num P); (simp only [Act.put, lS]; go_big_quiet_on))
  refine wpQuiet_nil ?_
  intro W2 hcc
  replace r0 := r0.below hcc.1 r0.lt
  replace hB := hB.trans (hcc.1.mono hB.size)
  clear hcc h0
  go_wp2_with fail
  refine (HMK.out _).mono ?_
  rintro e w1 ⟨g, rfl, hM, hg, hB1⟩
  have hgn : g ≠ w.heap.size := by have := r0.lt; omega
  have HGN := Lib.hid hgn
  replace r0 := r0.below hB1 r0.lt
  replace hB := hB.trans (hB1.mono hB.size)
  have HM := Lib.hid hM
  have l0 := r0.lt
  clear hM hB1 hg hgn
  go_wp2_with fail
  exact ret_row (by first | exact .inl rfl | exact .inr rfl) rfl w.heap.size 243 _ 1 _ rfl (r0.set 0 _) Tryz.underlying243 rfl (by kernel_rfl) rfl ⟨g, rfl, ⟨HM.out.row.setOther _ _ HGN.out, HM.out.md⟩, hB.setCell (Nat.le_refl _) _⟩
end Go.Proofs.YtjpfhhndjpdmoaaGreatDoor
