/- Part of the proof: RefNon, RecordLong, RefRec. No conditions of its own. -/
import Derived.ArgAppend
import Derived.Below
import Derived.BigQuiet
import Derived.BigRegion
import Derived.ChangeOld
import Derived.Deep.CutBlock
import Derived.Deep.DeepCutAuto
import Derived.Deep.Draws
import Derived.Deep.LoopGhost
import Derived.Deep.Quiet
import Derived.Deep.QuietTactic
import Derived.Deep.RegionHeld3
import Derived.Deep.RegionLaw
import Derived.Laws.AppendOwnNone
import Derived.Laws.Bits64
import Derived.Laws.BitsAllLaws
import Derived.Laws.BytesArg
import Derived.Laws.Concat
import Derived.Laws.CopyOwn
import Derived.Laws.MakeOwn
import Derived.Lib.AppendStr
import Derived.Lib.AppendZerosOnto
import Derived.Lib.BufferMore
import Derived.Lib.ConvBytes
import Derived.Lib.Hide
import Derived.Lib.SlBytesConst
import Derived.LoopIn
import Derived.LoopNIn
import Derived.Maps.AppendAt
import Derived.OpenShut
import Derived.OrdersIn
import Derived.OwnWalkIn
import Derived.ProofKit
import Derived.RangeFuncBound
import Derived.RangeFuncBox
import Derived.RangeFuncCalls
import Derived.RangeFuncLeaves
import Derived.RangeFuncNested
import Derived.Shelf.Abstract
import Derived.ShutString
import Derived.StillTail
import Derived.TacticsIn
import Derived.TacticsInMore
import Derived.Test.YtcfbiafedfkbhaaDoorChecked
import Derived.Test.YtcfbiafedfkbhaaDoorProg
import Derived.WalkKit
import Derived.WalkSpells
import Derived.Test.YtcfbiafedfkbhaaDoorS27
import Derived.Test.YtcfbiafedfkbhaaDoorS30
import Derived.Test.YtcfbiafedfkbhaaDoorS36
import Derived.Test.YtcfbiafedfkbhaaDoorS23
import Derived.Test.YtcfbiafedfkbhaaDoorS28
import Derived.Test.YtcfbiafedfkbhaaDoorS31
import Derived.Test.YtcfbiafedfkbhaaDoorS35
namespace Go.Proofs.YtcfbiafedfkbhaaDoor
open Go.RowKit
set_option linter.unusedVariables false
set_option linter.unusedSimpArgs false

def nonB (iv : List UInt8) (n j : Nat) : UInt8 := if j < 4 then gb iv j else xr (gb iv j) (UInt8.ofNat (n / 2 ^ (8 * (11 - j))))
def rnK (iv : List UInt8) (n i : Nat) : List UInt8 := (List.range 12).map fun j => if j < i then nonB iv n j else 0
theorem rnK_len (iv : List UInt8) (n i : Nat) : (rnK iv n i).length = 12 := by simp [rnK]
theorem gb_rnK (iv : List UInt8) (n i j : Nat) (hj : j < 12) : gb (rnK iv n i) j = if j < i then nonB iv n j else 0 := by
  unfold gb rnK
  rw [List.getD_eq_getElem?_getD, List.getElem?_map, List.getElem?_range hj]
  rfl
theorem gb_setN (l : List UInt8) (i j : Nat) (x : UInt8) (hi : i < l.length) : gb (l.set i x) j = if i = j then x else gb l j := by
  unfold gb
  rw [List.getD_eq_getElem?_getD, List.getD_eq_getElem?_getD, List.getElem?_set]
  split
  · first | rfl | (rw [if_pos hi]; rfl)
  · rfl
theorem rnK_step (iv : List UInt8) (n i : Nat) (hi : i < 12) : (rnK iv n i).set i (nonB iv n i) = rnK iv n (i + 1) := by
  apply gb_ext (by rw [List.length_set, rnK_len, rnK_len])
  intro j hj
  rw [rnK_len] at hj
  rw [gb_setN _ _ _ _ (by rw [rnK_len]; exact hi), gb_rnK _ _ _ _ hj, gb_rnK _ _ _ _ hj]
  by_cases e : i = j
  · subst e; rw [if_pos rfl, if_pos (by omega)]
  · rw [if_neg e]
    by_cases h : j < i
    · rw [if_pos h, if_pos (by omega)]
    · rw [if_neg h, if_neg (by omega)]
theorem gb_nonK (iv : List UInt8) (n : Nat) (hl : iv.length = 12) : ∀ i, i ≤ 8 → ∀ j, j < 12 → gb (nonK iv n i) j = if 11 - j < i then xr (gb iv j) (UInt8.ofNat (n / 2 ^ (8 * (11 - j)))) else gb iv j
  | 0, _, j, _ => by rw [if_neg (by omega)]; rfl
  | i + 1, hi, j, hj => by
    rw [nonK, gb_setN _ _ _ _ (by rw [nonK_len, hl]; omega)]
    by_cases e : 11 - i = j
    · subst e
      rw [if_pos rfl, gb_nonK iv n hl i (by omega) _ hj, if_neg (by omega), if_pos (by omega), show 11 - (11 - i) = i by omega]
    · rw [if_neg e, gb_nonK iv n hl i (by omega) _ hj]
      by_cases h : 11 - j < i
      · rw [if_pos h, if_pos (by omega)]
      · rw [if_neg h, if_neg (by omega)]
theorem rnK_all (iv : List UInt8) (n : Nat) (hl : iv.length = 12) : rnK iv n 12 = nonS iv n := by
  apply gb_ext (by rw [rnK_len, nonS_len _ _ hl])
  intro j hj
  rw [nonS_len _ _ hl] at hj
  rw [gb_rnK _ _ _ _ hj, if_pos hj, nonS, gb_nonK iv n hl 8 (by decide) j hj, nonB]
  by_cases h : j < 4
  · rw [if_pos h, if_neg (by omega)]
  · rw [if_neg h, if_pos (by omega)]
theorem z12_AB : AB (List.replicate 12 0) = #[.int .u8 0, .int .u8 0, .int .u8 0, .int .u8 0, .int .u8 0, .int .u8 0, .int .u8 0, .int .u8 0, .int .u8 0, .int .u8 0, .int .u8 0, .int .u8 0] := by kernel_rfl
theorem rn_zero (iv : List UInt8) (n : Nat) : AB (rnK iv n 0) = #[.int .u8 0, .int .u8 0, .int .u8 0, .int .u8 0, .int .u8 0, .int .u8 0, .int .u8 0, .int .u8 0, .int .u8 0, .int .u8 0, .int .u8 0, .int .u8 0] := z12_AB
def rhC (sec : List UInt8) (n : Nat) : Array Value := #[S sec, .int .i64 (n : Int)]
set_option maxRecDepth 100000 in
set_option maxHeartbeats 4000000 in
theorem rnonce_any (w : World) (g n : Nat) (t : TypeId) (sec : List UInt8) (hr : Row w g t (rhC sec n)) (hk : sec.length = 32) (hn : n ≤ 1000) :
    Calls Tryd.prog 38 #[.pointer (some ⟨g, 0, none⟩)] w fun e w' => e = .returned (.agg (AB (nonS (ivS sec) n))) ∧ Below w.heap.size w w' := by
  have HR := Lib.hid hr
  have hlt := hr.lt
  have HLT := Lib.hid hlt
  have nlt : g ≠ w.heap.size := by omega
  have c0 : ∀ o : Obj, (w.alloc o).cell? ⟨g, 0, none⟩ = some (S sec) := fun o => ((hr.alloc o).cell 0)
  have HI := Lib.hid (fun W => rlab_iv W sec hk)
  have m1 : (n : Int) ≤ 1000 := by omega
  have m2 : (0 : Int) ≤ (n : Int) := by omega
  obtain ⟨iv, hiv⟩ : ∃ iv, iv = ivS sec := ⟨_, rfl⟩
  have hil : iv.length = 12 := by rw [hiv]; exact ivS_len sec
  rw [← hiv] at HI ⊢
  clear hr hlt hiv
  go_enter Tryd.func38, Tryd.ntmps38
  go_wp2_with fail
  refine (HI.out _).mono ?_
  rintro e w1 ⟨rfl, hB1⟩
  have hs1 : w.heap.size + 1 ≤ w1.heap.size := by have := hB1.size; simpa using this
  have HR2 := Lib.hid (show RowN w1 w.heap.size 50 12 from by
    obtain ⟨z, hz, hzs⟩ := RowN.newAt w w.heap.size 50 #[.int .u8 0, .int .u8 0, .int .u8 0, .int .u8 0, .int .u8 0, .int .u8 0, .int .u8 0, .int .u8 0, .int .u8 0, .int .u8 0, .int .u8 0, .int .u8 0] rfl
    exact ⟨z, hz.below hB1 hz.lt, hzs⟩)
  have HB1 := Lib.hid (((Below.refl _ w).alloc (Nat.le_refl _) _).trans (hB1.mono (by simp)))
  have HL := Lib.hid hil
  clear hB1 hil
  obtain ⟨g5, hg5⟩ : ∃ g, g = w1.heap.size := ⟨_, rfl⟩
  have HR5 := Lib.hid (show Row (w1.alloc (.cells (AB (rnK iv n 0)) 50)) g5 50 (AB (rnK iv n 0)) from Row.newAt _ _ _ _ hg5)
  have HB5 := Lib.hid (show Below w.heap.size w (w1.alloc (.cells (AB (rnK iv n 0)) 50)) from HB1.out.alloc HB1.out.size _)
  have hz12 := rn_zero iv n
  rw [hz12] at HR5 HB5
  have HR6 := Lib.hid (HR2.out.alloc (.cells #[.int .u8 0, .int .u8 0, .int .u8 0, .int .u8 0, .int .u8 0, .int .u8 0, .int .u8 0, .int .u8 0, .int .u8 0, .int .u8 0, .int .u8 0, .int .u8 0] 50))
  have HG5 := Lib.hid (show w.heap.size + 1 ≤ g5 by omega)
  go_wp2_with fail
  subst hg5
  go_loopg [6] 12 (fun gk t6 wx => ∃ (i : Nat), gk + i = 12 ∧ t6 = .int .i64 (i : Int) ∧ Row wx w1.heap.size 50 (AB (rnK iv n i)) ∧ RowN wx w.heap.size 50 12 ∧ Below w.heap.size w wx)
  case atStart => exact ⟨0, by omega, rfl, by rw [hz12]; exact HR5.out, HR6.out, HB5.out⟩
  case round =>
    clear hz12 HR5 HB5 HR6 HR2 HB1 hs1
    obtain ⟨i, hi, rfl, hr5, hr2, hB⟩ := hrel
    by_cases h12 : i < 12
    · have i1 : (i : Int) < 12 := by omega
      have i0 : (0 : Int) ≤ (i : Int) := by omega
      have i2 : i < 12 := h12
      have il : iv.length = 12 := HL.out
      obtain ⟨X, hX⟩ : ∃ X, X = rnK iv n i := ⟨_, rfl⟩
      have hXl : X.length = 12 := by rw [hX]; exact rnK_len _ _ _
      rw [← hX] at hr5
      have hlt5 := hr5.lt
      have cN : wr.cell? ⟨g, 1, none⟩ = some (.int .i64 (n : Int)) := by rw [(HR.out.below hB HLT.out).cell]; rfl
      have HS := Lib.hid (⟨hr5, hr2, hB⟩ : _ ∧ _ ∧ _)
      by_cases h4 : i < 4
      · have i4 : ¬ (4 : Int) ≤ (i : Int) := by omega
        have HXS := Lib.hid (show X.set i (gb iv i) = rnK iv n (i + 1) by rw [hX, ← rnK_step _ _ _ h12, nonB, if_pos h4])
        have HI2 := Lib.hid (⟨hi, h12⟩ : _ ∧ _)
        clear hX hr2 hB hi h12 h4 cN
        go_wp2_with fail
        go_roundg (gk - 1)
        case measure => have := HI2.out; omega
        case rel => exact ⟨i + 1, by have := HI2.out; omega, by go_num, by rw [← HXS.out]; exact hr5.setByte i _, HS.out.2.1.setOther _ _ (by have := HG5.out; simp; omega), HS.out.2.2.setCell (by have := HG5.out; simp; omega) _⟩
      · have i4 : (4 : Int) ≤ (i : Int) := by omega
        obtain ⟨q, hq⟩ : ∃ q, q = 11 - i := ⟨_, rfl⟩
        obtain ⟨e, he⟩ : ∃ e, e = 8 * q := ⟨_, rfl⟩
        have s1 : (11 : Int) - (i : Int) = (q : Int) := by omega
        have s2 : (8 : Int) * (q : Int) = (e : Int) := by omega
        have d4 : (0 : Int) ≤ (e : Int) := by omega
        have d5 : (e : Int) ≤ 56 := by omega
        have d6 : (0 : Int) ≤ (q : Int) := by omega
        have d7 : (q : Int) ≤ 7 := by omega
        have v8 : IntKind.u8.wrap ((n : Int) / 2 ^ e) = ((UInt8.ofNat (n / 2 ^ e)).toNat : Int) := by rw [← u8wrapS]; simp
        obtain ⟨x, hx⟩ : ∃ x, x = UInt8.ofNat (n / 2 ^ e) := ⟨_, rfl⟩
        rw [← hx] at v8
        obtain ⟨y, hy⟩ : ∃ y, y = gb iv i := ⟨_, rfl⟩
        obtain ⟨X1, hX1⟩ : ∃ L, L = X.set i y := ⟨_, rfl⟩
        have hX1l : X1.length = 12 := by rw [hX1, List.length_set]; exact hXl
        have HXS := Lib.hid (show X1.set i (xr y x) = rnK iv n (i + 1) by rw [hX1, List.set_set, hX, ← rnK_step _ _ _ h12, nonB, if_neg h4, hx, he, hq, hy])
        have hgX : gb X1 i = y := by rw [hX1, gb_setN _ _ _ _ (by omega), if_pos rfl]
        have HI2 := Lib.hid (⟨hi, h12, hx, hX, hX1, hq, he⟩ : _ ∧ _ ∧ _ ∧ _ ∧ _ ∧ _ ∧ _)
        have HY := Lib.hid hy
        clear hX hr2 hB hi h12 h4 hx hq he
        go_upto_region 8 with (fail)
        rw [← HY.out]
        obtain ⟨w2, hw2⟩ : ∃ W, W = wr.setCell ⟨w1.heap.size, i, none⟩ (B y) := ⟨_, rfl⟩
        rw [← hw2]
        have hr6 : Row w2 w1.heap.size 50 (AB X1) := by rw [hw2, hX1]; exact hr5.setByte i _
        have HS2 := Lib.hid (show RowN w2 w.heap.size 50 12 ∧ Below w.heap.size w w2 from ⟨by rw [hw2]; exact HS.out.2.1.setOther _ _ (by have := HG5.out; simp; omega), by rw [hw2]; exact HS.out.2.2.setCell (by have := HG5.out; simp; omega) _⟩)
        have cX : w2.drew.cell? ⟨w1.heap.size, i, none⟩ = some (B y) := by rw [hr6.drew.cell, ← hgX]; exact AB_get X1 i (by omega)
        have c13 : w2.drew.cell? ⟨g, 1, none⟩ = some (.int .i64 (n : Int)) := by rw [(HR.out.below HS2.out.2 HLT.out).drew.cell]; rfl
        have hr6' := hr6.drew
        have hlt6 := hr6.lt
        clear hw2 hr5 hlt5 cN hgX hX1 hy
        refine wp_region_qtail (fun w' => w' = _) 14 (by kernel_rfl) (by kernel_rfl) rfl ?_
        simp only [List.take_succ_cons, List.take_zero, List.drop_succ_cons, List.drop_zero]
        repeat (first | go_big_quiet_skip | (go_big_quiet_want; go_big_quiet_op; go_big_quiet_on))
        refine wpQuiet_nil ?_
        rintro _ rfl
        go_wp2_with fail
        go_roundg (gk - 1)
        case measure => have := HI2.out; omega
        case rel => exact ⟨i + 1, by have := HI2.out; omega, by go_num, by rw [← HXS.out]; exact hr6'.setByte i _, HS2.out.1.drew.setOther _ _ (by have := HG5.out; simp; omega), HS2.out.2.drew.setCell (by have := HG5.out; simp; omega) _⟩
    · obtain rfl : i = 12 := by omega
      have i1 : ¬ ((12 : Nat) : Int) < 12 := by omega
      have hall := rnK_all iv n HL.out
      rw [hall] at hr5
      obtain ⟨X, hX⟩ : ∃ X, X = nonS iv n := ⟨_, rfl⟩
      rw [← hX] at hr5
      have hXl : X.length = 12 := by rw [hX, ← hall]; exact rnK_len _ _ _
      have hXs := (AB_size X).trans hXl
      have hsX := sub_all (AB X) 12 hXs
      obtain ⟨z, hz, hzs⟩ := hr2
      have hov : over z 0 (AB X) = AB X := over_all _ _ (hzs.trans hXs.symm)
      have hlt3 := hr5.lt
      have HX := Lib.hid hX
      clear hX hall
      go_wp2_with fail
      exact ret_row (.inl rfl) rfl w.heap.size _ _ 12 _ rfl (hz.setRow _) Tryd.underlying50 rfl (by kernel_rfl) hXs ⟨by rw [HX.out], bSetRow hB (Nat.le_refl _) _⟩
end Go.Proofs.YtcfbiafedfkbhaaDoor

namespace Go.Proofs.YtcfbiafedfkbhaaDoor
open Go.RowKit
set_option linter.unusedVariables false
set_option linter.unusedSimpArgs false

set_option maxRecDepth 100000 in
set_option maxHeartbeats 4000000 in
theorem recSeal_big (w : World) (g k pad n c : Nat) (a : Option Addr) (hk : 21 ≤ k ∧ k ≤ 23) (hn : n ≤ 1000000) (hp : 16384 < n + pad) :
    Calls Tryd.prog 9 #[.pointer (some ⟨g, 0, none⟩), .int .i64 (k : Int), .slice a n c, .int .i64 (pad : Int)] w fun e w' =>
      e = .returned (.tuple #[.slice none 0 0, .int .i64 4]) ∧ w' = w := by
  have hkb : kindB (k : Int) = true := by unfold kindB; simp; omega
  have HKB := Lib.hid hkb
  have m1 : ¬ (pad : Int) < 0 := by omega
  have m2 : ((16384 : Int) - (n : Int)) < (pad : Int) := by omega
  have m4 : (n : Int) ≤ 1000000 := by omega
  clear hk hp hn hkb
  go_enter Tryd.func9, Tryd.ntmps9
  go_wp2_with (go_at_call 29; refine (isKind_any _ _).mono ?_; rintro e w' ⟨rfl, rfl⟩; rw [HKB.out])
  go_ret2
  exact ⟨rfl, rfl⟩
theorem made_bytesR (n : Nat) : madeCells (Value.int .u8 0).cells (n * 1) = AB (List.replicate n 0) := by
  apply Array.ext (by simp [size_madeCells, AB])
  intro i h1 h2
  simp [madeCells, AB, Value.cells]
  rw [Nat.mod_one]
  rfl
theorem make_bytesR (w : World) (n : Nat) (hn : n ≤ 1000000) : (Instr.makeSlice 23 (.int .i64 (n : Int)) (.int .i64 (n : Int))).run Tryd.prog w = .ok (.slice (some ⟨w.heap.size, 0, none⟩) n n) (w.alloc (.cells (AB (List.replicate n 0)) 5)) := by
  obtain ⟨i0, hi, hz0, hz1, hz2⟩ := info_parts info_u8H
  have := run_make (P := Tryd.prog) w 23 5 i0 (.int .u8 0) Tryd.underlying23 hi hz0 .i64 .i64 (n : Int) (n : Int) (by omega) (by omega) (by rw [hz2]; omega) (by omega)
  rw [this, hz1]
  simp only [Int.toNat_natCast, made_bytesR]
end Go.Proofs.YtcfbiafedfkbhaaDoor

namespace Go.Proofs.YtcfbiafedfkbhaaDoor
open Go.RowKit
set_option linter.unusedVariables false
set_option linter.unusedSimpArgs false

set_option maxRecDepth 100000 in
theorem rrs_kind (w : World) (p : Value) (k pad : Int) (l : List UInt8) (hk : kindB k = false) :
    Calls Tryd.prog 15 #[p, .int .i64 k, S l, .int .i64 pad] w fun e w' => e = .returned (.tuple #[S [], .int .i64 1]) ∧ w' = w := by
  have HKB := Lib.hid hk
  clear hk
  go_enter Tryd.func15, Tryd.ntmps15
  go_wp2_with (go_at_call 37; refine (rkind_any _ _).mono ?_; rintro e w' ⟨rfl, rfl⟩; rw [HKB.out])
  go_ret2
  exact ⟨rfl, rfl⟩
set_option maxRecDepth 100000 in
theorem rrs_neg (w : World) (p : Value) (k pad : Int) (l : List UInt8) (hk : kindB k = true) (hp : pad < 0) :
    Calls Tryd.prog 15 #[p, .int .i64 k, S l, .int .i64 pad] w fun e w' => e = .returned (.tuple #[S [], .int .i64 1]) ∧ w' = w := by
  have HKB := Lib.hid hk
  clear hk
  go_enter Tryd.func15, Tryd.ntmps15
  go_wp2_with (go_at_call 37; refine (rkind_any _ _).mono ?_; rintro e w' ⟨rfl, rfl⟩; rw [HKB.out])
  go_ret2
  exact ⟨rfl, rfl⟩
set_option maxRecDepth 100000 in
theorem rrs_big (w : World) (p : Value) (k pad : Int) (l : List UInt8) (hk : kindB k = true) (hp : 0 ≤ pad) (hl : l.length ≤ 1000) (hb : 16384 < (l.length : Int) + pad) :
    Calls Tryd.prog 15 #[p, .int .i64 k, S l, .int .i64 pad] w fun e w' => e = .returned (.tuple #[S [], .int .i64 4]) ∧ w' = w := by
  have HKB := Lib.hid hk
  have m0 : ¬ pad < 0 := by omega
  have m1 : (l.length : Int) ≤ 1000 := by omega
  clear hk hl
  by_cases hq : 16384 < pad
  · clear hb m1
    go_enter Tryd.func15, Tryd.ntmps15
    go_wp2_with (go_at_call 37; refine (rkind_any _ _).mono ?_; rintro e w' ⟨rfl, rfl⟩; rw [HKB.out])
    go_ret2
    exact ⟨rfl, rfl⟩
  · have m2 : pad ≤ 16384 := by omega
    go_enter Tryd.func15, Tryd.ntmps15
    go_wp2_with (go_at_call 37; refine (rkind_any _ _).mono ?_; rintro e w' ⟨rfl, rfl⟩; rw [HKB.out])
    go_ret2
    exact ⟨rfl, rfl⟩
def rowF (B : Nat) (ls : Tmp → List UInt8) (d : Tmp) (v : Value) (w : World) : Prop := ∃ g, v = .slice (some ⟨g, 0, none⟩) (ls d).length (ls d).length ∧ B ≤ g ∧ Row w g 5 (AB (ls d))
theorem rowF_stab (B : Nat) (ls : Tmp → List UInt8) : StabP (rowF B ls) := by
  intro d v w w' ⟨g, h1, h2, h3⟩ hb
  exact ⟨g, h1, h2, h3.below hb h3.lt⟩
theorem rowS {B : Nat} {ls : Tmp → List UInt8} {d : Tmp} {v : Value} {w : World} {l : List UInt8} (h : rowF B ls d v w) (hl : ls d = l) (hn : l.length ≤ 1000000) : SlB w v l := by
  obtain ⟨g, h1, h2, h3⟩ := h
  subst h1
  rw [hl] at h3 ⊢
  exact h3.slW hn
theorem rhead_23 (w : World) (n : Nat) (hn : n ≤ 900000) : Calls Tryd.prog 17 #[.int .i64 23, .int .i64 ((n : Int) + 16)] w fun e w' => e = .returned (S (headS 23 (n + 16))) ∧ Below w.heap.size w w' := by
  have := rhead_any w 23 (n + 16) (by decide) (by omega)
  rw [show (((n + 16 : Nat)) : Int) = (n : Int) + 16 by omega] at this
  exact this
theorem rgs_any (W : World) (sec I : List UInt8) (n : Nat) (hI : I.length ≤ 900000) :
    Calls Tryd.prog 18 #[S (keyS sec), .agg (AB (nonS (ivS sec) n)), S I, S (headS 23 (I.length + 16))] W fun e w' => e = .returned (S (sealW sec n I)) ∧ Below W.heap.size W w' :=
  refGSeal_any (keyS sec) (nonS (ivS sec) n) I (headS 23 (I.length + 16)) W (.inl (keyS_len sec)) (nonS_len _ _ (ivS_len sec)) (by omega) (by show 5 ≤ _; omega)
set_option maxRecDepth 100000 in
set_option maxHeartbeats 4000000 in
theorem rrs_ok (w : World) (g n k pad : Nat) (sec l : List UInt8) (hr : Row w g 39 (rhC sec n)) (hs : sec.length = 32) (hk : 21 ≤ k ∧ k ≤ 23) (hp : l.length + pad ≤ 16384) (hn : n < 1000) :
    Calls Tryd.prog 15 #[.pointer (some ⟨g, 0, none⟩), .int .i64 (k : Int), S l, .int .i64 (pad : Int)] w fun e w' => e = .returned (.tuple #[S (recS sec n (innS k l pad)), .int .i64 0]) ∧ Row w' g 39 (rhC sec (n + 1)) ∧ w.grownBy w' (some g) := by
  have hkb : kindB (k : Int) = true := by unfold kindB; simp; omega
  have HKB := Lib.hid hkb
  have HR := Lib.hid hr
  have hlt := hr.lt
  have HLT := Lib.hid hlt
  obtain ⟨x, hx⟩ : ∃ x, x = UInt8.ofNat k := ⟨_, rfl⟩
  have hu := u8wr k (k : Int) rfl
  rw [← hx] at hu
  obtain ⟨Z, hZ⟩ : ∃ Z, Z = List.replicate pad (0 : UInt8) := ⟨_, rfl⟩
  have hZl : Z.length = pad := by rw [hZ, List.length_replicate]
  obtain ⟨E1, hE1⟩ : ∃ E, E = l ++ [x] := ⟨_, rfl⟩
  obtain ⟨I, hI⟩ : ∃ I, I = innS k l pad := ⟨_, rfl⟩
  have hIe : I = E1 ++ Z := by rw [hI, hE1, hZ, hx]; rfl
  have hIl : I.length = l.length + 1 + pad := by rw [hI, innS_len]
  have a1 : ∀ W, (Op.stringOp .add ⟨l.toArray⟩ ⟨#[x]⟩).run Tryd.prog W = .ok (S E1) W := fun W => by rw [hE1]; exact add_W l [x] (by simp; omega) W
  have a2 : ∀ W, (Op.stringOp .add ⟨E1.toArray⟩ ⟨Z.toArray⟩).run Tryd.prog W = .ok (S I) W := fun W => by rw [hIe]; exact add_W E1 Z (by rw [hE1, hZl]; simp; omega) W
  have hmk := fun W => make_bytesR W pad (by omega)
  rw [← hZ] at hmk
  have cS : ∀ W : World, Row W g 39 (rhC sec n) → W.cell? ⟨g, 0, none⟩ = some (S sec) := fun W h => h.cell 0
  have cN : ∀ W : World, Row W g 39 (rhC sec n) → W.cell? ⟨g, 1, none⟩ = some (.int .i64 (n : Int)) := fun W h => h.cell 1
  have HC := Lib.hid (⟨cS, cN⟩ : _ ∧ _)
  have m0 : ¬ (pad : Int) < 0 := by omega
  have m1 : ¬ (16384 : Int) < (pad : Int) := by omega
  have m2 : ¬ (16384 : Int) < (l.length : Int) + (pad : Int) := by omega
  have m3 : (pad : Int) ≤ 16384 := by omega
  have m4 : (l.length : Int) ≤ 16384 := by omega
  have m5 : ¬ (1000 : Int) ≤ (n : Int) := by omega
  have m6 : (n : Int) ≤ 999 := by omega
  have c1 := cN w hr
  obtain ⟨hd, hhd⟩ : ∃ h, h = headS 23 (I.length + 16) := ⟨_, rfl⟩
  obtain ⟨sw, hsw⟩ : ∃ s, s = sealW sec n I := ⟨_, rfl⟩
  have a3 : ∀ W, (Op.stringOp .add ⟨hd.toArray⟩ ⟨sw.toArray⟩).run Tryd.prog W = .ok (S (recS sec n I)) W := fun W => by
    rw [recS_eq, ← hhd, ← hsw]
    exact add_W hd sw (by rw [hsw, sealW_len, hhd]; show 5 + _ ≤ _; omega) W
  have HRES := Lib.hid (show recS sec n I = recS sec n (innS k l pad) by rw [hI])
  have HH := Lib.hid (fun W => show Calls Tryd.prog 17 #[.int .i64 23, .int .i64 ((I.length : Int) + 16)] W (fun e w' => e = .returned (S hd) ∧ Below W.heap.size W w') by rw [hhd]; exact rhead_23 W I.length (by omega))
  have HG := Lib.hid (fun W => show Calls Tryd.prog 18 #[S (keyS sec), .agg (AB (nonS (ivS sec) n)), S I, S hd] W (fun e w' => e = .returned (S sw) ∧ Below W.heap.size W w') by rw [hhd, hsw]; exact rgs_any W sec I n (by omega))
  have HN := Lib.hid (fun W (h : Row W g 39 (rhC sec n)) => rnonce_any W g n _ sec h hs (by omega))
  have HL := Lib.hid (fun W => rlab_key W sec hs)
  have HZL := Lib.hid (⟨hZl, hp⟩ : _ ∧ _)
  have m7 : (I.length : Int) ≤ 16400 := by omega
  clear hkb hr hx hZ hZl hE1 hI hIe hIl hhd hsw hs hk hp hn cS cN
  go_enter Tryd.func15, Tryd.ntmps15
  go_upto_region 7 with (go_at_call 37; refine (rkind_any _ _).mono ?_; rintro e w' ⟨rfl, rfl⟩; rw [HKB.out])
  refine wp_region_free 9 [39, 43] (rowF w.heap.size (fun d => if d = 39 then [x] else Z)) (by kernel_rfl) (by kernel_rfl) (by kernel_rfl) (rowF_stab _ _) ?_
  simp only [List.take_succ_cons, List.take_zero, List.drop_succ_cons, List.drop_zero]
  apply Exists.intro
  apply Exists.intro
  refine ⟨?_, ?_, ?_⟩
  · intro ν
    iterate 3 (apply wpF_q rfl; focus (intro C hC hG; (first | go_big_quiet_skip | (go_big_quiet_want; go_big_quiet_op; first | go_big_quiet_on | (refine ⟨_, fun _ _ => rfl, ?_⟩; go_big_quiet_on)) | (go_big_quiet_want; apply qf_load1 _ _ rfl _ _ rfl; (exact hC); rotate_left 1; (focus (intro _; simp [go_sem]; done)); rotate_right 1; assumption; assumption; (simp only [Act.put, lS]; go_big_quiet_on)) | (go_big_quiet_want; apply qf_loadA _ _ rfl _ _ rfl (sz := 32); (exact hC); rotate_left 1; (focus (intro _; simp [go_sem]; done)); (focus (intro _; simp [go_sem]; done)); rotate_right 1; assumption; assumption; assumption; (simp only [Act.put, lS]; go_big_quiet_on))); exact wpQuiet_nil rfl))
    apply wpF_alloc rfl rfl
    · intro w' hb _
      refine ⟨.slice (some ⟨w'.heap.size, 0, none⟩) 1 1, w'.alloc (.cells #[B x] 5), ?_, ?_, (Below.refl _ w').alloc (Nat.le_refl _) _⟩
      · simp [go_sem]
      · intro d hd
        cases hd
        exact ⟨_, rfl, hb.size, Row.new _ _ _⟩
    simp only [Act.put, vqF, pS]
    (apply wpF_q rfl; focus (intro C hC hG; go_big_quiet_want; apply qf_conv; (focus rfl); (exact hC); (focus rfl); (exact Tryd.underlying23); (exact Tryd.underlying5); (exact Tryd.underlying9); (exact (fun w' hb hf => rowS (l := [x]) (hf 39 (by decide) rfl) rfl (by simp))); (simp only [Act.put, lS]; go_big_quiet_on); exact wpQuiet_nil rfl))
    iterate 2 (apply wpF_q rfl; focus (intro C hC hG; (first | go_big_quiet_skip | (go_big_quiet_want; go_big_quiet_op; first | go_big_quiet_on | (refine ⟨_, fun _ _ => rfl, ?_⟩; go_big_quiet_on)) | (go_big_quiet_want; apply qf_load1 _ _ rfl _ _ rfl; (exact hC); rotate_left 1; (focus (intro _; simp [go_sem]; done)); rotate_right 1; assumption; assumption; (simp only [Act.put, lS]; go_big_quiet_on)) | (go_big_quiet_want; apply qf_loadA _ _ rfl _ _ rfl (sz := 32); (exact hC); rotate_left 1; (focus (intro _; simp [go_sem]; done)); (focus (intro _; simp [go_sem]; done)); rotate_right 1; assumption; assumption; assumption; (simp only [Act.put, lS]; go_big_quiet_on))); exact wpQuiet_nil rfl))
    apply wpF_alloc rfl rfl
    · intro w' hb _
      refine ⟨.slice (some ⟨w'.heap.size, 0, none⟩) pad pad, w'.alloc (.cells (AB Z) 5), ?_, ?_, (Below.refl _ w').alloc (Nat.le_refl _) _⟩
      · simp [go_sem, hmk]
      · intro d hd
        cases hd
        exact ⟨w'.heap.size, by show Value.slice _ pad pad = Value.slice _ Z.length Z.length; rw [HZL.out.1], hb.size, Row.new _ _ _⟩
    simp only [Act.put, vqF, pS]
    (apply wpF_q rfl; focus (intro C hC hG; go_big_quiet_want; apply qf_conv; (focus rfl); (exact hC); (focus rfl); (exact Tryd.underlying23); (exact Tryd.underlying5); (exact Tryd.underlying9); (exact (fun w' hb hf => rowS (l := Z) (hf 43 (by decide) rfl) rfl (by have := HZL.out; omega))); (simp only [Act.put, lS]; go_big_quiet_on); exact wpQuiet_nil rfl))
    exact wpF_nil ⟨rfl, rfl⟩
  · intro ν ν'
    kernel_rfl
  · intro ν w4 hw4 hf
    have HR4 := Lib.hid (show Row w4 g 39 (rhC sec n) from (HR.out.drew).below hw4 HLT.out)
    have HB4 := Lib.hid (show Below w.heap.size w w4 from (Below.refl _ _).drew.trans hw4)
    have c0 := HC.out.1 w4 HR4.out
    clear hf hw4 c1
    go_wp2_with fail
    refine (HL.out _).mono ?_
    rintro e w5 ⟨rfl, hB5⟩
    have HB5 := Lib.hid (HB4.out.trans (hB5.mono HB4.out.size))
    have HR5 := Lib.hid (show Row w5 g 39 (rhC sec n) from HR4.out.below hB5 (by have := HLT.out; have := HB4.out.size; omega))
    clear c0 hB5
    go_wp2_with fail
    refine (HH.out _).mono ?_
    rintro e w6 ⟨rfl, hB6⟩
    have HB6 := Lib.hid (HB5.out.trans (hB6.mono HB5.out.size))
    have HR6 := Lib.hid (show Row w6 g 39 (rhC sec n) from HR5.out.below hB6 (by have := HLT.out; have := HB5.out.size; omega))
    clear hB6
    go_wp2_with fail
    refine (HN.out _ HR6.out).mono ?_
    rintro e w7 ⟨rfl, hB7⟩
    have HB7 := Lib.hid (HB6.out.trans (hB7.mono HB6.out.size))
    have HR7 := Lib.hid (show Row w7 g 39 (rhC sec n) from HR6.out.below hB7 (by have := HLT.out; have := HB6.out.size; omega))
    clear hB7
    go_wp2_with fail
    refine (HG.out _).mono ?_
    rintro e w8 ⟨rfl, hB8⟩
    have HB8 := Lib.hid (HB7.out.trans (hB8.mono HB7.out.size))
    have hr8 := (show Row w8 g 39 (rhC sec n) from HR7.out.below hB8 (by have := HLT.out; have := HB7.out.size; omega))
    have c8 := HC.out.2 w8 hr8
    have f8 : w8.frozen? ⟨g, 1, none⟩ = false := hr8.frozen 1
    have HR8 := Lib.hid hr8
    clear hB8 hr8
    go_wp2_with fail
    go_ret2
    refine ⟨by rw [← HRES.out]; rfl, ?_, ?_⟩
    · have := HR8.out.set 1 (.int .i64 ((n + 1 : Nat) : Int))
      exact this
    · exact (below_grown HB8.out (some g)).trans (grownBy_setW w8 g 1 _)
end Go.Proofs.YtcfbiafedfkbhaaDoor
