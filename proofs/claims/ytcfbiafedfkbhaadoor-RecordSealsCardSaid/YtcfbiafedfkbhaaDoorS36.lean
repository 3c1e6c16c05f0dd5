/- Part of the proof: Recs, CutSpec, Ref12, RefLab. No conditions of its own. -/
import Derived.ArgAppend
import Derived.Below
import Derived.BigQuiet
import Derived.BigRegion
import Derived.ChangeOld
import Derived.Deep.CutBlock
import Derived.Deep.DeepCutAuto
import Derived.Deep.Draws
import Derived.Deep.LoopGhost
import Derived.Deep.Quiet
import Derived.Deep.QuietTactic
import Derived.Deep.RegionHeld3
import Derived.Deep.RegionLaw
import Derived.Laws.AppendOwnNone
import Derived.Laws.Bits64
import Derived.Laws.BitsAllLaws
import Derived.Laws.BytesArg
import Derived.Laws.Concat
import Derived.Laws.CopyOwn
import Derived.Laws.MakeOwn
import Derived.Lib.AppendStr
import Derived.Lib.AppendZerosOnto
import Derived.Lib.Hide
import Derived.Lib.SlBytesConst
import Derived.LoopIn
import Derived.LoopNIn
import Derived.Maps.AppendAt
import Derived.OpenShut
import Derived.OrdersIn
import Derived.OwnWalkIn
import Derived.ProofKit
import Derived.RangeFuncBound
import Derived.RangeFuncBox
import Derived.RangeFuncCalls
import Derived.RangeFuncLeaves
import Derived.RangeFuncNested
import Derived.Shelf.Abstract
import Derived.ShutString
import Derived.StillTail
import Derived.TacticsIn
import Derived.TacticsInMore
import Derived.Test.YtcfbiafedfkbhaaDoorChecked
import Derived.Test.YtcfbiafedfkbhaaDoorProg
import Derived.WalkKit
import Derived.WalkSpells
import Derived.Test.YtcfbiafedfkbhaaDoorS35
import Derived.Test.YtcfbiafedfkbhaaDoorS22
import Derived.Test.YtcfbiafedfkbhaaDoorS23
import Derived.Test.YtcfbiafedfkbhaaDoorS31
import Derived.Test.YtcfbiafedfkbhaaDoorS28
import Derived.Lib.BufferMore
import Derived.Lib.ConvBytes
import Derived.Test.YtcfbiafedfkbhaaDoorS27
namespace Go.Proofs.YtcfbiafedfkbhaaDoor
open Go.RowKit
set_option linter.unusedVariables false
set_option linter.unusedSimpArgs false

def secL (b : UInt8) : List UInt8 := b :: List.replicate 31 0
theorem rnew_lit (w : World) (b : UInt8) (x : Int) (hx : (b.toNat : Int) = x) (hv : HashW w) : Calls Tryd.prog 8 #[.agg #[.int .u8 x, .int .u8 0, .int .u8 0, .int .u8 0, .int .u8 0, .int .u8 0, .int .u8 0, .int .u8 0, .int .u8 0, .int .u8 0, .int .u8 0, .int .u8 0, .int .u8 0, .int .u8 0, .int .u8 0, .int .u8 0, .int .u8 0, .int .u8 0, .int .u8 0, .int .u8 0, .int .u8 0, .int .u8 0, .int .u8 0, .int .u8 0, .int .u8 0, .int .u8 0, .int .u8 0, .int .u8 0, .int .u8 0, .int .u8 0, .int .u8 0, .int .u8 0]] w fun e w' => ∃ g, e = .returned (.pointer (some ⟨g, 0, none⟩)) ∧ w.heap.size ≤ g ∧ HalfW w' g (secL b) 0 ∧ Below w.heap.size w w' := by
  subst hx
  exact rnew_any w (secL b) hv rfl
theorem bare22 (w : World) (v : Value) (hS : SlB w v [97, 98]) : Calls Tryd.prog 21 #[.int .i64 22, v] w fun e w' => ∃ v', e = .returned (.tuple #[v', .int .i64 0]) ∧ OwnW w' w.heap.size v' (bareS 22 [97, 98]) ∧ Below w.heap.size w w' :=
  bare_ok w 22 [97, 98] v hS (by decide) (by decide)
theorem seal22 (w : World) (g : Nat) (v : Value) (h : HalfW w g (secL 1) 0) (hS : SlB w v [97, 98]) : Calls Tryd.prog 9 #[.pointer (some ⟨g, 0, none⟩), .int .i64 22, v, .int .i64 3] w fun e w' =>
      ∃ v', e = .returned (.tuple #[v', .int .i64 0]) ∧ OwnW w' w.heap.size v' (recS (secL 1) 0 (innS 22 [97, 98] 3)) ∧ HalfW w' g (secL 1) (0 + 1) ∧ w.grownBy w' (some g) :=
  recSeal_any w g 0 22 3 (secL 1) [97, 98] v h hS (by decide) (by decide) (by decide)
theorem open22 (w : World) (g c : Nat) (a : Option Addr) (h : HalfW w g (secL 1) 0) (hS : SlB w (.slice a 27 c) (recS (secL 1) 0 (innS 22 [97, 98] 3))) : Calls Tryd.prog 11 #[.pointer (some ⟨g, 0, none⟩), .slice a 27 c] w fun e w' =>
      ∃ v', e = .returned (.tuple #[.int .i64 22, v', .int .i64 0]) ∧ SlB w' v' [97, 98] ∧ HalfW w' g (secL 1) (0 + 1) ∧ w.grownBy w' (some g) := by
  have e : (recS (secL 1) 0 (innS 22 [97, 98] 3)).length = 27 := by rw [recS_len, innS_len]; rfl
  have := ropen_ok w g 0 22 3 c (secL 1) [97, 98] a h (by rw [e]; exact hS) (by decide) (by decide) (by decide)
  rw [e] at this
  exact this
set_option maxRecDepth 100000 in
set_option maxHeartbeats 4000000 in
theorem records_any (w : World) (hv : HashW w) : Calls Tryd.prog 10 #[] w fun e w' => e = .returned (.bool true) ∧ Below w.heap.size w w' := by
  have HV := Lib.hid hv
  clear hv
  go_enter Tryd.func10, Tryd.ntmps10
  go_wp2_with fail
  have HM1 := Lib.hid (show SlB (w.alloc (.cells #[.int .u8 97, .int .u8 98] 5 (2, 3))) (.slice (some ⟨w.heap.size, 0, none⟩) 2 2) [97, 98] from SlB.marked w _ _ [97, 98] (by decide))
  have HA1 := Lib.hid (show Below w.heap.size w (w.alloc (.cells #[.int .u8 97, .int .u8 98] 5 (2, 3))) from (Below.refl _ _).alloc (Nat.le_refl _) _)
  refine (bare22 _ _ HM1.out).mono ?_
  rintro e w1 ⟨v1, rfl, ho1, hB1⟩
  obtain ⟨a1, c1, rfl, _⟩ := ho1.slb
  rw [bareS_len]
  have HB1 := Lib.hid (HA1.out.trans (hB1.mono HA1.out.size))
  have HS1 := Lib.hid ho1.slb
  clear ho1 hB1
  go_wp2_with fail
  refine (rnew_lit w1 1 1 rfl (HV.out.below HB1.out)).mono ?_
  rintro e w2 ⟨g, rfl, hg, hH, hB2⟩
  have HB2 := Lib.hid hB2
  have HH := Lib.hid hH
  have HG := Lib.hid hg
  clear hg hH hB2
  go_wp2_with fail
  have HM3 := Lib.hid (show SlB (w2.alloc (.cells #[.int .u8 97, .int .u8 98] 5 (2, 3))) (.slice (some ⟨w2.heap.size, 0, none⟩) 2 2) [97, 98] from SlB.marked w2 _ _ [97, 98] (by decide))
  have HA3 := Lib.hid (show Below w2.heap.size w2 (w2.alloc (.cells #[.int .u8 97, .int .u8 98] 5 (2, 3))) from (Below.refl _ _).alloc (Nat.le_refl _) _)
  refine (seal22 _ g _ (HH.out.below HA3.out) HM3.out).mono ?_
  rintro e w3 ⟨v3, rfl, ho3, hH3, hG3⟩
  obtain ⟨a3, c3, rfl, _⟩ := ho3.slb
  have hl3 : (recS (secL 1) 0 (innS 22 [97, 98] 3)).length = 27 := by rw [recS_len, innS_len]; rfl
  have HS3 := Lib.hid ho3.slb
  rw [hl3] at HS3 ⊢
  have HB3 := Lib.hid ((HB2.out.trans (HA3.out.mono HB2.out.size)).grown hG3 (Nat.le_trans HB2.out.size HA3.out.size) (fun j e => by obtain rfl := Option.some.inj e; exact HG.out))
  clear ho3 hH3 hG3 hl3
  go_wp2_with fail
  refine (rnew_lit w3 1 1 rfl ((HV.out.below HB1.out).below HB3.out)).mono ?_
  rintro e w4 ⟨g4, rfl, hg4, hH4, hB4⟩
  have HB4 := Lib.hid (HB3.out.trans (hB4.mono HB3.out.size))
  have HH4 := Lib.hid hH4
  have HG4 := Lib.hid (Nat.le_trans HB3.out.size hg4)
  have HS4 := Lib.hid (HS3.out.below hB4)
  clear hg4 hH4 hB4
  go_wp2_with fail
  refine (open22 w4 g4 c3 a3 HH4.out HS4.out).mono ?_
  rintro e w5 ⟨v5, rfl, hs5, hH5, hG5⟩
  have HB5 := Lib.hid (HB4.out.grown hG5 HB4.out.size (fun j e => by obtain rfl := Option.some.inj e; exact HG4.out))
  have hc5 := run_conv_slb (P := Tryd.prog) w5 23 5 9 Tryd.underlying23 Tryd.underlying5 Tryd.underlying9 _ _ hs5
  have hc1 := run_conv_slb (P := Tryd.prog) w5 23 5 9 Tryd.underlying23 Tryd.underlying5 Tryd.underlying9 _ _ (HS1.out.below HB5.out)
  obtain ⟨a5, c5, rfl, _⟩ := id hs5
  rw [show (bareS 22 [97, 98]).length = 7 from rfl] at hc1
  have e1 : S (bareS 22 [97, 98]) = .string ⟨#[22, 3, 3, 0, 2, 97, 98]⟩ := by kernel_rfl
  have e5 : S [97, 98] = .string ⟨#[97, 98]⟩ := by kernel_rfl
  rw [e1] at hc1
  rw [e5, show ([97, 98] : List UInt8).length = 2 from rfl] at hc5
  clear hs5 hH5 hG5 e1 e5
  go_wp2_with fail
  go_ret
  exact ⟨rfl, HB1.out.trans (HB5.out.mono HB1.out.size)⟩
end Go.Proofs.YtcfbiafedfkbhaaDoor

namespace Go.Proofs.YtcfbiafedfkbhaaDoor
open Go.RowKit
set_option linter.unusedVariables false

def goodB (l : List UInt8) (i : Nat) : Bool := if i = 0 then kindB ((gb l 0).toNat : Int) else gb l i == 3
def formB (l : List UInt8) : Bool := (decide (l.length ≤ 0) || goodB l 0) && ((decide (l.length ≤ 1) || goodB l 1) && (decide (l.length ≤ 2) || goodB l 2))
def cutN (l : List UInt8) : Nat := (gb l 3).toNat * 256 + (gb l 4).toNat
def cutE (l : List UInt8) : Nat := if formB l = false then 2 else if l.length < 5 then 3 else if 16640 < cutN l then 4 else if l.length < 5 + cutN l then 3 else 0
def cutA (l : List UInt8) : List UInt8 := if cutE l = 0 then l.take (5 + cutN l) else []
def cutZ (l : List UInt8) : List UInt8 := if cutE l = 0 then l.drop (5 + cutN l) else []
theorem cutA_ok {l : List UInt8} (h : cutE l = 0) : cutA l = l.take (5 + cutN l) := if_pos h
theorem cutZ_ok {l : List UInt8} (h : cutE l = 0) : cutZ l = l.drop (5 + cutN l) := if_pos h
theorem cutA_no {l : List UInt8} (h : cutE l ≠ 0) : cutA l = [] := if_neg h
theorem cutZ_no {l : List UInt8} (h : cutE l ≠ 0) : cutZ l = [] := if_neg h
def aloE (l : List UInt8) : Nat := if cutE l = 0 ∧ cutZ l ≠ [] then 2 else cutE l
def bodE (l : List UInt8) : Nat := if aloE l ≠ 0 then aloE l else if 16384 < l.length - 5 then 4 else 0
def bodK (l : List UInt8) : Nat := if bodE l = 0 then (gb l 0).toNat else 0
def bodB (l : List UInt8) : List UInt8 := if bodE l = 0 then l.drop 5 else []
end Go.Proofs.YtcfbiafedfkbhaaDoor

namespace Go.Proofs.YtcfbiafedfkbhaaDoor
open Go.RowKit
set_option linter.unusedVariables false
set_option linter.unusedSimpArgs false

theorem ext_S (l : List UInt8) (i j : Nat) : (⟨l.toArray⟩ : ByteArray).extract i j = ⟨((l.drop i).take (j - i)).toArray⟩ := by
  apply ByteArray.ext
  simp [ByteArray.data_extract]
theorem ext0_S (l : List UInt8) (j : Nat) : (⟨l.toArray⟩ : ByteArray).extract 0 j = ⟨(l.take j).toArray⟩ := by
  rw [ext_S, List.drop_zero, Nat.sub_zero]
theorem rkind_any (w : World) (k : Int) : Calls Tryd.prog 37 #[.int .i64 k] w fun e w' => e = .returned (.bool (kindB k)) ∧ w = w' := by
  by_cases h1 : 21 ≤ k
  · by_cases h2 : k ≤ 23
    · have H := Lib.hid (show kindB k = true by unfold kindB; simp [h1, h2])
      go_enter Tryd.func37, Tryd.ntmps37
      go_wp2
      go_ret
      exact ⟨by rw [H.out]; rfl, rfl⟩
    · have H := Lib.hid (show kindB k = false by unfold kindB; simp [h2])
      go_enter Tryd.func37, Tryd.ntmps37
      go_wp2
      go_ret
      exact ⟨by rw [H.out]; rfl, rfl⟩
  · have H := Lib.hid (show kindB k = false by unfold kindB; simp [h1])
    go_enter Tryd.func37, Tryd.ntmps37
    go_wp2
    go_ret
    exact ⟨by rw [H.out]; rfl, rfl⟩
set_option maxRecDepth 100000 in
theorem rhead_any (w : World) (k n : Nat) (hk : k ≤ 255) (hn : n ≤ 1000000) : Calls Tryd.prog 17 #[.int .i64 (k : Int), .int .i64 (n : Int)] w fun e w' => e = .returned (S (headS k n)) ∧ Below w.heap.size w w' := by
  have u1 := u8wr (n / 256) ((n : Int) / 256) (by simp)
  have u2 := u8wr n (n : Int) rfl
  have u3 := u8wr k (k : Int) rfl
  obtain ⟨x1, hx1⟩ : ∃ x, x = UInt8.ofNat (n / 256) := ⟨_, rfl⟩
  obtain ⟨x2, hx2⟩ : ∃ x, x = UInt8.ofNat n := ⟨_, rfl⟩
  obtain ⟨x3, hx3⟩ : ∃ x, x = UInt8.ofNat k := ⟨_, rfl⟩
  rw [← hx1] at u1
  rw [← hx2] at u2
  rw [← hx3] at u3
  have e : headS k n = [x3, 3, 3, x1, x2] := by rw [headS, ← hx1, ← hx2, ← hx3]
  rw [e]
  have hc := run_conv_slb (P := Tryd.prog) (w.alloc (.cells #[.int .u8 (x3.toNat : Int), .int .u8 3, .int .u8 3, .int .u8 (x1.toNat : Int), .int .u8 (x2.toNat : Int)] 5)) 23 5 9 Tryd.underlying23 Tryd.underlying5 Tryd.underlying9 (.slice (some ⟨w.heap.size, 0, none⟩) 5 5) [x3, 3, 3, x1, x2]
    ((Row.new w 5 (AB [x3, 3, 3, x1, x2])).slW (l := [x3, 3, 3, x1, x2]) (by simp))
  clear hx1 hx2 hx3 hk hn e
  go_enter Tryd.func17, Tryd.ntmps17
  go_wp2_with fail
  go_ret
  exact ⟨rfl, (Below.refl _ _).alloc (Nat.le_refl _) _⟩
def RCutSt (w : World) (l : List UInt8) (e : Ending) (w' : World) : Prop :=
  e = .returned (.tuple #[S (cutA l), S (cutZ l), .int .i64 (cutE l : Int)]) ∧ Below w.heap.size w w'
theorem RCutSt.no {w w' : World} {l : List UInt8} {k : Nat} (hk : cutE l = k) (h0 : k ≠ 0) (hb : Below w.heap.size w w') : RCutSt w l (.returned (.tuple #[S [], S [], .int .i64 (k : Int)])) w' := by
  refine ⟨?_, hb⟩
  rw [hk, cutA_no (by rw [hk]; exact h0), cutZ_no (by rw [hk]; exact h0)]
theorem RCutSt.ok {w w' : World} {l : List UInt8} {T : Nat} {l1 l2 : List UInt8} (hk : cutE l = 0) (hT : T = 5 + cutN l) (h1 : l1 = l.take T) (h2 : l2 = l.drop T) (hb : Below w.heap.size w w') : RCutSt w l (.returned (.tuple #[S l1, S l2, .int .i64 0])) w' := by
  subst h1
  subst h2
  subst hT
  refine ⟨?_, hb⟩
  rw [hk, cutA_ok hk, cutZ_ok hk]
  rfl
attribute [local go_sem] ext_S ext0_S
def RBodySt (w : World) (l : List UInt8) (e : Ending) (w' : World) : Prop :=
  e = .returned (.tuple #[.int .i64 (bodK l : Int), S (bodB l), .int .i64 (bodE l : Int)]) ∧ Below w.heap.size w w'
theorem RBodySt.no {w w' : World} {l : List UInt8} {k : Nat} (hk : bodE l = k) (h0 : k ≠ 0) (hb : Below w.heap.size w w') : RBodySt w l (.returned (.tuple #[.int .i64 0, S [], .int .i64 (k : Int)])) w' := by
  have h1 : bodE l ≠ 0 := by rw [hk]; exact h0
  refine ⟨?_, hb⟩
  rw [hk, bodK, if_neg h1, bodB, if_neg h1]
  rfl
theorem RBodySt.ok {w w' : World} {l l1 : List UInt8} (h0 : bodE l = 0) (h1 : l1 = l.drop 5) (hb : Below w.heap.size w w') : RBodySt w l (.returned (.tuple #[.int .i64 ((gb l 0).toNat : Int), S l1, .int .i64 0])) w' := by
  subst h1
  refine ⟨?_, hb⟩
  rw [h0, bodK, if_pos h0, bodB, if_pos h0]
  rfl
end Go.Proofs.YtcfbiafedfkbhaaDoor

namespace Go.Proofs.YtcfbiafedfkbhaaDoor
open Go.RowKit
set_option linter.unusedVariables false
set_option linter.unusedSimpArgs false

set_option maxRecDepth 100000 in
set_option maxHeartbeats 4000000 in
theorem rexp_any (w : World) (key info : List UInt8) (n : Nat) (hk : key.length ≤ 64) (hil : info.length ≤ 10000) (hn0 : 0 < n) (hn : n ≤ 32) :
    Calls Tryd.prog 39 #[S key, S info, .int .i64 (n : Int)] w fun e w' => e = .returned (.tuple #[S (expS key info n), .int .i64 0]) ∧ Below w.heap.size w w' := by
  obtain ⟨t, ht⟩ : ∃ t, t = macS key (info ++ [1]) := ⟨_, rfl⟩
  have htl : t.length = 32 := by rw [ht]; exact macS_len _ _
  have HR := Lib.hid (fun W => show Calls Tryd.prog 53 #[S key, S (info ++ [1])] W (fun e w'' => e = .returned (S t) ∧ Below W.heap.size W w'') by rw [ht]; exact rof_any W key (info ++ [1]) hk (by rw [List.length_append]; simp; omega))
  have HE := Lib.hid (show t.take n = expS key info n by rw [ht]; rfl)
  have h1 : ∀ W, (Op.stringOp .add ⟨#[]⟩ ⟨info.toArray⟩).run Tryd.prog W = .ok (S info) W := fun W => add_W [] info (by simp; omega) W
  have h2 : ∀ W, (Op.stringOp .add ⟨info.toArray⟩ ⟨#[1]⟩).run Tryd.prog W = .ok (S (info ++ [1])) W := fun W => add_W info [1] (by simp; omega) W
  have h3 : ∀ W, (Op.stringOp .add ⟨#[]⟩ ⟨t.toArray⟩).run Tryd.prog W = .ok (S t) W := fun W => add_W [] t (by simp; omega) W
  have hc := run_conv_slb (P := Tryd.prog) (w.alloc (.cells #[.int .u8 1] 5)) 23 5 9 Tryd.underlying23 Tryd.underlying5 Tryd.underlying9 (.slice (some ⟨w.heap.size, 0, none⟩) 1 1) [1]
    ((Row.new w 5 (AB [1])).slW (l := [1]) (by simp))
  have m1 : (0 : Int) < (n : Int) := by omega
  have m2 : ¬ (n : Int) < 0 := by omega
  have m3 : ¬ (8160 : Int) < (n : Int) := by omega
  have m4 : (n : Int) ≤ 32 := by omega
  have m5 : ¬ (32 : Int) < (n : Int) := by omega
  have HTL := Lib.hid htl
  have HK := Lib.hid (⟨hk, hil, hn0, hn⟩ : _ ∧ _ ∧ _ ∧ _)
  clear hk hil hn0 hn ht htl
  go_enter Tryd.func39, Tryd.ntmps39
  go_wp2_with fail
  go_loopg [8, 9, 10] 1 (fun gk t8 t9 t10 wr => (gk = 1 ∧ t8 = S [] ∧ t9 = S [] ∧ t10 = .int .i64 1 ∧ wr = w) ∨ (gk = 0 ∧ t8 = S t ∧ t9 = S t ∧ t10 = .int .i64 2 ∧ Below w.heap.size w wr))
  case atStart => exact .inl ⟨rfl, rfl, rfl, rfl, rfl⟩
  case round =>
    rcases hrel with ⟨rfl, rfl, rfl, rfl, hw⟩ | ⟨rfl, rfl, rfl, rfl, hB⟩
    · obtain rfl := hw.symm
      go_wp2_with fail
      refine (HR.out _).mono ?_
      rintro e w1 ⟨rfl, hB1⟩
      have HB1 := Lib.hid (((Below.refl _ w).alloc (Nat.le_refl _) _).trans (hB1.mono (by simp)))
      clear hB1
      go_wp2_with fail
      go_roundg 0
      case measure => omega
      case rel => exact .inr ⟨rfl, rfl, rfl, rfl, HB1.out⟩
    · have htl := HTL.out
      have hx := ext0_S t n
      rw [HE.out] at hx
      go_wp2_with fail
      go_ret2
      exact ⟨rfl, hB⟩
set_option maxRecDepth 100000 in
set_option maxHeartbeats 4000000 in
theorem rlab_any (w : World) (key ls ctx : List UInt8) (n : Nat) (hk : key.length ≤ 64) (hls : ls.length ≤ 200) (hcl : ctx.length ≤ 255) (hn0 : 0 < n) (hn : n ≤ 32) :
    Calls Tryd.prog 16 #[S key, S ls, S ctx, .int .i64 (n : Int)] w fun e w' => e = .returned (.tuple #[S (labS key ls ctx n), .int .i64 0]) ∧ Below w.heap.size w w' := by
  obtain ⟨L, hL⟩ : ∃ L, L = preS ++ ls := ⟨_, rfl⟩
  have hLl : L.length = 6 + ls.length := by rw [hL, List.length_append]; rfl
  have h1 : ∀ W, (Op.stringOp .add ⟨#[116, 108, 115, 49, 51, 32]⟩ ⟨ls.toArray⟩).run Tryd.prog W = .ok (S L) W := fun W => by rw [hL]; exact add_W preS ls (by show 6 + _ ≤ _; omega) W
  obtain ⟨N, hN⟩ : ∃ N, N = L.length := ⟨_, rfl⟩
  obtain ⟨M, hM⟩ : ∃ M, M = ctx.length := ⟨_, rfl⟩
  have u1 := u8wr (n / 256) ((n : Int) / 256) (by simp)
  have u2 := u8wr n (n : Int) rfl
  have u3 := u8wr N (N : Int) rfl
  have u4 := u8wr M (M : Int) rfl
  obtain ⟨x1, hx1⟩ : ∃ x, x = UInt8.ofNat (n / 256) := ⟨_, rfl⟩
  obtain ⟨x2, hx2⟩ : ∃ x, x = UInt8.ofNat n := ⟨_, rfl⟩
  obtain ⟨x3, hx3⟩ : ∃ x, x = UInt8.ofNat N := ⟨_, rfl⟩
  obtain ⟨x4, hx4⟩ : ∃ x, x = UInt8.ofNat M := ⟨_, rfl⟩
  rw [← hx1] at u1
  rw [← hx2] at u2
  rw [← hx3] at u3
  rw [← hx4] at u4
  have hI : labI ls ctx n = (([x1, x2, x3] ++ L) ++ [x4]) ++ ctx := by rw [labI, ← hL, hx1, hx2, hx3, hx4, hN, hM]
  have HX := Lib.hid (fun W => show Calls Tryd.prog 39 #[S key, S ((([x1, x2, x3] ++ L) ++ [x4]) ++ ctx), .int .i64 (n : Int)] W (fun e w'' => e = .returned (.tuple #[S (labS key ls ctx n), .int .i64 0]) ∧ Below W.heap.size W w'') from by
    rw [← hI]; exact rexp_any W key (labI ls ctx n) n hk (by rw [hI]; simp; omega) hn0 hn)
  have hc1 := run_conv_slb (P := Tryd.prog) (w.alloc (.cells #[.int .u8 (x1.toNat : Int), .int .u8 (x2.toNat : Int), .int .u8 (x3.toNat : Int)] 5)) 23 5 9 Tryd.underlying23 Tryd.underlying5 Tryd.underlying9 (.slice (some ⟨w.heap.size, 0, none⟩) 3 3) [x1, x2, x3]
    ((Row.new w 5 (AB [x1, x2, x3])).slW (l := [x1, x2, x3]) (by simp))
  have a1 : ∀ W, (Op.stringOp .add ⟨#[x1, x2, x3]⟩ ⟨L.toArray⟩).run Tryd.prog W = .ok (S ([x1, x2, x3] ++ L)) W := fun W => add_W [x1, x2, x3] L (by show 3 + _ ≤ _; omega) W
  obtain ⟨E1, hE1⟩ : ∃ E, E = [x1, x2, x3] ++ L := ⟨_, rfl⟩
  have hE1l : E1.length = 3 + L.length := by rw [hE1, List.length_append]; rfl
  rw [← hE1] at a1 hI HX
  have hc2 := fun W : World => run_conv_slb (P := Tryd.prog) (W.alloc (.cells #[.int .u8 (x4.toNat : Int)] 5)) 23 5 9 Tryd.underlying23 Tryd.underlying5 Tryd.underlying9 (.slice (some ⟨W.heap.size, 0, none⟩) 1 1) [x4]
    ((Row.new W 5 (AB [x4])).slW (l := [x4]) (by simp))
  have hc2' := hc2 (w.alloc (.cells #[.int .u8 (x1.toNat : Int), .int .u8 (x2.toNat : Int), .int .u8 (x3.toNat : Int)] 5))
  rw [World.size_alloc] at hc2'
  have a2 : ∀ W, (Op.stringOp .add ⟨E1.toArray⟩ ⟨#[x4]⟩).run Tryd.prog W = .ok (S (E1 ++ [x4])) W := fun W => add_W E1 [x4] (by simp; omega) W
  obtain ⟨E2, hE2⟩ : ∃ E, E = E1 ++ [x4] := ⟨_, rfl⟩
  have hE2l : E2.length = E1.length + 1 := by rw [hE2, List.length_append]; rfl
  rw [← hE2] at a2 HX
  have a3 : ∀ W, (Op.stringOp .add ⟨E2.toArray⟩ ⟨ctx.toArray⟩).run Tryd.prog W = .ok (S (E2 ++ ctx)) W := fun W => add_W E2 ctx (by omega) W
  have m1 : ¬ (n : Int) < 0 := by omega
  have m2 : ¬ (8160 : Int) < (n : Int) := by omega
  have m3 : ¬ (255 : Int) < (N : Int) := by omega
  have m4 : ¬ (255 : Int) < (M : Int) := by omega
  have m5 : (N : Int) ≤ 206 := by omega
  have m6 : (M : Int) ≤ 255 := by omega
  have hN' := hN.symm
  have hM' := hM.symm
  clear hx1 hx2 hx3 hx4 hL hLl hE1 hE1l hE2 hE2l hc2 hI hN hM hk hls hcl hn0 hn
  go_enter Tryd.func16, Tryd.ntmps16
  go_wp2_with fail
  refine (HX.out _).mono ?_
  rintro e w1 ⟨rfl, hB1⟩
  have HB1 := Lib.hid ((((Below.refl _ w).alloc (Nat.le_refl _) _).alloc (by simp) _).trans (hB1.mono (by simp; omega)))
  clear hB1
  go_wp2_with fail
  go_ret2
  exact ⟨rfl, HB1.out⟩
theorem rlab_key (w : World) (sec : List UInt8) (hk : sec.length = 32) :
    Calls Tryd.prog 16 #[S sec, .string ⟨#[107, 101, 121]⟩, .string ⟨#[]⟩, .int .i64 16] w fun e w' => e = .returned (.tuple #[S (keyS sec), .int .i64 0]) ∧ Below w.heap.size w w' :=
  rlab_any w sec [107, 101, 121] [] 16 (by omega) (by decide) (by decide) (by decide) (by decide)
theorem rlab_iv (w : World) (sec : List UInt8) (hk : sec.length = 32) :
    Calls Tryd.prog 16 #[S sec, .string ⟨#[105, 118]⟩, .string ⟨#[]⟩, .int .i64 12] w fun e w' => e = .returned (.tuple #[S (ivS sec), .int .i64 0]) ∧ Below w.heap.size w w' :=
  rlab_any w sec [105, 118] [] 12 (by omega) (by decide) (by decide) (by decide) (by decide)
end Go.Proofs.YtcfbiafedfkbhaaDoor
