/- Part of the proof: Recs. No conditions of its own. -/
import Derived.ArgAppend
import Derived.Below
import Derived.BigQuiet
import Derived.BigRegion
import Derived.ChangeOld
import Derived.Deep.CutBlock
import Derived.Deep.DeepCutAuto
import Derived.Deep.Draws
import Derived.Deep.LoopGhost
import Derived.Deep.Quiet
import Derived.Deep.QuietTactic
import Derived.Deep.RegionHeld3
import Derived.Deep.RegionLaw
import Derived.Laws.AppendOwnNone
import Derived.Laws.Bits64
import Derived.Laws.BitsAllLaws
import Derived.Laws.BytesArg
import Derived.Laws.Concat
import Derived.Laws.CopyOwn
import Derived.Laws.MakeOwn
import Derived.Lib.AppendStr
import Derived.Lib.AppendZerosOnto
import Derived.Lib.Hide
import Derived.Lib.SlBytesConst
import Derived.LoopIn
import Derived.LoopNIn
import Derived.Maps.AppendAt
import Derived.OpenShut
import Derived.OrdersIn
import Derived.OwnWalkIn
import Derived.ProofKit
import Derived.RangeFuncBound
import Derived.RangeFuncBox
import Derived.RangeFuncCalls
import Derived.RangeFuncLeaves
import Derived.RangeFuncNested
import Derived.Shelf.Abstract
import Derived.ShutString
import Derived.StillTail
import Derived.TacticsIn
import Derived.TacticsInMore
import Derived.Test.YtcfbiafedfkbhaaDoorChecked
import Derived.Test.YtcfbiafedfkbhaaDoorProg
import Derived.WalkKit
import Derived.WalkSpells
import Derived.Test.YtcfbiafedfkbhaaDoorK08
import Derived.Test.YtcfbiafedfkbhaaDoorK26
namespace Go.Proofs.YtcfbiafedfkbhaaDoor
open Go.RowKit
set_option linter.unusedVariables false
set_option linter.unusedSimpArgs false

def secL (b : UInt8) : List UInt8 := b :: List.replicate 31 0
theorem rnew_lit (w : World) (b : UInt8) (x : Int) (hx : (b.toNat : Int) = x) (hv : HashW w) : Calls Tryd.prog 8 #[.agg #[.int .u8 x, .int .u8 0, .int .u8 0, .int .u8 0, .int .u8 0, .int .u8 0, .int .u8 0, .int .u8 0, .int .u8 0, .int .u8 0, .int .u8 0, .int .u8 0, .int .u8 0, .int .u8 0, .int .u8 0, .int .u8 0, .int .u8 0, .int .u8 0, .int .u8 0, .int .u8 0, .int .u8 0, .int .u8 0, .int .u8 0, .int .u8 0, .int .u8 0, .int .u8 0, .int .u8 0, .int .u8 0, .int .u8 0, .int .u8 0, .int .u8 0, .int .u8 0]] w fun e w' => ∃ g, e = .returned (.pointer (some ⟨g, 0, none⟩)) ∧ w.heap.size ≤ g ∧ HalfW w' g (secL b) 0 ∧ Below w.heap.size w w' := by
  subst hx
  exact rnew_any w (secL b) hv rfl
theorem bare22 (w : World) (v : Value) (hS : SlB w v [97, 98]) : Calls Tryd.prog 21 #[.int .i64 22, v] w fun e w' => ∃ v', e = .returned (.tuple #[v', .int .i64 0]) ∧ OwnW w' w.heap.size v' (bareS 22 [97, 98]) ∧ Below w.heap.size w w' :=
  bare_ok w 22 [97, 98] v hS (by decide) (by decide)
theorem seal22 (w : World) (g : Nat) (v : Value) (h : HalfW w g (secL 1) 0) (hS : SlB w v [97, 98]) : Calls Tryd.prog 9 #[.pointer (some ⟨g, 0, none⟩), .int .i64 22, v, .int .i64 3] w fun e w' =>
      ∃ v', e = .returned (.tuple #[v', .int .i64 0]) ∧ OwnW w' w.heap.size v' (recS (secL 1) 0 (innS 22 [97, 98] 3)) ∧ HalfW w' g (secL 1) (0 + 1) ∧ w.grownBy w' (some g) :=
  recSeal_any w g 0 22 3 (secL 1) [97, 98] v h hS (by decide) (by decide) (by decide)
theorem open22 (w : World) (g c : Nat) (a : Option Addr) (h : HalfW w g (secL 1) 0) (hS : SlB w (.slice a 27 c) (recS (secL 1) 0 (innS 22 [97, 98] 3))) : Calls Tryd.prog 11 #[.pointer (some ⟨g, 0, none⟩), .slice a 27 c] w fun e w' =>
      ∃ v', e = .returned (.tuple #[.int .i64 22, v', .int .i64 0]) ∧ SlB w' v' [97, 98] ∧ HalfW w' g (secL 1) (0 + 1) ∧ w.grownBy w' (some g) := by
  have e : (recS (secL 1) 0 (innS 22 [97, 98] 3)).length = 27 := by rw [recS_len, innS_len]; rfl
  have := ropen_ok w g 0 22 3 c (secL 1) [97, 98] a h (by rw [e]; exact hS) (by decide) (by decide) (by decide)
  rw [e] at this
  exact this
set_option maxRecDepth 100000 in
set_option maxHeartbeats 4000000 in
theorem records_any (w : World) (hv : HashW w) : Calls Tryd.prog 10 #[] w fun e w' => e = .returned (.bool true) ∧ Below w.heap.size w w' := by
  have HV := Lib.hid hv
  clear hv
  go_enter Tryd.func10, Tryd.ntmps10
  go_wp2_with fail
  have HM1 := Lib.hid (show SlB (w.alloc (.cells #[.int .u8 97, .int .u8 98] 5 (2, 3))) (.slice (some ⟨w.heap.size, 0, none⟩) 2 2) [97, 98] from SlB.marked w _ _ [97, 98] (by decide))
  have HA1 := Lib.hid (show Below w.heap.size w (w.alloc (.cells #[.int .u8 97, .int .u8 98] 5 (2, 3))) from (Below.refl _ _).alloc (Nat.le_refl _) _)
  refine (bare22 _ _ HM1.out).mono ?_
  rintro e w1 ⟨v1, rfl, ho1, hB1⟩
  obtain ⟨a1, c1, rfl, _⟩ := ho1.slb
  rw [bareS_len]
  have HB1 := Lib.hid (HA1.out.trans (hB1.mono HA1.out.size))
  have HS1 := Lib.hid ho1.slb
  clear ho1 hB1
  go_wp2_with fail
  refine (rnew_lit w1 1 1 rfl (HV.out.below HB1.out)).mono ?_
  rintro e w2 ⟨g, rfl, hg, hH, hB2⟩
  have HB2 := Lib.hid hB2
  have HH := Lib.hid hH
  have HG := Lib.hid hg
  clear hg hH hB2
  go_wp2_with fail
  have HM3 := Lib.hid (show SlB (w2.alloc (.cells #[.int .u8 97, .int .u8 98] 5 (2, 3))) (.slice (some ⟨w2.heap.size, 0, none⟩) 2 2) [97, 98] from SlB.marked w2 _ _ [97, 98] (by decide))
  have HA3 := Lib.hid (show Below w2.heap.size w2 (w2.alloc (.cells #[.int .u8 97, .int .u8 98] 5 (2, 3))) from (Below.refl _ _).alloc (Nat.le_refl _) _)
  refine (seal22 _ g _ (HH.out.below HA3.out) HM3.out).mono ?_
  rintro e w3 ⟨v3, rfl, ho3, hH3, hG3⟩
  obtain ⟨a3, c3, rfl, _⟩ := ho3.slb
  have hl3 : (recS (secL 1) 0 (innS 22 [97, 98] 3)).length = 27 := by rw [recS_len, innS_len]; rfl
  have HS3 := Lib.hid ho3.slb
  rw [hl3] at HS3 ⊢
  have HB3 := Lib.hid ((HB2.out.trans (HA3.out.mono HB2.out.size)).grown hG3 (Nat.le_trans HB2.out.size HA3.out.size) (fun j e => by obtain rfl := Option.some.inj e; exact HG.out))
  clear ho3 hH3 hG3 hl3
  go_wp2_with fail
  refine (rnew_lit w3 1 1 rfl ((HV.out.below HB1.out).below HB3.out)).mono ?_
  rintro e w4 ⟨g4, rfl, hg4, hH4, hB4⟩
  have HB4 := Lib.hid (HB3.out.trans (hB4.mono HB3.out.size))
  have HH4 := Lib.hid hH4
  have HG4 := Lib.hid (Nat.le_trans HB3.out.size hg4)
  have HS4 := Lib.hid (HS3.out.below hB4)
  clear hg4 hH4 hB4
  go_wp2_with fail
  refine (open22 w4 g4 c3 a3 HH4.out HS4.out).mono ?_
  rintro e w5 ⟨v5, rfl, hs5, hH5, hG5⟩
  have HB5 := Lib.hid (HB4.out.grown hG5 HB4.out.size (fun j e => by obtain rfl := Option.some.inj e; exact HG4.out))
  have hc5 := run_conv_slb (P := Tryd.prog) w5 23 5 9 Tryd.underlying23 Tryd.underlying5 Tryd.underlying9 _ _ hs5
  have hc1 := run_conv_slb (P := Tryd.prog) w5 23 5 9 Tryd.underlying23 Tryd.underlying5 Tryd.underlying9 _ _ (HS1.out.below HB5.out)
  obtain ⟨a5, c5, rfl, _⟩ := id hs5
  rw [show (bareS 22 [97, 98]).length = 7 from rfl] at hc1
  have e1 : S (bareS 22 [97, 98]) = .string ⟨#[22, 3, 3, 0, 2, 97, 98]⟩ := by kernel_rfl
  have e5 : S [97, 98] = .string ⟨#[97, 98]⟩ := by kernel_rfl
  rw [e1] at hc1
  rw [e5, show ([97, 98] : List UInt8).length = 2 from rfl] at hc5
  clear hs5 hH5 hG5 e1 e5
  go_wp2_with fail
  go_ret
  exact ⟨rfl, HB1.out.trans (HB5.out.mono HB1.out.size)⟩
end Go.Proofs.YtcfbiafedfkbhaaDoor
