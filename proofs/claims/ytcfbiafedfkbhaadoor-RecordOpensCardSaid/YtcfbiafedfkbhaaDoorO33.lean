/- Part of the proof: Recs, CutSpec, SplitAny, BufF. No conditions of its own. -/
import Derived.ArgAppend
import Derived.Below
import Derived.BigQuiet
import Derived.BigRegion
import Derived.ChangeOld
import Derived.Deep.CutBlock
import Derived.Deep.DeepCutAuto
import Derived.Deep.Draws
import Derived.Deep.LoopGhost
import Derived.Deep.Quiet
import Derived.Deep.QuietTactic
import Derived.Deep.RegionHeld3
import Derived.Deep.RegionLaw
import Derived.Laws.AppendOwnNone
import Derived.Laws.Bits64
import Derived.Laws.BitsAllLaws
import Derived.Laws.BytesArg
import Derived.Laws.Concat
import Derived.Laws.CopyOwn
import Derived.Laws.MakeOwn
import Derived.Lib.AppendStr
import Derived.Lib.AppendZerosOnto
import Derived.Lib.Hide
import Derived.Lib.SlBytesConst
import Derived.LoopIn
import Derived.LoopNIn
import Derived.Maps.AppendAt
import Derived.OpenShut
import Derived.OrdersIn
import Derived.OwnWalkIn
import Derived.ProofKit
import Derived.RangeFuncBound
import Derived.RangeFuncBox
import Derived.RangeFuncCalls
import Derived.RangeFuncLeaves
import Derived.RangeFuncNested
import Derived.Shelf.Abstract
import Derived.ShutString
import Derived.StillTail
import Derived.TacticsIn
import Derived.TacticsInMore
import Derived.Test.YtcfbiafedfkbhaaDoorChecked
import Derived.Test.YtcfbiafedfkbhaaDoorProg
import Derived.WalkKit
import Derived.WalkSpells
import Derived.Test.YtcfbiafedfkbhaaDoorO32
import Derived.Test.YtcfbiafedfkbhaaDoorO22
import Derived.Test.YtcfbiafedfkbhaaDoorO23
import Derived.Test.YtcfbiafedfkbhaaDoorO25
import Derived.Test.YtcfbiafedfkbhaaDoorO28
import Derived.Test.YtcfbiafedfkbhaaDoorO24
import Derived.Test.YtcfbiafedfkbhaaDoorO27
import Derived.Test.YtcfbiafedfkbhaaDoorO02
import Derived.Test.YtcfbiafedfkbhaaDoorO03
import Derived.Test.YtcfbiafedfkbhaaDoorO13
namespace Go.Proofs.YtcfbiafedfkbhaaDoor
open Go.RowKit
set_option linter.unusedVariables false
set_option linter.unusedSimpArgs false

def secL (b : UInt8) : List UInt8 := b :: List.replicate 31 0
theorem rnew_lit (w : World) (b : UInt8) (x : Int) (hx : (b.toNat : Int) = x) (hv : HashW w) : Calls Tryd.prog 8 #[.agg #[.int .u8 x, .int .u8 0, .int .u8 0, .int .u8 0, .int .u8 0, .int .u8 0, .int .u8 0, .int .u8 0, .int .u8 0, .int .u8 0, .int .u8 0, .int .u8 0, .int .u8 0, .int .u8 0, .int .u8 0, .int .u8 0, .int .u8 0, .int .u8 0, .int .u8 0, .int .u8 0, .int .u8 0, .int .u8 0, .int .u8 0, .int .u8 0, .int .u8 0, .int .u8 0, .int .u8 0, .int .u8 0, .int .u8 0, .int .u8 0, .int .u8 0, .int .u8 0]] w fun e w' => ∃ g, e = .returned (.pointer (some ⟨g, 0, none⟩)) ∧ w.heap.size ≤ g ∧ HalfW w' g (secL b) 0 ∧ Below w.heap.size w w' := by
  subst hx
  exact rnew_any w (secL b) hv rfl
theorem bare22 (w : World) (v : Value) (hS : SlB w v [97, 98]) : Calls Tryd.prog 21 #[.int .i64 22, v] w fun e w' => ∃ v', e = .returned (.tuple #[v', .int .i64 0]) ∧ OwnW w' w.heap.size v' (bareS 22 [97, 98]) ∧ Below w.heap.size w w' :=
  bare_ok w 22 [97, 98] v hS (by decide) (by decide)
theorem seal22 (w : World) (g : Nat) (v : Value) (h : HalfW w g (secL 1) 0) (hS : SlB w v [97, 98]) : Calls Tryd.prog 9 #[.pointer (some ⟨g, 0, none⟩), .int .i64 22, v, .int .i64 3] w fun e w' =>
      ∃ v', e = .returned (.tuple #[v', .int .i64 0]) ∧ OwnW w' w.heap.size v' (recS (secL 1) 0 (innS 22 [97, 98] 3)) ∧ HalfW w' g (secL 1) (0 + 1) ∧ w.grownBy w' (some g) :=
  recSeal_any w g 0 22 3 (secL 1) [97, 98] v h hS (by decide) (by decide) (by decide)
theorem open22 (w : World) (g c : Nat) (a : Option Addr) (h : HalfW w g (secL 1) 0) (hS : SlB w (.slice a 27 c) (recS (secL 1) 0 (innS 22 [97, 98] 3))) : Calls Tryd.prog 11 #[.pointer (some ⟨g, 0, none⟩), .slice a 27 c] w fun e w' =>
      ∃ v', e = .returned (.tuple #[.int .i64 22, v', .int .i64 0]) ∧ SlB w' v' [97, 98] ∧ HalfW w' g (secL 1) (0 + 1) ∧ w.grownBy w' (some g) := by
  have e : (recS (secL 1) 0 (innS 22 [97, 98] 3)).length = 27 := by rw [recS_len, innS_len]; rfl
  have := ropen_ok w g 0 22 3 c (secL 1) [97, 98] a h (by rw [e]; exact hS) (by decide) (by decide) (by decide)
  rw [e] at this
  exact this
set_option maxRecDepth 100000 in
set_option maxHeartbeats 4000000 in
theorem records_any (w : World) (hv : HashW w) : Calls Tryd.prog 10 #[] w fun e w' => e = .returned (.bool true) ∧ Below w.heap.size w w' := by
  have HV := Lib.hid hv
  clear hv
  go_enter Tryd.func10, Tryd.ntmps10
  go_wp2_with fail
  have HM1 := Lib.hid (show SlB (w.alloc (.cells #[.int .u8 97, .int .u8 98] 5 (2, 3))) (.slice (some ⟨w.heap.size, 0, none⟩) 2 2) [97, 98] from SlB.marked w _ _ [97, 98] (by decide))
  have HA1 := Lib.hid (show Below w.heap.size w (w.alloc (.cells #[.int .u8 97, .int .u8 98] 5 (2, 3))) from (Below.refl _ _).alloc (Nat.le_refl _) _)
  refine (bare22 _ _ HM1.out).mono ?_
  rintro e w1 ⟨v1, rfl, ho1, hB1⟩
  obtain ⟨a1, c1, rfl, _⟩ := ho1.slb
  rw [bareS_len]
  have HB1 := Lib.hid (HA1.out.trans (hB1.mono HA1.out.size))
  have HS1 := Lib.hid ho1.slb
  clear ho1 hB1
  go_wp2_with fail
  refine (rnew_lit w1 1 1 rfl (HV.out.below HB1.out)).mono ?_
  rintro e w2 ⟨g, rfl, hg, hH, hB2⟩
  have HB2 := Lib.hid hB2
  have HH := Lib.hid hH
  have HG := Lib.hid hg
  clear hg hH hB2
  go_wp2_with fail
  have HM3 := Lib.hid (show SlB (w2.alloc (.cells #[.int .u8 97, .int .u8 98] 5 (2, 3))) (.slice (some ⟨w2.heap.size, 0, none⟩) 2 2) [97, 98] from SlB.marked w2 _ _ [97, 98] (by decide))
  have HA3 := Lib.hid (show Below w2.heap.size w2 (w2.alloc (.cells #[.int .u8 97, .int .u8 98] 5 (2, 3))) from (Below.refl _ _).alloc (Nat.le_refl _) _)
  refine (seal22 _ g _ (HH.out.below HA3.out) HM3.out).mono ?_
  rintro e w3 ⟨v3, rfl, ho3, hH3, hG3⟩
  obtain ⟨a3, c3, rfl, _⟩ := ho3.slb
  have hl3 : (recS (secL 1) 0 (innS 22 [97, 98] 3)).length = 27 := by rw [recS_len, innS_len]; rfl
  have HS3 := Lib.hid ho3.slb
  rw [hl3] at HS3 ⊢
  have HB3 := Lib.hid ((HB2.out.trans (HA3.out.mono HB2.out.size)).grown hG3 (Nat.le_trans HB2.out.size HA3.out.size) (fun j e => by obtain rfl := Option.some.inj e; exact HG.out))
  clear ho3 hH3 hG3 hl3
  go_wp2_with fail
  refine (rnew_lit w3 1 1 rfl ((HV.out.below HB1.out).below HB3.out)).mono ?_
  rintro e w4 ⟨g4, rfl, hg4, hH4, hB4⟩
  have HB4 := Lib.hid (HB3.out.trans (hB4.mono HB3.out.size))
  have HH4 := Lib.hid hH4
  have HG4 := Lib.hid (Nat.le_trans HB3.out.size hg4)
  have HS4 := Lib.hid (HS3.out.below hB4)
  clear hg4 hH4 hB4
  go_wp2_with fail
  refine (open22 w4 g4 c3 a3 HH4.out HS4.out).mono ?_
  rintro e w5 ⟨v5, rfl, hs5, hH5, hG5⟩
  have HB5 := Lib.hid (HB4.out.grown hG5 HB4.out.size (fun j e => by obtain rfl := Option.some.inj e; exact HG4.out))
  have hc5 := run_conv_slb (P := Tryd.prog) w5 23 5 9 Tryd.underlying23 Tryd.underlying5 Tryd.underlying9 _ _ hs5
  have hc1 := run_conv_slb (P := Tryd.prog) w5 23 5 9 Tryd.underlying23 Tryd.underlying5 Tryd.underlying9 _ _ (HS1.out.below HB5.out)
  obtain ⟨a5, c5, rfl, _⟩ := id hs5
  rw [show (bareS 22 [97, 98]).length = 7 from rfl] at hc1
  have e1 : S (bareS 22 [97, 98]) = .string ⟨#[22, 3, 3, 0, 2, 97, 98]⟩ := by kernel_rfl
  have e5 : S [97, 98] = .string ⟨#[97, 98]⟩ := by kernel_rfl
  rw [e1] at hc1
  rw [e5, show ([97, 98] : List UInt8).length = 2 from rfl] at hc5
  clear hs5 hH5 hG5 e1 e5
  go_wp2_with fail
  go_ret
  exact ⟨rfl, HB1.out.trans (HB5.out.mono HB1.out.size)⟩
end Go.Proofs.YtcfbiafedfkbhaaDoor

namespace Go.Proofs.YtcfbiafedfkbhaaDoor
open Go.RowKit
set_option linter.unusedVariables false

def goodB (l : List UInt8) (i : Nat) : Bool := if i = 0 then kindB ((gb l 0).toNat : Int) else gb l i == 3
def formB (l : List UInt8) : Bool := (decide (l.length ≤ 0) || goodB l 0) && ((decide (l.length ≤ 1) || goodB l 1) && (decide (l.length ≤ 2) || goodB l 2))
def cutN (l : List UInt8) : Nat := (gb l 3).toNat * 256 + (gb l 4).toNat
def cutE (l : List UInt8) : Nat := if formB l = false then 2 else if l.length < 5 then 3 else if 16640 < cutN l then 4 else if l.length < 5 + cutN l then 3 else 0
def cutA (l : List UInt8) : List UInt8 := if cutE l = 0 then l.take (5 + cutN l) else []
def cutZ (l : List UInt8) : List UInt8 := if cutE l = 0 then l.drop (5 + cutN l) else []
theorem formB_iff (l : List UInt8) : formB l = true ↔ ∀ i, i < 3 → i < l.length → goodB l i = true := by
  unfold formB
  simp only [Bool.and_eq_true, Bool.or_eq_true, decide_eq_true_iff]
  constructor
  · rintro ⟨h0, h1, h2⟩ i hi hl
    have : i = 0 ∨ i = 1 ∨ i = 2 := by omega
    rcases this with rfl | rfl | rfl
    · exact h0.resolve_left (by omega)
    · exact h1.resolve_left (by omega)
    · exact h2.resolve_left (by omega)
  · intro h
    refine ⟨?_, ?_, ?_⟩
    · by_cases e : l.length ≤ 0
      · exact .inl e
      · exact .inr (h 0 (by omega) (by omega))
    · by_cases e : l.length ≤ 1
      · exact .inl e
      · exact .inr (h 1 (by omega) (by omega))
    · by_cases e : l.length ≤ 2
      · exact .inl e
      · exact .inr (h 2 (by omega) (by omega))
theorem formB_bad {l : List UInt8} {i : Nat} (hi : i < 3) (hl : i < l.length) (hg : goodB l i = false) : formB l = false := by
  cases h : formB l with
  | false => rfl
  | true => rw [(formB_iff l).1 h i hi hl] at hg; cases hg
theorem cutE_form {l : List UInt8} (h : formB l = false) : cutE l = 2 := by unfold cutE; rw [if_pos h]
theorem cutE_short {l : List UInt8} (h : formB l = true) (h5 : l.length < 5) : cutE l = 3 := by unfold cutE; rw [if_neg (by rw [h]; decide), if_pos h5]
theorem cutE_big {l : List UInt8} (h : formB l = true) (h5 : 5 ≤ l.length) (hn : 16640 < cutN l) : cutE l = 4 := by unfold cutE; rw [if_neg (by rw [h]; decide), if_neg (by omega), if_pos hn]
theorem cutE_tail {l : List UInt8} (h : formB l = true) (h5 : 5 ≤ l.length) (hn : cutN l ≤ 16640) (ht : l.length < 5 + cutN l) : cutE l = 3 := by unfold cutE; rw [if_neg (by rw [h]; decide), if_neg (by omega), if_neg (by omega), if_pos ht]
theorem cutE_ok {l : List UInt8} (h : formB l = true) (hn : cutN l ≤ 16640) (ht : 5 + cutN l ≤ l.length) : cutE l = 0 := by unfold cutE; rw [if_neg (by rw [h]; decide), if_neg (by omega), if_neg (by omega), if_neg (by omega)]
theorem cutE_inv {l : List UInt8} (h : cutE l = 0) : formB l = true ∧ cutN l ≤ 16640 ∧ 5 + cutN l ≤ l.length := by
  unfold cutE at h
  split at h
  · cases h
  · rename_i h1
    split at h
    · cases h
    · split at h
      · cases h
      · split at h
        · cases h
        · exact ⟨by simpa using h1, by omega, by omega⟩
theorem cutA_ok {l : List UInt8} (h : cutE l = 0) : cutA l = l.take (5 + cutN l) := if_pos h
theorem cutZ_ok {l : List UInt8} (h : cutE l = 0) : cutZ l = l.drop (5 + cutN l) := if_pos h
theorem cutA_no {l : List UInt8} (h : cutE l ≠ 0) : cutA l = [] := if_neg h
theorem cutZ_no {l : List UInt8} (h : cutE l ≠ 0) : cutZ l = [] := if_neg h
def aloE (l : List UInt8) : Nat := if cutE l = 0 ∧ cutZ l ≠ [] then 2 else cutE l
def bodE (l : List UInt8) : Nat := if aloE l ≠ 0 then aloE l else if 16384 < l.length - 5 then 4 else 0
def bodK (l : List UInt8) : Nat := if bodE l = 0 then (gb l 0).toNat else 0
def bodB (l : List UInt8) : List UInt8 := if bodE l = 0 then l.drop 5 else []
theorem aloE_inv {l : List UInt8} (h : aloE l = 0) : cutE l = 0 ∧ l.length = 5 + cutN l := by
  unfold aloE at h
  split at h
  · cases h
  · rename_i h1
    have h2 := cutE_inv h
    refine ⟨h, ?_⟩
    by_cases e : l.length = 5 + cutN l
    · exact e
    · refine absurd ⟨h, ?_⟩ h1
      rw [cutZ_ok h]
      intro e2
      have := congrArg List.length e2
      rw [List.length_drop] at this
      simp at this
      omega
end Go.Proofs.YtcfbiafedfkbhaaDoor

namespace Go.Proofs.YtcfbiafedfkbhaaDoor
open Go.RowKit
set_option linter.unusedVariables false
set_option linter.unusedSimpArgs false

def SplitSt (w : World) (l : List UInt8) (e : Ending) (w' : World) : Prop :=
  ∃ v1 v2, e = .returned (.tuple #[v1, v2, .int .i64 (cutE l : Int)]) ∧ SlB w' v1 (cutA l) ∧ SlB w' v2 (cutZ l) ∧ Below w.heap.size w w'
theorem SplitSt.no {w w' : World} {l : List UInt8} {k : Nat} (hk : cutE l = k) (h0 : k ≠ 0) (hb : Below w.heap.size w w') : SplitSt w l (.returned (.tuple #[.slice none 0 0, .slice none 0 0, .int .i64 (k : Int)])) w' := by
  refine ⟨.slice none 0 0, .slice none 0 0, by rw [hk], ?_, ?_, hb⟩
  · rw [cutA_no (by rw [hk]; exact h0)]; exact SlB.nilW _
  · rw [cutZ_no (by rw [hk]; exact h0)]; exact SlB.nilW _
theorem SplitSt.ok {w w' : World} {l : List UInt8} {v1 v2 : Value} {T : Nat} (h0 : cutE l = 0) (hT : T = 5 + cutN l) (h1 : SlB w' v1 (l.take T)) (h2 : SlB w' v2 (l.drop T)) (hb : Below w.heap.size w w') : SplitSt w l (.returned (.tuple #[v1, v2, .int .i64 0])) w' := by
  subst hT
  exact ⟨v1, v2, by rw [h0]; rfl, by rw [cutA_ok h0]; exact h1, by rw [cutZ_ok h0]; exact h2, hb⟩
set_option maxRecDepth 100000 in
set_option maxHeartbeats 4000000 in
theorem split_any (w : World) (a : Option Addr) (c : Nat) (l : List UInt8) (hS : SlB w (.slice a l.length c) l) (hl : l.length ≤ 1000000) :
    Calls Tryd.prog 42 #[.slice a l.length c] w (SplitSt w l) := by
  obtain ⟨a', cap, e, h1, h2, h3, h4⟩ := id hS
  obtain ⟨rfl, _, rfl⟩ := Value.slice.inj e
  have HS := Lib.hid hS
  have H3 := Lib.hid (⟨h3, h4⟩ : _ ∧ _)
  obtain ⟨m, hm⟩ : ∃ M, M = l.length := ⟨_, rfl⟩
  obtain ⟨M, hM⟩ : ∃ M, M = min 3 m := ⟨_, rfl⟩
  have m2 : (m : Int) ≤ 1000000 := by omega
  have m5 : (m : Int) ≤ (c : Int) := by omega
  rw [← hm]
  have HM := Lib.hid (⟨hm, hM, h1⟩ : _ ∧ _ ∧ _)
  clear hS e h1 h2 h3 h4 hl
  go_enter Tryd.func42, Tryd.ntmps42
  go_upto_region 1 with (fail)
  go_cut [12, 13, 14] (fun t12 t13 t14 wr => t12 = .slice a M c ∧ t13 = .int .i64 (M : Int) ∧ t14 = .int .i64 0 ∧ wr = w)
  case first =>
    rcases Nat.lt_or_ge 3 m with h | h
    · have hl1 : ¬ ((m : Int) ≤ 3) := by omega
      have hl2 : (3 : Int) < (m : Int) := by omega
      have hl3 : (3 : Int) ≤ (c : Int) := by omega
      have HF := Lib.hid (show (3 : Nat) = M by omega)
      clear h hm hM
      go_wp2_with fail
      go_meet
      case rel => exact ⟨by rw [← HF.out], by rw [← HF.out]; rfl, rfl, rfl⟩
    · have hl1 : (m : Int) ≤ 3 := by omega
      have hl2 : ¬ (3 : Int) < (m : Int) := by omega
      have HF := Lib.hid (show m = M by omega)
      clear h hm hM
      go_wp2_with fail
      go_meet
      case rel => exact ⟨by rw [← HF.out], by rw [← HF.out], rfl, rfl⟩
  case rest =>
  obtain ⟨rfl, rfl, rfl, hw⟩ := hcut
  obtain rfl := hw.symm
  have hM3 : (M : Int) ≤ 3 := by omega
  have hM4 : M ≤ c := by omega
  have hM5 : (M : Int) ≤ (c : Int) := by omega
  clear hm hM
  go_upto_region 2 with (fail)
  go_loopg [14] M (fun gk t14 wx => ∃ (i : Nat), gk + i = M ∧ t14 = .int .i64 (i : Int) ∧ w = wx ∧ ∀ j, j < i → goodB l j = true)
  case atStart => exact ⟨0, by omega, rfl, rfl, fun j hj => absurd hj (Nat.not_lt_zero j)⟩
  case round =>
    obtain ⟨i, hi, rfl, hw, hgd⟩ := hrel
    subst hw
    have HI := Lib.hid (⟨hi, hgd⟩ : _ ∧ _)
    clear hgd
    by_cases hiM : i < M
    · have c1 : (i : Int) < (M : Int) := by omega
      have c2 : (0 : Int) ≤ (i : Int) := by omega
      have c3 : (i : Int) < 3 := by omega
      cases a with
      | none => exact absurd (H3.out.1 rfl) (by omega)
      | some ad =>
      obtain ⟨b, o, sp⟩ := ad
      obtain ⟨hsp, hcs⟩ := H3.out.2 _ rfl
      have hsp' : sp = none := hsp
      subst hsp'
      have hil : i < l.length := by have := HM.out.1; have := HM.out.2.1; omega
      have hc : w.cell? ⟨b, o + i, none⟩ = some (B (gb l i)) := hcs i hil
      have hg : (goodB l i = true) ∨ (goodB l i = false) := by cases goodB l i <;> simp
      have HIL := Lib.hid (⟨hil, hiM, hi⟩ : _ ∧ _ ∧ _)
      clear hcs hil hi
      by_cases hi0 : i = 0
      · subst hi0
        obtain ⟨x, hx⟩ : ∃ x, x = gb l 0 := ⟨_, rfl⟩
        rw [← hx] at hc
        have hgx : goodB l 0 = kindB (x.toNat : Int) := by rw [hx]; rfl
        have t0 := x.toNat_lt
        have hc0 : w.cell? ⟨b, o, none⟩ = some (B x) := hc
        have d1 : (0 : Int) < (M : Int) := c1
        clear hx hc c1 c2 c3
        rcases hg with hg | hg
        · rw [hgx] at hg
          have HK := Lib.hid hg
          have HG := Lib.hid (hgx.trans hg)
          clear hg hgx
          go_wp2_with (go_at_call 29; refine (isKind_any _ _).mono ?_; rintro e w' ⟨rfl, rfl⟩; rw [HK.out])
          go_roundg (gk - 1)
          case measure => have := HIL.out; omega
          case rel => exact ⟨1, by have := HIL.out; omega, rfl, rfl, fun j hj => by rw [show j = 0 by omega]; exact HG.out⟩
        · rw [hgx] at hg
          have HK := Lib.hid hg
          have HG := Lib.hid (hgx.trans hg)
          clear hg hgx
          go_wp2_with (go_at_call 29; refine (isKind_any _ _).mono ?_; rintro e w' ⟨rfl, rfl⟩; rw [HK.out])
          refine bodyPost_ret (results_tmp3 rfl _ _ _) rfl ?_
          exact SplitSt.no (cutE_form (formB_bad (by omega) HIL.out.1 HG.out)) (by decide) (Below.refl _ _)
      · have hip : 0 < (i : Int) := by omega
        have hi1 : ¬ (i : Int) = 0 := by omega
        have hgx : goodB l i = (gb l i == 3) := by unfold goodB; rw [if_neg hi0]
        have ei : ((i + 1 : Nat) : Int) = (i : Int) + 1 := by omega
        rcases hg with hg | hg
        · have HG := Lib.hid hg
          rw [hgx] at hg
          have hg3 : gb l i = 3 := by simpa using hg
          rw [hg3] at hc
          have hc' : w.cell? ⟨b, o + i, none⟩ = some (.int .u8 3) := hc
          clear hg hgx hg3 hc hi0
          go_wp2_with fail
          go_roundg (gk - 1)
          case measure => have := HIL.out; omega
          case rel => exact ⟨i + 1, by have := HIL.out; omega, by rw [ei], rfl, fun j hj => by
            rcases Nat.lt_or_ge j i with h | h
            · exact HI.out.2 j h
            · obtain rfl : j = i := by omega
              exact HG.out⟩
        · have HG := Lib.hid hg
          rw [hgx] at hg
          obtain ⟨x, hx⟩ : ∃ x, x = gb l i := ⟨_, rfl⟩
          rw [← hx] at hc hg
          have hx3 : ¬ (x.toNat : Int) = 3 := fun e => by
            have : x = 3 := UInt8.toNat_inj.1 (by have h2 : (3 : UInt8).toNat = 3 := rfl; omega)
            rw [this] at hg
            cases hg
          have t0 := x.toNat_lt
          clear hg hgx hx hi0
          go_wp2_with fail
          refine bodyPost_ret (results_tmp3 rfl _ _ _) rfl ?_
          exact SplitSt.no (cutE_form (formB_bad (by omega) HIL.out.1 HG.out)) (by decide) (Below.refl _ _)
    · have c1 : ¬ (i : Int) < (M : Int) := by omega
      have hF : formB l = true := (formB_iff l).2 fun j h1 h2 => HI.out.2 j (by have := HM.out.1; have := HM.out.2.1; omega)
      have HF := Lib.hid hF
      clear hF hi hiM
      by_cases h5 : m < 5
      · have c2 : (m : Int) < 5 := by omega
        have H5 := Lib.hid h5
        clear h5
        go_wp2_with fail
        refine bodyPost_ret (results_tmp3 rfl _ _ _) rfl ?_
        exact SplitSt.no (cutE_short HF.out (by have := HM.out.1; have := H5.out; omega)) (by decide) (Below.refl _ _)
      · have c2 : ¬ (m : Int) < 5 := by omega
        have c3 : (5 : Int) ≤ (m : Int) := by omega
        cases a with
        | none => exact absurd (H3.out.1 rfl) (by have := HM.out.2.2; have := HM.out.1; omega)
        | some ad =>
        obtain ⟨b, o, sp⟩ := ad
        obtain ⟨hsp, hcs⟩ := H3.out.2 _ rfl
        have hsp' : sp = none := hsp
        subst hsp'
        have hml := HM.out.1
        have hc3 : w.drew.cell? ⟨b, o + 3, none⟩ = some (B (gb l 3)) := hcs 3 (by omega)
        have hc4 : w.drew.cell? ⟨b, o + 4, none⟩ = some (B (gb l 4)) := hcs 4 (by omega)
        have hor := or_lowW (gb l 3).toNat (gb l 4).toNat (by have := (gb l 3).toNat_lt; omega) (gb l 4).toNat_lt
        obtain ⟨N, hN⟩ : ∃ N, N = (gb l 3).toNat * 256 + (gb l 4).toNat := ⟨_, rfl⟩
        rw [← hN] at hor
        have HN := Lib.hid (show cutN l = N from hN.symm)
        have n0 : (N : Int) ≤ 65535 := by have := (gb l 3).toNat_lt; have := (gb l 4).toNat_lt; omega
        obtain ⟨y3, hy3⟩ : ∃ x, x = gb l 3 := ⟨_, rfl⟩
        obtain ⟨y4, hy4⟩ : ∃ x, x = gb l 4 := ⟨_, rfl⟩
        rw [← hy3] at hc3 hor
        rw [← hy4] at hc4 hor
        have t3 := y3.toNat_lt
        have t4 := y4.toNat_lt
        have H5 := Lib.hid (show 5 ≤ m by omega)
        clear hy3 hy4 hN hcs hml h5
        go_upto_region 9 with (fail)
        refine wp_region_qtail (fun w' => w' = _) 10 (by kernel_rfl) (by kernel_rfl) rfl ?_
        simp only [List.take_succ_cons, List.take_zero, List.drop_succ_cons, List.drop_zero]
        repeat (first | go_big_quiet_skip | (go_big_quiet_want; go_big_quiet_op; go_big_quiet_on))
        refine wpQuiet_nil ?_
        rintro _ rfl
        clear hc3 hc4 hor
        by_cases hB : 16640 < N
        · have n1 : (16640 : Int) < (N : Int) := by omega
          have HBB := Lib.hid hB
          clear hB
          go_wp2_with fail
          refine bodyPost_ret (results_tmp3 rfl _ _ _) rfl ?_
          exact SplitSt.no (cutE_big HF.out (by have := HM.out.1; have := H5.out; omega) (by rw [HN.out]; exact HBB.out)) (by decide) (Below.refl _ _).drew
        · have n1 : ¬ (16640 : Int) < (N : Int) := by omega
          by_cases hT : m < 5 + N
          · have n2 : ((m : Int) - 5) < (N : Int) := by omega
            have HBB := Lib.hid (⟨hB, hT⟩ : _ ∧ _)
            clear hB hT
            go_wp2_with fail
            refine bodyPost_ret (results_tmp3 rfl _ _ _) rfl ?_
            exact SplitSt.no (cutE_tail HF.out (by have := HM.out.1; have := H5.out; omega) (by rw [HN.out]; have := HBB.out.1; omega) (by have := HM.out.1; rw [HN.out]; have := HBB.out.2; omega)) (by decide) (Below.refl _ _).drew
          · have n2 : ¬ ((m : Int) - 5) < (N : Int) := by omega
            obtain ⟨T, hT2⟩ : ∃ T, T = 5 + N := ⟨_, rfl⟩
            have n3 : (5 : Int) + (N : Int) = (T : Int) := by omega
            have n4 : (T : Int) ≤ (m : Int) := by omega
            have n5 : (T : Int) ≤ (c : Int) := by omega
            have HT := Lib.hid (⟨hT2, hB, hT⟩ : _ ∧ _ ∧ _)
            clear hT2 hB hT
            go_upto_region 14 with (fail)
            by_cases hcT : c = T
            · subst hcT
              refine wp_region_qtail (fun w' => w' = _) 10 (by kernel_rfl) (by kernel_rfl) rfl ?_
              simp only [List.take_succ_cons, List.take_zero, List.drop_succ_cons, List.drop_zero]
              repeat (first | go_big_quiet_skip | (go_big_quiet_want; go_big_quiet_op; go_big_quiet_on))
              refine wpQuiet_nil ?_
              rintro _ rfl
              go_wp2_with fail
              refine bodyPost_ret (results_tmp3 rfl _ _ _) rfl ?_
              have hb2 := ((Below.refl w.heap.size w).drew).drew
              have hE : cutE l = 0 := cutE_ok HF.out (by rw [HN.out]; have := HT.out.2.1; omega) (by have := HM.out.1; rw [HN.out]; have := HT.out.2.2; omega)
              have hT5 : c = 5 + cutN l := by rw [HN.out]; exact HT.out.1
              have hml := HM.out.1
              refine SplitSt.ok (v1 := .slice (some ⟨b, o, none⟩) c c) (v2 := .slice (some ⟨b, o, none⟩) (m - c) 0) hE hT5 ?_ ?_ hb2
              · have := (HS.out.takeW (n := c) (m := c) (by rw [List.length_take]; omega)).below hb2
                exact this
              · have e1 : m - c = 0 := by omega
                have e2 : l.drop c = [] := List.drop_eq_nil_of_le (by omega)
                rw [e1, e2]
                exact ⟨_, 0, rfl, Nat.le_refl _, Nat.zero_le _, fun _ => rfl, fun ad had => ⟨by obtain rfl := Option.some.inj had; rfl, fun i hi => absurd hi (Nat.not_lt_zero i)⟩⟩
            · have hcM2 : ¬ (c : Int) = (T : Int) := by omega
              have hcM3 : (T : Int) < (c : Int) := by omega
              refine wp_region_qtail (fun w' => w' = _) 10 (by kernel_rfl) (by kernel_rfl) rfl ?_
              simp only [List.take_succ_cons, List.take_zero, List.drop_succ_cons, List.drop_zero]
              repeat (first | go_big_quiet_skip | (go_big_quiet_want; go_big_quiet_op; go_big_quiet_on))
              refine wpQuiet_nil ?_
              rintro _ rfl
              go_wp2_with fail
              refine bodyPost_ret (results_tmp3 rfl _ _ _) rfl ?_
              have hb2 := ((Below.refl w.heap.size w).drew).drew
              have hE : cutE l = 0 := cutE_ok HF.out (by rw [HN.out]; have := HT.out.2.1; omega) (by have := HM.out.1; rw [HN.out]; have := HT.out.2.2; omega)
              have hT5 : T = 5 + cutN l := by rw [HN.out]; exact HT.out.1
              have hml := HM.out.1
              refine SplitSt.ok (v1 := .slice (some ⟨b, o, none⟩) T c) (v2 := .slice (some ⟨b, o + T, none⟩) (m - T) (c - T)) hE hT5 ?_ ?_ hb2
              · have := (HS.out.takeW (n := T) (m := T) (by rw [List.length_take]; omega)).below hb2
                exact this
              · have := (HS.out.dropW (n := T) (by omega)).below hb2
                rw [← hml] at this
                exact this
end Go.Proofs.YtcfbiafedfkbhaaDoor

namespace Go.Proofs.YtcfbiafedfkbhaaDoor
open Go.RowKit

def bufF (T B0 : Nat) (ls : Tmp → List UInt8) : Tmp → Value → World → Prop := fun d v w => Buf T w B0 v (ls d)
end Go.Proofs.YtcfbiafedfkbhaaDoor
