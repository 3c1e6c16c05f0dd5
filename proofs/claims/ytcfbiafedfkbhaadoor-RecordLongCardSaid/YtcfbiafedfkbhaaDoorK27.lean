/- Part of the proof: Recs, RecordLong, Laid. No conditions of its own. -/
import Derived.ArgAppend
import Derived.Below
import Derived.BigQuiet
import Derived.BigRegion
import Derived.ChangeOld
import Derived.Deep.CutBlock
import Derived.Deep.DeepCutAuto
import Derived.Deep.Draws
import Derived.Deep.LoopGhost
import Derived.Deep.Quiet
import Derived.Deep.QuietTactic
import Derived.Deep.RegionHeld3
import Derived.Deep.RegionLaw
import Derived.Laws.AppendOwnNone
import Derived.Laws.Bits64
import Derived.Laws.BitsAllLaws
import Derived.Laws.BytesArg
import Derived.Laws.Concat
import Derived.Laws.CopyOwn
import Derived.Laws.MakeOwn
import Derived.Lib.AppendStr
import Derived.Lib.AppendZerosOnto
import Derived.Lib.Hide
import Derived.Lib.SlBytesConst
import Derived.LoopIn
import Derived.LoopNIn
import Derived.Maps.AppendAt
import Derived.OpenShut
import Derived.OrdersIn
import Derived.OwnWalkIn
import Derived.ProofKit
import Derived.RangeFuncBound
import Derived.RangeFuncBox
import Derived.RangeFuncCalls
import Derived.RangeFuncLeaves
import Derived.RangeFuncNested
import Derived.Shelf.Abstract
import Derived.ShutString
import Derived.StillTail
import Derived.TacticsIn
import Derived.TacticsInMore
import Derived.Test.YtcfbiafedfkbhaaDoorChecked
import Derived.Test.YtcfbiafedfkbhaaDoorProg
import Derived.WalkKit
import Derived.WalkSpells
import Derived.Test.YtcfbiafedfkbhaaDoorK08
import Derived.Test.YtcfbiafedfkbhaaDoorK26
import Derived.LaidMore
import Derived.Lay
import Derived.SevenTiedAt
import Derived.Stop.Joined
import Derived.Test.YtcfbiafedfkbhaaDoorRows
namespace Go.Proofs.YtcfbiafedfkbhaaDoor
open Go.RowKit
set_option linter.unusedVariables false
set_option linter.unusedSimpArgs false

def secL (b : UInt8) : List UInt8 := b :: List.replicate 31 0
theorem rnew_lit (w : World) (b : UInt8) (x : Int) (hx : (b.toNat : Int) = x) (hv : HashW w) : Calls Tryd.prog 8 #[.agg #[.int .u8 x, .int .u8 0, .int .u8 0, .int .u8 0, .int .u8 0, .int .u8 0, .int .u8 0, .int .u8 0, .int .u8 0, .int .u8 0, .int .u8 0, .int .u8 0, .int .u8 0, .int .u8 0, .int .u8 0, .int .u8 0, .int .u8 0, .int .u8 0, .int .u8 0, .int .u8 0, .int .u8 0, .int .u8 0, .int .u8 0, .int .u8 0, .int .u8 0, .int .u8 0, .int .u8 0, .int .u8 0, .int .u8 0, .int .u8 0, .int .u8 0, .int .u8 0]] w fun e w' => ∃ g, e = .returned (.pointer (some ⟨g, 0, none⟩)) ∧ w.heap.size ≤ g ∧ HalfW w' g (secL b) 0 ∧ Below w.heap.size w w' := by
  subst hx
  exact rnew_any w (secL b) hv rfl
theorem bare22 (w : World) (v : Value) (hS : SlB w v [97, 98]) : Calls Tryd.prog 21 #[.int .i64 22, v] w fun e w' => ∃ v', e = .returned (.tuple #[v', .int .i64 0]) ∧ OwnW w' w.heap.size v' (bareS 22 [97, 98]) ∧ Below w.heap.size w w' :=
  bare_ok w 22 [97, 98] v hS (by decide) (by decide)
theorem seal22 (w : World) (g : Nat) (v : Value) (h : HalfW w g (secL 1) 0) (hS : SlB w v [97, 98]) : Calls Tryd.prog 9 #[.pointer (some ⟨g, 0, none⟩), .int .i64 22, v, .int .i64 3] w fun e w' =>
      ∃ v', e = .returned (.tuple #[v', .int .i64 0]) ∧ OwnW w' w.heap.size v' (recS (secL 1) 0 (innS 22 [97, 98] 3)) ∧ HalfW w' g (secL 1) (0 + 1) ∧ w.grownBy w' (some g) :=
  recSeal_any w g 0 22 3 (secL 1) [97, 98] v h hS (by decide) (by decide) (by decide)
theorem open22 (w : World) (g c : Nat) (a : Option Addr) (h : HalfW w g (secL 1) 0) (hS : SlB w (.slice a 27 c) (recS (secL 1) 0 (innS 22 [97, 98] 3))) : Calls Tryd.prog 11 #[.pointer (some ⟨g, 0, none⟩), .slice a 27 c] w fun e w' =>
      ∃ v', e = .returned (.tuple #[.int .i64 22, v', .int .i64 0]) ∧ SlB w' v' [97, 98] ∧ HalfW w' g (secL 1) (0 + 1) ∧ w.grownBy w' (some g) := by
  have e : (recS (secL 1) 0 (innS 22 [97, 98] 3)).length = 27 := by rw [recS_len, innS_len]; rfl
  have := ropen_ok w g 0 22 3 c (secL 1) [97, 98] a h (by rw [e]; exact hS) (by decide) (by decide) (by decide)
  rw [e] at this
  exact this
set_option maxRecDepth 100000 in
set_option maxHeartbeats 4000000 in
theorem records_any (w : World) (hv : HashW w) : Calls Tryd.prog 10 #[] w fun e w' => e = .returned (.bool true) ∧ Below w.heap.size w w' := by
  have HV := Lib.hid hv
  clear hv
  go_enter Tryd.func10, Tryd.ntmps10
  go_wp2_with fail
  have HM1 := Lib.hid (show SlB (w.alloc (.cells #[.int .u8 97, .int .u8 98] 5 (2, 3))) (.slice (some ⟨w.heap.size, 0, none⟩) 2 2) [97, 98] from SlB.marked w _ _ [97, 98] (by decide))
  have HA1 := Lib.hid (show Below w.heap.size w (w.alloc (.cells #[.int .u8 97, .int .u8 98] 5 (2, 3))) from (Below.refl _ _).alloc (Nat.le_refl _) _)
  refine (bare22 _ _ HM1.out).mono ?_
  rintro e w1 ⟨v1, rfl, ho1, hB1⟩
  obtain ⟨a1, c1, rfl, _⟩ := ho1.slb
  rw [bareS_len]
  have HB1 := Lib.hid (HA1.out.trans (hB1.mono HA1.out.size))
  have HS1 := Lib.hid ho1.slb
  clear ho1 hB1
  go_wp2_with fail
  refine (rnew_lit w1 1 1 rfl (HV.out.below HB1.out)).mono ?_
  rintro e w2 ⟨g, rfl, hg, hH, hB2⟩
  have HB2 := Lib.hid hB2
  have HH := Lib.hid hH
  have HG := Lib.hid hg
  clear hg hH hB2
  go_wp2_with fail
  have HM3 := Lib.hid (show SlB (w2.alloc (.cells #[.int .u8 97, .int .u8 98] 5 (2, 3))) (.slice (some ⟨w2.heap.size, 0, none⟩) 2 2) [97, 98] from SlB.marked w2 _ _ [97, 98] (by decide))
  have HA3 := Lib.hid (show Below w2.heap.size w2 (w2.alloc (.cells #[.int .u8 97, .int .u8 98] 5 (2, 3))) from (Below.refl _ _).alloc (Nat.le_refl _) _)
  refine (seal22 _ g _ (HH.out.below HA3.out) HM3.out).mono ?_
  rintro e w3 ⟨v3, rfl, ho3, hH3, hG3⟩
  obtain ⟨a3, c3, rfl, _⟩ := ho3.slb
  have hl3 : (recS (secL 1) 0 (innS 22 [97, 98] 3)).length = 27 := by rw [recS_len, innS_len]; rfl
  have HS3 := Lib.hid ho3.slb
  rw [hl3] at HS3 ⊢
  have HB3 := Lib.hid ((HB2.out.trans (HA3.out.mono HB2.out.size)).grown hG3 (Nat.le_trans HB2.out.size HA3.out.size) (fun j e => by obtain rfl := Option.some.inj e; exact HG.out))
  clear ho3 hH3 hG3 hl3
  go_wp2_with fail
  refine (rnew_lit w3 1 1 rfl ((HV.out.below HB1.out).below HB3.out)).mono ?_
  rintro e w4 ⟨g4, rfl, hg4, hH4, hB4⟩
  have HB4 := Lib.hid (HB3.out.trans (hB4.mono HB3.out.size))
  have HH4 := Lib.hid hH4
  have HG4 := Lib.hid (Nat.le_trans HB3.out.size hg4)
  have HS4 := Lib.hid (HS3.out.below hB4)
  clear hg4 hH4 hB4
  go_wp2_with fail
  refine (open22 w4 g4 c3 a3 HH4.out HS4.out).mono ?_
  rintro e w5 ⟨v5, rfl, hs5, hH5, hG5⟩
  have HB5 := Lib.hid (HB4.out.grown hG5 HB4.out.size (fun j e => by obtain rfl := Option.some.inj e; exact HG4.out))
  have hc5 := run_conv_slb (P := Tryd.prog) w5 23 5 9 Tryd.underlying23 Tryd.underlying5 Tryd.underlying9 _ _ hs5
  have hc1 := run_conv_slb (P := Tryd.prog) w5 23 5 9 Tryd.underlying23 Tryd.underlying5 Tryd.underlying9 _ _ (HS1.out.below HB5.out)
  obtain ⟨a5, c5, rfl, _⟩ := id hs5
  rw [show (bareS 22 [97, 98]).length = 7 from rfl] at hc1
  have e1 : S (bareS 22 [97, 98]) = .string ⟨#[22, 3, 3, 0, 2, 97, 98]⟩ := by kernel_rfl
  have e5 : S [97, 98] = .string ⟨#[97, 98]⟩ := by kernel_rfl
  rw [e1] at hc1
  rw [e5, show ([97, 98] : List UInt8).length = 2 from rfl] at hc5
  clear hs5 hH5 hG5 e1 e5
  go_wp2_with fail
  go_ret
  exact ⟨rfl, HB1.out.trans (HB5.out.mono HB1.out.size)⟩
end Go.Proofs.YtcfbiafedfkbhaaDoor

namespace Go.Proofs.YtcfbiafedfkbhaaDoor
open Go.RowKit
set_option linter.unusedVariables false
set_option linter.unusedSimpArgs false

set_option maxRecDepth 100000 in
set_option maxHeartbeats 4000000 in
theorem recSeal_big (w : World) (g k pad n c : Nat) (a : Option Addr) (hk : 21 ≤ k ∧ k ≤ 23) (hn : n ≤ 1000000) (hp : 16384 < n + pad) :
    Calls Tryd.prog 9 #[.pointer (some ⟨g, 0, none⟩), .int .i64 (k : Int), .slice a n c, .int .i64 (pad : Int)] w fun e w' =>
      e = .returned (.tuple #[.slice none 0 0, .int .i64 4]) ∧ w' = w := by
  have hkb : kindB (k : Int) = true := by unfold kindB; simp; omega
  have HKB := Lib.hid hkb
  have m1 : ¬ (pad : Int) < 0 := by omega
  have m2 : ((16384 : Int) - (n : Int)) < (pad : Int) := by omega
  have m4 : (n : Int) ≤ 1000000 := by omega
  clear hk hp hn hkb
  go_enter Tryd.func9, Tryd.ntmps9
  go_wp2_with (go_at_call 29; refine (isKind_any _ _).mono ?_; rintro e w' ⟨rfl, rfl⟩; rw [HKB.out])
  go_ret2
  exact ⟨rfl, rfl⟩
theorem made_bytesR (n : Nat) : madeCells (Value.int .u8 0).cells (n * 1) = AB (List.replicate n 0) := by
  apply Array.ext (by simp [size_madeCells, AB])
  intro i h1 h2
  simp [madeCells, AB, Value.cells]
  rw [Nat.mod_one]
  rfl
theorem make_bytesR (w : World) (n : Nat) (hn : n ≤ 1000000) : (Instr.makeSlice 23 (.int .i64 (n : Int)) (.int .i64 (n : Int))).run Tryd.prog w = .ok (.slice (some ⟨w.heap.size, 0, none⟩) n n) (w.alloc (.cells (AB (List.replicate n 0)) 5)) := by
  obtain ⟨i0, hi, hz0, hz1, hz2⟩ := info_parts info_u8H
  have := run_make (P := Tryd.prog) w 23 5 i0 (.int .u8 0) Tryd.underlying23 hi hz0 .i64 .i64 (n : Int) (n : Int) (by omega) (by omega) (by rw [hz2]; omega) (by omega)
  rw [this, hz1]
  simp only [Int.toNat_natCast, made_bytesR]
theorem zeros_slb {w : World} {g n : Nat} (h : Row w g 5 (AB (List.replicate n 0))) (hn : n ≤ 1000000) : SlB w (.slice (some ⟨g, 0, none⟩) n n) (List.replicate n 0) := by
  have := h.slW (l := List.replicate n 0) (by rw [List.length_replicate]; omega)
  rwa [List.length_replicate] at this
theorem sealZ (w : World) (g n pad : Nat) (v : Value) (h : HalfW w g (secL 7) 0) (hv : ∃ a c, v = .slice a n c) (hS : SlB w v (List.replicate n 0)) (hn : n ≤ 1000000) : Calls Tryd.prog 9 #[.pointer (some ⟨g, 0, none⟩), .int .i64 23, v, .int .i64 (pad : Int)] w fun e w' =>
      ∃ a m c E, e = .returned (.tuple #[.slice a m c, .int .i64 E]) ∧ (n + pad ≤ 16384 → E = 0 ∧ m = 22 + n + pad ∧ SlB w' (.slice a m c) (recS (secL 7) 0 (innS 23 (List.replicate n 0) pad))) ∧ (¬ n + pad ≤ 16384 → E = 4) ∧ w.grownBy w' (some g) := by
  obtain ⟨a, c, rfl⟩ := hv
  by_cases hp : n + pad ≤ 16384
  · refine (recSeal_any w g 0 23 pad (secL 7) (List.replicate n 0) (.slice a n c) h hS (by decide) (by rw [List.length_replicate]; exact hp) (by decide)).mono ?_
    rintro e w' ⟨v', rfl, ho, hH, hg⟩
    obtain ⟨a', c', rfl, _⟩ := ho.slb
    have hl : (recS (secL 7) 0 (innS 23 (List.replicate n 0) pad)).length = 22 + n + pad := by rw [recS_len, innS_len, List.length_replicate]; omega
    exact ⟨a', _, c', 0, rfl, fun _ => ⟨rfl, hl, ho.slb⟩, fun h => absurd hp h, hg⟩
  · refine (recSeal_big w g 23 pad n c a (by decide) hn (by omega)).mono ?_
    rintro e w' ⟨rfl, rfl⟩
    exact ⟨none, 0, 0, 4, rfl, fun h => absurd h hp, fun _ => rfl, World.grownBy.refl _ _⟩
theorem openZ (w : World) (g n pad m c : Nat) (a : Option Addr) (h : HalfW w g (secL 7) 0) (hm : m = 22 + n + pad) (hp : n + pad ≤ 16384) (hS : SlB w (.slice a m c) (recS (secL 7) 0 (innS 23 (List.replicate n 0) pad))) : Calls Tryd.prog 11 #[.pointer (some ⟨g, 0, none⟩), .slice a m c] w fun e w' =>
      ∃ a' c', e = .returned (.tuple #[.int .i64 23, .slice a' n c', .int .i64 0]) ∧ w.grownBy w' (some g) := by
  have e : (recS (secL 7) 0 (innS 23 (List.replicate n 0) pad)).length = m := by rw [recS_len, innS_len, List.length_replicate]; omega
  have := ropen_ok w g 0 23 pad c (secL 7) (List.replicate n 0) a h (by rw [e]; exact hS) (by decide) (by rw [List.length_replicate]; exact hp) (by decide)
  rw [e] at this
  refine this.mono ?_
  rintro e w' ⟨v', rfl, hs, _, hg⟩
  obtain ⟨a', c', rfl, _⟩ := hs
  exact ⟨a', c', by rw [List.length_replicate]; rfl, hg⟩
set_option maxRecDepth 100000 in
set_option maxHeartbeats 4000000 in
theorem rlong_any (w : World) (size pad : Int) (hv : HashW w) : Calls Tryd.prog 3 #[.int .i64 size, .int .i64 pad] w fun e w' => e = .returned (.bool true) ∧ Below w.heap.size w w' := by
  have HV := Lib.hid hv
  obtain ⟨s, hs, hs8⟩ : ∃ s : Nat, (IntKind.u64.wrap size).tmod 8 = (s : Int) ∧ s < 8 := by
    have h1 : 0 ≤ IntKind.u64.wrap size := by rw [IntKind.wrap_u64]; omega
    refine ⟨((IntKind.u64.wrap size).tmod 8).toNat, ?_, ?_⟩
    · rw [Int.tmod_eq_emod_of_nonneg h1]; omega
    · rw [Int.tmod_eq_emod_of_nonneg h1]; omega
  obtain ⟨p, hp, hp8⟩ : ∃ s : Nat, (IntKind.u64.wrap pad).tmod 8 = (s : Int) ∧ s < 8 := by
    have h1 : 0 ≤ IntKind.u64.wrap pad := by rw [IntKind.wrap_u64]; omega
    refine ⟨((IntKind.u64.wrap pad).tmod 8).toNat, ?_, ?_⟩
    · rw [Int.tmod_eq_emod_of_nonneg h1]; omega
    · rw [Int.tmod_eq_emod_of_nonneg h1]; omega
  obtain ⟨n, hn⟩ : ∃ n, n = 16380 + s := ⟨_, rfl⟩
  have hn' : (16380 : Int) + (s : Int) = (n : Int) := by omega
  have m1 : (n : Int) ≤ 16387 := by omega
  have m2 : (p : Int) ≤ 7 := by omega
  have m3 : (s : Int) ≤ 7 := by omega
  have m4 : n ≤ 1000000 := by omega
  have HN := Lib.hid (⟨hn, hs8, hp8⟩ : _ ∧ _ ∧ _)
  clear hv hn hs8 hp8
  go_enter Tryd.func3, Tryd.ntmps3
  go_upto_region 2 with (fail)
  clear hs hp hn'
  have hmk := fun W => make_bytesR W n m4
  have HM4 := Lib.hid m4
  clear m4
  go_region_law (first
    | (refine wp_callO 8 #[.agg #[.int .u8 7, .int .u8 0, .int .u8 0, .int .u8 0, .int .u8 0, .int .u8 0, .int .u8 0, .int .u8 0, .int .u8 0, .int .u8 0, .int .u8 0, .int .u8 0, .int .u8 0, .int .u8 0, .int .u8 0, .int .u8 0, .int .u8 0, .int .u8 0, .int .u8 0, .int .u8 0, .int .u8 0, .int .u8 0, .int .u8 0, .int .u8 0, .int .u8 0, .int .u8 0, .int .u8 0, .int .u8 0, .int .u8 0, .int .u8 0, .int .u8 0, .int .u8 0]] ?_ ?_
       (focus (simp [go_sem]; done))
       refine (rnew_lit _ 7 7 rfl (HV.out.below (show Below w.heap.size w _ by (repeat (first | (with_reducible exact Below.refl _ _) | refine Below.drew ?_ | refine bAl (Nat.le_refl _) ?_))))).mono ?_
       rintro e w2 ⟨g, rfl, hg, hH, hB⟩
       refine ⟨_, rfl, ?_⟩
       have hb0 : Below w.heap.size w w2 := Below.trans (by (repeat (first | (with_reducible exact Below.refl _ _) | refine Below.drew ?_ | refine bAl (Nat.le_refl _) ?_))) (Below.mono hB (by simp))
       have HB2 := Lib.hid (⟨hH, hb0, Nat.le_trans (by simp) hg⟩ : HalfW w2 g (secL 7) 0 ∧ Below w.heap.size w w2 ∧ w.heap.size ≤ g)
       (first | (have HR2 := Lib.hid ((Row.new w 5 (AB (List.replicate n 0))).below hB (by simp))) | (have HR2 := Lib.hid ((Row.new w.drew 5 (AB (List.replicate n 0))).below hB (by simp))) | (have HR2 := Lib.hid ((Row.new w 5 (AB (List.replicate n 0))).drew.below hB (by simp))) | skip)
       clear hg hH hB hb0)
    | (refine wp_callO 9 #[.pointer (some ⟨g, 0, none⟩), .int .i64 23, .slice (some ⟨w.heap.size, 0, none⟩) n n, .int .i64 (p : Int)] ?_ ?_
       (focus (simp [go_sem]; done))
       refine (sealZ _ g n p _ (HalfW.below HB2.out.1 (show Below w2.heap.size w2 _ by (repeat (first | (with_reducible exact Below.refl _ _) | refine Below.drew ?_ | refine bAl (Nat.le_refl _) ?_)))) ⟨_, _, rfl⟩ (zeros_slb (g := w.heap.size) (HR2.out) HM4.out) HM4.out).mono ?_
       rintro e w3 ⟨a3, m3, c3, E, rfl, hq1, hq2, hG⟩
       refine ⟨_, rfl, ?_⟩
       have HB3 := Lib.hid (show Below w.heap.size w w3 from Below.grown (HB2.out.2.1.trans (Below.mono (show Below w2.heap.size w2 _ by (repeat (first | (with_reducible exact Below.refl _ _) | refine Below.drew ?_ | refine bAl (Nat.le_refl _) ?_))) HB2.out.2.1.size)) hG (Nat.le_trans HB2.out.2.1.size (Below.size (show Below w2.heap.size w2 _ by (repeat (first | (with_reducible exact Below.refl _ _) | refine Below.drew ?_ | refine bAl (Nat.le_refl _) ?_))))) (fun j e => by obtain rfl := Option.some.inj e; exact HB2.out.2.2))
       have HQ := Lib.hid (⟨hq1, hq2⟩ : (n + p ≤ 16384 → E = 0 ∧ m3 = 22 + n + p ∧ SlB w3 (.slice a3 m3 c3) (recS (secL 7) 0 (innS 23 (List.replicate n 0) p))) ∧ (¬ n + p ≤ 16384 → E = 4))
       clear hq1 hq2 hG)
    | (refine wp_callO 9 #[.pointer (some ⟨g, 0, none⟩), .int .i64 23, .slice (some ⟨w2.heap.size, 0, none⟩) n n, .int .i64 (p : Int)] ?_ ?_
       (focus (simp [go_sem]; done))
       refine (sealZ _ g n p _ (HalfW.below HB2.out.1 (show Below w2.heap.size w2 _ by (repeat (first | (with_reducible exact Below.refl _ _) | refine Below.drew ?_ | refine bAl (Nat.le_refl _) ?_)))) ⟨_, _, rfl⟩ (zeros_slb (g := w2.heap.size) (by first | exact Row.new _ _ _ | exact (Row.new _ _ _).drew) HM4.out) HM4.out).mono ?_
       rintro e w3 ⟨a3, m3, c3, E, rfl, hq1, hq2, hG⟩
       refine ⟨_, rfl, ?_⟩
       have HB3 := Lib.hid (show Below w.heap.size w w3 from Below.grown (HB2.out.2.1.trans (Below.mono (show Below w2.heap.size w2 _ by (repeat (first | (with_reducible exact Below.refl _ _) | refine Below.drew ?_ | refine bAl (Nat.le_refl _) ?_))) HB2.out.2.1.size)) hG (Nat.le_trans HB2.out.2.1.size (Below.size (show Below w2.heap.size w2 _ by (repeat (first | (with_reducible exact Below.refl _ _) | refine Below.drew ?_ | refine bAl (Nat.le_refl _) ?_))))) (fun j e => by obtain rfl := Option.some.inj e; exact HB2.out.2.2))
       have HQ := Lib.hid (⟨hq1, hq2⟩ : (n + p ≤ 16384 → E = 0 ∧ m3 = 22 + n + p ∧ SlB w3 (.slice a3 m3 c3) (recS (secL 7) 0 (innS 23 (List.replicate n 0) p))) ∧ (¬ n + p ≤ 16384 → E = 4))
       clear hq1 hq2 hG)
    | fail)
  all_goals
    by_cases hp : n + p ≤ 16384
    · obtain ⟨rfl, hm3, hS3⟩ := HQ.out.1 hp
      have HS3 := Lib.hid hS3
      have HM3 := Lib.hid (⟨hm3, hp⟩ : _ ∧ _)
      have hle : (n : Int) + (p : Int) ≤ 16384 := by omega
      clear hm3 hS3 hp
      go_wp2_with (go_at_call 10; refine (records_any _ (HV.out.below HB3.out)).mono ?_; rintro e w4 ⟨rfl, hB4⟩; have HB4 := Lib.hid hB4; clear hB4)
      have HB34 := Lib.hid (HB3.out.trans (HB4.out.mono HB3.out.size))
      refine (rnew_lit w4 7 7 rfl (HV.out.below HB34.out)).mono ?_
      rintro e w5 ⟨g5, rfl, hg5, hH5, hB5⟩
      have HB5 := Lib.hid (HB34.out.trans (hB5.mono HB34.out.size))
      have HH5 := Lib.hid hH5
      have HG5 := Lib.hid (Nat.le_trans HB34.out.size hg5)
      have HS5 := Lib.hid ((HS3.out.below HB4.out).below hB5)
      clear hg5 hH5 hB5
      go_wp2_with fail
      refine (openZ w5 g5 n p m3 c3 a3 HH5.out HM3.out.1 HM3.out.2 HS5.out).mono ?_
      rintro e w6 ⟨a6, c6, rfl, hG6⟩
      have HB6 := Lib.hid (HB5.out.grown hG6 HB5.out.size (fun j e => by obtain rfl := Option.some.inj e; exact HG5.out))
      clear hG6
      go_wp2_with fail
      go_ret
      exact ⟨rfl, HB6.out⟩
    · obtain rfl := HQ.out.2 hp
      have hle : ¬ (n : Int) + (p : Int) ≤ 16384 := by omega
      clear hp
      go_wp2_with (go_at_call 10; refine (records_any _ (HV.out.below HB3.out)).mono ?_; rintro e w4 ⟨rfl, hB4⟩; have HB4 := Lib.hid hB4; clear hB4)
      go_ret
      exact ⟨rfl, HB3.out.trans (HB4.out.mono HB3.out.size)⟩
theorem rlong_law (a0 a1 : Int) (_ : (Lit.int .i64 a0).wf = true) (_ : (Lit.int .i64 a1).wf = true) (w : World) (hv : HashW w) : Calls Tryd.prog 3 #[.int .i64 a0, .int .i64 a1] w fun e w' => e = .returned (.bool true) ∧ Below w.heap.size w w' := rlong_any w a0 a1 hv
end Go.Proofs.YtcfbiafedfkbhaaDoor

namespace Go.Proofs.YtcfbiafedfkbhaaDoor
open Go.RowKit

theorem laid_u32 {H : Type} {enc : TypeId × Value → H} {P : Program} {w : World} {base fuel n : Nat} {sp : Nat → Bool} {held : Bool} {t e : TypeId} {cs : List Value} {zs : List Int} {p : List MemPlace}
    (ht : P.underlying t = some (.array n e)) (he : P.underlying e = some (.int .u32)) (hc : P.cellsOf e = 1) (hct : P.cellsOf t = n)
    (h : DataW.trod enc P w base sp held fuel t cs = some (.agg (zs.map fun z => .lit (.int .u32 z)), p)) : cs = zs.map (.int .u32) := by
  obtain ⟨xs, m, _, ex, hl, hxs, hel⟩ := DataW.trod_array ht h
  have e3 : xs.map (·.1) = zs.map fun z => (DataW.lit (.int .u32 z) : DataW H) := (DataW.agg.inj (Prod.mk.inj ex).1).symm
  have hz : zs.length = n := by have := congrArg List.length e3; simpa [hxs] using this.symm
  rw [hct] at hl
  apply List.ext_getElem (by simp; omega)
  intro i h1 h2
  have hi : i < n := by omega
  have hE := hel i hi
  rw [hc, Nat.mul_one, List.getElem?_eq_getElem (by omega)] at hE
  obtain ⟨z, e1, e2, _⟩ := DataW.trod_int he hE
  have e4 := congrArg (fun l : List (DataW H) => l[i]?) e3
  simp only [List.getElem?_map] at e4
  rw [List.getElem?_eq_getElem (by omega : i < xs.length), List.getElem?_eq_getElem (by omega : i < zs.length), e2] at e4
  simp only [Option.map_some, Option.some.injEq, DataW.lit.injEq, Lit.int.injEq, true_and] at e4
  have h0 : ((cs.drop i).take 1)[0]? = some (.int .u32 z) := by rw [e1]; rfl
  have h5 : cs[i]? = some (.int .u32 z) := by simpa using h0
  rw [List.getElem?_eq_getElem h1] at h5
  rw [Option.some.inj h5, e4]
  simp
theorem laid_row {P : Program} {W : World} {nm : String} {g : Nat} {cs : Array Value} {vs : List Value} {ps : List MemPlace} (hg : P.globalNamed nm = some g) (hv : W.var? P nm = some cs) (hcs : cs.toList = vs) (hpos : 0 < vs.length)
    (hm : ∀ b off, MemPlace.cell b off ∈ ps → (∃ c t, W.heap[b]? = some (.cells c t (0, 0)))) (hp : ∀ x, x ∈ MemPlace.row ⟨g, 0, none⟩ cs.size → x ∈ ps) : ∃ t, Row W g t vs.toArray := by
  have hsz : 0 < cs.size := by rw [← Array.length_toList, hcs]; exact hpos
  obtain ⟨c, t, hh⟩ := hm g 0 (hp _ (List.mem_map.2 ⟨0, List.mem_range.2 hsz, by simp⟩))
  simp only [World.var?, hg, Option.bind_some, hh, Option.some.injEq] at hv
  subst hv
  refine ⟨t, .of_heap ?_⟩
  rw [hh, ← hcs]
def numsOf {H : Type} : List (DataW H) → List Int
  | [] => []
  | .lit (.int _ z) :: r => z :: numsOf r
  | _ :: r => numsOf r
def partsOf {H : Type} : DataW H → List (DataW H)
  | .agg l => l
  | _ => []
abbrev hashLaid : List (String × DataW Unit) := [("tollgate/hash.start", Rows.laid_tollgate_hash_start), ("tollgate/hash.rounds", Rows.laid_tollgate_hash_rounds), ("unicode/utf8.acceptRanges", Rows.laid_unicode_utf8_acceptRanges), ("unicode/utf8.first", Rows.laid_unicode_utf8_first)]
theorem start_nums : (Rows.laid_tollgate_hash_start : DataW Unit) = .agg ((startS.map fun x => (x.toNat : Int)).map fun z => .lit (.int .u32 z)) := by kernel_rfl
theorem rounds_nums : (Rows.laid_tollgate_hash_rounds : DataW Unit) = .agg ((roundsS.map fun x => (x.toNat : Int)).map fun z => .lit (.int .u32 z)) := by kernel_rfl
theorem hash_laid {W : World} (h : laidMetH Tryd.prog hashLaid W) : HashW W := by
  rw [MakeChecks.laidMetH_plain _ _ _ (by kernel_rfl)] at h
  obtain ⟨ps, ⟨g, t, cs, fuel, p, q, hg, ht, hv, hd, ⟨g2, t2, cs2, fuel2, p2, q2, hg2, ht2, hv2, hd2, _, hq⟩, hps⟩, _, hm⟩ := h
  obtain rfl := Option.some.inj ((show Tryd.prog.globalNamed "tollgate/hash.start" = some 0 by kernel_rfl).symm.trans hg)
  obtain rfl := Option.some.inj ((show Tryd.prog.globalNamed "tollgate/hash.rounds" = some 1 by kernel_rfl).symm.trans hg2)
  obtain rfl := Option.some.inj ((show (Tryd.prog.globals[0]?).map (·.type) = some 141 by kernel_rfl).symm.trans ht)
  obtain rfl := Option.some.inj ((show (Tryd.prog.globals[1]?).map (·.type) = some 142 by kernel_rfl).symm.trans ht2)
  rw [start_nums] at hd
  rw [rounds_nums] at hd2
  have e1 := laid_u32 Tryd.underlying141 Tryd.underlying114 (by kernel_rfl) (by kernel_rfl) hd
  have e2 := laid_u32 Tryd.underlying142 Tryd.underlying114 (by kernel_rfl) (by kernel_rfl) hd2
  refine ⟨?_, ?_⟩
  · obtain ⟨t, ht⟩ := laid_row hg hv e1 (by decide) (fun b off hb => (hm b off hb).1) (fun x hx => by rw [hps]; simp [hx])
    exact ⟨t, by rw [List.map_map] at ht; exact ht⟩
  · obtain ⟨t, ht⟩ := laid_row hg2 hv2 e2 (by decide) (fun b off hb => (hm b off hb).1) (fun x hx => by rw [hps, hq]; simp [hx])
    exact ⟨t, by rw [List.map_map] at ht; exact ht⟩
end Go.Proofs.YtcfbiafedfkbhaaDoor
