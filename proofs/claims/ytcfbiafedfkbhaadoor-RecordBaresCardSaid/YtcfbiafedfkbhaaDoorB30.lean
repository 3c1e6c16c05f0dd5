/- Part of the proof: BareLaw, RecordLong, RecordBares, Laid. No conditions of its own. -/
import Derived.ArgAppend
import Derived.Below
import Derived.BigQuiet
import Derived.BigRegion
import Derived.ChangeOld
import Derived.Deep.CutBlock
import Derived.Deep.DeepCutAuto
import Derived.Deep.Draws
import Derived.Deep.LoopGhost
import Derived.Deep.Quiet
import Derived.Deep.QuietTactic
import Derived.Deep.RegionHeld3
import Derived.Deep.RegionLaw
import Derived.Laws.AppendOwnNone
import Derived.Laws.Bits64
import Derived.Laws.BitsAllLaws
import Derived.Laws.BytesArg
import Derived.Laws.Concat
import Derived.Laws.CopyOwn
import Derived.Laws.MakeOwn
import Derived.Lib.AppendStr
import Derived.Lib.AppendZerosOnto
import Derived.Lib.Hide
import Derived.Lib.SlBytesConst
import Derived.LoopIn
import Derived.LoopNIn
import Derived.Maps.AppendAt
import Derived.OpenShut
import Derived.OrdersIn
import Derived.OwnWalkIn
import Derived.ProofKit
import Derived.RangeFuncBound
import Derived.RangeFuncBox
import Derived.RangeFuncCalls
import Derived.RangeFuncLeaves
import Derived.RangeFuncNested
import Derived.Shelf.Abstract
import Derived.ShutString
import Derived.StillTail
import Derived.TacticsIn
import Derived.TacticsInMore
import Derived.Test.YtcfbiafedfkbhaaDoorChecked
import Derived.Test.YtcfbiafedfkbhaaDoorProg
import Derived.WalkKit
import Derived.WalkSpells
import Derived.Test.YtcfbiafedfkbhaaDoorB29
import Derived.Test.YtcfbiafedfkbhaaDoorB11
import Derived.Test.YtcfbiafedfkbhaaDoorB13
import Derived.Test.YtcfbiafedfkbhaaDoorB25
import Derived.Test.YtcfbiafedfkbhaaDoorB26
import Derived.Test.YtcfbiafedfkbhaaDoorB27
import Derived.Test.YtcfbiafedfkbhaaDoorB28
import Derived.LaidMore
import Derived.Lay
import Derived.SevenTiedAt
import Derived.Stop.Joined
import Derived.Test.YtcfbiafedfkbhaaDoorRows
import Derived.Test.YtcfbiafedfkbhaaDoorB08
namespace Go.Proofs.YtcfbiafedfkbhaaDoor
open Go.RowKit
set_option linter.unusedVariables false

theorem gb_bare (k : Nat) (l : List UInt8) (m i : Nat) (hi : i < 5) (hm : i < m) : gb ((bareS k l).take m) i = gb (headS k l.length) i := by
  unfold gb
  rw [List.getD_eq_getElem?_getD, List.getD_eq_getElem?_getD, List.getElem?_take, if_pos hm, bareS, List.getElem?_append_left (by exact hi)]
theorem take_all (k : Nat) (l : List UInt8) : (bareS k l).take (5 + l.length) = bareS k l := List.take_of_length_le (by rw [bareS_len]; exact Nat.le_refl _)
theorem gb_bare' (k : Nat) (l : List UInt8) (i : Nat) (hi : i < 5) : gb (bareS k l) i = gb (headS k l.length) i := by
  have := gb_bare k l (5 + l.length) i hi (by omega)
  rwa [take_all] at this
theorem formB_bare (k : Nat) (l : List UInt8) (m : Nat) (hk : 21 ≤ k ∧ k ≤ 23) : formB ((bareS k l).take m) = true := by
  rw [formB_iff]
  intro i hi hl
  have hm : i < m := by rw [List.length_take] at hl; omega
  have hg := gb_bare k l m i (by omega) hm
  have hi3 : i = 0 ∨ i = 1 ∨ i = 2 := by omega
  rcases hi3 with rfl | rfl | rfl
  · unfold goodB
    rw [if_pos rfl, hg]
    have h1 : gb (headS k l.length) 0 = UInt8.ofNat k := rfl
    rw [h1, UInt8.toNat_ofNat', Nat.mod_eq_of_lt (by omega)]
    unfold kindB
    simp
    omega
  · unfold goodB
    rw [if_neg (by decide), hg]
    rfl
  · unfold goodB
    rw [if_neg (by decide), hg]
    rfl
theorem cutN_bare (k : Nat) (l : List UInt8) (m : Nat) (hm : 5 ≤ m) (hl : l.length ≤ 16384) : cutN ((bareS k l).take m) = l.length := by
  unfold cutN
  rw [gb_bare k l m 3 (by omega) (by omega), gb_bare k l m 4 (by omega) (by omega)]
  have h1 : gb (headS k l.length) 3 = UInt8.ofNat (l.length / 256) := rfl
  have h2 : gb (headS k l.length) 4 = UInt8.ofNat l.length := rfl
  rw [h1, h2, UInt8.toNat_ofNat', UInt8.toNat_ofNat']
  omega
theorem cutE_bare (k : Nat) (l : List UInt8) (hk : 21 ≤ k ∧ k ≤ 23) (hl : l.length ≤ 16384) : cutE (bareS k l) = 0 := by
  have h1 := formB_bare k l (5 + l.length) hk
  have h2 := cutN_bare k l (5 + l.length) (by omega) hl
  rw [take_all] at h1 h2
  exact cutE_ok h1 (by omega) (by rw [h2, bareS_len]; exact Nat.le_refl _)
theorem aloE_bare (k : Nat) (l : List UInt8) (hk : 21 ≤ k ∧ k ≤ 23) (hl : l.length ≤ 16384) : aloE (bareS k l) = 0 := by
  have h0 := cutE_bare k l hk hl
  have h2 := cutN_bare k l (5 + l.length) (by omega) hl
  rw [take_all] at h2
  have hz : cutZ (bareS k l) = [] := by
    rw [cutZ_ok h0, h2]
    exact List.drop_eq_nil_of_le (by rw [bareS_len]; exact Nat.le_refl _)
  unfold aloE
  rw [if_neg (fun h => h.2 hz)]
  exact h0
theorem bodE_bare (k : Nat) (l : List UInt8) (hk : 21 ≤ k ∧ k ≤ 23) (hl : l.length ≤ 16384) : bodE (bareS k l) = 0 := by
  have h0 := aloE_bare k l hk hl
  unfold bodE
  rw [if_neg (fun h => h h0), if_neg (by rw [bareS_len]; omega)]
theorem bodK_bare (k : Nat) (l : List UInt8) (hk : 21 ≤ k ∧ k ≤ 23) (hl : l.length ≤ 16384) : bodK (bareS k l) = k := by
  rw [bodK, if_pos (bodE_bare k l hk hl), gb_bare' k l 0 (by omega)]
  have h1 : gb (headS k l.length) 0 = UInt8.ofNat k := rfl
  rw [h1, UInt8.toNat_ofNat', Nat.mod_eq_of_lt (by omega)]
theorem bodB_bare (k : Nat) (l : List UInt8) (hk : 21 ≤ k ∧ k ≤ 23) (hl : l.length ≤ 16384) : bodB (bareS k l) = l := by
  rw [bodB, if_pos (bodE_bare k l hk hl)]
  rfl
theorem cutE_less (k : Nat) (l : List UInt8) (hk : 21 ≤ k ∧ k ≤ 23) (hl : l.length ≤ 16384) : cutE ((bareS k l).take (4 + l.length)) = 3 := by
  have h1 := formB_bare k l (4 + l.length) hk
  have hlen : ((bareS k l).take (4 + l.length)).length = 4 + l.length := by rw [List.length_take, bareS_len]; omega
  by_cases h : l.length = 0
  · exact cutE_short h1 (by omega)
  · have h2 := cutN_bare k l (4 + l.length) (by omega) hl
    exact cutE_tail h1 (by omega) (by omega) (by omega)
def bareE (k : Int) (n : Nat) : Nat := if kindB k = false then 1 else if 16384 < n then 4 else 0
def bareX (k : Int) (l : List UInt8) : List UInt8 := if bareE k l.length = 0 then bareS k.toNat l else []
theorem bareE_inv {k : Int} {n : Nat} (h : bareE k n = 0) : (k = (k.toNat : Int) ∧ 21 ≤ k.toNat ∧ k.toNat ≤ 23) ∧ n ≤ 16384 := by
  unfold bareE at h
  split at h
  · cases h
  · rename_i h1
    split at h
    · cases h
    · have h2 : kindB k = true := by simpa using h1
      unfold kindB at h2
      simp at h2
      omega
theorem bare_all (w : World) (k : Int) (l : List UInt8) (a : Option Addr) (c : Nat) (hS : SlB w (.slice a l.length c) l) :
    Calls Tryd.prog 21 #[.int .i64 k, .slice a l.length c] w fun e w' => ∃ v', e = .returned (.tuple #[v', .int .i64 (bareE k l.length : Int)]) ∧ SlB w' v' (bareX k l) ∧ Below w.heap.size w w' := by
  cases hk : kindB k with
  | false =>
    have hE : bareE k l.length = 1 := if_pos hk
    refine (bare_kind w k _ hk).mono ?_
    rintro e w' ⟨rfl, rfl⟩
    exact ⟨.slice none 0 0, by rw [hE]; rfl, by rw [bareX, hE]; exact SlB.nilW _, Below.refl _ _⟩
  | true =>
    obtain ⟨n, rfl⟩ : ∃ n : Nat, k = n := ⟨k.toNat, by unfold kindB at hk; simp at hk; omega⟩
    have hn : 21 ≤ n ∧ n ≤ 23 := by unfold kindB at hk; simp at hk; omega
    by_cases hl : 16384 < l.length
    · have hE : bareE (n : Int) l.length = 4 := by unfold bareE; rw [if_neg (by rw [hk]; decide), if_pos hl]
      refine (bare_big w n a l.length c hn hl).mono ?_
      rintro e w' ⟨rfl, rfl⟩
      exact ⟨.slice none 0 0, by rw [hE]; rfl, by rw [bareX, hE]; exact SlB.nilW _, Below.refl _ _⟩
    · have hE : bareE (n : Int) l.length = 0 := by unfold bareE; rw [if_neg (by rw [hk]; decide), if_neg hl]
      refine (bare_ok w n l _ hS hn (by omega)).mono ?_
      rintro e w' ⟨v', rfl, ho, hB⟩
      exact ⟨v', by rw [hE]; rfl, by rw [bareX, hE]; exact ho.slb, hB⟩
theorem rbare_all (w : World) (k : Int) (l : List UInt8) :
    Calls Tryd.prog 22 #[.int .i64 k, S l] w fun e w' => e = .returned (.tuple #[S (bareX k l), .int .i64 (bareE k l.length : Int)]) ∧ Below w.heap.size w w' := by
  cases hk : kindB k with
  | false =>
    have hE : bareE k l.length = 1 := if_pos hk
    refine (rbare_kind w k _ hk).mono ?_
    rintro e w' ⟨rfl, hB⟩
    exact ⟨by rw [bareX, hE]; rfl, hB⟩
  | true =>
    obtain ⟨n, rfl⟩ : ∃ n : Nat, k = n := ⟨k.toNat, by unfold kindB at hk; simp at hk; omega⟩
    have hn : 21 ≤ n ∧ n ≤ 23 := by unfold kindB at hk; simp at hk; omega
    by_cases hl : 16384 < l.length
    · have hE : bareE (n : Int) l.length = 4 := by unfold bareE; rw [if_neg (by rw [hk]; decide), if_pos hl]
      refine (rbare_big w n l hn hl).mono ?_
      rintro e w' ⟨rfl, hB⟩
      exact ⟨by rw [bareX, hE]; rfl, hB⟩
    · have hE : bareE (n : Int) l.length = 0 := by unfold bareE; rw [if_neg (by rw [hk]; decide), if_neg hl]
      refine (rbare_ok w n l hn (by omega)).mono ?_
      rintro e w' ⟨rfl, hB⟩
      exact ⟨by rw [bareX, hE]; rfl, hB⟩
end Go.Proofs.YtcfbiafedfkbhaaDoor

namespace Go.Proofs.YtcfbiafedfkbhaaDoor
open Go.RowKit
set_option linter.unusedVariables false
set_option linter.unusedSimpArgs false

theorem made_bytesR (n : Nat) : madeCells (Value.int .u8 0).cells (n * 1) = AB (List.replicate n 0) := by
  apply Array.ext (by simp [size_madeCells, AB])
  intro i h1 h2
  simp [madeCells, AB, Value.cells]
  rw [Nat.mod_one]
  rfl
theorem make_bytesR (w : World) (n : Nat) (hn : n ≤ 1000000) : (Instr.makeSlice 23 (.int .i64 (n : Int)) (.int .i64 (n : Int))).run Tryd.prog w = .ok (.slice (some ⟨w.heap.size, 0, none⟩) n n) (w.alloc (.cells (AB (List.replicate n 0)) 5)) := by
  obtain ⟨i0, hi, hz0, hz1, hz2⟩ := info_parts info_u8H
  have := run_make (P := Tryd.prog) w 23 5 i0 (.int .u8 0) Tryd.underlying23 hi hz0 .i64 .i64 (n : Int) (n : Int) (by omega) (by omega) (by rw [hz2]; omega) (by omega)
  rw [this, hz1]
  simp only [Int.toNat_natCast, made_bytesR]
theorem zeros_slb {w : World} {g n : Nat} (h : Row w g 5 (AB (List.replicate n 0))) (hn : n ≤ 1000000) : SlB w (.slice (some ⟨g, 0, none⟩) n n) (List.replicate n 0) := by
  have := h.slW (l := List.replicate n 0) (by rw [List.length_replicate]; omega)
  rwa [List.length_replicate] at this
end Go.Proofs.YtcfbiafedfkbhaaDoor

namespace Go.Proofs.YtcfbiafedfkbhaaDoor
open Go.RowKit
set_option linter.unusedVariables false
set_option linter.unusedSimpArgs false

set_option maxRecDepth 100000 in
set_option maxHeartbeats 8000000 in
theorem rbares_any (w : World) (kind size : Int) (b0 : List UInt8) (vb : Value) (hb : SlB w vb b0) (hv : HashW w) : Calls Tryd.prog 7 #[.int .i64 kind, .int .i64 size, vb] w fun e w' => e = .returned (.bool true) ∧ Below w.heap.size w w' := by
  obtain ⟨a, cap, rfl, hcap, hc2⟩ := id hb
  clear hc2
  obtain ⟨b, hbe⟩ : ∃ b, b = b0.take 300 := ⟨_, rfl⟩
  have hbn : b.length = min 300 b0.length := by rw [hbe, List.length_take]
  have hbb : SlB w (.slice a b.length cap) b := by
    rcases Nat.lt_or_ge 300 b0.length with h | h
    · rw [hbn, Nat.min_eq_left (by omega), hbe]; exact hb.take 300 (by omega)
    · rw [hbn, Nat.min_eq_right h, hbe, List.take_of_length_le h]; exact hb
  obtain ⟨m, hm⟩ : ∃ m, m = b0.length := ⟨_, rfl⟩
  rw [← hm] at hbn hcap ⊢
  have HBN := Lib.hid (⟨hbn, hcap⟩ : _ ∧ _)
  have HBB := Lib.hid hbb
  have HV := Lib.hid hv
  obtain ⟨N, hN, hN17⟩ : ∃ s : Nat, (IntKind.u64.wrap size).tmod 17000 = (s : Int) ∧ s < 17000 := by
    have h1 : 0 ≤ IntKind.u64.wrap size := by rw [IntKind.wrap_u64]; omega
    refine ⟨((IntKind.u64.wrap size).tmod 17000).toNat, ?_, ?_⟩
    · rw [Int.tmod_eq_emod_of_nonneg h1]; omega
    · rw [Int.tmod_eq_emod_of_nonneg h1]; omega
  have hmk := fun W => make_bytesR W N (by omega)
  have n17 : (N : Int) < 17000 := by omega
  have H17 := Lib.hid hN17
  clear hbe hbn hb hbb hv hcap hm hN17
  go_enter Tryd.func7, Tryd.ntmps7
  go_upto_region 1 with (fail)
  obtain ⟨nb, hnb⟩ : ∃ n, n = b.length := ⟨_, rfl⟩
  go_cut [2] (fun v wr => v = .slice a b.length cap ∧ wr = w)
  case first =>
    rw [← hnb] at HBN
    have HNB := Lib.hid hnb
    clear hnb
    rcases Nat.lt_or_ge 300 m with h | h
    · have hl1 : ¬ ((m : Int) ≤ 300) := by omega
      have hl2 : (300 : Int) < (m : Int) := by omega
      have hl3 : (300 : Int) ≤ (cap : Int) := by have := HBN.out.2; omega
      have HF := Lib.hid (show (300 : Nat) = nb by have := HBN.out.1; omega)
      clear h hN hmk
      go_wp2_with fail
      go_meet
      case rel => exact ⟨by rw [← HNB.out, ← HF.out], rfl⟩
    · have hl1 : (m : Int) ≤ 300 := by omega
      have hl2 : ¬ (300 : Int) < (m : Int) := by omega
      have hl3 : (m : Int) ≤ (cap : Int) := by have := HBN.out.2; omega
      have HF := Lib.hid (show m = nb by have := HBN.out.1; omega)
      clear h hN hmk
      go_wp2_with fail
      go_meet
      case rel => exact ⟨by rw [← HNB.out, ← HF.out], rfl⟩
  case rest =>
  clear hnb
  obtain ⟨rfl, hw⟩ := hcut
  obtain rfl := hw.symm
  go_upto_region 3 with (fail)
  obtain ⟨w1, hw1⟩ : ∃ W, W = w.alloc (.cells (AB (List.replicate N 0)) 5) := ⟨_, rfl⟩
  rw [← hw1]
  obtain ⟨Z, hZ⟩ : ∃ Z : List UInt8, Z = List.replicate N 0 := ⟨_, rfl⟩
  have HZ := Lib.hid (show Z.length = N by rw [hZ, List.length_replicate])
  have HZ1 := Lib.hid (show SlB w1 (.slice (some ⟨w.heap.size, 0, none⟩) Z.length Z.length) Z by
    rw [HZ.out, hZ, hw1]
    exact zeros_slb (Row.new _ _ _) (by have := H17.out; omega))
  have HB1 := Lib.hid (show Below w.heap.size w w1 by rw [hw1]; exact (Below.refl _ _).alloc (Nat.le_refl _) _)
  have HBA := Lib.hid (fun W (h : Below w1.heap.size w1 W) => bare_all W kind Z (some ⟨w.heap.size, 0, none⟩) Z.length (HZ1.out.below h))
  have HRA := Lib.hid (fun W => rbare_all W kind Z)
  obtain ⟨X, hX⟩ : ∃ X, X = bareX kind Z := ⟨_, rfl⟩
  obtain ⟨E, hE⟩ : ∃ E, E = bareE kind Z.length := ⟨_, rfl⟩
  rw [← hX, ← hE] at HBA HRA
  rw [HZ.out] at HZ1 HBA
  have HXE := Lib.hid (⟨hX, hE⟩ : _ ∧ _)
  clear hw1 hZ hN hmk hX hE
  go_wp2_with fail
  refine (HBA.out w1 (Below.refl _ _)).mono ?_
  rintro e w2 ⟨v2, rfl, hs2, hB2⟩
  obtain ⟨a2, c2, rfl, hcc⟩ := id hs2
  clear hcc
  have HS2 := Lib.hid hs2
  have HB2 := Lib.hid (HB1.out.trans (hB2.mono HB1.out.size))
  have hc2 := run_conv_slb (P := Tryd.prog) w2 23 5 9 Tryd.underlying23 Tryd.underlying5 Tryd.underlying9 _ _ (HZ1.out.below hB2)
  have HZ2 := Lib.hid (HZ1.out.below hB2)
  clear hs2 hB2
  go_wp2_with fail
  refine (HRA.out w2).mono ?_
  rintro e w3 ⟨rfl, hB3⟩
  have HS3 := Lib.hid (HS2.out.below hB3)
  have HZ3 := Lib.hid (HZ2.out.below hB3)
  have HB3 := Lib.hid (HB2.out.trans (hB3.mono HB2.out.size))
  clear hB3 hc2
  go_wp2_with fail
  refine (cut_any w3 a cap b (HBB.out.below HB3.out) (by have := HBN.out.1; omega)).mono ?_
  rintro e w4 ⟨v4, v5, rfl, hs4, hs5, hB4⟩
  obtain ⟨a4, c4, rfl, hcc⟩ := id hs4
  obtain ⟨a5, c5, rfl, hcd⟩ := id hs5
  have HS4 := Lib.hid (HS3.out.below hB4)
  have HZ4 := Lib.hid (HZ3.out.below hB4)
  have HT4 := Lib.hid (⟨hs4, hs5⟩ : _ ∧ _)
  have HB4 := Lib.hid (HB3.out.trans (hB4.mono HB3.out.size))
  have hcb := run_conv_slb (P := Tryd.prog) w4 23 5 9 Tryd.underlying23 Tryd.underlying5 Tryd.underlying9 _ _ (HBB.out.below HB4.out)
  clear hs4 hs5 hB4 hcc hcd
  go_wp2_with fail
  refine (rcut_any w4 b (by have := HBN.out.1; omega)).mono ?_
  rintro e w5 ⟨rfl, hB5⟩
  have HS5 := Lib.hid (HS4.out.below hB5)
  have HZ5 := Lib.hid (HZ4.out.below hB5)
  have HT5 := Lib.hid (⟨HT4.out.1.below hB5, HT4.out.2.below hB5⟩ : _ ∧ _)
  have HB5 := Lib.hid (HB4.out.trans (hB5.mono HB4.out.size))
  clear hB5 hcb
  go_wp2_with fail
  refine (body_at w5 a cap b (HBB.out.below HB5.out) (by have := HBN.out.1; omega)).mono ?_
  rintro e w6 ⟨v6, rfl, hs6, hB6⟩
  obtain ⟨a6, c6, rfl, hcc⟩ := id hs6
  have HS6 := Lib.hid (HS5.out.below hB6)
  have HZ6 := Lib.hid (HZ5.out.below hB6)
  have HT6 := Lib.hid (⟨HT5.out.1.below hB6, HT5.out.2.below hB6, hs6⟩ : _ ∧ _ ∧ _)
  have HB6 := Lib.hid (HB5.out.trans (hB6.mono HB5.out.size))
  have hcb := run_conv_slb (P := Tryd.prog) w6 23 5 9 Tryd.underlying23 Tryd.underlying5 Tryd.underlying9 _ _ (HBB.out.below HB6.out)
  clear hs6 hB6 hcc
  go_wp2_with fail
  refine (rbody_any w6 b (by have := HBN.out.1; omega)).mono ?_
  rintro e w7 ⟨rfl, hB7⟩
  have HS7 := Lib.hid (HS6.out.below hB7)
  have HZ7 := Lib.hid (HZ6.out.below hB7)
  have HT7 := Lib.hid (⟨HT6.out.1.below hB7, HT6.out.2.1.below hB7, HT6.out.2.2.below hB7⟩ : _ ∧ _ ∧ _)
  have HB7 := Lib.hid (HB6.out.trans (hB7.mono HB6.out.size))
  clear hB7 hcb
  go_wp2_with fail
  refine (records_any w7 (HV.out.below HB7.out)).mono ?_
  rintro e w8 ⟨rfl, hB8⟩
  have HS8 := Lib.hid (HS7.out.below hB8)
  have HZ8 := Lib.hid (HZ7.out.below hB8)
  have HB8 := Lib.hid (HB7.out.trans (hB8.mono HB7.out.size))
  have k1 := run_conv_slb (P := Tryd.prog) w8 23 5 9 Tryd.underlying23 Tryd.underlying5 Tryd.underlying9 _ _ HS8.out
  have k2 := run_conv_slb (P := Tryd.prog) w8 23 5 9 Tryd.underlying23 Tryd.underlying5 Tryd.underlying9 _ _ (HT7.out.1.below hB8)
  have k3 := run_conv_slb (P := Tryd.prog) w8 23 5 9 Tryd.underlying23 Tryd.underlying5 Tryd.underlying9 _ _ (HT7.out.2.1.below hB8)
  have k4 := run_conv_slb (P := Tryd.prog) w8 23 5 9 Tryd.underlying23 Tryd.underlying5 Tryd.underlying9 _ _ (HT7.out.2.2.below hB8)
  clear hB8
  by_cases h0 : E = 0
  · obtain ⟨⟨hk1, hk2⟩, hN⟩ := bareE_inv (HXE.out.2.symm.trans h0)
    have e0 : (E : Int) = 0 := by omega
    obtain ⟨k, hk⟩ : ∃ k, k = kind.toNat := ⟨_, rfl⟩
    rw [← hk] at hk1 hk2
    have hX : X = bareS k Z := by rw [HXE.out.1, bareX, if_pos (HXE.out.2.symm.trans h0), hk]
    have hXl : X.length = 5 + N := by rw [hX, bareS_len, HZ.out]
    have HK := Lib.hid (⟨hk1, hk2, hN⟩ : _ ∧ _ ∧ _)
    have hbk : bodK X = k := by rw [hX]; exact bodK_bare k Z hk2 hN
    have hbb : bodB X = Z := by rw [hX]; exact bodB_bare k Z hk2 hN
    have hbe : bodE X = 0 := by rw [hX]; exact bodE_bare k Z hk2 hN
    have HBO := Lib.hid (show ∀ W, Below w8.heap.size w8 W → Calls Tryd.prog 25 #[.slice a2 X.length c2] W (fun e w' => ∃ v, e = .returned (.tuple #[.int .i64 (k : Int), v, .int .i64 0]) ∧ SlB w' v Z ∧ Below W.heap.size W w') from fun W hW => (body_at W a2 c2 X (HS8.out.below hW) (by have := H17.out; omega)).mono fun e w' ⟨v, h1, h2, h3⟩ => ⟨v, by rw [hbk, hbe] at h1; exact h1, by rw [hbb] at h2; exact h2, h3⟩)
    obtain ⟨nX, hnX⟩ : ∃ n, n = X.length := ⟨_, rfl⟩
    obtain ⟨q, hq⟩ : ∃ q, q = 4 + N := ⟨_, rfl⟩
    have hqc : cutE (X.take q) = 3 := by rw [hX, hq]; have := cutE_less k Z hk2 hN; rwa [HZ.out] at this
    have hql : (X.take q).length = q := by rw [List.length_take]; omega
    have hcap2 : X.length ≤ c2 := by obtain ⟨a', c', e, h1, _⟩ := HS8.out; have := (Value.slice.inj e).2.2; omega
    have HCU := Lib.hid (show ∀ W, Below w8.heap.size w8 W → Calls Tryd.prog 23 #[.slice a2 q c2] W (fun e w' => ∃ v1 v2, e = .returned (.tuple #[v1, v2, .int .i64 3]) ∧ Below W.heap.size W w') from fun W hW => by
      have h1 := cut_any W a2 c2 (X.take q) (by have := (HS8.out.below hW).take q (by omega); rw [hql]; exact this) (by have := H17.out; omega)
      rw [hql] at h1
      refine h1.mono ?_
      rintro e w' ⟨v1, v2, rfl, _, _, h3⟩
      exact ⟨v1, v2, by rw [hqc]; rfl, h3⟩)
    rw [← hnX] at HBO k1 ⊢
    have c1 : (nX : Int) - 1 = (q : Int) := by omega
    have c2' : (0 : Int) ≤ (q : Int) := by omega
    have c3 : (q : Int) ≤ (c2 : Int) := by omega
    have c4 : (nX : Int) ≤ 1000000 := by have := H17.out; omega
    have c5 : q ≤ c2 := by omega
    have HNX := Lib.hid (⟨hnX, hq⟩ : _ ∧ _)
    clear h0 hk1 hk2 hN hk hX hXl hbk hbb hbe hqc hql hcap2 hnX hq
    go_upto_region 13 with (fail)
    clear k1 k2 k3 k4
    go_wp2_with fail
    refine (HBO.out w8 (Below.refl _ _)).mono ?_
    rintro e w9 ⟨v9, rfl, hs9, hB9⟩
    obtain ⟨a9, c9, rfl, hcc⟩ := id hs9
    clear hcc
    rw [HZ.out] at hs9 ⊢
    have HB9 := Lib.hid (HB8.out.trans (hB9.mono HB8.out.size))
    have HZ9 := Lib.hid (⟨HZ8.out.below hB9, hs9⟩ : _ ∧ _)
    have HCU9 := Lib.hid (HCU.out w9 hB9)
    clear hB9 hs9
    go_wp2_with fail
    refine HCU9.out.mono ?_
    rintro e w10 ⟨v1, v2, rfl, hB10⟩
    have HB10 := Lib.hid (HB9.out.trans (hB10.mono HB9.out.size))
    have k1 := run_conv_slb (P := Tryd.prog) w10 23 5 9 Tryd.underlying23 Tryd.underlying5 Tryd.underlying9 _ _ (HZ9.out.1.below hB10)
    have k2 := run_conv_slb (P := Tryd.prog) w10 23 5 9 Tryd.underlying23 Tryd.underlying5 Tryd.underlying9 _ _ (HZ9.out.2.below hB10)
    clear hB10
    have c6 : (k : Int) = kind := HK.out.1.symm
    go_wp2_with fail
    go_ret
    exact ⟨rfl, HB10.out⟩
  · have e0 : ¬ (E : Int) = 0 := by omega
    clear h0
    go_wp2_with fail
    go_ret
    exact ⟨rfl, HB8.out⟩
theorem rbares_law (a0 a1 : Int) (vb : Value) (b0 : List UInt8) (w : World) (_ : (Lit.int .i64 a0).wf = true) (_ : (Lit.int .i64 a1).wf = true) (hb : SlB w vb b0) (hv : HashW w) : Calls Tryd.prog 7 #[.int .i64 a0, .int .i64 a1, vb] w fun e w' => e = .returned (.bool true) ∧ Below w.heap.size w w' := rbares_any w a0 a1 b0 vb hb hv
end Go.Proofs.YtcfbiafedfkbhaaDoor

namespace Go.Proofs.YtcfbiafedfkbhaaDoor
open Go.RowKit

theorem laid_u32 {H : Type} {enc : TypeId × Value → H} {P : Program} {w : World} {base fuel n : Nat} {sp : Nat → Bool} {held : Bool} {t e : TypeId} {cs : List Value} {zs : List Int} {p : List MemPlace}
    (ht : P.underlying t = some (.array n e)) (he : P.underlying e = some (.int .u32)) (hc : P.cellsOf e = 1) (hct : P.cellsOf t = n)
    (h : DataW.trod enc P w base sp held fuel t cs = some (.agg (zs.map fun z => .lit (.int .u32 z)), p)) : cs = zs.map (.int .u32) := by
  obtain ⟨xs, m, _, ex, hl, hxs, hel⟩ := DataW.trod_array ht h
  have e3 : xs.map (·.1) = zs.map fun z => (DataW.lit (.int .u32 z) : DataW H) := (DataW.agg.inj (Prod.mk.inj ex).1).symm
  have hz : zs.length = n := by have := congrArg List.length e3; simpa [hxs] using this.symm
  rw [hct] at hl
  apply List.ext_getElem (by simp; omega)
  intro i h1 h2
  have hi : i < n := by omega
  have hE := hel i hi
  rw [hc, Nat.mul_one, List.getElem?_eq_getElem (by omega)] at hE
  obtain ⟨z, e1, e2, _⟩ := DataW.trod_int he hE
  have e4 := congrArg (fun l : List (DataW H) => l[i]?) e3
  simp only [List.getElem?_map] at e4
  rw [List.getElem?_eq_getElem (by omega : i < xs.length), List.getElem?_eq_getElem (by omega : i < zs.length), e2] at e4
  simp only [Option.map_some, Option.some.injEq, DataW.lit.injEq, Lit.int.injEq, true_and] at e4
  have h0 : ((cs.drop i).take 1)[0]? = some (.int .u32 z) := by rw [e1]; rfl
  have h5 : cs[i]? = some (.int .u32 z) := by simpa using h0
  rw [List.getElem?_eq_getElem h1] at h5
  rw [Option.some.inj h5, e4]
  simp
theorem laid_row {P : Program} {W : World} {nm : String} {g : Nat} {cs : Array Value} {vs : List Value} {ps : List MemPlace} (hg : P.globalNamed nm = some g) (hv : W.var? P nm = some cs) (hcs : cs.toList = vs) (hpos : 0 < vs.length)
    (hm : ∀ b off, MemPlace.cell b off ∈ ps → (∃ c t, W.heap[b]? = some (.cells c t (0, 0)))) (hp : ∀ x, x ∈ MemPlace.row ⟨g, 0, none⟩ cs.size → x ∈ ps) : ∃ t, Row W g t vs.toArray := by
  have hsz : 0 < cs.size := by rw [← Array.length_toList, hcs]; exact hpos
  obtain ⟨c, t, hh⟩ := hm g 0 (hp _ (List.mem_map.2 ⟨0, List.mem_range.2 hsz, by simp⟩))
  simp only [World.var?, hg, Option.bind_some, hh, Option.some.injEq] at hv
  subst hv
  refine ⟨t, .of_heap ?_⟩
  rw [hh, ← hcs]
def numsOf {H : Type} : List (DataW H) → List Int
  | [] => []
  | .lit (.int _ z) :: r => z :: numsOf r
  | _ :: r => numsOf r
def partsOf {H : Type} : DataW H → List (DataW H)
  | .agg l => l
  | _ => []
abbrev hashLaid : List (String × DataW Unit) := [("tollgate/hash.start", Rows.laid_tollgate_hash_start), ("tollgate/hash.rounds", Rows.laid_tollgate_hash_rounds), ("unicode/utf8.acceptRanges", Rows.laid_unicode_utf8_acceptRanges), ("unicode/utf8.first", Rows.laid_unicode_utf8_first)]
theorem start_nums : (Rows.laid_tollgate_hash_start : DataW Unit) = .agg ((startS.map fun x => (x.toNat : Int)).map fun z => .lit (.int .u32 z)) := by kernel_rfl
theorem rounds_nums : (Rows.laid_tollgate_hash_rounds : DataW Unit) = .agg ((roundsS.map fun x => (x.toNat : Int)).map fun z => .lit (.int .u32 z)) := by kernel_rfl
theorem hash_laid {W : World} (h : laidMetH Tryd.prog hashLaid W) : HashW W := by
  rw [MakeChecks.laidMetH_plain _ _ _ (by kernel_rfl)] at h
  obtain ⟨ps, ⟨g, t, cs, fuel, p, q, hg, ht, hv, hd, ⟨g2, t2, cs2, fuel2, p2, q2, hg2, ht2, hv2, hd2, _, hq⟩, hps⟩, _, hm⟩ := h
  obtain rfl := Option.some.inj ((show Tryd.prog.globalNamed "tollgate/hash.start" = some 0 by kernel_rfl).symm.trans hg)
  obtain rfl := Option.some.inj ((show Tryd.prog.globalNamed "tollgate/hash.rounds" = some 1 by kernel_rfl).symm.trans hg2)
  obtain rfl := Option.some.inj ((show (Tryd.prog.globals[0]?).map (·.type) = some 141 by kernel_rfl).symm.trans ht)
  obtain rfl := Option.some.inj ((show (Tryd.prog.globals[1]?).map (·.type) = some 142 by kernel_rfl).symm.trans ht2)
  rw [start_nums] at hd
  rw [rounds_nums] at hd2
  have e1 := laid_u32 Tryd.underlying141 Tryd.underlying114 (by kernel_rfl) (by kernel_rfl) hd
  have e2 := laid_u32 Tryd.underlying142 Tryd.underlying114 (by kernel_rfl) (by kernel_rfl) hd2
  refine ⟨?_, ?_⟩
  · obtain ⟨t, ht⟩ := laid_row hg hv e1 (by decide) (fun b off hb => (hm b off hb).1) (fun x hx => by rw [hps]; simp [hx])
    exact ⟨t, by rw [List.map_map] at ht; exact ht⟩
  · obtain ⟨t, ht⟩ := laid_row hg2 hv2 e2 (by decide) (fun b off hb => (hm b off hb).1) (fun x hx => by rw [hps, hq]; simp [hx])
    exact ⟨t, by rw [List.map_map] at ht; exact ht⟩
end Go.Proofs.YtcfbiafedfkbhaaDoor
