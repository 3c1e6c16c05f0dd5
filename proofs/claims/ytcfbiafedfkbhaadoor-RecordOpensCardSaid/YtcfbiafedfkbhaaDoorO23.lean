/- Part of the proof: RecNew, RecA, AppZ. No conditions of its own. -/
import Derived.ArgAppend
import Derived.Below
import Derived.BigQuiet
import Derived.BigRegion
import Derived.ChangeOld
import Derived.Deep.CutBlock
import Derived.Deep.DeepCutAuto
import Derived.Deep.Draws
import Derived.Deep.LoopGhost
import Derived.Deep.Quiet
import Derived.Deep.QuietTactic
import Derived.Deep.RegionHeld3
import Derived.Deep.RegionLaw
import Derived.Laws.AppendOwnNone
import Derived.Laws.Bits64
import Derived.Laws.BitsAllLaws
import Derived.Laws.BytesArg
import Derived.Laws.CopyOwn
import Derived.Laws.MakeOwn
import Derived.Lib.AppendStr
import Derived.Lib.Hide
import Derived.LoopIn
import Derived.LoopNIn
import Derived.Maps.AppendAt
import Derived.OpenShut
import Derived.OrdersIn
import Derived.OwnWalkIn
import Derived.ProofKit
import Derived.RangeFuncBound
import Derived.RangeFuncBox
import Derived.RangeFuncCalls
import Derived.RangeFuncLeaves
import Derived.RangeFuncNested
import Derived.Shelf.Abstract
import Derived.ShutString
import Derived.StillTail
import Derived.TacticsIn
import Derived.TacticsInMore
import Derived.Test.YtcfbiafedfkbhaaDoorProg
import Derived.WalkKit
import Derived.WalkSpells
import Derived.Test.YtcfbiafedfkbhaaDoorO12
import Derived.Test.YtcfbiafedfkbhaaDoorO13
import Derived.Test.YtcfbiafedfkbhaaDoorO21
import Derived.Lib.AppendZerosOnto
import Derived.Test.YtcfbiafedfkbhaaDoorO06
import Derived.Test.YtcfbiafedfkbhaaDoorO10
namespace Go.Proofs.YtcfbiafedfkbhaaDoor
open Go.RowKit
set_option linter.unusedVariables false
set_option linter.unusedSimpArgs false

def keyS (sec : List UInt8) : List UInt8 := labS sec [107, 101, 121] [] 16
def ivS (sec : List UInt8) : List UInt8 := labS sec [105, 118] [] 12
theorem keyS_len (sec : List UInt8) : (keyS sec).length = 16 := labS_len _ _ _ _ (by decide)
theorem ivS_len (sec : List UInt8) : (ivS sec).length = 12 := labS_len _ _ _ _ (by decide)
def hfC (p : Value) (iv : List UInt8) (n : Nat) : Array Value := (p :: (iv.map B ++ [.int .i64 (n : Int)])).toArray
def HalfW (w : World) (g : Nat) (sec : List UInt8) (n : Nat) : Prop :=
  ∃ p, Row w g 68 (hfC p (ivS sec) n) ∧ BoxAt 87 109 84 w p (expand (keyS sec)) (lastOf (keyS sec)) (hOf (keyS sec))
theorem mlab_key (w : World) (sec : List UInt8) (hv : HashW w) (hk : sec.length = 32) :
    Calls Tryd.prog 27 #[.agg (AB sec), .string ⟨#[107, 101, 121]⟩, .slice none 0 0, .int .i64 16] w fun e w' => ∃ v, e = .returned (.tuple #[v, .int .i64 0]) ∧ SlB w' v (keyS sec) ∧ Below w.heap.size w w' :=
  mlab_any w sec [107, 101, 121] [] (.slice none 0 0) 16 hv hk (SlB.nilW w) (by decide) (by decide) (by decide) (by decide)
theorem mlab_iv (w : World) (sec : List UInt8) (hv : HashW w) (hk : sec.length = 32) :
    Calls Tryd.prog 27 #[.agg (AB sec), .string ⟨#[105, 118]⟩, .slice none 0 0, .int .i64 12] w fun e w' => ∃ v, e = .returned (.tuple #[v, .int .i64 0]) ∧ SlB w' v (ivS sec) ∧ Below w.heap.size w w' :=
  mlab_any w sec [105, 118] [] (.slice none 0 0) 12 hv hk (SlB.nilW w) (by decide) (by decide) (by decide) (by decide)
theorem splice_iv (p : Value) (iv : List UInt8) (h : iv.length = 12) : splice [p, B 0, B 0, B 0, B 0, B 0, B 0, B 0, B 0, B 0, B 0, B 0, B 0, .int .i64 0] 1 (iv.map B) = p :: (iv.map B ++ [.int .i64 0]) := by
  unfold splice
  rw [List.length_map, h]
  rfl
theorem SlB.src {w w0 : World} {a : Option Addr} {c : Nat} {l : List UInt8} (h : SlB w (.slice a l.length c) l) (hb : Below w.heap.size w w0) : ∀ {dp : Option Addr} {X : Option Addr}, dp = X → 0 < (l.map B).length → dp = X ∧ ∃ ad, a = some ad ∧ ∀ j v, (l.map B)[j]? = some v → w0.cell? (ad.add j) = some v := by
  intro dp X hX hpos
  obtain ⟨a', cap, e, h1, h2, h3, h4⟩ := h.below hb
  obtain ⟨rfl, _, rfl⟩ := Value.slice.inj e
  rw [List.length_map] at hpos
  cases ha : a with
  | none => exact absurd (h3 ha) (by omega)
  | some ad =>
    refine ⟨hX, ad, rfl, fun j u hu => ?_⟩
    have hj : j < l.length := by simpa using (List.getElem?_eq_some_iff.1 hu).1
    obtain ⟨hm, hc⟩ := h4 ad ha
    have hcj := hc j hj
    have e : ad.add j = ⟨ad.block, ad.off + j, none⟩ := by
      obtain ⟨ab, ao, am⟩ := ad
      obtain rfl : am = none := hm
      exact Addr.add_lit _ _ _
    rw [e, hcj]
    simpa [gb, hj] using hu
set_option maxRecDepth 100000 in
set_option maxHeartbeats 4000000 in
theorem rnew_any (w : World) (sec : List UInt8) (hv : HashW w) (hk : sec.length = 32) :
    Calls Tryd.prog 8 #[.agg (AB sec)] w fun e w' => ∃ g, e = .returned (.pointer (some ⟨g, 0, none⟩)) ∧ w.heap.size ≤ g ∧ HalfW w' g sec 0 ∧ Below w.heap.size w w' := by
  have HV := Lib.hid hv
  have HK := Lib.hid hk
  have hks := (AB_size sec).trans hk
  have hsk := sub_all (AB sec) 32 hks
  clear hv hk
  go_enter Tryd.func8, Tryd.ntmps8
  go_upto_region 1 with (fail)
  obtain ⟨w0, hw0⟩ : ∃ W, W = w.alloc (.cells (AB sec) 28) := ⟨_, rfl⟩
  rw [← hw0]
  have hr0 : Row w0 w.heap.size 28 (AB sec) := by rw [hw0]; exact Row.new _ _ _
  have HB0 := Lib.hid (show Below w.heap.size w w0 by rw [hw0]; exact (Below.refl _ w).alloc (Nat.le_refl _) _)
  have HS0 := Lib.hid (show w0.heap.size = w.heap.size + 1 by rw [hw0]; simp)
  clear hw0
  have hlt0 := hr0.lt
  go_wp2_with fail
  refine (mlab_key w0 sec (HV.out.below HB0.out) HK.out).mono ?_
  rintro e w1 ⟨v1, rfl, hS1, hB1⟩
  obtain ⟨a1, c1, rfl, _⟩ := id hS1
  have HS1 := Lib.hid hS1
  have HB1 := Lib.hid hB1
  have hr1 := hr0.below hB1 hlt0
  have hlt1 := hr1.lt
  clear hS1 hB1 hr0 hlt0
  rw [keyS_len]
  go_wp2_with fail
  refine (mlab_iv w1 sec ((HV.out.below HB0.out).below HB1.out) HK.out).mono ?_
  rintro e w2 ⟨v2, rfl, hS2, hB2⟩
  obtain ⟨a2, c2, rfl, _⟩ := id hS2
  have HS2 := Lib.hid hS2
  have HB2 := Lib.hid hB2
  rw [ivS_len]
  clear hS2 hB2 hr1 hlt1
  have HK2 := Lib.hid (HS1.out.below HB2.out)
  go_wp2_with fail
  refine (gnew_ok (.slice a1 16 c1) (keyS sec) w2 (by have := HK2.out; rwa [keyS_len] at this) (.inl (keyS_len sec))).mono ?_
  rintro e w3 ⟨p, rfl, hbx, hB3⟩
  obtain ⟨xb, kp, rfl, hbx'⟩ := id hbx
  clear hbx'
  have HBX := Lib.hid hbx
  have HB3 := Lib.hid hB3
  clear hbx hB3
  have HC2 := Lib.hid (show ((ivS sec).map B).length = Nat.min 12 12 by rw [List.length_map, ivS_len]; rfl)
  have HC4 := Lib.hid (show 1 + ((ivS sec).map B).length ≤ ([.pointer (some ⟨xb, 0, none⟩), B 0, B 0, B 0, B 0, B 0, B 0, B 0, B 0, B 0, B 0, B 0, B 0, .int .i64 0] : List Value).length by rw [List.length_map, ivS_len]; exact Nat.le_of_ble_eq_true rfl)
  have HC5 := Lib.hid (show ∀ u ∈ (ivS sec).map B, u.oneCell' = true by intro u hu; obtain ⟨z, _, rfl⟩ := List.mem_map.1 hu; rfl)
  have HBW := Lib.hid (show Below w3.heap.size w3 (w3.alloc (.cells #[.pointer (some ⟨xb, 0, none⟩), B 0, B 0, B 0, B 0, B 0, B 0, B 0, B 0, B 0, B 0, B 0, B 0, .int .i64 0] 68)) from (Below.refl _ _).alloc (Nat.le_refl _) _)
  go_upto_region 5 with (fail)
  obtain ⟨g, hg⟩ : ∃ g, g = w3.heap.size := ⟨_, rfl⟩
  obtain ⟨w4, hw4⟩ : ∃ W, W = w3.alloc (.cells #[.pointer (some ⟨xb, 0, none⟩), .int .u8 0, .int .u8 0, .int .u8 0, .int .u8 0, .int .u8 0, .int .u8 0, .int .u8 0, .int .u8 0, .int .u8 0, .int .u8 0, .int .u8 0, .int .u8 0, .int .i64 0] 68) := ⟨_, rfl⟩
  rw [← hw4, ← hg]
  have hr4 : Row w4 g 68 #[.pointer (some ⟨xb, 0, none⟩), .int .u8 0, .int .u8 0, .int .u8 0, .int .u8 0, .int .u8 0, .int .u8 0, .int .u8 0, .int .u8 0, .int .u8 0, .int .u8 0, .int .u8 0, .int .u8 0, .int .i64 0] := by rw [hw4, hg]; exact Row.new _ _ _
  have HB4 := Lib.hid (show Below w3.heap.size w3 w4 by rw [hw4]; exact (Below.refl _ _).alloc (Nat.le_refl _) _)
  have HG := Lib.hid (show w3.heap.size ≤ g by rw [hg]; exact Nat.le_refl _)
  have HH := Lib.hid hr4.heap
  have hlt4 := hr4.lt
  have HC3 := Lib.hid (SlB.src (by have := HS2.out; rwa [ivS_len] at this ⊢) (HB3.out.trans (HB4.out.mono HB3.out.size)) (dp := some ⟨g, 1, none⟩) rfl : 0 < ((ivS sec).map B).length → _)
  clear hw4 hg HBW
  go_wp2_with (refine wpList_copy_splice rfl (.tmp 31) (.tmp 32) 23 23 rfl 5 Tryd.underlying23 (by kernel_rfl) (some ⟨g, 1, none⟩) a2 12 12 12 c2 rfl rfl g 1 [.pointer (some ⟨xb, 0, none⟩), B 0, B 0, B 0, B 0, B 0, B 0, B 0, B 0, B 0, B 0, B 0, B 0, .int .i64 0] 68 HH.out ((ivS sec).map B) HC2.out HC3.out HC4.out HC5.out w3.heap.size w3 HB4.out HG.out ?_)
  intro w5 hw5 hb5
  have hr5 : Row w5 g 68 (hfC (.pointer (some ⟨xb, 0, none⟩)) (ivS sec) 0) := by
    have := Row.of_heap hw5.out
    rw [splice_iv _ _ (ivS_len sec)] at this
    exact this
  have HR5 := Lib.hid hr5
  have HB5 := Lib.hid hb5
  clear hr4 hw5 hr5 hb5
  go_wp2_with fail
  go_ret
  have hB2 : Below w.heap.size w w3 := HB0.out.trans ((HB1.out.trans ((HB2.out.trans (HB3.out.mono HB2.out.size)).mono HB1.out.size)).mono HB0.out.size)
  exact ⟨g, rfl, Nat.le_trans hB2.size HG.out, ⟨_, HR5.out, HBX.out.below HB5.out⟩, hB2.trans (HB5.out.mono hB2.size)⟩
end Go.Proofs.YtcfbiafedfkbhaaDoor

namespace Go.Proofs.YtcfbiafedfkbhaaDoor
open Go.RowKit
set_option linter.unusedVariables false
set_option linter.unusedSimpArgs false

def kindB (k : Int) : Bool := decide (21 ≤ k) && decide (k ≤ 23)
theorem isKind_any (w : World) (k : Int) : Calls Tryd.prog 29 #[.int .i64 k] w fun e w' => e = .returned (.bool (kindB k)) ∧ w = w' := by
  by_cases h1 : 21 ≤ k
  · by_cases h2 : k ≤ 23
    · have H := Lib.hid (show kindB k = true by unfold kindB; simp [h1, h2])
      go_enter Tryd.func29, Tryd.ntmps29
      go_wp2
      go_ret
      exact ⟨by rw [H.out]; rfl, rfl⟩
    · have H := Lib.hid (show kindB k = false by unfold kindB; simp [h2])
      go_enter Tryd.func29, Tryd.ntmps29
      go_wp2
      go_ret
      exact ⟨by rw [H.out]; rfl, rfl⟩
  · have H := Lib.hid (show kindB k = false by unfold kindB; simp [h1])
    go_enter Tryd.func29, Tryd.ntmps29
    go_wp2
    go_ret
    exact ⟨by rw [H.out]; rfl, rfl⟩
def headS (k n : Nat) : List UInt8 := [UInt8.ofNat k, 3, 3, UInt8.ofNat (n / 256), UInt8.ofNat n]
theorem head_any (w : World) (k n : Nat) (hk : k ≤ 255) (hn : n ≤ 1000000) : Calls Tryd.prog 31 #[.int .i64 (k : Int), .int .i64 (n : Int)] w fun e w' =>
    e = .returned (.slice (some ⟨w.heap.size, 0, none⟩) 5 5) ∧ Row w' w.heap.size 5 (AB (headS k n)) ∧ Below w.heap.size w w' := by
  have u1 := u8wr (n / 256) ((n : Int) / 256) (by simp)
  have u2 := u8wr n (n : Int) rfl
  have u3 := u8wr k (k : Int) rfl
  obtain ⟨x1, hx1⟩ : ∃ x, x = UInt8.ofNat (n / 256) := ⟨_, rfl⟩
  obtain ⟨x2, hx2⟩ : ∃ x, x = UInt8.ofNat n := ⟨_, rfl⟩
  obtain ⟨x3, hx3⟩ : ∃ x, x = UInt8.ofNat k := ⟨_, rfl⟩
  rw [← hx1] at u1
  rw [← hx2] at u2
  rw [← hx3] at u3
  have H := Lib.hid (show AB (headS k n) = #[.int .u8 (x3.toNat : Int), .int .u8 3, .int .u8 3, .int .u8 (x1.toNat : Int), .int .u8 (x2.toNat : Int)] by rw [headS, ← hx1, ← hx2, ← hx3]; rfl)
  clear hx1 hx2 hx3 hk hn
  go_enter Tryd.func31, Tryd.ntmps31
  go_wp2_with fail
  go_ret
  exact ⟨rfl, by rw [H.out]; exact Row.new _ _ _, (Below.refl _ _).alloc (Nat.le_refl _) _⟩
theorem hfC_sz (p : Value) (iv : List UInt8) (n : Nat) (h : iv.length = 12) : (hfC p iv n).size = 14 := by unfold hfC; simp [h]
theorem hfC_0 (p : Value) (iv : List UInt8) (n : Nat) : (hfC p iv n)[0]? = some p := rfl
theorem hfC_13 (p : Value) (iv : List UInt8) (n : Nat) (h : iv.length = 12) : (hfC p iv n)[13]? = some (.int .i64 (n : Int)) := by
  unfold hfC
  rw [List.getElem?_toArray, List.getElem?_cons_succ, List.getElem?_append_right (by rw [List.length_map, h]; decide), List.length_map, h]
  rfl
theorem hfC_iv (p : Value) (iv : List UInt8) (n : Nat) (h : iv.length = 12) : sub (hfC p iv n) 1 12 = AB iv := by
  unfold hfC sub
  simp [h]
  rfl
theorem used_any (w : World) (g n : Nat) (sec : List UInt8) (h : HalfW w g sec n) : Calls Tryd.prog 13 #[.pointer (some ⟨g, 0, none⟩)] w fun e w' => e = .returned (.int .i64 (n : Int)) ∧ w = w' := by
  obtain ⟨p, hr, _⟩ := h
  have hc : w.cell? ⟨g, 13, none⟩ = some (.int .i64 (n : Int)) := (hr.cell 13).trans (hfC_13 p _ n (ivS_len sec))
  clear hr
  go_enter Tryd.func13, Tryd.ntmps13
  go_wp2
  go_ret
  exact ⟨rfl, rfl⟩
def nonK (iv : List UInt8) (n : Nat) : Nat → List UInt8
  | 0 => iv
  | i + 1 => (nonK iv n i).set (11 - i) (xr (gb (nonK iv n i) (11 - i)) (UInt8.ofNat (n / 2 ^ (8 * i))))
theorem nonK_len (iv : List UInt8) (n : Nat) : ∀ i, (nonK iv n i).length = iv.length
  | 0 => rfl
  | i + 1 => by rw [nonK, List.length_set]; exact nonK_len iv n i
def nonS (iv : List UInt8) (n : Nat) : List UInt8 := nonK iv n 8
theorem nonS_len (iv : List UInt8) (n : Nat) (h : iv.length = 12) : (nonS iv n).length = 12 := (nonK_len iv n 8).trans h
set_option maxRecDepth 100000 in
set_option maxHeartbeats 4000000 in
theorem nonce_any (w : World) (g n : Nat) (sec : List UInt8) (h : HalfW w g sec n) (hn : n ≤ 1000) : Calls Tryd.prog 33 #[.pointer (some ⟨g, 0, none⟩)] w fun e w' => e = .returned (.agg (AB (nonS (ivS sec) n))) ∧ Below w.heap.size w w' := by
  obtain ⟨p, hr, _⟩ := h
  have HR := Lib.hid hr
  have hlt := hr.lt
  obtain ⟨iv, hiv⟩ : ∃ l, l = ivS sec := ⟨_, rfl⟩
  have hil : iv.length = 12 := by rw [hiv]; exact ivS_len sec
  rw [← hiv] at HR hr ⊢
  have q1 := hfC_sz p iv n hil
  have q2 := hfC_iv p iv n hil
  have q3 := (AB_size iv).trans hil
  have q4 := sub_all (AB iv) 12 q3
  have HIL := Lib.hid hil
  clear hiv hil
  go_enter Tryd.func33, Tryd.ntmps33
  go_upto_region 2 with (fail)
  obtain ⟨w2, hw2⟩ : ∃ W, W = (((w.alloc (.cells #[.int .u8 0, .int .u8 0, .int .u8 0, .int .u8 0, .int .u8 0, .int .u8 0, .int .u8 0, .int .u8 0, .int .u8 0, .int .u8 0, .int .u8 0, .int .u8 0] 50)).alloc (.cells #[.int .u8 0, .int .u8 0, .int .u8 0, .int .u8 0, .int .u8 0, .int .u8 0, .int .u8 0, .int .u8 0, .int .u8 0, .int .u8 0, .int .u8 0, .int .u8 0] 50)).setRow (w.heap.size + 1) (AB iv)) := ⟨_, rfl⟩
  rw [← hw2]
  have HR3 := Lib.hid (show Row w2 (w.heap.size + 1) 50 (AB iv) by rw [hw2]; exact (Row.newAt _ _ _ _ (by simp)).setRow _)
  have HR2 := Lib.hid (show RowN w2 w.heap.size 50 12 by rw [hw2]; exact ((RowN.newAt w _ _ _ rfl).alloc _).setRowOther _ _ (by omega))
  have HB2 := Lib.hid (show Below w.heap.size w w2 by rw [hw2]; exact bSetRow (((Below.refl _ w).alloc (Nat.le_refl _) _).alloc (by simp) _) (by omega) _)
  clear hw2 hr
  go_wp2_with fail
  go_loopg [9] 8 (fun gk t9 wx => ∃ (i : Nat), gk + i = 8 ∧ t9 = .int .i64 (i : Int) ∧ Row wx (w.heap.size + 1) 50 (AB (nonK iv n i)) ∧ RowN wx w.heap.size 50 12 ∧ Below w.heap.size w wx)
  case atStart => exact ⟨0, by omega, rfl, HR3.out, HR2.out, HB2.out⟩
  case round =>
    clear q1 q2 q3 q4
    obtain ⟨i, hi, rfl, hr3, hr2, hB⟩ := hrel
    by_cases h8 : i < 8
    · obtain ⟨q, hq⟩ : ∃ q, q = 11 - i := ⟨_, rfl⟩
      obtain ⟨e, he⟩ : ∃ e, e = 8 * i := ⟨_, rfl⟩
      have c5 : (i : Int) < 8 := by omega
      have c6 : (0 : Int) ≤ (i : Int) := by omega
      have s1 : (11 : Int) - (i : Int) = (q : Int) := by omega
      have s2 : (8 : Int) * (i : Int) = (e : Int) := by omega
      have d1 : (0 : Int) ≤ (q : Int) := by omega
      have d2 : (q : Int) ≤ 11 := by omega
      have d3 : q < 12 := by omega
      have d4 : (0 : Int) ≤ (e : Int) := by omega
      have d5 : (e : Int) ≤ 56 := by omega
      have v8 : IntKind.u8.wrap ((n : Int) / 2 ^ e) = ((UInt8.ofNat (n / 2 ^ e)).toNat : Int) := by rw [← u8wrapS]; simp
      obtain ⟨x, hx⟩ : ∃ x, x = UInt8.ofNat (n / 2 ^ e) := ⟨_, rfl⟩
      rw [← hx] at v8
      obtain ⟨X, hX⟩ : ∃ X, X = nonK iv n i := ⟨_, rfl⟩
      have HNX := Lib.hid (show X.set q (xr (gb X q) x) = nonK iv n (i + 1) by rw [nonK, hX, hq, hx, he])
      have hXl : X.length = 12 := by rw [hX]; exact (nonK_len iv n i).trans HIL.out
      rw [← hX] at hr3
      have cX : wr.drew.cell? ⟨w.heap.size + 1, q, none⟩ = some (B (gb X q)) := by rw [hr3.drew.cell]; exact AB_get X q (by omega)
      have c13 : wr.drew.cell? ⟨g, 13, none⟩ = some (.int .i64 (n : Int)) := by
        rw [(HR.out.below hB hlt).drew.cell]; exact hfC_13 p iv n HIL.out
      have HS := Lib.hid (⟨hr3, hr2, hB⟩ : _ ∧ _ ∧ _)
      have hlt3 := hr3.lt
      have hr3' := hr3.drew
      clear hx hX hr2 hB hq he
      go_wp2_with fail
      refine wp_region_qtail (fun w' => w' = _) 13 (by kernel_rfl) (by kernel_rfl) rfl ?_
      simp only [List.take_succ_cons, List.take_zero, List.drop_succ_cons, List.drop_zero]
      repeat (first | go_big_quiet_skip | (go_big_quiet_want; go_big_quiet_op; go_big_quiet_on))
      refine wpQuiet_nil ?_
      rintro _ rfl
      go_wp2_with fail
      go_roundg (gk - 1)
      case measure => omega
      case rel => exact ⟨i + 1, by omega, by go_num, by rw [← HNX.out]; exact hr3'.setByte q _, HS.out.2.1.drew.setOther _ _ (by simp), HS.out.2.2.drew.setCell (by simp) _⟩
    · obtain rfl : i = 8 := by omega
      have c5 : ¬ ((8 : Nat) : Int) < 8 := by omega
      obtain ⟨X, hX⟩ : ∃ X, X = nonK iv n 8 := ⟨_, rfl⟩
      have hXl : X.length = 12 := by rw [hX]; exact (nonK_len iv n 8).trans HIL.out
      rw [← hX] at hr3
      have hXs := (AB_size X).trans hXl
      have hsX := sub_all (AB X) 12 hXs
      obtain ⟨z, hz, hzs⟩ := hr2
      have hov : over z 0 (AB X) = AB X := over_all _ _ (hzs.trans hXs.symm)
      have hlt3 := hr3.lt
      have HX := Lib.hid hX
      clear hX
      go_wp2_with fail
      exact ret_row (.inl rfl) rfl w.heap.size _ _ 12 _ rfl (hz.setRow _) Tryd.underlying50 rfl (by kernel_rfl) hXs ⟨by rw [HX.out]; rfl, bSetRow hB (Nat.le_refl _) _⟩
end Go.Proofs.YtcfbiafedfkbhaaDoor

namespace Go.Proofs.YtcfbiafedfkbhaaDoor
open Go.RowKit
set_option linter.unusedVariables false
set_option linter.unusedSimpArgs false

theorem zeroCells_B (k : Nat) : Builtin.zeroCells (Value.int .u8 0).cells k = ((List.replicate k (0 : UInt8)).map B).toArray := by
  apply Array.ext (by simp [Builtin.zeroCells, Value.cells])
  intro i h1 h2
  simp [Builtin.zeroCells, Value.cells, Nat.mod_one]
theorem run_appZ (w : World) (B0 : Nat) (v : Value) (l : List UInt8) (h : OwnW w B0 v l) (hl : 0 < l.length) (k : Nat) (hlen : l.length + k ≤ 1000000) (hbase : B0 ≤ w.heap.size) (ty : TypeId) :
    ∃ v' w', (Builtin.append_ #[23, 3] ty #[v, .int .i64 (k : Int)]).run Tryd.prog w = .ok v' w' ∧ OwnW w' B0 v' (l ++ List.replicate k 0) ∧ w.grownBy w' v.ownBlock := by
  obtain ⟨i, hi, hz, hs1, hb1⟩ := info_parts info_u8S
  have hw : IntKind.i64.wrap (k : Int) = k := by rw [IntKind.wrap_i64]; omega
  have hneg : ¬ ((k : Int) < 0) := by omega
  have h48 : ¬ (281474976710656 < (k : Int) * 1) := by omega
  rcases h with ⟨rfl, rfl⟩ | ⟨b, o, cap, cur, rfl, hb, hr, h1, h2, h3, h4⟩
  · exact absurd hl (by simp)
  · by_cases h0 : k = 0
    · subst h0
      refine ⟨.slice (some ⟨b, o, none⟩) l.length cap, w, ?_, by rw [List.replicate_zero, List.append_nil]; exact .inr ⟨b, o, cap, cur, rfl, hb, hr, h1, h2, h3, h4⟩, World.grownBy.refl w _⟩
      have hw0 : IntKind.i64.wrap (0 : Int) = 0 := hw
      simp [Builtin.append_, run_underlying Tryd.underlying23, run_underlying Tryd.underlying3, sizeOf, typeInfo, hi, hb1, hs1, asInt, asIntOf, hw0, h1, storeCells]
    · by_cases hroom : l.length + k ≤ cap
      · have hst := run_storeCells_cells (P := Tryd.prog) b (o + l.length) ((List.replicate k (0 : UInt8)).map B) 0 w (fun j hj => by
          simp only [List.length_map, List.length_replicate] at hj
          rw [hr.cell, Array.getElem?_eq_getElem (by omega)]; rfl) (fun j hj => hr.frozen _) (fun u hu => by obtain ⟨y, _, rfl⟩ := List.mem_map.1 hu; rfl)
        simp only [Nat.add_zero] at hst
        obtain ⟨cur', c1, c2, c3, c4⟩ := row_setCells ((List.replicate k (0 : UInt8)).map B) (o + l.length) w cur hr (by simp; omega)
        have hrl : (List.replicate k (0 : UInt8)).length = k := List.length_replicate
        refine ⟨.slice (some ⟨b, o, none⟩) (l.length + k) cap, w.setCells b (o + l.length) ((List.replicate k (0 : UInt8)).map B), ?_, .inr ⟨b, o, cap, cur', by rw [List.length_append, hrl], hb, c1, by rw [List.length_append, hrl]; exact hroom, by rw [c2]; exact h2, h3, fun j hj => ?_⟩, grownBy_setCells w b _ _⟩
        · have hzc := zeroCells_B k
          have hzc' : (Builtin.zeroCells (Value.int .u8 0).cells k).toList = (List.replicate k (0 : UInt8)).map B := by rw [hzc]
          simp only [Builtin.append_, run_underlying Tryd.underlying23, run_underlying Tryd.underlying3, sizeOf, typeInfo, zeroValue, hi, hz, hb1, hs1, asInt, asIntOf, hw, hneg, hroom, Sem.run_bind, Sem.run_pure, Result.andThen_ok]
          simp [run_underlying Tryd.underlying23, run_underlying Tryd.underlying3, sizeOf, typeInfo, zeroValue, hi, hz, hb1, hs1, asInt, asIntOf, hw, hneg, hroom, h0, Addr.add_lit]
          rw [if_neg (by omega), hzc', hst]
          simp only [List.map_replicate, Result.andThen_ok]
        · rw [List.length_append, hrl] at hj
          by_cases hjl : j < l.length
          · rw [c3 _ (by omega), h4 j hjl, show gb (l ++ List.replicate k 0) j = gb l j by simp [gb, List.getElem?_append_left hjl]]
          · have := c4 (j - l.length) (B 0) (by simp [show j - l.length < k by omega])
            rw [show o + l.length + (j - l.length) = o + j by omega] at this
            rw [this]
            simp [gb, List.getElem?_append_right (show l.length ≤ j by omega), show j - l.length < k by omega]
      · have hold : (Builtin.firstCells i.size l.length (.slice (some ⟨b, o, none⟩) l.length cap)).run Tryd.prog w.drew = .ok (l.map B).toArray w.drew := by
          rw [hs1]
          exact run_firstCells_some (P := Tryd.prog) w.drew 1 l.length ⟨b, o, none⟩ l.length cap (l.map B) (by simp) (fun j u hj => by
            have hj' : j < l.length := by simpa using (List.getElem?_eq_some_iff.1 hj).1
            rw [Addr.add_lit, hr.drew.cell, h4 j hj']
            simpa [gb, hj'] using hj)
        have hbd : Builtin.nextslicecap (l.length + k) cap * i.bytes ≤ 281474976710656 := by
          rw [hb1, Nat.mul_one]
          exact Nat.le_trans (nextslicecap_le (by omega)) (by omega)
        have hrun := Lib.run_append_grow_zeros (P := Tryd.prog) w 23 3 ty 5 i (.int .u8 0) .i64 .i64 Tryd.underlying23 Tryd.underlying3 hi hz (some ⟨b, o, none⟩) l.length cap (l.map B) hold k (by omega) (by omega) (by omega) (by omega) (by rw [hb1]; omega) hbd
        have hge := grownCap_ge w (l.length + k) cap 5
        have hcm := grownCap_le_maxLen w (l.length + k) cap 5 (by unfold maxLen; omega)
        have hrl : (List.replicate k (0 : UInt8)).length = k := List.length_replicate
        refine ⟨_, _, hrun, .inr ⟨w.heap.size, 0, _, _, by rw [List.length_append, hrl], hbase, Row.newAt w.drew _ _ _ rfl, by rw [List.length_append, hrl]; exact hge, ?_, hcm, fun j hj => ?_⟩, ⟨rfl, rfl, rfl, by simp, fun k hk _ => Below.heap_alloc w.drew _ k hk⟩⟩
        · simp only [Array.size_append, List.size_toArray, List.length_map, size_zeroCells]
          show 0 + _ ≤ _ + _ * 1 + _ * 1
          omega
        · rw [List.length_append, hrl] at hj
          rw [zeroCells_B, Nat.zero_add, Array.getElem?_append_left (by simp; omega)]
          have e : (List.map B l).toArray ++ (List.map B (List.replicate k 0)).toArray = ((l ++ List.replicate k 0).map B).toArray := by rw [List.map_append]; simp
          rw [e, List.getElem?_toArray, List.getElem?_map, List.getElem?_eq_getElem (by rw [List.length_append, hrl]; exact hj)]
          simp [gb, hj]
end Go.Proofs.YtcfbiafedfkbhaaDoor
