/- Part of the proof: RefLab, RefNon, RecordLong. No conditions of its own. -/
import Derived.ArgAppend
import Derived.Below
import Derived.BigQuiet
import Derived.BigRegion
import Derived.ChangeOld
import Derived.Deep.CutBlock
import Derived.Deep.DeepCutAuto
import Derived.Deep.Draws
import Derived.Deep.LoopGhost
import Derived.Deep.Quiet
import Derived.Deep.QuietTactic
import Derived.Deep.RegionHeld3
import Derived.Deep.RegionLaw
import Derived.Laws.AppendOwnNone
import Derived.Laws.Bits64
import Derived.Laws.BitsAllLaws
import Derived.Laws.BytesArg
import Derived.Laws.Concat
import Derived.Laws.CopyOwn
import Derived.Laws.MakeOwn
import Derived.Lib.AppendStr
import Derived.Lib.AppendZerosOnto
import Derived.Lib.BufferMore
import Derived.Lib.ConvBytes
import Derived.Lib.Hide
import Derived.Lib.SlBytesConst
import Derived.LoopIn
import Derived.LoopNIn
import Derived.Maps.AppendAt
import Derived.OpenShut
import Derived.OrdersIn
import Derived.OwnWalkIn
import Derived.ProofKit
import Derived.RangeFuncBound
import Derived.RangeFuncBox
import Derived.RangeFuncCalls
import Derived.RangeFuncLeaves
import Derived.RangeFuncNested
import Derived.Shelf.Abstract
import Derived.ShutString
import Derived.StillTail
import Derived.TacticsIn
import Derived.TacticsInMore
import Derived.Test.YtcfbiafedfkbhaaDoorChecked
import Derived.Test.YtcfbiafedfkbhaaDoorProg
import Derived.WalkKit
import Derived.WalkSpells
import Derived.Test.YtcfbiafedfkbhaaDoorO39
import Derived.Test.YtcfbiafedfkbhaaDoorO40
import Derived.Test.YtcfbiafedfkbhaaDoorO24
import Derived.Test.YtcfbiafedfkbhaaDoorO27
import Derived.Test.YtcfbiafedfkbhaaDoorO08
import Derived.Test.YtcfbiafedfkbhaaDoorO10
import Derived.Test.YtcfbiafedfkbhaaDoorO13
import Derived.Test.YtcfbiafedfkbhaaDoorO25
import Derived.Test.YtcfbiafedfkbhaaDoorO28
import Derived.Test.YtcfbiafedfkbhaaDoorO32
namespace Go.Proofs.YtcfbiafedfkbhaaDoor
open Go.RowKit
set_option linter.unusedVariables false
set_option linter.unusedSimpArgs false

set_option maxRecDepth 100000 in
set_option maxHeartbeats 4000000 in
theorem rexp_any (w : World) (key info : List UInt8) (n : Nat) (hk : key.length ≤ 64) (hil : info.length ≤ 10000) (hn0 : 0 < n) (hn : n ≤ 32) :
    Calls Tryd.prog 39 #[S key, S info, .int .i64 (n : Int)] w fun e w' => e = .returned (.tuple #[S (expS key info n), .int .i64 0]) ∧ Below w.heap.size w w' := by
  obtain ⟨t, ht⟩ : ∃ t, t = macS key (info ++ [1]) := ⟨_, rfl⟩
  have htl : t.length = 32 := by rw [ht]; exact macS_len _ _
  have HR := Lib.hid (fun W => show Calls Tryd.prog 53 #[S key, S (info ++ [1])] W (fun e w'' => e = .returned (S t) ∧ Below W.heap.size W w'') by rw [ht]; exact rof_any W key (info ++ [1]) hk (by rw [List.length_append]; simp; omega))
  have HE := Lib.hid (show t.take n = expS key info n by rw [ht]; rfl)
  have h1 : ∀ W, (Op.stringOp .add ⟨#[]⟩ ⟨info.toArray⟩).run Tryd.prog W = .ok (S info) W := fun W => add_W [] info (by simp; omega) W
  have h2 : ∀ W, (Op.stringOp .add ⟨info.toArray⟩ ⟨#[1]⟩).run Tryd.prog W = .ok (S (info ++ [1])) W := fun W => add_W info [1] (by simp; omega) W
  have h3 : ∀ W, (Op.stringOp .add ⟨#[]⟩ ⟨t.toArray⟩).run Tryd.prog W = .ok (S t) W := fun W => add_W [] t (by simp; omega) W
  have hc := run_conv_slb (P := Tryd.prog) (w.alloc (.cells #[.int .u8 1] 5)) 23 5 9 Tryd.underlying23 Tryd.underlying5 Tryd.underlying9 (.slice (some ⟨w.heap.size, 0, none⟩) 1 1) [1]
    ((Row.new w 5 (AB [1])).slW (l := [1]) (by simp))
  have m1 : (0 : Int) < (n : Int) := by omega
  have m2 : ¬ (n : Int) < 0 := by omega
  have m3 : ¬ (8160 : Int) < (n : Int) := by omega
  have m4 : (n : Int) ≤ 32 := by omega
  have m5 : ¬ (32 : Int) < (n : Int) := by omega
  have HTL := Lib.hid htl
  have HK := Lib.hid (⟨hk, hil, hn0, hn⟩ : _ ∧ _ ∧ _ ∧ _)
  clear hk hil hn0 hn ht htl
  go_enter Tryd.func39, Tryd.ntmps39
  go_wp2_with fail
  go_loopg [8, 9, 10] 1 (fun gk t8 t9 t10 wr => (gk = 1 ∧ t8 = S [] ∧ t9 = S [] ∧ t10 = .int .i64 1 ∧ wr = w) ∨ (gk = 0 ∧ t8 = S t ∧ t9 = S t ∧ t10 = .int .i64 2 ∧ Below w.heap.size w wr))
  case atStart => exact .inl ⟨rfl, rfl, rfl, rfl, rfl⟩
  case round =>
    rcases hrel with ⟨rfl, rfl, rfl, rfl, hw⟩ | ⟨rfl, rfl, rfl, rfl, hB⟩
    · obtain rfl := hw.symm
      go_wp2_with fail
      refine (HR.out _).mono ?_
      rintro e w1 ⟨rfl, hB1⟩
      have HB1 := Lib.hid (((Below.refl _ w).alloc (Nat.le_refl _) _).trans (hB1.mono (by simp)))
      clear hB1
      go_wp2_with fail
      go_roundg 0
      case measure => omega
      case rel => exact .inr ⟨rfl, rfl, rfl, rfl, HB1.out⟩
    · have htl := HTL.out
      have hx := ext0_S t n
      rw [HE.out] at hx
      go_wp2_with fail
      go_ret2
      exact ⟨rfl, hB⟩
set_option maxRecDepth 100000 in
set_option maxHeartbeats 4000000 in
theorem rlab_any (w : World) (key ls ctx : List UInt8) (n : Nat) (hk : key.length ≤ 64) (hls : ls.length ≤ 200) (hcl : ctx.length ≤ 255) (hn0 : 0 < n) (hn : n ≤ 32) :
    Calls Tryd.prog 16 #[S key, S ls, S ctx, .int .i64 (n : Int)] w fun e w' => e = .returned (.tuple #[S (labS key ls ctx n), .int .i64 0]) ∧ Below w.heap.size w w' := by
  obtain ⟨L, hL⟩ : ∃ L, L = preS ++ ls := ⟨_, rfl⟩
  have hLl : L.length = 6 + ls.length := by rw [hL, List.length_append]; rfl
  have h1 : ∀ W, (Op.stringOp .add ⟨#[116, 108, 115, 49, 51, 32]⟩ ⟨ls.toArray⟩).run Tryd.prog W = .ok (S L) W := fun W => by rw [hL]; exact add_W preS ls (by show 6 + _ ≤ _; omega) W
  obtain ⟨N, hN⟩ : ∃ N, N = L.length := ⟨_, rfl⟩
  obtain ⟨M, hM⟩ : ∃ M, M = ctx.length := ⟨_, rfl⟩
  have u1 := u8wr (n / 256) ((n : Int) / 256) (by simp)
  have u2 := u8wr n (n : Int) rfl
  have u3 := u8wr N (N : Int) rfl
  have u4 := u8wr M (M : Int) rfl
  obtain ⟨x1, hx1⟩ : ∃ x, x = UInt8.ofNat (n / 256) := ⟨_, rfl⟩
  obtain ⟨x2, hx2⟩ : ∃ x, x = UInt8.ofNat n := ⟨_, rfl⟩
  obtain ⟨x3, hx3⟩ : ∃ x, x = UInt8.ofNat N := ⟨_, rfl⟩
  obtain ⟨x4, hx4⟩ : ∃ x, x = UInt8.ofNat M := ⟨_, rfl⟩
  rw [← hx1] at u1
  rw [← hx2] at u2
  rw [← hx3] at u3
  rw [← hx4] at u4
  have hI : labI ls ctx n = (([x1, x2, x3] ++ L) ++ [x4]) ++ ctx := by rw [labI, ← hL, hx1, hx2, hx3, hx4, hN, hM]
  have HX := Lib.hid (fun W => show Calls Tryd.prog 39 #[S key, S ((([x1, x2, x3] ++ L) ++ [x4]) ++ ctx), .int .i64 (n : Int)] W (fun e w'' => e = .returned (.tuple #[S (labS key ls ctx n), .int .i64 0]) ∧ Below W.heap.size W w'') from by
    rw [← hI]; exact rexp_any W key (labI ls ctx n) n hk (by rw [hI]; simp; omega) hn0 hn)
  have hc1 := run_conv_slb (P := Tryd.prog) (w.alloc (.cells #[.int .u8 (x1.toNat : Int), .int .u8 (x2.toNat : Int), .int .u8 (x3.toNat : Int)] 5)) 23 5 9 Tryd.underlying23 Tryd.underlying5 Tryd.underlying9 (.slice (some ⟨w.heap.size, 0, none⟩) 3 3) [x1, x2, x3]
    ((Row.new w 5 (AB [x1, x2, x3])).slW (l := [x1, x2, x3]) (by simp))
  have a1 : ∀ W, (Op.stringOp .add ⟨#[x1, x2, x3]⟩ ⟨L.toArray⟩).run Tryd.prog W = .ok (S ([x1, x2, x3] ++ L)) W := fun W => add_W [x1, x2, x3] L (by show 3 + _ ≤ _; omega) W
  obtain ⟨E1, hE1⟩ : ∃ E, E = [x1, x2, x3] ++ L := ⟨_, rfl⟩
  have hE1l : E1.length = 3 + L.length := by rw [hE1, List.length_append]; rfl
  rw [← hE1] at a1 hI HX
  have hc2 := fun W : World => run_conv_slb (P := Tryd.prog) (W.alloc (.cells #[.int .u8 (x4.toNat : Int)] 5)) 23 5 9 Tryd.underlying23 Tryd.underlying5 Tryd.underlying9 (.slice (some ⟨W.heap.size, 0, none⟩) 1 1) [x4]
    ((Row.new W 5 (AB [x4])).slW (l := [x4]) (by simp))
  have hc2' := hc2 (w.alloc (.cells #[.int .u8 (x1.toNat : Int), .int .u8 (x2.toNat : Int), .int .u8 (x3.toNat : Int)] 5))
  rw [World.size_alloc] at hc2'
  have a2 : ∀ W, (Op.stringOp .add ⟨E1.toArray⟩ ⟨#[x4]⟩).run Tryd.prog W = .ok (S (E1 ++ [x4])) W := fun W => add_W E1 [x4] (by simp; omega) W
  obtain ⟨E2, hE2⟩ : ∃ E, E = E1 ++ [x4] := ⟨_, rfl⟩
  have hE2l : E2.length = E1.length + 1 := by rw [hE2, List.length_append]; rfl
  rw [← hE2] at a2 HX
  have a3 : ∀ W, (Op.stringOp .add ⟨E2.toArray⟩ ⟨ctx.toArray⟩).run Tryd.prog W = .ok (S (E2 ++ ctx)) W := fun W => add_W E2 ctx (by omega) W
  have m1 : ¬ (n : Int) < 0 := by omega
  have m2 : ¬ (8160 : Int) < (n : Int) := by omega
  have m3 : ¬ (255 : Int) < (N : Int) := by omega
  have m4 : ¬ (255 : Int) < (M : Int) := by omega
  have m5 : (N : Int) ≤ 206 := by omega
  have m6 : (M : Int) ≤ 255 := by omega
  have hN' := hN.symm
  have hM' := hM.symm
  clear hx1 hx2 hx3 hx4 hL hLl hE1 hE1l hE2 hE2l hc2 hI hN hM hk hls hcl hn0 hn
  go_enter Tryd.func16, Tryd.ntmps16
  go_wp2_with fail
  refine (HX.out _).mono ?_
  rintro e w1 ⟨rfl, hB1⟩
  have HB1 := Lib.hid ((((Below.refl _ w).alloc (Nat.le_refl _) _).alloc (by simp) _).trans (hB1.mono (by simp; omega)))
  clear hB1
  go_wp2_with fail
  go_ret2
  exact ⟨rfl, HB1.out⟩
theorem rlab_key (w : World) (sec : List UInt8) (hk : sec.length = 32) :
    Calls Tryd.prog 16 #[S sec, .string ⟨#[107, 101, 121]⟩, .string ⟨#[]⟩, .int .i64 16] w fun e w' => e = .returned (.tuple #[S (keyS sec), .int .i64 0]) ∧ Below w.heap.size w w' :=
  rlab_any w sec [107, 101, 121] [] 16 (by omega) (by decide) (by decide) (by decide) (by decide)
theorem rlab_iv (w : World) (sec : List UInt8) (hk : sec.length = 32) :
    Calls Tryd.prog 16 #[S sec, .string ⟨#[105, 118]⟩, .string ⟨#[]⟩, .int .i64 12] w fun e w' => e = .returned (.tuple #[S (ivS sec), .int .i64 0]) ∧ Below w.heap.size w w' :=
  rlab_any w sec [105, 118] [] 12 (by omega) (by decide) (by decide) (by decide) (by decide)
end Go.Proofs.YtcfbiafedfkbhaaDoor

namespace Go.Proofs.YtcfbiafedfkbhaaDoor
open Go.RowKit
set_option linter.unusedVariables false
set_option linter.unusedSimpArgs false

def nonB (iv : List UInt8) (n j : Nat) : UInt8 := if j < 4 then gb iv j else xr (gb iv j) (UInt8.ofNat (n / 2 ^ (8 * (11 - j))))
def rnK (iv : List UInt8) (n i : Nat) : List UInt8 := (List.range 12).map fun j => if j < i then nonB iv n j else 0
theorem rnK_len (iv : List UInt8) (n i : Nat) : (rnK iv n i).length = 12 := by simp [rnK]
theorem gb_rnK (iv : List UInt8) (n i j : Nat) (hj : j < 12) : gb (rnK iv n i) j = if j < i then nonB iv n j else 0 := by
  unfold gb rnK
  rw [List.getD_eq_getElem?_getD, List.getElem?_map, List.getElem?_range hj]
  rfl
theorem gb_setN (l : List UInt8) (i j : Nat) (x : UInt8) (hi : i < l.length) : gb (l.set i x) j = if i = j then x else gb l j := by
  unfold gb
  rw [List.getD_eq_getElem?_getD, List.getD_eq_getElem?_getD, List.getElem?_set]
  split
  · first | rfl | (rw [if_pos hi]; rfl)
  · rfl
theorem rnK_step (iv : List UInt8) (n i : Nat) (hi : i < 12) : (rnK iv n i).set i (nonB iv n i) = rnK iv n (i + 1) := by
  apply gb_ext (by rw [List.length_set, rnK_len, rnK_len])
  intro j hj
  rw [rnK_len] at hj
  rw [gb_setN _ _ _ _ (by rw [rnK_len]; exact hi), gb_rnK _ _ _ _ hj, gb_rnK _ _ _ _ hj]
  by_cases e : i = j
  · subst e; rw [if_pos rfl, if_pos (by omega)]
  · rw [if_neg e]
    by_cases h : j < i
    · rw [if_pos h, if_pos (by omega)]
    · rw [if_neg h, if_neg (by omega)]
theorem gb_nonK (iv : List UInt8) (n : Nat) (hl : iv.length = 12) : ∀ i, i ≤ 8 → ∀ j, j < 12 → gb (nonK iv n i) j = if 11 - j < i then xr (gb iv j) (UInt8.ofNat (n / 2 ^ (8 * (11 - j)))) else gb iv j
  | 0, _, j, _ => by rw [if_neg (by omega)]; rfl
  | i + 1, hi, j, hj => by
    rw [nonK, gb_setN _ _ _ _ (by rw [nonK_len, hl]; omega)]
    by_cases e : 11 - i = j
    · subst e
      rw [if_pos rfl, gb_nonK iv n hl i (by omega) _ hj, if_neg (by omega), if_pos (by omega), show 11 - (11 - i) = i by omega]
    · rw [if_neg e, gb_nonK iv n hl i (by omega) _ hj]
      by_cases h : 11 - j < i
      · rw [if_pos h, if_pos (by omega)]
      · rw [if_neg h, if_neg (by omega)]
theorem rnK_all (iv : List UInt8) (n : Nat) (hl : iv.length = 12) : rnK iv n 12 = nonS iv n := by
  apply gb_ext (by rw [rnK_len, nonS_len _ _ hl])
  intro j hj
  rw [nonS_len _ _ hl] at hj
  rw [gb_rnK _ _ _ _ hj, if_pos hj, nonS, gb_nonK iv n hl 8 (by decide) j hj, nonB]
  by_cases h : j < 4
  · rw [if_pos h, if_neg (by omega)]
  · rw [if_neg h, if_pos (by omega)]
theorem z12_AB : AB (List.replicate 12 0) = #[.int .u8 0, .int .u8 0, .int .u8 0, .int .u8 0, .int .u8 0, .int .u8 0, .int .u8 0, .int .u8 0, .int .u8 0, .int .u8 0, .int .u8 0, .int .u8 0] := by kernel_rfl
theorem rn_zero (iv : List UInt8) (n : Nat) : AB (rnK iv n 0) = #[.int .u8 0, .int .u8 0, .int .u8 0, .int .u8 0, .int .u8 0, .int .u8 0, .int .u8 0, .int .u8 0, .int .u8 0, .int .u8 0, .int .u8 0, .int .u8 0] := z12_AB
def rhC (sec : List UInt8) (n : Nat) : Array Value := #[S sec, .int .i64 (n : Int)]
set_option maxRecDepth 100000 in
set_option maxHeartbeats 4000000 in
theorem rnonce_any (w : World) (g n : Nat) (t : TypeId) (sec : List UInt8) (hr : Row w g t (rhC sec n)) (hk : sec.length = 32) (hn : n ≤ 1000) :
    Calls Tryd.prog 38 #[.pointer (some ⟨g, 0, none⟩)] w fun e w' => e = .returned (.agg (AB (nonS (ivS sec) n))) ∧ Below w.heap.size w w' := by
  have HR := Lib.hid hr
  have hlt := hr.lt
  have HLT := Lib.hid hlt
  have nlt : g ≠ w.heap.size := by omega
  have c0 : ∀ o : Obj, (w.alloc o).cell? ⟨g, 0, none⟩ = some (S sec) := fun o => ((hr.alloc o).cell 0)
  have HI := Lib.hid (fun W => rlab_iv W sec hk)
  have m1 : (n : Int) ≤ 1000 := by omega
  have m2 : (0 : Int) ≤ (n : Int) := by omega
  obtain ⟨iv, hiv⟩ : ∃ iv, iv = ivS sec := ⟨_, rfl⟩
  have hil : iv.length = 12 := by rw [hiv]; exact ivS_len sec
  rw [← hiv] at HI ⊢
  clear hr hlt hiv
  go_enter Tryd.func38, Tryd.ntmps38
  go_wp2_with fail
  refine (HI.out _).mono ?_
  rintro e w1 ⟨rfl, hB1⟩
  have hs1 : w.heap.size + 1 ≤ w1.heap.size := by have := hB1.size; simpa using this
  have HR2 := Lib.hid (show RowN w1 w.heap.size 50 12 from by
    obtain ⟨z, hz, hzs⟩ := RowN.newAt w w.heap.size 50 #[.int .u8 0, .int .u8 0, .int .u8 0, .int .u8 0, .int .u8 0, .int .u8 0, .int .u8 0, .int .u8 0, .int .u8 0, .int .u8 0, .int .u8 0, .int .u8 0] rfl
    exact ⟨z, hz.below hB1 hz.lt, hzs⟩)
  have HB1 := Lib.hid (((Below.refl _ w).alloc (Nat.le_refl _) _).trans (hB1.mono (by simp)))
  have HL := Lib.hid hil
  clear hB1 hil
  obtain ⟨g5, hg5⟩ : ∃ g, g = w1.heap.size := ⟨_, rfl⟩
  have HR5 := Lib.hid (show Row (w1.alloc (.cells (AB (rnK iv n 0)) 50)) g5 50 (AB (rnK iv n 0)) from Row.newAt _ _ _ _ hg5)
  have HB5 := Lib.hid (show Below w.heap.size w (w1.alloc (.cells (AB (rnK iv n 0)) 50)) from HB1.out.alloc HB1.out.size _)
  have hz12 := rn_zero iv n
  rw [hz12] at HR5 HB5
  have HR6 := Lib.hid (HR2.out.alloc (.cells #[.int .u8 0, .int .u8 0, .int .u8 0, .int .u8 0, .int .u8 0, .int .u8 0, .int .u8 0, .int .u8 0, .int .u8 0, .int .u8 0, .int .u8 0, .int .u8 0] 50))
  have HG5 := Lib.hid (show w.heap.size + 1 ≤ g5 by omega)
  go_wp2_with fail
  subst hg5
  go_loopg [6] 12 (fun gk t6 wx => ∃ (i : Nat), gk + i = 12 ∧ t6 = .int .i64 (i : Int) ∧ Row wx w1.heap.size 50 (AB (rnK iv n i)) ∧ RowN wx w.heap.size 50 12 ∧ Below w.heap.size w wx)
  case atStart => exact ⟨0, by omega, rfl, by rw [hz12]; exact HR5.out, HR6.out, HB5.out⟩
  case round =>
    clear hz12 HR5 HB5 HR6 HR2 HB1 hs1
    obtain ⟨i, hi, rfl, hr5, hr2, hB⟩ := hrel
    by_cases h12 : i < 12
    · have i1 : (i : Int) < 12 := by omega
      have i0 : (0 : Int) ≤ (i : Int) := by omega
      have i2 : i < 12 := h12
      have il : iv.length = 12 := HL.out
      obtain ⟨X, hX⟩ : ∃ X, X = rnK iv n i := ⟨_, rfl⟩
      have hXl : X.length = 12 := by rw [hX]; exact rnK_len _ _ _
      rw [← hX] at hr5
      have hlt5 := hr5.lt
      have cN : wr.cell? ⟨g, 1, none⟩ = some (.int .i64 (n : Int)) := by rw [(HR.out.below hB HLT.out).cell]; rfl
      have HS := Lib.hid (⟨hr5, hr2, hB⟩ : _ ∧ _ ∧ _)
      by_cases h4 : i < 4
      · have i4 : ¬ (4 : Int) ≤ (i : Int) := by omega
        have HXS := Lib.hid (show X.set i (gb iv i) = rnK iv n (i + 1) by rw [hX, ← rnK_step _ _ _ h12, nonB, if_pos h4])
        have HI2 := Lib.hid (⟨hi, h12⟩ : _ ∧ _)
        clear hX hr2 hB hi h12 h4 cN
        go_wp2_with fail
        go_roundg (gk - 1)
        case measure => have := HI2.out; omega
        case rel => exact ⟨i + 1, by have := HI2.out; omega, by go_num, by rw [← HXS.out]; exact hr5.setByte i _, HS.out.2.1.setOther _ _ (by have := HG5.out; simp; omega), HS.out.2.2.setCell (by have := HG5.out; simp; omega) _⟩
      · have i4 : (4 : Int) ≤ (i : Int) := by omega
        obtain ⟨q, hq⟩ : ∃ q, q = 11 - i := ⟨_, rfl⟩
        obtain ⟨e, he⟩ : ∃ e, e = 8 * q := ⟨_, rfl⟩
        have s1 : (11 : Int) - (i : Int) = (q : Int) := by omega
        have s2 : (8 : Int) * (q : Int) = (e : Int) := by omega
        have d4 : (0 : Int) ≤ (e : Int) := by omega
        have d5 : (e : Int) ≤ 56 := by omega
        have d6 : (0 : Int) ≤ (q : Int) := by omega
        have d7 : (q : Int) ≤ 7 := by omega
        have v8 : IntKind.u8.wrap ((n : Int) / 2 ^ e) = ((UInt8.ofNat (n / 2 ^ e)).toNat : Int) := by rw [← u8wrapS]; simp
        obtain ⟨x, hx⟩ : ∃ x, x = UInt8.ofNat (n / 2 ^ e) := ⟨_, rfl⟩
        rw [← hx] at v8
        obtain ⟨y, hy⟩ : ∃ y, y = gb iv i := ⟨_, rfl⟩
        obtain ⟨X1, hX1⟩ : ∃ L, L = X.set i y := ⟨_, rfl⟩
        have hX1l : X1.length = 12 := by rw [hX1, List.length_set]; exact hXl
        have HXS := Lib.hid (show X1.set i (xr y x) = rnK iv n (i + 1) by rw [hX1, List.set_set, hX, ← rnK_step _ _ _ h12, nonB, if_neg h4, hx, he, hq, hy])
        have hgX : gb X1 i = y := by rw [hX1, gb_setN _ _ _ _ (by omega), if_pos rfl]
        have HI2 := Lib.hid (⟨hi, h12, hx, hX, hX1, hq, he⟩ : _ ∧ _ ∧ _ ∧ _ ∧ _ ∧ _ ∧ _)
        have HY := Lib.hid hy
        clear hX hr2 hB hi h12 h4 hx hq he
        go_upto_region 8 with (fail)
        rw [← HY.out]
        obtain ⟨w2, hw2⟩ : ∃ W, W = wr.setCell ⟨w1.heap.size, i, none⟩ (B y) := ⟨_, rfl⟩
        rw [← hw2]
        have hr6 : Row w2 w1.heap.size 50 (AB X1) := by rw [hw2, hX1]; exact hr5.setByte i _
        have HS2 := Lib.hid (show RowN w2 w.heap.size 50 12 ∧ Below w.heap.size w w2 from ⟨by rw [hw2]; exact HS.out.2.1.setOther _ _ (by have := HG5.out; simp; omega), by rw [hw2]; exact HS.out.2.2.setCell (by have := HG5.out; simp; omega) _⟩)
        have cX : w2.drew.cell? ⟨w1.heap.size, i, none⟩ = some (B y) := by rw [hr6.drew.cell, ← hgX]; exact AB_get X1 i (by omega)
        have c13 : w2.drew.cell? ⟨g, 1, none⟩ = some (.int .i64 (n : Int)) := by rw [(HR.out.below HS2.out.2 HLT.out).drew.cell]; rfl
        have hr6' := hr6.drew
        have hlt6 := hr6.lt
        clear hw2 hr5 hlt5 cN hgX hX1 hy
        refine wp_region_qtail (fun w' => w' = _) 14 (by kernel_rfl) (by kernel_rfl) rfl ?_
        simp only [List.take_succ_cons, List.take_zero, List.drop_succ_cons, List.drop_zero]
        repeat (first | go_big_quiet_skip | (go_big_quiet_want; go_big_quiet_op; go_big_quiet_on))
        refine wpQuiet_nil ?_
        rintro _ rfl
        go_wp2_with fail
        go_roundg (gk - 1)
        case measure => have := HI2.out; omega
        case rel => exact ⟨i + 1, by have := HI2.out; omega, by go_num, by rw [← HXS.out]; exact hr6'.setByte i _, HS2.out.1.drew.setOther _ _ (by have := HG5.out; simp; omega), HS2.out.2.drew.setCell (by have := HG5.out; simp; omega) _⟩
    · obtain rfl : i = 12 := by omega
      have i1 : ¬ ((12 : Nat) : Int) < 12 := by omega
      have hall := rnK_all iv n HL.out
      rw [hall] at hr5
      obtain ⟨X, hX⟩ : ∃ X, X = nonS iv n := ⟨_, rfl⟩
      rw [← hX] at hr5
      have hXl : X.length = 12 := by rw [hX, ← hall]; exact rnK_len _ _ _
      have hXs := (AB_size X).trans hXl
      have hsX := sub_all (AB X) 12 hXs
      obtain ⟨z, hz, hzs⟩ := hr2
      have hov : over z 0 (AB X) = AB X := over_all _ _ (hzs.trans hXs.symm)
      have hlt3 := hr5.lt
      have HX := Lib.hid hX
      clear hX hall
      go_wp2_with fail
      exact ret_row (.inl rfl) rfl w.heap.size _ _ 12 _ rfl (hz.setRow _) Tryd.underlying50 rfl (by kernel_rfl) hXs ⟨by rw [HX.out], bSetRow hB (Nat.le_refl _) _⟩
end Go.Proofs.YtcfbiafedfkbhaaDoor

namespace Go.Proofs.YtcfbiafedfkbhaaDoor
open Go.RowKit
set_option linter.unusedVariables false
set_option linter.unusedSimpArgs false

theorem made_bytesR (n : Nat) : madeCells (Value.int .u8 0).cells (n * 1) = AB (List.replicate n 0) := by
  apply Array.ext (by simp [size_madeCells, AB])
  intro i h1 h2
  simp [madeCells, AB, Value.cells]
  rw [Nat.mod_one]
  rfl
theorem make_bytesR (w : World) (n : Nat) (hn : n ≤ 1000000) : (Instr.makeSlice 23 (.int .i64 (n : Int)) (.int .i64 (n : Int))).run Tryd.prog w = .ok (.slice (some ⟨w.heap.size, 0, none⟩) n n) (w.alloc (.cells (AB (List.replicate n 0)) 5)) := by
  obtain ⟨i0, hi, hz0, hz1, hz2⟩ := info_parts info_u8H
  have := run_make (P := Tryd.prog) w 23 5 i0 (.int .u8 0) Tryd.underlying23 hi hz0 .i64 .i64 (n : Int) (n : Int) (by omega) (by omega) (by rw [hz2]; omega) (by omega)
  rw [this, hz1]
  simp only [Int.toNat_natCast, made_bytesR]
end Go.Proofs.YtcfbiafedfkbhaaDoor
