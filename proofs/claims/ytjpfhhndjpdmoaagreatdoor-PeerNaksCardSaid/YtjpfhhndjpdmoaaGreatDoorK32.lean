/- Part of the proof: MacPad, Conv. No conditions of its own. -/
import Derived.ArgAppend
import Derived.BigQuiet
import Derived.Deep.DeepCutAuto
import Derived.Deep.LoopGhost
import Derived.Deep.Quiet
import Derived.Deep.QuietTactic
import Derived.Deep.RegionLaw
import Derived.Laws.AppendOwnNone
import Derived.Laws.BitsAllLaws
import Derived.Laws.CopyOwn
import Derived.Lib.Hide
import Derived.Maps.AppendAt
import Derived.StillTail
import Derived.Test.YtjpfhhndjpdmoaaGreatDoorProg
import Derived.WalkKit
import Derived.Test.YtjpfhhndjpdmoaaGreatDoorK30
import Derived.Deep.Draws
import Derived.Laws.BytesArg
import Derived.Test.YtjpfhhndjpdmoaaGreatDoorK13
import Derived.Test.YtjpfhhndjpdmoaaGreatDoorK27
namespace Go.Proofs.YtjpfhhndjpdmoaaGreatDoor
open Go.RowKit
set_option linter.unusedVariables false
set_option linter.unusedSimpArgs false

def mixK (Z : List UInt8) (x : UInt8) (i : Nat) : List UInt8 := (Z.take i).map (fun b => xr b x) ++ Z.drop i
def padK (l : List UInt8) (x : UInt8) : List UInt8 := (l ++ List.replicate (64 - l.length) 0).map fun b => xr b x
theorem mixK_len (Z : List UInt8) (x : UInt8) (i : Nat) : (mixK Z x i).length = Z.length := by
  unfold mixK; simp; omega
theorem mixK_all (Z : List UInt8) (x : UInt8) (n : Nat) (h : Z.length = n) : mixK Z x n = Z.map fun b => xr b x := by
  subst h
  unfold mixK; simp
theorem mixK_step (Z : List UInt8) (x : UInt8) (i : Nat) (h : i < Z.length) : (mixK Z x i).set i (xr (gb (mixK Z x i) i) x) = mixK Z x (i + 1) := by
  have e : Z.drop i = gb Z i :: Z.drop (i + 1) := by
    rw [List.drop_eq_getElem_cons h]; simp [gb, h]
  have hl : ((Z.take i).map fun b => xr b x).length = i := by simp; omega
  have e2 : Z.take (i + 1) = Z.take i ++ [gb Z i] := by
    rw [List.take_add_one, List.getElem?_eq_getElem h]; simp [gb, h]
  have e3 : gb (mixK Z x i) i = gb Z i := by
    unfold mixK
    rw [e]
    simp only [gb, List.getD_eq_getElem?_getD]
    rw [List.getElem?_append_right (by omega), hl]
    simp
  rw [e3]
  unfold mixK
  rw [e2, e, List.set_append_right _ _ (by omega), hl, List.map_append]
  simp
theorem padK_len (l : List UInt8) (x : UInt8) (h : l.length ≤ 64) : (padK l x).length = 64 := by
  unfold padK; simp; omega
theorem info_u8H : (Tryz.prog.info? 5).map (fun i => (i.zero, i.size, i.bytes)) = some (some (.int .u8 0), 1, 1) := by kernel_rfl
theorem made64 : madeCells (Value.int .u8 0).cells (Int.toNat 64 * 1) = AB (List.replicate 64 0) := by kernel_rfl
theorem make64 (w : World) : (Instr.makeSlice 22 (.int .i64 64) (.int .i64 64)).run Tryz.prog w = .ok (.slice (some ⟨w.heap.size, 0, none⟩) 64 64) (w.alloc (.cells (AB (List.replicate 64 0)) 5)) := by
  obtain ⟨i0, hi, hz0, hz1, hz2⟩ := info_parts info_u8H
  have := run_make (P := Tryz.prog) w 22 5 i0 (.int .u8 0) Tryz.underlying22 hi hz0 .i64 .i64 64 64 (by decide) (by decide) (by rw [hz2]; decide) (by decide)
  rw [this, hz1]
  exact congrArg (fun c => Result.ok (Value.slice (some ⟨w.heap.size, 0, none⟩) 64 64) (w.alloc (.cells c 5))) (made64 : madeCells (Value.int .u8 0).cells (Int.toNat 64 * 1) = AB (List.replicate 64 0))
theorem splice_pad (l : List UInt8) : splice ((List.replicate 64 (0 : UInt8)).map B) 0 (l.map B) = (l ++ List.replicate (64 - l.length) 0).map B := by
  unfold splice
  rw [List.take_zero, List.nil_append, Nat.zero_add, List.length_map, List.map_replicate, List.drop_replicate, List.map_append, List.map_replicate]
attribute [local go_sem] make64
set_option maxRecDepth 100000 in
set_option maxHeartbeats 4000000 in
theorem mpad_any (w : World) (v : Value) (l : List UInt8) (x : UInt8) (hv : SlB w v l) (hl : l.length ≤ 64) :
    Calls Tryz.prog 186 #[v, B x] w fun e w' => e = .returned (.slice (some ⟨w.heap.size, 0, none⟩) 64 64) ∧ Row w' w.heap.size 5 (AB (padK l x)) ∧ Below w.heap.size w w' := by
  obtain ⟨a, cap, rfl, h1, h2, h3, h4⟩ := hv
  have hc2 : (l.map B).length = Nat.min l.length 64 := by rw [List.length_map]; show l.length = min l.length 64; omega
  have hc3 : ∀ w0 : World, Below w.heap.size w w0 → 0 < (l.map B).length → (some ⟨w.heap.size, 0, none⟩ : Option Addr) = some ⟨w.heap.size, 0, none⟩ ∧ ∃ ad, a = some ad ∧ ∀ j v, (l.map B)[j]? = some v → w0.cell? (ad.add j) = some v := by
    intro w0 hb0 hpos
    rw [List.length_map] at hpos
    cases ha : a with
    | none => exact absurd (h3 ha) (by omega)
    | some ad =>
      refine ⟨rfl, ad, rfl, fun j u hu => ?_⟩
      have hj : j < l.length := by simpa using (List.getElem?_eq_some_iff.1 hu).1
      obtain ⟨hm, hc⟩ := h4 ad ha
      have hcj := hc j hj
      have hcw := (hb0.cell (World.block_lt_of_cell? w ⟨ad.block, ad.off + j, none⟩ hcj)).trans hcj
      have e : ad.add j = ⟨ad.block, ad.off + j, none⟩ := by
        obtain ⟨ab, ao, am⟩ := ad
        obtain rfl : am = none := hm
        exact Addr.add_lit _ _ _
      rw [e, hcw]
      simpa [gb, hj] using hu
  have hc4 : 0 + (l.map B).length ≤ ((List.replicate 64 (0 : UInt8)).map B).length := by rw [List.length_map, List.length_map, List.length_replicate]; omega
  have hc5 : ∀ u ∈ l.map B, u.oneCell' = true := by intro u hu; obtain ⟨z, _, rfl⟩ := List.mem_map.1 hu; rfl
  have HC2 := Lib.hid hc2
  have HC3 := Lib.hid hc3
  have HC4 := Lib.hid hc4
  have HC5 := Lib.hid hc5
  have HL := Lib.hid hl
  have HB1 := Lib.hid ((Below.refl w.heap.size w).alloc (Nat.le_refl _) (.cells (AB (List.replicate 64 0)) 5))
  clear hc2 hc3 hc4 hc5 h1 h2 h3 h4 hl
  go_enter Tryz.func186, Tryz.ntmps186
  go_wp2_with (refine wpList_copy_splice rfl (.tmp 8) (.tmp 9) 22 22 rfl 5 Tryz.underlying22 (by kernel_rfl) (some ⟨w.heap.size, 0, none⟩) a 64 64 l.length cap rfl rfl w.heap.size 0 ((List.replicate 64 (0 : UInt8)).map B) 5 (heap_alloc_new w _) (l.map B) HC2.out (HC3.out _ HB1.out) HC4.out HC5.out w.heap.size w HB1.out (Nat.le_refl _) ?_)
  intro W1 hW1 hbW1
  obtain ⟨Z, hZ⟩ : ∃ Z, Z = l ++ List.replicate (64 - l.length) 0 := ⟨_, rfl⟩
  have hZl : Z.length = 64 := by have := HL.out; rw [hZ]; simp; omega
  have hr : Row W1 w.heap.size 5 (AB Z) := by
    rw [hZ, AB, ← splice_pad l]; exact Row.of_heap hW1.out
  have HR := Lib.hid hr
  have HBW := Lib.hid hbW1
  have HZ := Lib.hid hZ
  have HZl := Lib.hid hZl
  clear hW1 hr hbW1 hZ hZl
  go_wp2_with fail
  go_loopg [13] 64 (fun gk t13 wx => ∃ (i : Nat), gk + i = 64 ∧ t13 = .int .i64 (i : Int) ∧ Row wx w.heap.size 5 (AB (mixK Z x i)) ∧ Below w.heap.size w wx)
  case atStart => exact ⟨0, by omega, rfl, HR.out, HBW.out⟩
  case round =>
    obtain ⟨i, hi, rfl, hr, hB⟩ := hrel
    have HB := Lib.hid hB
    clear hB
    by_cases h64 : i < 64
    · have c5 : (i : Int) < 64 := by omega
      have c6 : (0 : Int) ≤ (i : Int) := by omega
      have hlen := (mixK_len Z x i).trans HZl.out
      have hlt := hr.lt
      have HST := Lib.hid (mixK_step Z x i (by rw [HZl.out]; exact h64))
      obtain ⟨M, hM⟩ : ∃ M, M = mixK Z x i := ⟨_, rfl⟩
      rw [← hM] at hr hlen HST
      clear hM
      go_wp2_with fail
      go_roundg (gk - 1)
      case measure => omega
      case rel => exact ⟨i + 1, by omega, by go_num, by rw [← HST.out]; exact hr.setByte i _, HB.out.setCell (Nat.le_refl _) _⟩
    · obtain rfl : i = 64 := by omega
      have c5 : ¬ ((64 : Nat) : Int) < 64 := by omega
      go_wp2_with fail
      go_ret
      exact ⟨rfl, by rw [padK, ← HZ.out, ← mixK_all Z x 64 HZl.out]; exact hr, HB.out⟩
end Go.Proofs.YtjpfhhndjpdmoaaGreatDoor

namespace Go.Proofs.YtjpfhhndjpdmoaaGreatDoor
open Go.RowKit

section
variable {P : Program}
end
end Go.Proofs.YtjpfhhndjpdmoaaGreatDoor
