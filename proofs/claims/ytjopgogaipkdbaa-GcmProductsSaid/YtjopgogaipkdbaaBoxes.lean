/- Chapter 05's boxes and none. -/
import Derived.Test.YtjopgogaipkdbaaGSeal
import Derived.Laws.MakeOwn
namespace Go.Proofs.Ytjopgogaipkdbaa
open Go.RowKit

theorem gnone_any (w : World) : Calls Try.prog 31 #[] w fun e w' => e = .returned (.pointer none) ∧ w = w' := by
  go_enter Try.func31, Try.ntmps31
  go_wp2
  go_ret
  exact ⟨rfl, rfl⟩
theorem made16 : madeCells (Value.int .u8 0).cells (Int.toNat 16 * 1) = AB (List.replicate 16 0) := by kernel_rfl
theorem make16 (w : World) : (Instr.makeSlice 24 (.int .i64 16) (.int .i64 16)).run Try.prog w = .ok (.slice (some ⟨w.heap.size, 0, none⟩) 16 16) (w.alloc (.cells (AB (List.replicate 16 0)) 5)) := by
  obtain ⟨i0, hi, hz0, hz1, hz2⟩ := info_parts info_u8
  have := run_make (P := Try.prog) w 24 5 i0 (.int .u8 0) Try.underlying24 hi hz0 .i64 .i64 16 16 (by decide) (by decide) (by rw [hz2]; decide) (by decide)
  rw [this, hz1]
  exact congrArg (fun c => Result.ok (Value.slice (some ⟨w.heap.size, 0, none⟩) 16 16) (w.alloc (.cells c 5))) (made16 : madeCells (Value.int .u8 0).cells (Int.toNat 16 * 1) = AB (List.replicate 16 0))
attribute [local go_sem] make16
def z16 : List UInt8 := List.replicate 16 0
def z12 : List UInt8 := List.replicate 12 0
def nilB : List UInt8 := sealB (expand z16) 10 (hOf z16) z12 [] []
theorem nilB_first : gb nilB 0 = 0x58 := by decide +kernel
theorem nilB_last : gb nilB 15 = 0x5A := by decide +kernel
theorem nilB_len : nilB.length = 16 := sealB_len _ _ _ _ _ _
theorem SlB.nil (w : World) : SlB w (.slice none 0 0) [] := ⟨none, 0, rfl, Nat.le_refl _, Nat.zero_le _, fun _ => rfl, fun _ h => by cases h⟩
set_option maxRecDepth 100000 in
set_option maxHeartbeats 1000000 in
theorem gboxes_any (w : World) : Calls Try.prog 21 #[] w fun e w' => e = .returned (.bool true) ∧ Below w.heap.size w w' := by
  go_enter Try.func21, Try.ntmps21
  have hB0 : Below w.heap.size w (w.alloc (.cells (AB (List.replicate 16 0)) 5)) := (Below.refl _ w).alloc (Nat.le_refl _) _
  have HN := Lib.hid (gnew_ok _ z16 (w.alloc (.cells (AB (List.replicate 16 0)) 5)) (SlB.of_row (l := z16) (Row.new w 5 (AB (List.replicate 16 0))) rfl (by decide)) (.inl rfl))
  go_wp2_with (go_at_call 24; refine HN.out.mono ?_; rintro e w1 ⟨p, rfl, hb, hb1⟩; obtain ⟨xb, hp⟩ : ∃ xb, p = .pointer (some ⟨xb, 0, none⟩) := (let ⟨a, _, h, _⟩ := hb; ⟨a, h⟩); subst hp; have HBX := Lib.hid hb; have HB1 := Lib.hid (hB0.trans (hb1.mono hB0.size)); clear hb hb1)
  refine (gseal_any _ (expand z16) (lastOf z16) (hOf z16) z12 _ _ [] [] w1 HBX.out rfl (SlB.nil w1) (by decide) (SlB.nil w1) (by decide)).mono ?_
  rintro e w2 ⟨v, rfl, hbuf, hb2⟩
  have HB2 := Lib.hid (HB1.out.trans (hb2.mono HB1.out.size))
  have hbuf' : Buf 5 w2 w1.heap.size v nilB := hbuf
  obtain ⟨b, o, cap, rfl, hcap, hmax, hb, hcell⟩ := hbuf'.slb.addr (by rw [nilB_len]; decide)
  have c0 : w2.cell? ⟨b, o, none⟩ = some (.int .u8 88) := (hcell 0 (by rw [nilB_len]; decide)).trans (by rw [nilB_first]; rfl)
  have c15 : w2.cell? ⟨b, o + 15, none⟩ = some (.int .u8 90) := (hcell 15 (by rw [nilB_len]; decide)).trans (by rw [nilB_last]; rfl)
  rw [nilB_len]
  clear hbuf hbuf' hcell hcap hmax hb2
  go_wp2_with fail
  go_ret
  exact ⟨rfl, HB2.out⟩
end Go.Proofs.Ytjopgogaipkdbaa
