/- The walk of gcm's Seal. -/
import Derived.Test.YtjopgogaipkdbaaAlloc
import Derived.Test.YtjopgogaipkdbaaTag
import Derived.Test.YtjopgogaipkdbaaGNew
import Derived.Test.YtjopgogaipkdbaaRefA
import Derived.Laws.MakeOwn
namespace Go.Proofs.Ytjopgogaipkdbaa
open Go.RowKit

def sealB (K : List UInt8) (last : Nat) (h nonce l b : List UInt8) : List UInt8 := turnF K last nonce l ++ tagF K last h nonce (turnF K last nonce l) b
theorem sealB_len (K : List UInt8) (last : Nat) (h nonce l b : List UInt8) : (sealB K last h nonce l b).length = l.length + 16 := by simp [sealB, turnF_len, tagF_len]
theorem gseal_nil (nonce : List UInt8) (vp vb : Value) (w : World) : Calls Try.prog 27 #[.pointer none, .agg (AB nonce), vp, vb] w fun e w' => e = .returned (.slice none 0 0) ∧ Below w.heap.size w w' := by
  go_enter Try.func27, Try.ntmps27
  go_wp2_with fail
  go_ret
  exact ⟨rfl, (Below.refl _ w).alloc (Nat.le_refl _) _⟩
set_option maxRecDepth 100000 in
set_option maxHeartbeats 2000000 in
theorem gseal_any (p : Value) (K : List UInt8) (last : Nat) (h nonce : List UInt8) (vp vb : Value) (l bes : List UInt8) (w : World) (hb : BoxAt 84 67 23 w p K last h) (hn : nonce.length = 12)
    (hl : SlB w vp l) (hll : l.length ≤ 1000000) (hbs : SlB w vb bes) (hbl : bes.length ≤ 1000000) :
    Calls Try.prog 27 #[p, .agg (AB nonce), vp, vb] w fun e w' => ∃ v', e = .returned v' ∧ Buf 5 w' w.heap.size v' (sealB K last h nonce l bes) ∧ Below w.heap.size w w' := by
  obtain ⟨xb, hxb⟩ : ∃ xb, p = .pointer (some ⟨xb, 0, none⟩) := let ⟨xb, _, h, _⟩ := hb; ⟨xb, h⟩
  subst hxb
  have HB := Lib.hid hb
  have HL := Lib.hid hl
  have HS := Lib.hid hbs
  have hn16 := (AB_size nonce).trans hn
  clear hb hl hbs
  go_enter Try.func27, Try.ntmps27
  go_wp2_with fail
  have hB0 : Below w.heap.size w (w.alloc (.cells (AB nonce) 48)) := (Below.refl _ w).alloc (Nat.le_refl _) _
  have r5 := Row.new w 48 (AB nonce)
  obtain ⟨w0, hw0⟩ : ∃ w0, w0 = w.alloc (.cells (AB nonce) 48) := ⟨_, rfl⟩
  have hs0 : w0.heap.size = w.heap.size + 1 := by rw [hw0]; simp
  rw [← hw0] at hB0 r5 ⊢
  clear hw0
  refine (turn_any _ K last h nonce _ l w0 (HB.out.below hB0) hn (HL.out.below hB0) hll).mono ?_
  rintro e w1 ⟨vc, rfl, hbuf, hb1⟩
  have htl := turnF_len K last nonce l
  obtain ⟨T, hT⟩ : ∃ T, T = turnF K last nonce l := ⟨_, rfl⟩
  rw [← hT] at htl hbuf
  have hTl : T.length ≤ 1000000 := by omega
  have HT := Lib.hid hT
  clear htl
  have HBUF := Lib.hid hbuf
  have hB1 := hB0.trans (hb1.mono hB0.size)
  have r5' := r5.below hb1 r5.lt
  clear hT hbuf r5
  go_wp2_with fail
  refine (tag_any _ K last h nonce _ _ T bes w1 (HB.out.below hB1) hn HBUF.out.slb hTl (HS.out.below hB1) hbl).mono ?_
  rintro e w2 ⟨rfl, hb2⟩
  have hgl := tagF_len K last h nonce T bes
  obtain ⟨G, hG⟩ : ∃ G, G = tagF K last h nonce T bes := ⟨_, rfl⟩
  rw [← hG] at hgl ⊢
  have HG := Lib.hid hG
  have hG16 := (AB_size G).trans hgl
  have hB2 := hB1.trans (hb2.mono hB1.size)
  clear hG
  go_upto_region 5 with (fail)
  obtain ⟨w3, hw3⟩ : ∃ w3, w3 = (w2.alloc (.cells #[.int .u8 0, .int .u8 0, .int .u8 0, .int .u8 0, .int .u8 0, .int .u8 0, .int .u8 0, .int .u8 0, .int .u8 0, .int .u8 0, .int .u8 0, .int .u8 0, .int .u8 0, .int .u8 0, .int .u8 0, .int .u8 0] 23)).setRow w2.heap.size (AB G) := ⟨_, rfl⟩
  have hb3 : Below w2.heap.size w2 w3 := by rw [hw3]; exact bSetRow ((Below.refl _ _).alloc (Nat.le_refl _) _) (Nat.le_refl _) _
  have hbuf3 : Buf 5 w3 w0.heap.size vc T := ownsRow_low (ownsRow_low HBUF.out hb2) hb3
  have hsl3 : SlB w3 (.slice (some ⟨w2.heap.size, 0, none⟩) 16 16) G := by rw [hw3]; exact SlB.of_row ((Row.new _ _ _).setRow _) hgl (by decide)
  have hB3 := hB2.trans (hb3.mono hB2.size)
  obtain ⟨va, vcap, hvc⟩ : ∃ a c, vc = .slice a T.length c := let ⟨a, c, h, _⟩ := hbuf3.slb; ⟨a, c, h⟩
  subst hvc
  have HBUF3 := Lib.hid hbuf3
  have HSL3 := Lib.hid hsl3
  have HB3 := Lib.hid hB3
  have hr3 : Row w3 w2.heap.size 23 (AB G) := by rw [hw3]; exact (Row.new _ _ _).setRow _
  have hle3 : w0.heap.size ≤ w3.heap.size := by have := hr3.lt; have := hb1.size; have := hb2.size; omega
  have hGT : T.length + G.length ≤ 140737488355328 := by omega
  have HGT := Lib.hid hGT
  have HLE := Lib.hid hle3
  rw [← hw3]
  clear hGT hle3 hbuf3 hsl3 hB3 hb3 hw3
  go_wp2_with (at_builtin; refine wpl_appendS rfl (.tmp 22) (.tmp 23) 24 rfl Try.underlying24 info_u8 w0.heap.size _ T rfl HBUF3.out _ G rfl HSL3.out HGT.out HLE.out ?_)
  intro v' w' hb' hg
  have hBw : Below w.heap.size w w' := HB3.out.grown hg (HB3.out.size) (fun k e => by have := HBUF3.out.lt k e; omega)
  have Hb := Lib.hid hb'
  clear hb' hg
  go_wp2_with fail
  go_ret
  exact ⟨_, rfl, by unfold sealB; rw [← HT.out, ← HG.out]; exact Hb.out.low (by omega), hBw⟩
end Go.Proofs.Ytjopgogaipkdbaa

/- Chapter 05's boxes and none. -/
namespace Go.Proofs.Ytjopgogaipkdbaa
open Go.RowKit

theorem gnone_any (w : World) : Calls Try.prog 31 #[] w fun e w' => e = .returned (.pointer none) ∧ w = w' := by
  go_enter Try.func31, Try.ntmps31
  go_wp2
  go_ret
  exact ⟨rfl, rfl⟩
theorem made16 : madeCells (Value.int .u8 0).cells (Int.toNat 16 * 1) = AB (List.replicate 16 0) := by kernel_rfl
theorem make16 (w : World) : (Instr.makeSlice 24 (.int .i64 16) (.int .i64 16)).run Try.prog w = .ok (.slice (some ⟨w.heap.size, 0, none⟩) 16 16) (w.alloc (.cells (AB (List.replicate 16 0)) 5)) := by
  obtain ⟨i0, hi, hz0, hz1, hz2⟩ := info_parts info_u8
  have := run_make (P := Try.prog) w 24 5 i0 (.int .u8 0) Try.underlying24 hi hz0 .i64 .i64 16 16 (by decide) (by decide) (by rw [hz2]; decide) (by decide)
  rw [this, hz1]
  exact congrArg (fun c => Result.ok (Value.slice (some ⟨w.heap.size, 0, none⟩) 16 16) (w.alloc (.cells c 5))) (made16 : madeCells (Value.int .u8 0).cells (Int.toNat 16 * 1) = AB (List.replicate 16 0))
attribute [local go_sem] make16
def z16 : List UInt8 := List.replicate 16 0
def z12 : List UInt8 := List.replicate 12 0
def nilB : List UInt8 := sealB (expand z16) 10 (hOf z16) z12 [] []
theorem nilB_first : gb nilB 0 = 0x58 := by decide +kernel
theorem nilB_last : gb nilB 15 = 0x5A := by decide +kernel
theorem nilB_len : nilB.length = 16 := sealB_len _ _ _ _ _ _
theorem SlB.nil (w : World) : SlB w (.slice none 0 0) [] := ⟨none, 0, rfl, Nat.le_refl _, Nat.zero_le _, fun _ => rfl, fun _ h => by cases h⟩
set_option maxRecDepth 100000 in
set_option maxHeartbeats 1000000 in
theorem gboxes_any (w : World) : Calls Try.prog 21 #[] w fun e w' => e = .returned (.bool true) ∧ Below w.heap.size w w' := by
  go_enter Try.func21, Try.ntmps21
  have hB0 : Below w.heap.size w (w.alloc (.cells (AB (List.replicate 16 0)) 5)) := (Below.refl _ w).alloc (Nat.le_refl _) _
  have HN := Lib.hid (gnew_ok _ z16 (w.alloc (.cells (AB (List.replicate 16 0)) 5)) (SlB.of_row (l := z16) (Row.new w 5 (AB (List.replicate 16 0))) rfl (by decide)) (.inl rfl))
  go_wp2_with (go_at_call 24; refine HN.out.mono ?_; rintro e w1 ⟨p, rfl, hb, hb1⟩; obtain ⟨xb, hp⟩ : ∃ xb, p = .pointer (some ⟨xb, 0, none⟩) := (let ⟨a, _, h, _⟩ := hb; ⟨a, h⟩); subst hp; have HBX := Lib.hid hb; have HB1 := Lib.hid (hB0.trans (hb1.mono hB0.size)); clear hb hb1)
  refine (gseal_any _ (expand z16) (lastOf z16) (hOf z16) z12 _ _ [] [] w1 HBX.out rfl (SlB.nil w1) (by decide) (SlB.nil w1) (by decide)).mono ?_
  rintro e w2 ⟨v, rfl, hbuf, hb2⟩
  have HB2 := Lib.hid (HB1.out.trans (hb2.mono HB1.out.size))
  have hbuf' : Buf 5 w2 w1.heap.size v nilB := hbuf
  obtain ⟨b, o, cap, rfl, hcap, hmax, hb, hcell⟩ := hbuf'.slb.addr (by rw [nilB_len]; decide)
  have c0 : w2.cell? ⟨b, o, none⟩ = some (.int .u8 88) := (hcell 0 (by rw [nilB_len]; decide)).trans (by rw [nilB_first]; rfl)
  have c15 : w2.cell? ⟨b, o + 15, none⟩ = some (.int .u8 90) := (hcell 15 (by rw [nilB_len]; decide)).trans (by rw [nilB_last]; rfl)
  rw [nilB_len]
  clear hbuf hbuf' hcell hcap hmax hb2
  go_wp2_with fail
  go_ret
  exact ⟨rfl, HB2.out⟩
set_option maxRecDepth 100000 in
theorem alloc_b16 (w : World) : (Instr.alloc 23 true (.tuple #[])).run Try.prog w = .ok (.pointer (some ⟨w.heap.size, 0, none⟩)) (w.alloc (.cells (AB (List.replicate 16 0)) 23)) := by kernel_rfl
theorem alF_b16 (ops : Array Oper) (dst : Option Tmp) (type : TypeId) (pos : String) (after : Array Edge) : AlF Try.prog ops { dst, op := .alloc 23, type, pos, after, guard := none } (.cells (AB (List.replicate 16 0)) 23) := by
  refine ⟨fun a => by simp [Region.wanted], fun ρ w => ?_⟩
  unfold execOp
  simp only [Sem.run_bind, alloc_b16, Result.andThen_ok]
  rfl
end Go.Proofs.Ytjopgogaipkdbaa
