/- Part of the proof: GSeal, Same, GOpen. No conditions of its own. -/
import Derived.Below
import Derived.BigQuiet
import Derived.BigRegion
import Derived.ChangeOld
import Derived.Deep.CutBlock
import Derived.Deep.DeepCutAuto
import Derived.Deep.Draws
import Derived.Deep.LoopGhost
import Derived.Deep.Quiet
import Derived.Deep.QuietTactic
import Derived.Deep.RegionHeld3
import Derived.Deep.RegionLaw
import Derived.Laws.AppendOwnNone
import Derived.Laws.Bits64
import Derived.Laws.BitsAllLaws
import Derived.Laws.BytesArg
import Derived.Laws.CopyOwn
import Derived.Laws.MakeOwn
import Derived.Lib.Hide
import Derived.LoopIn
import Derived.LoopNIn
import Derived.OpenShut
import Derived.OrdersIn
import Derived.OwnWalkIn
import Derived.ProofKit
import Derived.RangeFuncBound
import Derived.RangeFuncBox
import Derived.RangeFuncCalls
import Derived.RangeFuncLeaves
import Derived.RangeFuncNested
import Derived.Shelf.Abstract
import Derived.ShutString
import Derived.StillTail
import Derived.TacticsIn
import Derived.TacticsInMore
import Derived.Test.YtcfbiafedfkbhaaDoorProg
import Derived.WalkKit
import Derived.WalkSpells
import Derived.Test.YtcfbiafedfkbhaaDoorB09
import Derived.Test.YtcfbiafedfkbhaaDoorB20
import Derived.Test.YtcfbiafedfkbhaaDoorB21
import Derived.Test.YtcfbiafedfkbhaaDoorB02
import Derived.Test.YtcfbiafedfkbhaaDoorB03
import Derived.Test.YtcfbiafedfkbhaaDoorB13
namespace Go.Proofs.YtcfbiafedfkbhaaDoor
open Go.RowKit

def sealB (K : List UInt8) (last : Nat) (h nonce l b : List UInt8) : List UInt8 := turnF K last nonce l ++ tagF K last h nonce (turnF K last nonce l) b
theorem sealB_len (K : List UInt8) (last : Nat) (h nonce l b : List UInt8) : (sealB K last h nonce l b).length = l.length + 16 := by simp [sealB, turnF_len, tagF_len]
set_option maxRecDepth 100000 in
set_option maxHeartbeats 2000000 in
theorem gseal_any (p : Value) (K : List UInt8) (last : Nat) (h nonce : List UInt8) (vp vb : Value) (l bes : List UInt8) (w : World) (hb : BoxAt 87 109 84 w p K last h) (hn : nonce.length = 12)
    (hl : SlB w vp l) (hll : l.length ≤ 1000000) (hbs : SlB w vb bes) (hbl : bes.length ≤ 1000000) :
    Calls Tryd.prog 32 #[p, .agg (AB nonce), vp, vb] w fun e w' => ∃ v', e = .returned v' ∧ Buf 5 w' w.heap.size v' (sealB K last h nonce l bes) ∧ Below w.heap.size w w' := by
  obtain ⟨xb, hxb⟩ : ∃ xb, p = .pointer (some ⟨xb, 0, none⟩) := let ⟨xb, _, h, _⟩ := hb; ⟨xb, h⟩
  subst hxb
  have HB := Lib.hid hb
  have HL := Lib.hid hl
  have HS := Lib.hid hbs
  have hn16 := (AB_size nonce).trans hn
  clear hb hl hbs
  go_enter Tryd.func32, Tryd.ntmps32
  go_wp2_with fail
  have hB0 : Below w.heap.size w (w.alloc (.cells (AB nonce) 50)) := (Below.refl _ w).alloc (Nat.le_refl _) _
  have r5 := Row.new w 50 (AB nonce)
  obtain ⟨w0, hw0⟩ : ∃ w0, w0 = w.alloc (.cells (AB nonce) 50) := ⟨_, rfl⟩
  have hs0 : w0.heap.size = w.heap.size + 1 := by rw [hw0]; simp
  rw [← hw0] at hB0 r5 ⊢
  clear hw0
  refine (turn_any _ K last h nonce _ l w0 (HB.out.below hB0) hn (HL.out.below hB0) hll).mono ?_
  rintro e w1 ⟨vc, rfl, hbuf, hb1⟩
  have htl := turnF_len K last nonce l
  obtain ⟨T, hT⟩ : ∃ T, T = turnF K last nonce l := ⟨_, rfl⟩
  rw [← hT] at htl hbuf
  have hTl : T.length ≤ 1000000 := by omega
  have HT := Lib.hid hT
  clear htl
  have HBUF := Lib.hid hbuf
  have hB1 := hB0.trans (hb1.mono hB0.size)
  have r5' := r5.below hb1 r5.lt
  clear hT hbuf r5
  go_wp2_with fail
  refine (tag_any _ K last h nonce _ _ T bes w1 (HB.out.below hB1) hn HBUF.out.slb hTl (HS.out.below hB1) hbl).mono ?_
  rintro e w2 ⟨rfl, hb2⟩
  have hgl := tagF_len K last h nonce T bes
  obtain ⟨G, hG⟩ : ∃ G, G = tagF K last h nonce T bes := ⟨_, rfl⟩
  rw [← hG] at hgl ⊢
  have HG := Lib.hid hG
  have hG16 := (AB_size G).trans hgl
  have hB2 := hB1.trans (hb2.mono hB1.size)
  clear hG
  go_upto_region 5 with (fail)
  obtain ⟨w3, hw3⟩ : ∃ w3, w3 = (w2.alloc (.cells #[.int .u8 0, .int .u8 0, .int .u8 0, .int .u8 0, .int .u8 0, .int .u8 0, .int .u8 0, .int .u8 0, .int .u8 0, .int .u8 0, .int .u8 0, .int .u8 0, .int .u8 0, .int .u8 0, .int .u8 0, .int .u8 0] 84)).setRow w2.heap.size (AB G) := ⟨_, rfl⟩
  have hb3 : Below w2.heap.size w2 w3 := by rw [hw3]; exact bSetRow ((Below.refl _ _).alloc (Nat.le_refl _) _) (Nat.le_refl _) _
  have hbuf3 : Buf 5 w3 w0.heap.size vc T := ownsRow_low (ownsRow_low HBUF.out hb2) hb3
  have hsl3 : SlB w3 (.slice (some ⟨w2.heap.size, 0, none⟩) 16 16) G := by rw [hw3]; exact SlB.of_row ((Row.new _ _ _).setRow _) hgl (by decide)
  have hB3 := hB2.trans (hb3.mono hB2.size)
  obtain ⟨va, vcap, hvc⟩ : ∃ a c, vc = .slice a T.length c := let ⟨a, c, h, _⟩ := hbuf3.slb; ⟨a, c, h⟩
  subst hvc
  have HBUF3 := Lib.hid hbuf3
  have HSL3 := Lib.hid hsl3
  have HB3 := Lib.hid hB3
  have hr3 : Row w3 w2.heap.size 84 (AB G) := by rw [hw3]; exact (Row.new _ _ _).setRow _
  have hle3 : w0.heap.size ≤ w3.heap.size := by have := hr3.lt; have := hb1.size; have := hb2.size; omega
  have hGT : T.length + G.length ≤ 140737488355328 := by omega
  have HGT := Lib.hid hGT
  have HLE := Lib.hid hle3
  rw [← hw3]
  clear hGT hle3 hbuf3 hsl3 hB3 hb3 hw3
  go_wp2_with (at_builtin; refine wpl_appendS rfl (.tmp 22) (.tmp 23) 23 rfl Tryd.underlying23 info_u8 w0.heap.size _ T rfl HBUF3.out _ G rfl HSL3.out HGT.out HLE.out ?_)
  intro v' w' hb' hg
  have hBw : Below w.heap.size w w' := HB3.out.grown hg (HB3.out.size) (fun k e => by have := HBUF3.out.lt k e; omega)
  have Hb := Lib.hid hb'
  clear hb' hg
  go_wp2_with fail
  go_ret
  exact ⟨_, rfl, by unfold sealB; rw [← HT.out, ← HG.out]; exact Hb.out.low (by omega), hBw⟩
end Go.Proofs.YtcfbiafedfkbhaaDoor

/- Chapter 05's boxes and none. -/
namespace Go.Proofs.YtcfbiafedfkbhaaDoor
open Go.RowKit

theorem made16 : madeCells (Value.int .u8 0).cells (Int.toNat 16 * 1) = AB (List.replicate 16 0) := by kernel_rfl
theorem make16 (w : World) : (Instr.makeSlice 23 (.int .i64 16) (.int .i64 16)).run Tryd.prog w = .ok (.slice (some ⟨w.heap.size, 0, none⟩) 16 16) (w.alloc (.cells (AB (List.replicate 16 0)) 5)) := by
  obtain ⟨i0, hi, hz0, hz1, hz2⟩ := info_parts info_u8
  have := run_make (P := Tryd.prog) w 23 5 i0 (.int .u8 0) Tryd.underlying23 hi hz0 .i64 .i64 16 16 (by decide) (by decide) (by rw [hz2]; decide) (by decide)
  rw [this, hz1]
  exact congrArg (fun c => Result.ok (Value.slice (some ⟨w.heap.size, 0, none⟩) 16 16) (w.alloc (.cells c 5))) (made16 : madeCells (Value.int .u8 0).cells (Int.toNat 16 * 1) = AB (List.replicate 16 0))
attribute [local go_sem] make16
def z16 : List UInt8 := List.replicate 16 0
def z12 : List UInt8 := List.replicate 12 0
def nilB : List UInt8 := sealB (expand z16) 10 (hOf z16) z12 [] []
theorem SlB.nil (w : World) : SlB w (.slice none 0 0) [] := ⟨none, 0, rfl, Nat.le_refl _, Nat.zero_le _, fun _ => rfl, fun _ h => by cases h⟩
set_option maxRecDepth 100000 in
theorem alloc_b16 (w : World) : (Instr.alloc 84 true (.tuple #[])).run Tryd.prog w = .ok (.pointer (some ⟨w.heap.size, 0, none⟩)) (w.alloc (.cells (AB (List.replicate 16 0)) 84)) := by kernel_rfl
theorem alF_b16 (ops : Array Oper) (dst : Option Tmp) (type : TypeId) (pos : String) (after : Array Edge) : AlF Tryd.prog ops { dst, op := .alloc 84, type, pos, after, guard := none } (.cells (AB (List.replicate 16 0)) 84) := by
  refine ⟨fun a => by simp [Region.wanted], fun ρ w => ?_⟩
  unfold execOp
  simp only [Sem.run_bind, alloc_b16, Result.andThen_ok]
  rfl
end Go.Proofs.YtcfbiafedfkbhaaDoor

namespace Go.Proofs.YtcfbiafedfkbhaaDoor
open Go.RowKit

def orB (a b : UInt8) : UInt8 := a ||| b
theorem bq_or8 (a b : UInt8) : bits .or .u8 (a.toNat : Int) (b.toNat : Int) = ((orB a b).toNat : Int) := by
  rw [u8_or_nat _ _ a.toNat_lt b.toNat_lt, orB, UInt8.toNat_or]
attribute [local go_sem] bq_or8
theorem or_zero (a b : UInt8) : orB a b = 0 ↔ a = 0 ∧ b = 0 := by
  rw [orB, ← UInt8.toNat_inj, ← UInt8.toNat_inj, ← UInt8.toNat_inj, UInt8.toNat_or]
  exact Nat.or_eq_zero_iff
theorem xr_zeq (a b : UInt8) : xr a b = 0 ↔ a = b := by rw [xr]; exact UInt8.xor_eq_zero_iff
def difB (x y : List UInt8) : Nat → UInt8
  | 0 => 0
  | k + 1 => orB (difB x y k) (xr (gb x k) (gb y k))
theorem difB_zero (x y : List UInt8) (k : Nat) : difB x y k = 0 ↔ ∀ i, i < k → gb x i = gb y i := by
  induction k with
  | zero => exact ⟨fun _ i hi => absurd hi (by omega), fun _ => rfl⟩
  | succ k ih =>
    rw [difB, or_zero, xr_zeq, ih]
    constructor
    · rintro ⟨h1, h2⟩ i hi
      by_cases e : i = k
      · subst e; exact h2
      · exact h1 i (by omega)
    · intro h
      exact ⟨fun i hi => h i (by omega), h k (by omega)⟩
theorem difB_eq (x y : List UInt8) (h : x.length = y.length) : (difB x y x.length = 0) ↔ x = y := by
  rw [difB_zero]
  exact ⟨fun e => gb_ext h fun i hi => e i (by omega), fun e i _ => by rw [e]⟩
set_option maxRecDepth 100000 in
set_option maxHeartbeats 2000000 in
theorem same_any (va vb : Value) (x y : List UInt8) (w : World) (ha : SlB w va x) (hb : SlB w vb y) (hxl : x.length = 16) (hyl : y.length = 16) :
    Calls Tryd.prog 48 #[va, vb] w fun e w' => e = .returned (.bool (decide (x = y))) ∧ Below w.heap.size w w' := by
  obtain ⟨b1, o1, p1, rfl, hc1, hm1, hb1, hx1⟩ := ha.addr (by omega)
  obtain ⟨b2, o2, p2, rfl, hc2, hm2, hb2, hx2⟩ := hb.addr (by omega)
  have hfin := difB_eq x y (by omega)
  rw [hxl] at hc1 hx1 hfin ⊢
  rw [hyl] at hc2 hx2 ⊢
  have HX1 := Lib.hid hx1
  have HX2 := Lib.hid hx2
  have HF := Lib.hid hfin
  clear ha hb hx1 hx2 hfin hxl hyl
  go_enter Tryd.func48, Tryd.ntmps48
  go_wp2_with fail
  go_loopg [5, 14] 16 (fun m dv iv wr => ∃ k : Nat, m + k = 16 ∧ iv = .int .i64 (k : Int) ∧ dv = B (difB x y k) ∧ Below w.heap.size w wr)
  case atStart => exact ⟨0, by omega, rfl, rfl, Below.refl _ _⟩
  case round =>
    obtain ⟨k, hk, rfl, rfl, hB⟩ := hrel
    by_cases hk16 : k < 16
    · have c1 : (k : Int) < 16 := by omega
      have x1 : wr.cell? ⟨b1, o1 + k, none⟩ = some (B (gb x k)) := (hB.cell hb1).trans (HX1.out k hk16)
      have x2 : wr.cell? ⟨b2, o2 + k, none⟩ = some (B (gb y k)) := (hB.cell hb2).trans (HX2.out k hk16)
      have hst : orB (difB x y k) (xr (gb x k) (gb y k)) = difB x y (k + 1) := rfl
      have HST := Lib.hid hst
      obtain ⟨d, hd⟩ : ∃ d, d = difB x y k := ⟨_, rfl⟩
      rw [← hd]
      rw [← hd] at HST
      clear hst hd
      go_wp2_with fail
      refine wp_region_qtail (fun w' => w' = _) 10 (by kernel_rfl) (by kernel_rfl) rfl ?_
      simp only [List.take_succ_cons, List.take_zero, List.drop_succ_cons, List.drop_zero]
      repeat (first | go_big_quiet_skip | (go_big_quiet_want; go_big_quiet_op; go_big_quiet_on))
      refine wpQuiet_nil ?_
      rintro _ rfl
      go_wp2_with fail
      go_roundg (gk - 1)
      case measure => omega
      case rel => exact ⟨k + 1, by omega, by go_num, by rw [← HST.out], hB.drew⟩
    · obtain rfl : k = 16 := by omega
      obtain ⟨d, hd⟩ : ∃ d, d = difB x y 16 := ⟨_, rfl⟩
      have hfin : ((d.toNat : Int) == 0) = decide (x = y) := by
        rw [Bool.eq_iff_iff, beq_iff_eq, decide_eq_true_eq, ← HF.out, ← hd, ← UInt8.toNat_inj]
        simp
      have HFI := Lib.hid hfin
      rw [← hd]
      clear hd hfin
      go_wp2_with fail
      rw [HFI.out]
      go_ret
      exact ⟨rfl, hB⟩
end Go.Proofs.YtcfbiafedfkbhaaDoor

namespace Go.Proofs.YtcfbiafedfkbhaaDoor
open Go.RowKit

theorem SlB.drop {w : World} {b o n cap : Nat} {l : List UInt8} (h : SlB w (.slice (some ⟨b, o, none⟩) n cap) l) (m : Nat) (hm : m ≤ n) : SlB w (.slice (some ⟨b, o + m, none⟩) (n - m) (cap - m)) (l.drop m) := by
  obtain ⟨a', cap', hv, h1, h2, h3, h4⟩ := h
  simp only [Value.slice.injEq] at hv
  obtain ⟨rfl, rfl, rfl⟩ := hv
  refine ⟨some ⟨b, o + m, none⟩, cap - m, by rw [List.length_drop], by rw [List.length_drop]; omega, by omega, (fun h => by cases h), fun ad had => ?_⟩
  obtain rfl := Option.some.inj had
  refine ⟨rfl, fun i hi => ?_⟩
  rw [List.length_drop] at hi
  have := (h4 _ rfl).2 (m + i) (by omega)
  simp only at this ⊢
  rw [Nat.add_assoc, this]
  simp [gb]
set_option maxRecDepth 100000 in
set_option maxHeartbeats 4000000 in
theorem gopen_any (p : Value) (K : List UInt8) (last : Nat) (h nonce : List UInt8) (vs vb : Value) (l bes : List UInt8) (w : World) (hb : BoxAt 87 109 84 w p K last h) (hn : nonce.length = 12)
    (hl : SlB w vs l) (hll : l.length ≤ 1000000) (h16 : 16 ≤ l.length) (hbs : SlB w vb bes) (hbl : bes.length ≤ 1000000) :
    Calls Tryd.prog 35 #[p, .agg (AB nonce), vs, vb] w fun e w' => (if tagF K last h nonce (l.take (l.length - 16)) bes = l.drop (l.length - 16) then ∃ v', e = .returned (.tuple #[v', .int .i64 0]) ∧ Buf 5 w' w.heap.size v' (turnF K last nonce (l.take (l.length - 16))) else e = .returned (.tuple #[.slice none 0 0, .int .i64 5])) ∧ Below w.heap.size w w' := by
  obtain ⟨xb, hxb⟩ : ∃ xb, p = .pointer (some ⟨xb, 0, none⟩) := let ⟨xb, _, h, _⟩ := hb; ⟨xb, h⟩
  subst hxb
  obtain ⟨sb, so, scap, rfl, hc1, hm1, hsb, _⟩ := hl.addr (by omega)
  obtain ⟨n, hnn⟩ : ∃ n, n = l.length - 16 := ⟨_, rfl⟩
  rw [← hnn]
  have hln : l.length = n + 16 := by omega
  have hct := hl.take n (by omega)
  have htt := hl.drop n (by omega)
  rw [hln] at htt
  rw [show n + 16 - n = 16 by omega] at htt
  have hcl : (l.take n).length = n := by simp; omega
  have htl : (l.drop n).length = 16 := by simp; omega
  obtain ⟨c, hc⟩ : ∃ c, c = l.take n := ⟨_, rfl⟩
  obtain ⟨tg, htg⟩ : ∃ t, t = l.drop n := ⟨_, rfl⟩
  rw [← hc] at hct hcl ⊢
  rw [← htg] at htt htl ⊢
  rw [hln] at hc1 ⊢
  have hnb : n ≤ 1000000 := by omega
  have HB := Lib.hid hb
  have HC := Lib.hid hct
  have HT := Lib.hid htt
  have HS := Lib.hid hbs
  have HCL := Lib.hid hcl
  have hn16 := (AB_size nonce).trans hn
  have zn : 0 + 12 ≤ (AB nonce).size := by rw [hn16]; decide
  have hsn := sub_all (AB nonce) 12 hn16
  have t0 : ((n + 16 : Nat) : Int) = (n : Int) + 16 := by omega
  have t1 : IntKind.i64.wrap ((n : Int) + 16 - 16) = (n : Int) := by rw [IntKind.wrap_i64]; omega
  have t2 : (n : Int) + 16 - 16 = (n : Int) := by omega
  have t3 : ¬ (n : Int) < 0 := by omega
  have t4 : (0 : Int) ≤ (n : Int) := by omega
  have t5 : (n : Int) ≤ (scap : Int) := by omega
  have t6 : (n : Int) ≤ (n : Int) + 16 := by omega
  clear hb hl hct htt hbs hc htg hln hcl hnn
  go_enter Tryd.func35, Tryd.ntmps35
  go_upto_region 6 with (fail)
  obtain ⟨w0, hw0⟩ : ∃ w0, w0 = w.alloc (.cells (AB nonce) 50) := ⟨_, rfl⟩
  rw [← hw0]
  have r5 : Row w0.drew w.heap.size 50 (AB nonce) := by rw [hw0]; exact Row.new w _ _
  have hB0 : Below w.heap.size w w0.drew := by rw [hw0]; exact ((Below.refl _ w).alloc (Nat.le_refl _) _).drew
  have hs0 : w0.drew.heap.size = w.heap.size + 1 := by rw [hw0]; simp
  clear hw0
  have hgl := tagF_len K last h nonce c bes
  obtain ⟨G, hG⟩ : ∃ G, G = tagF K last h nonce c bes := ⟨_, rfl⟩
  have htag : ∀ w', Below w0.drew.heap.size w0.drew w' → Calls Tryd.prog 47 #[.pointer (some ⟨xb, 0, none⟩), .agg (AB nonce), .slice (some ⟨sb, so, none⟩) n scap, vb] w' (fun e w'' => e = .returned (.agg (AB G)) ∧ Below w'.heap.size w' w'') := fun w' hb => by
    have hbw := hB0.trans (hb.mono hB0.size)
    rw [hG]
    exact tag_any _ K last h nonce _ _ c bes w' (HB.out.below hbw) hn (HC.out.below hbw) (by rw [HCL.out]; exact hnb) (HS.out.below hbw) hbl
  rw [← hG] at hgl
  have HG := Lib.hid hG
  have HTA := Lib.hid htag
  have hG16 := (AB_size G).trans hgl
  clear hG htag
  refine wp_region_allocs 8 [0, 1, 2, 3, 4, 5, 6] [7] (fun _ => .cells (AB (List.replicate 16 0)) 84) (by kernel_rfl) (by kernel_rfl) (by kernel_rfl) (by kernel_rfl) ?hal ?h
  case hal =>
    intro k hk o ho
    simp only [List.mem_cons, List.not_mem_nil, or_false] at hk
    subst hk
    cases ho
    exact alF_b16 _ _ _ _ _
  case h =>
    apply Exists.intro
    refine ⟨fun R => ?_, ?_⟩
    · simp only [List.map_cons, List.map_nil, List.getD_cons_zero, List.getD_cons_succ]
      repeat (first | go_big_quiet_skip | (go_big_quiet_want; go_big_quiet_op; first | go_big_quiet_on | (refine ⟨_, fun _ _ => rfl, ?_⟩; go_big_quiet_on)) | (go_big_quiet_want; apply qa_load1 _ _ rfl _ _ rfl; rotate_left 1; (focus (intro _; simp [go_sem]; done)); rotate_right 1; assumption; assumption; (simp only [Act.put, lS]; go_big_quiet_on)) | (go_big_quiet_want; apply qa_loadA _ _ rfl _ _ rfl (sz := 16); rotate_left 1; (focus (intro _; simp [go_sem]; done)); (focus (intro _; simp [go_sem]; done)); rotate_right 1; assumption; assumption; assumption; (simp only [Act.put, lS]; go_big_quiet_on)) | (go_big_quiet_want; apply qa_loadA _ _ rfl _ _ rfl (sz := 2); rotate_left 1; (focus (intro _; simp [go_sem]; done)); (focus (intro _; simp [go_sem]; done)); rotate_right 1; assumption; assumption; assumption; (simp only [Act.put, lS]; go_big_quiet_on)) | (go_big_quiet_want; apply qa_loadA _ _ rfl _ _ rfl (sz := 12); rotate_left 1; (focus (intro _; simp [go_sem]; done)); (focus (intro _; simp [go_sem]; done)); rotate_right 1; assumption; assumption; assumption; (simp only [Act.put, lS]; go_big_quiet_on)))
      (go_big_quiet_want; refine qa_call _ _ ?_ _ HTA.out ?_; (focus (intro w; simp [go_sem]; done)); (simp only [Act.put, lS]; go_big_quiet_on))
      exact wpQuiet_nil rfl
    · refine wpAl_cons rfl ?_
      intro g hg _
      intro w1 hcc
      have k11 : Row w1 g 84 (AB (List.replicate 16 0)) := .of_heap (hcc.2 g _ (upd_same _ _ _))
      have k5 := r5.below hcc.1 r5.lt
      have hB1 := hB0.trans (hcc.1.mono hB0.size)
      have ng : w.heap.size + 1 ≤ g := by omega
      have hz16 : (AB (List.replicate 16 0)).size = 16 := by rw [AB_size, List.length_replicate]
      clear hcc r5 hB0 hg hs0
      simp only [Act.put, List.setIfInBounds_toArray, ptr, List.drop_succ_cons, List.drop_zero]
      go_upto_region 7 with (fail)
      obtain ⟨w2, hw2⟩ : ∃ w2, w2 = w1.setRow g (AB G) := ⟨_, rfl⟩
      rw [← hw2]
      have j11 : Row w2 g 84 (AB G) := by rw [hw2]; exact k11.setRow _
      have j5 : Row w2 w.heap.size 50 (AB nonce) := by rw [hw2]; exact k5.setRowOther _ _ (by omega)
      have hB2 : Below w.heap.size w w2 := by rw [hw2]; exact bSetRow hB1 (by omega) _
      clear hw2 k11 k5 hB1
      refine wp_region_qtail (fun w' => w' = _) 4 (by kernel_rfl) (by kernel_rfl) rfl ?_
      simp only [List.take_succ_cons, List.take_zero, List.drop_succ_cons, List.drop_zero]
      repeat (first | go_big_quiet_skip | (go_big_quiet_want; go_big_quiet_op; go_big_quiet_on))
      refine wpQuiet_nil ?_
      rintro _ rfl
      go_wp2_with fail
      have hB2d := hB2.drew
      have l11 := j11.lt
      refine (same_any _ _ G tg w2.drew (SlB.of_row j11.drew hgl (by decide)) (HT.out.below hB2d) hgl htl).mono ?_
      rintro e w3 ⟨rfl, hb3⟩
      have i5 := j5.drew.below hb3 j5.lt
      have hB3 := hB2d.trans (hb3.mono hB2d.size)
      clear j11 j5 hB2 hB2d hb3 l11
      by_cases he : G = tg
      · rw [decide_eq_true he]
        have hif : tagF K last h nonce c bes = tg := by rw [← HG.out]; exact he
        have HIF := Lib.hid hif
        clear he hif
        go_upto_region 9 with (fail)
        have q5 := i5.drew
        have hB3d := hB3.drew
        refine wp_region_qtail (fun w' => w' = _) 5 (by kernel_rfl) (by kernel_rfl) rfl ?_
        simp only [List.take_succ_cons, List.take_zero, List.drop_succ_cons, List.drop_zero]
        repeat (first | go_big_quiet_skip | (go_big_quiet_want; go_big_quiet_op; go_big_quiet_on))
        refine wpQuiet_nil ?_
        rintro _ rfl
        go_wp2_with fail
        refine (turn_any _ K last h nonce _ c w3.drew (HB.out.below hB3d) hn (HC.out.below hB3d) (by rw [HCL.out]; exact hnb)).mono ?_
        rintro e w4 ⟨v', rfl, hbuf, hb4⟩
        have HBU := Lib.hid (hbuf.low (b' := w.heap.size) hB3d.size)
        have hB4 := hB3d.trans (hb4.mono hB3d.size)
        clear hbuf hb4
        go_wp2_with fail
        go_ret2
        exact ⟨⟨_, rfl, HBU.out⟩, hB4⟩
      · rw [decide_eq_false he]
        have hif : ¬ tagF K last h nonce c bes = tg := by rw [← HG.out]; exact he
        have HIF := Lib.hid hif
        clear he hif
        go_wp2_with fail
        go_ret2
        exact ⟨rfl, hB3⟩
end Go.Proofs.YtcfbiafedfkbhaaDoor
