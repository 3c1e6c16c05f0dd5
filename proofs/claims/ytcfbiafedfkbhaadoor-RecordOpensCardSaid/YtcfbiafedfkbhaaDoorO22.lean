/- Part of the proof: RefA, GSeal, Same, GOpen. No conditions of its own. -/
import Derived.BigQuiet
import Derived.Deep.DeepCutAuto
import Derived.Deep.LoopGhost
import Derived.Deep.Quiet
import Derived.Deep.QuietTactic
import Derived.Lib.Hide
import Derived.StillTail
import Derived.Test.YtcfbiafedfkbhaaDoorProg
import Derived.WalkKit
import Derived.WalkSpells
import Derived.Test.YtcfbiafedfkbhaaDoorO02
import Derived.Test.YtcfbiafedfkbhaaDoorO03
import Derived.Below
import Derived.BigRegion
import Derived.ChangeOld
import Derived.Deep.CutBlock
import Derived.Deep.Draws
import Derived.Deep.RegionHeld3
import Derived.Deep.RegionLaw
import Derived.Laws.AppendOwnNone
import Derived.Laws.Bits64
import Derived.Laws.BitsAllLaws
import Derived.Laws.BytesArg
import Derived.Laws.CopyOwn
import Derived.Laws.MakeOwn
import Derived.LoopIn
import Derived.LoopNIn
import Derived.OpenShut
import Derived.OrdersIn
import Derived.OwnWalkIn
import Derived.ProofKit
import Derived.RangeFuncBound
import Derived.RangeFuncBox
import Derived.RangeFuncCalls
import Derived.RangeFuncLeaves
import Derived.RangeFuncNested
import Derived.Shelf.Abstract
import Derived.ShutString
import Derived.TacticsIn
import Derived.TacticsInMore
import Derived.Test.YtcfbiafedfkbhaaDoorO09
import Derived.Test.YtcfbiafedfkbhaaDoorO20
import Derived.Test.YtcfbiafedfkbhaaDoorO21
import Derived.Test.YtcfbiafedfkbhaaDoorO13
namespace Go.Proofs.YtcfbiafedfkbhaaDoor
open Go.RowKit

def dbn (a : UInt8) : Nat → UInt8
  | 0 => a
  | i + 1 => dbl (dbn a i)
def mlP (a b : UInt8) : Nat → UInt8
  | 0 => 0
  | i + 1 => if (((b.toNat : Int) / 2 ^ i).tmod 2 == 1) = true then xr (mlP a b i) (dbn a i) else mlP a b i
def ml (a b : UInt8) : UInt8 := mlP a b 8

def topOk (n : Nat) : Bool :=
  let x := UInt8.ofNat n
  if (x.toNat : Int) / 128 == 1 then bits .xor .u8 ((x.toNat : Int) * 2 % 256) 27 == ((dbl x).toNat : Int) else ((x.toNat : Int) * 2 % 256) == ((dbl x).toNat : Int)
theorem topOk_all : (List.range 256).all topOk = true := by decide +kernel
theorem top_yes (x : UInt8) (h : ((x.toNat : Int) / 128 == 1) = true) : bits .xor .u8 ((x.toNat : Int) * 2 % 256) 27 = ((dbl x).toNat : Int) := by
  have := List.all_eq_true.1 topOk_all x.toNat (List.mem_range.2 x.toNat_lt)
  simp only [topOk, UInt8.ofNat_toNat, h, if_true] at this
  exact eq_of_beq this
theorem top_no (x : UInt8) (h : ((x.toNat : Int) / 128 == 1) = false) : ((x.toNat : Int) * 2 % 256) = ((dbl x).toNat : Int) := by
  have := List.all_eq_true.1 topOk_all x.toNat (List.mem_range.2 x.toNat_lt)
  simp only [topOk, UInt8.ofNat_toNat, h, Bool.false_eq_true, if_false] at this
  exact eq_of_beq this
theorem int_congr {k : IntKind} {a b : Int} (h : a = b) : Value.int k a = .int k b := by rw [h]

set_option maxRecDepth 100000 in
set_option maxHeartbeats 2000000 in
theorem mul_any (a b : UInt8) (w : World) : Calls Tryd.prog 75 #[B a, B b] w fun e w' => e = .returned (B (ml a b)) ∧ w = w' := by
  go_enter Tryd.func75, Tryd.ntmps75
  go_wp2_with fail
  go_loopg [0, 5, 6] 8 (fun n x p i wr => ∃ k : Nat, n + k = 8 ∧ i = .int .i64 k ∧ x = B (dbn a k) ∧ p = B (mlP a b k) ∧ w = wr)
  case atStart => exact ⟨0, by omega, rfl, rfl, rfl, rfl⟩
  case round =>
    obtain ⟨k, hk, rfl, rfl, rfl, rfl⟩ := hrel
    by_cases h : k < 8
    · have b1 : (k : Int) < 8 := by omega
      obtain ⟨x, hx⟩ : ∃ x, x = dbn a k := ⟨_, rfl⟩
      obtain ⟨y, hy⟩ : ∃ y, y = mlP a b k := ⟨_, rfl⟩
      rw [← hx, ← hy]
      have HX := Lib.hid hx
      have HY := Lib.hid hy
      clear hx hy
      cases e1 : (((b.toNat : Int) / 2 ^ k).tmod 2 == 1)
      · cases e2 : ((x.toNat : Int) / 128 == 1)
        · have HT := Lib.hid (top_no x e2)
          go_wp2_with fail
          go_roundg (gk - 1)
          case measure => omega
          case rel => exact ⟨k + 1, by omega, by go_num, by rw [dbn, ← HX.out]; exact int_congr HT.out, by rw [mlP, e1, HY.out]; rfl, rfl⟩
        · have HT := Lib.hid (top_yes x e2)
          go_wp2_with fail
          go_roundg (gk - 1)
          case measure => omega
          case rel => exact ⟨k + 1, by omega, by go_num, by rw [dbn, ← HX.out]; exact int_congr HT.out, by rw [mlP, e1, HY.out]; rfl, rfl⟩
      · cases e2 : ((x.toNat : Int) / 128 == 1)
        · have HT := Lib.hid (top_no x e2)
          go_wp2_with fail
          go_roundg (gk - 1)
          case measure => omega
          case rel => exact ⟨k + 1, by omega, by go_num, by rw [dbn, ← HX.out]; exact int_congr HT.out, by rw [mlP, e1, ← HY.out, ← HX.out]; rfl, rfl⟩
        · have HT := Lib.hid (top_yes x e2)
          go_wp2_with fail
          go_roundg (gk - 1)
          case measure => omega
          case rel => exact ⟨k + 1, by omega, by go_num, by rw [dbn, ← HX.out]; exact int_congr HT.out, by rw [mlP, e1, ← HY.out, ← HX.out]; rfl, rfl⟩
    · obtain rfl : k = 8 := by omega
      have e : mlP a b 8 = ml a b := rfl
      rw [e]
      go_wp2_with fail
      go_ret
      exact ⟨rfl, rfl⟩
end Go.Proofs.YtcfbiafedfkbhaaDoor

/- What the document's Keys reckons, beside block's. -/
namespace Go.Proofs.YtcfbiafedfkbhaaDoor
open Go.RowKit

def pad (l : List UInt8) (L : Nat) : List UInt8 := l ++ List.replicate (L - l.length) 0
theorem pad_len (l : List UInt8) (L : Nat) (h : l.length ≤ L) : (pad l L).length = L := by simp [pad]; omega
theorem pad_nil (L : Nat) : pad [] L = List.replicate L 0 := by simp [pad]
theorem pad_full (l : List UInt8) (L : Nat) (h : l.length = L) : pad l L = l := by subst h; simp [pad]
theorem gb_pad (l : List UInt8) (L i : Nat) (h : i < l.length) : gb (pad l L) i = gb l i := gb_append_left _ _ _ h
theorem pad_set (l : List UInt8) (L : Nat) (x : UInt8) (h : l.length < L) : (pad l L).set l.length x = pad (l ++ [x]) L := by
  unfold pad
  have : L - l.length = (L - (l ++ [x]).length) + 1 := by simp; omega
  rw [this, List.replicate_succ]
  simp
def kw (n : Nat) (key : List UInt8) (i : Nat) : List UInt8 := if i ≤ n then key.take (4 * i) else (ks n key (i - n)).w
theorem kw_len (n : Nat) (key : List UInt8) (h : key.length = n * 4) (i : Nat) : (kw n key i).length = 4 * i := by
  unfold kw
  by_cases hi : i ≤ n
  · rw [if_pos hi, List.length_take]; omega
  · rw [if_neg hi, ks_len _ _ h]; omega
theorem kw_first (n : Nat) (key : List UInt8) (h : key.length = n * 4) (m : Nat) : kw n key (n + m) = (ks n key m).w := by
  unfold kw
  by_cases hi : n + m ≤ n
  · obtain rfl : m = 0 := by omega
    rw [if_pos (by omega), Nat.add_zero, List.take_of_length_le (by omega)]
    rfl
  · rw [if_neg hi]; congr 2; omega
theorem kw_step (n : Nat) (key : List UInt8) (h : key.length = n * 4) (i : Nat) (hi : i < n) : kw n key i ++ [gb key (4 * i), gb key (4 * i + 1), gb key (4 * i + 2), gb key (4 * i + 3)] = kw n key (i + 1) := by
  unfold kw
  rw [if_pos (by omega), if_pos (by omega), show 4 * (i + 1) = 4 * i + 4 by omega, List.take_add]
  congr 1
  apply gb_ext (by simp; omega)
  intro j hj
  have hj4 : j < 4 := by simp at hj; omega
  have e : gb (List.take 4 (List.drop (4 * i) key)) j = gb key (4 * i + j) := by simp [gb, hj4]
  rw [e]
  match j, hj4 with
  | 0, _ => rfl
  | 1, _ => rfl
  | 2, _ => rfl
  | 3, _ => rfl
def twoOk (n : Nat) : Bool := ml (UInt8.ofNat n) 2 == dbl (UInt8.ofNat n) && ml (UInt8.ofNat n) 3 == xr (UInt8.ofNat n) (dbl (UInt8.ofNat n))
theorem twoOk_all : (List.range 256).all twoOk = true := by decide +kernel
theorem ml_two (x : UInt8) : ml x 2 = dbl x := by
  have := List.all_eq_true.1 twoOk_all x.toNat (List.mem_range.2 x.toNat_lt)
  simp only [twoOk, UInt8.ofNat_toNat, Bool.and_eq_true] at this
  exact eq_of_beq this.1
theorem ml_three (x : UInt8) : ml x 3 = xr x (dbl x) := by
  have := List.all_eq_true.1 twoOk_all x.toNat (List.mem_range.2 x.toNat_lt)
  simp only [twoOk, UInt8.ofNat_toNat, Bool.and_eq_true] at this
  exact eq_of_beq this.2
theorem pad_over (l m : List UInt8) (L : Nat) : (pad l L).take l.length ++ m ++ (pad l L).drop (l.length + m.length) = pad (l ++ m) L := by
  unfold pad
  rw [List.take_left', List.drop_append]
  · rw [show l.length + m.length - l.length = m.length by omega, List.drop_of_length_le (show l.length ≤ l.length + m.length by omega), List.nil_append, List.drop_replicate]
    rw [List.length_append, show L - l.length - m.length = L - (l.length + m.length) by omega]
  · rfl
theorem ownsRow_low {w w' : World} {base e size n : Nat} {v : Value} {xs : List Value} (h : w.ownsRow base e size v n xs) (hb : Below w.heap.size w w') : w'.ownsRow base e size v n xs :=
  ⟨h.1, h.2.imp id fun ⟨g, cap, cur, hv, hg, hh, h1⟩ => ⟨g, cap, cur, hv, hg, (hb.block g (Array.getElem?_eq_some_iff.1 hh).1).trans hh, h1⟩⟩
end Go.Proofs.YtcfbiafedfkbhaaDoor

namespace Go.Proofs.YtcfbiafedfkbhaaDoor
open Go.RowKit

def sealB (K : List UInt8) (last : Nat) (h nonce l b : List UInt8) : List UInt8 := turnF K last nonce l ++ tagF K last h nonce (turnF K last nonce l) b
theorem sealB_len (K : List UInt8) (last : Nat) (h nonce l b : List UInt8) : (sealB K last h nonce l b).length = l.length + 16 := by simp [sealB, turnF_len, tagF_len]
set_option maxRecDepth 100000 in
set_option maxHeartbeats 2000000 in
theorem gseal_any (p : Value) (K : List UInt8) (last : Nat) (h nonce : List UInt8) (vp vb : Value) (l bes : List UInt8) (w : World) (hb : BoxAt 87 109 84 w p K last h) (hn : nonce.length = 12)
    (hl : SlB w vp l) (hll : l.length ≤ 1000000) (hbs : SlB w vb bes) (hbl : bes.length ≤ 1000000) :
    Calls Tryd.prog 32 #[p, .agg (AB nonce), vp, vb] w fun e w' => ∃ v', e = .returned v' ∧ Buf 5 w' w.heap.size v' (sealB K last h nonce l bes) ∧ Below w.heap.size w w' := by
  obtain ⟨xb, hxb⟩ : ∃ xb, p = .pointer (some ⟨xb, 0, none⟩) := let ⟨xb, _, h, _⟩ := hb; ⟨xb, h⟩
  subst hxb
  have HB := Lib.hid hb
  have HL := Lib.hid hl
  have HS := Lib.hid hbs
  have hn16 := (AB_size nonce).trans hn
  clear hb hl hbs
  go_enter Tryd.func32, Tryd.ntmps32
  go_wp2_with fail
  have hB0 : Below w.heap.size w (w.alloc (.cells (AB nonce) 50)) := (Below.refl _ w).alloc (Nat.le_refl _) _
  have r5 := Row.new w 50 (AB nonce)
  obtain ⟨w0, hw0⟩ : ∃ w0, w0 = w.alloc (.cells (AB nonce) 50) := ⟨_, rfl⟩
  have hs0 : w0.heap.size = w.heap.size + 1 := by rw [hw0]; simp
  rw [← hw0] at hB0 r5 ⊢
  clear hw0
  refine (turn_any _ K last h nonce _ l w0 (HB.out.below hB0) hn (HL.out.below hB0) hll).mono ?_
  rintro e w1 ⟨vc, rfl, hbuf, hb1⟩
  have htl := turnF_len K last nonce l
  obtain ⟨T, hT⟩ : ∃ T, T = turnF K last nonce l := ⟨_, rfl⟩
  rw [← hT] at htl hbuf
  have hTl : T.length ≤ 1000000 := by omega
  have HT := Lib.hid hT
  clear htl
  have HBUF := Lib.hid hbuf
  have hB1 := hB0.trans (hb1.mono hB0.size)
  have r5' := r5.below hb1 r5.lt
  clear hT hbuf r5
  go_wp2_with fail
  refine (tag_any _ K last h nonce _ _ T bes w1 (HB.out.below hB1) hn HBUF.out.slb hTl (HS.out.below hB1) hbl).mono ?_
  rintro e w2 ⟨rfl, hb2⟩
  have hgl := tagF_len K last h nonce T bes
  obtain ⟨G, hG⟩ : ∃ G, G = tagF K last h nonce T bes := ⟨_, rfl⟩
  rw [← hG] at hgl ⊢
  have HG := Lib.hid hG
  have hG16 := (AB_size G).trans hgl
  have hB2 := hB1.trans (hb2.mono hB1.size)
  clear hG
  go_upto_region 5 with (fail)
  obtain ⟨w3, hw3⟩ : ∃ w3, w3 = (w2.alloc (.cells #[.int .u8 0, .int .u8 0, .int .u8 0, .int .u8 0, .int .u8 0, .int .u8 0, .int .u8 0, .int .u8 0, .int .u8 0, .int .u8 0, .int .u8 0, .int .u8 0, .int .u8 0, .int .u8 0, .int .u8 0, .int .u8 0] 84)).setRow w2.heap.size (AB G) := ⟨_, rfl⟩
  have hb3 : Below w2.heap.size w2 w3 := by rw [hw3]; exact bSetRow ((Below.refl _ _).alloc (Nat.le_refl _) _) (Nat.le_refl _) _
  have hbuf3 : Buf 5 w3 w0.heap.size vc T := ownsRow_low (ownsRow_low HBUF.out hb2) hb3
  have hsl3 : SlB w3 (.slice (some ⟨w2.heap.size, 0, none⟩) 16 16) G := by rw [hw3]; exact SlB.of_row ((Row.new _ _ _).setRow _) hgl (by decide)
  have hB3 := hB2.trans (hb3.mono hB2.size)
  obtain ⟨va, vcap, hvc⟩ : ∃ a c, vc = .slice a T.length c := let ⟨a, c, h, _⟩ := hbuf3.slb; ⟨a, c, h⟩
  subst hvc
  have HBUF3 := Lib.hid hbuf3
  have HSL3 := Lib.hid hsl3
  have HB3 := Lib.hid hB3
  have hr3 : Row w3 w2.heap.size 84 (AB G) := by rw [hw3]; exact (Row.new _ _ _).setRow _
  have hle3 : w0.heap.size ≤ w3.heap.size := by have := hr3.lt; have := hb1.size; have := hb2.size; omega
  have hGT : T.length + G.length ≤ 140737488355328 := by omega
  have HGT := Lib.hid hGT
  have HLE := Lib.hid hle3
  rw [← hw3]
  clear hGT hle3 hbuf3 hsl3 hB3 hb3 hw3
  go_wp2_with (at_builtin; refine wpl_appendS rfl (.tmp 22) (.tmp 23) 23 rfl Tryd.underlying23 info_u8 w0.heap.size _ T rfl HBUF3.out _ G rfl HSL3.out HGT.out HLE.out ?_)
  intro v' w' hb' hg
  have hBw : Below w.heap.size w w' := HB3.out.grown hg (HB3.out.size) (fun k e => by have := HBUF3.out.lt k e; omega)
  have Hb := Lib.hid hb'
  clear hb' hg
  go_wp2_with fail
  go_ret
  exact ⟨_, rfl, by unfold sealB; rw [← HT.out, ← HG.out]; exact Hb.out.low (by omega), hBw⟩
end Go.Proofs.YtcfbiafedfkbhaaDoor

/- Chapter 05's boxes and none. -/
namespace Go.Proofs.YtcfbiafedfkbhaaDoor
open Go.RowKit

theorem made16 : madeCells (Value.int .u8 0).cells (Int.toNat 16 * 1) = AB (List.replicate 16 0) := by kernel_rfl
theorem make16 (w : World) : (Instr.makeSlice 23 (.int .i64 16) (.int .i64 16)).run Tryd.prog w = .ok (.slice (some ⟨w.heap.size, 0, none⟩) 16 16) (w.alloc (.cells (AB (List.replicate 16 0)) 5)) := by
  obtain ⟨i0, hi, hz0, hz1, hz2⟩ := info_parts info_u8
  have := run_make (P := Tryd.prog) w 23 5 i0 (.int .u8 0) Tryd.underlying23 hi hz0 .i64 .i64 16 16 (by decide) (by decide) (by rw [hz2]; decide) (by decide)
  rw [this, hz1]
  exact congrArg (fun c => Result.ok (Value.slice (some ⟨w.heap.size, 0, none⟩) 16 16) (w.alloc (.cells c 5))) (made16 : madeCells (Value.int .u8 0).cells (Int.toNat 16 * 1) = AB (List.replicate 16 0))
attribute [local go_sem] make16
def z16 : List UInt8 := List.replicate 16 0
def z12 : List UInt8 := List.replicate 12 0
def nilB : List UInt8 := sealB (expand z16) 10 (hOf z16) z12 [] []
theorem SlB.nil (w : World) : SlB w (.slice none 0 0) [] := ⟨none, 0, rfl, Nat.le_refl _, Nat.zero_le _, fun _ => rfl, fun _ h => by cases h⟩
set_option maxRecDepth 100000 in
theorem alloc_b16 (w : World) : (Instr.alloc 84 true (.tuple #[])).run Tryd.prog w = .ok (.pointer (some ⟨w.heap.size, 0, none⟩)) (w.alloc (.cells (AB (List.replicate 16 0)) 84)) := by kernel_rfl
theorem alF_b16 (ops : Array Oper) (dst : Option Tmp) (type : TypeId) (pos : String) (after : Array Edge) : AlF Tryd.prog ops { dst, op := .alloc 84, type, pos, after, guard := none } (.cells (AB (List.replicate 16 0)) 84) := by
  refine ⟨fun a => by simp [Region.wanted], fun ρ w => ?_⟩
  unfold execOp
  simp only [Sem.run_bind, alloc_b16, Result.andThen_ok]
  rfl
end Go.Proofs.YtcfbiafedfkbhaaDoor

namespace Go.Proofs.YtcfbiafedfkbhaaDoor
open Go.RowKit

def orB (a b : UInt8) : UInt8 := a ||| b
theorem bq_or8 (a b : UInt8) : bits .or .u8 (a.toNat : Int) (b.toNat : Int) = ((orB a b).toNat : Int) := by
  rw [u8_or_nat _ _ a.toNat_lt b.toNat_lt, orB, UInt8.toNat_or]
attribute [local go_sem] bq_or8
theorem or_zero (a b : UInt8) : orB a b = 0 ↔ a = 0 ∧ b = 0 := by
  rw [orB, ← UInt8.toNat_inj, ← UInt8.toNat_inj, ← UInt8.toNat_inj, UInt8.toNat_or]
  exact Nat.or_eq_zero_iff
theorem xr_zeq (a b : UInt8) : xr a b = 0 ↔ a = b := by rw [xr]; exact UInt8.xor_eq_zero_iff
def difB (x y : List UInt8) : Nat → UInt8
  | 0 => 0
  | k + 1 => orB (difB x y k) (xr (gb x k) (gb y k))
theorem difB_zero (x y : List UInt8) (k : Nat) : difB x y k = 0 ↔ ∀ i, i < k → gb x i = gb y i := by
  induction k with
  | zero => exact ⟨fun _ i hi => absurd hi (by omega), fun _ => rfl⟩
  | succ k ih =>
    rw [difB, or_zero, xr_zeq, ih]
    constructor
    · rintro ⟨h1, h2⟩ i hi
      by_cases e : i = k
      · subst e; exact h2
      · exact h1 i (by omega)
    · intro h
      exact ⟨fun i hi => h i (by omega), h k (by omega)⟩
theorem difB_eq (x y : List UInt8) (h : x.length = y.length) : (difB x y x.length = 0) ↔ x = y := by
  rw [difB_zero]
  exact ⟨fun e => gb_ext h fun i hi => e i (by omega), fun e i _ => by rw [e]⟩
set_option maxRecDepth 100000 in
set_option maxHeartbeats 2000000 in
theorem same_any (va vb : Value) (x y : List UInt8) (w : World) (ha : SlB w va x) (hb : SlB w vb y) (hxl : x.length = 16) (hyl : y.length = 16) :
    Calls Tryd.prog 48 #[va, vb] w fun e w' => e = .returned (.bool (decide (x = y))) ∧ Below w.heap.size w w' := by
  obtain ⟨b1, o1, p1, rfl, hc1, hm1, hb1, hx1⟩ := ha.addr (by omega)
  obtain ⟨b2, o2, p2, rfl, hc2, hm2, hb2, hx2⟩ := hb.addr (by omega)
  have hfin := difB_eq x y (by omega)
  rw [hxl] at hc1 hx1 hfin ⊢
  rw [hyl] at hc2 hx2 ⊢
  have HX1 := Lib.hid hx1
  have HX2 := Lib.hid hx2
  have HF := Lib.hid hfin
  clear ha hb hx1 hx2 hfin hxl hyl
  go_enter Tryd.func48, Tryd.ntmps48
  go_wp2_with fail
  go_loopg [5, 14] 16 (fun m dv iv wr => ∃ k : Nat, m + k = 16 ∧ iv = .int .i64 (k : Int) ∧ dv = B (difB x y k) ∧ Below w.heap.size w wr)
  case atStart => exact ⟨0, by omega, rfl, rfl, Below.refl _ _⟩
  case round =>
    obtain ⟨k, hk, rfl, rfl, hB⟩ := hrel
    by_cases hk16 : k < 16
    · have c1 : (k : Int) < 16 := by omega
      have x1 : wr.cell? ⟨b1, o1 + k, none⟩ = some (B (gb x k)) := (hB.cell hb1).trans (HX1.out k hk16)
      have x2 : wr.cell? ⟨b2, o2 + k, none⟩ = some (B (gb y k)) := (hB.cell hb2).trans (HX2.out k hk16)
      have hst : orB (difB x y k) (xr (gb x k) (gb y k)) = difB x y (k + 1) := rfl
      have HST := Lib.hid hst
      obtain ⟨d, hd⟩ : ∃ d, d = difB x y k := ⟨_, rfl⟩
      rw [← hd]
      rw [← hd] at HST
      clear hst hd
      go_wp2_with fail
      refine wp_region_qtail (fun w' => w' = _) 10 (by kernel_rfl) (by kernel_rfl) rfl ?_
      simp only [List.take_succ_cons, List.take_zero, List.drop_succ_cons, List.drop_zero]
      repeat (first | go_big_quiet_skip | (go_big_quiet_want; go_big_quiet_op; go_big_quiet_on))
      refine wpQuiet_nil ?_
      rintro _ rfl
      go_wp2_with fail
      go_roundg (gk - 1)
      case measure => omega
      case rel => exact ⟨k + 1, by omega, by go_num, by rw [← HST.out], hB.drew⟩
    · obtain rfl : k = 16 := by omega
      obtain ⟨d, hd⟩ : ∃ d, d = difB x y 16 := ⟨_, rfl⟩
      have hfin : ((d.toNat : Int) == 0) = decide (x = y) := by
        rw [Bool.eq_iff_iff, beq_iff_eq, decide_eq_true_eq, ← HF.out, ← hd, ← UInt8.toNat_inj]
        simp
      have HFI := Lib.hid hfin
      rw [← hd]
      clear hd hfin
      go_wp2_with fail
      rw [HFI.out]
      go_ret
      exact ⟨rfl, hB⟩
end Go.Proofs.YtcfbiafedfkbhaaDoor

namespace Go.Proofs.YtcfbiafedfkbhaaDoor
open Go.RowKit

theorem SlB.drop {w : World} {b o n cap : Nat} {l : List UInt8} (h : SlB w (.slice (some ⟨b, o, none⟩) n cap) l) (m : Nat) (hm : m ≤ n) : SlB w (.slice (some ⟨b, o + m, none⟩) (n - m) (cap - m)) (l.drop m) := by
  obtain ⟨a', cap', hv, h1, h2, h3, h4⟩ := h
  simp only [Value.slice.injEq] at hv
  obtain ⟨rfl, rfl, rfl⟩ := hv
  refine ⟨some ⟨b, o + m, none⟩, cap - m, by rw [List.length_drop], by rw [List.length_drop]; omega, by omega, (fun h => by cases h), fun ad had => ?_⟩
  obtain rfl := Option.some.inj had
  refine ⟨rfl, fun i hi => ?_⟩
  rw [List.length_drop] at hi
  have := (h4 _ rfl).2 (m + i) (by omega)
  simp only at this ⊢
  rw [Nat.add_assoc, this]
  simp [gb]
set_option maxRecDepth 100000 in
set_option maxHeartbeats 4000000 in
theorem gopen_any (p : Value) (K : List UInt8) (last : Nat) (h nonce : List UInt8) (vs vb : Value) (l bes : List UInt8) (w : World) (hb : BoxAt 87 109 84 w p K last h) (hn : nonce.length = 12)
    (hl : SlB w vs l) (hll : l.length ≤ 1000000) (h16 : 16 ≤ l.length) (hbs : SlB w vb bes) (hbl : bes.length ≤ 1000000) :
    Calls Tryd.prog 35 #[p, .agg (AB nonce), vs, vb] w fun e w' => (if tagF K last h nonce (l.take (l.length - 16)) bes = l.drop (l.length - 16) then ∃ v', e = .returned (.tuple #[v', .int .i64 0]) ∧ Buf 5 w' w.heap.size v' (turnF K last nonce (l.take (l.length - 16))) else e = .returned (.tuple #[.slice none 0 0, .int .i64 5])) ∧ Below w.heap.size w w' := by
  obtain ⟨xb, hxb⟩ : ∃ xb, p = .pointer (some ⟨xb, 0, none⟩) := let ⟨xb, _, h, _⟩ := hb; ⟨xb, h⟩
  subst hxb
  obtain ⟨sb, so, scap, rfl, hc1, hm1, hsb, _⟩ := hl.addr (by omega)
  obtain ⟨n, hnn⟩ : ∃ n, n = l.length - 16 := ⟨_, rfl⟩
  rw [← hnn]
  have hln : l.length = n + 16 := by omega
  have hct := hl.take n (by omega)
  have htt := hl.drop n (by omega)
  rw [hln] at htt
  rw [show n + 16 - n = 16 by omega] at htt
  have hcl : (l.take n).length = n := by simp; omega
  have htl : (l.drop n).length = 16 := by simp; omega
  obtain ⟨c, hc⟩ : ∃ c, c = l.take n := ⟨_, rfl⟩
  obtain ⟨tg, htg⟩ : ∃ t, t = l.drop n := ⟨_, rfl⟩
  rw [← hc] at hct hcl ⊢
  rw [← htg] at htt htl ⊢
  rw [hln] at hc1 ⊢
  have hnb : n ≤ 1000000 := by omega
  have HB := Lib.hid hb
  have HC := Lib.hid hct
  have HT := Lib.hid htt
  have HS := Lib.hid hbs
  have HCL := Lib.hid hcl
  have hn16 := (AB_size nonce).trans hn
  have zn : 0 + 12 ≤ (AB nonce).size := by rw [hn16]; decide
  have hsn := sub_all (AB nonce) 12 hn16
  have t0 : ((n + 16 : Nat) : Int) = (n : Int) + 16 := by omega
  have t1 : IntKind.i64.wrap ((n : Int) + 16 - 16) = (n : Int) := by rw [IntKind.wrap_i64]; omega
  have t2 : (n : Int) + 16 - 16 = (n : Int) := by omega
  have t3 : ¬ (n : Int) < 0 := by omega
  have t4 : (0 : Int) ≤ (n : Int) := by omega
  have t5 : (n : Int) ≤ (scap : Int) := by omega
  have t6 : (n : Int) ≤ (n : Int) + 16 := by omega
  clear hb hl hct htt hbs hc htg hln hcl hnn
  go_enter Tryd.func35, Tryd.ntmps35
  go_upto_region 6 with (fail)
  obtain ⟨w0, hw0⟩ : ∃ w0, w0 = w.alloc (.cells (AB nonce) 50) := ⟨_, rfl⟩
  rw [← hw0]
  have r5 : Row w0.drew w.heap.size 50 (AB nonce) := by rw [hw0]; exact Row.new w _ _
  have hB0 : Below w.heap.size w w0.drew := by rw [hw0]; exact ((Below.refl _ w).alloc (Nat.le_refl _) _).drew
  have hs0 : w0.drew.heap.size = w.heap.size + 1 := by rw [hw0]; simp
  clear hw0
  have hgl := tagF_len K last h nonce c bes
  obtain ⟨G, hG⟩ : ∃ G, G = tagF K last h nonce c bes := ⟨_, rfl⟩
  have htag : ∀ w', Below w0.drew.heap.size w0.drew w' → Calls Tryd.prog 47 #[.pointer (some ⟨xb, 0, none⟩), .agg (AB nonce), .slice (some ⟨sb, so, none⟩) n scap, vb] w' (fun e w'' => e = .returned (.agg (AB G)) ∧ Below w'.heap.size w' w'') := fun w' hb => by
    have hbw := hB0.trans (hb.mono hB0.size)
    rw [hG]
    exact tag_any _ K last h nonce _ _ c bes w' (HB.out.below hbw) hn (HC.out.below hbw) (by rw [HCL.out]; exact hnb) (HS.out.below hbw) hbl
  rw [← hG] at hgl
  have HG := Lib.hid hG
  have HTA := Lib.hid htag
  have hG16 := (AB_size G).trans hgl
  clear hG htag
  refine wp_region_allocs 8 [0, 1, 2, 3, 4, 5, 6] [7] (fun _ => .cells (AB (List.replicate 16 0)) 84) (by kernel_rfl) (by kernel_rfl) (by kernel_rfl) (by kernel_rfl) ?hal ?h
  case hal =>
    intro k hk o ho
    simp only [List.mem_cons, List.not_mem_nil, or_false] at hk
    subst hk
    cases ho
    exact alF_b16 _ _ _ _ _
  case h =>
    apply Exists.intro
    refine ⟨fun R => ?_, ?_⟩
    · simp only [List.map_cons, List.map_nil, List.getD_cons_zero, List.getD_cons_succ]
      repeat (first | go_big_quiet_skip | (go_big_quiet_want; go_big_quiet_op; first | go_big_quiet_on | (refine ⟨_, fun _ _ => rfl, ?_⟩; go_big_quiet_on)) | (go_big_quiet_want; apply qa_load1 _ _ rfl _ _ rfl; rotate_left 1; (focus (intro _; simp [go_sem]; done)); rotate_right 1; assumption; assumption; (simp only [Act.put, lS]; go_big_quiet_on)) | (go_big_quiet_want; apply qa_loadA _ _ rfl _ _ rfl (sz := 16); rotate_left 1; (focus (intro _; simp [go_sem]; done)); (focus (intro _; simp [go_sem]; done)); rotate_right 1; assumption; assumption; assumption; (simp only [Act.put, lS]; go_big_quiet_on)) | (go_big_quiet_want; apply qa_loadA _ _ rfl _ _ rfl (sz := 2); rotate_left 1; (focus (intro _; simp [go_sem]; done)); (focus (intro _; simp [go_sem]; done)); rotate_right 1; assumption; assumption; assumption; (simp only [Act.put, lS]; go_big_quiet_on)) | (go_big_quiet_want; apply qa_loadA _ _ rfl _ _ rfl (sz := 12); rotate_left 1; (focus (intro _; simp [go_sem]; done)); (focus (intro _; simp [go_sem]; done)); rotate_right 1; assumption; assumption; assumption; (simp only [Act.put, lS]; go_big_quiet_on)))
      (go_big_quiet_want; refine qa_call _ _ ?_ _ HTA.out ?_; (focus (intro w; simp [go_sem]; done)); (simp only [Act.put, lS]; go_big_quiet_on))
      exact wpQuiet_nil rfl
    · refine wpAl_cons rfl ?_
      intro g hg _
      intro w1 hcc
      have k11 : Row w1 g 84 (AB (List.replicate 16 0)) := .of_heap (hcc.2 g _ (upd_same _ _ _))
      have k5 := r5.below hcc.1 r5.lt
      have hB1 := hB0.trans (hcc.1.mono hB0.size)
      have ng : w.heap.size + 1 ≤ g := by omega
      have hz16 : (AB (List.replicate 16 0)).size = 16 := by rw [AB_size, List.length_replicate]
      clear hcc r5 hB0 hg hs0
      simp only [Act.put, List.setIfInBounds_toArray, ptr, List.drop_succ_cons, List.drop_zero]
      go_upto_region 7 with (fail)
      obtain ⟨w2, hw2⟩ : ∃ w2, w2 = w1.setRow g (AB G) := ⟨_, rfl⟩
      rw [← hw2]
      have j11 : Row w2 g 84 (AB G) := by rw [hw2]; exact k11.setRow _
      have j5 : Row w2 w.heap.size 50 (AB nonce) := by rw [hw2]; exact k5.setRowOther _ _ (by omega)
      have hB2 : Below w.heap.size w w2 := by rw [hw2]; exact bSetRow hB1 (by omega) _
      clear hw2 k11 k5 hB1
      refine wp_region_qtail (fun w' => w' = _) 4 (by kernel_rfl) (by kernel_rfl) rfl ?_
      simp only [List.take_succ_cons, List.take_zero, List.drop_succ_cons, List.drop_zero]
      repeat (first | go_big_quiet_skip | (go_big_quiet_want; go_big_quiet_op; go_big_quiet_on))
      refine wpQuiet_nil ?_
      rintro _ rfl
      go_wp2_with fail
      have hB2d := hB2.drew
      have l11 := j11.lt
      refine (same_any _ _ G tg w2.drew (SlB.of_row j11.drew hgl (by decide)) (HT.out.below hB2d) hgl htl).mono ?_
      rintro e w3 ⟨rfl, hb3⟩
      have i5 := j5.drew.below hb3 j5.lt
      have hB3 := hB2d.trans (hb3.mono hB2d.size)
      clear j11 j5 hB2 hB2d hb3 l11
      by_cases he : G = tg
      · rw [decide_eq_true he]
        have hif : tagF K last h nonce c bes = tg := by rw [← HG.out]; exact he
        have HIF := Lib.hid hif
        clear he hif
        go_upto_region 9 with (fail)
        have q5 := i5.drew
        have hB3d := hB3.drew
        refine wp_region_qtail (fun w' => w' = _) 5 (by kernel_rfl) (by kernel_rfl) rfl ?_
        simp only [List.take_succ_cons, List.take_zero, List.drop_succ_cons, List.drop_zero]
        repeat (first | go_big_quiet_skip | (go_big_quiet_want; go_big_quiet_op; go_big_quiet_on))
        refine wpQuiet_nil ?_
        rintro _ rfl
        go_wp2_with fail
        refine (turn_any _ K last h nonce _ c w3.drew (HB.out.below hB3d) hn (HC.out.below hB3d) (by rw [HCL.out]; exact hnb)).mono ?_
        rintro e w4 ⟨v', rfl, hbuf, hb4⟩
        have HBU := Lib.hid (hbuf.low (b' := w.heap.size) hB3d.size)
        have hB4 := hB3d.trans (hb4.mono hB3d.size)
        clear hbuf hb4
        go_wp2_with fail
        go_ret2
        exact ⟨⟨_, rfl, HBU.out⟩, hB4⟩
      · rw [decide_eq_false he]
        have hif : ¬ tagF K last h nonce c bes = tg := by rw [← HG.out]; exact he
        have HIF := Lib.hid hif
        clear he hif
        go_wp2_with fail
        go_ret2
        exact ⟨rfl, hB3⟩
end Go.Proofs.YtcfbiafedfkbhaaDoor
