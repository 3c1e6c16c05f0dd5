/- Part of the proof: HClone, HCur, HCurB. No conditions of its own. -/
import Derived.Below
import Derived.BigQuiet
import Derived.Deep.CutBlock
import Derived.Deep.DeepCutAuto
import Derived.Deep.Draws
import Derived.Deep.LoopGhost
import Derived.Deep.Quiet
import Derived.Deep.QuietTactic
import Derived.Deep.RegionLaw
import Derived.Laws.AppendOwn
import Derived.Laws.AppendOwnNone
import Derived.Laws.BytesArg
import Derived.Laws.Concat
import Derived.Laws.MakeOwn
import Derived.Lib.AppendZerosOnto
import Derived.Lib.Hide
import Derived.StillTail
import Derived.Test.YtnenoecmmelehaaProg
import Derived.WalkKit
import Derived.WalkLawsBesides
import Derived.WalkSpells
import Derived.Test.YtnenoecmmelehaaM05
import Derived.Great.BuildSlice
import Derived.Great.FillDense
import Derived.Lib.SlBytesConst
import Derived.Stop.BytesEq
import Derived.Test.YtnenoecmmelehaaM02
import Derived.Test.YtnenoecmmelehaaM12
namespace Go.Proofs.Ytnenoecmmelehaa
open Go.RowKit

theorem eql_nil_slice (w : World) (a : Option Addr) (n c : Nat) : (binOp .eql 27 (.slice a n c) (.slice none 0 0)).run Try.prog w = .ok (.bool a.isNone) w := by
  simp only [binOp]
  simp [Op.equal, Op.maxDepth, Lib.run_equalIn_slice_nil w 9999 27 5 a n c 0 0 Try.underlying27]
attribute [local go_sem] eql_nil_slice
set_option maxRecDepth 100000 in
set_option maxHeartbeats 1000000 in
theorem clone_any (v : Value) (l : List UInt8) (w : World) (hv : SlB w v l) (hl : l.length ≤ 140737488355328) : Calls Try.prog 32 #[v] w fun e w' => ∃ v', e = .returned v' ∧ Buf 5 w' w.heap.size v' l ∧ Below w.heap.size w w' := by
  have hv0 := hv
  obtain ⟨a, cap, rfl, h1, h2, h3, h4⟩ := hv
  cases a with
  | none =>
    obtain rfl : cap = 0 := h3 rfl
    have : l = [] := List.eq_nil_of_length_eq_zero (by omega)
    subst this
    go_enter Try.func32, Try.ntmps32
    go_wp2_with fail
    go_ret
    exact ⟨_, rfl, by simpa [Buf] using World.ownsRow_nil w w.heap.size 5 1, Below.refl _ w⟩
  | some ad =>
    have HV := Lib.hid hv0
    clear hv0 h4 h3
    have hB : Below w.heap.size w (w.alloc (.cells #[] 5)) := (Below.refl _ w).alloc (Nat.le_refl _) _
    have hS : SlB (w.alloc (.cells #[] 5)) (.slice (some ad) l.length cap) l := HV.out.below hB
    have HS := Lib.hid hS
    have HB := Lib.hid hB
    clear hS hB
    go_enter Try.func32, Try.ntmps32
    go_wp2_with (at_builtin; refine wpl_appendS rfl (.tmp 5) (.tmp 6) 27 rfl Try.underlying27 info_u8 w.heap.size _ [] rfl (Buf.empty _ _ _ rfl (Nat.le_refl _)) _ l rfl HS.out (by simpa using hl) (by simp) ?_)
    intro v' w' hb hg
    have hBw : Below w.heap.size w w' := HB.out.grown hg (by simp) (fun k e => by simp [Value.ownBlock] at e; omega)
    have Hb := Lib.hid (show Buf 5 w' w.heap.size v' l from hb)
    clear hb hg
    go_wp2_with fail
    go_ret
    exact ⟨_, rfl, Hb.out, hBw⟩
end Go.Proofs.Ytnenoecmmelehaa

namespace Go.Proofs.Ytnenoecmmelehaa
open Go.RowKit
set_option linter.unusedVariables false

def CurAt (w : World) (g n0 : Nat) (l : List UInt8) (bad : Bool) : Prop := ∃ v, Row w g 77 #[v, .bool bad] ∧ SlB w v l ∧ ∀ ad, addrV v = some ad → 0 < l.length → ad.block < n0
theorem SlB.keptX {w w' : World} {v : Value} {l : List UInt8} {g : Nat} (h : SlB w v l) (hg : w.grownBy w' (some g)) (hne : ∀ ad, addrV v = some ad → 0 < l.length → ad.block ≠ g) : SlB w' v l := by
  obtain ⟨a, cap, rfl, h1, h2, h3, h4⟩ := h
  refine ⟨a, cap, rfl, h1, h2, h3, fun ad had => ⟨(h4 ad had).1, fun i hi => ?_⟩⟩
  subst had
  exact hg.cell ((h4 ad rfl).2 i hi) (fun e => hne ad rfl (by omega) (Option.some.inj e))
theorem SlB.offCur {w : World} {v u : Value} {l : List UInt8} {g : Nat} {b : Bool} {t : TypeId} (h : SlB w v l) (hr : Row w g t #[u, .bool b]) (hu : isSliceV u = true) : ∀ ad, addrV v = some ad → 0 < l.length → ad.block ≠ g := by
  obtain ⟨a, cap, rfl, h1, h2, h3, h4⟩ := h
  intro ad had hl e
  have had : a = some ad := had
  have := (h4 ad had).2 0 hl
  rw [e, hr.cell] at this
  generalize ad.off + 0 = i at this
  match i, this with
  | 0, this => simp at this; rw [this] at hu; cases hu
  | 1, this => simp at this
  | i + 2, this => simp at this
theorem grownBy_set (w : World) (g i : Nat) (v : Value) : w.grownBy (w.setCell ⟨g, i, none⟩ v) (some g) :=
  ⟨rfl, rfl, rfl, by simp, fun k hk hne => heap_setCell_other w _ k v (fun e => hne (by rw [e]))⟩
theorem grownBy_trans {w w1 w2 : World} {r : Option Nat} (h : w.grownBy w1 r) (k : w1.grownBy w2 r) : w.grownBy w2 r :=
  ⟨k.os.trans h.os, k.tape.trans h.tape, k.output.trans h.output, Nat.le_trans h.size k.size, fun i hi hne => (k.block i (Nat.lt_of_lt_of_le hi h.size) hne).trans (h.block i hi hne)⟩
theorem grownBy_below {w w' : World} {r : Option Nat} (h : Below w.heap.size w w') : w.grownBy w' r := ⟨h.os, h.tape, h.output, h.size, fun k hk _ => h.block k hk⟩
theorem SlB.dropAt {w : World} {a : Option Addr} {c n : Nat} {l : List UInt8} (h : SlB w (.slice a l.length c) l) (hn : n ≤ l.length) : SlB w (.slice (a.map fun ad => ad.add n) (l.length - n) (c - n)) (l.drop n) := by
  obtain ⟨a', cap, e, h1, h2, h3, h4⟩ := h
  obtain ⟨rfl, _, rfl⟩ := Value.slice.inj e
  refine ⟨_, _, by rw [List.length_drop], by rw [List.length_drop]; omega, by omega, fun e => ?_, fun ad had => ?_⟩
  · cases a with
    | none => rw [h3 rfl]; omega
    | some ad => cases e
  · cases a with
    | none => cases had
    | some ad' =>
      obtain rfl := Option.some.inj had
      obtain ⟨b, o, s⟩ := ad'
      obtain ⟨hs, hc⟩ := h4 _ rfl
      obtain rfl : s = none := hs
      show ((⟨b, o, none⟩ : Addr).add n).spot = none ∧ _
      rw [show (fun ad : Addr => ad.add n) ⟨b, o, none⟩ = ⟨b, o + n, none⟩ from Addr.add_lit _ _ _, Addr.add_lit]
      refine ⟨rfl, fun i hi => ?_⟩
      rw [List.length_drop] at hi
      have := hc (n + i) (by omega)
      show w.cell? ⟨b, o + n + i, none⟩ = _
      rw [Nat.add_assoc, this]
      simp [gb]
theorem SlB.takeAt {w : World} {a : Option Addr} {c n : Nat} {l : List UInt8} (h : SlB w (.slice a l.length c) l) (hn : n ≤ l.length) : SlB w (.slice a n c) (l.take n) := by
  obtain ⟨a', cap, e, h1, h2, h3, h4⟩ := h
  obtain ⟨rfl, _, rfl⟩ := Value.slice.inj e
  have hl : (l.take n).length = n := by rw [List.length_take]; omega
  refine ⟨_, _, by rw [hl], by omega, h2, h3, fun ad had => ?_⟩
  obtain ⟨hs, hc⟩ := h4 ad had
  refine ⟨hs, fun i hi => ?_⟩
  rw [hl] at hi
  rw [hc i (by omega)]
  simp [gb, hi]
theorem take_tail (g n0 n : Nat) (l : List UInt8) (bad : Bool) (w : World) (a : Option Addr) (cap : Nat) (u : Value) (hl : l.length ≤ 1000000) (hge : n ≤ l.length) (hr : Row w g 77 #[.slice a l.length cap, .bool bad]) (hs : SlB w (.slice a l.length cap) l) (hoff : ∀ ad, addrV (.slice a l.length cap) = some ad → 0 < l.length → ad.block ≠ g)
    (hu : SlB w u (l.drop n)) (huo : ∀ ad, addrV u = some ad → 0 < (l.drop n).length → ad.block ≠ g) (hus : ∀ ad, addrV u = some ad → 0 < (l.drop n).length → ad.block < n0) :
    Calls Try.prog 32 #[.slice a n cap] (w.setCell ⟨g, 0, none⟩ u) fun e w' => ∃ v, e = .returned v ∧ Buf 5 w' w.heap.size v (takeV n l) ∧ CurAt w' g n0 (takeR n l) (bad || shortB n l) ∧ w.grownBy w' (some g) := by
  have hset := grownBy_set w g 0 u
  have e1 : (l.take n).length = n := by rw [List.length_take]; omega
  have hv : SlB (w.setCell ⟨g, 0, none⟩ u) (.slice a n cap) (l.take n) := (hs.keptX hset hoff).takeAt hge
  refine (clone_any _ (l.take n) _ hv (by omega)).mono ?_
  rintro e w' ⟨v, rfl, hb, hB⟩
  have hz : (w.setCell ⟨g, 0, none⟩ u).heap.size = w.heap.size := by simp
  rw [hz] at hb
  refine ⟨v, rfl, ?_, ⟨u, ?_, ?_, ?_⟩, grownBy_trans hset (grownBy_below hB)⟩
  · rw [show takeV n l = l.take n by unfold takeV; rw [if_neg (by omega)]]
    exact hb
  · rw [show shortB n l = false by unfold shortB; rw [decide_eq_false_iff_not]; omega, Bool.or_false]
    exact Row.below (hr.set 0 u) hB (by rw [hz]; exact hr.lt)
  · rw [show takeR n l = l.drop n by unfold takeR; rw [if_neg (by omega)]]
    exact (hu.keptX hset huo).below hB
  · rw [show takeR n l = l.drop n by unfold takeR; rw [if_neg (by omega)]]
    exact hus
set_option maxRecDepth 100000 in
set_option maxHeartbeats 2000000 in
theorem take_any (g n0 n : Nat) (l : List UInt8) (bad : Bool) (w : World) (h : CurAt w g n0 l bad) (hn : n ≤ 1000000) (hl : l.length ≤ 1000000) :
    Calls Try.prog 45 #[.pointer (some ⟨g, 0, none⟩), .int .i64 (n : Int)] w fun e w' => ∃ v, e = .returned v ∧ Buf 5 w' w.heap.size v (takeV n l) ∧ CurAt w' g n0 (takeR n l) (bad || shortB n l) ∧ w.grownBy w' (some g) := by
  obtain ⟨v, hr, hs, hn0⟩ := h
  have hs0 := hs
  obtain ⟨a, cap, rfl, h1, h2, h3, h4⟩ := hs
  have hoff := hs0.offCur hr rfl
  rcases Nat.lt_or_ge l.length n with hlt | hge
  · have x1 : (l.length : Int) < (n : Int) := by omega
    have HN0 := Lib.hid hn0
    have HS := Lib.hid hs0
    have HOFF := Lib.hid hoff
    have hmk := make_bytes
    clear hs0 h3 h4 hoff hn0
    go_enter Try.func45, Try.ntmps45
    go_wp2_with fail
    go_ret
    refine ⟨_, rfl, ?_, ⟨.slice a l.length cap, ?_, ?_, ?_⟩, ?_⟩
    · rw [show takeV n l = List.replicate n 0 by unfold takeV; rw [if_pos hlt]]
      exact Buf.mk' (cur := AB (List.replicate n 0)) (l := List.replicate n 0) (cap := n) (g := w.heap.size) (Row.newAt (w.setCell ⟨g, 1, none⟩ (.bool true)) _ _ _ (by simp)) (by unfold Pre AB; simp) (by simp) (by unfold maxLen; omega) (by rw [AB_size]; simp) (Nat.le_refl _) |> fun h => by rw [List.length_replicate] at h; exact h
    · rw [show shortB n l = true by unfold shortB; exact decide_eq_true hlt, Bool.or_true]
      exact (hr.set 1 (.bool true)).alloc _
    · rw [show takeR n l = l by unfold takeR; rw [if_pos hlt]]
      exact (HS.out.keptX (grownBy_set w g 1 _) HOFF.out).below ((Below.refl _ _).alloc (Nat.le_refl _) _)
    · rw [show takeR n l = l by unfold takeR; rw [if_pos hlt]]
      exact HN0.out
    · exact grownBy_trans (grownBy_set w g 1 _) (World.grownBy_alloc _ _ _)
  · have x1 : ¬ (l.length : Int) < (n : Int) := by omega
    have HN0 := Lib.hid hn0
    have HS := Lib.hid hs0
    have HOFF := Lib.hid hoff
    have HTAIL := Lib.hid (fun u hu huo hus => take_tail g n0 n l bad w a cap u hl hge hr hs0 hoff hu huo hus)
    clear hs0 h3 h4 hoff hn0
    by_cases hc : cap = n
    · subst hc
      go_enter Try.func45, Try.ntmps45
      go_wp2_with fail
      refine (HTAIL.out _ ?_ ?_ ?_).mono ?_
      · obtain ⟨a', c', e, _, _, h3, h4⟩ := HS.out
        obtain ⟨rfl, _, rfl⟩ := Value.slice.inj e
        exact ⟨_, _, by rw [List.length_drop, show l.length - cap = 0 by omega], by rw [List.length_drop]; omega, Nat.zero_le _, fun _ => rfl, fun ad had => ⟨(h4 ad had).1, fun i hi => by rw [List.length_drop] at hi; omega⟩⟩
      · intro ad had hl0
        rw [List.length_drop] at hl0
        omega
      · intro ad had hl0
        rw [List.length_drop] at hl0
        omega
      · rintro e w1 ⟨v, rfl, k1, k2, k3⟩
        have K1 := Lib.hid k1
        have K2 := Lib.hid k2
        have K3 := Lib.hid k3
        clear k1 k2 k3
        go_wp2_with fail
        go_ret
        exact ⟨_, rfl, K1.out, K2.out, K3.out⟩
    · go_enter Try.func45, Try.ntmps45
      go_wp2_with fail
      refine (HTAIL.out _ (HS.out.dropAt hge) ?_ ?_).mono ?_
      · intro ad had hl0
        rw [List.length_drop] at hl0
        cases a with
        | none => cases had
        | some ad' =>
          obtain rfl := Option.some.inj had
          have := HOFF.out ad' rfl (by omega)
          rw [show (ad'.add n).block = ad'.block by unfold Addr.add; split <;> rfl]
          exact this
      · intro ad had hl0
        rw [List.length_drop] at hl0
        cases a with
        | none => cases had
        | some ad' =>
          obtain rfl := Option.some.inj had
          have := HN0.out ad' rfl (by omega)
          rw [show (ad'.add n).block = ad'.block by unfold Addr.add; split <;> rfl]
          exact this
      · rintro e w1 ⟨v, rfl, k1, k2, k3⟩
        have K1 := Lib.hid k1
        have K2 := Lib.hid k2
        have K3 := Lib.hid k3
        clear k1 k2 k3
        go_wp2_with fail
        go_ret
        exact ⟨_, rfl, K1.out, K2.out, K3.out⟩
end Go.Proofs.Ytnenoecmmelehaa

namespace Go.Proofs.Ytnenoecmmelehaa
open Go.RowKit
set_option linter.unusedVariables false

theorem toNat_i64 (n : Nat) (h : n < 18446744073709551616) : (BitVec.ofInt 64 (n : Int)).toNat = n := by
  rw [BitVec.toNat_ofInt]; omega
theorem or_low (n x : Nat) (hn : n < 16777216) (hx : x < 256) : bits .or .i64 ((n * 256 : Nat) : Int) (x : Int) = ((n * 256 + x : Nat) : Int) := by
  show IntKind.i64.wrap ((BitVec.ofInt 64 ((n * 256 : Nat) : Int) ||| BitVec.ofInt 64 (x : Int)).toNat : Int) = _
  rw [BitVec.toNat_or, toNat_i64 _ (by omega), toNat_i64 x (by omega)]
  have e : n * 256 ||| x = n * 256 + x := by
    have := Nat.shiftLeft_add_eq_or_of_lt (a := n) (b := x) (i := 8) hx
    rw [Nat.shiftLeft_eq] at this
    exact this.symm
  rw [e]
  rw [IntKind.wrap_i64]; omega
theorem valP_take (l : List UInt8) (k : Nat) (h : k < l.length) : valP (l.take (k + 1)) = valP (l.take k) * 256 + (gb l k).toNat := by
  unfold valP
  rw [List.take_succ_eq_append_getElem h, List.foldl_append]
  simp [gb, h]
set_option maxRecDepth 100000 in
set_option maxHeartbeats 2000000 in
theorem cnum_any (g n0 s : Nat) (l : List UInt8) (bad : Bool) (w : World) (h : CurAt w g n0 l bad) (hs : s ≤ 4) (hl : l.length ≤ 1000000) :
    Calls Try.prog 48 #[.pointer (some ⟨g, 0, none⟩), .int .i64 (s : Int)] w fun e w' => e = .returned (.int .i64 (valP (takeV s l) : Int)) ∧ CurAt w' g n0 (takeR s l) (bad || shortB s l) ∧ w.grownBy w' (some g) := by
  have HT := Lib.hid (take_any g n0 s l bad w h (by omega) hl)
  clear h
  go_enter Try.func48, Try.ntmps48
  go_wp2_with fail
  refine HT.out.mono ?_
  rintro e w1 ⟨v, rfl, hb, hc, hg⟩
  have htl := takeV_len s l
  obtain ⟨t, ht⟩ : ∃ t, t = takeV s l := ⟨_, rfl⟩
  rw [← ht] at hb htl
  have HC := Lib.hid hc
  have HG := Lib.hid hg
  obtain ⟨a, cap, rfl, k1, k2, k3, k4⟩ := hb.slb
  rw [htl] at k1 k4 ⊢
  have K4 := Lib.hid k4
  have HTT := Lib.hid ht
  have HC0 := Lib.hid (fun (e : a = none) => show s = 0 by have := k3 e; omega)
  clear ht hc hg hb k3 k4 k1 k2
  go_wp2_with fail
  go_loopg [5, 7, 12] s (fun g nv xv iv wr => ∃ k : Nat, g + k = s ∧ nv = .int .i64 (valP (t.take k) : Int) ∧ iv = .int .i64 (k : Int) ∧ wr = w1)
  case atStart => exact ⟨0, by omega, rfl, rfl, rfl⟩
  case round =>
    obtain ⟨k, hk, rfl, rfl, rfl⟩ := hrel
    by_cases h : k < s
    · have hvl := valP_lt (t.take k)
      rw [List.length_take, htl, Nat.min_eq_left (by omega)] at hvl
      have hv : valP (t.take k) < 16777216 := Nat.lt_of_lt_of_le hvl (Nat.le_trans (Nat.pow_le_pow_right (by decide) (show k ≤ 3 by omega)) (by decide))
      have hstep := valP_take t k (by omega)
      obtain ⟨m, hm⟩ : ∃ m, m = valP (t.take k) := ⟨_, rfl⟩
      rw [← hm] at hv hstep ⊢
      have hor := or_low m (gb t k).toNat hv (gb_lt t k)
      rw [← hstep] at hor
      obtain ⟨x, hx⟩ : ∃ x, x = gb t k := ⟨_, rfl⟩
      rw [← hx] at hor
      obtain ⟨ad, had⟩ : ∃ ad, a = some ad := by
        cases a with
        | none => exact absurd (HC0.out rfl) (by omega)
        | some ad => exact ⟨ad, rfl⟩
      subst had
      obtain ⟨hsp, hcell⟩ := K4.out ad rfl
      obtain ⟨b, o, sp⟩ := ad
      obtain rfl : sp = none := hsp
      have hc := hcell k h
      rw [← hx] at hc
      have x0 : (0 : Int) ≤ (k : Int) := by omega
      have x1 : (k : Int) < (s : Int) := by omega
      have x3 : ((k : Int)).toNat = k := by omega
      have y0 : (0 : Int) ≤ (m : Int) := by omega
      have y1 : (m : Int) < 16777216 := by omega
      have y2 : ((x.toNat : Nat) : Int) < 256 := by have := x.toNat_lt; omega
      have y3 : (0 : Int) ≤ ((x.toNat : Nat) : Int) := by omega
      have HST := Lib.hid hstep
      have hor2 : bits .or .i64 ((m : Int) * 256) ((x.toNat : Nat) : Int) = ((valP (t.take (k + 1)) : Nat) : Int) := by rw [← hor]; congr 1
      obtain ⟨m2, hm2⟩ : ∃ m2, m2 = valP (t.take (k + 1)) := ⟨_, rfl⟩
      rw [← hm2] at hor2
      have HM2 := Lib.hid hm2
      clear hm hvl hcell hx hstep hor hm2
      go_wp2_with fail
      go_roundg (gk - 1)
      case measure => omega
      case rel => exact ⟨k + 1, by omega, by rw [HM2.out], by go_num, rfl⟩
    · obtain rfl : k = s := by omega
      have x1 : ¬ (k : Int) < (k : Int) := by omega
      rw [List.take_of_length_le (by omega)]
      generalize hm : valP t = m
      have HM := Lib.hid hm
      clear hm
      go_wp2_with fail
      go_ret
      exact ⟨by rw [← HM.out, HTT.out]; rfl, HC.out, HG.out⟩
theorem grownBy_setR (w : World) (g : Nat) (cs : Array Value) : w.grownBy (w.setRow g cs) (some g) := by
  have h := bSetRow (Below.refl 0 w) (Nat.zero_le g) cs
  exact ⟨h.os, h.tape, h.output, h.size, fun k _ hne => setRow_other w g k cs (fun e => hne (by rw [e]))⟩
theorem grownBy_trans' {w w1 w2 : World} {r : Option Nat} (h : w.grownBy w1 r) (k : Below w.heap.size w1 w2) : w.grownBy w2 r :=
  ⟨k.os.trans h.os, k.tape.trans h.tape, k.output.trans h.output, Nat.le_trans h.size k.size, fun i hi hne => (k.block i hi).trans (h.block i hi hne)⟩
theorem gen_wpC {f : FuncId} {args : Array Value} {R : Ending → World → Prop} {w : World} (S : World → Prop) (h : S w) (k : ∀ w, S w → Calls Try.prog f args w R) : Calls Try.prog f args w R := k w h
theorem CurAt.lt {w : World} {g n0 : Nat} {l : List UInt8} {bad : Bool} (h : CurAt w g n0 l bad) : g < w.heap.size := let ⟨_, hr, _⟩ := h; hr.lt
theorem cvV_eq (s m : Nat) (l : List UInt8) : (m < valP (takeV s l) → cvV s m l = [] ∧ cvR s m l = takeR s l ∧ cvB s m l = true) ∧ (valP (takeV s l) ≤ m → cvV s m l = takeV (valP (takeV s l)) (takeR s l) ∧ cvR s m l = takeR (valP (takeV s l)) (takeR s l) ∧ cvB s m l = (shortB s l || shortB (valP (takeV s l)) (takeR s l))) := by
  unfold cvV cvR cvB
  refine ⟨fun h => ?_, fun h => ?_⟩
  · simp [h]
  · simp [Nat.not_lt.2 h]
set_option maxRecDepth 100000 in
set_option maxHeartbeats 2000000 in
theorem cvec_any (g n0 s m : Nat) (l : List UInt8) (bad : Bool) (w : World) (h : CurAt w g n0 l bad) (hs : s ≤ 4) (hm : m ≤ 1000000) (hl : l.length ≤ 1000000) :
    Calls Try.prog 47 #[.pointer (some ⟨g, 0, none⟩), .int .i64 (s : Int), .int .i64 (m : Int)] w fun e w' => ∃ v, e = .returned v ∧ Buf 5 w' w.heap.size v (cvV s m l) ∧ CurAt w' g n0 (cvR s m l) (bad || cvB s m l) ∧ w.grownBy w' (some g) := by
  have HT := Lib.hid (cnum_any g n0 s l bad w h hs hl)
  have hlr := takeR_len s l
  obtain ⟨E1, E2⟩ := cvV_eq s m l
  have E1 := Lib.hid E1
  have E2 := Lib.hid E2
  clear h
  obtain ⟨n, hn⟩ : ∃ n, n = valP (takeV s l) := ⟨_, rfl⟩
  rw [← hn] at HT E1 E2
  clear hn
  go_enter Try.func47, Try.ntmps47
  by_cases c : m < n
  · have x1 : (m : Int) < (n : Int) := by omega
    obtain ⟨e1, e2, e3⟩ := E1.out c
    rw [e1, e2, e3]
    clear e1 e2 e3 E1 E2 c
    go_wp2_with fail
    refine HT.out.mono ?_
    rintro e w1 ⟨rfl, hc, hg⟩
    obtain ⟨v, hr, hsl, hn0⟩ := hc
    have HN0 := Lib.hid hn0
    have hof := hsl.offCur hr hsl.shape
    have HSL := Lib.hid hsl
    have HOF := Lib.hid hof
    have HG := Lib.hid hg
    clear hsl hof hg HT hn0
    go_wp2_with fail
    go_ret
    refine ⟨_, rfl, by simpa [Buf] using World.ownsRow_nil _ w.heap.size 5 1, ⟨v, ?_, HSL.out.keptX (grownBy_set w1 g 1 _) HOF.out, HN0.out⟩, grownBy_trans HG.out (grownBy_set w1 g 1 _)⟩
    rw [Bool.or_true]
    exact hr.set 1 (.bool true)
  · have x1 : ¬ (m : Int) < (n : Int) := by omega
    obtain ⟨e1, e2, e3⟩ := E2.out (by omega)
    rw [e1, e2, e3]
    clear e1 e2 e3 E1 E2
    go_wp2_with fail
    refine HT.out.mono ?_
    rintro e w1 ⟨rfl, hc, hg⟩
    have HT2 := Lib.hid (take_any g n0 n (takeR s l) (bad || shortB s l) w1 hc (by omega) (by omega))
    have HG := Lib.hid hg
    clear HT hc hg
    go_wp2_with fail
    refine HT2.out.mono ?_
    rintro e w2 ⟨v, rfl, hb, hc, hg⟩
    have HB := Lib.hid (Buf.low hb HG.out.size)
    have HC := Lib.hid hc
    have HG2 := Lib.hid (grownBy_trans HG.out hg)
    clear hb hc hg HT2
    go_wp2_with fail
    go_ret
    exact ⟨_, rfl, HB.out, by rw [← Bool.or_assoc]; exact HC.out, HG2.out⟩
set_option maxRecDepth 100000 in
set_option maxHeartbeats 2000000 in
theorem cword_any (g n0 : Nat) (l : List UInt8) (bad : Bool) (w : World) (h : CurAt w g n0 l bad) (hn0 : n0 ≤ w.heap.size) (hl : l.length ≤ 1000000) :
    Calls Try.prog 46 #[.pointer (some ⟨g, 0, none⟩)] w fun e w' => e = .returned (.agg (AB (takeV 32 l))) ∧ CurAt w' g n0 (takeR 32 l) (bad || shortB 32 l) ∧ w.grownBy w' (some g) := by
  have HT := Lib.hid (fun w (h : CurAt w g n0 l bad) => take_any g n0 32 l bad w h (by omega) hl)
  go_enter Try.func46, Try.ntmps46
  go_wp2_with fail
  refine gen_wpC (fun w0 => CurAt w0 g n0 l bad ∧ Row w0 w.heap.size 22 (AB zero32) ∧ w.grownBy w0 (some g) ∧ w.heap.size + 1 = w0.heap.size) ⟨?_, ?_, World.grownBy_alloc _ _ _, by simp⟩ ?_
  · obtain ⟨v, hr, hsl, hn0⟩ := h
    exact ⟨v, hr.alloc _, hsl.below ((Below.refl _ _).alloc (Nat.le_refl _) _), hn0⟩
  · rw [← zero32_lit]; exact Row.new _ _ _
  rintro w0 ⟨hc0, hr0, hg0, hs0⟩
  refine (HT.out w0 hc0).mono ?_
  rintro e w1 ⟨v, rfl, hb, hc, hg⟩
  have hlt := h.lt
  have hr1 : Row w1 w.heap.size 22 (AB zero32) := (row_congr (hg.block _ (by omega) (fun e => by have := Option.some.inj e; omega))).trans hr0
  have htl := takeV_len 32 l
  obtain ⟨b, cap, cur, rfl, hbb, hrb, h1, h2, h3, hpre⟩ := hb.open (by omega)
  have hsub := hpre.sub 0 32 (by omega)
  rw [List.drop_zero, List.take_of_length_le (by omega)] at hsub
  rw [htl] at h1 ⊢
  obtain ⟨X, hX⟩ : ∃ X, X = takeV 32 l := ⟨_, rfl⟩
  rw [← hX] at hsub htl
  have HX := Lib.hid hX
  have HC := Lib.hid hc
  have HG := Lib.hid (grownBy_trans hg0 hg)
  have HL := Lib.hid htl
  have hsz := (AB_size X).trans htl
  have hz0 : (AB zero32).size = 32 := rfl
  have hcap : 0 + 32 ≤ cur.size := by omega
  have hne : w.heap.size ≠ b := by omega
  clear HT hc hg hg0 hb hpre hX hr0 hs0 hc0 htl
  go_wp2_with fail
  rw [HX.out] at *
  have hgl := h.lt
  have hlt := hr1.lt
  refine ret_row (.inl rfl) rfl w.heap.size _ _ 32 _ rfl (hr1.setRow _) Try.underlying22 rfl (by kernel_rfl) hsz ⟨rfl, ?_, grownBy_trans' HG.out (by
    have := bSetRow (Below.refl w.heap.size w1) (Nat.le_refl _) (AB (takeV 32 l))
    exact this)⟩
  obtain ⟨v, hr, hsl, hn0'⟩ := HC.out
  refine ⟨v, hr.setRowOther _ _ (by omega), hsl.keptX (grownBy_setR _ _ _) (fun ad had hp => ?_), hn0'⟩
  have := hn0' ad had hp
  omega
end Go.Proofs.Ytnenoecmmelehaa
