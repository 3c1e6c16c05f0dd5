/- Part of the proof: Turn. No conditions of its own. -/
import Derived.Below
import Derived.BigQuiet
import Derived.BigRegion
import Derived.ChangeOld
import Derived.Deep.CutBlock
import Derived.Deep.DeepCutAuto
import Derived.Deep.Draws
import Derived.Deep.LoopGhost
import Derived.Deep.Quiet
import Derived.Deep.QuietTactic
import Derived.Deep.RegionLaw
import Derived.Laws.AppendOwnNone
import Derived.Laws.Bits64
import Derived.Laws.BitsAllLaws
import Derived.Laws.BytesArg
import Derived.Laws.CopyOwn
import Derived.Lib.Hide
import Derived.LoopIn
import Derived.LoopNIn
import Derived.OpenShut
import Derived.OrdersIn
import Derived.OwnWalkIn
import Derived.ProofKit
import Derived.RangeFuncBound
import Derived.RangeFuncBox
import Derived.RangeFuncCalls
import Derived.RangeFuncLeaves
import Derived.RangeFuncNested
import Derived.Shelf.Abstract
import Derived.ShutString
import Derived.StillTail
import Derived.TacticsIn
import Derived.TacticsInMore
import Derived.Test.YtcfbiafedfkbhaaDoorProg
import Derived.WalkKit
import Derived.WalkSpells
import Derived.Test.YtcfbiafedfkbhaaDoorO15
import Derived.Test.YtcfbiafedfkbhaaDoorO16
import Derived.Test.YtcfbiafedfkbhaaDoorO18
namespace Go.Proofs.YtcfbiafedfkbhaaDoor
open Go.RowKit Go.Shelf
attribute [local go_sem] Oper.semAt_some

def xorAt (l : List UInt8) (off m : Nat) (p : List UInt8) : List UInt8 := tab l.length fun j => if off ≤ j ∧ j < off + m then xr (gb l j) (gb p (j - off)) else gb l j
theorem xorAt_len (l : List UInt8) (off m : Nat) (p : List UInt8) : (xorAt l off m p).length = l.length := tab_length _ _
theorem xorAt_zero (l : List UInt8) (off : Nat) (p : List UInt8) : xorAt l off 0 p = l := by
  unfold xorAt
  rw [show (fun j => if off ≤ j ∧ j < off + 0 then xr (gb l j) (gb p (j - off)) else gb l j) = gb l from funext fun j => if_neg (by omega)]
  exact tab_gb rfl
theorem xorAt_step (l : List UInt8) (off i : Nat) (p : List UInt8) : (xorAt l off i p).set (off + i) (xr (gb l (off + i)) (gb p i)) = xorAt l off (i + 1) p := by
  unfold xorAt
  rw [tab_set]
  apply tab_congr
  intro j hj
  by_cases h1 : j = off + i
  · subst h1
    rw [if_pos rfl, if_pos (by omega), Nat.add_sub_cancel_left]
  · rw [if_neg h1]
    by_cases h2 : off ≤ j ∧ j < off + i
    · rw [if_pos h2, if_pos (by omega)]
    · rw [if_neg h2, if_neg (by omega)]
theorem xorAt_here (l : List UInt8) (off i : Nat) (p : List UInt8) (h : off + i < l.length) : gb (xorAt l off i p) (off + i) = gb l (off + i) := by
  unfold xorAt
  rw [gb_tab _ h, if_neg (by omega)]
def padB (W : List UInt8) (last : Nat) (nonce : List UInt8) (n : Nat) : List UInt8 := sealN W last (ctrB nonce n) last
def turnS (W : List UInt8) (last : Nat) (nonce : List UInt8) (s : List UInt8 × Nat) (x : Nat) : List UInt8 × Nat := (xorAt s.1 (16 * x) (min 16 (s.1.length - 16 * x)) (padB W last nonce s.2), s.2 + 1)
def turnK (W : List UInt8) (last : Nat) (nonce l : List UInt8) (pre : List Nat) : List UInt8 × Nat := pre.foldl (turnS W last nonce) (l, 2)
theorem turnK_snoc (W : List UInt8) (last : Nat) (nonce l : List UInt8) (pre : List Nat) (x : Nat) : turnK W last nonce l (pre ++ [x]) = turnS W last nonce (turnK W last nonce l pre) x := by simp [turnK]
theorem turnK_inv (W : List UInt8) (last : Nat) (nonce l : List UInt8) (pre : List Nat) : (turnK W last nonce l pre).1.length = l.length ∧ (turnK W last nonce l pre).2 = 2 + pre.length := by
  suffices h : ∀ (pre : List Nat) (s : List UInt8 × Nat), (pre.foldl (turnS W last nonce) s).1.length = s.1.length ∧ (pre.foldl (turnS W last nonce) s).2 = s.2 + pre.length from h pre (l, 2)
  intro pre
  induction pre with
  | nil => intro s; exact ⟨rfl, rfl⟩
  | cons x pre ih =>
    intro s
    obtain ⟨h1, h2⟩ := ih (turnS W last nonce s x)
    simp only [List.foldl_cons, List.length_cons]
    refine ⟨h1.trans (xorAt_len _ _ _ _), h2.trans ?_⟩
    show s.2 + 1 + pre.length = s.2 + (pre.length + 1)
    omega
def turnF (W : List UInt8) (last : Nat) (nonce l : List UInt8) : List UInt8 := (turnK W last nonce l (List.range (nCh l.length))).1
theorem turnF_len (W : List UInt8) (last : Nat) (nonce l : List UInt8) : (turnF W last nonce l).length = l.length := (turnK_inv W last nonce l _).1
theorem Buf.keptO {e : TypeId} {A B : World} {base : Nat} {v : Value} {l : List UInt8} {row : Option Nat} (h : Buf e A base v l) (hg : A.grownBy B row) (hr : ∀ r, row = some r → ∃ o : Obj, A.heap[r]? = some o ∧ o.isCells = false) : Buf e B base v l := by
  refine h.kept hg ?_
  rcases h.2 with ⟨hv, _⟩ | ⟨g, cap, cur, hv, _, hh, _⟩
  · exact .inl (by rw [hv]; rfl)
  · right
    rw [hv]
    intro e1
    obtain ⟨o, ho, hc⟩ := hr g e1.symm
    rw [hh] at ho
    cases ho
    cases hc

theorem Buf.low {e : TypeId} {w : World} {b b' : Nat} {v : Value} {l : List UInt8} (h : Buf e w b v l) (hb : b' ≤ b) : Buf e w b' v l :=
  ⟨h.1, h.2.imp id fun ⟨g, cap, cur, hv, hg, hh, h1⟩ => ⟨g, cap, cur, hv, Nat.le_trans hb hg, hh, h1⟩⟩
theorem Buf.rowsKept {e : TypeId} {A B : World} {base : Nat} {v : Value} {l : List UInt8} (h : Buf e A base v l) (hr : RowsKept A B) : Buf e B base v l :=
  ⟨h.1, h.2.imp id fun ⟨g, cap, cur, hv, hg, hh, h1⟩ => ⟨g, cap, cur, hv, hg, (hr _ _ _ (Row.of_heap hh)).heap, h1⟩⟩

set_option maxRecDepth 100000 in
set_option maxHeartbeats 4000000 in
theorem turn_any (p : Value) (K : List UInt8) (last : Nat) (h nonce : List UInt8) (v : Value) (l : List UInt8) (w : World) (hb : BoxAt 87 109 84 w p K last h) (hn : nonce.length = 12) (hv : SlB w v l) (hl : l.length ≤ 1000000) :
    Calls Tryd.prog 46 #[p, .agg (AB nonce), v] w fun e w' => ∃ v', e = .returned v' ∧ Buf 5 w' w.heap.size v' (turnF K last nonce l) ∧ Below w.heap.size w w' := by
  obtain ⟨xb, hxb⟩ : ∃ xb, p = .pointer (some ⟨xb, 0, none⟩) := let ⟨xb, _, h, _⟩ := hb; ⟨xb, h⟩
  subst hxb
  obtain ⟨va, vc, hvv⟩ : ∃ a c, v = .slice a l.length c := let ⟨a, c, h, _⟩ := hv; ⟨a, c, h⟩
  subst hvv
  refine (callsIn_wide (n := 4)).1 (callsIn_of_wp_marks Tryd.func46 rfl trivial ?_ rfl)
  simp only [Tryd.ntmps46, List.size_toArray, List.length_cons, List.length_nil, Nat.reduceAdd, Nat.reduceSub, Array.replicate_succ, Array.replicate_zero, List.push_toArray, List.append_toArray, List.nil_append, List.cons_append]
  refine wpIn_wide.2 ?_
  have HB := Lib.hid hb
  have HV := Lib.hid hv
  clear hb hv
  go_wp2_with fail
  obtain ⟨w0, hw0⟩ : ∃ w0, w0 = (w.alloc (.cells #[.pointer (some ⟨xb, 0, none⟩)] 64)).alloc (.cells (AB nonce) 50) := ⟨_, rfl⟩
  rw [← hw0]
  have s3 : Row w0 w.heap.size 64 #[.pointer (some ⟨xb, 0, none⟩)] := by rw [hw0]; exact (Row.new _ _ _).alloc _
  have s4 : Row w0 (w.heap.size + 1) 50 (AB nonce) := by rw [hw0]; exact Row.newAt _ _ _ _ (by simp)
  have hB0 : Below w.heap.size w w0 := by rw [hw0]; exact ((Below.refl _ w).alloc (Nat.le_refl _) _).alloc (by simp) _
  have hz0 : w0.heap.size = w.heap.size + 2 := by rw [hw0]; simp
  clear hw0
  refine (clone_any _ l _ (HV.out.below hB0) (by omega)).mono ?_
  rintro e w1 ⟨v', rfl, hbuf, hb1⟩
  have r3 := s3.below hb1 s3.lt
  have r4 := s4.below hb1 s4.lt
  have hB1 := hB0.trans (hb1.mono hB0.size)
  have hz1 := hb1.size
  rw [hz0] at hbuf
  obtain ⟨oa, oc, hov⟩ : ∃ a c, v' = .slice a l.length c := let ⟨a, c, h, _⟩ := hbuf.slb; ⟨a, c, h⟩
  subst hov
  obtain ⟨t8, ht8⟩ : ∃ t8, t8 = w1.heap.size := ⟨_, rfl⟩
  have l4 : w.heap.size + 1 < w1.heap.size := by omega
  have HBUF := Lib.hid hbuf
  clear hbuf hb1 hz1 hz0 s3 s4 hB0
  go_upto_region 3 with (fail)
  obtain ⟨w2, hw2⟩ : ∃ w2, w2 = w1.alloc (.cells #[.int .u32 2] 114) := ⟨_, rfl⟩
  rw [← hw2, ← ht8]
  have q3 : Row w2 w.heap.size 64 #[.pointer (some ⟨xb, 0, none⟩)] := by rw [hw2]; exact r3.alloc _
  have q4 : Row w2 (w.heap.size + 1) 50 (AB nonce) := by rw [hw2]; exact r4.alloc _
  have q8 : Row w2 t8 114 #[.int .u32 ((2 : Nat) : Int)] := by rw [hw2, ht8]; exact Row.new _ _ _
  have hB2 : Below w.heap.size w w2 := by rw [hw2]; exact hB1.alloc (by omega) _
  have hbuf2 : Buf 5 w2 (w.heap.size + 2) (.slice oa l.length oc) l := by
    rw [hw2]
    exact HBUF.out.alloc _
  have ht : w.heap.size + 1 < t8 := by omega
  clear hw2 ht8 r3 r4 hB1 l4 HBUF
  have l8 := q8.lt
  go_wp2_with fail
  refine (chunk_any _ _ _ _).mono ?_
  rintro e w' ⟨rfl, rfl⟩
  go_wp2_with fail
  obtain ⟨w3, hw3⟩ : ∃ w3, w3 = ((w2.alloc (.cells #[.slice oa l.length oc] 23)).alloc (.cells #[.int .i64 16] 3)) := ⟨_, rfl⟩
  obtain ⟨Bs, hBs⟩ : ∃ Bs, Bs = w2.heap.size := ⟨_, rfl⟩
  rw [← hw3, ← hBs]
  have hs3 : w3.heap.size = Bs + 2 := by rw [hw3, hBs]; simp
  have b1 : Row w3 Bs 23 #[.slice oa l.length oc] := by rw [hw3, hBs]; exact (Row.new _ _ _).alloc _
  have b2 : Row w3 (Bs + 1) 3 #[.int .i64 16] := by rw [hw3, hBs]; exact Row.newAt _ _ _ _ (by simp)
  have k3 : Row w3 w.heap.size 64 #[.pointer (some ⟨xb, 0, none⟩)] := by rw [hw3]; exact (q3.alloc _).alloc _
  have k4 : Row w3 (w.heap.size + 1) 50 (AB nonce) := by rw [hw3]; exact (q4.alloc _).alloc _
  have k8 : Row w3 t8 114 #[.int .u32 ((2 : Nat) : Int)] := by rw [hw3]; exact (q8.alloc _).alloc _
  have hB3 : Below w.heap.size w w3 := by rw [hw3]; exact (hB2.alloc hB2.size _).alloc (by have := hB2.size; simp; omega) _
  have hbuf3 : Buf 5 w3 (w.heap.size + 2) (.slice oa l.length oc) l := by rw [hw3]; exact (hbuf2.alloc _).alloc _
  have l8' : t8 < Bs := by omega
  have hocm : l.length ≤ oc ∧ oc ≤ maxLen := by
    obtain ⟨_, _, e1, e2, e3, _⟩ := hbuf2.slb
    simp only [Value.slice.injEq] at e1
    omega
  obtain ⟨g, hga⟩ : ∃ g, 0 < l.length → oa = some ⟨g, 0, none⟩ ∧ g < Bs := by
    by_cases h0 : 0 < l.length
    · obtain ⟨g, cap, cur, e1, _, hrw, _⟩ := hbuf2.open h0
      have hrl := hrw.lt
      simp only [Value.slice.injEq, true_and] at e1
      exact ⟨g, fun _ => ⟨e1.1, by omega⟩⟩
    · exact ⟨0, fun h => absurd h h0⟩
  have HS3 := Lib.hid hs3
  clear hw3 hBs q3 q4 q8 hB2 hbuf2 l8
  refine (wpIn_wide (n := 4)).1 ?_
  refine wpIn_rangeFunc_ownG (n := 4) rfl (by omega) (gf := 83) (lb := #[.pointer (some ⟨Bs, 0, none⟩), .pointer (some ⟨Bs + 1, 0, none⟩)]) rfl trivial (enters_of Tryd.func83 (by kernel_rfl) rfl)
    (chunk_stops 3 (by omega) Bs (Bs + 1) oa l.length oc w3 g 0 (fun h => (hga h).1) hocm.1 hocm.2 (by omega) b1 b2) (fun h k => KpC.trans h k) (fun W l o o' _ h hc _ => KpC.put W l o o' h hc) (Below.refl _ _) (fun _ => rfl)
    (fun pre W => (Buf 5 W (w.heap.size + 2) (.slice oa l.length oc) (turnK K last nonce l pre).1 ∧ Row W t8 114 #[.int .u32 (((turnK K last nonce l pre).2 : Nat) : Int)] ∧ Row W w.heap.size 64 #[.pointer (some ⟨xb, 0, none⟩)] ∧ Row W (w.heap.size + 1) 50 (AB nonce)) ∧ Below w.heap.size w W)
    (fun _ _ _ => False) (OwnFrom.and ?hI (ownFrom_below (Nat.le_refl _) (by have := HS3.out; have := hB3.size; omega))) (fun _ _ _ _ _ hs _ _ => hs) ⟨⟨hbuf3, k8, k3, k4⟩, hB3⟩
    (fun x => ⟨#[.pointer (some ⟨xb, 0, none⟩), .agg (AB nonce), .slice va l.length vc, .pointer (some ⟨w.heap.size, 0, none⟩), .pointer (some ⟨w.heap.size + 1, 0, none⟩), undef, .slice none 0 0, .slice oa l.length oc, .pointer (some ⟨t8, 0, none⟩), .slice (some ⟨g, 16 * x, none⟩) (min 16 (l.length - 16 * x)) (min 16 (l.length - 16 * x)), undef, undef, .slice va l.length vc, .slice oa l.length oc, .slice oa l.length oc, .func (.func 83) #[] #[.pointer (some ⟨Bs, 0, none⟩), .pointer (some ⟨Bs + 1, 0, none⟩)], .slice (some ⟨g, 16 * x, none⟩) (min 16 (l.length - 16 * x)) (min 16 (l.length - 16 * x)), undef, undef, undef, undef, undef, undef, undef, undef, undef, undef, undef, undef, undef, undef, undef, undef, undef, undef, undef, undef, undef, undef], []⟩) ?assign ?body ?done ?stop
  case hI =>
    rintro pre A B row ⟨h1, h2, h3, h4⟩ hg hr
    exact ⟨h1.keptO hg fun r e => (hr r e).2, h2.keptO hg fun r e => (hr r e).2, h3.keptO hg fun r e => (hr r e).2, h4.keptO hg fun r e => (hr r e).2⟩
  case assign =>
    intro l' x W K hK
    unfold encC
    gi_wp2
    exact hK
  case body =>
    rintro l' pre x W ⟨⟨h7, h8, h3, h4⟩, hBW⟩ hpre
    have hl0 : 0 < l.length := by
      rcases Nat.eq_zero_or_pos l.length with e | e
      · rw [e] at hpre; simp [nCh] at hpre
      · exact e
    obtain ⟨rfl, hgBs⟩ := hga hl0
    obtain ⟨hin1, hin2⟩ := turnK_inv K last nonce l pre
    obtain ⟨tk, htk⟩ : ∃ tk, tk = turnK K last nonce l pre := ⟨_, rfl⟩
    obtain ⟨L, n⟩ := tk
    rw [← htk] at h7 h8 hin1 hin2
    simp only at h7 h8 hin1 hin2
    have hnN : nCh l.length ≤ 62501 := by unfold nCh; omega
    have hn' : n < 70000 := by omega
    obtain ⟨g', cap', cur, e1, hgb, hrow, hlc, hcm, hcs, hpre1⟩ := h7.open (by omega)
    simp only [Value.slice.injEq, Option.some.injEq, Addr.mk.injEq, and_true] at e1
    obtain ⟨rfl, e2, rfl⟩ := e1
    have hnext : turnK K last nonce l (pre ++ [x]) = (xorAt L (16 * x) (min 16 (L.length - 16 * x)) (padB K last nonce n), n + 1) := by rw [turnK_snoc, ← htk]; rfl
    obtain ⟨m, hm⟩ : ∃ m, m = min 16 (l.length - 16 * x) := ⟨_, rfl⟩
    rw [hin1, ← hm] at hnext
    rw [← hm]
    have hm16 : m ≤ 16 := by omega
    have hml : m = 0 ∨ 16 * x + m ≤ l.length := by omega
    have hpad := pad_any _ K last h nonce n W (HB.out.below hBW) hn
    have hpl : (padB K last nonce n).length = 16 := sealN_len _ _ _ _
    have HPAD := Lib.hid hpad
    have HNEXT := Lib.hid hnext
    have HTK := Lib.hid htk
    have HIN := Lib.hid hin1
    have HIN2 := Lib.hid hin2
    have HPRE1 := Lib.hid hpre1
    have HCS := Lib.hid hcs
    have HM := Lib.hid hm
    have l8 := h8.lt
    have l3 := h3.lt
    have l4 := h4.lt
    have lg := hrow.lt
    clear hpad hnext htk hin1 hin2 hpre1 hcs hm h7 e2
    refine wpIn_block ?_
    refine wpIn_seq ?_
    refine region_round (fun ⟨_, _, h⟩ => h) rfl ?_
    go_wp2_with fail
    refine HPAD.out.mono ?_
    rintro e W1 ⟨rfl, hb1⟩
    obtain ⟨P, hP⟩ : ∃ P, P = padB K last nonce n := ⟨_, rfl⟩
    have hP' : P = sealN K last (ctrB nonce n) last := hP
    rw [← hP] at hpl
    rw [← hP']
    have HP := Lib.hid hP
    have f7 := hrow.below hb1 lg
    have f8 := h8.below hb1 l8
    have f3 := h3.below hb1 l3
    have f4 := h4.below hb1 l4
    have lg1 := f7.lt
    have HB1 := Lib.hid hb1
    clear hP hP' h3 h4 h8 hrow hb1
    have hPl := (AB_size P).trans hpl
    go_wp2_with fail
    obtain ⟨W2, hW2⟩ : ∃ W2, W2 = (W1.alloc (.cells #[.int .u8 0, .int .u8 0, .int .u8 0, .int .u8 0, .int .u8 0, .int .u8 0, .int .u8 0, .int .u8 0, .int .u8 0, .int .u8 0, .int .u8 0, .int .u8 0, .int .u8 0, .int .u8 0, .int .u8 0, .int .u8 0] 84)).setRow W1.heap.size (AB P) := ⟨_, rfl⟩
    obtain ⟨tp, htp⟩ : ∃ tp, tp = W1.heap.size := ⟨_, rfl⟩
    rw [← hW2, ← htp]
    have c7 : Row W2 g 5 cur := by rw [hW2]; exact (f7.alloc _).setRowOther _ _ (by omega)
    have c8 : Row W2 t8 114 #[.int .u32 (n : Int)] := by rw [hW2]; exact (f8.alloc _).setRowOther _ _ (by have := f8.lt; omega)
    have c3 : Row W2 w.heap.size 64 #[.pointer (some ⟨xb, 0, none⟩)] := by rw [hW2]; exact (f3.alloc _).setRowOther _ _ (by have := f3.lt; omega)
    have c4 : Row W2 (w.heap.size + 1) 50 (AB nonce) := by rw [hW2]; exact (f4.alloc _).setRowOther _ _ (by have := f4.lt; omega)
    have cp : Row W2 tp 84 (AB P) := by rw [hW2, htp]; exact (Row.new _ _ _).setRow _
    have hbW : Below W.heap.size W W2 := by rw [hW2]; exact bSetRow (HB1.out.alloc HB1.out.size _) HB1.out.size _
    have htpw : W.heap.size ≤ tp := by rw [htp]; exact HB1.out.size
    have hgtp : g < tp := by omega
    have Hg8 : Hid (g ≠ t8) := by
      show g ≠ t8
      rintro rfl
      have := c7.symm.trans c8
      simp only [Option.some.injEq, Prod.mk.injEq] at this
      exact absurd this.1 (by decide)
    have HbW := Lib.hid hbW
    clear hW2 htp f7 f8 f3 f4 lg1 HB1 hbW lg
    gi_wp2
    gi_loopw [11, 23] (fun _ iv wr => ∃ (i : Nat) (cu : Array Value), i ≤ m ∧ iv = .int .i64 i ∧ Row wr g 5 cu ∧ cu.size = oc ∧ Pre cu (xorAt L (16 * x) i P) ∧ Row wr tp 84 (AB P) ∧ Row wr t8 114 #[.int .u32 (n : Int)] ∧ Row wr w.heap.size 64 #[.pointer (some ⟨xb, 0, none⟩)] ∧ Row wr (w.heap.size + 1) 50 (AB nonce) ∧ Below w.heap.size w wr ∧ KeepsOthers W2 wr ∧ KpC Bs (Bs + 1) W2 wr) (fun _ i _ => m - (intOf i).toNat)
    case atStart => exact ⟨0, cur, Nat.zero_le _, rfl, c7, HCS.out, by rw [xorAt_zero]; exact HPRE1.out, cp, c8, c3, c4, hBW.trans (HbW.out.mono hBW.size), KeepsOthers.refl _, fun _ _ _ _ r => r⟩
    case round =>
      clear c7 c8 c3 c4 cp
      obtain ⟨i, cu, him, rfl, c7, hcu, hpc, cp, c8, c3, c4, hBw, hKO, hKC⟩ := hrel
      have lg := c7.lt
      have lp := cp.lt
      have lt8 := c8.lt
      have hkl := xorAt_len L (16 * x) i P
      rw [HIN.out] at hkl
      have HPC := Lib.hid hpc
      have HCU := Lib.hid hcu
      by_cases hlt : i < m
      · have b1 : (i : Int) < (m : Int) := by omega
        have b2 : (i : Int) < 16 := by omega
        have b3 : 16 * x + i < l.length := by omega
        have b4 : i < 16 := by omega
        obtain ⟨y, hy⟩ : ∃ y, y = gb L (16 * x + i) := ⟨_, rfl⟩
        have hcy : cu[16 * x + i]? = some (B y) := by rw [hy, ← xorAt_here L (16 * x) i P (by rw [HIN.out]; exact b3)]; exact hpc.get _ (by rw [hkl]; exact b3)
        have HY := Lib.hid hy
        have HKL := Lib.hid hkl
        have HKO := Lib.hid hKO
        have HKC := Lib.hid hKC
        clear hy hkl hpc hcu hKO hKC
        gi_wp2
        refine region_qtail_round (fun w' => w' = _) 9 (by kernel_rfl) (fun ⟨_, _, h⟩ => h) rfl (by kernel_rfl) rfl ?_
        simp only [List.take_succ_cons, List.take_zero, List.drop_succ_cons, List.drop_zero]
        repeat (first | go_big_quiet_skip | (go_big_quiet_want; go_big_quiet_op; go_big_quiet_on))
        refine wpQuiet_nil ?_
        rintro _ rfl
        go_wp2_with fail
        gi_wp2
        have hgw : g ≠ w.heap.size ∧ g ≠ w.heap.size + 1 := by omega
        refine ⟨⟨i + 1, cu.setIfInBounds (16 * x + i) (B (xr y (gb P i))), by omega, by go_num, c7.set _ _, by simp [HCU.out], ?_, cp.setOther _ _ (by simp; omega), c8.setOther _ _ (by simpa using Ne.symm Hg8.out), c3.setOther _ _ (by simp; omega), c4.setOther _ _ (by simp; omega), (hBw.setCell (by simp; omega) _).drew, (HKO.out.trans (KeepsOthers.setCell _ _ _)).trans (KeepsOthers.drew _), ?_⟩, by simp [intOf]; omega⟩
        · rw [← xorAt_step, ← HY.out]
          exact HPC.out.set _ _ (by rw [HKL.out]; exact b3)
        · intro b t cs hb0 hr
          exact (HKC.out b t cs hb0 hr).setOther _ _ (by simp; rcases hb0 with rfl | rfl <;> omega)
      · obtain rfl : i = m := by omega
        have HKO := Lib.hid hKO
        have HKC := Lib.hid hKC
        clear hpc hcu hKO hKC
        have HKL := Lib.hid hkl
        clear hkl
        gi_wp2
        have hP2 : xorAt L (16 * x) i P = (turnK K last nonce l (pre ++ [x])).1 := by rw [HNEXT.out, HP.out]
        have hn2 : n + 1 = (turnK K last nonce l (pre ++ [x])).2 := by rw [HNEXT.out]
        refine ⟨((KeepsOthers.ofBelow HbW.out).trans (HKO.out.trans (KeepsOthers.setCell _ _ _))).from _, ?_, ⟨?_, ?_, c3.setOther _ _ (by simp; omega), c4.setOther _ _ (by simp; omega)⟩, hBw.setCell (by simp; omega) _⟩
        · intro b t cs hb0 hr
          exact (HKC.out b t cs hb0 (hr.below HbW.out hr.lt)).setOther _ _ (by simp; rcases hb0 with rfl | rfl <;> omega)
        · rw [← hP2]
          have := Buf.mk' (base := w.heap.size + 2) (c7.setOther ⟨t8, 0, none⟩ (.int .u32 ((n : Int) + 1)) (by simpa using Hg8.out)) HPC.out (by rw [HKL.out]; exact hocm.1) hocm.2 HCU.out hgb
          rwa [HKL.out] at this
        · rw [← hn2]
          exact c8.set 0 _
  case done =>
    rintro D ys W hDge rfl ⟨⟨h7, h8, h3, h4⟩, hBW⟩ hKD
    have hE : (turnK K last nonce l (List.range (nCh l.length))).1 = turnF K last nonce l := rfl
    rw [hE] at h7
    have H7 := Lib.hid h7
    clear hE h7
    go_wp2_with fail
    exact leaves_marks (n0 := w.heap.size) [D] W (by simp) (fun E hE => by rw [List.mem_singleton.1 hE]; exact ⟨by have := hB3.size; omega, hKD⟩) (fun w' hr hb => ⟨_, results_tmp rfl _ _ _, .slice oa l.length oc, rfl, (H7.out.rowsKept hr).low (by omega), hBW.trans hb⟩)
  case stop => exact fun D c pre W _ _ h _ => h.elim
end Go.Proofs.YtcfbiafedfkbhaaDoor
