/- Part of the proof: Round, GcmSpec. No conditions of its own. -/
import Derived.BigQuiet
import Derived.Deep.Quiet
import Derived.Deep.QuietTactic
import Derived.Deep.RegionLaw
import Derived.Laws.AppendOwnNone
import Derived.Lib.Hide
import Derived.LoopIn
import Derived.LoopNIn
import Derived.OrdersIn
import Derived.OwnWalkIn
import Derived.RangeFuncBound
import Derived.RangeFuncCalls
import Derived.RangeFuncLeaves
import Derived.RangeFuncNested
import Derived.Shelf.Abstract
import Derived.StillTail
import Derived.TacticsIn
import Derived.TacticsInMore
import Derived.Test.YtcfbiafedfkbhaaDoorProg
import Derived.WalkKit
import Derived.WalkSpells
import Derived.Test.YtcfbiafedfkbhaaDoorO02
import Derived.Test.YtcfbiafedfkbhaaDoorO04
import Derived.Laws.Bits64
import Derived.Laws.BitsAllLaws
import Derived.Test.YtcfbiafedfkbhaaDoorO01
namespace Go.Proofs.YtcfbiafedfkbhaaDoor
open Go.RowKit

abbrev RF (l : Nat) : Fence := Fence.wide.inRound l
def notDefer (o : Oper) : Bool := match o.op with | .defer _ => false | _ => true
theorem notDefer_spec {o : Oper} (h : notDefer o = true) (c : Call) : o.op ≠ .defer c := by
  intro e
  simp [notDefer, e] at h
section
variable {P : Program} {l n : Nat} {Q : Exit → Act → World → Prop} {ops : Array Oper} {md : Region.Mode}
theorem oper_round {o : Oper} {a : Act} {w : World} {K : Act → World → Prop} (hd : notDefer o = true) (h : o.wp P a w K Q) : o.wpIn (RF l) n P a w K Q := by
  refine ⟨fun _ _ => trivial, ?_⟩
  rw [Oper.semAt_eq _ _ _ (notDefer_spec hd)]
  unfold Oper.wp at h
  generalize (execOp a.eval o).run P w = r at *
  cases r with
  | ok x w' =>
    cases x <;> simp only [Oper.upon] at h <;> simp only [Oper.uponIn]
    case value => exact h
    case skip => exact h
    case defer => exact h
    case enter f args => exact ⟨fun hh => by simp [Fence.wide] at hh, (CallsIn.inRound l (callsIn_wide.2 h)).mono fun e w'' he => by cases e <;> exact he⟩
    case row r args => exact ⟨fun hh => by simp [Fence.wide] at hh, fun c cs _ => let ⟨v, w', r, s⟩ := h c cs; ⟨v, w', r, stepsIn_wide.2 s⟩⟩
  | halt x w' => cases x <;> simp only [Oper.upon] at h <;> simp only [Oper.uponIn] <;> exact h
theorem list_round (hQ : ¬ LetsOut Q) : ∀ (L : List Oper), L.all notDefer = true → ∀ a w, wpList P ops Q L a w → wpListIn (RF l) n P ops Q L a w
  | [], _, _, _, h => h
  | o :: L, hd, a, w, h => by
    simp only [List.all_cons, Bool.and_eq_true] at hd
    simp only [wpList] at h
    simp only [wpListIn]
    split
    · rename_i hw
      simp only [hw, if_true] at h
      rcases h with h | ⟨_, h⟩
      · exact oper_round hd.1 (Oper.wp_mono (fun a w h => list_round hQ L hd.2 a w h) h)
      · exact absurd h hQ
    · rename_i hw
      simp only [hw] at h
      exact ⟨fun _ _ => trivial, list_round hQ L hd.2 _ _ h⟩
theorem any_round (hQ : ¬ LetsOut Q) (hd : ops.toList.all notDefer = true) : ∀ (g : Nat) (listed : Array Bool) (a : Act) (w : World), wpAny P md ops Q g listed a w → wpAnyIn (RF l) n P md ops Q g listed a w
  | 0, _, _, _, h => h
  | g + 1, listed, a, w, h => by
    refine ⟨h.1, fun i hi => ?_⟩
    have h := h.2 i hi
    unfold wpOp at h
    unfold wpOpIn
    split
    · rename_i ho
      simp only [ho] at h
      exact any_round hQ hd g _ _ _ h
    · rename_i o ho
      simp only [ho] at h
      have hdo : notDefer o = true := List.all_eq_true.1 hd o (by
        have := Array.mem_of_getElem? ho
        simpa using this)
      split
      · rename_i hw
        simp only [hw, if_true] at h
        rcases h with h | ⟨_, h⟩
        · exact oper_round hdo (Oper.wp_mono (fun a w h => any_round hQ hd g _ a w h) h)
        · exact absurd h hQ
      · rename_i hw
        simp only [hw] at h
        exact ⟨fun _ _ => trivial, any_round hQ hd g _ _ _ h⟩
theorem region_round {id : Nat} {a : Act} {w : World} {L : List Oper} (hQ : ¬ LetsOut Q) (hd : L.all notDefer = true) (h : wpList P L.toArray Q L a w) : (Code.region id L.toArray false).wpIn (RF l) n P Q a w :=
  wpIn_region_list (list_round hQ _ (by simpa using hd) a w (by simpa using h))
theorem region_drawn_round {id : Nat} {a : Act} {w : World} {L : List Oper} (hm : P.follows .mixedOrders = true) (hQ : ¬ LetsOut Q) (hd : L.all notDefer = true)
    (h : wpAny P .any L.toArray Q L.toArray.size (Array.replicate L.toArray.size false) a w.drew) : (Code.region id L.toArray true).wpIn (RF l) n P Q a w :=
  wpIn_region_any hm (any_round hQ (by simpa using hd) _ _ _ _ h)
theorem wpAny_qtail (C : World → Prop) {a : Act} {w : World} {L : List Oper} (n : Nat) (hB : Region.lexTailB .any L.toArray n = true) (hC : C w.drew)
    (h : wpQuiet P L.toArray C (fun a' => ∀ w', C w' → wpList P L.toArray Q (L.drop n) a' w') (L.take n) a) : wpAny P .any L.toArray Q L.toArray.size (Array.replicate L.toArray.size false) a w.drew := by
  simp only [Region.lexTailB, Bool.and_eq_true, decide_eq_true_eq] at hB
  obtain ⟨⟨⟨⟨hsel, hn⟩, hs⟩, hc⟩, hlex⟩ := hB
  have hn' : n < L.length := by simpa using hn
  have htl : (L.take n).length = n := by simp; omega
  have hdl : (L.drop n).length = L.toArray.size - n := by simp
  have inv0 : HeadInv .any L.toArray n (Array.replicate L.toArray.size false) :=
    ⟨by simp, fun j oj _ hl => (by rw [getD_replicate_false] at hl; cases hl), fun t _ ht => getD_in (by simpa using ht) (getD_replicate_false _ _)⟩
  have H := wpAnyQL_lex (md := .any) (C := C) (g := L.toArray.size - n) hsel hs hc hn (L.take n) 0 _ a (fun j hj => by
    have hj' : j < n := by rw [htl] at hj; exact hj
    simp [hj']) (by simpa using htl) inv0 (by rw [htl]; exact hlex) h
  have := wpAny_of_headQ (Q' := Q) (g := L.toArray.size - n) (fun listed a' w' hw' hL => by
    have := wpAny_of_seq (md := .any) (Q' := Q) (L.drop n) n listed a' w' (fun j => by simp [List.getElem?_drop]) (by rw [hdl]; exact hL.1) (hL.2 w' hw')
    rwa [hdl] at this) _ _ _ w.drew hC H
  rw [htl, show n + (L.toArray.size - n) = L.toArray.size by omega] at this
  exact this
theorem region_qtail_round (C : World → Prop) {id : Nat} {a : Act} {w : World} {L : List Oper} (k : Nat) (hm : P.follows .mixedOrders = true) (hQ : ¬ LetsOut Q) (hd : L.all notDefer = true) (hB : Region.lexTailB .any L.toArray k = true) (hC : C w.drew)
    (h : wpQuiet P L.toArray C (fun a' => ∀ w', C w' → wpList P L.toArray Q (L.drop k) a' w') (L.take k) a) : (Code.region id L.toArray true).wpIn (RF l) n P Q a w :=
  region_drawn_round hm hQ hd (wpAny_qtail C k hB hC h)
end

/-! ### the marks -/
def markOf (D : Nat) : Deferred := { target := .collected D, args := #[] }
def RowsKept (w w' : World) : Prop := ∀ b t cs, Row w b t cs → Row w' b t cs
theorem RowsKept.refl (w : World) : RowsKept w w := fun _ _ _ h => h
theorem RowsKept.trans {a b c : World} (h : RowsKept a b) (k : RowsKept b c) : RowsKept a c := fun _ _ _ x => k _ _ _ (h _ _ _ x)
theorem RowsKept.putObj {w : World} {D : Nat} {o o' : Obj} (h : w.heap[D]? = some o) (hc : o.isCells = false) : RowsKept w (w.putObj D o') := by
  intro b t cs hr
  have hne : b ≠ D := by
    rintro rfl
    have := hr.heap
    rw [h] at this
    cases this
    cases hc
  exact (row_congr (World.putObj_heap_other hne)).trans hr
theorem leaves_marks {P : Program} {n n0 : Nat} {fn : Func} {tmps : Array Value} {R : Ending → World → Prop} : ∀ (Ds : List Nat) (w : World), Ds.Nodup → (∀ D, D ∈ Ds → n0 ≤ D ∧ w.heap[D]? = some (.deferred (some []))) →
    (∀ w', RowsKept w w' → Below n0 w w' → ∃ v, (results fn tmps).run P w' = .ok v w' ∧ R (.returned v) w') → LeavesInM Fence.wide n P fn tmps R (Ds.map markOf) .returning w
  | [], w, _, _, h => h w (RowsKept.refl w) (Below.refl _ w)
  | D :: Ds, w, hnd, hD, h => by
    obtain ⟨h0, h1⟩ := hD D (by simp)
    refine ⟨by simp, .inl ⟨D, _, rfl, run_takeDeferred h1, ?_⟩⟩
    rw [List.nodup_cons] at hnd
    have hlt := (Array.getElem?_eq_some_iff.1 h1).1
    have hb : Below n0 w (w.putObj D (.deferred none)) := (Below.refl n0 w).grown (grownBy_putObj' w D _) (by omega) (fun k e => by cases e; omega)
    refine leaves_marks Ds _ hnd.2 (fun E hE => ⟨(hD E (by simp [hE])).1, ?_⟩) (fun w' hr hb' => h w' ((RowsKept.putObj h1 rfl).trans hr) (hb.trans hb'))
    have hne : E ≠ D := fun e => hnd.1 (e ▸ hE)
    exact (World.putObj_heap_other hne).trans (hD E (by simp [hE])).2
end Go.Proofs.YtcfbiafedfkbhaaDoor

/- slices.Chunk at bytes, by sixteen: its contract as an iterator. -/
namespace Go.Proofs.YtcfbiafedfkbhaaDoor
open Go.RowKit Go.Shelf
attribute [local go_sem] Oper.semAt_some

def nCh (len : Nat) : Nat := (len + 15) / 16
def encC (b off len : Nat) (k : Nat) : Array Value := #[.slice (some ⟨b, off + 16 * k, none⟩) (min 16 (len - 16 * k)) (min 16 (len - 16 * k))]
def KpC (Bs Bn : Nat) (W W' : World) : Prop := ∀ b t cs, b = Bs ∨ b = Bn → Row W b t cs → Row W' b t cs
theorem KpC.trans {Bs Bn : Nat} {A B C : World} (h : KpC Bs Bn A B) (k : KpC Bs Bn B C) : KpC Bs Bn A C := fun b t cs e r => k b t cs e (h b t cs e r)
theorem KpC.put {Bs Bn : Nat} (W : World) (l : Nat) (o o' : Obj) (h : W.heap[l]? = some o) (hc : o.isCells = false) : KpC Bs Bn W (W.putObj l o') := fun b t cs _ r => RowsKept.putObj h hc b t cs r

set_option maxRecDepth 100000 in
theorem chunk_any (a : Option Addr) (len cap : Nat) (w : World) : Calls Tryd.prog 63 #[.slice a len cap, .int .i64 16] w fun e w' =>
    e = .returned (.func (.func 83) #[] #[.pointer (some ⟨w.heap.size, 0, none⟩), .pointer (some ⟨w.heap.size + 1, 0, none⟩)]) ∧ w' = (w.alloc (.cells #[.slice a len cap] 23)).alloc (.cells #[.int .i64 16] 3) := by
  go_enter Tryd.func63, Tryd.ntmps63
  go_wp2_with fail
  go_ret
  exact ⟨rfl, rfl⟩

set_option maxRecDepth 100000 in
set_option maxHeartbeats 2000000 in
theorem chunk1_in (n : Nat) (_hn : 1 ≤ n) (l Bs Bn b off len cap : Nat) (hlc : len ≤ cap) (hcm : cap ≤ maxLen) (hreach : len ≤ 140737488355328) (J Jx : List Nat → World → Prop)
    (hY : ∀ pre x W, J pre W → pre.length < nCh len → YieldAt Fence.wide (n - 1) Tryd.prog l (encC b off len x) W fun e W' =>
      (e = .returned (.bool true) ∧ J (pre ++ [x]) W' ∧ KpC Bs Bn W W') ∨ (e = .returned (.bool false) ∧ Jx (pre ++ [x]) W'))
    (hJd : ∀ pre W, J pre W → J pre W.drew)
    (W : World) (hBs : Row W Bs 23 #[.slice (some ⟨b, off, none⟩) len cap]) (hBn : Row W Bn 3 #[.int .i64 16]) (h0 : J [] W) :
    CallsIn Fence.wide n Tryd.prog 83 #[.func (.yield l) #[] #[], .pointer (some ⟨Bs, 0, none⟩), .pointer (some ⟨Bn, 0, none⟩)] W fun e W' => (∃ v, e = .returned v) ∧
      ((∃ xs, xs = List.range (nCh len) ∧ J xs W') ∨ (∃ pre, True ∧ Jx pre W')) := by
  unfold maxLen at hcm
  refine callsIn_of_wp Tryd.func83 rfl trivial ?_ rfl
  simp only [Tryd.ntmps83, List.size_toArray, List.length_cons, List.length_nil, Nat.reduceAdd, Nat.reduceSub, Array.replicate_succ, Array.replicate_zero, List.push_toArray, List.append_toArray, List.nil_append, List.cons_append]
  gi_wp2
  gi_loopw [4, 5] (fun i _ wr => ∃ k : Nat, k ≤ nCh len ∧ i = .int .i64 ((16 * k : Nat) : Int) ∧ J (List.range k) wr ∧ Row wr Bs 23 #[.slice (some ⟨b, off, none⟩) len cap] ∧ Row wr Bn 3 #[.int .i64 16])
    (fun i _ _ => len + 16 - (intOf i).toNat)
  case atStart => exact ⟨0, Nat.zero_le _, rfl, h0, hBs, hBn⟩
  case round =>
    clear h0 hBs hBn
    obtain ⟨k, hk, rfl, hJs, hBs, hBn⟩ := hrel
    have ls := hBs.lt
    have ln := hBn.lt
    obtain ⟨i, hi⟩ : ∃ i, i = 16 * k := ⟨_, rfl⟩
    rw [← hi]
    by_cases hlt : i < len
    · have hkn : k < nCh len := by unfold nCh; omega
      have q1 : (i : Int) < (len : Int) := by omega
      obtain ⟨e, he⟩ : ∃ e, e = min 16 (len - i) := ⟨_, rfl⟩
      have q2 : i + e ≤ len := by omega
      have q3 : (i : Int) + (e : Int) ≤ (cap : Int) := by omega
      have q4 : (i : Int) ≤ (cap : Int) := by omega
      have q5 : (i : Int) ≤ (i : Int) + (e : Int) := by omega
      have q6 : 0 < e := by omega
      have q7 : e ≤ 16 := by omega
      have q9 : ¬ cap = i := by omega
      have hJd2 := hJd _ _ hJs
      obtain ⟨fn, tmps, assign, body, hy, hR⟩ := hY _ k wr.drew hJd2 (by simpa using hkn)
      have hrange : List.range (k + 1) = List.range k ++ [k] := List.range_succ
      have HR := Lib.hid hrange
      have HI := Lib.hid hi
      unfold encC at hy
      rw [← hi, ← he] at hy
      clear hrange hi
      by_cases hf : 16 ≤ len - i
      · have f1 : (16 : Int) ≤ (len : Int) - (i : Int) := by omega
        obtain rfl : e = 16 := by omega
        clear he
        gi_wp2
        refine wpIn_wide.2 ?_
        refine wp_region_qtail (fun w' => w' = _) 6 (by kernel_rfl) (by kernel_rfl) rfl ?_
        simp only [List.take_succ_cons, List.take_zero, List.drop_succ_cons, List.drop_zero]
        repeat (first | go_big_quiet_skip | (go_big_quiet_want; go_big_quiet_op; go_big_quiet_on))
        refine wpQuiet_nil ?_
        rintro _ rfl
        go_wp2_with fail
        gi_wp2
        refine hR.mono ?_
        rintro en W3 (⟨rfl, hJ3, hk3⟩ | ⟨rfl, hJx3⟩)
        · have hBs3 := hk3 _ _ _ (.inl rfl) hBs.drew
          have hBn3 := hk3 _ _ _ (.inr rfl) hBn.drew
          have ls3 := hBs3.lt
          have ln3 := hBn3.lt
          clear hY hJd hJs hJd2 hR hy hk3 hBs hBn
          gi_wp2
          go_roundw
          case rel => exact ⟨k + 1, by unfold nCh; have := HI.out; unfold nCh at hkn; omega, by have := HI.out; rw [show 16 * (k + 1) = i + 16 by omega]; go_num, by rw [HR.out]; exact hJ3, hBs3, hBn3⟩
          case measure => simp [intOf]; omega
        · clear hY hJd hJs hJd2 hR hy hBs hBn
          gi_wp2
          refine bodyPost_ret (results_none rfl _ _ _) rfl ?_
          exact ⟨⟨_, rfl⟩, .inr ⟨_, trivial, hJx3⟩⟩
      · have f1 : ¬ (16 : Int) ≤ (len : Int) - (i : Int) := by omega
        obtain rfl : e = len - i := by omega
        clear he
        gi_wp2
        refine wpIn_wide.2 ?_
        refine wp_region_qtail (fun w' => w' = _) 6 (by kernel_rfl) (by kernel_rfl) rfl ?_
        simp only [List.take_succ_cons, List.take_zero, List.drop_succ_cons, List.drop_zero]
        repeat (first | go_big_quiet_skip | (go_big_quiet_want; go_big_quiet_op; go_big_quiet_on))
        refine wpQuiet_nil ?_
        rintro _ rfl
        go_wp2_with fail
        gi_wp2
        refine hR.mono ?_
        rintro en W3 (⟨rfl, hJ3, hk3⟩ | ⟨rfl, hJx3⟩)
        · have hBs3 := hk3 _ _ _ (.inl rfl) hBs.drew
          have hBn3 := hk3 _ _ _ (.inr rfl) hBn.drew
          have ls3 := hBs3.lt
          have ln3 := hBn3.lt
          clear hY hJd hJs hJd2 hR hy hk3 hBs hBn
          gi_wp2
          go_roundw
          case rel => exact ⟨k + 1, by unfold nCh; have := HI.out; unfold nCh at hkn; omega, by have := HI.out; rw [show 16 * (k + 1) = i + 16 by omega]; go_num, by rw [HR.out]; exact hJ3, hBs3, hBn3⟩
          case measure => simp [intOf]; omega
        · clear hY hJd hJs hJd2 hR hy hBs hBn
          gi_wp2
          refine bodyPost_ret (results_none rfl _ _ _) rfl ?_
          exact ⟨⟨_, rfl⟩, .inr ⟨_, trivial, hJx3⟩⟩
    · obtain rfl : k = nCh len := by unfold nCh at hk ⊢; omega
      have q1 : ¬ (i : Int) < (len : Int) := by omega
      clear hi hY hJd
      gi_wp2
      go_end0
      exact ⟨⟨_, rfl⟩, .inl hJs⟩

set_option maxRecDepth 100000 in
theorem chunk0_in (n : Nat) (l Bs Bn : Nat) (a : Option Addr) (cap : Nat) (J : List Nat → World → Prop) (W : World) (hBs : Row W Bs 23 #[.slice a 0 cap]) (h0 : J [] W) :
    CallsIn Fence.wide n Tryd.prog 83 #[.func (.yield l) #[] #[], .pointer (some ⟨Bs, 0, none⟩), .pointer (some ⟨Bn, 0, none⟩)] W fun e W' => (∃ v, e = .returned v) ∧ J [] W' := by
  refine callsIn_of_wp Tryd.func83 rfl trivial ?_ rfl
  simp only [Tryd.ntmps83, List.size_toArray, List.length_cons, List.length_nil, Nat.reduceAdd, Nat.reduceSub, Array.replicate_succ, Array.replicate_zero, List.push_toArray, List.append_toArray, List.nil_append, List.cons_append]
  have ls := hBs.lt
  gi_wp2
  gi_loopw [4] (fun i wr => i = .int .i64 0 ∧ J [] wr ∧ Row wr Bs 23 #[.slice a 0 cap]) (fun _ _ => 0)
  case atStart => exact ⟨rfl, h0, hBs⟩
  case round =>
    obtain ⟨rfl, hJs, hBs⟩ := hrel
    have ls := hBs.lt
    gi_wp2
    go_end0
    exact ⟨⟨_, rfl⟩, hJs⟩
theorem grownBy_drew' (W : World) (r : Option Nat) : W.grownBy W.drew r := ⟨rfl, rfl, rfl, Nat.le_refl _, fun _ _ _ => rfl⟩
theorem chunk_stops (n : Nat) (hn : 1 ≤ n) (Bs Bn : Nat) (a : Option Addr) (len cap : Nat) (w : World) (b off : Nat) (ha : 0 < len → a = some ⟨b, off, none⟩) (hlc : len ≤ cap) (hcm : cap ≤ maxLen) (hreach : len ≤ 140737488355328)
    (hBs : Row w Bs 23 #[.slice a len cap]) (hBn : Row w Bn 3 #[.int .i64 16]) :
    SeqStopsK Fence.wide n Tryd.prog 83 #[.pointer (some ⟨Bs, 0, none⟩), .pointer (some ⟨Bn, 0, none⟩)] (encC b off len) (KpC Bs Bn) (fun ys => ys = List.range (nCh len)) (fun _ => True) (nCh len) w := by
  intro l J Jx W hW hJ _ hY h0
  have hBs' := hBs.below hW hBs.lt
  have hBn' := hBn.below hW hBn.lt
  rcases Nat.eq_zero_or_pos len with h | h
  · subst h
    refine (chunk0_in n l Bs Bn a cap J W hBs' h0).mono ?_
    rintro e W' ⟨he, hj⟩
    exact ⟨he, .inl ⟨_, rfl, hj⟩⟩
  · obtain rfl := ha h
    exact chunk1_in n hn l Bs Bn b off len cap hlc hcm hreach J Jx hY (fun pre W h => hJ pre W _ none h (grownBy_drew' W none) (fun r e => by cases e)) W hBs' hBn' h0
end Go.Proofs.YtcfbiafedfkbhaaDoor

namespace Go.Proofs.YtcfbiafedfkbhaaDoor
open Go.RowKit

abbrev Q (x : UInt64) : Value := .int .u64 (x.toNat : Int)
def xq (a b : UInt64) : UInt64 := a ^^^ b
theorem wrapN64 (a : Nat) : IntKind.u64.wrap (a : Int) = ((a % 18446744073709551616 : Nat) : Int) := by rw [IntKind.wrap_u64]; omega
theorem bq_xor (a b : UInt64) : bits .xor .u64 (a.toNat : Int) (b.toNat : Int) = ((xq a b).toNat : Int) := by
  rw [u64_xor_nat _ _ a.toNat_lt b.toNat_lt, xq, UInt64.toNat_xor]
def sho (x : UInt64) (y : UInt8) : UInt64 := UInt64.ofNat ((x.toNat * 256 % 18446744073709551616) ||| y.toNat)
theorem bq_sho (x : UInt64) (y : UInt8) : bits .or .u64 (IntKind.u64.wrap ((x.toNat : Int) * 256)) (IntKind.u64.wrap (y.toNat : Int)) = ((sho x y).toNat : Int) := by
  have hy := y.toNat_lt
  have e1 : IntKind.u64.wrap ((x.toNat : Int) * 256) = ((x.toNat * 256 % 18446744073709551616 : Nat) : Int) := by
    rw [show ((x.toNat : Int) * 256) = ((x.toNat * 256 : Nat) : Int) by omega, wrapN64]
  have e2 : IntKind.u64.wrap (y.toNat : Int) = (y.toNat : Int) := by rw [wrapN64]; omega
  have h1 : x.toNat * 256 % 18446744073709551616 < 18446744073709551616 := Nat.mod_lt _ (by omega)
  have h2 : y.toNat < 18446744073709551616 := by omega
  rw [e1, e2, u64_or_nat _ _ h1 h2, sho, UInt64.toNat_ofNat']
  have h3 : (x.toNat * 256 % 18446744073709551616 ||| y.toNat) < 2 ^ 64 := Nat.or_lt_two_pow h1 h2
  rw [Nat.mod_eq_of_lt h3]
def hf (x : UInt64) : UInt64 := UInt64.ofNat (x.toNat / 2)
theorem hf_nat (x : UInt64) : (hf x).toNat = x.toNat / 2 := by
  have := x.toNat_lt
  rw [hf, UInt64.toNat_ofNat']
  omega
def orh (y x : UInt64) : UInt64 := UInt64.ofNat (y.toNat / 2 ||| x.toNat * 9223372036854775808 % 18446744073709551616)
theorem bq_orh (y x : UInt64) : bits .or .u64 ((y.toNat : Int) / 2) (IntKind.u64.wrap ((x.toNat : Int) * 9223372036854775808)) = ((orh y x).toNat : Int) := by
  have hy := y.toNat_lt
  have e1 : IntKind.u64.wrap ((x.toNat : Int) * 9223372036854775808) = ((x.toNat * 9223372036854775808 % 18446744073709551616 : Nat) : Int) := by
    rw [show ((x.toNat : Int) * 9223372036854775808) = ((x.toNat * 9223372036854775808 : Nat) : Int) by omega, wrapN64]
  have e2 : ((y.toNat : Int) / 2) = ((y.toNat / 2 : Nat) : Int) := by omega
  have h1 : x.toNat * 9223372036854775808 % 18446744073709551616 < 18446744073709551616 := Nat.mod_lt _ (by omega)
  have h2 : y.toNat / 2 < 18446744073709551616 := by omega
  rw [e1, e2, u64_or_nat _ _ h2 h1, orh, UInt64.toNat_ofNat']
  have h3 : (y.toNat / 2 ||| x.toNat * 9223372036854775808 % 18446744073709551616) < 2 ^ 64 := Nat.or_lt_two_pow h2 h1
  rw [Nat.mod_eq_of_lt h3]
def polyQ : UInt64 := 16212958658533785600
theorem bq_poly (x : UInt64) : bits .xor .u64 (x.toNat : Int) 16212958658533785600 = ((xq x polyQ).toNat : Int) := bq_xor x polyQ
def oddQ (x : UInt64) : Bool := x.toNat % 2 == 1
theorem and_one (n : Nat) : n &&& 1 = n % 2 := Nat.and_one_is_mod n
theorem bq_odd (x : UInt64) : (bits .and .u64 (x.toNat : Int) 1 == 1) = oddQ x := by
  have h := u64_and_nat x.toNat 1 x.toNat_lt (by omega)
  rw [show ((1 : Nat) : Int) = 1 from rfl, and_one] at h
  rw [h, oddQ, Bool.eq_iff_iff, beq_iff_eq, beq_iff_eq]
  omega
def bitQ (x : UInt64) (i : Nat) : Bool := x.toNat.testBit i
theorem bq_bit (x : UInt64) (i : Nat) : (bits .and .u64 ((x.toNat : Int) / 2 ^ i) 1 == 1) = bitQ x i := by
  have hx := x.toNat_lt
  have e1 : ((x.toNat : Int) / 2 ^ i) = ((x.toNat / 2 ^ i : Nat) : Int) := by simp
  have h1 : x.toNat / 2 ^ i < 18446744073709551616 := Nat.lt_of_le_of_lt (Nat.div_le_self _ _) hx
  have h := u64_and_nat (x.toNat / 2 ^ i) 1 h1 (by omega)
  rw [show ((1 : Nat) : Int) = 1 from rfl, and_one] at h
  rw [e1, h, bitQ, Nat.testBit_eq_decide_div_mod_eq, Bool.eq_iff_iff, beq_iff_eq, decide_eq_true_eq]
  omega
attribute [go_sem] bq_xor bq_sho bq_orh bq_poly

/-! ### bytes as one number -/
def be (l : List UInt8) : Nat := l.foldl (fun n b => n * 256 + b.toNat) 0
theorem be_snoc (l : List UInt8) (x : UInt8) : be (l ++ [x]) = be l * 256 + x.toNat := by simp [be]
theorem be_nil : be [] = 0 := rfl
theorem be_lt (l : List UInt8) : be l < 256 ^ l.length := by
  suffices h : ∀ n (l : List UInt8), l.length = n → be l < 256 ^ n from h _ l rfl
  intro n
  induction n with
  | zero => intro l hl; rw [List.eq_nil_of_length_eq_zero hl]; simp [be]
  | succ n ih =>
    intro l hl
    obtain ⟨l', x, rfl⟩ : ∃ l' x, l = l' ++ [x] := by
      refine ⟨l.dropLast, l.getLast (by intro h; rw [h] at hl; simp at hl), (List.dropLast_concat_getLast _).symm⟩
    have h1 := ih l' (by simpa using hl)
    have hx := x.toNat_lt
    rw [be_snoc, Nat.pow_succ]
    omega
theorem sho_nat (x : UInt64) (y : UInt8) (h : x.toNat < 72057594037927936) : (sho x y).toNat = x.toNat * 256 + y.toNat := by
  have hy := y.toNat_lt
  have h1 : x.toNat * 256 % 18446744073709551616 = x.toNat * 256 := Nat.mod_eq_of_lt (by omega)
  have h2 : (x.toNat * 256 ||| y.toNat) = x.toNat * 256 + y.toNat := by
    have := Nat.two_pow_add_eq_or_of_lt (i := 8) hy x.toNat
    rw [Nat.mul_comm x.toNat 256]
    exact this.symm
  have h3 : x.toNat * 256 + y.toNat < 2 ^ 64 := by
    have : (2 : Nat) ^ 64 = 18446744073709551616 := by decide
    omega
  rw [sho, h1, h2, UInt64.toNat_ofNat', Nat.mod_eq_of_lt h3]
theorem take_snoc' (l : List UInt8) (k : Nat) (h : k < l.length) : l.take (k + 1) = l.take k ++ [gb l k] := by
  rw [List.take_succ_eq_append_getElem h]
  simp [gb, h]
def hiQ (l : List UInt8) : UInt64 := UInt64.ofNat (be (l.take 8))
def loQ (l : List UInt8) : UInt64 := UInt64.ofNat (be ((l.drop 8).take 8))
theorem be_lt8 (l : List UInt8) (h : l.length ≤ 8) : be l < 18446744073709551616 :=
  Nat.lt_of_lt_of_le (be_lt l) (Nat.le_trans (Nat.pow_le_pow_right (by omega) h) (by decide))
theorem hiQ_nat (l : List UInt8) : (hiQ l).toNat = be (l.take 8) := by
  rw [hiQ, UInt64.toNat_ofNat']
  exact Nat.mod_eq_of_lt (be_lt8 _ (by simp; omega))
theorem loQ_nat (l : List UInt8) : (loQ l).toNat = be ((l.drop 8).take 8) := by
  rw [loQ, UInt64.toNat_ofNat']
  exact Nat.mod_eq_of_lt (be_lt8 _ (by simp; omega))
def upQ (l : List UInt8) (k : Nat) : UInt64 := UInt64.ofNat (be (l.take k))
theorem upQ_step (l : List UInt8) (k : Nat) (h : k < l.length) (h8 : k < 8) : sho (upQ l k) (gb l k) = upQ l (k + 1) := by
  have h1 : be (l.take k) < 72057594037927936 :=
    Nat.lt_of_lt_of_le (be_lt _) (Nat.le_trans (Nat.pow_le_pow_right (by omega) (show (l.take k).length ≤ 7 by simp; omega)) (by decide))
  have h2 : (upQ l k).toNat = be (l.take k) := by rw [upQ, UInt64.toNat_ofNat']; exact Nat.mod_eq_of_lt (by omega)
  apply UInt64.toNat_inj.1
  rw [sho_nat _ _ (by rw [h2]; exact h1), h2, upQ, UInt64.toNat_ofNat', take_snoc' _ _ h, be_snoc]
  have := (gb l k).toNat_lt
  exact (Nat.mod_eq_of_lt (by omega)).symm
end Go.Proofs.YtcfbiafedfkbhaaDoor
