/- Part of the proof: Quiet, Right. No conditions of its own. -/
import Derived.BigQuiet
import Derived.Deep.Quiet
import Derived.Deep.QuietTactic
import Derived.Lib.Hide
import Derived.StillTail
import Derived.WalkKit
import Derived.Test.YtcfbiafedfkbhaaDoorO01
import Derived.Laws.BitsAllLaws
import Derived.Test.YtcfbiafedfkbhaaDoorProg
namespace Go.Proofs.YtcfbiafedfkbhaaDoor
open Go.RowKit
section
variable {P : Program} {ops : Array Oper} {md : Region.Mode} {C : World → Prop}
def wpAnyQL (P : Program) (md : Region.Mode) (ops : Array Oper) (C : World → Prop) (n : Nat) (L : Array Bool → Act → Prop) : Nat → Array Bool → Act → Prop
  | 0, listed, a => L listed a
  | f + 1, listed, a =>
    Region.ready md ops listed ≠ [] ∧ ∀ i ∈ Region.ready md ops listed, i < n ∧ qOp P ops C i (wpAnyQL P md ops C n L f (listed.setIfInBounds i true)) a
theorem wpAny_of_headQ {n g : Nat} {L : Array Bool → Act → Prop} {Q' : Exit → Act → World → Prop} (hL : ∀ listed a w, C w → L listed a → wpAny P md ops Q' g listed a w) :
    ∀ (f : Nat) (listed : Array Bool) (a : Act) (w : World), C w → wpAnyQL P md ops C n L f listed a → wpAny P md ops Q' (f + g) listed a w
  | 0, listed, a, w, hw, h => by rw [Nat.zero_add]; exact hL _ _ _ hw h
  | f + 1, listed, a, w, hw, h => by
    rw [show f + 1 + g = (f + g) + 1 by omega]
    exact ⟨fun h0 => absurd h0 h.1, fun i hi => wpOp_of_qOp hw (fun a' w' hw' h' => wpAny_of_headQ hL f _ a' w' hw' h') (h.2 i hi).2⟩
theorem wpAnyQL_first {n i : Nat} {oi : Oper} {v : Value} {L : Array Bool → Act → Prop} (hi : ops[i]? = some oi) (hsel : ∀ (j : Nat) (o : Oper) cs b, ops[j]? = some o → o.op ≠ .select cs b)
    (hs : Region.sinkB md ops n = true) (hc : Region.chainB md ops n = true) (hn : n < ops.size) (hin : i < n)
    (hdone : ∀ listed a, L listed a → ∀ j ∈ Region.ready md ops listed, n ≤ j) :
    ∀ (f : Nat) (listed : Array Bool) (a : Act), HeadInv md ops n listed →
      (∀ j oj, ops[j]? = some oj → j ≠ i → listed.getD j true = false → (∀ e ∈ oj.after, Region.binds md e = true → e.on ≠ i) → oi.apart ops oj = true) →
      i ∈ Region.ready md ops listed → YieldsIn P ops C oi v a →
      wpAnyQL P md ops C n L f (listed.setIfInBounds i true) (a.put oi.dst v) → wpAnyQL P md ops C n L (f + 1) listed a := by
  intro f
  induction f with
  | zero =>
    intro listed a inv _ hr hy H
    refine ⟨fun h => (by rw [h] at hr; cases hr), fun j hj => ?_⟩
    have hjn : j < n := by
      rcases Nat.lt_or_ge j n with h | h
      · exact h
      · exact absurd hj (tail_waits hs hc hn inv _ i rfl hin (mem_ready.1 hr).1 j h)
    refine ⟨hjn, ?_⟩
    by_cases hji : j = i
    · subst hji; exact hy.qOp hi H
    · have := hdone _ _ H j (ready_mono hj hji)
      omega
  | succ f ih =>
    intro listed a inv hfree hr hy H
    have hun := (mem_ready.1 hr).1
    refine ⟨fun h => (by rw [h] at hr; cases hr), fun j hj => ?_⟩
    have hjn : j < n := by
      rcases Nat.lt_or_ge j n with h | h
      · exact h
      · exact absurd hj (tail_waits hs hc hn inv _ i rfl hin hun j h)
    refine ⟨hjn, ?_⟩
    by_cases hji : j = i
    · subst hji; exact hy.qOp hi H
    · have h1 := (H.2 j (ready_mono hj hji)).2
      obtain ⟨hjun, oj, hoj, hall⟩ := mem_ready.1 hj
      have hnot : ∀ e ∈ oj.after, Region.binds md e = true → e.on ≠ i := fun e he hb heq => by
        have h1 := hall e he hb
        rw [heq, getD_both hun] at h1
        cases h1
      have h2 := qOp_put hoj (hfree j oj hoj hji hjun hnot) (fun cs b => hsel i oi cs b hi) (fun cs b => hsel j oj cs b hoj) hy h1
      have hfree' : ∀ k ok, ops[k]? = some ok → k ≠ i → (listed.setIfInBounds j true).getD k true = false →
          (∀ e ∈ ok.after, Region.binds md e = true → e.on ≠ i) → oi.apart ops ok = true := fun k ok hk hki hun hno => by
        refine hfree k ok hk hki ?_ hno
        by_cases hjk : j = k
        · subst hjk; exact hjun
        · rw [getD_set_ne true hjk] at hun; exact hun
      refine qOp_mono (fun a' h3 => ih (listed.setIfInBounds j true) a' (inv.set hj hjn) hfree' (ready_mono hr (Ne.symm hji)) h3.1 ?_) h2
      rw [Array.setIfInBounds_comm _ _ hji]
      exact h3.2
theorem wpAnyQL_lex {n g : Nat} {Lq : Act → Prop} (hsel : Region.noSelect ops = true) (hs : Region.sinkB md ops n = true) (hc : Region.chainB md ops n = true) (hn : n < ops.size) :
    ∀ (l : List Oper) (k : Nat) (listed : Array Bool) (a : Act), (∀ j, j < l.length → l[j]? = ops[k + j]?) → k + l.length = n → HeadInv md ops n listed →
    Region.lexHead md ops g l.length k listed = true → wpQuiet P ops C Lq l a →
    wpAnyQL P md ops C n (fun listed' a' => Region.seqB md ops g n listed' = true ∧ Lq a') l.length listed a
  | [], k, listed, a, _, hk, _, hB, h => by
    have : k = n := by simpa using hk
    subst this
    exact ⟨by simpa [Region.lexHead] using hB, h⟩
  | o :: l, k, listed, a, hl, hk, inv, hB, h => by
    have h0 : ops[k]? = some o := by simpa using (hl 0 (by simp)).symm
    simp only [List.length_cons, Region.lexHead, Bool.and_eq_true] at hB
    obtain ⟨⟨hr, hf⟩, hB'⟩ := hB
    have hkn : k < n := by simp only [List.length_cons] at hk; omega
    have hr' : k ∈ Region.ready md ops listed := by simpa using hr
    have hst : qOp P ops C k (wpQuiet P ops C Lq l) a := by unfold qOp; simp only [h0]; exact h
    obtain ⟨v, hy, hK⟩ := yieldsIn_of_qOp h0 hst
    exact wpAnyQL_first h0 (Region.noSelect_spec hsel) hs hc hn hkn (fun listed' a' hL => seqB_ready hL.1) l.length listed a inv (Region.free_spec h0 hf) hr' hy
      (wpAnyQL_lex hsel hs hc hn l (k + 1) _ _ (fun j hj => by have := hl (j + 1) (by simp; omega); simpa [Nat.add_assoc, Nat.add_comm 1 j] using this) (by simp only [List.length_cons] at hk; omega) (inv.set hr' hkn) hB' hK)
theorem wp_region_qtail (C : World → Prop) {id : Nat} {Q : Exit → Act → World → Prop} {a : Act} {w : World} {l : List Oper} (n : Nat) (hm : P.follows .mixedOrders = true) (hB : Region.lexTailB .any l.toArray n = true) (hC : C w.drew)
    (h : wpQuiet P l.toArray C (fun a' => ∀ w', C w' → wpList P l.toArray Q (l.drop n) a' w') (l.take n) a) : (Code.region id l.toArray true).wp P Q a w := by
  simp only [Region.lexTailB, Bool.and_eq_true, decide_eq_true_eq] at hB
  obtain ⟨⟨⟨⟨hsel, hn⟩, hs⟩, hc⟩, hlex⟩ := hB
  have hn' : n < l.length := by simpa using hn
  have htl : (l.take n).length = n := by simp; omega
  have hdl : (l.drop n).length = l.toArray.size - n := by simp
  have inv0 : HeadInv .any l.toArray n (Array.replicate l.toArray.size false) :=
    ⟨by simp, fun j oj _ hl => (by rw [getD_replicate_false] at hl; cases hl), fun t _ ht => getD_in (by simpa using ht) (getD_replicate_false _ _)⟩
  have H := wpAnyQL_lex (md := .any) (C := C) (g := l.toArray.size - n) hsel hs hc hn (l.take n) 0 _ a (fun j hj => by
    have hj' : j < n := by rw [htl] at hj; exact hj
    simp [hj']) (by simpa using htl) inv0 (by rw [htl]; exact hlex) h
  refine wp_region_any hm ?_
  have := wpAny_of_headQ (Q' := Q) (g := l.toArray.size - n) (fun listed a' w' hw' hL => by
    have := wpAny_of_seq (md := .any) (Q' := Q) (l.drop n) n listed a' w' (fun j => by simp [List.getElem?_drop]) (by rw [hdl]; exact hL.1) (hL.2 w' hw')
    rwa [hdl] at this) _ _ _ w.drew hC H
  rw [htl, show n + (l.toArray.size - n) = l.toArray.size by omega] at this
  exact this
theorem quiet_at_eq (o : Oper) (a : Act) (W : World) (K : Act → Prop) :
    Oper.quiet P o a (fun w' => w' = W) K = (∃ v, Oper.quietUpon P (fun w' => w' = W) W v ((execOp a.eval o).run P W) ∧ K (a.put o.dst v)) := by
  unfold Oper.quiet Oper.quietAt
  simp only [forall_eq]
end
attribute [go_sem ↓] quiet_at_eq
end Go.Proofs.YtcfbiafedfkbhaaDoor

/- Operations of a region that draws its order, in the class of all worlds that are as W below n. -/
namespace Go.Proofs.YtcfbiafedfkbhaaDoor
open Go.RowKit
/-! ### the class of all worlds that are as W below n -/
section
variable {P : Program} {n : Nat} {W : World} {o : Oper} {a : Act} {K : Act → Prop}
theorem qb_loadA (ty : TypeId) (x : Operand) (ho : o.op = .load ty x) (g off : Nat) (hx : a.eval x = .pointer (some ⟨g, off, none⟩)) (t : TypeId) (cs : Array Value) (hr : Row W g t cs) (hgn : g < n)
    (h1 : ∀ w, (isAgg ty).run P w = .ok true w) (sz : Nat) (h2 : ∀ w, (sizeOf ty).run P w = .ok sz w) (hs : off + sz ≤ cs.size) (v : Array Value) (hv : sub cs off sz = v) (hk : K (a.put o.dst (.agg v))) : o.quiet P a (Below n W) K := by
  refine ⟨.agg v, fun w' hw' => ?_, hk⟩
  have hr' := Row.below hr hw' hgn
  have hl := run_loadCells_sub (P := P) w' g off sz t cs hr' hs
  rw [hv] at hl
  unfold Oper.quietAt execOp
  simp only [ho, hx]
  simp [Instr.loadAt, Instr.sureAddr, loadVar, Sem.run_bind, h1, h2, hl, Oper.quietUpon]
theorem qb_load1 (ty : TypeId) (x : Operand) (ho : o.op = .load ty x) (g off : Nat) (hx : a.eval x = .pointer (some ⟨g, off, none⟩)) (t : TypeId) (cs : Array Value) (hr : Row W g t cs) (hgn : g < n)
    (h1 : ∀ w, (isAgg ty).run P w = .ok false w) (v : Value) (hv : cs[off]? = some v) (hk : K (a.put o.dst v)) : o.quiet P a (Below n W) K := by
  refine ⟨v, fun w' hw' => ?_, hk⟩
  have hc := (Row.below hr hw' hgn).cell off
  rw [hv] at hc
  unfold Oper.quietAt execOp
  simp only [ho, hx]
  simp [Instr.loadAt, Instr.sureAddr, loadVar, Sem.run_bind, h1, run_load, hc, Oper.quietUpon]
theorem qb_call (f : FuncId) (args : Array Value) (hrun : ∀ w, (execOp a.eval o).run P w = .ok (.enter f args) w) (v : Value)
    (hc : ∀ w', Below n W w' → Calls P f args w' (fun e w'' => e = .returned v ∧ Below w'.heap.size w' w'')) (hn : n ≤ W.heap.size) (hk : K (a.put o.dst v)) : o.quiet P a (Below n W) K := by
  refine ⟨v, fun w' hw' => ?_, hk⟩
  unfold Oper.quietAt
  rw [hrun]
  exact ⟨rfl, (hc w' hw').mono fun e w'' h => ⟨h.1, hw'.trans (h.2.mono (Nat.le_trans hn hw'.size))⟩⟩
end
end Go.Proofs.YtcfbiafedfkbhaaDoor

namespace Go.Proofs.YtcfbiafedfkbhaaDoor
open Go.RowKit
theorem d_lt (x : UInt32) : 0 ≤ (x.toNat : Int) ∧ (x.toNat : Int) < 4294967296 := by have := x.toNat_lt; omega
set_option maxRecDepth 100000 in
theorem right_7 (x : UInt32) (w : World) : Calls Tryd.prog 92 #[D x, .int .i64 7] w fun e w' => e = .returned (D (rr 7 x)) ∧ w' = w := by
  obtain ⟨h1, h2⟩ := d_lt x
  have hb : bits .and .u64 (IntKind.u64.wrap (-7)) 31 = 25 := by kernel_rfl
  go_enter Tryd.func92, Tryd.ntmps92
  go_wp2
  go_ret
  refine ⟨?_, rfl⟩
  rw [← rr_bits 7 x 33554432 128 rfl rfl]
  rfl
set_option maxRecDepth 100000 in
theorem right_18 (x : UInt32) (w : World) : Calls Tryd.prog 92 #[D x, .int .i64 18] w fun e w' => e = .returned (D (rr 18 x)) ∧ w' = w := by
  obtain ⟨h1, h2⟩ := d_lt x
  have hb : bits .and .u64 (IntKind.u64.wrap (-18)) 31 = 14 := by kernel_rfl
  go_enter Tryd.func92, Tryd.ntmps92
  go_wp2
  go_ret
  refine ⟨?_, rfl⟩
  rw [← rr_bits 18 x 16384 262144 rfl rfl]
  rfl
set_option maxRecDepth 100000 in
theorem right_17 (x : UInt32) (w : World) : Calls Tryd.prog 92 #[D x, .int .i64 17] w fun e w' => e = .returned (D (rr 17 x)) ∧ w' = w := by
  obtain ⟨h1, h2⟩ := d_lt x
  have hb : bits .and .u64 (IntKind.u64.wrap (-17)) 31 = 15 := by kernel_rfl
  go_enter Tryd.func92, Tryd.ntmps92
  go_wp2
  go_ret
  refine ⟨?_, rfl⟩
  rw [← rr_bits 17 x 32768 131072 rfl rfl]
  rfl
set_option maxRecDepth 100000 in
theorem right_19 (x : UInt32) (w : World) : Calls Tryd.prog 92 #[D x, .int .i64 19] w fun e w' => e = .returned (D (rr 19 x)) ∧ w' = w := by
  obtain ⟨h1, h2⟩ := d_lt x
  have hb : bits .and .u64 (IntKind.u64.wrap (-19)) 31 = 13 := by kernel_rfl
  go_enter Tryd.func92, Tryd.ntmps92
  go_wp2
  go_ret
  refine ⟨?_, rfl⟩
  rw [← rr_bits 19 x 8192 524288 rfl rfl]
  rfl
set_option maxRecDepth 100000 in
theorem right_6 (x : UInt32) (w : World) : Calls Tryd.prog 92 #[D x, .int .i64 6] w fun e w' => e = .returned (D (rr 6 x)) ∧ w' = w := by
  obtain ⟨h1, h2⟩ := d_lt x
  have hb : bits .and .u64 (IntKind.u64.wrap (-6)) 31 = 26 := by kernel_rfl
  go_enter Tryd.func92, Tryd.ntmps92
  go_wp2
  go_ret
  refine ⟨?_, rfl⟩
  rw [← rr_bits 6 x 67108864 64 rfl rfl]
  rfl
set_option maxRecDepth 100000 in
theorem right_11 (x : UInt32) (w : World) : Calls Tryd.prog 92 #[D x, .int .i64 11] w fun e w' => e = .returned (D (rr 11 x)) ∧ w' = w := by
  obtain ⟨h1, h2⟩ := d_lt x
  have hb : bits .and .u64 (IntKind.u64.wrap (-11)) 31 = 21 := by kernel_rfl
  go_enter Tryd.func92, Tryd.ntmps92
  go_wp2
  go_ret
  refine ⟨?_, rfl⟩
  rw [← rr_bits 11 x 2097152 2048 rfl rfl]
  rfl
set_option maxRecDepth 100000 in
theorem right_25 (x : UInt32) (w : World) : Calls Tryd.prog 92 #[D x, .int .i64 25] w fun e w' => e = .returned (D (rr 25 x)) ∧ w' = w := by
  obtain ⟨h1, h2⟩ := d_lt x
  have hb : bits .and .u64 (IntKind.u64.wrap (-25)) 31 = 7 := by kernel_rfl
  go_enter Tryd.func92, Tryd.ntmps92
  go_wp2
  go_ret
  refine ⟨?_, rfl⟩
  rw [← rr_bits 25 x 128 33554432 rfl rfl]
  rfl
set_option maxRecDepth 100000 in
theorem right_2 (x : UInt32) (w : World) : Calls Tryd.prog 92 #[D x, .int .i64 2] w fun e w' => e = .returned (D (rr 2 x)) ∧ w' = w := by
  obtain ⟨h1, h2⟩ := d_lt x
  have hb : bits .and .u64 (IntKind.u64.wrap (-2)) 31 = 30 := by kernel_rfl
  go_enter Tryd.func92, Tryd.ntmps92
  go_wp2
  go_ret
  refine ⟨?_, rfl⟩
  rw [← rr_bits 2 x 1073741824 4 rfl rfl]
  rfl
set_option maxRecDepth 100000 in
theorem right_13 (x : UInt32) (w : World) : Calls Tryd.prog 92 #[D x, .int .i64 13] w fun e w' => e = .returned (D (rr 13 x)) ∧ w' = w := by
  obtain ⟨h1, h2⟩ := d_lt x
  have hb : bits .and .u64 (IntKind.u64.wrap (-13)) 31 = 19 := by kernel_rfl
  go_enter Tryd.func92, Tryd.ntmps92
  go_wp2
  go_ret
  refine ⟨?_, rfl⟩
  rw [← rr_bits 13 x 524288 8192 rfl rfl]
  rfl
set_option maxRecDepth 100000 in
theorem right_22 (x : UInt32) (w : World) : Calls Tryd.prog 92 #[D x, .int .i64 22] w fun e w' => e = .returned (D (rr 22 x)) ∧ w' = w := by
  obtain ⟨h1, h2⟩ := d_lt x
  have hb : bits .and .u64 (IntKind.u64.wrap (-22)) 31 = 10 := by kernel_rfl
  go_enter Tryd.func92, Tryd.ntmps92
  go_wp2
  go_ret
  refine ⟨?_, rfl⟩
  rw [← rr_bits 22 x 1024 4194304 rfl rfl]
  rfl
end Go.Proofs.YtcfbiafedfkbhaaDoor
