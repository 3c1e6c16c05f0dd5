/- A loop over an iterator: regions inside a round, walked as outside of it; the marks that such loops leave among the deferred calls. They hold for every program and every world. -/
import Derived.Test.YtjopgogaipkdbaaQuiet
import Derived.RangeFuncNested
import Derived.RangeFuncBound
import Derived.RangeFuncCalls
import Derived.RangeFuncLeaves
import Derived.OrdersIn
import Derived.TacticsIn
namespace Go.Proofs.Ytjopgogaipkdbaa
open Go.RowKit

/-- A round's fence, within the fence that shuts nothing out. -/
abbrev RF (l : Nat) : Fence := Fence.wide.inRound l
def notDefer (o : Oper) : Bool := match o.op with | .defer _ => false | _ => true
theorem notDefer_spec {o : Oper} (h : notDefer o = true) (c : Call) : o.op ≠ .defer c := by
  intro e
  simp [notDefer, e] at h
section
variable {P : Program} {l n : Nat} {Q : Exit → Act → World → Prop} {ops : Array Oper} {md : Region.Mode}
theorem oper_round {o : Oper} {a : Act} {w : World} {K : Act → World → Prop} (hd : notDefer o = true) (h : o.wp P a w K Q) : o.wpIn (RF l) n P a w K Q := by
  refine ⟨fun _ _ => trivial, ?_⟩
  rw [Oper.semAt_eq _ _ _ (notDefer_spec hd)]
  unfold Oper.wp at h
  generalize (execOp a.eval o).run P w = r at *
  cases r with
  | ok x w' =>
    cases x <;> simp only [Oper.upon] at h <;> simp only [Oper.uponIn]
    case value => exact h
    case skip => exact h
    case defer => exact h
    case enter f args => exact ⟨fun hh => by simp [Fence.wide] at hh, (CallsIn.inRound l (callsIn_wide.2 h)).mono fun e w'' he => by cases e <;> exact he⟩
    case row r args => exact ⟨fun hh => by simp [Fence.wide] at hh, fun c cs _ => let ⟨v, w', r, s⟩ := h c cs; ⟨v, w', r, stepsIn_wide.2 s⟩⟩
  | halt x w' => cases x <;> simp only [Oper.upon] at h <;> simp only [Oper.uponIn] <;> exact h
theorem list_round (hQ : ¬ LetsOut Q) : ∀ (L : List Oper), L.all notDefer = true → ∀ a w, wpList P ops Q L a w → wpListIn (RF l) n P ops Q L a w
  | [], _, _, _, h => h
  | o :: L, hd, a, w, h => by
    simp only [List.all_cons, Bool.and_eq_true] at hd
    simp only [wpList] at h
    simp only [wpListIn]
    split
    · rename_i hw
      simp only [hw, if_true] at h
      rcases h with h | ⟨_, h⟩
      · exact oper_round hd.1 (Oper.wp_mono (fun a w h => list_round hQ L hd.2 a w h) h)
      · exact absurd h hQ
    · rename_i hw
      simp only [hw] at h
      exact ⟨fun _ _ => trivial, list_round hQ L hd.2 _ _ h⟩
theorem any_round (hQ : ¬ LetsOut Q) (hd : ops.toList.all notDefer = true) : ∀ (g : Nat) (listed : Array Bool) (a : Act) (w : World), wpAny P md ops Q g listed a w → wpAnyIn (RF l) n P md ops Q g listed a w
  | 0, _, _, _, h => h
  | g + 1, listed, a, w, h => by
    refine ⟨h.1, fun i hi => ?_⟩
    have h := h.2 i hi
    unfold wpOp at h
    unfold wpOpIn
    split
    · rename_i ho
      simp only [ho] at h
      exact any_round hQ hd g _ _ _ h
    · rename_i o ho
      simp only [ho] at h
      have hdo : notDefer o = true := List.all_eq_true.1 hd o (by
        have := Array.mem_of_getElem? ho
        simpa using this)
      split
      · rename_i hw
        simp only [hw, if_true] at h
        rcases h with h | ⟨_, h⟩
        · exact oper_round hdo (Oper.wp_mono (fun a w h => any_round hQ hd g _ a w h) h)
        · exact absurd h hQ
      · rename_i hw
        simp only [hw] at h
        exact ⟨fun _ _ => trivial, any_round hQ hd g _ _ _ h⟩
/-- A region in the order of the text, inside a round. -/
theorem region_round {id : Nat} {a : Act} {w : World} {L : List Oper} (hQ : ¬ LetsOut Q) (hd : L.all notDefer = true) (h : wpList P L.toArray Q L a w) : (Code.region id L.toArray false).wpIn (RF l) n P Q a w :=
  wpIn_region_list (list_round hQ _ (by simpa using hd) a w (by simpa using h))
/-- A region that draws its order, inside a round. -/
theorem region_drawn_round {id : Nat} {a : Act} {w : World} {L : List Oper} (hm : P.follows .mixedOrders = true) (hQ : ¬ LetsOut Q) (hd : L.all notDefer = true)
    (h : wpAny P .any L.toArray Q L.toArray.size (Array.replicate L.toArray.size false) a w.drew) : (Code.region id L.toArray true).wpIn (RF l) n P Q a w :=
  wpIn_region_any hm (any_round hQ (by simpa using hd) _ _ _ _ h)
theorem wpAny_qtail (C : World → Prop) {a : Act} {w : World} {L : List Oper} (n : Nat) (hB : Region.lexTailB .any L.toArray n = true) (hC : C w.drew)
    (h : wpQuiet P L.toArray C (fun a' => ∀ w', C w' → wpList P L.toArray Q (L.drop n) a' w') (L.take n) a) : wpAny P .any L.toArray Q L.toArray.size (Array.replicate L.toArray.size false) a w.drew := by
  simp only [Region.lexTailB, Bool.and_eq_true, decide_eq_true_eq] at hB
  obtain ⟨⟨⟨⟨hsel, hn⟩, hs⟩, hc⟩, hlex⟩ := hB
  have hn' : n < L.length := by simpa using hn
  have htl : (L.take n).length = n := by simp; omega
  have hdl : (L.drop n).length = L.toArray.size - n := by simp
  have inv0 : HeadInv .any L.toArray n (Array.replicate L.toArray.size false) :=
    ⟨by simp, fun j oj _ hl => (by rw [getD_replicate_false] at hl; cases hl), fun t _ ht => getD_in (by simpa using ht) (getD_replicate_false _ _)⟩
  have H := wpAnyQL_lex (md := .any) (C := C) (g := L.toArray.size - n) hsel hs hc hn (L.take n) 0 _ a (fun j hj => by
    have hj' : j < n := by rw [htl] at hj; exact hj
    simp [hj']) (by simpa using htl) inv0 (by rw [htl]; exact hlex) h
  have := wpAny_of_headQ (Q' := Q) (g := L.toArray.size - n) (fun listed a' w' hw' hL => by
    have := wpAny_of_seq (md := .any) (Q' := Q) (L.drop n) n listed a' w' (fun j => by simp [List.getElem?_drop]) (by rw [hdl]; exact hL.1) (hL.2 w' hw')
    rwa [hdl] at this) _ _ _ w.drew hC H
  rw [htl, show n + (L.toArray.size - n) = L.toArray.size by omega] at this
  exact this
/-- A region that draws its order, inside a round: the first n operations of one value, the rest behind. -/
theorem region_qtail_round (C : World → Prop) {id : Nat} {a : Act} {w : World} {L : List Oper} (k : Nat) (hm : P.follows .mixedOrders = true) (hQ : ¬ LetsOut Q) (hd : L.all notDefer = true) (hB : Region.lexTailB .any L.toArray k = true) (hC : C w.drew)
    (h : wpQuiet P L.toArray C (fun a' => ∀ w', C w' → wpList P L.toArray Q (L.drop k) a' w') (L.take k) a) : (Code.region id L.toArray true).wpIn (RF l) n P Q a w :=
  region_drawn_round hm hQ hd (wpAny_qtail C k hB hC h)
end

/-! ### the marks -/
def markOf (D : Nat) : Deferred := { target := .collected D, args := #[] }
/-- The rows of w are those of w'. -/
def RowsKept (w w' : World) : Prop := ∀ b t cs, Row w b t cs → Row w' b t cs
theorem RowsKept.refl (w : World) : RowsKept w w := fun _ _ _ h => h
theorem RowsKept.trans {a b c : World} (h : RowsKept a b) (k : RowsKept b c) : RowsKept a c := fun _ _ _ x => k _ _ _ (h _ _ _ x)
theorem RowsKept.putObj {w : World} {D : Nat} {o o' : Obj} (h : w.heap[D]? = some o) (hc : o.isCells = false) : RowsKept w (w.putObj D o') := by
  intro b t cs hr
  have hne : b ≠ D := by
    rintro rfl
    have := hr.heap
    rw [h] at this
    cases this
    cases hc
  exact (row_congr (World.putObj_heap_other hne)).trans hr
theorem leaves_marks {P : Program} {n n0 : Nat} {fn : Func} {tmps : Array Value} {R : Ending → World → Prop} : ∀ (Ds : List Nat) (w : World), Ds.Nodup → (∀ D, D ∈ Ds → n0 ≤ D ∧ w.heap[D]? = some (.deferred (some []))) →
    (∀ w', RowsKept w w' → Below n0 w w' → ∃ v, (results fn tmps).run P w' = .ok v w' ∧ R (.returned v) w') → LeavesInM Fence.wide n P fn tmps R (Ds.map markOf) .returning w
  | [], w, _, _, h => h w (RowsKept.refl w) (Below.refl _ w)
  | D :: Ds, w, hnd, hD, h => by
    obtain ⟨h0, h1⟩ := hD D (by simp)
    refine ⟨by simp, .inl ⟨D, _, rfl, run_takeDeferred h1, ?_⟩⟩
    rw [List.nodup_cons] at hnd
    have hlt := (Array.getElem?_eq_some_iff.1 h1).1
    have hb : Below n0 w (w.putObj D (.deferred none)) := (Below.refl n0 w).grown (grownBy_putObj' w D _) (by omega) (fun k e => by cases e; omega)
    refine leaves_marks Ds _ hnd.2 (fun E hE => ⟨(hD E (by simp [hE])).1, ?_⟩) (fun w' hr hb' => h w' ((RowsKept.putObj h1 rfl).trans hr) (hb.trans hb'))
    have hne : E ≠ D := fun e => hnd.1 (e ▸ hE)
    exact (World.putObj_heap_other hne).trans (hD E (by simp [hE])).2
end Go.Proofs.Ytjopgogaipkdbaa
