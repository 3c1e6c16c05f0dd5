/- Operations of a region that draws its order, in the class of all worlds that are as W below n. -/
import Derived.Test.YtjopgogaipkdbaaQuiet
namespace Go.Proofs.Ytjopgogaipkdbaa
open Go.RowKit
/-! ### the class of all worlds that are as W below n -/
section
variable {P : Program} {n : Nat} {W : World} {o : Oper} {a : Act} {K : Act → Prop}
theorem qb_loadA (ty : TypeId) (x : Operand) (ho : o.op = .load ty x) (g off : Nat) (hx : a.eval x = .pointer (some ⟨g, off, none⟩)) (t : TypeId) (cs : Array Value) (hr : Row W g t cs) (hgn : g < n)
    (h1 : ∀ w, (isAgg ty).run P w = .ok true w) (sz : Nat) (h2 : ∀ w, (sizeOf ty).run P w = .ok sz w) (hs : off + sz ≤ cs.size) (v : Array Value) (hv : sub cs off sz = v) (hk : K (a.put o.dst (.agg v))) : o.quiet P a (Below n W) K := by
  refine ⟨.agg v, fun w' hw' => ?_, hk⟩
  have hr' := Row.below hr hw' hgn
  have hl := run_loadCells_sub (P := P) w' g off sz t cs hr' hs
  rw [hv] at hl
  unfold Oper.quietAt execOp
  simp only [ho, hx]
  simp [Instr.loadAt, Instr.sureAddr, loadVar, Sem.run_bind, h1, h2, hl, Oper.quietUpon]
theorem qb_load1 (ty : TypeId) (x : Operand) (ho : o.op = .load ty x) (g off : Nat) (hx : a.eval x = .pointer (some ⟨g, off, none⟩)) (t : TypeId) (cs : Array Value) (hr : Row W g t cs) (hgn : g < n)
    (h1 : ∀ w, (isAgg ty).run P w = .ok false w) (v : Value) (hv : cs[off]? = some v) (hk : K (a.put o.dst v)) : o.quiet P a (Below n W) K := by
  refine ⟨v, fun w' hw' => ?_, hk⟩
  have hc := (Row.below hr hw' hgn).cell off
  rw [hv] at hc
  unfold Oper.quietAt execOp
  simp only [ho, hx]
  simp [Instr.loadAt, Instr.sureAddr, loadVar, Sem.run_bind, h1, run_load, hc, Oper.quietUpon]
theorem qb_call (f : FuncId) (args : Array Value) (hrun : ∀ w, (execOp a.eval o).run P w = .ok (.enter f args) w) (v : Value)
    (hc : ∀ w', Below n W w' → Calls P f args w' (fun e w'' => e = .returned v ∧ Below w'.heap.size w' w'')) (hn : n ≤ W.heap.size) (hk : K (a.put o.dst v)) : o.quiet P a (Below n W) K := by
  refine ⟨v, fun w' hw' => ?_, hk⟩
  unfold Oper.quietAt
  rw [hrun]
  exact ⟨rfl, (hc w' hw').mono fun e w'' h => ⟨h.1, hw'.trans (h.2.mono (Nat.le_trans hn hw'.size))⟩⟩
theorem qb_pure (v : Value) (hrun : ∀ w, (execOp a.eval o).run P w = .ok (.value v) w) (hk : K (a.put o.dst v)) : o.quiet P a (Below n W) K := by
  refine ⟨v, fun w' _ => ?_, hk⟩
  unfold Oper.quietAt
  rw [hrun]
  exact ⟨rfl, rfl⟩
end
end Go.Proofs.Ytjopgogaipkdbaa
