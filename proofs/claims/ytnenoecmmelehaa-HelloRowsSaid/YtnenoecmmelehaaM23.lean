/- Part of the proof: HToA. No conditions of its own. -/
import Derived.Below
import Derived.BigQuiet
import Derived.ChangeOld
import Derived.Deep.CutBlock
import Derived.Deep.DeepCutAuto
import Derived.Deep.Draws
import Derived.Deep.LoopGhost
import Derived.Deep.Quiet
import Derived.Deep.QuietTactic
import Derived.Deep.RegionLaw
import Derived.Great.BuildSlice
import Derived.Great.FillDense
import Derived.Laws.AppendOwn
import Derived.Laws.AppendOwnNone
import Derived.Laws.BytesArg
import Derived.Laws.Concat
import Derived.Laws.MakeOwn
import Derived.Lib.AppendZerosOnto
import Derived.Lib.BufferWrite
import Derived.Lib.ConvBytes
import Derived.Lib.Hide
import Derived.Lib.SlBytesConst
import Derived.OpenShut
import Derived.ProofKit
import Derived.ShutString
import Derived.StillTail
import Derived.Stop.BytesEq
import Derived.Test.YtnenoecmmelehaaProg
import Derived.WalkKit
import Derived.WalkLawsBesides
import Derived.WalkSpells
import Derived.Test.YtnenoecmmelehaaM22
namespace Go.Proofs.Ytnenoecmmelehaa
open Go.RowKit
set_option linter.unusedVariables false

def zH : Array Value := mD 0 zero32 zero32 [.slice none 0 0, .slice none 0 0, .slice none 0 0, .slice none 0 0, .slice none 0 0, .slice none 0 0, .int .i64 0, .int .i64 0, .bool false, .bool false]
set_option maxRecDepth 100000 in
theorem zero_hmsg (w : World) : (zeroValue 30).run Try.prog w = .ok (.agg zH) w := by kernel_rfl
theorem zH_size : zH.size = 75 := mD_sz
theorem over_zH (k : Int) (r mk : List UInt8) (v0 v1 v2 v3 v4 v5 v6 v7 v8 v9 : Value) : over zH 0 (mD k r mk [v0, v1, v2, v3, v4, v5, v6, v7, v8, v9]) = mD k r mk [v0, v1, v2, v3, v4, v5, v6, v7, v8, v9] := over_all _ _ (zH_size.trans mD_sz.symm)
attribute [go_sem ↓] over_zH
attribute [go_sem] zero_hmsg zH_size
theorem exec_built (T : TypeId) (o : Oper) (a : Act) (xs : Array (Nat × Operand)) (vs : List (Nat × Value)) (C : Array Value) (ho : o.op = .build T xs) (hv : xs.toList.map (fun p => (p.1, a.eval p.2)) = vs) (hb : Try.prog.built T vs = some C) (w : World) : (execOp a.eval o).run Try.prog w = .ok (.value (.agg C)) w := by
  have hv' : xs.map (fun p => (p.1, a.eval p.2)) = vs.toArray := by
    apply Array.ext'
    simpa using hv
  unfold execOp
  simp only [ho, Sem.run_bind]
  rw [show xs.map (fun x => match x with | (i, x) => (i, a.eval x)) = vs.toArray from hv', run_build w _ _ _ hb]
  rfl
theorem SlT.setCell {w : World} {v : Value} {l : List UInt8} (h : SlT w v l) {g : Nat} {t : TypeId} {cs : Array Value} (hr : Row w g t cs) (ht : t ≠ 5) (i : Nat) (u : Value) : SlT (w.setCell ⟨g, i, none⟩ u) v l := by
  have key : ∀ ad, addrV v = some ad → (w.setCell ⟨g, i, none⟩ u).heap[ad.block]? = w.heap[ad.block]? := fun ad had => by
    obtain ⟨cs', f, hf⟩ := h.2 ad had
    refine heap_setCell_other w _ _ u fun e => ?_
    have e : ad.block = g := e
    rw [e, hr.heap] at hf
    simp only [Option.some.injEq, Obj.cells.injEq] at hf
    exact ht hf.2.1
  refine ⟨?_, fun ad had => by rw [key ad had]; exact h.2 ad had⟩
  obtain ⟨⟨a, cap, e, h1, h2, h3, h4⟩, _⟩ := h
  refine ⟨a, cap, e, h1, h2, h3, fun ad had => ⟨(h4 ad had).1, fun j hj => ?_⟩⟩
  have := key ad (by rw [e]; exact had)
  rw [show (w.setCell ⟨g, i, none⟩ u).cell? ⟨ad.block, ad.off + j, none⟩ = w.cell? ⟨ad.block, ad.off + j, none⟩ by simp only [World.cell?, this]]
  exact (h4 ad had).2 j hj
theorem RowT.setCell {w : World} {g : Nat} {t : TypeId} {cs : Array Value} (hr : Row w g t cs) (ht : t ≠ 5) (i : Nat) (u : Value) : ∀ {vs : List Value} {ls : List (List UInt8)}, RowT w vs ls → RowT (w.setCell ⟨g, i, none⟩ u) vs ls
  | [], [], _ => trivial
  | _ :: _, _ :: _, h => ⟨h.1.setCell hr ht i u, RowT.setCell hr ht i u h.2⟩
  | [], _ :: _, h => h.elim
  | _ :: _, [], h => h.elim
theorem OwnP.setCell {w : World} {base : Nat} {v : Value} {ls : List (List UInt8)} (h : OwnP w base v ls) {g : Nat} {t : TypeId} {cs : Array Value} (hr : Row w g t cs) (ht : t ≠ 5) (ht2 : t ≠ 27) (i : Nat) (u : Value) : OwnP (w.setCell ⟨g, i, none⟩ u) base v ls := by
  obtain ⟨vs, h1, h2⟩ := h
  refine ⟨vs, ⟨h1.1, h1.2.imp id fun ⟨k, cap, cur, hv, hg, hh, h3⟩ => ⟨k, cap, cur, hv, hg, ?_, h3⟩⟩, h2.setCell hr ht i u⟩
  rw [heap_setCell_other w _ _ u (fun e => ?_)]
  · exact hh
  · have e : k = g := e
    rw [e, hr.heap] at hh
    simp only [Option.some.injEq, Obj.cells.injEq] at hh
    exact ht2 hh.2.1
theorem gen_wpl {l : List Oper} {ops : Array Oper} {Q : Exit → Act → World → Prop} {a : Act} {w : World} (R : World → Prop) (h : R w) (k : ∀ w, R w → wpList Try.prog ops Q l a w) : wpList Try.prog ops Q l a w := k w h
end Go.Proofs.Ytnenoecmmelehaa
