/- Part of the proof: HTo, HBuildB, HToA. No conditions of its own. -/
import Derived.Below
import Derived.BigQuiet
import Derived.ChangeOld
import Derived.Deep.CutBlock
import Derived.Deep.DeepCutAuto
import Derived.Deep.Draws
import Derived.Deep.LoopGhost
import Derived.Deep.Quiet
import Derived.Deep.QuietTactic
import Derived.Deep.RegionLaw
import Derived.Great.BuildSlice
import Derived.Great.FillDense
import Derived.Laws.AppendOwn
import Derived.Laws.AppendOwnNone
import Derived.Laws.BytesArg
import Derived.Laws.Concat
import Derived.Laws.MakeOwn
import Derived.Lib.AppendZerosOnto
import Derived.Lib.BufferWrite
import Derived.Lib.ConvBytes
import Derived.Lib.Hide
import Derived.Lib.SlBytesConst
import Derived.OpenShut
import Derived.ProofKit
import Derived.ShutString
import Derived.StillTail
import Derived.Stop.BytesEq
import Derived.Test.YtnenoecmmelehaaProg
import Derived.WalkKit
import Derived.WalkLawsBesides
import Derived.WalkSpells
import Derived.Test.YtnenoecmmelehaaK29
import Derived.Test.YtnenoecmmelehaaK06
import Derived.Test.YtnenoecmmelehaaK07
namespace Go.Proofs.Ytnenoecmmelehaa
open Go.RowKit
set_option linter.unusedVariables false

theorem run_str (w : World) (l : List UInt8) (hl : l.length ≤ 1000000) :
    ∃ v w', (convert 9 27 (S l)).run Try.prog w = .ok v w' ∧ SlT w' v l ∧ Below w.heap.size w w' := by
  have hrun := Lib.run_convert_string_bytes (P := Try.prog) w 9 27 5 ⟨l.toArray⟩ Try.underlying9 Try.underlying27 Try.underlying5
  have hsz : (⟨l.toArray⟩ : ByteArray).size = l.length := by simp [ByteArray.size]
  have hge := grownCap_ge w l.length 0 5
  have hle := grownCap_le_maxLen w l.length 0 5 (by unfold maxLen; omega)
  rw [hsz] at hrun
  refine ⟨_, _, hrun, ⟨⟨_, _, rfl, hge, hle, (fun h => by cases h), fun ad had => ?_⟩, fun ad had => ?_⟩, ⟨rfl, rfl, rfl, by rw [Lib.bytesWorld_size]; omega, fun k hk => Lib.bytesWorld_at_old w _ _ k hk⟩⟩
  · obtain rfl := Option.some.inj had
    refine ⟨rfl, fun i hi => ?_⟩
    have := Lib.bytesWorld_cell w 5 ⟨l.toArray⟩ i (by rw [hsz]; exact hi)
    rw [Nat.zero_add, this]
    simp [gb]
  · obtain rfl := Option.some.inj had
    exact ⟨_, _, Lib.bytesWorld_at_new w _ _⟩
section
variable {ops : Array Oper} {W : World} {fs ds : List Tmp} {T : List (Nat × FK)} {ν : Tmp → Value} {E : Act → List Tmp → Prop} {done : List Tmp} {o : Oper} {l : List Oper} {a : Act}
theorem wpF_str (s : List UInt8) (x : Operand) (ho : o.op = .convert 9 27 x) (hx : a.eval x = S s) (hs : s.length ≤ 1000000)
    (hf : isF fs o = true) (hw : Region.wanted o (yielded ops a.tmps) = true) (hT : ∀ d, o.dst = some d → T.lookup d = some (.new s))
    (h : wpF Try.prog ops W fs ds (phi W.heap.size T) ν E (o.dst.toList ++ done) l (a.put o.dst (vqF ν o))) : wpF Try.prog ops W fs ds (phi W.heap.size T) ν E done (o :: l) a :=
  wpF_gen hf hw (fun w hB hk => by
    obtain ⟨v, w', h1, h2, h3⟩ := run_str w s hs
    refine ⟨v, w', ?_, fun d hd => ?_, GB.of hB.size h3⟩
    · unfold execOp
      simp only [ho, Sem.run_bind, hx, h1]
      rfl
    · unfold phi
      rw [hT d hd]
      exact h2) h
end
end Go.Proofs.Ytnenoecmmelehaa

namespace Go.Proofs.Ytnenoecmmelehaa
open Go.RowKit

set_option maxRecDepth 100000 in
theorem built_h_lit (k life age : Int) (a0 a1 a2 a3 a4 a5 a6 a7 a8 a9 a10 a11 a12 a13 a14 a15 a16 a17 a18 a19 a20 a21 a22 a23 a24 a25 a26 a27 a28 a29 a30 a31 b0 b1 b2 b3 b4 b5 b6 b7 b8 b9 b10 b11 b12 b13 b14 b15 b16 b17 b18 b19 b20 b21 b22 b23 b24 b25 b26 b27 b28 b29 b30 b31 : Value) (p1 p2 p3 p4 p5 : Option Addr) (n1 n2 n3 n4 n5 c1 c2 c3 c4 c5 : Nat) (psk retry : Bool) :
    Try.prog.built 30 [(0, .int .i64 k), (1, .agg #[a0, a1, a2, a3, a4, a5, a6, a7, a8, a9, a10, a11, a12, a13, a14, a15, a16, a17, a18, a19, a20, a21, a22, a23, a24, a25, a26, a27, a28, a29, a30, a31]), (2, .agg #[b0, b1, b2, b3, b4, b5, b6, b7, b8, b9, b10, b11, b12, b13, b14, b15, b16, b17, b18, b19, b20, b21, b22, b23, b24, b25, b26, b27, b28, b29, b30, b31]), (3, .slice p1 n1 c1), (4, .slice p2 n2 c2), (5, .slice p3 n3 c3), (6, .slice p4 n4 c4), (7, .slice p5 n5 c5), (9, .int .i64 life), (10, .int .i64 age), (11, .bool psk), (12, .bool retry)] = some #[.int .i64 k, a0, a1, a2, a3, a4, a5, a6, a7, a8, a9, a10, a11, a12, a13, a14, a15, a16, a17, a18, a19, a20, a21, a22, a23, a24, a25, a26, a27, a28, a29, a30, a31, b0, b1, b2, b3, b4, b5, b6, b7, b8, b9, b10, b11, b12, b13, b14, b15, b16, b17, b18, b19, b20, b21, b22, b23, b24, b25, b26, b27, b28, b29, b30, b31, .slice p1 n1 c1, .slice p2 n2 c2, .slice p3 n3 c3, .slice p4 n4 c4, .slice p5 n5 c5, .slice none 0 0, .int .i64 life, .int .i64 age, .bool psk, .bool retry] := by kernel_rfl
theorem built_h (k life age : Int) (r mk : List UInt8) (p1 p2 p3 p4 p5 : Option Addr) (n1 n2 n3 n4 n5 c1 c2 c3 c4 c5 : Nat) (psk retry : Bool) :
    Try.prog.built 30 [(0, .int .i64 k), (1, .agg (AB (fx r))), (2, .agg (AB (fx mk))), (3, .slice p1 n1 c1), (4, .slice p2 n2 c2), (5, .slice p3 n3 c3), (6, .slice p4 n4 c4), (7, .slice p5 n5 c5), (9, .int .i64 life), (10, .int .i64 age), (11, .bool psk), (12, .bool retry)] = some (mD k r mk [.slice p1 n1 c1, .slice p2 n2 c2, .slice p3 n3 c3, .slice p4 n4 c4, .slice p5 n5 c5, .slice none 0 0, .int .i64 life, .int .i64 age, .bool psk, .bool retry]) := by
  obtain ⟨a0, a1, a2, a3, a4, a5, a6, a7, a8, a9, a10, a11, a12, a13, a14, a15, a16, a17, a18, a19, a20, a21, a22, a23, a24, a25, a26, a27, a28, a29, a30, a31, ea⟩ := list32 ((fx r).map B) (by simpa using fx_len r)
  obtain ⟨b0, b1, b2, b3, b4, b5, b6, b7, b8, b9, b10, b11, b12, b13, b14, b15, b16, b17, b18, b19, b20, b21, b22, b23, b24, b25, b26, b27, b28, b29, b30, b31, eb⟩ := list32 ((fx mk).map B) (by simpa using fx_len mk)
  unfold mD mC AB
  rw [ea, eb]
  exact built_h_lit k life age _ _ _ _ _ _ _ _ _ _ _ _ _ _ _ _ _ _ _ _ _ _ _ _ _ _ _ _ _ _ _ _ _ _ _ _ _ _ _ _ _ _ _ _ _ _ _ _ _ _ _ _ _ _ _ _ _ _ _ _ _ _ _ _ p1 p2 p3 p4 p5 n1 n2 n3 n4 n5 c1 c2 c3 c4 c5 psk retry
set_option maxRecDepth 100000 in
theorem built_r_lit (k life age : Int) (a0 a1 a2 a3 a4 a5 a6 a7 a8 a9 a10 a11 a12 a13 a14 a15 a16 a17 a18 a19 a20 a21 a22 a23 a24 a25 a26 a27 a28 a29 a30 a31 b0 b1 b2 b3 b4 b5 b6 b7 b8 b9 b10 b11 b12 b13 b14 b15 b16 b17 b18 b19 b20 b21 b22 b23 b24 b25 b26 b27 b28 b29 b30 b31 : Value) (s1 s2 s3 s4 s5 : List UInt8) (psk retry : Bool) :
    Try.prog.built 25 [(0, .int .i64 k), (1, .agg #[a0, a1, a2, a3, a4, a5, a6, a7, a8, a9, a10, a11, a12, a13, a14, a15, a16, a17, a18, a19, a20, a21, a22, a23, a24, a25, a26, a27, a28, a29, a30, a31]), (2, .agg #[b0, b1, b2, b3, b4, b5, b6, b7, b8, b9, b10, b11, b12, b13, b14, b15, b16, b17, b18, b19, b20, b21, b22, b23, b24, b25, b26, b27, b28, b29, b30, b31]), (3, S s1), (4, S s2), (5, S s3), (6, S s4), (7, S s5), (9, .int .i64 life), (10, .int .i64 age), (11, .bool psk), (12, .bool retry)] = some #[.int .i64 k, a0, a1, a2, a3, a4, a5, a6, a7, a8, a9, a10, a11, a12, a13, a14, a15, a16, a17, a18, a19, a20, a21, a22, a23, a24, a25, a26, a27, a28, a29, a30, a31, b0, b1, b2, b3, b4, b5, b6, b7, b8, b9, b10, b11, b12, b13, b14, b15, b16, b17, b18, b19, b20, b21, b22, b23, b24, b25, b26, b27, b28, b29, b30, b31, S s1, S s2, S s3, S s4, S s5, .slice none 0 0, .int .i64 life, .int .i64 age, .bool psk, .bool retry] := by kernel_rfl
theorem built_r (k life age : Int) (r mk : List UInt8) (s1 s2 s3 s4 s5 : List UInt8) (psk retry : Bool) :
    Try.prog.built 25 [(0, .int .i64 k), (1, .agg (AB (fx r))), (2, .agg (AB (fx mk))), (3, S s1), (4, S s2), (5, S s3), (6, S s4), (7, S s5), (9, .int .i64 life), (10, .int .i64 age), (11, .bool psk), (12, .bool retry)] = some (mD k r mk [S s1, S s2, S s3, S s4, S s5, .slice none 0 0, .int .i64 life, .int .i64 age, .bool psk, .bool retry]) := by
  obtain ⟨a0, a1, a2, a3, a4, a5, a6, a7, a8, a9, a10, a11, a12, a13, a14, a15, a16, a17, a18, a19, a20, a21, a22, a23, a24, a25, a26, a27, a28, a29, a30, a31, ea⟩ := list32 ((fx r).map B) (by simpa using fx_len r)
  obtain ⟨b0, b1, b2, b3, b4, b5, b6, b7, b8, b9, b10, b11, b12, b13, b14, b15, b16, b17, b18, b19, b20, b21, b22, b23, b24, b25, b26, b27, b28, b29, b30, b31, eb⟩ := list32 ((fx mk).map B) (by simpa using fx_len mk)
  unfold mD mC AB
  rw [ea, eb]
  exact built_r_lit k life age _ _ _ _ _ _ _ _ _ _ _ _ _ _ _ _ _ _ _ _ _ _ _ _ _ _ _ _ _ _ _ _ _ _ _ _ _ _ _ _ _ _ _ _ _ _ _ _ _ _ _ _ _ _ _ _ _ _ _ _ _ _ _ _ s1 s2 s3 s4 s5 psk retry
end Go.Proofs.Ytnenoecmmelehaa

namespace Go.Proofs.Ytnenoecmmelehaa
open Go.RowKit
set_option linter.unusedVariables false

def zH : Array Value := mD 0 zero32 zero32 [.slice none 0 0, .slice none 0 0, .slice none 0 0, .slice none 0 0, .slice none 0 0, .slice none 0 0, .int .i64 0, .int .i64 0, .bool false, .bool false]
set_option maxRecDepth 100000 in
theorem zero_hmsg (w : World) : (zeroValue 30).run Try.prog w = .ok (.agg zH) w := by kernel_rfl
theorem zH_size : zH.size = 75 := mD_sz
theorem over_zH (k : Int) (r mk : List UInt8) (v0 v1 v2 v3 v4 v5 v6 v7 v8 v9 : Value) : over zH 0 (mD k r mk [v0, v1, v2, v3, v4, v5, v6, v7, v8, v9]) = mD k r mk [v0, v1, v2, v3, v4, v5, v6, v7, v8, v9] := over_all _ _ (zH_size.trans mD_sz.symm)
attribute [go_sem ↓] over_zH
attribute [go_sem] zero_hmsg zH_size
theorem exec_built (T : TypeId) (o : Oper) (a : Act) (xs : Array (Nat × Operand)) (vs : List (Nat × Value)) (C : Array Value) (ho : o.op = .build T xs) (hv : xs.toList.map (fun p => (p.1, a.eval p.2)) = vs) (hb : Try.prog.built T vs = some C) (w : World) : (execOp a.eval o).run Try.prog w = .ok (.value (.agg C)) w := by
  have hv' : xs.map (fun p => (p.1, a.eval p.2)) = vs.toArray := by
    apply Array.ext'
    simpa using hv
  unfold execOp
  simp only [ho, Sem.run_bind]
  rw [show xs.map (fun x => match x with | (i, x) => (i, a.eval x)) = vs.toArray from hv', run_build w _ _ _ hb]
  rfl
theorem SlT.setCell {w : World} {v : Value} {l : List UInt8} (h : SlT w v l) {g : Nat} {t : TypeId} {cs : Array Value} (hr : Row w g t cs) (ht : t ≠ 5) (i : Nat) (u : Value) : SlT (w.setCell ⟨g, i, none⟩ u) v l := by
  have key : ∀ ad, addrV v = some ad → (w.setCell ⟨g, i, none⟩ u).heap[ad.block]? = w.heap[ad.block]? := fun ad had => by
    obtain ⟨cs', f, hf⟩ := h.2 ad had
    refine heap_setCell_other w _ _ u fun e => ?_
    have e : ad.block = g := e
    rw [e, hr.heap] at hf
    simp only [Option.some.injEq, Obj.cells.injEq] at hf
    exact ht hf.2.1
  refine ⟨?_, fun ad had => by rw [key ad had]; exact h.2 ad had⟩
  obtain ⟨⟨a, cap, e, h1, h2, h3, h4⟩, _⟩ := h
  refine ⟨a, cap, e, h1, h2, h3, fun ad had => ⟨(h4 ad had).1, fun j hj => ?_⟩⟩
  have := key ad (by rw [e]; exact had)
  rw [show (w.setCell ⟨g, i, none⟩ u).cell? ⟨ad.block, ad.off + j, none⟩ = w.cell? ⟨ad.block, ad.off + j, none⟩ by simp only [World.cell?, this]]
  exact (h4 ad had).2 j hj
theorem RowT.setCell {w : World} {g : Nat} {t : TypeId} {cs : Array Value} (hr : Row w g t cs) (ht : t ≠ 5) (i : Nat) (u : Value) : ∀ {vs : List Value} {ls : List (List UInt8)}, RowT w vs ls → RowT (w.setCell ⟨g, i, none⟩ u) vs ls
  | [], [], _ => trivial
  | _ :: _, _ :: _, h => ⟨h.1.setCell hr ht i u, RowT.setCell hr ht i u h.2⟩
  | [], _ :: _, h => h.elim
  | _ :: _, [], h => h.elim
theorem OwnP.setCell {w : World} {base : Nat} {v : Value} {ls : List (List UInt8)} (h : OwnP w base v ls) {g : Nat} {t : TypeId} {cs : Array Value} (hr : Row w g t cs) (ht : t ≠ 5) (ht2 : t ≠ 27) (i : Nat) (u : Value) : OwnP (w.setCell ⟨g, i, none⟩ u) base v ls := by
  obtain ⟨vs, h1, h2⟩ := h
  refine ⟨vs, ⟨h1.1, h1.2.imp id fun ⟨k, cap, cur, hv, hg, hh, h3⟩ => ⟨k, cap, cur, hv, hg, ?_, h3⟩⟩, h2.setCell hr ht i u⟩
  rw [heap_setCell_other w _ _ u (fun e => ?_)]
  · exact hh
  · have e : k = g := e
    rw [e, hr.heap] at hh
    simp only [Option.some.injEq, Obj.cells.injEq] at hh
    exact ht2 hh.2.1
theorem gen_wpl {l : List Oper} {ops : Array Oper} {Q : Exit → Act → World → Prop} {a : Act} {w : World} (R : World → Prop) (h : R w) (k : ∀ w, R w → wpList Try.prog ops Q l a w) : wpList Try.prog ops Q l a w := k w h
end Go.Proofs.Ytnenoecmmelehaa
