/- Part of the proof: HRefBody, HRefBodyB, Door, HRefBodyN, HRefBodyC, HRefBodyD, HRefBodyE, HRefBodyF, HGuess, HRefBodyG, HRefWrite, HTo, HBuildB. No conditions of its own. -/
import Derived.Below
import Derived.BigQuiet
import Derived.Deep.CutBlock
import Derived.Deep.DeepCutAuto
import Derived.Deep.Draws
import Derived.Deep.LoopGhost
import Derived.Deep.Quiet
import Derived.Deep.QuietTactic
import Derived.Deep.RegionLaw
import Derived.Great.BuildSlice
import Derived.Great.FillDense
import Derived.Laws.AppendOwn
import Derived.Laws.AppendOwnNone
import Derived.Laws.BytesArg
import Derived.Laws.Concat
import Derived.Laws.MakeOwn
import Derived.Lib.AppendZerosOnto
import Derived.Lib.BufferWrite
import Derived.Lib.Hide
import Derived.Lib.SlBytesConst
import Derived.StillTail
import Derived.Stop.BytesEq
import Derived.Test.YtnenoecmmelehaaProg
import Derived.WalkKit
import Derived.WalkLawsBesides
import Derived.WalkSpells
import Derived.Test.YtnenoecmmelehaaM21
import Derived.ChangeOld
import Derived.OpenShut
import Derived.ProofKit
import Derived.ShutString
import Derived.Test.YtnenoecmmelehaaM02
import Derived.Test.YtnenoecmmelehaaM13
import Derived.Lib.ConvBytes
import Derived.Test.YtnenoecmmelehaaM06
import Derived.Test.YtnenoecmmelehaaM07
namespace Go.Proofs.Ytnenoecmmelehaa
open Go.RowKit
set_option linter.unusedVariables false
set_option linter.unusedSimpArgs false

end Go.Proofs.Ytnenoecmmelehaa

namespace Go.Proofs.Ytnenoecmmelehaa
open Go.RowKit
set_option linter.unusedVariables false
set_option linter.unusedSimpArgs false

end Go.Proofs.Ytnenoecmmelehaa

namespace Go.Proofs.Ytnenoecmmelehaa
open Go.RowKit

theorem wf_byte {n : Int} (h : (Lit.int .u8 n).wf = true) : ∃ x : UInt8, n = (x.toNat : Int) := by
  have hb := bounds_u8 h
  refine ⟨UInt8.ofNat n.toNat, ?_⟩
  rw [UInt8.toNat_ofNat']
  omega
section
variable {H : Type} {enc : TypeId × Value → H} {P : Program} {w : World} {base : Nat} {spare : Nat → Bool} {held : Bool}
theorem trod_arr {t e : TypeId} {n fuel : Nat} {cs : List Value} {x : DataW H × List MemPlace} (ht : P.underlying t = some (.array n e)) (he : P.underlying e = some (.int .u8)) (hc : P.cellsOf e = 1) (hct : P.cellsOf t = n)
    (h : DataW.trod enc P w base spare held fuel t cs = some x) : ∃ l : List UInt8, l.length = n ∧ cs = l.map B ∧ x.2 = [] := by
  obtain ⟨xs, m, _, rfl, hl, hxs, hel⟩ := DataW.trod_array ht h
  rw [hct] at hl
  have each : ∀ i, i < n → ∃ b : UInt8, cs[i]? = some (B b) ∧ ∃ y, xs[i]? = some y ∧ y.2 = [] := by
    intro i hi
    have h1 := hel i hi
    rw [hc, Nat.mul_one] at h1
    obtain ⟨y, hy⟩ : ∃ y, xs[i]? = some y := ⟨xs[i]'(by omega), List.getElem?_eq_getElem _⟩
    rw [hy] at h1
    obtain ⟨k, hk, rfl, hw⟩ := DataW.trod_int he h1
    obtain ⟨b, rfl⟩ := wf_byte hw
    refine ⟨b, ?_, _, hy, rfl⟩
    have := congrArg (·[0]?) hk
    simpa [List.getElem?_take, List.getElem?_drop] using this
  have hall : ∀ i, i < n → cs[i]? = some (B (gb ((cs.map fun v => match v with | .int _ k => UInt8.ofNat k.toNat | _ => 0)) i)) := by
    intro i hi
    obtain ⟨b, hb, _⟩ := each i hi
    rw [hb]
    simp [gb, hb]
  refine ⟨cs.map fun v => match v with | .int _ k => UInt8.ofNat k.toNat | _ => 0, by simpa using hl, ?_, ?_⟩
  · apply List.ext_getElem (by simp)
    intro i h1 h2
    have := hall i (by omega)
    rw [List.getElem?_eq_getElem h1] at this
    have := Option.some.inj this
    rw [this]
    simp [gb]
    congr
    simp [h1]
  · show xs.flatMap (·.2) = []
    rw [List.flatMap_eq_nil_iff]
    intro y hy
    obtain ⟨i, hi, hyi⟩ := List.getElem_of_mem hy
    obtain ⟨_, _, y', hy', h0⟩ := each i (by omega)
    rw [List.getElem?_eq_getElem hi, hyi] at hy'
    obtain rfl := Option.some.inj hy'
    exact h0
theorem open_byt {r : Reach} {b0 : Nat} {t e : TypeId} {v : Value} {d : DataW H} {ps : List MemPlace} (ht : P.underlying t = some (.slice e)) (he : P.underlying e = some (.int .u8)) (hc : P.cellsOf e = 1)
    (hval : Value.okWide P w r b0 t v) (hd : DataW.Trod enc P w 0 (fun _ => true) held t v d ps) : ∃ l : List UInt8, SlB w v l := by
  obtain ⟨a, len, cap, rfl⟩ := Go.WideShapes.okWide_slice ht hval
  obtain ⟨fuel, hf⟩ := hd
  rcases Go.ChangeShapes.open_ints ht he hc hf with ⟨hcs, _⟩ | ⟨x, l, c, zs, hcs, _, hl, hm, hz, _, hcell, hwz⟩
  · simp [Value.cells] at hcs
    obtain ⟨rfl, rfl, rfl⟩ := hcs
    exact ⟨[], none, 0, rfl, Nat.le_refl _, Nat.zero_le _, fun _ => rfl, fun _ h => by cases h⟩
  · simp [Value.cells] at hcs
    obtain ⟨rfl, rfl, rfl⟩ := hcs
    rw [if_pos rfl] at hz
    have hs : x.spot = none := by
      simp only [Value.okWide, ht, Cell.okWide, Cell.ok] at hval
      exact hval.2.2.2.1
    have hzs : ∀ i, i < cap → zs.getD i 0 = ((UInt8.ofNat (zs.getD i 0).toNat).toNat : Int) := by
      intro i hi
      have hmem : zs.getD i 0 ∈ zs := by
        rw [List.getD_eq_getElem?_getD, List.getElem?_eq_getElem (by omega)]
        exact List.getElem_mem _
      obtain ⟨y, hy⟩ := wf_byte (hwz _ hmem)
      rw [hy]
      simp
    refine ⟨(zs.take len).map fun k => UInt8.ofNat k.toNat, some x, cap, ?_, ?_, hm, (fun h => by cases h), fun ad had => ?_⟩
    · congr 1; simp; omega
    · simp; omega
    · obtain rfl := Option.some.inj had
      refine ⟨hs, fun i hi => ?_⟩
      have hi' : i < len := by simpa using (by simp at hi; omega : i < len)
      have h1 := hcell i (by omega)
      obtain ⟨b, o, s⟩ := x
      simp only at hs
      subst hs
      rw [Addr.add_lit] at h1
      rw [h1, hzs i (by omega)]
      simp [gb, hi', show i < zs.length by omega]
theorem SlB.of_row {w : World} {g n : Nat} {t : TypeId} {l : List UInt8} (h : Row w g t (AB l)) (hl : l.length = n) (hn : n ≤ maxLen) : SlB w (.slice (some ⟨g, 0, none⟩) n n) l := by
  subst hl
  refine ⟨_, l.length, rfl, Nat.le_refl _, hn, (fun h => by cases h), fun ad had => ?_⟩
  obtain rfl := Option.some.inj had
  refine ⟨rfl, fun i hi => ?_⟩
  rw [Nat.zero_add]
  exact h.byte i hi
end
end Go.Proofs.Ytnenoecmmelehaa

/- A slice of bytes that came in as a cell of a struct. -/
namespace Go.Proofs.Ytnenoecmmelehaa
open Go.RowKit
section
variable {H : Type} {enc : TypeId × Value → H} {P : Program} {w : World} {held : Bool}
end
end Go.Proofs.Ytnenoecmmelehaa

namespace Go.Proofs.Ytnenoecmmelehaa
open Go.RowKit
set_option linter.unusedVariables false
set_option linter.unusedSimpArgs false

end Go.Proofs.Ytnenoecmmelehaa

namespace Go.Proofs.Ytnenoecmmelehaa
open Go.RowKit
set_option linter.unusedVariables false
set_option linter.unusedSimpArgs false

end Go.Proofs.Ytnenoecmmelehaa

namespace Go.Proofs.Ytnenoecmmelehaa
open Go.RowKit
set_option linter.unusedVariables false
set_option linter.unusedSimpArgs false

end Go.Proofs.Ytnenoecmmelehaa

namespace Go.Proofs.Ytnenoecmmelehaa
open Go.RowKit
set_option linter.unusedVariables false
set_option linter.unusedSimpArgs false

end Go.Proofs.Ytnenoecmmelehaa

namespace Go.Proofs.Ytnenoecmmelehaa
open Go.RowKit
set_option linter.unusedVariables false
set_option linter.unusedSimpArgs false

def goodC (c : List UInt8) : Bool := decide (1 ≤ c.length) && decide (c.length ≤ 2048)
def Body11 (certs : List (List UInt8)) (e : Ending) : Prop :=
  (certs.all goodC = true ∧ e = .returned (.tuple #[S (hNone1 ++ vecB (certsP certs) 3), .bool true])) ∨ (certs.all goodC = false ∧ ∃ s, e = .returned (.tuple #[S s, .bool false]))
end Go.Proofs.Ytnenoecmmelehaa

namespace Go.Proofs.Ytnenoecmmelehaa
open Go.RowKit
set_option linter.unusedVariables false
set_option linter.unusedSimpArgs false

theorem run_min_nat (a c m : Nat) (hm : m = min a c) (x y : Int) (hx : x = a) (hy : y = c) (ts : Array TypeId) (t : TypeId) (w : World) : (Builtin.min_ ts t #[.int .i64 x, .int .i64 y]).run Try.prog w = .ok (.int .i64 (m : Int)) w := by
  subst hm hx hy
  rw [run_min_int2]
  congr 2
  split <;> omega
structure GSt (w : World) (g5 : Nat) (w1 : World) (C : Array Value) : Prop where
  ans : Row w1 w.heap.size 25 zMsg
  msg : Row w1 g5 25 C
  bel : Below w.heap.size w w1
  lt : w.heap.size < g5
section
variable {w w1 w2 : World} {g5 : Nat} {C : Array Value}
theorem GSt.call (h : GSt w g5 w1 C) (hb : Below w1.heap.size w1 w2) : GSt w g5 w2 C :=
  ⟨Row.below h.ans hb h.ans.lt, Row.below h.msg hb h.msg.lt, h.bel.trans (hb.mono h.bel.size), h.lt⟩
theorem GSt.set (h : GSt w g5 w1 C) {C' : Array Value} (i : Nat) (v : Value) (hC : C.setIfInBounds i v = C') : GSt w g5 (w1.setCell ⟨g5, i, none⟩ v) C' :=
  ⟨h.ans.setOther _ _ (by have := h.lt; show w.heap.size ≠ g5; omega), hC ▸ h.msg.set i v, h.bel.setCell (p := ⟨g5, i, none⟩) (Nat.le_of_lt h.lt) v, h.lt⟩
theorem GSt.setR (h : GSt w g5 w1 C) {C0 C' : Array Value} (hC : C0 = C') : GSt w g5 (w1.setRow g5 C0) C' :=
  ⟨h.ans.setRowOther _ _ (by have := h.lt; omega), hC ▸ h.msg.setRow C0, bSetRow h.bel (Nat.le_of_lt h.lt) _, h.lt⟩
theorem GSt.start {c : Array Value} (h5 : g5 = w.heap.size + 1) : GSt w g5 (((w.alloc (.cells zMsg 25)).alloc (.cells zMsg 25)).setRow g5 c) c := by
  subst h5
  exact ⟨((Row.new w _ _).alloc _).setRowOther _ _ (by omega), (Row.newAt _ _ _ _ (by simp)).setRow _, bSetRow (((Below.refl _ w).alloc (Nat.le_refl _) _).alloc (by simp) _) (by omega) _, by omega⟩
theorem GSt.fin (h : GSt w g5 w1 C) : Row (w1.setRow w.heap.size C) w.heap.size 25 C ∧ Below w.heap.size w (w1.setRow w.heap.size C) :=
  ⟨h.ans.setRow C, bSetRow h.bel (Nat.le_refl _) _⟩
end
theorem zMsg_s0 (k : Int) : zMsg.setIfInBounds 0 (.int .i64 k) = mD k zero32 zero32 [.string ⟨#[]⟩, .string ⟨#[]⟩, .string ⟨#[]⟩, .string ⟨#[]⟩, .string ⟨#[]⟩, .slice none 0 0, .int .i64 0, .int .i64 0, .bool false, .bool false] := by
  unfold zMsg
  rw [mD_of rfl rfl]
  exact mD_s0 k
attribute [go_sem] zMsg_s0
theorem mD_oMa (k : Int) (r mk b : List UInt8) (p : Nat) (l : List Value) : over (mD k r mk l) 33 (AB (atP b p 32)) = mD k r (atP b p 32) l := mD_oM _ (takeV_len _ _)
theorem mD_oRa (k : Int) (r mk b : List UInt8) (p : Nat) (l : List Value) : over (mD k r mk l) 1 (AB (atP b p 32)) = mD k (atP b p 32) mk l := mD_oR _ (takeV_len _ _)
attribute [go_sem] mD_oMa mD_oRa
def RMsgAt (w : World) (C : Array Value) (m : MsgP) : Prop :=
  ∃ a c, C = mD m.kind m.random m.mark [S m.session, S m.share, S m.ticket, S m.nonce, S m.sig, .slice a m.certs.length c, .int .i64 m.life, .int .i64 m.age, .bool m.psk, .bool m.retry] ∧ StrsAt w (.slice a m.certs.length c) m.certs ∧ m.random.length = 32 ∧ m.mark.length = 32
theorem RMsgAt.below {w w' : World} {C : Array Value} {m : MsgP} (h : RMsgAt w C m) (hb : Below w.heap.size w w') : RMsgAt w' C m := by
  obtain ⟨a, c, e, h1, h2⟩ := h
  exact ⟨a, c, e, h1.below hb, h2⟩
end Go.Proofs.Ytnenoecmmelehaa

namespace Go.Proofs.Ytnenoecmmelehaa
open Go.RowKit
set_option linter.unusedVariables false
set_option linter.unusedSimpArgs false

def BodyE (m : MsgP) (e : Ending) : Prop := ∃ s, e = .returned (.tuple #[S s, .bool (rightP m)]) ∧ (rightP m = true → s = bodyP m)
end Go.Proofs.Ytnenoecmmelehaa

namespace Go.Proofs.Ytnenoecmmelehaa
open Go.RowKit
set_option linter.unusedVariables false
set_option linter.unusedSimpArgs false

end Go.Proofs.Ytnenoecmmelehaa

namespace Go.Proofs.Ytnenoecmmelehaa
open Go.RowKit
set_option linter.unusedVariables false

theorem run_str (w : World) (l : List UInt8) (hl : l.length ≤ 1000000) :
    ∃ v w', (convert 9 27 (S l)).run Try.prog w = .ok v w' ∧ SlT w' v l ∧ Below w.heap.size w w' := by
  have hrun := Lib.run_convert_string_bytes (P := Try.prog) w 9 27 5 ⟨l.toArray⟩ Try.underlying9 Try.underlying27 Try.underlying5
  have hsz : (⟨l.toArray⟩ : ByteArray).size = l.length := by simp [ByteArray.size]
  have hge := grownCap_ge w l.length 0 5
  have hle := grownCap_le_maxLen w l.length 0 5 (by unfold maxLen; omega)
  rw [hsz] at hrun
  refine ⟨_, _, hrun, ⟨⟨_, _, rfl, hge, hle, (fun h => by cases h), fun ad had => ?_⟩, fun ad had => ?_⟩, ⟨rfl, rfl, rfl, by rw [Lib.bytesWorld_size]; omega, fun k hk => Lib.bytesWorld_at_old w _ _ k hk⟩⟩
  · obtain rfl := Option.some.inj had
    refine ⟨rfl, fun i hi => ?_⟩
    have := Lib.bytesWorld_cell w 5 ⟨l.toArray⟩ i (by rw [hsz]; exact hi)
    rw [Nat.zero_add, this]
    simp [gb]
  · obtain rfl := Option.some.inj had
    exact ⟨_, _, Lib.bytesWorld_at_new w _ _⟩
section
variable {ops : Array Oper} {W : World} {fs ds : List Tmp} {T : List (Nat × FK)} {ν : Tmp → Value} {E : Act → List Tmp → Prop} {done : List Tmp} {o : Oper} {l : List Oper} {a : Act}
theorem wpF_str (s : List UInt8) (x : Operand) (ho : o.op = .convert 9 27 x) (hx : a.eval x = S s) (hs : s.length ≤ 1000000)
    (hf : isF fs o = true) (hw : Region.wanted o (yielded ops a.tmps) = true) (hT : ∀ d, o.dst = some d → T.lookup d = some (.new s))
    (h : wpF Try.prog ops W fs ds (phi W.heap.size T) ν E (o.dst.toList ++ done) l (a.put o.dst (vqF ν o))) : wpF Try.prog ops W fs ds (phi W.heap.size T) ν E done (o :: l) a :=
  wpF_gen hf hw (fun w hB hk => by
    obtain ⟨v, w', h1, h2, h3⟩ := run_str w s hs
    refine ⟨v, w', ?_, fun d hd => ?_, GB.of hB.size h3⟩
    · unfold execOp
      simp only [ho, Sem.run_bind, hx, h1]
      rfl
    · unfold phi
      rw [hT d hd]
      exact h2) h
end
end Go.Proofs.Ytnenoecmmelehaa

namespace Go.Proofs.Ytnenoecmmelehaa
open Go.RowKit

set_option maxRecDepth 100000 in
theorem built_h_lit (k life age : Int) (a0 a1 a2 a3 a4 a5 a6 a7 a8 a9 a10 a11 a12 a13 a14 a15 a16 a17 a18 a19 a20 a21 a22 a23 a24 a25 a26 a27 a28 a29 a30 a31 b0 b1 b2 b3 b4 b5 b6 b7 b8 b9 b10 b11 b12 b13 b14 b15 b16 b17 b18 b19 b20 b21 b22 b23 b24 b25 b26 b27 b28 b29 b30 b31 : Value) (p1 p2 p3 p4 p5 : Option Addr) (n1 n2 n3 n4 n5 c1 c2 c3 c4 c5 : Nat) (psk retry : Bool) :
    Try.prog.built 30 [(0, .int .i64 k), (1, .agg #[a0, a1, a2, a3, a4, a5, a6, a7, a8, a9, a10, a11, a12, a13, a14, a15, a16, a17, a18, a19, a20, a21, a22, a23, a24, a25, a26, a27, a28, a29, a30, a31]), (2, .agg #[b0, b1, b2, b3, b4, b5, b6, b7, b8, b9, b10, b11, b12, b13, b14, b15, b16, b17, b18, b19, b20, b21, b22, b23, b24, b25, b26, b27, b28, b29, b30, b31]), (3, .slice p1 n1 c1), (4, .slice p2 n2 c2), (5, .slice p3 n3 c3), (6, .slice p4 n4 c4), (7, .slice p5 n5 c5), (9, .int .i64 life), (10, .int .i64 age), (11, .bool psk), (12, .bool retry)] = some #[.int .i64 k, a0, a1, a2, a3, a4, a5, a6, a7, a8, a9, a10, a11, a12, a13, a14, a15, a16, a17, a18, a19, a20, a21, a22, a23, a24, a25, a26, a27, a28, a29, a30, a31, b0, b1, b2, b3, b4, b5, b6, b7, b8, b9, b10, b11, b12, b13, b14, b15, b16, b17, b18, b19, b20, b21, b22, b23, b24, b25, b26, b27, b28, b29, b30, b31, .slice p1 n1 c1, .slice p2 n2 c2, .slice p3 n3 c3, .slice p4 n4 c4, .slice p5 n5 c5, .slice none 0 0, .int .i64 life, .int .i64 age, .bool psk, .bool retry] := by kernel_rfl
theorem built_h (k life age : Int) (r mk : List UInt8) (p1 p2 p3 p4 p5 : Option Addr) (n1 n2 n3 n4 n5 c1 c2 c3 c4 c5 : Nat) (psk retry : Bool) :
    Try.prog.built 30 [(0, .int .i64 k), (1, .agg (AB (fx r))), (2, .agg (AB (fx mk))), (3, .slice p1 n1 c1), (4, .slice p2 n2 c2), (5, .slice p3 n3 c3), (6, .slice p4 n4 c4), (7, .slice p5 n5 c5), (9, .int .i64 life), (10, .int .i64 age), (11, .bool psk), (12, .bool retry)] = some (mD k r mk [.slice p1 n1 c1, .slice p2 n2 c2, .slice p3 n3 c3, .slice p4 n4 c4, .slice p5 n5 c5, .slice none 0 0, .int .i64 life, .int .i64 age, .bool psk, .bool retry]) := by
  obtain ⟨a0, a1, a2, a3, a4, a5, a6, a7, a8, a9, a10, a11, a12, a13, a14, a15, a16, a17, a18, a19, a20, a21, a22, a23, a24, a25, a26, a27, a28, a29, a30, a31, ea⟩ := list32 ((fx r).map B) (by simpa using fx_len r)
  obtain ⟨b0, b1, b2, b3, b4, b5, b6, b7, b8, b9, b10, b11, b12, b13, b14, b15, b16, b17, b18, b19, b20, b21, b22, b23, b24, b25, b26, b27, b28, b29, b30, b31, eb⟩ := list32 ((fx mk).map B) (by simpa using fx_len mk)
  unfold mD mC AB
  rw [ea, eb]
  exact built_h_lit k life age _ _ _ _ _ _ _ _ _ _ _ _ _ _ _ _ _ _ _ _ _ _ _ _ _ _ _ _ _ _ _ _ _ _ _ _ _ _ _ _ _ _ _ _ _ _ _ _ _ _ _ _ _ _ _ _ _ _ _ _ _ _ _ _ p1 p2 p3 p4 p5 n1 n2 n3 n4 n5 c1 c2 c3 c4 c5 psk retry
set_option maxRecDepth 100000 in
theorem built_r_lit (k life age : Int) (a0 a1 a2 a3 a4 a5 a6 a7 a8 a9 a10 a11 a12 a13 a14 a15 a16 a17 a18 a19 a20 a21 a22 a23 a24 a25 a26 a27 a28 a29 a30 a31 b0 b1 b2 b3 b4 b5 b6 b7 b8 b9 b10 b11 b12 b13 b14 b15 b16 b17 b18 b19 b20 b21 b22 b23 b24 b25 b26 b27 b28 b29 b30 b31 : Value) (s1 s2 s3 s4 s5 : List UInt8) (psk retry : Bool) :
    Try.prog.built 25 [(0, .int .i64 k), (1, .agg #[a0, a1, a2, a3, a4, a5, a6, a7, a8, a9, a10, a11, a12, a13, a14, a15, a16, a17, a18, a19, a20, a21, a22, a23, a24, a25, a26, a27, a28, a29, a30, a31]), (2, .agg #[b0, b1, b2, b3, b4, b5, b6, b7, b8, b9, b10, b11, b12, b13, b14, b15, b16, b17, b18, b19, b20, b21, b22, b23, b24, b25, b26, b27, b28, b29, b30, b31]), (3, S s1), (4, S s2), (5, S s3), (6, S s4), (7, S s5), (9, .int .i64 life), (10, .int .i64 age), (11, .bool psk), (12, .bool retry)] = some #[.int .i64 k, a0, a1, a2, a3, a4, a5, a6, a7, a8, a9, a10, a11, a12, a13, a14, a15, a16, a17, a18, a19, a20, a21, a22, a23, a24, a25, a26, a27, a28, a29, a30, a31, b0, b1, b2, b3, b4, b5, b6, b7, b8, b9, b10, b11, b12, b13, b14, b15, b16, b17, b18, b19, b20, b21, b22, b23, b24, b25, b26, b27, b28, b29, b30, b31, S s1, S s2, S s3, S s4, S s5, .slice none 0 0, .int .i64 life, .int .i64 age, .bool psk, .bool retry] := by kernel_rfl
theorem built_r (k life age : Int) (r mk : List UInt8) (s1 s2 s3 s4 s5 : List UInt8) (psk retry : Bool) :
    Try.prog.built 25 [(0, .int .i64 k), (1, .agg (AB (fx r))), (2, .agg (AB (fx mk))), (3, S s1), (4, S s2), (5, S s3), (6, S s4), (7, S s5), (9, .int .i64 life), (10, .int .i64 age), (11, .bool psk), (12, .bool retry)] = some (mD k r mk [S s1, S s2, S s3, S s4, S s5, .slice none 0 0, .int .i64 life, .int .i64 age, .bool psk, .bool retry]) := by
  obtain ⟨a0, a1, a2, a3, a4, a5, a6, a7, a8, a9, a10, a11, a12, a13, a14, a15, a16, a17, a18, a19, a20, a21, a22, a23, a24, a25, a26, a27, a28, a29, a30, a31, ea⟩ := list32 ((fx r).map B) (by simpa using fx_len r)
  obtain ⟨b0, b1, b2, b3, b4, b5, b6, b7, b8, b9, b10, b11, b12, b13, b14, b15, b16, b17, b18, b19, b20, b21, b22, b23, b24, b25, b26, b27, b28, b29, b30, b31, eb⟩ := list32 ((fx mk).map B) (by simpa using fx_len mk)
  unfold mD mC AB
  rw [ea, eb]
  exact built_r_lit k life age _ _ _ _ _ _ _ _ _ _ _ _ _ _ _ _ _ _ _ _ _ _ _ _ _ _ _ _ _ _ _ _ _ _ _ _ _ _ _ _ _ _ _ _ _ _ _ _ _ _ _ _ _ _ _ _ _ _ _ _ _ _ _ _ s1 s2 s3 s4 s5 psk retry
end Go.Proofs.Ytnenoecmmelehaa
