/- Part of the proof: EvHi, RoundP, ChunkU. No conditions of its own. -/
import Derived.Below
import Derived.KernelRfl
import Derived.Laws.BytesArg
import Derived.Laws.CopyRow
import Derived.Laws.NewFold
import Derived.Laws.Strings
import Derived.Lib.ConvBytes
import Derived.Orders
import Derived.RowKit3
import Derived.Test.YtjpfhhndjpdmoaaGreatDoorK42
import Derived.BigQuiet
import Derived.Deep.Quiet
import Derived.Deep.QuietTactic
import Derived.Deep.RegionLaw
import Derived.Laws.AppendOwnNone
import Derived.Lib.Hide
import Derived.LoopIn
import Derived.LoopNIn
import Derived.OrdersIn
import Derived.OwnWalkIn
import Derived.RangeFuncBound
import Derived.RangeFuncCalls
import Derived.RangeFuncLeaves
import Derived.RangeFuncNested
import Derived.Shelf.Abstract
import Derived.StillTail
import Derived.TacticsIn
import Derived.TacticsInMore
import Derived.WalkKit
import Derived.Test.YtjpfhhndjpdmoaaGreatDoorK13
import Derived.Test.YtjpfhhndjpdmoaaGreatDoorK27
import Derived.ArgAppend
import Derived.Deep.DeepCutAuto
import Derived.Deep.LoopGhost
import Derived.Laws.BitsAllLaws
import Derived.Maps.AppendAt
import Derived.Test.YtjpfhhndjpdmoaaGreatDoorProg
import Derived.Test.YtjpfhhndjpdmoaaGreatDoorK31
namespace Go.Proofs.YtjpfhhndjpdmoaaGreatDoor
open Go.RowKit
set_option linter.unusedVariables false
set_option linter.unusedSimpArgs false
set_option linter.unusedSectionVars false
set_option autoImplicit false

structure Hint where
  k : Nat
  ts : List Nat
  ls : List LV
  v : LV
def lkH : List Hint → FuncId → List LV → Option LV
  | [], _, _ => none
  | h :: hs, f, args => match Nat.beq (OB + h.k) f && eqLs (h.ts.map goI ++ h.ls) args with
    | true => some h.v
    | false => lkH hs f args
def hintF (hs : List Hint) (callf : FuncId → List LV → Hp → Nat → Option Out) : FuncId → List LV → Hp → Nat → Option Out := fun f args H nx => match Nat.ble OB f with
  | false => callf f args H nx
  | true => match lkH hs f args with
    | some v => some ⟨v, [], 0, some []⟩
    | none => none
section
variable {P : Program} {GE : Env → Prop} [hGE : GEok P GE] {nB B : Nat} {w0 : World}
def HintOk (P : Program) (GE : Env → Prop) (B : Nat) (w0 : World) (h : Hint) : Prop := ∀ (o : Oper), opK o.op = some (h.k, h.ts) → ∀ (ν : Env) (a : Act) (w : World), GE ν → Below B w0 w → VRs ν h.ls (o.op.operands.toList.map a.eval) → ∃ v', (execOp a.eval o).run P w = .ok (.value v') w ∧ VR ν h.v v'
theorem goI_map_inj : ∀ {l m : List Nat} {a b : List LV}, l.map goI ++ a = m.map goI ++ b → l.length = m.length → l = m ∧ a = b
  | [], [], a, b, h, _ => ⟨rfl, by simpa using h⟩
  | x :: l, y :: m, a, b, h, hl => by
    simp only [List.map_cons, List.cons_append, List.cons.injEq] at h
    obtain ⟨h1, h2⟩ := h
    obtain ⟨e1, e2⟩ := goI_map_inj h2 (by simpa using hl)
    have h3 : x = y := by
      unfold goI at h1
      injection h1 with h1
      injection h1 with _ h1
      exact Int.ofNat.inj h1
    exact ⟨by rw [e1, h3], e2⟩
  | [], _ :: _, _, _, _, hl => by simp at hl
  | _ :: _, [], _, _, _, hl => by simp at hl
theorem lkH_ok {f : FuncId} {args : List LV} {v : LV} : ∀ {hs : List Hint}, lkH hs f args = some v → ∃ h ∈ hs, OB + h.k = f ∧ h.ts.map goI ++ h.ls = args ∧ h.v = v
  | [], h => by cases h
  | h :: hs, hh => by
    simp only [lkH] at hh
    split at hh
    · rename_i hb
      cases hh
      simp only [Bool.and_eq_true] at hb
      exact ⟨h, List.mem_cons_self .., nbeq hb.1, eqLs_ok hb.2, rfl⟩
    · obtain ⟨h', h1, h2⟩ := lkH_ok hh
      exact ⟨h', List.mem_cons_of_mem _ h1, h2⟩
theorem opK_idx {op : Op} {ts : List Nat} (h : opK op = some (0, ts)) : ∃ t x i, op = .indexAddr t x i ∧ ts = [t] := by
  cases op with
  | indexAddr t x i => simp only [opK, Option.some.injEq, Prod.mk.injEq, true_and] at h; exact ⟨t, x, i, rfl, h.symm⟩
  | call c => simp only [opK] at h; split at h <;> first | (split at h <;> simp at h; done) | (simp at h; done)
  | binOp o t x y u => simp only [opK] at h; split at h <;> simp at h
  | slice t x lo hi mx => cases lo <;> cases hi <;> cases mx <;> simp [opK] at h
  | _ => simp [opK] at h
theorem opK_load {op : Op} {ts : List Nat} (h : opK op = some (1, ts)) : ∃ t x, op = .load t x ∧ ts = [t] := by
  cases op with
  | load t x => simp only [opK, Option.some.injEq, Prod.mk.injEq, true_and] at h; exact ⟨t, x, rfl, h.symm⟩
  | call c => simp only [opK] at h; split at h <;> first | (split at h <;> simp at h; done) | (simp at h; done)
  | binOp o t x y u => simp only [opK] at h; split at h <;> simp at h
  | slice t x lo hi mx => cases lo <;> cases hi <;> cases mx <;> simp [opK] at h
  | _ => simp [opK] at h
theorem opK_slice {op : Op} {ts : List Nat} (h : opK op = some (2, ts)) : ∃ t x hi, op = .slice t x none (some hi) none ∧ ts = [t] := by
  cases op with
  | slice t x lo hi mx =>
    cases lo <;> cases hi <;> cases mx <;> simp only [opK, Option.some.injEq, Prod.mk.injEq, true_and, reduceCtorEq] at h
    exact ⟨t, x, _, rfl, h.symm⟩
  | call c => simp only [opK] at h; split at h <;> first | (split at h <;> simp at h; done) | (simp at h; done)
  | binOp o t x y u => simp only [opK] at h; split at h <;> simp at h
  | _ => simp [opK] at h
theorem opK_conv {op : Op} {ts : List Nat} (h : opK op = some (3, ts)) : ∃ s d x, op = .convert s d x ∧ ts = [s, d] := by
  cases op with
  | convert s d x => simp only [opK, Option.some.injEq, Prod.mk.injEq, true_and] at h; exact ⟨s, d, x, rfl, h.symm⟩
  | call c => simp only [opK] at h; split at h <;> first | (split at h <;> simp at h; done) | (simp at h; done)
  | binOp o t x y u => simp only [opK] at h; split at h <;> simp at h
  | slice t x lo hi mx => cases lo <;> cases hi <;> cases mx <;> simp [opK] at h
  | _ => simp [opK] at h
theorem opK_len {op : Op} {ts : List Nat} (h : opK op = some (4, ts)) : ∃ c t, op = .call c ∧ c.callee = .builtin .len ∧ c.argTypes.toList = [t] ∧ ts = [t] := by
  cases op with
  | call c =>
    simp only [opK] at h
    split at h
    · rename_i hc
      split at h
      · rename_i t ht
        simp only [Option.some.injEq, Prod.mk.injEq, true_and] at h
        exact ⟨c, t, rfl, hc, ht, h.symm⟩
      · simp at h
    all_goals simp at h
  | binOp o t x y u => simp only [opK] at h; split at h <;> simp at h
  | slice t x lo hi mx => cases lo <;> cases hi <;> cases mx <;> simp [opK] at h
  | _ => simp [opK] at h
theorem opK_min {op : Op} {ts : List Nat} (h : opK op = some (5, ts)) : ∃ c, op = .call c ∧ c.callee = .builtin .min ∧ ts = [] := by
  cases op with
  | call c =>
    simp only [opK] at h
    split at h
    · split at h <;> simp at h
    · rename_i hc
      simp only [Option.some.injEq, Prod.mk.injEq, true_and] at h
      exact ⟨c, rfl, hc, h.symm⟩
    · simp at h
  | binOp o t x y u => simp only [opK] at h; split at h <;> simp at h
  | slice t x lo hi mx => cases lo <;> cases hi <;> cases mx <;> simp [opK] at h
  | _ => simp [opK] at h
def tsN (k : Nat) : Nat := match k with | 0 => 1 | 1 => 1 | 2 => 1 | 3 => 2 | 4 => 1 | _ => 0
theorem opK_n {op : Op} {k : Nat} {ts : List Nat} (h : opK op = some (k, ts)) : ts.length = tsN k := by
  cases op with
  | call c =>
    simp only [opK] at h
    split at h
    · split at h
      · simp only [Option.some.injEq, Prod.mk.injEq] at h; obtain ⟨rfl, rfl⟩ := h; rfl
      · simp at h
    · simp only [Option.some.injEq, Prod.mk.injEq] at h; obtain ⟨rfl, rfl⟩ := h; rfl
    · simp at h
  | binOp o t x y u => simp only [opK] at h; split at h <;> first | (simp only [Option.some.injEq, Prod.mk.injEq] at h; obtain ⟨rfl, rfl⟩ := h; rfl) | (simp at h; done)
  | indexAddr t x i => simp only [opK, Option.some.injEq, Prod.mk.injEq] at h; obtain ⟨rfl, rfl⟩ := h; rfl
  | load t x => simp only [opK, Option.some.injEq, Prod.mk.injEq] at h; obtain ⟨rfl, rfl⟩ := h; rfl
  | slice t x lo hi mx =>
    cases lo <;> cases hi <;> cases mx <;> simp only [opK, Option.some.injEq, Prod.mk.injEq, reduceCtorEq] at h
    obtain ⟨rfl, rfl⟩ := h; rfl
  | convert s d x => simp only [opK, Option.some.injEq, Prod.mk.injEq] at h; obtain ⟨rfl, rfl⟩ := h; rfl
  | _ => simp [opK] at h
theorem hintF_ok {hs : List Hint} {callf : FuncId → List LV → Hp → Nat → Option Out} (hc : CallOkW P nB B w0 callf) (hn : ∀ h ∈ hs, h.ts.length = tsN h.k) (hh : ∀ h ∈ hs, HintOk P GE B w0 h) : EvOk P GE nB B w0 (hintF hs callf) := by
  refine ⟨fun f args H nx out hob h hnx => ?_, fun o T v hv ν a w hG hT hb => ?_⟩
  · have h' : callf f args H nx = some out := by
      unfold hintF at h
      rw [hob] at h
      exact h
    exact hc f args H nx out hob h' hnx
  · unfold hintL at hv
    split at hv
    · rename_i k ts hk
      split at hv
      · rename_i ls hls
        have h1 : ∃ h ∈ hs, OB + h.k = OB + k ∧ h.ts.map goI ++ h.ls = ts.map goI ++ ls ∧ h.v = v := by
          unfold hintF at hv
          rw [Nat.ble_eq_true_of_le (Nat.le_add_right OB k)] at hv
          simp only at hv
          split at hv
          · rename_i out hl
            cases hv
            split at hl
            · rename_i v' hv'
              cases hl
              exact lkH_ok hv'
            · cases hl
          · cases hv
        obtain ⟨h, hm, e1, e2, e3⟩ := h1
        have e1' : h.k = k := by omega
        obtain ⟨e4, e5⟩ := goI_map_inj e2 (by rw [hn h hm, e1', opK_n hk])
        obtain ⟨v', q1, q2⟩ := hh h hm o (by rw [hk, e1', e4]) ν a w hG hb (by rw [e5]; exact opds_ok hT hls)
        exact ⟨v', q1, by rw [← e3]; exact q2⟩
      · cases hv
    · cases hv
/-! ### single operations -/
theorem u8_part {t : TypeId} (h : P.underlying t = some (.int .u8)) (w : World) : (isAgg t).run P w = .ok false w := by
  simp [isAgg, run_underlying h]
theorem hint_index {t elem : TypeId} {b p g o n c i : Nat} {x : LV} (hu : P.underlying t = some (.slice elem)) (he : sizeL P elem = some 1) (hx : ∀ ν y, GE ν → VR ν x y → ∃ k, y = .int k (i : Int)) (hi : i < n)
    (hb : ∀ ν, GE ν → ν b = some ⟨g, o⟩ ∧ ν (b + 1) = some ⟨n, c⟩ ∧ ∃ f, ν (b + 2) = some f ∧ f.addr ≠ 0) (hp : ∀ ν, GE ν → ν p = some ⟨g, o + i⟩) : HintOk P GE B w0 ⟨0, [t], [.outS b, x], .outP p⟩ := by
  intro op ho ν a w hG hbl hv
  obtain ⟨t', x', i', e1, e2⟩ := opK_idx ho
  obtain ⟨dst, op, type, pos, after, guard⟩ := op
  simp only at e1 hv
  subst e1
  obtain rfl : t = t' := by simpa using e2
  simp only [Op.operands] at hv
  obtain ⟨v1, us, e3, h1, h2⟩ := VRs.cons_iff.1 hv
  obtain ⟨v2, us, rfl, h3, h4⟩ := VRs.cons_iff.1 h2
  obtain rfl := VRs.nil_iff.1 h4
  simp only [List.map_cons, List.map_nil, List.cons.injEq, and_true] at e3
  obtain ⟨q1, q2, f, q3, q4⟩ := hb ν hG
  simp only [VR] at h1
  obtain ⟨l, m, f', g1, g2, g3, g4⟩ := h1
  rw [q1] at g1; cases g1
  rw [q2] at g2; cases g2
  rw [q3] at g3; cases g3
  rw [if_neg q4] at g4
  obtain ⟨k, hk⟩ := hx ν v2 hG h3
  refine ⟨.pointer (some ⟨g, o + i, none⟩), ?_, by simp only [VR]; exact ⟨_, hp ν hG, rfl⟩⟩
  show (do pure (.value (← Instr.indexAt t (a.eval x') (a.eval i'))) : Sem Next).run P w = _
  rw [e3.1, e3.2, g4, hk]
  simp [Instr.indexAt, asIntOf, run_underlying hu, run_sizeOf he, add_off, hi]
theorem hint_load {t : TypeId} {p g o m : Nat} {v : LV} (hu : P.underlying t = some (.int .u8)) (hp : ∀ ν, GE ν → ν p = some ⟨g, o⟩) (hc : ∀ w, Below B w0 w → w.cell? ⟨g, o, none⟩ = some (.int .u8 (m : Int))) (hv : ∀ ν, GE ν → VR ν v (.int .u8 (m : Int))) : HintOk P GE B w0 ⟨1, [t], [.outP p], v⟩ := by
  intro op ho ν a w hG hbl hvs
  obtain ⟨t', x', e1, e2⟩ := opK_load ho
  obtain ⟨dst, op, type, pos, after, guard⟩ := op
  simp only at e1 hvs
  subst e1
  obtain rfl : t = t' := by simpa using e2
  simp only [Op.operands] at hvs
  obtain ⟨v1, us, e3, h1, h2⟩ := VRs.cons_iff.1 hvs
  obtain rfl := VRs.nil_iff.1 h2
  simp only [List.map_cons, List.map_nil, List.cons.injEq, and_true] at e3
  simp only [VR] at h1
  obtain ⟨l, g1, g2⟩ := h1
  rw [hp ν hG] at g1; cases g1
  refine ⟨.int .u8 (m : Int), ?_, hv ν hG⟩
  show (do pure (.value (← Instr.loadAt t (a.eval x'))) : Sem Next).run P w = _
  rw [e3, g2]
  simp [Instr.loadAt, Instr.sureAddr, loadVar, u8_part hu, hc w hbl]
theorem hint_len {t elem : TypeId} {b n c : Nat} {v : LV} (hu : P.underlying t = some (.slice elem)) (hb : ∀ ν, GE ν → ν (b + 1) = some ⟨n, c⟩) (hv : ∀ ν, GE ν → VR ν v (.int .i64 (n : Int))) : HintOk P GE B w0 ⟨4, [t], [.outS b], v⟩ := by
  intro op ho ν a w hG hbl hvs
  obtain ⟨cl, t', e1, e0, e4, e2⟩ := opK_len ho
  obtain rfl : t = t' := by simpa using e2
  have ex := exec_builtin (a := a) e1 e0
  rw [e1] at hvs
  simp only [Op.operands, Call.operands, e0] at hvs
  have hvs' : VRs ν [.outS b] (cl.args.toList.map a.eval) := by simpa using hvs
  obtain ⟨v1, e3, h1⟩ := one_arg hvs'
  simp only [VR] at h1
  obtain ⟨l, m, f, g1, g2, g3, rfl⟩ := h1
  rw [hb ν hG] at g2; cases g2
  refine ⟨.int .i64 (n : Int), ?_, hv ν hG⟩
  have h0 : cl.argTypes[0]? = some t := by rw [← Array.getElem?_toList, e4]; rfl
  rw [ex, e3]
  show (do pure (.value (← Builtin.len_ cl.argTypes op.type #[_])) : Sem Next).run P w = _
  simp [Builtin.len_, h0, run_underlying hu, goInt]
theorem hint_min {x : LV} {m n : Nat} (hx : ∀ ν y, GE ν → VR ν x y → y = .int .i64 (m : Int)) (hmn : n ≤ m) : HintOk P GE B w0 ⟨5, [], [x, goI n], goI n⟩ := by
  intro op ho ν a w hG hbl hvs
  obtain ⟨cl, e1, e0, e2⟩ := opK_min ho
  have ex := exec_builtin (a := a) e1 e0
  rw [e1] at hvs
  simp only [Op.operands, Call.operands, e0] at hvs
  have hvs' : VRs ν [x, goI n] (cl.args.toList.map a.eval) := by simpa using hvs
  obtain ⟨v1, v2, e3, h1, h2⟩ := two_args hvs'
  have p1 := hx ν v1 hG h1
  have p2 : v2 = .int .i64 (n : Int) := by
    simp only [goI, VR] at h2
    exact h2.1
  refine ⟨.int .i64 (n : Int), ?_, goI_ok n⟩
  rw [ex, e3, p1, p2]
  show (do pure (.value (← Builtin.min_ cl.argTypes op.type #[_, _])) : Sem Next).run P w = _
  by_cases e : n = m
  · subst e
    simp [Builtin.min_, Builtin.min2]
  · have : (n : Int) < m := by omega
    simp [Builtin.min_, Builtin.min2, this]
theorem hint_cut {t elem : TypeId} {b d L : Nat} {g o n c f : Nat} (hu : P.underlying t = some (.slice elem)) (he : sizeL P elem = some 1) (hL : L ≤ n) (hn : n ≤ c) (hz : f = 0 → c = 0) (hb : ∀ ν, GE ν → ν b = some ⟨g, o⟩ ∧ ν (b + 1) = some ⟨n, c⟩ ∧ ∃ l, ν (b + 2) = some l ∧ l.addr = f) (hd : ∀ ν, GE ν → ν d = some ⟨g, o⟩ ∧ ν (d + 1) = some ⟨L, c⟩ ∧ ∃ l, ν (d + 2) = some l ∧ l.addr = f) : HintOk P GE B w0 ⟨2, [t], [.outS b, goI L], .outS d⟩ := by
  intro op ho ν a w hG hbl hv
  obtain ⟨t', x', i', e1, e2⟩ := opK_slice ho
  obtain ⟨dst, op, type, pos, after, guard⟩ := op
  simp only at e1 hv
  subst e1
  obtain rfl : t = t' := by simpa using e2
  have hv' : VRs ν [.outS b, goI L] [a.eval x', a.eval i'] := by simpa [Op.operands] using hv
  obtain ⟨v1, us, e3, h1, h2⟩ := VRs.cons_iff.1 hv'
  obtain ⟨v2, us, rfl, h3, h4⟩ := VRs.cons_iff.1 h2
  obtain rfl := VRs.nil_iff.1 h4
  simp only [List.cons.injEq, and_true] at e3
  obtain ⟨q1, q2, k, q3, q4⟩ := hb ν hG
  obtain ⟨p1, p2, k', p3, p4⟩ := hd ν hG
  simp only [VR] at h1
  obtain ⟨l, m, f', g1, g2, g3, g4⟩ := h1
  rw [q1] at g1; cases g1
  rw [q2] at g2; cases g2
  rw [q3] at g3; cases g3
  have e5 : v2 = .int .i64 (L : Int) := by
    simp only [goI, VR] at h3
    exact h3.1
  refine ⟨.slice (if f = 0 then none else some ⟨g, o, none⟩) L c, ?_, by simp only [VR]; exact ⟨_, _, _, p1, p2, p3, by rw [p4]⟩⟩
  show (do pure (.value (← Instr.sliceAt t (a.eval x') none (some (a.eval i')) none)) : Sem Next).run P w = _
  rw [e3.1, e3.2, g4, e5, q4]
  have hLc : L ≤ c := Nat.le_trans hL hn
  by_cases hf : f = 0
  · have hc0 := hz hf
    subst hc0
    have hL0 : L = 0 := by omega
    subst hL0
    simp [Instr.sliceAt, run_underlying hu, Instr.slice, Instr.sliceBounds, Instr.sliceBound, asIntOf, run_sizeOf he, hf]
  · by_cases hc0 : c = 0
    · have hL0 : L = 0 := by omega
      subst hL0
      simp [Instr.sliceAt, run_underlying hu, Instr.slice, Instr.sliceBounds, Instr.sliceBound, asIntOf, run_sizeOf he, hf, hc0]
    · simp [Instr.sliceAt, run_underlying hu, Instr.slice, Instr.sliceBounds, Instr.sliceBound, asIntOf, hLc, run_sizeOf he, hf, hc0, add_off]
theorem hint_str {s d e : TypeId} {b : Nat} {g o c f : Nat} {bs : List UInt8} {cs : List LV} (hs : P.underlying s = some (.slice e)) (he : P.underlying e = some (.int .u8)) (hd : P.underlying d = some .string) (hf : bs ≠ [] → f ≠ 0) (hb : ∀ ν, GE ν → ν b = some ⟨g, o⟩ ∧ ν (b + 1) = some ⟨bs.length, c⟩ ∧ ∃ l, ν (b + 2) = some l ∧ l.addr = f)
    (hc : ∀ w, Below B w0 w → ∀ i, i < bs.length → w.cell? ⟨g, o + i, none⟩ = some (.int .u8 ((bs.getD i 0).toNat : Int))) (hv : ∀ ν, GE ν → VRs ν cs (bs.map fun b => .int .u8 b.toNat)) : HintOk P GE B w0 ⟨3, [s, d], [.outS b], .str cs⟩ := by
  intro op ho ν a w hG hbl hvs
  obtain ⟨s', d', x', e1, e2⟩ := opK_conv ho
  obtain ⟨dst, op, type, pos, after, guard⟩ := op
  simp only at e1 hvs
  subst e1
  simp only [List.cons.injEq, and_true] at e2
  obtain ⟨rfl, rfl⟩ := e2
  have hv' : VRs ν [.outS b] [a.eval x'] := by simpa [Op.operands] using hvs
  obtain ⟨v1, us, e3, h1, h2⟩ := VRs.cons_iff.1 hv'
  obtain rfl := VRs.nil_iff.1 h2
  simp only [List.cons.injEq, and_true] at e3
  obtain ⟨q1, q2, k, q3, q4⟩ := hb ν hG
  simp only [VR] at h1
  obtain ⟨l, m, f', g1, g2, g3, g4⟩ := h1
  rw [q1] at g1; cases g1
  rw [q2] at g2; cases g2
  rw [q3] at g3; cases g3
  refine ⟨.string ⟨bs.toArray⟩, ?_, by simp only [VR]; exact ⟨bs, rfl, hv ν hG⟩⟩
  show (do pure (.value (← convert s d (a.eval x'))) : Sem Next).run P w = _
  rw [e3, g4, q4]
  have hrun : (convert s d (.slice (if f = 0 then none else some ⟨g, o, none⟩) bs.length c)).run P w = .ok (.string ⟨bs.toArray⟩) w := by
    rw [run_convert_bytes_string w s d e _ bs.length c hs he hd]
    cases hbs : bs with
    | nil =>
      by_cases hf0 : f = 0
      · simp [hf0, Conv.bytesToString]
        rfl
      · simp [hf0, Conv.bytesToString, loadCells, loadCellsFrom]
        rfl
    | cons b0 bs0 =>
      rw [← hbs]
      rw [if_neg (hf (by rw [hbs]; simp))]
      have hus : (bs.map fun b => (b.toNat : Int)).map (Value.int .u8) = bs.map fun b => Value.int .u8 (b.toNat : Int) := by rw [List.map_map]; rfl
      have hlo := run_loadCells_list (P := P) w ⟨g, o, none⟩ ((bs.map fun b => (b.toNat : Int)).map (Value.int .u8)) (fun j v hj => by
        rw [add_off]
        rw [hus, List.getElem?_map] at hj
        cases hbj : bs[j]? with
        | none => rw [hbj] at hj; cases hj
        | some y =>
          rw [hbj] at hj
          cases hj
          have hjl := (List.getElem?_eq_some_iff.1 hbj).1
          have := hc w hbl j hjl
          rw [this]
          simp [List.getD, hbj])
      rw [List.length_map, List.length_map] at hlo
      rw [run_bytesToString w _ bs.length c _ hlo, foldl_push_bytes]
      congr 2
      simp [ByteArray.empty, ByteArray.emptyWithCapacity]
      have : ((fun n : Int => UInt8.ofNat n.toNat) ∘ fun b : UInt8 => (b.toNat : Int)) = fun b => b := by
        funext b
        simp
      rw [this, List.map_id']
      rfl
  rw [Sem.run_bind, hrun]
  rfl
end
end Go.Proofs.YtjpfhhndjpdmoaaGreatDoor

namespace Go.Proofs.YtjpfhhndjpdmoaaGreatDoor
open Go.RowKit

abbrev RF (l : Nat) : Fence := Fence.wide.inRound l
def notDefer (o : Oper) : Bool := match o.op with | .defer _ => false | _ => true
theorem notDefer_spec {o : Oper} (h : notDefer o = true) (c : Call) : o.op ≠ .defer c := by
  intro e
  simp [notDefer, e] at h
section
variable {P : Program} {l n : Nat} {Q : Exit → Act → World → Prop} {ops : Array Oper} {md : Region.Mode}
theorem oper_round {o : Oper} {a : Act} {w : World} {K : Act → World → Prop} (hd : notDefer o = true) (h : o.wp P a w K Q) : o.wpIn (RF l) n P a w K Q := by
  refine ⟨fun _ _ => trivial, ?_⟩
  rw [Oper.semAt_eq _ _ _ (notDefer_spec hd)]
  unfold Oper.wp at h
  generalize (execOp a.eval o).run P w = r at *
  cases r with
  | ok x w' =>
    cases x <;> simp only [Oper.upon] at h <;> simp only [Oper.uponIn]
    case value => exact h
    case skip => exact h
    case defer => exact h
    case enter f args => exact ⟨fun hh => by simp [Fence.wide] at hh, (CallsIn.inRound l (callsIn_wide.2 h)).mono fun e w'' he => by cases e <;> exact he⟩
    case row r args => exact ⟨fun hh => by simp [Fence.wide] at hh, fun c cs _ => let ⟨v, w', r, s⟩ := h c cs; ⟨v, w', r, stepsIn_wide.2 s⟩⟩
  | halt x w' => cases x <;> simp only [Oper.upon] at h <;> simp only [Oper.uponIn] <;> exact h
theorem list_round (hQ : ¬ LetsOut Q) : ∀ (L : List Oper), L.all notDefer = true → ∀ a w, wpList P ops Q L a w → wpListIn (RF l) n P ops Q L a w
  | [], _, _, _, h => h
  | o :: L, hd, a, w, h => by
    simp only [List.all_cons, Bool.and_eq_true] at hd
    simp only [wpList] at h
    simp only [wpListIn]
    split
    · rename_i hw
      simp only [hw, if_true] at h
      rcases h with h | ⟨_, h⟩
      · exact oper_round hd.1 (Oper.wp_mono (fun a w h => list_round hQ L hd.2 a w h) h)
      · exact absurd h hQ
    · rename_i hw
      simp only [hw] at h
      exact ⟨fun _ _ => trivial, list_round hQ L hd.2 _ _ h⟩
theorem any_round (hQ : ¬ LetsOut Q) (hd : ops.toList.all notDefer = true) : ∀ (g : Nat) (listed : Array Bool) (a : Act) (w : World), wpAny P md ops Q g listed a w → wpAnyIn (RF l) n P md ops Q g listed a w
  | 0, _, _, _, h => h
  | g + 1, listed, a, w, h => by
    refine ⟨h.1, fun i hi => ?_⟩
    have h := h.2 i hi
    unfold wpOp at h
    unfold wpOpIn
    split
    · rename_i ho
      simp only [ho] at h
      exact any_round hQ hd g _ _ _ h
    · rename_i o ho
      simp only [ho] at h
      have hdo : notDefer o = true := List.all_eq_true.1 hd o (by
        have := Array.mem_of_getElem? ho
        simpa using this)
      split
      · rename_i hw
        simp only [hw, if_true] at h
        rcases h with h | ⟨_, h⟩
        · exact oper_round hdo (Oper.wp_mono (fun a w h => any_round hQ hd g _ a w h) h)
        · exact absurd h hQ
      · rename_i hw
        simp only [hw] at h
        exact ⟨fun _ _ => trivial, any_round hQ hd g _ _ _ h⟩
theorem region_round {id : Nat} {a : Act} {w : World} {L : List Oper} (hQ : ¬ LetsOut Q) (hd : L.all notDefer = true) (h : wpList P L.toArray Q L a w) : (Code.region id L.toArray false).wpIn (RF l) n P Q a w :=
  wpIn_region_list (list_round hQ _ (by simpa using hd) a w (by simpa using h))
theorem region_drawn_round {id : Nat} {a : Act} {w : World} {L : List Oper} (hm : P.follows .mixedOrders = true) (hQ : ¬ LetsOut Q) (hd : L.all notDefer = true)
    (h : wpAny P .any L.toArray Q L.toArray.size (Array.replicate L.toArray.size false) a w.drew) : (Code.region id L.toArray true).wpIn (RF l) n P Q a w :=
  wpIn_region_any hm (any_round hQ (by simpa using hd) _ _ _ _ h)
end

/-! ### the marks -/
def markOf (D : Nat) : Deferred := { target := .collected D, args := #[] }
def RowsKept (w w' : World) : Prop := ∀ b t cs, Row w b t cs → Row w' b t cs
theorem RowsKept.refl (w : World) : RowsKept w w := fun _ _ _ h => h
theorem RowsKept.trans {a b c : World} (h : RowsKept a b) (k : RowsKept b c) : RowsKept a c := fun _ _ _ x => k _ _ _ (h _ _ _ x)
theorem RowsKept.putObj {w : World} {D : Nat} {o o' : Obj} (h : w.heap[D]? = some o) (hc : o.isCells = false) : RowsKept w (w.putObj D o') := by
  intro b t cs hr
  have hne : b ≠ D := by
    rintro rfl
    have := hr.heap
    rw [h] at this
    cases this
    cases hc
  exact (row_congr (World.putObj_heap_other hne)).trans hr
def KpC (Bs Bn : Nat) (W W' : World) : Prop := ∀ b t cs, b = Bs ∨ b = Bn → Row W b t cs → Row W' b t cs
theorem KpC.trans {Bs Bn : Nat} {A B C : World} (h : KpC Bs Bn A B) (k : KpC Bs Bn B C) : KpC Bs Bn A C := fun b t cs e r => k b t cs e (h b t cs e r)
theorem KpC.put {Bs Bn : Nat} (W : World) (l : Nat) (o o' : Obj) (h : W.heap[l]? = some o) (hc : o.isCells = false) : KpC Bs Bn W (W.putObj l o') := fun b t cs _ r => RowsKept.putObj h hc b t cs r

theorem grownBy_drew' (W : World) (r : Option Nat) : W.grownBy W.drew r := ⟨rfl, rfl, rfl, Nat.le_refl _, fun _ _ _ => rfl⟩
end Go.Proofs.YtjpfhhndjpdmoaaGreatDoor

namespace Go.Proofs.YtjpfhhndjpdmoaaGreatDoor
open Go.RowKit Go.Shelf
attribute [local go_sem] Oper.semAt_some

def encU (b off len : Nat) (_ : Unit) : Array Value := #[.slice (some ⟨b, off, none⟩) len len]
set_option maxRecDepth 100000 in
set_option maxHeartbeats 2000000 in
theorem chunk1_inU (n : Nat) (_hn : 1 ≤ n) (l Bs Bn b off len cap : Nat) (hl0 : 0 < len) (hl99 : len ≤ 99) (hlc : len ≤ cap) (hcm : cap ≤ maxLen) (J Jx : List Unit → World → Prop)
    (hY : ∀ pre x W, J pre W → pre.length < 1 → YieldAt Fence.wide (n - 1) Tryz.prog l (encU b off len x) W fun e W' =>
      (e = .returned (.bool true) ∧ J (pre ++ [x]) W' ∧ KpC Bs Bn W W') ∨ (e = .returned (.bool false) ∧ Jx (pre ++ [x]) W'))
    (hJd : ∀ pre W, J pre W → J pre W.drew)
    (W : World) (hBs : Row W Bs 22 #[.slice (some ⟨b, off, none⟩) len cap]) (hBn : Row W Bn 3 #[.int .i64 99]) (h0 : J [] W) :
    CallsIn Fence.wide n Tryz.prog 121 #[.func (.yield l) #[] #[], .pointer (some ⟨Bs, 0, none⟩), .pointer (some ⟨Bn, 0, none⟩)] W fun e W' => (∃ v, e = .returned v) ∧
      ((∃ xs, xs = [()] ∧ J xs W') ∨ (∃ pre, True ∧ Jx pre W')) := by
  unfold maxLen at hcm
  refine callsIn_of_wp Tryz.func121 rfl trivial ?_ rfl
  simp only [Tryz.ntmps121, List.size_toArray, List.length_cons, List.length_nil, Nat.reduceAdd, Nat.reduceSub, Array.replicate_succ, Array.replicate_zero, List.push_toArray, List.append_toArray, List.nil_append, List.cons_append]
  gi_wp2
  gi_loopw [4, 5] (fun i _ wr => ((i = .int .i64 0 ∧ J [] wr) ∨ (i = .int .i64 99 ∧ J [()] wr)) ∧ Row wr Bs 22 #[.slice (some ⟨b, off, none⟩) len cap] ∧ Row wr Bn 3 #[.int .i64 99])
    (fun i _ _ => 100 - (intOf i).toNat)
  case atStart => exact ⟨.inl ⟨rfl, h0⟩, hBs, hBn⟩
  case round =>
    clear h0 hBs hBn
    obtain ⟨⟨rfl, hJs⟩ | ⟨rfl, hJs⟩, hBs, hBn⟩ := hrel
    · have ls := hBs.lt
      have ln := hBn.lt
      have q1 : (0 : Int) < (len : Int) := by omega
      have q3 : (len : Int) ≤ (cap : Int) := by omega
      have q9 : ¬ cap = 0 := by omega
      have hJd2 := hJd _ _ hJs
      obtain ⟨fn, tmps, assign, body, hy, hR⟩ := hY [] () wr.drew hJd2 (by simp)
      unfold encU at hy
      by_cases hf : len = 99
      · subst hf
        gi_wp2
        refine wpIn_wide.2 ?_
        refine wp_region_qtail (fun w' => w' = _) 6 (by kernel_rfl) (by kernel_rfl) rfl ?_
        simp only [List.take_succ_cons, List.take_zero, List.drop_succ_cons, List.drop_zero]
        repeat (first | go_big_quiet_skip | (go_big_quiet_want; go_big_quiet_op; go_big_quiet_on))
        refine wpQuiet_nil ?_
        rintro _ rfl
        go_wp2_with fail
        gi_wp2
        refine hR.mono ?_
        rintro en W3 (⟨rfl, hJ3, hk3⟩ | ⟨rfl, hJx3⟩)
        · have hBs3 := hk3 _ _ _ (.inl rfl) hBs.drew
          have hBn3 := hk3 _ _ _ (.inr rfl) hBn.drew
          have ls3 := hBs3.lt
          have ln3 := hBn3.lt
          clear hY hJd hJs hJd2 hR hy hk3 hBs hBn
          gi_wp2
          go_roundw
          case rel => exact ⟨.inr ⟨rfl, hJ3⟩, hBs3, hBn3⟩
          case measure => simp [intOf]
        · clear hY hJd hJs hJd2 hR hy hBs hBn
          gi_wp2
          refine bodyPost_ret (results_none rfl _ _ _) rfl ?_
          exact ⟨⟨_, rfl⟩, .inr ⟨_, trivial, hJx3⟩⟩
      · have f1 : ¬ (99 : Int) ≤ (len : Int) := by omega
        gi_wp2
        refine wpIn_wide.2 ?_
        refine wp_region_qtail (fun w' => w' = _) 6 (by kernel_rfl) (by kernel_rfl) rfl ?_
        simp only [List.take_succ_cons, List.take_zero, List.drop_succ_cons, List.drop_zero]
        repeat (first | go_big_quiet_skip | (go_big_quiet_want; go_big_quiet_op; go_big_quiet_on))
        refine wpQuiet_nil ?_
        rintro _ rfl
        go_wp2_with fail
        gi_wp2
        refine hR.mono ?_
        rintro en W3 (⟨rfl, hJ3, hk3⟩ | ⟨rfl, hJx3⟩)
        · have hBs3 := hk3 _ _ _ (.inl rfl) hBs.drew
          have hBn3 := hk3 _ _ _ (.inr rfl) hBn.drew
          have ls3 := hBs3.lt
          have ln3 := hBn3.lt
          clear hY hJd hJs hJd2 hR hy hk3 hBs hBn
          gi_wp2
          go_roundw
          case rel => exact ⟨.inr ⟨rfl, hJ3⟩, hBs3, hBn3⟩
          case measure => simp [intOf]
        · clear hY hJd hJs hJd2 hR hy hBs hBn
          gi_wp2
          refine bodyPost_ret (results_none rfl _ _ _) rfl ?_
          exact ⟨⟨_, rfl⟩, .inr ⟨_, trivial, hJx3⟩⟩
    · have ls := hBs.lt
      have q1 : ¬ (99 : Int) < (len : Int) := by omega
      clear hY hJd
      gi_wp2
      go_end0
      exact ⟨⟨_, rfl⟩, .inl hJs⟩
theorem chunk_stopsU (n : Nat) (hn : 1 ≤ n) (Bs Bn : Nat) (b off len cap : Nat) (w : World) (hl0 : 0 < len) (hl99 : len ≤ 99) (hlc : len ≤ cap) (hcm : cap ≤ maxLen)
    (hBs : Row w Bs 22 #[.slice (some ⟨b, off, none⟩) len cap]) (hBn : Row w Bn 3 #[.int .i64 99]) :
    SeqStopsK Fence.wide n Tryz.prog 121 #[.pointer (some ⟨Bs, 0, none⟩), .pointer (some ⟨Bn, 0, none⟩)] (encU b off len) (KpC Bs Bn) (fun ys => ys = [()]) (fun _ => True) 1 w := by
  intro l J Jx W hW hJ _ hY h0
  exact chunk1_inU n hn l Bs Bn b off len cap hl0 hl99 hlc hcm J Jx hY (fun pre W h => hJ pre W _ none h (grownBy_drew' W none) (fun r e => by cases e)) W (hBs.below hW hBs.lt) (hBn.below hW hBn.lt) h0
end Go.Proofs.YtjpfhhndjpdmoaaGreatDoor
