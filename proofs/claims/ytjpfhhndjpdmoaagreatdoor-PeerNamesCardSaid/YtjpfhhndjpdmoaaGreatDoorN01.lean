/- Part of the proof: EvHi, EvLx, NamesA, NamesB, NamesR0, NamesR1, NamesR2, NamesR3, NamesR4, NamesC, NamesL, PeerNames. No conditions of its own. -/
import Derived.Test.YtjpfhhndjpdmoaaGreatDoorK50
namespace Go.Proofs.YtjpfhhndjpdmoaaGreatDoor
open Go.RowKit
set_option linter.unusedVariables false
set_option linter.unusedSimpArgs false
set_option linter.unusedSectionVars false
set_option autoImplicit false

structure Hint where
  k : Nat
  ts : List Nat
  ls : List LV
  v : LV
def lkH : List Hint → FuncId → List LV → Option LV
  | [], _, _ => none
  | h :: hs, f, args => match Nat.beq (OB + h.k) f && eqLs (h.ts.map goI ++ h.ls) args with
    | true => some h.v
    | false => lkH hs f args
def hintF (hs : List Hint) (callf : FuncId → List LV → Hp → Nat → Option Out) : FuncId → List LV → Hp → Nat → Option Out := fun f args H nx => match Nat.ble OB f with
  | false => callf f args H nx
  | true => match lkH hs f args with
    | some v => some ⟨v, [], 0, some []⟩
    | none => none
section
variable {P : Program} {GE : Env → Prop} [hGE : GEok P GE] {nB B : Nat} {w0 : World}
def HintOk (P : Program) (GE : Env → Prop) (B : Nat) (w0 : World) (h : Hint) : Prop := ∀ (o : Oper), opK o.op = some (h.k, h.ts) → ∀ (ν : Env) (a : Act) (w : World), GE ν → Below B w0 w → VRs ν h.ls (o.op.operands.toList.map a.eval) → ∃ v', (execOp a.eval o).run P w = .ok (.value v') w ∧ VR ν h.v v'
theorem goI_map_inj : ∀ {l m : List Nat} {a b : List LV}, l.map goI ++ a = m.map goI ++ b → l.length = m.length → l = m ∧ a = b
  | [], [], a, b, h, _ => ⟨rfl, by simpa using h⟩
  | x :: l, y :: m, a, b, h, hl => by
    simp only [List.map_cons, List.cons_append, List.cons.injEq] at h
    obtain ⟨h1, h2⟩ := h
    obtain ⟨e1, e2⟩ := goI_map_inj h2 (by simpa using hl)
    have h3 : x = y := by
      unfold goI at h1
      injection h1 with h1
      injection h1 with _ h1
      exact Int.ofNat.inj h1
    exact ⟨by rw [e1, h3], e2⟩
  | [], _ :: _, _, _, _, hl => by simp at hl
  | _ :: _, [], _, _, _, hl => by simp at hl
theorem lkH_ok {f : FuncId} {args : List LV} {v : LV} : ∀ {hs : List Hint}, lkH hs f args = some v → ∃ h ∈ hs, OB + h.k = f ∧ h.ts.map goI ++ h.ls = args ∧ h.v = v
  | [], h => by cases h
  | h :: hs, hh => by
    simp only [lkH] at hh
    split at hh
    · rename_i hb
      cases hh
      simp only [Bool.and_eq_true] at hb
      exact ⟨h, List.mem_cons_self .., nbeq hb.1, eqLs_ok hb.2, rfl⟩
    · obtain ⟨h', h1, h2⟩ := lkH_ok hh
      exact ⟨h', List.mem_cons_of_mem _ h1, h2⟩
theorem opK_idx {op : Op} {ts : List Nat} (h : opK op = some (0, ts)) : ∃ t x i, op = .indexAddr t x i ∧ ts = [t] := by
  cases op with
  | indexAddr t x i => simp only [opK, Option.some.injEq, Prod.mk.injEq, true_and] at h; exact ⟨t, x, i, rfl, h.symm⟩
  | call c => simp only [opK] at h; split at h <;> first | (split at h <;> simp at h; done) | (simp at h; done)
  | binOp o t x y u => simp only [opK] at h; split at h <;> simp at h
  | _ => simp [opK] at h
theorem opK_load {op : Op} {ts : List Nat} (h : opK op = some (1, ts)) : ∃ t x, op = .load t x ∧ ts = [t] := by
  cases op with
  | load t x => simp only [opK, Option.some.injEq, Prod.mk.injEq, true_and] at h; exact ⟨t, x, rfl, h.symm⟩
  | call c => simp only [opK] at h; split at h <;> first | (split at h <;> simp at h; done) | (simp at h; done)
  | binOp o t x y u => simp only [opK] at h; split at h <;> simp at h
  | _ => simp [opK] at h
theorem opK_slice {op : Op} {ts : List Nat} (h : opK op = some (2, ts)) : ∃ t x lo hi mx, op = .slice t x lo hi mx ∧ ts = [t] := by
  cases op with
  | slice t x lo hi mx => simp only [opK, Option.some.injEq, Prod.mk.injEq, true_and] at h; exact ⟨t, x, lo, hi, mx, rfl, h.symm⟩
  | call c => simp only [opK] at h; split at h <;> first | (split at h <;> simp at h; done) | (simp at h; done)
  | binOp o t x y u => simp only [opK] at h; split at h <;> simp at h
  | _ => simp [opK] at h
theorem opK_conv {op : Op} {ts : List Nat} (h : opK op = some (3, ts)) : ∃ s d x, op = .convert s d x ∧ ts = [s, d] := by
  cases op with
  | convert s d x => simp only [opK, Option.some.injEq, Prod.mk.injEq, true_and] at h; exact ⟨s, d, x, rfl, h.symm⟩
  | call c => simp only [opK] at h; split at h <;> first | (split at h <;> simp at h; done) | (simp at h; done)
  | binOp o t x y u => simp only [opK] at h; split at h <;> simp at h
  | _ => simp [opK] at h
theorem opK_len {op : Op} {ts : List Nat} (h : opK op = some (4, ts)) : ∃ c t, op = .call c ∧ c.callee = .builtin .len ∧ c.argTypes.toList = [t] ∧ ts = [t] := by
  cases op with
  | call c =>
    simp only [opK] at h
    split at h
    · rename_i hc
      split at h
      · rename_i t ht
        simp only [Option.some.injEq, Prod.mk.injEq, true_and] at h
        exact ⟨c, t, rfl, hc, ht, h.symm⟩
      · simp at h
    all_goals simp at h
  | binOp o t x y u => simp only [opK] at h; split at h <;> simp at h
  | _ => simp [opK] at h
theorem opK_min {op : Op} {ts : List Nat} (h : opK op = some (5, ts)) : ∃ c, op = .call c ∧ c.callee = .builtin .min ∧ ts = [] := by
  cases op with
  | call c =>
    simp only [opK] at h
    split at h
    · split at h <;> simp at h
    · rename_i hc
      simp only [Option.some.injEq, Prod.mk.injEq, true_and] at h
      exact ⟨c, rfl, hc, h.symm⟩
    · simp at h
  | binOp o t x y u => simp only [opK] at h; split at h <;> simp at h
  | _ => simp [opK] at h
def tsN (k : Nat) : Nat := match k with | 0 => 1 | 1 => 1 | 2 => 1 | 3 => 2 | 4 => 1 | _ => 0
theorem opK_n {op : Op} {k : Nat} {ts : List Nat} (h : opK op = some (k, ts)) : ts.length = tsN k := by
  cases op with
  | call c =>
    simp only [opK] at h
    split at h
    · split at h
      · simp only [Option.some.injEq, Prod.mk.injEq] at h; obtain ⟨rfl, rfl⟩ := h; rfl
      · simp at h
    · simp only [Option.some.injEq, Prod.mk.injEq] at h; obtain ⟨rfl, rfl⟩ := h; rfl
    · simp at h
  | binOp o t x y u => simp only [opK] at h; split at h <;> first | (simp only [Option.some.injEq, Prod.mk.injEq] at h; obtain ⟨rfl, rfl⟩ := h; rfl) | (simp at h; done)
  | indexAddr t x i => simp only [opK, Option.some.injEq, Prod.mk.injEq] at h; obtain ⟨rfl, rfl⟩ := h; rfl
  | load t x => simp only [opK, Option.some.injEq, Prod.mk.injEq] at h; obtain ⟨rfl, rfl⟩ := h; rfl
  | slice t x lo hi mx => simp only [opK, Option.some.injEq, Prod.mk.injEq] at h; obtain ⟨rfl, rfl⟩ := h; rfl
  | convert s d x => simp only [opK, Option.some.injEq, Prod.mk.injEq] at h; obtain ⟨rfl, rfl⟩ := h; rfl
  | _ => simp [opK] at h
theorem hintF_ok {hs : List Hint} {callf : FuncId → List LV → Hp → Nat → Option Out} (hc : CallOk P nB B w0 callf) (hn : ∀ h ∈ hs, h.ts.length = tsN h.k) (hh : ∀ h ∈ hs, HintOk P GE B w0 h) : EvOk P GE nB B w0 (hintF hs callf) := by
  refine ⟨fun f args H nx out hob h hnx => ?_, fun o T v hv ν a w hG hT hb => ?_⟩
  · have h' : callf f args H nx = some out := by
      unfold hintF at h
      rw [hob] at h
      exact h
    exact hc f args H nx out hob h' hnx
  · unfold hintL at hv
    split at hv
    · rename_i k ts hk
      split at hv
      · rename_i ls hls
        have h1 : ∃ h ∈ hs, OB + h.k = OB + k ∧ h.ts.map goI ++ h.ls = ts.map goI ++ ls ∧ h.v = v := by
          unfold hintF at hv
          rw [Nat.ble_eq_true_of_le (Nat.le_add_right OB k)] at hv
          simp only at hv
          split at hv
          · rename_i out hl
            cases hv
            split at hl
            · rename_i v' hv'
              cases hl
              exact lkH_ok hv'
            · cases hl
          · cases hv
        obtain ⟨h, hm, e1, e2, e3⟩ := h1
        have e1' : h.k = k := by omega
        obtain ⟨e4, e5⟩ := goI_map_inj e2 (by rw [hn h hm, e1', opK_n hk])
        obtain ⟨v', q1, q2⟩ := hh h hm o (by rw [hk, e1', e4]) ν a w hG hb (by rw [e5]; exact opds_ok hT hls)
        exact ⟨v', q1, by rw [← e3]; exact q2⟩
      · cases hv
    · cases hv
/-! ### single operations -/
theorem u8_part {t : TypeId} (h : P.underlying t = some (.int .u8)) (w : World) : (isAgg t).run P w = .ok false w := by
  simp [isAgg, run_underlying h]
theorem hint_index {t elem : TypeId} {b p g o n c i : Nat} {x : LV} (hu : P.underlying t = some (.slice elem)) (he : sizeL P elem = some 1) (hx : ∀ ν y, GE ν → VR ν x y → ∃ k, y = .int k (i : Int)) (hi : i < n)
    (hb : ∀ ν, GE ν → ν b = some ⟨g, o⟩ ∧ ν (b + 1) = some ⟨n, c⟩ ∧ ∃ f, ν (b + 2) = some f ∧ f.addr ≠ 0) (hp : ∀ ν, GE ν → ν p = some ⟨g, o + i⟩) : HintOk P GE B w0 ⟨0, [t], [.outS b, x], .outP p⟩ := by
  intro op ho ν a w hG hbl hv
  obtain ⟨t', x', i', e1, e2⟩ := opK_idx ho
  obtain ⟨dst, op, type, pos, after, guard⟩ := op
  simp only at e1 hv
  subst e1
  obtain rfl : t = t' := by simpa using e2
  simp only [Op.operands] at hv
  obtain ⟨v1, us, e3, h1, h2⟩ := VRs.cons_iff.1 hv
  obtain ⟨v2, us, rfl, h3, h4⟩ := VRs.cons_iff.1 h2
  obtain rfl := VRs.nil_iff.1 h4
  simp only [List.map_cons, List.map_nil, List.cons.injEq, and_true] at e3
  obtain ⟨q1, q2, f, q3, q4⟩ := hb ν hG
  simp only [VR] at h1
  obtain ⟨l, m, f', g1, g2, g3, g4⟩ := h1
  rw [q1] at g1; cases g1
  rw [q2] at g2; cases g2
  rw [q3] at g3; cases g3
  rw [if_neg q4] at g4
  obtain ⟨k, hk⟩ := hx ν v2 hG h3
  refine ⟨.pointer (some ⟨g, o + i, none⟩), ?_, by simp only [VR]; exact ⟨_, hp ν hG, rfl⟩⟩
  show (do pure (.value (← Instr.indexAt t (a.eval x') (a.eval i'))) : Sem Next).run P w = _
  rw [e3.1, e3.2, g4, hk]
  simp [Instr.indexAt, asIntOf, run_underlying hu, run_sizeOf he, add_off, hi]
theorem hint_load {t : TypeId} {p g o m e : Nat} {ne : List Nat} (hu : P.underlying t = some (.int .u8)) (hp : ∀ ν, GE ν → ν p = some ⟨g, o⟩) (hc : ∀ w, Below B w0 w → w.cell? ⟨g, o, none⟩ = some (.int .u8 (m : Int))) (hv : ∀ ν, GE ν → VR ν (.sym e .u8 0 255 ne) (.int .u8 (m : Int))) : HintOk P GE B w0 ⟨1, [t], [.outP p], .sym e .u8 0 255 ne⟩ := by
  intro op ho ν a w hG hbl hvs
  obtain ⟨t', x', e1, e2⟩ := opK_load ho
  obtain ⟨dst, op, type, pos, after, guard⟩ := op
  simp only at e1 hvs
  subst e1
  obtain rfl : t = t' := by simpa using e2
  simp only [Op.operands] at hvs
  obtain ⟨v1, us, e3, h1, h2⟩ := VRs.cons_iff.1 hvs
  obtain rfl := VRs.nil_iff.1 h2
  simp only [List.map_cons, List.map_nil, List.cons.injEq, and_true] at e3
  simp only [VR] at h1
  obtain ⟨l, g1, g2⟩ := h1
  rw [hp ν hG] at g1; cases g1
  refine ⟨.int .u8 (m : Int), ?_, hv ν hG⟩
  show (do pure (.value (← Instr.loadAt t (a.eval x'))) : Sem Next).run P w = _
  rw [e3, g2]
  simp [Instr.loadAt, Instr.sureAddr, loadVar, u8_part hu, hc w hbl]
theorem hint_len {t elem : TypeId} {b n c : Nat} {v : LV} (hu : P.underlying t = some (.slice elem)) (hb : ∀ ν, GE ν → ν (b + 1) = some ⟨n, c⟩) (hv : ∀ ν, GE ν → VR ν v (.int .i64 (n : Int))) : HintOk P GE B w0 ⟨4, [t], [.outS b], v⟩ := by
  intro op ho ν a w hG hbl hvs
  obtain ⟨cl, t', e1, e0, e4, e2⟩ := opK_len ho
  obtain rfl : t = t' := by simpa using e2
  have ex := exec_builtin (a := a) e1 e0
  rw [e1] at hvs
  simp only [Op.operands, Call.operands, e0] at hvs
  have hvs' : VRs ν [.outS b] (cl.args.toList.map a.eval) := by simpa using hvs
  obtain ⟨v1, e3, h1⟩ := one_arg hvs'
  simp only [VR] at h1
  obtain ⟨l, m, f, g1, g2, g3, rfl⟩ := h1
  rw [hb ν hG] at g2; cases g2
  refine ⟨.int .i64 (n : Int), ?_, hv ν hG⟩
  have h0 : cl.argTypes[0]? = some t := by rw [← Array.getElem?_toList, e4]; rfl
  rw [ex, e3]
  show (do pure (.value (← Builtin.len_ cl.argTypes op.type #[_])) : Sem Next).run P w = _
  simp [Builtin.len_, h0, run_underlying hu, goInt]
end
end Go.Proofs.YtjpfhhndjpdmoaaGreatDoor

namespace Go.Proofs.YtjpfhhndjpdmoaaGreatDoor
open Go.RowKit
set_option linter.unusedVariables false
set_option linter.unusedSimpArgs false
set_option linter.unusedSectionVars false
set_option autoImplicit false

section
variable {P : Program} {GE : Env → Prop} [hGE : GEok P GE] {nB B : Nat} {w0 : World}
theorem stretchX {GE2 : Env → Prop} {callf : FuncId → List LV → Hp → Nat → Option Out} (hm : P.follows .mixedOrders = true) (hc : EvOk P GE nB B w0 callf) (hB : B ≤ w0.heap.size) {n : Nat} {c : Code} {s : St} {t : Pat} {σ : Sg} {x : Ex} (h : okS nB σ ⟨[], []⟩ t x s.nx (evCQ P nB callf n c s) = true)
    (hG : ∀ ν', GE ν' → insK nB t.nx σ = true → GE2 (envS nB σ ν')) {ν : Env} {a : Act} {w : World} (hs : StR P GE nB B w0 ν s a w) (hf : Free ν s.nx) : c.wp P (fun e a' w' => e = exR x ∧ ∃ ν1, StR P GE2 nB B w0 (envS nB σ ν1) (stOf s.nt t) a' w' ∧ Free (envS nB σ ν1) t.nx ∧ GE ν1) a w := by
  rw [evCQ_eq, evCK_eq] at h
  cases hev : evC P nB callf n c s with
  | none => rw [hev] at h; cases h
  | some r =>
    obtain ⟨y, s'⟩ := r
    rw [hev] at h
    simp only [okS, Bool.and_eq_true] at h
    obtain ⟨⟨h1, h2, h3⟩, h4⟩ := h
    obtain rfl := exB_ok h1
    refine wp_mono ((code_all hm hc hB n).1 c s s' y hev ν a w hs (fun i q1 q2 => hf i q1 (by have := Nat.le_of_ble_eq_true h2; omega))) ?_
    rintro e a' w' ⟨rfl, ν', g1, g2⟩
    have := ins_ok (KnOk.nil _ _ _) g1 (hG ν' g1.glob (insS_K h4)) h4
    rw [g2.nt] at this
    exact ⟨rfl, _, this.1, this.2, g1.glob⟩
theorem pre_okX {GE2 : Env → Prop} {callf : FuncId → List LV → Hp → Nat → Option Out} (hm : P.follows .mixedOrders = true) (hc : EvOk P GE nB B w0 callf) (hB : B ≤ w0.heap.size) {lf n : Nat} {c : Code} {s : St} {t : Pat} {σ : Sg} (h : okS nB σ ⟨[], []⟩ t .normal s.nx (evPre P nB callf lf n c s) = true)
    (hG : ∀ ν', GE ν' → insK nB t.nx σ = true → GE2 (envS nB σ ν')) {Q : Exit → Act → World → Prop} {ν : Env} {a : Act} {w : World} (hs : StR P GE nB B w0 ν s a w) (hf : Free ν s.nx)
    (hK : ∀ a' w' ν1, StR P GE2 nB B w0 (envS nB σ ν1) (stOf s.nt t) a' w' → Free (envS nB σ ν1) t.nx → GE ν1 → (Cd.drop n c).wp P Q a' w') : c.wp P Q a w := by
  cases hev : evPre P nB callf lf n c s with
  | none => rw [hev] at h; cases h
  | some r =>
    obtain ⟨y, s'⟩ := r
    rw [hev] at h
    simp only [okS, Bool.and_eq_true] at h
    obtain ⟨⟨h1, h2, h3⟩, h4⟩ := h
    have h2' := Nat.le_of_ble_eq_true h2
    refine (evPre_ok hm hc hB n c s s' y hev).2 hs (fun i q1 q2 => hf i q1 (by omega)) (fun a' w' ν' g1 g2 => ?_)
    have := ins_ok (KnOk.nil _ _ _) g1 (hG ν' g1.glob (insS_K h4)) h4
    rw [g2] at this
    exact hK a' w' _ this.1 this.2 g1.glob
theorem StR.env {GE2 : Env → Prop} {ν ν' : Env} {s : St} {a : Act} {w : World} (hs : StR P GE nB B w0 ν s a w) (he : Ext ν ν') (hi : ∀ i, i < s.nx → ν' i = ν i) (hG : GE2 ν') : StR P GE2 nB B w0 ν' s a w := by
  refine ⟨fun i k hf hk => ?_, fun i k l hf h1 hk hl => ?_, fun i j ki kj li lj h1 h2 h3 h4 h5 => ?_, hs.ids, hG, hs.below, fun t x hx => VR.ext he _ _ (hs.tr t x hx), hs.sz, hs.df, hs.wrs⟩
  · obtain ⟨l, q1, q2⟩ := hs.hr i k hf hk
    exact ⟨l, he i l q1, q2.ext he⟩
  · rw [hi i (hs.ids i k hk)] at hl
    exact hs.low i k l hf h1 hk hl
  · rw [hi i (hs.ids i ki h1)] at h3
    rw [hi j (hs.ids j kj h2)] at h4
    exact hs.inj i j ki kj li lj h1 h2 h3 h4 h5
theorem StR.keep {ν : Env} {s : St} {a : Act} {w : World} (hs : StR P GE nB B w0 ν s a w) {T : List (Nat × LV)} {H : Hp} (hT : ∀ t x, (t, x) ∈ T → s.T.get t = some x) (hH : ∀ i k, H.get i = some k → s.H.get i = some k) : StR P GE nB B w0 ν ⟨s.nt, trOf T, H, s.nx, []⟩ a w := by
  refine ⟨fun i k hf hk => hs.hr i k hf (hH i k hk), fun i k l hf h1 hk hl => hs.low i k l hf h1 (hH i k hk) hl, fun i j ki kj li lj h1 h2 h3 h4 h5 => hs.inj i j ki kj li lj (hH i ki h1) (hH j kj h2) h3 h4 h5, fun i k hk => hs.ids i k (hH i k hk), hs.glob, hs.below, fun t x hx => hs.tr t x (hT t x (trOf_get hx)), hs.sz, hs.df, fun i hi => by cases hi⟩
def eqT (T : Tr LV) : List (Nat × LV) → Bool
  | [] => true
  | (t, x) :: l => (match T.get t with | some y => eqLV x y | none => false) && eqT T l
def okT (T : List (Nat × LV)) (nx nt : Nat) : Option (Ex × St) → Bool
  | some (.normal, s) => (s.wr.isEmpty && Nat.beq s.nx nx) && (Nat.beq s.nt nt && eqT s.T T)
  | _ => false
theorem eqT_ok {T : Tr LV} : ∀ {l : List (Nat × LV)}, eqT T l = true → ∀ t x, (t, x) ∈ l → T.get t = some x
  | [], _, t, x, hm => by cases hm
  | (i, y) :: l, h, t, x, hm => by
    simp only [eqT, Bool.and_eq_true] at h
    rcases List.mem_cons.1 hm with e | hm
    · obtain ⟨rfl, rfl⟩ := Prod.mk.inj e
      have h1 := h.1
      split at h1
      · rename_i z hz; rw [hz, eqLV_ok h1]
      · cases h1
    · exact eqT_ok h.2 t x hm
theorem one_T {callf : FuncId → List LV → Hp → Nat → Option Out} (hm : P.follows .mixedOrders = true) (hc : EvOk P GE nB B w0 callf) (hB : B ≤ w0.heap.size) {lf : Nat} {c : Code} {s : St} {T : List (Nat × LV)} (hq : Cd.isSeq c = true) (h : okT T s.nx s.nt (evCQ P nB callf lf (Cd.a c) s) = true)
    {Q : Exit → Act → World → Prop} {ν : Env} {a : Act} {w : World} (hs : StR P GE nB B w0 ν s a w) (hids : ∀ i k, s.H.get i = some k → i < s.nx)
    (hK : ∀ a' w', StR P GE nB B w0 ν ⟨s.nt, trOf T, s.H, s.nx, []⟩ a' w' → (Cd.b c).wp P Q a' w') : c.wp P Q a w := by
  rw [evCQ_eq, evCK_eq] at h
  cases hev : evC P nB callf lf (Cd.a c) s with
  | none => rw [hev] at h; cases h
  | some r =>
    obtain ⟨y, s'⟩ := r
    rw [hev] at h
    cases y with
    | exit i => cases h
    | ret => cases h
    | normal =>
      simp only [okT, Bool.and_eq_true] at h
      obtain ⟨⟨h1, h2⟩, h3, h4⟩ := h
      have e2 := nbeq h2
      have e3 := nbeq h3
      have hwr : s'.wr = [] := by simpa using h1
      refine wpSeq hq (wp_mono ((code_all hm hc hB lf).1 _ s s' .normal hev ν a w hs (fun i q1 q2 => by omega)) ?_)
      rintro e a' w' ⟨rfl, ν', g1, g2⟩
      have hν : ν' = ν := by
        funext i
        exact g2.ext i (by omega)
      subst hν
      have := g1.keep (T := T) (H := s.H) (eqT_ok h4) (fun i k hk => by
        rw [g2.kept i (hids i k hk) (by rw [hwr]; simp)]; exact hk)
      rw [e2, e3] at this
      exact hK a' w' this
/-! ### sums and comparisons -/
theorem opK_lss {op : Op} {ts : List Nat} (h : opK op = some (6, ts)) : ∃ t x y u, op = .binOp .lss t x y u ∧ ts = [] := by
  cases op with
  | binOp o t x y u =>
    cases o <;> simp only [opK, Option.some.injEq, Prod.mk.injEq, reduceCtorEq] at h
    all_goals first | (exact ⟨t, x, y, u, rfl, h.2.symm⟩) | (simp at h; done)
  | call c => simp only [opK] at h; split at h <;> first | (split at h <;> simp at h; done) | (simp at h; done)
  | _ => simp [opK] at h
theorem opK_add {op : Op} {ts : List Nat} (h : opK op = some (10, ts)) : ∃ t x y u, op = .binOp .add t x y u ∧ ts = [] := by
  cases op with
  | binOp o t x y u =>
    cases o <;> simp only [opK, Option.some.injEq, Prod.mk.injEq, reduceCtorEq] at h
    all_goals first | (exact ⟨t, x, y, u, rfl, h.2.symm⟩) | (simp at h; done)
  | call c => simp only [opK] at h; split at h <;> first | (split at h <;> simp at h; done) | (simp at h; done)
  | _ => simp [opK] at h
theorem hint_lss {x y : LV} {i n : Nat} {r : Bool} (hx : ∀ ν v, GE ν → VR ν x v → v = .int .i64 (i : Int)) (hy : ∀ ν v, GE ν → VR ν y v → v = .int .i64 (n : Int)) (hr : decide (i < n) = r) : HintOk P GE B w0 ⟨6, [], [x, y], .v (.bool r)⟩ := by
  intro op ho ν a w hG hbl hv
  obtain ⟨t', x', y', u', e1, e2⟩ := opK_lss ho
  obtain ⟨dst, op, type, pos, after, guard⟩ := op
  simp only at e1 hv
  subst e1
  simp only [Op.operands] at hv
  obtain ⟨v1, us, e3, h1, h2⟩ := VRs.cons_iff.1 hv
  obtain ⟨v2, us, rfl, h3, h4⟩ := VRs.cons_iff.1 h2
  obtain rfl := VRs.nil_iff.1 h4
  simp only [List.map_cons, List.map_nil, List.cons.injEq, and_true] at e3
  have p1 := hx ν v1 hG h1
  have p2 := hy ν v2 hG h3
  refine ⟨.bool r, ?_, by simp [VR, plainV]⟩
  show (do pure (.value (← (do eqGuard .lss t' x' y' (a.eval x') (a.eval y'); binOp .lss t' (a.eval x') (a.eval y')))) : Sem Next).run P w = _
  rw [e3.1, e3.2, p1, p2, ← hr]
  simp [eqGuard, binOp, Op.intCmp]
theorem hint_add {x v : LV} {i : Nat} (hx : ∀ ν y, GE ν → VR ν x y → y = .int .i64 (i : Int)) (hi : i ≤ 1000000) (hv : ∀ ν, GE ν → VR ν v (.int .i64 ((i + 1 : Nat) : Int))) : HintOk P GE B w0 ⟨10, [], [x, goI 1], v⟩ := by
  intro op ho ν a w hG hbl hvs
  obtain ⟨t', x', y', u', e1, e2⟩ := opK_add ho
  obtain ⟨dst, op, type, pos, after, guard⟩ := op
  simp only at e1 hvs
  subst e1
  simp only [Op.operands] at hvs
  obtain ⟨v1, us, e3, h1, h2⟩ := VRs.cons_iff.1 hvs
  obtain ⟨v2, us, rfl, h3, h4⟩ := VRs.cons_iff.1 h2
  obtain rfl := VRs.nil_iff.1 h4
  simp only [List.map_cons, List.map_nil, List.cons.injEq, and_true] at e3
  have p1 := hx ν v1 hG h1
  have p2 : v2 = .int .i64 1 := by
    simp only [goI, VR] at h3
    exact h3.1
  have hw : IntKind.i64.wrap ((i : Int) + 1) = (i : Int) + 1 := by rw [IntKind.wrap_i64]; omega
  refine ⟨.int .i64 ((i + 1 : Nat) : Int), ?_, hv ν hG⟩
  show (do pure (.value (← (do eqGuard .add t' x' y' (a.eval x') (a.eval y'); binOp .add t' (a.eval x') (a.eval y')))) : Sem Next).run P w = _
  rw [e3.1, e3.2, p1, p2]
  simp [eqGuard, binOp, Op.intArith, hw]
end
end Go.Proofs.YtjpfhhndjpdmoaaGreatDoor

namespace Go.Proofs.YtjpfhhndjpdmoaaGreatDoor
open Go.RowKit
set_option linter.unusedVariables false
set_option linter.unusedSimpArgs false

def nmSyms : List LV := [.sym 1000100 .u8 0 255 [], .sym 1000101 .u8 0 255 [], .sym 1000102 .u8 0 255 [], .sym 1000103 .u8 0 255 [], .sym 1000104 .u8 0 255 [], .sym 1000105 .u8 0 255 [], .sym 1000106 .u8 0 255 [], .sym 1000107 .u8 0 255 [], .sym 1000108 .u8 0 255 [], .sym 1000109 .u8 0 255 [], .sym 1000110 .u8 0 255 [], .sym 1000111 .u8 0 255 [], .sym 1000112 .u8 0 255 [], .sym 1000113 .u8 0 255 [], .sym 1000114 .u8 0 255 [], .sym 1000115 .u8 0 255 [], .sym 1000116 .u8 0 255 [], .sym 1000117 .u8 0 255 [], .sym 1000118 .u8 0 255 [], .sym 1000119 .u8 0 255 [], .sym 1000120 .u8 0 255 [], .sym 1000121 .u8 0 255 [], .sym 1000122 .u8 0 255 [], .sym 1000123 .u8 0 255 [], .sym 1000124 .u8 0 255 [], .sym 1000125 .u8 0 255 [], .sym 1000126 .u8 0 255 [], .sym 1000127 .u8 0 255 [], .sym 1000128 .u8 0 255 [], .sym 1000129 .u8 0 255 [], .sym 1000130 .u8 0 255 [], .sym 1000131 .u8 0 255 [], .sym 1000132 .u8 0 255 [], .sym 1000133 .u8 0 255 [], .sym 1000134 .u8 0 255 [], .sym 1000135 .u8 0 255 [], .sym 1000136 .u8 0 255 [], .sym 1000137 .u8 0 255 [], .sym 1000138 .u8 0 255 [], .sym 1000139 .u8 0 255 [], .sym 1000140 .u8 0 255 [], .sym 1000141 .u8 0 255 [], .sym 1000142 .u8 0 255 [], .sym 1000143 .u8 0 255 [], .sym 1000144 .u8 0 255 [], .sym 1000145 .u8 0 255 [], .sym 1000146 .u8 0 255 [], .sym 1000147 .u8 0 255 [], .sym 1000148 .u8 0 255 [], .sym 1000149 .u8 0 255 [], .sym 1000150 .u8 0 255 [], .sym 1000151 .u8 0 255 [], .sym 1000152 .u8 0 255 [], .sym 1000153 .u8 0 255 [], .sym 1000154 .u8 0 255 [], .sym 1000155 .u8 0 255 [], .sym 1000156 .u8 0 255 [], .sym 1000157 .u8 0 255 [], .sym 1000158 .u8 0 255 [], .sym 1000159 .u8 0 255 [], .sym 1000160 .u8 0 255 [], .sym 1000161 .u8 0 255 [], .sym 1000162 .u8 0 255 [], .sym 1000163 .u8 0 255 [], .sym 1000164 .u8 0 255 [], .sym 1000165 .u8 0 255 [], .sym 1000166 .u8 0 255 [], .sym 1000167 .u8 0 255 [], .sym 1000168 .u8 0 255 [], .sym 1000169 .u8 0 255 [], .sym 1000170 .u8 0 255 []]
def nmSy (L : Nat) : List LV := nmSyms.take L
def nmTl : List LV := [(.slice 4549 0 1 1), (.v (.int .u8 3)), (.v (.int .u8 0)), (.v (.int .u8 0)), (.v (.int .u8 0)), (.v (.int .u8 0)), (.v (.int .u8 0)), (.v (.int .u8 0)), (.v (.int .u8 0)), (.v (.int .u8 0)), (.v (.int .u8 0)), (.v (.int .u8 0)), (.v (.int .u8 0)), (.v (.int .u8 0)), (.v (.int .u8 0)), (.v (.int .u8 0)), (.v (.int .u8 0)), (.v (.int .u8 0)), (.v (.int .u8 0)), (.v (.int .u8 0)), (.v (.int .u8 0)), (.v (.int .u8 0)), (.v (.int .u8 0)), (.v (.int .u8 0)), (.v (.int .u8 0)), (.v (.int .u8 0)), (.v (.int .u8 0)), (.v (.int .u8 0)), (.v (.int .u8 0)), (.v (.int .u8 0)), (.v (.int .u8 0)), (.v (.int .u8 0)), (.v (.int .u8 3)), (.slice 4550 0 1 1), (.v (.int .i64 5)), (.v (.int .u8 0)), (.v (.int .u8 0)), (.v (.int .u8 0)), (.v (.int .u8 0)), (.v (.int .u8 0)), (.v (.int .u8 0)), (.v (.int .u8 0)), (.v (.int .u8 0)), (.v (.int .u8 0)), (.v (.int .u8 0)), (.v (.int .u8 0)), (.v (.int .u8 0)), (.v (.int .u8 0)), (.v (.int .u8 0)), (.v (.int .u8 0)), (.v (.int .u8 0)), (.v (.int .u8 0)), (.v (.int .u8 0)), (.v (.int .u8 0)), (.v (.int .u8 0)), (.v (.int .u8 0)), (.v (.int .u8 0)), (.v (.int .u8 0)), (.v (.int .u8 0)), (.v (.int .u8 0)), (.v (.int .u8 0)), (.v (.int .u8 0)), (.v (.int .u8 0)), (.v (.int .u8 0)), (.v (.int .u8 0)), (.v (.int .u8 0)), (.v (.int .u8 0)), (.v (.bool false)), (.v (.slice none 0 0)), (.v (.int .u8 0)), (.v (.int .u8 0)), (.v (.int .u8 0)), (.v (.int .u8 0)), (.v (.int .u8 0)), (.v (.int .u8 0)), (.v (.int .u8 0)), (.v (.int .u8 0)), (.v (.int .u8 0)), (.v (.int .u8 0)), (.v (.int .u8 0)), (.v (.int .u8 0)), (.v (.int .u8 0)), (.v (.int .u8 0)), (.v (.int .u8 0)), (.v (.int .u8 0)), (.v (.int .u8 0)), (.v (.int .u8 0)), (.v (.int .u8 0)), (.v (.int .u8 0)), (.v (.int .u8 0)), (.v (.int .u8 0)), (.v (.int .u8 0)), (.v (.int .u8 0)), (.v (.int .u8 0)), (.v (.int .u8 0)), (.v (.int .u8 0)), (.v (.int .u8 0)), (.v (.int .u8 0)), (.v (.int .u8 0)), (.v (.int .u8 0)), (.v (.int .u8 0)), (.v (.int .i64 0)), (.v (.int .i64 0)), (.v (.string ⟨#[]⟩)), (.v (.string ⟨#[]⟩)), (.v (.int .i64 0)), (.v (.int .i64 0)), (.v (.slice none 0 0)), (.v (.bool false)), (.v (.int .i64 0)), (.v (.int .i64 0)), (.v (.int .u8 0)), (.v (.int .u8 0)), (.v (.int .u8 0)), (.v (.int .u8 0)), (.v (.int .u8 0)), (.v (.int .u8 0)), (.v (.int .u8 0)), (.v (.int .u8 0)), (.v (.int .u8 0)), (.v (.int .u8 0)), (.v (.int .u8 0)), (.v (.int .u8 0)), (.v (.int .u8 0)), (.v (.int .u8 0)), (.v (.int .u8 0)), (.v (.int .u8 0)), (.v (.int .u8 0)), (.v (.int .u8 0)), (.v (.int .u8 0)), (.v (.int .u8 0)), (.v (.int .u8 0)), (.v (.int .u8 0)), (.v (.int .u8 0)), (.v (.int .u8 0)), (.v (.int .u8 0)), (.v (.int .u8 0)), (.v (.int .u8 0)), (.v (.int .u8 0)), (.v (.int .u8 0)), (.v (.int .u8 0)), (.v (.int .u8 0)), (.v (.int .u8 0)), (.v (.int .i64 100)), (.v (.int .i64 5))]
def nmX (lo hi : Nat) : LV := .sym 1000012 .i64 lo hi []
def nmN : LV := .sym 1000011 .i64 0 9223372036854775807 []
def nmLen (L : Nat) : Nat := Nat.add 5 L
def nmP (L st : Nat) : List LV := .str (nmSy L) :: (nmTl ++ (match st with
  | 0 => [.v (.int .i64 0), .v (.slice none 0 0), .v (.int .i64 (-1)), .v (.slice none 0 0), .v (.pointer none), .v (.int .i64 0)]
  | _ => [.v (.int .i64 1), .buf 4581 0 9 1, .sym 1000000 .i64 0 255 [], .buf 4587 0 (nmLen L) 1, .v (.pointer none), .v (.int .i64 0)]))
def nmAsked : List LV := [.v (.int .u8 1), .sym 1000000 .u8 0 255 [], .v (.int .u8 0), .v (.int .u8 9), .v (.int .u8 1), .v (.int .u8 119), .v (.int .u8 104), .v (.int .u8 111), .v (.int .u8 63)]
def nmSaid (L : Nat) : List LV := .v (.int .u8 2) :: .sym 1000000 .u8 0 255 [] :: .v (.int .u8 0) :: .v (.int .u8 (.ofNat (nmLen L))) :: .v (.int .u8 1) :: nmSy L
def nmD (L st : Nat) : List (Nat × Blk) := (4562, ⟨80, true, false, nmP L st⟩) :: (match st with
  | 0 => []
  | _ => [(4581, ⟨5, false, false, nmAsked⟩), (4587, ⟨5, false, true, nmSaid L⟩)])
def nmT (L : Nat) : List (Nat × LV) := [(0, .str (nmSy L)), (1, .outS 1001000), (8, .ptr 4562 0), (9, .v (.int .i64 0))]
def nmPat (L st lo hi : Nat) : Pat := ⟨(10, nmX lo hi) :: nmT L, nmD L st, 4606⟩
def nmPat1 (L : Nat) : Pat := ⟨nmT L, nmD L 0, 4606⟩
def nmSySg : Sg := [(1000100, .num 1000100), (1000101, .num 1000101), (1000102, .num 1000102), (1000103, .num 1000103), (1000104, .num 1000104), (1000105, .num 1000105), (1000106, .num 1000106), (1000107, .num 1000107), (1000108, .num 1000108), (1000109, .num 1000109), (1000110, .num 1000110), (1000111, .num 1000111), (1000112, .num 1000112), (1000113, .num 1000113), (1000114, .num 1000114), (1000115, .num 1000115), (1000116, .num 1000116), (1000117, .num 1000117), (1000118, .num 1000118), (1000119, .num 1000119), (1000120, .num 1000120), (1000121, .num 1000121), (1000122, .num 1000122), (1000123, .num 1000123), (1000124, .num 1000124), (1000125, .num 1000125), (1000126, .num 1000126), (1000127, .num 1000127), (1000128, .num 1000128), (1000129, .num 1000129), (1000130, .num 1000130), (1000131, .num 1000131), (1000132, .num 1000132), (1000133, .num 1000133), (1000134, .num 1000134), (1000135, .num 1000135), (1000136, .num 1000136), (1000137, .num 1000137), (1000138, .num 1000138), (1000139, .num 1000139), (1000140, .num 1000140), (1000141, .num 1000141), (1000142, .num 1000142), (1000143, .num 1000143), (1000144, .num 1000144), (1000145, .num 1000145), (1000146, .num 1000146), (1000147, .num 1000147), (1000148, .num 1000148), (1000149, .num 1000149), (1000150, .num 1000150), (1000151, .num 1000151), (1000152, .num 1000152), (1000153, .num 1000153), (1000154, .num 1000154), (1000155, .num 1000155), (1000156, .num 1000156), (1000157, .num 1000157), (1000158, .num 1000158), (1000159, .num 1000159), (1000160, .num 1000160), (1000161, .num 1000161), (1000162, .num 1000162), (1000163, .num 1000163), (1000164, .num 1000164), (1000165, .num 1000165), (1000166, .num 1000166), (1000167, .num 1000167), (1000168, .num 1000168), (1000169, .num 1000169), (1000170, .num 1000170)]
def nmSg0 : Sg := [(4549, .num 4549), (4550, .num 4550), (4562, .num 4562), (1001000, .num 1001000), (1001001, .num 1001001), (1001002, .num 1001002)] ++ nmSySg
def nmSgH : Sg := (1000012, .num 1000012) :: (1000000, .num 1000000) :: (4581, .num 4581) :: (4587, .num 4587) :: nmSg0
def nmSgL : Sg := (1000012, .lit 0) :: nmSg0
def nmSgR : Sg := (1000010, .num 1000010) :: (1000011, .num 1000011) :: (1000013, .num 1000013) :: (1000001, .num 1000001) :: nmSgH
def nmSgN (j a s : Nat) : Sg := (1000012, .num 1000013) :: (1000000, .num j) :: (4581, .num a) :: (4587, .num s) :: nmSg0
def nmSd (L : Nat) : Nat := match L with | 0 => 4629 | _ => 4630
abbrev nmF : FuncId := 3
noncomputable def nmB : Code := Cd.bodyOf Tryz.prog nmF
noncomputable def nmC1 : Code := Cd.b (Cd.b nmB)
noncomputable def nmC2 : Code := Cd.b nmC1
noncomputable def nmC3 : Code := Cd.drop 2 nmC2
noncomputable def nmLp : Code := Cd.a (Cd.a (Cd.b (Cd.a nmC3)))
noncomputable def nmEn : Code := Cd.b nmC3
def nmHr (id : LV) : List Hint := [⟨4, [22], [.outS 1001000], nmN⟩, ⟨6, [], [nmX 0 9, nmN], .v (.bool true)⟩, ⟨0, [22], [.outS 1001000, nmX 0 9], .outP 1000010⟩, ⟨1, [5], [.outP 1000010], id⟩, ⟨10, [], [nmX 0 9, goI 1], .sym 1000013 .i64 1 10 []⟩]
def nmHa : List Hint := [⟨4, [22], [.outS 1001000], nmN⟩, ⟨6, [], [nmX 0 10, nmN], .v (.bool false)⟩]
def nmHb : List Hint := [⟨4, [22], [.outS 1001000], nmN⟩, ⟨6, [], [nmX 10 10, nmN], .v (.bool true)⟩]
def nmIdA : LV := .sym 1000000 .u8 0 255 []
def nmIdB : LV := .sym 1000001 .u8 0 255 [1000000]
def nmRef (L st lo hi : Nat) : Bool := insS GN nmSgR ⟨[(1000012, lo, hi, [])], []⟩ (nmPat L st lo hi) (stOf 109 (nmPat L st 0 10))
noncomputable def nmRnd (L st : Nat) (id : LV) (j a s : Nat) : Bool := okS GN (nmSgN j a s) ⟨[], []⟩ (nmPat L 1 0 10) .normal 4606 (evCQ Tryz.prog GN (hintF (nmHr id) cfP) 1000 nmLp (stOf 109 (nmPat L st 0 9)))
noncomputable def nmExA (L st : Nat) : Bool := okS GN nmSgH ⟨[], []⟩ (nmPat L st 0 10) (.exit 0) 4606 (evCQ Tryz.prog GN (hintF nmHa cfP) 1000 nmLp (stOf 109 (nmPat L st 0 10)))
noncomputable def nmExB (L st : Nat) : Bool := okS GN nmSgH ⟨[], []⟩ (nmPat L st 0 10) (.exit 0) 4606 (evCQ Tryz.prog GN (hintF nmHb cfP) 1000 nmLp (stOf 109 (nmPat L st 10 10)))
noncomputable def nmEnd (L st : Nat) : Bool := okE Tryz.prog 4606 Tryz.f3.results.toList (evCQ Tryz.prog GN cfP 1000 nmEn (stOf 109 (nmPat L st 0 10)))
def nmSt2 (L : Nat) : St := ⟨109, trOf [(0, .str (nmSy L)), (1, .outS 1001000), (5, .ptr 4553 0), (7, .v (.bool true))], hpOf [(4553, ⟨32, true, false, .str (nmSy L) :: nmTl⟩)], 4555, []⟩
noncomputable def nmSt (L : Nat) : Bool := okS GN nmSg0 ⟨[], []⟩ (nmPat1 L) .normal 4555 (evPre Tryz.prog GN cfP 1000 2 nmC2 (nmSt2 L)) && okS GN nmSgL ⟨[], []⟩ (nmPat L 0 0 10) .normal 4606 (evPre Tryz.prog GN cfP 1000 0 (Cd.a nmC3) (stOf 109 (nmPat1 L)))
noncomputable def nmOver (L : Nat) : Bool := okE Tryz.prog 4555 Tryz.f3.results.toList (evCQ Tryz.prog GN cfP 1000 nmC2 (nmSt2 L))
noncomputable def nmOut (L st : Nat) : Bool := nmRef L st 0 9 && (nmRef L st 10 10 && (nmExA L st && (nmExB L st && nmEnd L st)))
noncomputable def nmAll (L : Nat) : Bool := nmSt L && ((nmOut L 0 && nmOut L 1) && (nmRnd L 0 nmIdA 1000000 4624 (nmSd L) && (nmRnd L 1 nmIdA 1000000 4581 4587 && nmRnd L 1 nmIdB 1000001 4624 (nmSd L))))
noncomputable def nmUp (p : Nat → Bool) (a n : Nat) : Bool := match n with | 0 => true | k + 1 => p (Nat.add a k) && nmUp p a k
theorem nmUp_ok {p : Nat → Bool} {a : Nat} : ∀ {n : Nat}, nmUp p a n = true → ∀ j, a ≤ j → j < a + n → p j = true
  | 0, _, j, h1, h2 => by omega
  | n + 1, h, j, h1, h2 => by
    simp only [nmUp, Bool.and_eq_true] at h
    by_cases e : j = a + n
    · subst e; exact h.1
    · exact nmUp_ok h.2 j h1 (by omega)
end Go.Proofs.YtjpfhhndjpdmoaaGreatDoor

namespace Go.Proofs.YtjpfhhndjpdmoaaGreatDoor
open Go.RowKit
set_option linter.unusedVariables false
set_option linter.unusedSimpArgs false
def nmSt0 (t1 t2 t3 t4 t5 t6 t7 : TypeId) (cs : List LV) : St := ⟨109, argsT 0 [.str cs, .outS 1001000] .nil, GH t1 t2 t3 t4 t5 t6 t7, GN, []⟩
def nmSt1 (t1 t2 t3 t4 t5 t6 t7 : TypeId) (cs : List LV) : St := ⟨109, trOf [(0, .str cs), (1, .outS 1001000)], GH t1 t2 t3 t4 t5 t6 t7, GN, []⟩
noncomputable def projT (ts : List Nat) (r : Option (Ex × St)) : Option (Bool × List Nat × Nat × Nat × List (Option LV)) := r.map fun r => (exB r.1 .normal, r.2.wr, r.2.nx, r.2.nt, ts.map fun t => r.2.T.get t)
theorem nm_r0 (t1 t2 t3 t4 t5 t6 t7 : TypeId) (cs : List LV) : projT [0, 1] (evCQ Tryz.prog GN cfP 1000 (Cd.a nmB) (nmSt0 t1 t2 t3 t4 t5 t6 t7 cs)) = some (true, [], GN, 109, [some (.str cs), some (.outS 1001000)]) := by kernel_rfl
noncomputable def nmHd (t1 t2 t3 t4 t5 t6 t7 : TypeId) (L : Nat) : Bool := okT [(0, .str (nmSy L)), (1, .outS 1001000)] GN 109 (evCQ Tryz.prog GN cfP 1000 (Cd.a (Cd.b nmB)) (nmSt1 t1 t2 t3 t4 t5 t6 t7 (nmSy L)))
theorem nm_r1 (t1 t2 t3 t4 t5 t6 t7 : TypeId) : nmUp (nmHd t1 t2 t3 t4 t5 t6 t7) 0 71 = true := by kernel_rfl
noncomputable def projC (r : Option (Ex × St)) : Option (Bool × Nat × Nat × List (Option LV) × Option Blk) := r.map fun r => (exB r.1 .normal, r.2.nx, r.2.nt, [r.2.T.get 0, r.2.T.get 1, r.2.T.get 5, r.2.T.get 7], r.2.H.get 4553)
set_option maxRecDepth 100000 in
theorem nm_cfg (t1 t2 t3 t4 t5 t6 t7 : TypeId) (cs : List LV) : projC (evCQ Tryz.prog GN cfP 100000 (Cd.a nmC1) (nmSt1 t1 t2 t3 t4 t5 t6 t7 cs)) = some (true, 4555, 109, [some (.str cs), some (.outS 1001000), some (.ptr 4553 0), some (.v (.bool true))], some ⟨32, true, false, .str cs :: nmTl⟩) := by kernel_rfl
theorem nmOver_ok : nmUp nmOver 65 6 = true := by kernel_rfl
end Go.Proofs.YtjpfhhndjpdmoaaGreatDoor

namespace Go.Proofs.YtjpfhhndjpdmoaaGreatDoor
set_option maxRecDepth 100000 in
theorem nmAll_0 : nmUp nmAll 0 13 = true := by kernel_rfl
end Go.Proofs.YtjpfhhndjpdmoaaGreatDoor

namespace Go.Proofs.YtjpfhhndjpdmoaaGreatDoor
set_option maxRecDepth 100000 in
theorem nmAll_1 : nmUp nmAll 13 13 = true := by kernel_rfl
end Go.Proofs.YtjpfhhndjpdmoaaGreatDoor

namespace Go.Proofs.YtjpfhhndjpdmoaaGreatDoor
set_option maxRecDepth 100000 in
theorem nmAll_2 : nmUp nmAll 26 13 = true := by kernel_rfl
end Go.Proofs.YtjpfhhndjpdmoaaGreatDoor

namespace Go.Proofs.YtjpfhhndjpdmoaaGreatDoor
set_option maxRecDepth 100000 in
theorem nmAll_3 : nmUp nmAll 39 13 = true := by kernel_rfl
end Go.Proofs.YtjpfhhndjpdmoaaGreatDoor

namespace Go.Proofs.YtjpfhhndjpdmoaaGreatDoor
set_option maxRecDepth 100000 in
theorem nmAll_4 : nmUp nmAll 52 13 = true := by kernel_rfl
end Go.Proofs.YtjpfhhndjpdmoaaGreatDoor

namespace Go.Proofs.YtjpfhhndjpdmoaaGreatDoor
open Go.RowKit
set_option linter.unusedVariables false
set_option linter.unusedSimpArgs false

theorem nmAll_ok (L : Nat) (h : L ≤ 64) : nmAll L = true := by
  by_cases h1 : L < 13
  · exact nmUp_ok nmAll_0 L (by omega) (by omega)
  by_cases h2 : L < 26
  · exact nmUp_ok nmAll_1 L (by omega) (by omega)
  by_cases h3 : L < 39
  · exact nmUp_ok nmAll_2 L (by omega) (by omega)
  by_cases h4 : L < 52
  · exact nmUp_ok nmAll_3 L (by omega) (by omega)
  · exact nmUp_ok nmAll_4 L (by omega) (by omega)
/-! ### what is known throughout -/
def nmGE (g o n c fl : Nat) (ν : Env) : Prop := GlobE Tryz.prog ν ∧ ν 1001000 = some ⟨g, o⟩ ∧ ν 1001001 = some ⟨n, c⟩ ∧ ν 1001002 = some ⟨fl, 0⟩
instance nmGE_ok (g o n c fl : Nat) : GEok Tryz.prog (nmGE g o n c fl) := ⟨fun ν ν' h ⟨h1, h2, h3, h4⟩ => ⟨(globOk Tryz.prog).mono ν ν' h h1, h _ _ h2, h _ _ h3, h _ _ h4⟩, fun _ h => h.1⟩
def nmGR (g o n c fl i m e : Nat) (ne : List Nat) (ν : Env) : Prop := nmGE g o n c fl ν ∧ ν 1000010 = some ⟨g, o + i⟩ ∧ ν 1000011 = some ⟨n, 0⟩ ∧ (∃ l, ν 1000012 = some l ∧ l.addr = i) ∧ ν 1000013 = some ⟨i + 1, 0⟩ ∧ (∃ l, ν e = some l ∧ l.addr = m) ∧ ∀ c ∈ ne, ∃ l, ν c = some l ∧ m ≠ l.addr
instance nmGR_ok (g o n c fl i m e : Nat) (ne : List Nat) : GEok Tryz.prog (nmGR g o n c fl i m e ne) := ⟨fun ν ν' h ⟨h1, h2, h3, ⟨l, h4, h5⟩, h6, ⟨k, h7, h8⟩, h9⟩ => ⟨(nmGE_ok g o n c fl).mono ν ν' h h1, h _ _ h2, h _ _ h3, ⟨l, h _ _ h4, h5⟩, h _ _ h6, ⟨k, h _ _ h7, h8⟩, fun c hc => by obtain ⟨q, q1, q2⟩ := h9 c hc; exact ⟨q, h _ _ q1, q2⟩⟩, fun _ h => h.1.1⟩
def nmGA (g o n c fl i : Nat) (ν : Env) : Prop := nmGE g o n c fl ν ∧ ν 1000011 = some ⟨n, 0⟩ ∧ ∃ l, ν 1000012 = some l ∧ l.addr = i
instance nmGA_ok (g o n c fl i : Nat) : GEok Tryz.prog (nmGA g o n c fl i) := ⟨fun ν ν' h ⟨h1, h3, ⟨l, h4, h5⟩⟩ => ⟨(nmGE_ok g o n c fl).mono ν ν' h h1, h _ _ h3, ⟨l, h _ _ h4, h5⟩⟩, fun _ h => h.1.1⟩
theorem vr_sym_val {ν : Env} {b lo hi : Nat} {k : IntKind} {ne : List Nat} {v : Value} {l : Loc} (h : VR ν (.sym b k lo hi ne) v) (hl : ν b = some l) : v = .int k (l.addr : Int) := by
  simp only [VR] at h
  obtain ⟨l', h1, h2, _⟩ := h
  rw [hl] at h1; cases h1
  exact h2
theorem vr_symL {ν : Env} {b n lo hi : Nat} {k : IntKind} {ne : List Nat} {l : Loc} (h : ν b = some l) (hn : l.addr = n) (h1 : lo ≤ n) (h2 : n ≤ hi) (h3 : hi ≤ topK k) (hne : ∀ c ∈ ne, ∃ l2, ν c = some l2 ∧ n ≠ l2.addr) : VR ν (.sym b k lo hi ne) (.int k (n : Int)) := by
  subst hn
  simp only [VR]
  exact ⟨_, h, rfl, h1, h2, h3, hne⟩
section
variable {g o n c fl i m e B : Nat} {ne : List Nat} {w0 : World}
theorem und22 : Tryz.prog.underlying 22 = some (.slice 5) := by kernel_rfl
theorem und5 : Tryz.prog.underlying 5 = some (.int .u8) := by kernel_rfl
theorem siz5 : sizeL Tryz.prog 5 = some 1 := by kernel_rfl
theorem nmHr_ok (hn : n ≤ 9223372036854775807) (hi : i < n) (hi9 : i ≤ 9) (hm : m ≤ 255) (hfl : fl ≠ 0) (hc : ∀ w, Below B w0 w → w.cell? ⟨g, o + i, none⟩ = some (.int .u8 (m : Int))) : ∀ h ∈ nmHr (.sym e .u8 0 255 ne), HintOk Tryz.prog (nmGR g o n c fl i m e ne) B w0 h := by
  have hX : ∀ ν v, nmGR g o n c fl i m e ne ν → VR ν (nmX 0 9) v → v = .int .i64 (i : Int) := fun ν v ⟨_, _, _, ⟨l, h1, h2⟩, _⟩ hv => by rw [vr_sym_val hv h1, h2]
  have hN : ∀ ν v, nmGR g o n c fl i m e ne ν → VR ν nmN v → v = .int .i64 (n : Int) := fun ν v ⟨_, _, h1, _⟩ hv => vr_sym_val hv h1
  intro h hh
  simp only [nmHr, List.mem_cons, List.not_mem_nil, or_false] at hh
  rcases hh with rfl | rfl | rfl | rfl | rfl
  · exact hint_len und22 (fun ν ⟨⟨_, _, h1, _⟩, _⟩ => h1) (fun ν ⟨_, _, h1, _⟩ => vr_symL h1 rfl (Nat.zero_le _) hn (by decide) (fun c hc => by cases hc))
  · exact hint_lss hX hN (decide_eq_true hi)
  · exact hint_index und22 siz5 (fun ν y hG hv => ⟨_, hX ν y hG hv⟩) hi (fun ν ⟨⟨_, h1, h2, h3⟩, _⟩ => ⟨h1, h2, _, h3, hfl⟩) (fun ν ⟨_, h1, _⟩ => h1)
  · exact hint_load und5 (fun ν ⟨_, h1, _⟩ => h1) hc (fun ν ⟨_, _, _, _, _, ⟨l, h1, h2⟩, h3⟩ => vr_symL h1 h2 (Nat.zero_le _) hm (by decide) h3)
  · exact hint_add hX (by omega) (fun ν ⟨_, _, _, _, h1, _⟩ => vr_symL h1 rfl (by omega) (by show i + 1 ≤ 10; omega) (by decide) (fun c hc => by cases hc))
theorem nmHa_ok (hn : n ≤ 9223372036854775807) (hi : n ≤ i) : ∀ h ∈ nmHa, HintOk Tryz.prog (nmGA g o n c fl i) B w0 h := by
  intro h hh
  simp only [nmHa, List.mem_cons, List.not_mem_nil, or_false] at hh
  rcases hh with rfl | rfl
  · exact hint_len und22 (fun ν ⟨⟨_, _, h1, _⟩, _⟩ => h1) (fun ν ⟨_, h1, _⟩ => vr_symL h1 rfl (Nat.zero_le _) hn (by decide) (fun c hc => by cases hc))
  · exact hint_lss (i := i) (n := n) (fun ν v ⟨_, _, ⟨l, h1, h2⟩⟩ hv => by rw [vr_sym_val hv h1, h2]) (fun ν v ⟨_, h1, _⟩ hv => vr_sym_val hv h1) (decide_eq_false (by omega))
theorem nmHb_ok (hn : n ≤ 9223372036854775807) (hi : i < n) : ∀ h ∈ nmHb, HintOk Tryz.prog (nmGA g o n c fl i) B w0 h := by
  intro h hh
  simp only [nmHb, List.mem_cons, List.not_mem_nil, or_false] at hh
  rcases hh with rfl | rfl
  · exact hint_len und22 (fun ν ⟨⟨_, _, h1, _⟩, _⟩ => h1) (fun ν ⟨_, h1, _⟩ => vr_symL h1 rfl (Nat.zero_le _) hn (by decide) (fun c hc => by cases hc))
  · exact hint_lss (i := i) (n := n) (fun ν v ⟨_, _, ⟨l, h1, h2⟩⟩ hv => by rw [vr_sym_val hv h1, h2]) (fun ν v ⟨_, h1, _⟩ hv => vr_sym_val hv h1) (decide_eq_true hi)
end
/-! ### numbers laid anew -/
def setE (ν : Env) : List (Nat × Loc) → Env
  | [] => ν
  | (k, x) :: l => fun i => match Nat.beq i k with | true => some x | false => setE ν l i
theorem setE_low {ν : Env} : ∀ {l : List (Nat × Loc)}, (∀ p ∈ l, SB ≤ p.1) → ∀ i, i < SB → setE ν l i = ν i
  | [], _, i, _ => rfl
  | (k, x) :: l, h, i, hi => by
    have hk := h (k, x) (List.mem_cons_self ..)
    show (match Nat.beq i k with | true => some x | false => setE ν l i) = _
    cases hb : Nat.beq i k with
    | true => have := nbeq hb; simp only at hk; omega
    | false => exact setE_low (fun p hp => h p (List.mem_cons_of_mem _ hp)) i hi
theorem setE_ext {ν : Env} : ∀ {l : List (Nat × Loc)}, (∀ p ∈ l, ν p.1 = none) → Ext ν (setE ν l)
  | [], _ => Ext.refl ν
  | (k, x) :: l, h => fun i y hy => by
    show (match Nat.beq i k with | true => some x | false => setE ν l i) = _
    cases hb : Nat.beq i k with
    | true => rw [nbeq hb, h (k, x) (List.mem_cons_self ..)] at hy; cases hy
    | false => exact setE_ext (fun p hp => h p (List.mem_cons_of_mem _ hp)) i y hy
theorem nmGE_env {g o n c fl nx : Nat} {ν : Env} {σ : Sg} (h : nmGE g o n c fl ν) (hK : insK GN nx σ = true) (h1 : lkS σ 1001000 = some (.num 1001000)) (h2 : lkS σ 1001001 = some (.num 1001001)) (h3 : lkS σ 1001002 = some (.num 1001002)) : nmGE g o n c fl (envS GN σ ν) := by
  refine ⟨glob_envS (Nat.le_of_ble_eq_true (by kernel_rfl)) hK h.1, ?_, ?_, ?_⟩
  · unfold envS; rw [h1]; exact h.2.1
  · unfold envS; rw [h2]; exact h.2.2.1
  · unfold envS; rw [h3]; exact h.2.2.2
abbrev NmR (GE : Env → Prop) (w0 : World) (ν : Env) (L st lo hi : Nat) (a : Act) (w : World) : Prop := StR Tryz.prog GE GN w0.heap.size w0 ν (stOf 109 (nmPat L st lo hi)) a w
section
variable {g o n c fl L : Nat} {w0 : World}
theorem nm_ref {GE GE2 : Env → Prop} [GEok Tryz.prog GE] {st lo hi : Nat} {ν : Env} {a : Act} {w : World} (h : nmRef L st lo hi = true) (hs : NmR GE w0 ν L st 0 10 a w) (hG : GE2 (envS GN nmSgR ν)) (hX : ∃ l, ν 1000012 = some l ∧ lo ≤ l.addr ∧ l.addr ≤ hi) : NmR GE2 w0 (envS GN nmSgR ν) L st lo hi a w ∧ Free (envS GN nmSgR ν) 4606 := by
  have hK : KnOk GN nmSgR ⟨[(1000012, lo, hi, [])], []⟩ ν := by
    refine ⟨fun b lo' hi' ne hm => ?_, fun b c hm => (by cases hm)⟩
    simp only [List.mem_cons, List.not_mem_nil, or_false, Prod.mk.injEq] at hm
    obtain ⟨rfl, rfl, rfl, rfl⟩ := hm
    obtain ⟨l, h1, h2, h3⟩ := hX
    exact ⟨l, by rw [show envS GN nmSgR ν 1000012 = ν 1000012 by kernel_rfl]; exact h1, h2, h3, fun c hc => (by cases hc)⟩
  exact ins_ok hK hs hG h
theorem envR (ν : Env) : envS GN nmSgR ν 1000010 = ν 1000010 ∧ envS GN nmSgR ν 1000011 = ν 1000011 ∧ envS GN nmSgR ν 1000012 = ν 1000012 ∧ envS GN nmSgR ν 1000013 = ν 1000013 ∧ envS GN nmSgR ν 1000000 = ν 1000000 ∧ envS GN nmSgR ν 1000001 = ν 1000001 := ⟨by kernel_rfl, by kernel_rfl, by kernel_rfl, by kernel_rfl, by kernel_rfl, by kernel_rfl⟩
theorem skR : insK GN 4606 nmSgR = true ∧ lkS nmSgR 1001000 = some (.num 1001000) ∧ lkS nmSgR 1001001 = some (.num 1001001) ∧ lkS nmSgR 1001002 = some (.num 1001002) := ⟨by kernel_rfl, by kernel_rfl, by kernel_rfl, by kernel_rfl⟩
theorem skH : lkS nmSgH 1001000 = some (.num 1001000) ∧ lkS nmSgH 1001001 = some (.num 1001001) ∧ lkS nmSgH 1001002 = some (.num 1001002) := ⟨by kernel_rfl, by kernel_rfl, by kernel_rfl⟩
theorem skN (j x s : Nat) : lkS (nmSgN j x s) 1001000 = some (.num 1001000) ∧ lkS (nmSgN j x s) 1001001 = some (.num 1001001) ∧ lkS (nmSgN j x s) 1001002 = some (.num 1001002) := ⟨by kernel_rfl, by kernel_rfl, by kernel_rfl⟩
theorem envN (j x s : Nat) (ν : Env) : envS GN (nmSgN j x s) ν 1000012 = ν 1000013 ∧ envS GN (nmSgN j x s) ν 1000010 = none ∧ envS GN (nmSgN j x s) ν 1000011 = none ∧ envS GN (nmSgN j x s) ν 1000013 = none ∧ envS GN (nmSgN j x s) ν 1000001 = none := ⟨by kernel_rfl, by kernel_rfl, by kernel_rfl, by kernel_rfl, by kernel_rfl⟩
variable (hW : HashW w0) (hC : CurveW w0)
include hW hC
theorem nm_round {i m e st j x s : Nat} {ne : List Nat} (hr : nmRnd L st (.sym e .u8 0 255 ne) j x s = true) (hn : n ≤ 9223372036854775807) (hi : i < n) (hi9 : i ≤ 9) (hm : m ≤ 255) (hfl : fl ≠ 0) (hc : ∀ w, Below w0.heap.size w0 w → w.cell? ⟨g, o + i, none⟩ = some (.int .u8 (m : Int)))
    {ν : Env} {a : Act} {w : World} (hs : NmR (nmGR g o n c fl i m e ne) w0 ν L st 0 9 a w) (hf : Free ν 4606) : nmLp.wp Tryz.prog (fun ex a' w' => ex = .normal ∧ ∃ ν1, NmR (nmGE g o n c fl) w0 (envS GN (nmSgN j x s) ν1) L 1 0 10 a' w' ∧ Free (envS GN (nmSgN j x s) ν1) 4606 ∧ nmGR g o n c fl i m e ne ν1) a w := by
  unfold nmRnd at hr
  have hE : EvOk Tryz.prog (nmGR g o n c fl i m e ne) GN w0.heap.size w0 (hintF (nmHr (.sym e .u8 0 255 ne)) cfP) := hintF_ok (cfP_ok hW hC) (by intro h hh; simp only [nmHr, List.mem_cons, List.not_mem_nil, or_false] at hh; rcases hh with rfl | rfl | rfl | rfl | rfl <;> rfl) (nmHr_ok hn hi hi9 hm hfl hc)
  obtain ⟨k1, k2, k3⟩ := skN j x s
  exact stretchX (n := 1000) (c := nmLp) (s := stOf 109 (nmPat L st 0 9)) (t := nmPat L 1 0 10) (σ := nmSgN j x s) (x := .normal) (by kernel_rfl) hE (Nat.le_refl _) hr (fun ν' h1 h2 => nmGE_env h1.1 h2 k1 k2 k3) hs hf
theorem nm_exA {i st : Nat} (hr : nmExA L st = true) (hn : n ≤ 9223372036854775807) (hi : n ≤ i) {ν : Env} {a : Act} {w : World} (hs : NmR (nmGA g o n c fl i) w0 ν L st 0 10 a w) (hf : Free ν 4606) : nmLp.wp Tryz.prog (fun ex a' w' => ex = .exit 0 ∧ ∃ ν1, NmR (nmGE g o n c fl) w0 (envS GN nmSgH ν1) L st 0 10 a' w' ∧ Free (envS GN nmSgH ν1) 4606 ∧ nmGA g o n c fl i ν1) a w := by
  unfold nmExA at hr
  have hE : EvOk Tryz.prog (nmGA g o n c fl i) GN w0.heap.size w0 (hintF nmHa cfP) := hintF_ok (cfP_ok hW hC) (by intro h hh; simp only [nmHa, List.mem_cons, List.not_mem_nil, or_false] at hh; rcases hh with rfl | rfl <;> rfl) (nmHa_ok hn hi)
  exact stretchX (n := 1000) (c := nmLp) (s := stOf 109 (nmPat L st 0 10)) (t := nmPat L st 0 10) (σ := nmSgH) (x := .exit 0) (by kernel_rfl) hE (Nat.le_refl _) hr (fun ν' h1 h2 => nmGE_env h1.1 h2 skH.1 skH.2.1 skH.2.2) hs hf
theorem nm_exB {i st : Nat} (hr : nmExB L st = true) (hn : n ≤ 9223372036854775807) (hi : i < n) {ν : Env} {a : Act} {w : World} (hs : NmR (nmGA g o n c fl i) w0 ν L st 10 10 a w) (hf : Free ν 4606) : nmLp.wp Tryz.prog (fun ex a' w' => ex = .exit 0 ∧ ∃ ν1, NmR (nmGE g o n c fl) w0 (envS GN nmSgH ν1) L st 0 10 a' w' ∧ Free (envS GN nmSgH ν1) 4606 ∧ nmGA g o n c fl i ν1) a w := by
  unfold nmExB at hr
  have hE : EvOk Tryz.prog (nmGA g o n c fl i) GN w0.heap.size w0 (hintF nmHb cfP) := hintF_ok (cfP_ok hW hC) (by intro h hh; simp only [nmHb, List.mem_cons, List.not_mem_nil, or_false] at hh; rcases hh with rfl | rfl <;> rfl) (nmHb_ok hn hi)
  exact stretchX (n := 1000) (c := nmLp) (s := stOf 109 (nmPat L st 10 10)) (t := nmPat L st 0 10) (σ := nmSgH) (x := .exit 0) (by kernel_rfl) hE (Nat.le_refl _) hr (fun ν' h1 h2 => nmGE_env h1.1 h2 skH.1 skH.2.1 skH.2.2) hs hf
omit hW hC in
theorem nm_last {GE : Env → Prop} {lo hi : Nat} {ν : Env} {a : Act} {w : World} (hs : NmR GE w0 ν L 1 lo hi a w) : ∃ l, ν 1000000 = some l := by
  have hg : (stOf 109 (nmPat L 1 lo hi)).H.get 4581 = some ⟨5, false, false, nmAsked⟩ := by kernel_rfl
  obtain ⟨lc, h1, h2⟩ := hs.hr 4581 _ trivial hg
  obtain ⟨y, _, h3, _⟩ := h2.cell 1 (.sym 1000000 .u8 0 255 []) rfl
  simp only [VR] at h3
  obtain ⟨l, h4, _⟩ := h3
  exact ⟨l, h4⟩
theorem nm_loop (hL : nmAll L = true) (ids : List UInt8) (hlen : ids.length = n) (hn : n ≤ 9223372036854775807) (hfl : n ≠ 0 → fl ≠ 0) (hc : ∀ i, i < n → ∀ w, Below w0.heap.size w0 w → w.cell? ⟨g, o + i, none⟩ = some (.int .u8 ((ids.getD i 0).toNat : Int)))
    {Q : Exit → Act → World → Prop} (hQ : ∀ st ν a w, (st = 0 ∨ st = 1) → NmR (nmGE g o n c fl) w0 ν L st 0 10 a w → Free ν 4606 → Q (.exit 0) a w) : ∀ d i, i + d = 10 → ∀ st ν a w, (st = 0 ∨ st = 1) → NmR (nmGE g o n c fl) w0 ν L st 0 10 a w → Free ν 4606 →
    (ν 1000010 = none ∧ ν 1000011 = none ∧ ν 1000013 = none ∧ ν 1000001 = none) → (st = 0 → ν 1000000 = none) → (∃ l, ν 1000012 = some l ∧ l.addr = i) → LoopW Tryz.prog nmLp Q a w := by
  unfold nmAll at hL
  simp only [Bool.and_eq_true] at hL
  obtain ⟨_, ⟨hO0, hO1⟩, hR0, hR1, hR2⟩ := hL
  have hO : ∀ st, (st = 0 ∨ st = 1) → nmRef L st 0 9 = true ∧ nmRef L st 10 10 = true ∧ nmExA L st = true ∧ nmExB L st = true := by
    intro st hst
    rcases hst with rfl | rfl
    · unfold nmOut at hO0; simp only [Bool.and_eq_true] at hO0; exact ⟨hO0.1, hO0.2.1, hO0.2.2.1, hO0.2.2.2.1⟩
    · unfold nmOut at hO1; simp only [Bool.and_eq_true] at hO1; exact ⟨hO1.1, hO1.2.1, hO1.2.2.1, hO1.2.2.2.1⟩
  have hSB : ∀ k, 1000000 ≤ k → SB ≤ k := fun k hk => hk
  have hm255 : ∀ i, (ids.getD i 0).toNat ≤ 255 := fun i => by have := (ids.getD i 0).toNat_lt; omega
  -- the ways out
  have out : ∀ i st ν a w, (n ≤ i ∨ i = 10) → (st = 0 ∨ st = 1) → NmR (nmGE g o n c fl) w0 ν L st 0 10 a w → Free ν 4606 → ν 1000011 = none → (∃ l, ν 1000012 = some l ∧ l.addr = i) → LoopW Tryz.prog nmLp Q a w := by
    intro i st ν a w hi hst hs hf h11 hx
    obtain ⟨q1, q2, q3, q4⟩ := hO st hst
    have hE : Ext ν (setE ν [(1000011, ⟨n, 0⟩)]) := setE_ext (fun p hp => by simp only [List.mem_cons, List.not_mem_nil, or_false] at hp; subst hp; exact h11)
    have hlo : ∀ k, k < SB → setE ν [(1000011, ⟨n, 0⟩)] k = ν k := setE_low (fun p hp => by simp only [List.mem_cons, List.not_mem_nil, or_false] at hp; subst hp; exact hSB _ (by omega))
    have e11 : setE ν [(1000011, ⟨n, 0⟩)] 1000011 = some ⟨n, 0⟩ := by kernel_rfl
    have e12 : setE ν [(1000011, ⟨n, 0⟩)] 1000012 = ν 1000012 := by kernel_rfl
    have hGA : nmGA g o n c fl i (setE ν [(1000011, ⟨n, 0⟩)]) := ⟨(nmGE_ok g o n c fl).mono _ _ hE hs.glob, e11, by rw [e12]; exact hx⟩
    have hsb : (4606 : Nat) ≤ SB := by decide
    have hs2 : NmR (nmGA g o n c fl i) w0 (setE ν [(1000011, ⟨n, 0⟩)]) L st 0 10 a w := hs.env hE (fun k hk => hlo k (Nat.lt_of_lt_of_le hk hsb)) hGA
    have hf2 : Free (setE ν [(1000011, ⟨n, 0⟩)]) 4606 := fun k h1 h2 => by rw [hlo k h2]; exact hf k h1 h2
    by_cases hni : n ≤ i
    · refine loopW_round (wp_mono (nm_exA hW hC q3 hn hni hs2 hf2) ?_)
      rintro e a' w' ⟨rfl, ν1, g1, g2, _⟩
      exact hQ st _ _ _ hst g1 g2
    · have hi10 : i = 10 := by omega
      obtain ⟨r1, r2⟩ := nm_ref (GE2 := nmGA g o n c fl i) q2 hs2 ⟨nmGE_env hGA.1 skR.1 skR.2.1 skR.2.2.1 skR.2.2.2, by rw [(envR _).2.1]; exact e11, by rw [(envR _).2.2.1, e12]; exact hx⟩ (by rw [e12]; obtain ⟨l, h1, h2⟩ := hx; exact ⟨l, h1, by omega, by omega⟩)
      refine loopW_round (wp_mono (nm_exB hW hC q4 hn (by omega) r1 r2) ?_)
      rintro e a' w' ⟨rfl, ν1, g1, g2, _⟩
      exact hQ st _ _ _ hst g1 g2
  intro d
  induction d with
  | zero =>
    intro i hi st ν a w hst hs hf hsc h0 hx
    exact out i st ν a w (.inr (by omega)) hst hs hf hsc.2.1 hx
  | succ d ih =>
    intro i hi st ν a w hst hs hf hsc h0 hx
    by_cases hni : n ≤ i
    · exact out i st ν a w (.inl hni) hst hs hf hsc.2.1 hx
    · have hin : i < n := by omega
      have hi9 : i ≤ 9 := by omega
      obtain ⟨q1, q2, q3, q4⟩ := hO st hst
      obtain ⟨s10, s11, s13, s01⟩ := hsc
      have hsb : (4606 : Nat) ≤ SB := by decide
      -- a round with the number under the name e
      have go : ∀ (e : Nat) (ne : List Nat) (j x s : Nat) (l : List (Nat × Loc)), nmRnd L st (.sym e .u8 0 255 ne) j x s = true → (∀ p ∈ l, ν p.1 = none ∧ SB ≤ p.1) →
          (setE ν l 1000010 = some ⟨g, o + i⟩ ∧ setE ν l 1000011 = some ⟨n, 0⟩ ∧ setE ν l 1000012 = ν 1000012 ∧ setE ν l 1000013 = some ⟨i + 1, 0⟩) → (∃ q, setE ν l e = some q ∧ q.addr = (ids.getD i 0).toNat) → (∀ k ∈ ne, ∃ q, setE ν l k = some q ∧ (ids.getD i 0).toNat ≠ q.addr) →
          envS GN nmSgR (setE ν l) e = setE ν l e → (∀ k ∈ ne, envS GN nmSgR (setE ν l) k = setE ν l k) → LoopW Tryz.prog nmLp Q a w := by
        intro e ne j x s l hr hl ⟨e10, e11, e12, e13⟩ he hne hRe hRne
        have hE : Ext ν (setE ν l) := setE_ext (fun p hp => (hl p hp).1)
        have hlo : ∀ k, k < SB → setE ν l k = ν k := setE_low (fun p hp => (hl p hp).2)
        have hGE : nmGE g o n c fl (setE ν l) := (nmGE_ok g o n c fl).mono _ _ hE hs.glob
        have hs2 : NmR (nmGE g o n c fl) w0 (setE ν l) L st 0 10 a w := hs.env hE (fun k hk => hlo k (Nat.lt_of_lt_of_le hk hsb)) hGE
        have hx' : ∃ q, setE ν l 1000012 = some q ∧ 0 ≤ q.addr ∧ q.addr ≤ 9 := by
          obtain ⟨q, h1, h2⟩ := hx
          exact ⟨q, by rw [e12]; exact h1, Nat.zero_le _, by omega⟩
        have hGR : nmGR g o n c fl i (ids.getD i 0).toNat e ne (envS GN nmSgR (setE ν l)) := by
          obtain ⟨v1, v2, v3, v4, v5, v6⟩ := envR (setE ν l)
          refine ⟨nmGE_env hGE skR.1 skR.2.1 skR.2.2.1 skR.2.2.2, by rw [v1]; exact e10, by rw [v2]; exact e11, ?_, by rw [v4]; exact e13, ?_, fun k hk => ?_⟩
          · rw [v3, e12]; exact hx
          · rw [hRe]; exact he
          · rw [hRne k hk]; exact hne k hk
        obtain ⟨r1, r2⟩ := nm_ref (GE2 := nmGR g o n c fl i (ids.getD i 0).toNat e ne) q1 hs2 hGR hx'
        refine loopW_round (wp_mono (nm_round hW hC hr hn hin hi9 (hm255 i) (hfl (by omega)) (hc i hin) r1 r2) ?_)
        rintro ex a' w' ⟨rfl, ν1, g1, g2, g3⟩
        obtain ⟨u1, u2, u3, u4, u5⟩ := envN j x s ν1
        exact ih (i + 1) (by omega) 1 _ _ _ (.inr rfl) g1 g2 ⟨u2, u3, u4, u5⟩ (fun h => by omega) ⟨⟨i + 1, 0⟩, by rw [u1]; exact g3.2.2.2.2.1, rfl⟩
      rcases hst with rfl | rfl
      · refine go 1000000 [] _ _ _ [(1000010, ⟨g, o + i⟩), (1000011, ⟨n, 0⟩), (1000013, ⟨i + 1, 0⟩), (1000000, ⟨(ids.getD i 0).toNat, 0⟩)] hR0 (fun p hp => ?_) ⟨by kernel_rfl, by kernel_rfl, by kernel_rfl, by kernel_rfl⟩ ⟨⟨(ids.getD i 0).toNat, 0⟩, by kernel_rfl, rfl⟩ (fun k hk => by cases hk) (envR _).2.2.2.2.1 (fun k hk => by cases hk)
        simp only [List.mem_cons, List.not_mem_nil, or_false] at hp
        rcases hp with rfl | rfl | rfl | rfl
        · exact ⟨s10, hSB _ (by omega)⟩
        · exact ⟨s11, hSB _ (by omega)⟩
        · exact ⟨s13, hSB _ (by omega)⟩
        · exact ⟨h0 rfl, hSB _ (by omega)⟩
      · obtain ⟨q, hq⟩ := nm_last hs
        by_cases hm : q.addr = (ids.getD i 0).toNat
        · refine go 1000000 [] _ _ _ [(1000010, ⟨g, o + i⟩), (1000011, ⟨n, 0⟩), (1000013, ⟨i + 1, 0⟩)] hR1 (fun p hp => ?_) ⟨by kernel_rfl, by kernel_rfl, by kernel_rfl, by kernel_rfl⟩ ⟨q, by rw [show setE ν [(1000010, ⟨g, o + i⟩), (1000011, ⟨n, 0⟩), (1000013, ⟨i + 1, 0⟩)] 1000000 = ν 1000000 by kernel_rfl]; exact hq, hm⟩ (fun k hk => by cases hk) (envR _).2.2.2.2.1 (fun k hk => by cases hk)
          simp only [List.mem_cons, List.not_mem_nil, or_false] at hp
          rcases hp with rfl | rfl | rfl
          · exact ⟨s10, hSB _ (by omega)⟩
          · exact ⟨s11, hSB _ (by omega)⟩
          · exact ⟨s13, hSB _ (by omega)⟩
        · refine go 1000001 [1000000] _ _ _ [(1000010, ⟨g, o + i⟩), (1000011, ⟨n, 0⟩), (1000013, ⟨i + 1, 0⟩), (1000001, ⟨(ids.getD i 0).toNat, 0⟩)] hR2 (fun p hp => ?_) ⟨by kernel_rfl, by kernel_rfl, by kernel_rfl, by kernel_rfl⟩ ⟨⟨(ids.getD i 0).toNat, 0⟩, by kernel_rfl, rfl⟩ (fun k hk => ?_) (envR _).2.2.2.2.2 (fun k hk => ?_)
          · simp only [List.mem_cons, List.not_mem_nil, or_false] at hp
            rcases hp with rfl | rfl | rfl | rfl
            · exact ⟨s10, hSB _ (by omega)⟩
            · exact ⟨s11, hSB _ (by omega)⟩
            · exact ⟨s13, hSB _ (by omega)⟩
            · exact ⟨s01, hSB _ (by omega)⟩
          · obtain rfl := List.mem_singleton.1 hk
            refine ⟨q, ?_, fun e => hm e.symm⟩
            have e : setE ν [(1000010, ⟨g, o + i⟩), (1000011, ⟨n, 0⟩), (1000013, ⟨i + 1, 0⟩), (1000001, ⟨(ids.getD i 0).toNat, 0⟩)] 1000000 = ν 1000000 := by kernel_rfl
            rw [e]; exact hq
          · obtain rfl := List.mem_singleton.1 hk
            exact (envR _).2.2.2.2.1
end
end Go.Proofs.YtjpfhhndjpdmoaaGreatDoor

namespace Go.Proofs.YtjpfhhndjpdmoaaGreatDoor
open Go.RowKit
set_option linter.unusedVariables false
set_option linter.unusedSimpArgs false
set_option linter.unusedSectionVars false

section
variable {P : Program} {GE : Env → Prop} [hGE : GEok P GE] {nB B : Nat} {w0 : World}
theorem man_step {ops : Array Oper} {o : Oper} {l : List Oper} {Q : Exit → Act → World → Prop} {ν : Env} {s : St} {a : Act} {w : World} {lv : LV} {v : Value} (hB : B ≤ w0.heap.size) (hs : StR P GE nB B w0 ν s a w) (hg : o.guard = none) (hrun : (execOp a.eval o).run P w = .ok (.value v) w) (hv : VR ν lv v)
    (hK : StR P GE nB B w0 ν ⟨s.nt, putT s.nt s.T o.dst lv, s.H, s.nx, s.wr⟩ (a.put o.dst v) w → wpList P ops Q l (a.put o.dst v) w) : wpList P ops Q (o :: l) a w := by
  refine wpList_step (fun K hK' => ?_)
  rw [if_pos (by simp [Region.wanted, hg])]
  unfold Oper.wp
  rw [hrun, Oper.upon_value]
  exact hK' _ _ (hK (hs.step (dst := o.dst) (out := ⟨lv, [], s.nx, some []⟩) hB (fun i h1 h2 => by have h3 : i < s.nx := h2; omega) (Nat.le_refl _) (post_val hv hs.below)).1)
theorem run_mv {o : Oper} {a : Act} {w : World} {x : Operand} (h : o.op = .move x) : (execOp a.eval o).run P w = .ok (.value (a.eval x)) w := by
  obtain ⟨dst, op, type, pos, after, guard⟩ := o
  simp only at h
  subst h
  rfl
theorem run_as {o : Oper} {a : Act} {w : World} {x : Operand} (h : o.op = .assign x) : (execOp a.eval o).run P w = .ok (.value (a.eval x)) w := by
  obtain ⟨dst, op, type, pos, after, guard⟩ := o
  simp only at h
  subst h
  rfl
theorem run_strlen {o : Oper} {a : Act} {w : World} {x : Operand} {t : TypeId} {bs : List UInt8} (h : o.op = .call ⟨.builtin .len, #[x], #[t]⟩) (hu : P.underlying t = some .string) (hx : a.eval x = .string ⟨bs.toArray⟩) : (execOp a.eval o).run P w = .ok (.value (goInt bs.length)) w := by
  rw [exec_builtin h rfl]
  have h0 : (#[t] : Array TypeId)[0]? = some t := rfl
  have h1 := strlen_run (P := P) (w := w) (type := o.type) (bs := bs) h0 hu rfl
  simp only [List.map_toArray, List.map_cons, List.map_nil]
  show (do pure (.value (← Builtin.len_ #[t] o.type #[a.eval x])) : Sem Next).run P w = _
  rw [hx, Sem.run_bind, h1]
  rfl
theorem run_min {o : Oper} {a : Act} {w : World} {x y : Operand} {ts : Array TypeId} {m n : Nat} (h : o.op = .call ⟨.builtin .min, #[x, y], ts⟩) (hx : a.eval x = goInt m) (hy : a.eval y = .int .i64 (n : Int)) (hmn : n ≤ m) : (execOp a.eval o).run P w = .ok (.value (goInt n)) w := by
  rw [exec_builtin h rfl]
  simp only [List.map_toArray, List.map_cons, List.map_nil]
  show (do pure (.value (← Builtin.min_ ts o.type #[a.eval x, a.eval y])) : Sem Next).run P w = _
  rw [hx, hy]
  by_cases e : n = m
  · subst e
    simp [Builtin.min_, Builtin.min2, goInt]
  · have : (n : Int) < m := by omega
    simp [Builtin.min_, Builtin.min2, goInt, this]
theorem run_cut {o : Oper} {a : Act} {w : World} {x y : Operand} {t : TypeId} {bs : List UInt8} {n : Nat} (h : o.op = .slice t x none (some y) none) (hu : P.underlying t = some .string) (hx : a.eval x = .string ⟨bs.toArray⟩) (hy : a.eval y = goInt n) (hn : n ≤ bs.length) : (execOp a.eval o).run P w = .ok (.value (.string ⟨(bs.take n).toArray⟩)) w := by
  obtain ⟨dst, op, type, pos, after, guard⟩ := o
  simp only at h
  subst h
  show (do pure (.value (← Instr.sliceAt t (a.eval x) none (some (a.eval y)) none)) : Sem Next).run P w = _
  have hsz : (⟨bs.toArray⟩ : ByteArray).size = bs.length := List.size_toArray
  have hex : (⟨bs.toArray⟩ : ByteArray).extract 0 n = ⟨(bs.take n).toArray⟩ := by
    apply ByteArray.ext
    rw [ByteArray.data_extract]
    apply Array.ext'
    simp [List.extract_eq_drop_take']
  rw [hx, hy]
  simp [Instr.sliceAt, run_underlying hu, Instr.slice, Instr.sliceBounds, Instr.sliceBound, asIntOf, goInt, hsz, hn, hex]
end
noncomputable def nmOps : Array Oper := match Cd.a (Cd.b nmB) with
  | .region _ ops _ => ops
  | _ => #[]
theorem nmOps_reg : Cd.a (Cd.b nmB) = .region 1 nmOps false := by kernel_rfl
theorem nmOps_dg : nmOps.toList.map (fun o => (o.dst, o.guard)) = [(some 16, none), (some 17, none), (some 18, none), (some 19, none), (some 20, none), (some 0, none)] := by kernel_rfl
theorem nmOps_op : nmOps.toList.map (fun o => o.op) = [.move (.tmp 0), .move (.tmp 0), .call ⟨.builtin .len, #[.tmp 17], #[9]⟩, .call ⟨.builtin .min, #[.tmp 18, .const (.int .i64 70)], #[3, 3]⟩, .slice 9 (.tmp 16) none (some (.tmp 19)) none, .assign (.tmp 20)] := by kernel_rfl
theorem nmOps_six : ∃ o1 o2 o3 o4 o5 o6 : Oper, nmOps.toList = [o1, o2, o3, o4, o5, o6] ∧ (o1.dst = some 16 ∧ o1.guard = none ∧ o1.op = .move (.tmp 0)) ∧ (o2.dst = some 17 ∧ o2.guard = none ∧ o2.op = .move (.tmp 0)) ∧ (o3.dst = some 18 ∧ o3.guard = none ∧ o3.op = .call ⟨.builtin .len, #[.tmp 17], #[9]⟩) ∧ (o4.dst = some 19 ∧ o4.guard = none ∧ o4.op = .call ⟨.builtin .min, #[.tmp 18, .const (.int .i64 70)], #[3, 3]⟩) ∧
    (o5.dst = some 20 ∧ o5.guard = none ∧ o5.op = .slice 9 (.tmp 16) none (some (.tmp 19)) none) ∧ (o6.dst = some 0 ∧ o6.guard = none ∧ o6.op = .assign (.tmp 20)) := by
  have h1 := nmOps_dg
  have h2 := nmOps_op
  generalize nmOps.toList = l at h1 h2 ⊢
  rcases l with _ | ⟨o1, _ | ⟨o2, _ | ⟨o3, _ | ⟨o4, _ | ⟨o5, _ | ⟨o6, _ | ⟨o7, l⟩⟩⟩⟩⟩⟩⟩
  all_goals simp only [List.map_cons, List.map_nil, List.cons.injEq, Prod.mk.injEq, reduceCtorEq, and_true, and_false, false_and] at h1 h2
  obtain ⟨⟨a1, b1⟩, ⟨a2, b2⟩, ⟨a3, b3⟩, ⟨a4, b4⟩, ⟨a5, b5⟩, a6, b6⟩ := h1
  obtain ⟨c1, c2, c3, c4, c5, c6⟩ := h2
  exact ⟨o1, o2, o3, o4, o5, o6, rfl, ⟨a1, b1, c1⟩, ⟨a2, b2, c2⟩, ⟨a3, b3, c3⟩, ⟨a4, b4, c4⟩, ⟨a5, b5, c5⟩, a6, b6, c6⟩
theorem und9 : Tryz.prog.underlying 9 = some .string := by kernel_rfl
theorem nm_long {GE : Env → Prop} [GEok Tryz.prog GE] {w0 : World} {t1 t2 t3 t4 t5 t6 t7 : TypeId} {R : List LV} {Q : Exit → Act → World → Prop} {ν : Env} {a : Act} {w : World} (hs : StR Tryz.prog GE GN w0.heap.size w0 ν (nmSt1 t1 t2 t3 t4 t5 t6 t7 (nmSyms ++ R)) a w)
    (hK : ∀ a' w', StR Tryz.prog GE GN w0.heap.size w0 ν (nmSt1 t1 t2 t3 t4 t5 t6 t7 (nmSy 70)) a' w' → (Cd.b (Cd.b nmB)).wp Tryz.prog Q a' w') : (Cd.b nmB).wp Tryz.prog Q a w := by
  refine wpSeq (c := Cd.b nmB) (by kernel_rfl) ?_
  rw [nmOps_reg]
  apply wp_region_list
  have h6 := nmOps_six
  generalize nmOps = ops at h6 ⊢
  obtain ⟨o1, o2, o3, o4, o5, o6, e, ⟨a1, b1, c1⟩, ⟨a2, b2, c2⟩, ⟨a3, b3, c3⟩, ⟨a4, b4, c4⟩, ⟨a5, b5, c5⟩, a6, b6, c6⟩ := h6
  rw [e]
  have hlen : (nmSyms ++ R).length = 71 + R.length := by rw [List.length_append, show nmSyms.length = 71 by kernel_rfl]
  have hB := Nat.le_refl w0.heap.size
  have v1 : VR ν (.str (nmSyms ++ R)) (a.eval (.tmp 0)) := opd_ok (P := Tryz.prog) hs.tr hs.glob (T := (nmSt1 t1 t2 t3 t4 t5 t6 t7 (nmSyms ++ R)).T) (x := .tmp 0) (by kernel_rfl)
  refine man_step hB hs b1 (run_mv c1) v1 (fun hs1 => ?_)
  have v2 : VR ν (.str (nmSyms ++ R)) ((a.put o1.dst (a.eval (.tmp 0))).eval (.tmp 0)) := opd_ok (P := Tryz.prog) hs1.tr hs1.glob (x := .tmp 0) (by rw [a1]; kernel_rfl)
  refine man_step hB hs1 b2 (run_mv c2) v2 (fun hs2 => ?_)
  generalize (a.put o1.dst (a.eval (.tmp 0))).put o2.dst ((a.put o1.dst (a.eval (.tmp 0))).eval (.tmp 0)) = aa at hs2 ⊢
  have v3 : VR ν (.str (nmSyms ++ R)) (aa.eval (.tmp 17)) := opd_ok (P := Tryz.prog) hs2.tr hs2.glob (x := .tmp 17) (by rw [a1, a2]; kernel_rfl)
  simp only [VR] at v3
  obtain ⟨bs, e3, hbs⟩ := v3
  have hbl : bs.length = 71 + R.length := by have := hbs.length; rw [hlen] at this; simpa using this
  refine man_step hB hs2 b3 (run_strlen c3 und9 e3) (goI_ok bs.length) (fun hs3 => ?_)
  generalize aa.put o3.dst (goInt bs.length) = ab at hs3 ⊢
  have v4 : VR ν (goI bs.length) (ab.eval (.tmp 18)) := opd_ok (P := Tryz.prog) hs3.tr hs3.glob (x := .tmp 18) (by rw [a1, a2, a3]; kernel_rfl)
  have e4 : ab.eval (.tmp 18) = goInt bs.length := by simp only [goI, VR] at v4; exact v4.1
  refine man_step hB hs3 b4 (run_min (n := 70) c4 e4 rfl (by omega)) (goI_ok 70) (fun hs4 => ?_)
  generalize ab.put o4.dst (goInt 70) = ac at hs4 ⊢
  have v5 : VR ν (goI 70) (ac.eval (.tmp 19)) := opd_ok (P := Tryz.prog) hs4.tr hs4.glob (x := .tmp 19) (by rw [a1, a2, a3, a4]; kernel_rfl)
  have e5 : ac.eval (.tmp 19) = goInt 70 := by simp only [goI, VR] at v5; exact v5.1
  have v6 : VR ν (.str (nmSyms ++ R)) (ac.eval (.tmp 16)) := opd_ok (P := Tryz.prog) hs4.tr hs4.glob (x := .tmp 16) (by rw [a1, a2, a3, a4]; kernel_rfl)
  simp only [VR] at v6
  obtain ⟨bs', e6, hbs'⟩ := v6
  have hbl' : bs'.length = 71 + R.length := by have := hbs'.length; rw [hlen] at this; simpa using this
  have ht : (nmSyms ++ R).take 70 = nmSy 70 := by kernel_rfl
  have v7 : VR ν (.str (nmSy 70)) (.string ⟨(bs'.take 70).toArray⟩) := by
    simp only [VR]
    exact ⟨_, rfl, by rw [← ht, List.map_take]; exact hbs'.take 70⟩
  refine man_step hB hs4 b5 (run_cut (n := 70) c5 und9 e6 e5 (by omega)) v7 (fun hs5 => ?_)
  generalize ac.put o5.dst (.string ⟨(bs'.take 70).toArray⟩) = ad at hs5 ⊢
  have v8 : VR ν (.str (nmSy 70)) (ad.eval (.tmp 20)) := opd_ok (P := Tryz.prog) hs5.tr hs5.glob (x := .tmp 20) (by rw [a1, a2, a3, a4, a5]; kernel_rfl)
  refine man_step hB hs5 b6 (run_as c6) v8 (fun hs6 => wpList_nil ?_)
  refine hK _ _ (hs6.keep (T := [(0, .str (nmSy 70)), (1, .outS 1001000)]) (H := GH t1 t2 t3 t4 t5 t6 t7) (fun t x hx => ?_) (fun i k hk => hk))
  rw [a1, a2, a3, a4, a5, a6]
  simp only [List.mem_cons, List.not_mem_nil, or_false, Prod.mk.injEq] at hx
  rcases hx with ⟨rfl, rfl⟩ | ⟨rfl, rfl⟩
  · kernel_rfl
  · kernel_rfl
end Go.Proofs.YtjpfhhndjpdmoaaGreatDoor

namespace Go.Proofs.YtjpfhhndjpdmoaaGreatDoor
open Go.RowKit
set_option linter.unusedVariables false
set_option linter.unusedSimpArgs false

noncomputable def nuG (t1 t2 t3 t4 t5 t6 t7 : TypeId) (f : Nat → Option Loc) : Env := fun i => if i < GN then nu0 t1 t2 t3 t4 t5 t6 t7 i else if SB ≤ i then f i else none
section
variable {w : World} {t1 t2 t3 t4 t5 t6 t7 : TypeId} {f : Nat → Option Loc}
theorem nuG_low (i : Nat) (hi : i < GN) : nuG t1 t2 t3 t4 t5 t6 t7 f i = nu0 t1 t2 t3 t4 t5 t6 t7 i := by unfold nuG; rw [if_pos hi]
theorem nuG_at (i : Nat) (hi : SB ≤ i) : nuG t1 t2 t3 t4 t5 t6 t7 f i = f i := by
  have h0 : GN < SB := by decide
  have h1 : ¬ i < GN := by omega
  unfold nuG; rw [if_neg h1, if_pos hi]
theorem nuG_free : Free (nuG t1 t2 t3 t4 t5 t6 t7 f) GN := by
  intro i h1 h2
  unfold nuG
  rw [if_neg (by omega), if_neg (by omega)]
theorem nuG_ext : Ext (nu0 t1 t2 t3 t4 t5 t6 t7) (nuG t1 t2 t3 t4 t5 t6 t7 f) := by
  intro i x h
  have hi : i < GN := by
    unfold nu0 at h
    by_cases hi : i < GN
    · exact hi
    · rw [if_neg hi] at h; cases h
  rw [nuG_low i hi]
  exact h
theorem nuG_glob : GlobE Tryz.prog (nuG t1 t2 t3 t4 t5 t6 t7 f) := by
  intro g hg'
  have hs : Tryz.prog.globals.size = GN := by kernel_rfl
  rw [hs] at hg'
  exact ⟨_, by rw [nuG_low g hg']; unfold nu0; rw [if_pos hg']⟩
theorem startG {GE : Env → Prop} [GEok Tryz.prog GE] (hg : GRows w t1 t2 t3 t4 t5 t6 t7) {args : List LV} {vs : List Value} {nt N : Nat} (hN : args.length + (nt - args.length) = N) (hv : VRs (nuG t1 t2 t3 t4 t5 t6 t7 f) args vs) (hG : GE (nuG t1 t2 t3 t4 t5 t6 t7 f)) :
    StR Tryz.prog GE GN w.heap.size w (nuG t1 t2 t3 t4 t5 t6 t7 f) ⟨N, argsT 0 args .nil, GH t1 t2 t3 t4 t5 t6 t7, GN, []⟩ { tmps := vs.toArray ++ Array.replicate (nt - vs.toArray.size) undef, defers := [] } w := by
  rw [← hN]
  refine entry hv ((gh_hrf hg).ext nuG_ext) (fun i k l' _ hi hk _ => ?_) (fun i j ki kj li lj hi hj h4 h5 h6 => ?_) (fun i k hk => gh_low hk) hG (Below.refl _ w)
  · have := gh_low hk; omega
  · rw [nuG_low i (gh_low hi)] at h4
    rw [nuG_low j (gh_low hj)] at h5
    rw [← nu0_some h4, ← nu0_some h5, h6]
end
theorem vrs_at {ν : Env} : ∀ {cs : List LV} {vs : List Value}, cs.length = vs.length → (∀ (k : Nat) (x : LV), cs[k]? = some x → ∃ y, vs[k]? = some y ∧ VR ν x y) → VRs ν cs vs
  | [], vs, h, _ => by
    have : vs = [] := List.eq_nil_of_length_eq_zero (by simpa using h.symm)
    exact VRs.nil_iff.2 this
  | c :: cs, [], h, _ => by simp at h
  | c :: cs, v :: vs, h, hk => by
    obtain ⟨y, h1, h2⟩ := hk 0 c rfl
    cases h1
    exact VRs.cons_iff.2 ⟨v, vs, rfl, h2, vrs_at (by simpa using h) (fun k x hx => by simpa using hk (k + 1) x (by simpa using hx))⟩
theorem nmSyms_len : nmSyms.length = 71 := by kernel_rfl
theorem nmSyms_all : (List.range 71).map (fun k => LV.sym (1000100 + k) .u8 0 255 []) = nmSyms := by kernel_rfl
theorem nmSyms_at (k : Nat) (hk : k < 71) : nmSyms[k]? = some (.sym (1000100 + k) .u8 0 255 []) := by
  rw [← nmSyms_all, List.getElem?_map, List.getElem?_range hk]
  rfl
theorem nmSy_vrs {ν : Env} {bs : List UInt8} (L : Nat) (hL : L ≤ 71) (hl : L ≤ bs.length) (hν : ∀ k, k < L → ν (1000100 + k) = some ⟨(bs.getD k 0).toNat, 0⟩) : VRs ν (nmSy L) ((bs.take L).map fun b => .int .u8 b.toNat) := by
  refine vrs_at (by simp [nmSy, nmSyms_len]; omega) (fun k x hx => ?_)
  have hk : k < L := by
    have := (List.getElem?_eq_some_iff.1 hx).1
    simp [nmSy, nmSyms_len] at this; omega
  unfold nmSy at hx
  rw [List.getElem?_take_of_lt hk, nmSyms_at k (by omega)] at hx
  cases hx
  refine ⟨.int .u8 ((bs.getD k 0).toNat : Int), ?_, vr_symL (hν k hk) rfl (Nat.zero_le _) (by have := (bs.getD k 0).toNat_lt; omega) (by decide) (fun c hc => by cases hc)⟩
  rw [List.getElem?_map, List.getElem?_take_of_lt hk, List.getElem?_eq_getElem (by omega)]
  simp [List.getD, List.getElem?_eq_getElem (show k < bs.length by omega)]
theorem names_rest {g o n c fl L : Nat} {w : World} (hW : HashW w) (hC : CurveW w) {t1 t2 t3 t4 t5 t6 t7 : TypeId} (hLL : L ≤ 70) (ids : List UInt8) (hlen : ids.length = n) (hn : n ≤ 9223372036854775807) (hfl : n ≠ 0 → fl ≠ 0) (hc : ∀ i, i < n → ∀ w', Below w.heap.size w w' → w'.cell? ⟨g, o + i, none⟩ = some (.int .u8 ((ids.getD i 0).toNat : Int)))
    {ν : Env} {a : Act} {w' : World} (hs : StR Tryz.prog (nmGE g o n c fl) GN w.heap.size w ν (nmSt1 t1 t2 t3 t4 t5 t6 t7 (nmSy L)) a w') (hf : Free ν GN) : nmC1.wp Tryz.prog (EndT Tryz.prog (nmGE g o n c fl) GN w.heap.size w Tryz.f3.results.toList) a w' := by
  have hE := evP_ok (GE := nmGE g o n c fl) hW hC
  have hcf := nm_cfg t1 t2 t3 t4 t5 t6 t7 (nmSy L)
  refine wpSeq (c := nmC1) (by kernel_rfl) ?_
  cases hev : evCQ Tryz.prog GN cfP 100000 (Cd.a nmC1) (nmSt1 t1 t2 t3 t4 t5 t6 t7 (nmSy L)) with
  | none => rw [hev] at hcf; cases hcf
  | some r =>
    obtain ⟨x, s2⟩ := r
    rw [hev] at hcf
    simp only [projC, Option.map_some, Option.some.injEq, Prod.mk.injEq, List.cons.injEq, and_true] at hcf
    obtain ⟨hx, hnx, hnt, ⟨hT0, hT1, hT5, hT7⟩, hH⟩ := hcf
    obtain rfl := exB_ok hx
    rw [evCQ_eq, evCK_eq] at hev
    have hsb : (4555 : Nat) ≤ SB := by decide
    refine wp_mono ((code_all (by kernel_rfl) hE (Nat.le_refl _) 100000).1 _ _ s2 .normal hev ν a w' hs (fun i q1 q2 => hf i q1 (Nat.lt_of_lt_of_le (by rw [hnx] at q2; exact q2) hsb))) ?_
    rintro e a2 w2 ⟨rfl, ν2, hs2, hf2⟩
    have hs3 := hs2.keep (T := [(0, .str (nmSy L)), (1, .outS 1001000), (5, .ptr 4553 0), (7, .v (.bool true))]) (H := hpOf [(4553, ⟨32, true, false, .str (nmSy L) :: nmTl⟩)]) (fun t x hx => by
      simp only [List.mem_cons, List.not_mem_nil, or_false, Prod.mk.injEq] at hx
      rcases hx with ⟨rfl, rfl⟩ | ⟨rfl, rfl⟩ | ⟨rfl, rfl⟩ | ⟨rfl, rfl⟩
      · exact hT0
      · exact hT1
      · exact hT5
      · exact hT7) (fun i k hk => by
      have hm := hpOf_get hk
      simp only [List.mem_cons, List.not_mem_nil, or_false, Prod.mk.injEq] at hm
      obtain ⟨rfl, rfl⟩ := hm
      exact hH)
    rw [hnt, hnx] at hs3
    have hfr : Free ν2 4555 := fun i g1 g2 => by
      have hlow : GN ≤ 4555 := by decide
      rw [hf2.ext i (by rw [hnx]; intro hh; exact Nat.not_lt_of_le g1 hh.2)]
      exact hf i (Nat.le_trans hlow g1) g2
    show nmC2.wp Tryz.prog _ a2 w2
    have hs4 : StR Tryz.prog (nmGE g o n c fl) GN w.heap.size w ν2 (nmSt2 L) a2 w2 := hs3
    by_cases h64 : L ≤ 64
    · have hA := nmAll_ok L h64
      have hA' := hA
      unfold nmAll nmSt at hA
      simp only [Bool.and_eq_true] at hA
      obtain ⟨⟨hA1, hA2⟩, hO, _⟩ := hA
      refine pre_okX (GE2 := nmGE g o n c fl) (callf := cfP) (lf := 1000) (n := 2) (c := nmC2) (s := nmSt2 L) (t := nmPat1 L) (σ := nmSg0) (by kernel_rfl) hE (Nat.le_refl _) hA1 (fun ν' g1 g2 => nmGE_env g1 g2 (by kernel_rfl) (by kernel_rfl) (by kernel_rfl)) hs4 hfr (fun a5 w5 ν5 hs5 hf5 _ => ?_)
      show nmC3.wp Tryz.prog _ a5 w5
      refine wpSeq (c := nmC3) (by kernel_rfl) ?_
      refine pre_okX (GE2 := nmGE g o n c fl) (callf := cfP) (lf := 1000) (n := 0) (c := Cd.a nmC3) (s := stOf 109 (nmPat1 L)) (t := nmPat L 0 0 10) (σ := nmSgL) (by kernel_rfl) hE (Nat.le_refl _) hA2 (fun ν' g1 g2 => nmGE_env g1 g2 (by kernel_rfl) (by kernel_rfl) (by kernel_rfl)) hs5 hf5 (fun a6 w6 ν6 hs6 hf6 _ => ?_)
      refine wpBlock (by kernel_rfl) (wpLoop (by kernel_rfl) ?_)
      refine nm_loop hW hC hA' ids hlen hn hfl hc (fun st ν a w' hst hsE hfE => ?_) 10 0 rfl 0 _ _ _ (.inl rfl) hs6 hf6 ⟨by kernel_rfl, by kernel_rfl, by kernel_rfl, by kernel_rfl⟩ (fun _ => by kernel_rfl) ⟨⟨0, 0⟩, by kernel_rfl, rfl⟩
      show (if 0 = Cd.id (Cd.drop 0 (Cd.a nmC3)) then _ else _)
      rw [if_pos (by kernel_rfl)]
      have hend : nmEnd L st = true := by
        rcases hst with rfl | rfl
        · have := hO.1; unfold nmOut at this; simp only [Bool.and_eq_true] at this; exact this.2.2.2.2
        · have := hO.2; unfold nmOut at this; simp only [Bool.and_eq_true] at this; exact this.2.2.2.2
      unfold nmEnd at hend
      exact stretchE (n := 1000) (c := nmEn) (s := stOf 109 (nmPat L st 0 10)) (by kernel_rfl) hE (Nat.le_refl _) hend hsE hfE
    · have hO := nmUp_ok nmOver_ok L (by omega) (by omega)
      unfold nmOver at hO
      exact stretchE (n := 1000) (c := nmC2) (s := nmSt2 L) (by kernel_rfl) hE (Nat.le_refl _) hO hs4 hfr
theorem pnames_law (s : ByteArray) (v : Value) (ids : List UInt8) (w : World) (hm : s.size ≤ maxLen) (hv : SlB w v ids) (hW : HashW w) (hC : CurveW w) : Calls Tryz.prog nmF #[.string s, v] w fun e w' => e = .returned (.bool true) ∧ Below w.heap.size w w' := by
  obtain ⟨bs, rfl⟩ : ∃ bs : List UInt8, s = ⟨bs.toArray⟩ := ⟨s.data.toList, by cases s; simp⟩
  obtain ⟨t1, t2, t3, t4, t5, t6, t7, hg⟩ := grows hW hC
  obtain ⟨ad, cap, rfl, hcl, hcm, hnone, hcells⟩ := hv
  have hn : ids.length ≤ 9223372036854775807 := by unfold maxLen at hcm; omega
  -- the slice's numbers
  obtain ⟨g, o, fl, had, hfl, hcell⟩ : ∃ g o fl : Nat, (ad = if fl = 0 then none else some ⟨g, o, none⟩) ∧ (ids.length ≠ 0 → fl ≠ 0) ∧ ∀ i, i < ids.length → ∀ w', Below w.heap.size w w' → w'.cell? ⟨g, o + i, none⟩ = some (.int .u8 ((ids.getD i 0).toNat : Int)) := by
    cases ad with
    | none =>
      have h0 : ids.length = 0 := by have := hnone rfl; omega
      exact ⟨0, 0, 0, by simp, fun h => absurd h0 h, fun i hi => by omega⟩
    | some x =>
      obtain ⟨hsp, hcc⟩ := hcells x rfl
      obtain ⟨g, o, sp⟩ := x
      simp only at hsp
      subst hsp
      refine ⟨g, o, 1, by simp, fun _ => by omega, fun i hi w' hb => ?_⟩
      have h1 := hcc i hi
      have h2 : w.cell? ⟨g, o + i, none⟩ = some (B (gb ids i)) := h1
      have hlt : g < w.heap.size := by
        by_cases hlt : g < w.heap.size
        · exact hlt
        · exfalso
          have : w.heap[g]? = none := by rw [Array.getElem?_eq_none_iff]; omega
          simp [World.cell?, this] at h2
      have h3 : w'.cell? ⟨g, o + i, none⟩ = w.cell? ⟨g, o + i, none⟩ := World.cell?_of_block (by rw [hb.block g hlt])
      rw [h3, h2]
      simp [B, gb]
  let f : Nat → Option Loc := fun i => if i = 1001000 then some ⟨g, o⟩ else if i = 1001001 then some ⟨ids.length, cap⟩ else if i = 1001002 then some ⟨fl, 0⟩ else if 1000100 ≤ i ∧ i < 1000171 then some ⟨(bs.getD (i - 1000100) 0).toNat, 0⟩ else none
  have hA : nuG t1 t2 t3 t4 t5 t6 t7 f 1001000 = some ⟨g, o⟩ := by rw [nuG_at _ (Nat.le_of_ble_eq_true rfl)]; rfl
  have hA1 : nuG t1 t2 t3 t4 t5 t6 t7 f 1001001 = some ⟨ids.length, cap⟩ := by rw [nuG_at _ (Nat.le_of_ble_eq_true rfl)]; rfl
  have hA2 : nuG t1 t2 t3 t4 t5 t6 t7 f 1001002 = some ⟨fl, 0⟩ := by rw [nuG_at _ (Nat.le_of_ble_eq_true rfl)]; rfl
  have hsy : ∀ k, k < 71 → nuG t1 t2 t3 t4 t5 t6 t7 f (1000100 + k) = some ⟨(bs.getD k 0).toNat, 0⟩ := by
    intro k hk
    have hsb : SB = 1000000 := rfl
    rw [nuG_at _ (by omega)]
    show (if 1000100 + k = 1001000 then some (⟨g, o⟩ : Loc) else if 1000100 + k = 1001001 then some ⟨ids.length, cap⟩ else if 1000100 + k = 1001002 then some ⟨fl, 0⟩ else if 1000100 ≤ 1000100 + k ∧ 1000100 + k < 1000171 then some ⟨(bs.getD (1000100 + k - 1000100) 0).toNat, 0⟩ else none) = _
    rw [if_neg (by omega), if_neg (by omega), if_neg (by omega), if_pos (by omega), Nat.add_sub_cancel_left]
  have hGE : nmGE g o ids.length cap fl (nuG t1 t2 t3 t4 t5 t6 t7 f) := ⟨nuG_glob, hA, hA1, hA2⟩
  have hout : VR (nuG t1 t2 t3 t4 t5 t6 t7 f) (.outS 1001000) (.slice ad ids.length cap) := by
    simp only [VR]
    exact ⟨_, _, _, hA, hA1, hA2, by rw [had]⟩
  have hE := evP_ok (GE := nmGE g o ids.length cap fl) hW hC
  refine law_wp (nB := GN) (B := w.heap.size) (w0 := w) (GE := nmGE g o ids.length cap fl) (c := nmB) Tryz.func3 (by kernel_rfl) (vs := [.string ⟨bs.toArray⟩, .slice ad ids.length cap]) ?_
  -- the first statement, whatever the name
  have first : ∀ cs : List LV, VRs (nuG t1 t2 t3 t4 t5 t6 t7 f) cs (bs.map fun b => .int .u8 b.toNat) → (∀ a1 w1, StR Tryz.prog (nmGE g o ids.length cap fl) GN w.heap.size w (nuG t1 t2 t3 t4 t5 t6 t7 f) (nmSt1 t1 t2 t3 t4 t5 t6 t7 cs) a1 w1 → (Cd.b nmB).wp Tryz.prog (EndT Tryz.prog (nmGE g o ids.length cap fl) GN w.heap.size w Tryz.f3.results.toList) a1 w1) → nmB.wp Tryz.prog (EndT Tryz.prog (nmGE g o ids.length cap fl) GN w.heap.size w Tryz.f3.results.toList) { tmps := [.string ⟨bs.toArray⟩, .slice ad ids.length cap].toArray ++ Array.replicate (Tryz.f3.ntmps - [Value.string ⟨bs.toArray⟩, .slice ad ids.length cap].toArray.size) undef, defers := [] } w := by
    intro cs hcs hK
    have hs := startG (GE := nmGE g o ids.length cap fl) hg (f := f) (nt := Tryz.f3.ntmps) (N := 109) (args := [.str cs, .outS 1001000]) (vs := [.string ⟨bs.toArray⟩, .slice ad ids.length cap]) (by kernel_rfl) (VRs.cons_iff.2 ⟨_, _, rfl, by simp only [VR]; exact ⟨bs, rfl, hcs⟩, VRs.cons_iff.2 ⟨_, _, rfl, hout, VRs.nil_iff.2 rfl⟩⟩) hGE
    have h0 := nm_r0 t1 t2 t3 t4 t5 t6 t7 cs
    refine wpSeq (c := nmB) (by kernel_rfl) ?_
    cases hev : evCQ Tryz.prog GN cfP 1000 (Cd.a nmB) (nmSt0 t1 t2 t3 t4 t5 t6 t7 cs) with
    | none => rw [hev] at h0; cases h0
    | some r =>
      obtain ⟨x, s1⟩ := r
      rw [hev] at h0
      simp only [projT, Option.map_some, Option.some.injEq, Prod.mk.injEq, List.map_cons, List.map_nil, List.cons.injEq, and_true] at h0
      obtain ⟨hx, hwr, hnx, hnt, hT0, hT1⟩ := h0
      obtain rfl := exB_ok hx
      rw [evCQ_eq, evCK_eq] at hev
      refine wp_mono ((code_all (by kernel_rfl) hE (Nat.le_refl _) 1000).1 _ _ s1 .normal hev _ _ w hs (fun i q1 q2 => by rw [hnx] at q2; exact absurd q2 (Nat.not_lt_of_le q1))) ?_
      rintro e a1 w1 ⟨rfl, ν1, hs1, hf1⟩
      have hν : ν1 = nuG t1 t2 t3 t4 t5 t6 t7 f := by
        funext i
        exact hf1.ext i (by rw [hnx]; intro hh; exact Nat.not_lt_of_le hh.1 hh.2)
      subst hν
      have hs2 := hs1.keep (T := [(0, .str cs), (1, .outS 1001000)]) (H := GH t1 t2 t3 t4 t5 t6 t7) (fun t x hx => by
        simp only [List.mem_cons, List.not_mem_nil, or_false, Prod.mk.injEq] at hx
        rcases hx with ⟨rfl, rfl⟩ | ⟨rfl, rfl⟩
        · exact hT0
        · exact hT1) (fun i k hk => by
        rw [hf1.kept i (gh_low hk) (by rw [hwr]; simp)]
        exact hk)
      rw [hnt, hnx] at hs2
      exact hK a1 w1 hs2
  by_cases hL : bs.length ≤ 70
  · refine first (nmSy bs.length) (by have := nmSy_vrs (ν := nuG t1 t2 t3 t4 t5 t6 t7 f) (bs := bs) bs.length (by omega) (Nat.le_refl _) (fun k hk => hsy k (by omega)); rwa [List.take_length] at this) (fun a1 w1 hs1 => ?_)
    have h1 := nmUp_ok (nm_r1 t1 t2 t3 t4 t5 t6 t7) bs.length (Nat.zero_le _) (by omega)
    unfold nmHd at h1
    refine one_T (lf := 1000) (c := Cd.b nmB) (s := nmSt1 t1 t2 t3 t4 t5 t6 t7 (nmSy bs.length)) (T := [(0, .str (nmSy bs.length)), (1, .outS 1001000)]) (by kernel_rfl) hE (Nat.le_refl _) (by kernel_rfl) h1 hs1 (fun i k hk => gh_low hk) (fun a2 w2 hs2 => ?_)
    exact names_rest hW hC hL ids rfl hn hfl hcell hs2 nuG_free
  · refine first (nmSyms ++ (bs.drop 71).map fun b => .v (.int .u8 b.toNat)) ?_ (fun a1 w1 hs1 => ?_)
    · have h1 := nmSy_vrs (ν := nuG t1 t2 t3 t4 t5 t6 t7 f) (bs := bs) 71 (Nat.le_refl _) (by omega) hsy
      have h2 : nmSy 71 = nmSyms := by unfold nmSy; exact List.take_of_length_le (by rw [nmSyms_len]; omega)
      rw [h2] at h1
      have h3 := h1.append (bytes_vrs (ν := nuG t1 t2 t3 t4 t5 t6 t7 f) (bs.drop 71))
      rwa [← List.map_append, List.take_append_drop] at h3
    · exact nm_long hs1 (fun a2 w2 hs2 => names_rest hW hC (Nat.le_refl _) ids rfl hn hfl hcell hs2 nuG_free)
end Go.Proofs.YtjpfhhndjpdmoaaGreatDoor
