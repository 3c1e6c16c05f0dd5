/- Part of the proof: EvY, EvZ. No conditions of its own. -/
import Derived.Below
import Derived.KernelRfl
import Derived.Laws.BytesArg
import Derived.Laws.CopyRow
import Derived.Laws.NewFold
import Derived.Laws.Strings
import Derived.Lib.ConvBytes
import Derived.Orders
import Derived.RowKit3
import Derived.Test.YtjpfhhndjpdmoaaGreatDoorK01
import Derived.Test.YtjpfhhndjpdmoaaGreatDoorK07
namespace Go.Proofs.YtjpfhhndjpdmoaaGreatDoor
open Go.RowKit
set_option linter.unusedVariables false
set_option linter.unusedSectionVars false
set_option linter.unusedSimpArgs false

class GEok (P : Program) (GE : Env → Prop) : Prop where
  mono : ∀ ν ν', Ext ν ν' → GE ν → GE ν'
  glob : ∀ ν, GE ν → GlobE P ν
instance globOk (P : Program) : GEok P (GlobE P) := ⟨fun ν ν' h hg g hlt => by obtain ⟨sz, e⟩ := hg g hlt; exact ⟨sz, h g _ e⟩, fun _ h => h⟩
section
variable {P : Program} {GE : Env → Prop} [hGE : GEok P GE] {nB B : Nat} {w0 : World}
def TR (ν : Env) (T : Tr LV) (tmps : Array Value) : Prop := ∀ t l, T.get t = some l → VR ν l (tmps.getD t undef)
structure StR (P : Program) (GE : Env → Prop) (nB B : Nat) (w0 : World) (ν : Env) (s : St) (a : Act) (w : World) : Prop where
  hr : HRF ν s.H none w
  low : LowF nB B ν s.H none
  inj : InjH ν s.H
  ids : ∀ i k, s.H.get i = some k → i < s.nx
  glob : GE ν
  below : Below B w0 w
  tr : TR ν s.T a.tmps
  sz : a.tmps.size = s.nt
  df : a.defers = []
  wrs : ∀ i ∈ s.wr, i < s.nx
structure Frg (nB : Nat) (ν ν' : Env) (s s' : St) (w w' : World) : Prop where
  nx : s.nx ≤ s'.nx
  nt : s'.nt = s.nt
  wr : ∀ i ∈ s.wr, i ∈ s'.wr
  ext : ∀ i, ¬ (s.nx ≤ i ∧ i < s'.nx) → ν' i = ν i
  frame : ∀ a, a < w.heap.size → (∀ i l, i ∈ s'.wr → i < s.nx → ν i = some l → l.addr ≠ a) → w'.heap[a]? = w.heap[a]?
  fresh : ∀ i l, s.nx ≤ i → (i ∈ s'.wr ∨ ∃ k, s'.H.get i = some k) → ν' i = some l → w.heap.size ≤ l.addr ∨ ∃ j lj, j ∈ s'.wr ∧ j < s.nx ∧ ν j = some lj ∧ lj.addr = l.addr
  live : ∀ i k, s'.H.get i = some k → i < s.nx → ∃ k0, s.H.get i = some k0
  kept : ∀ i, i < s.nx → i ∉ s'.wr → s'.H.get i = s.H.get i
  old : ∀ i ∈ s'.wr, i ∈ s.wr ∨ s.nx ≤ i ∨ (nB ≤ i ∧ ∃ k, s.H.get i = some k)
  size : w.heap.size ≤ w'.heap.size
theorem Frg.refl {ν : Env} {s : St} {w : World} (h : ∀ i ∈ s.wr, i < s.nx) (hids : ∀ i k, s.H.get i = some k → i < s.nx) : Frg nB ν ν s s w w where
  nx := Nat.le_refl _
  nt := rfl
  wr := fun _ h => h
  ext := fun _ _ => rfl
  frame := fun _ _ _ => rfl
  fresh := fun i l hi h => by
    rcases h with h' | ⟨k, hk⟩
    · have := h i h'; omega
    · have := hids i k hk; omega
  live := fun i k hk _ => ⟨k, hk⟩
  kept := fun _ _ _ => rfl
  old := fun i hi => .inl hi
  size := Nat.le_refl _
theorem Frg.trans {ν ν1 ν2 : Env} {s s1 s2 : St} {w w1 w2 : World} (h : Frg nB ν ν1 s s1 w w1) (k : Frg nB ν1 ν2 s1 s2 w1 w2) : Frg nB ν ν2 s s2 w w2 := by
  have hn := h.nx
  have kn := k.nx
  -- what is known of a number written by the second stretch, or alive behind the first
  have alias1 : ∀ i l, i ∈ s2.wr → i < s1.nx → ν1 i = some l → s.nx ≤ i → w.heap.size ≤ l.addr ∨ ∃ j lj, j ∈ s2.wr ∧ j < s.nx ∧ ν j = some lj ∧ lj.addr = l.addr := by
    intro i l hi hi1 hl hin
    have hh : i ∈ s1.wr ∨ ∃ q, s1.H.get i = some q := by
      rcases k.old i hi with h1 | h1 | h1
      · exact .inl h1
      · omega
      · exact .inr h1.2
    rcases h.fresh i l hin hh hl with h2 | ⟨j, lj, h2, h3, h4, h5⟩
    · exact .inl h2
    · exact .inr ⟨j, lj, k.wr j h2, h3, h4, h5⟩
  refine ⟨by omega, k.nt.trans h.nt, fun i hi => k.wr i (h.wr i hi), fun i hi => ?_, fun a ha hno => ?_, fun i l hi hh hl => ?_, fun i q hq hi => ?_, fun i hi hw => ?_, fun i hi => ?_, Nat.le_trans h.size k.size⟩
  · rw [k.ext i (by omega), h.ext i (by omega)]
  · have e1 : w1.heap[a]? = w.heap[a]? := h.frame a ha (fun i l hi hin hl => hno i l (k.wr i hi) hin hl)
    rw [← e1]
    refine k.frame a (Nat.lt_of_lt_of_le ha h.size) (fun i l hi hin hl => ?_)
    by_cases hlt : i < s.nx
    · rw [h.ext i (by omega)] at hl
      exact hno i l hi hlt hl
    · rcases alias1 i l hi hin hl (by omega) with h1 | ⟨j, lj, h1, h2, h3, h4⟩
      · omega
      · have := hno j lj h1 h2 h3; omega
  · by_cases hlt : i < s1.nx
    · rw [k.ext i (by omega)] at hl
      rcases hh with hh | ⟨q, hq⟩
      · exact alias1 i l hh hlt hl hi
      · obtain ⟨q0, hq0⟩ := k.live i q hq hlt
        rcases h.fresh i l hi (.inr ⟨q0, hq0⟩) hl with h2 | ⟨j, lj, h2, h3, h4, h5⟩
        · exact .inl h2
        · exact .inr ⟨j, lj, k.wr j h2, h3, h4, h5⟩
    · rcases k.fresh i l (by omega) hh hl with h1 | ⟨j, lj, h1, h2, h3, h4⟩
      · exact .inl (Nat.le_trans h.size h1)
      · by_cases hjn : j < s.nx
        · rw [h.ext j (by omega)] at h3
          exact .inr ⟨j, lj, h1, hjn, h3, h4⟩
        · rcases alias1 j lj h1 h2 h3 (by omega) with h5 | ⟨j', lj', h5, h6, h7, h8⟩
          · exact .inl (by omega)
          · exact .inr ⟨j', lj', h5, h6, h7, by omega⟩
  · obtain ⟨q1, hq1⟩ := k.live i q hq (by omega)
    exact h.live i q1 hq1 hi
  · rw [k.kept i (by omega) hw, h.kept i hi (fun hm => hw (k.wr i hm))]
  · rcases k.old i hi with h1 | h1 | ⟨h1, q, hq⟩
    · exact h.old i h1
    · exact .inr (.inl (by omega))
    · by_cases hin : i < s.nx
      · exact .inr (.inr ⟨h1, h.live i q hq hin⟩)
      · exact .inr (.inl (by omega))
theorem TR.put {ν : Env} {T : Tr LV} {a : Act} {dst : Option Tmp} {v : LV} {v' : Value} (h : TR ν T a.tmps) (hv : VR ν v v') : TR ν (putT a.tmps.size T dst v) (a.put dst v').tmps := by
  cases dst with
  | none => exact h
  | some d =>
    simp only [putT, Act.put]
    by_cases hd : d < a.tmps.size
    · rw [if_pos hd]
      intro t l ht
      rw [Tr.get_set] at ht
      split at ht
      · rename_i e; subst e
        cases ht
        simpa [hd] using hv
      · rename_i e
        have := h t l ht
        simp only [Array.getD_eq_getD_getElem?] at this ⊢
        rwa [Array.getElem?_setIfInBounds_ne (Ne.symm e)]
    · rw [if_neg hd]
      intro t l ht
      have := h t l ht
      rwa [show a.tmps.setIfInBounds d v' = a.tmps by simp [Array.setIfInBounds, hd]]
theorem TR.ext {ν ν' : Env} {T : Tr LV} {tmps : Array Value} (h : TR ν T tmps) (he : Ext ν ν') : TR ν' T tmps := fun t l ht => VR.ext he _ _ (h t l ht)
theorem opd_ok {ν : Env} {T : Tr LV} {a : Act} (h : TR ν T a.tmps) (hg : GE ν) {x : Operand} {l : LV} (hx : opd P T x = some l) : VR ν l (a.eval x) := by
  replace hg := GEok.glob (P := P) ν hg
  cases x with
  | tmp t => exact h t l hx
  | const x => exact lvOf_ok hx
  | global g =>
    simp only [opd] at hx
    split at hx
    · rename_i hg'
      cases hx
      obtain ⟨sz, hs⟩ := hg g hg'
      simp only [VR]
      exact ⟨_, hs, rfl⟩
    · cases hx
  | func f =>
    simp only [opd] at hx
    cases hx
    simp only [VR]
    exact ⟨[], rfl, VRs.nil_iff.2 rfl⟩
def FnHas (P : Program) (f : FuncId) : Prop := ∃ fn, P.funcs[f]? = some fn ∧ fn.body.isSome = true ∧ (fn.name == "runtime.NumGoroutine") = false
def CallOk (P : Program) (nB B : Nat) (w0 : World) (callf : FuncId → List LV → Hp → Nat → Option Out) : Prop :=
  ∀ f args H nx out, Nat.ble OB f = false → callf f args H nx = some out → nx ≤ out.nx → FnHas P f ∧ out.foot = none ∧ ∀ (ν : Env) (vs : List Value) (w : World), (∀ i, nx ≤ i → i < out.nx → ν i = none) → VRs ν args vs → HRF ν H none w → LowF nB B ν H none → InjH ν H → (∀ i k, H.get i = some k → i < nx) → GlobE P ν → Below B w0 w →
    Calls P f vs.toArray w (fun e w' => ∃ v' ν', e = .returned v' ∧ OpPost nB B w0 ν ν' H nx out w w' v')
def CallOkW (P : Program) (nB B : Nat) (w0 : World) (callf : FuncId → List LV → Hp → Nat → Option Out) : Prop :=
  ∀ f args H nx out, Nat.ble OB f = false → callf f args H nx = some out → nx ≤ out.nx → FnHas P f ∧ ∀ (ν : Env) (vs : List Value) (w : World), (∀ i, nx ≤ i → i < out.nx → ν i = none) → VRs ν args vs → HRF ν H out.foot w → LowF nB B ν H out.foot → InjHF ν H out.foot → (∀ i k, H.get i = some k → i < nx) → GlobE P ν → Below B w0 w →
    Calls P f vs.toArray w (fun e w' => ∃ v' ν', e = .returned v' ∧ OpPost nB B w0 ν ν' H nx out w w' v')
theorem CallOk.wide {P : Program} {nB B : Nat} {w0 : World} {callf : FuncId → List LV → Hp → Nat → Option Out} (h : CallOk P nB B w0 callf) : CallOkW P nB B w0 callf := by
  intro f args H nx out hob hc hnx
  obtain ⟨h1, h2, h3⟩ := h f args H nx out hob hc hnx
  refine ⟨h1, fun ν vs w hν hvs hH hlow hinj hid hg hb => ?_⟩
  rw [h2] at hH hlow hinj
  exact h3 ν vs w hν hvs hH hlow (fun i j ki kj li lj => hinj i j ki kj li lj trivial trivial) hid hg hb
def OpsOk (P : Program) (GE : Env → Prop) (B : Nat) (w0 : World) (callf : FuncId → List LV → Hp → Nat → Option Out) : Prop :=
  ∀ (o : Oper) (T : Tr LV) (v : LV), hintL P callf T o = some v → ∀ (ν : Env) (a : Act) (w : World), GE ν → (∀ x ∈ o.op.operands.toList, ∀ l, opd P T x = some l → VR ν l (a.eval x)) → Below B w0 w → ∃ v', (execOp a.eval o).run P w = .ok (.value v') w ∧ VR ν v v'
def EvOk (P : Program) (GE : Env → Prop) (nB B : Nat) (w0 : World) (callf : FuncId → List LV → Hp → Nat → Option Out) : Prop := CallOkW P nB B w0 callf ∧ OpsOk P GE B w0 callf
theorem evOp_wp {callf : FuncId → List LV → Hp → Nat → Option Out} (hc : EvOk P GE nB B w0 callf) (hB : B ≤ w0.heap.size) {T : Tr LV} {H : Hp} {nx : Nat} {out : Out} {o : Oper} (h : evOp P nB callf T H nx o = some out) (hnx : nx ≤ out.nx) {ν : Env} {a : Act} {w : World}
    (hT : ∀ x ∈ o.op.operands.toList, ∀ l, opd P T x = some l → VR ν l (a.eval x)) (hν : ∀ i, nx ≤ i → i < out.nx → ν i = none) (hH : HRF ν H out.foot w) (hlow : LowF nB B ν H out.foot) (hinj : InjHF ν H out.foot) (hid : ∀ i k, H.get i = some k → i < nx) (hg : GE ν) (hb : Below B w0 w)
    {K : Act → World → Prop} {Q : Exit → Act → World → Prop} (hK : ∀ v' w' ν', OpPost nB B w0 ν ν' H nx out w w' v' → K (a.put o.dst v') w') : o.wp P a w K Q := by
  have hall : evOpB P nB callf T H nx o = some out ∨ ∃ v, hintL P callf T o = some v ∧ out = ⟨v, [], nx, some []⟩ := by
    unfold evOp orH at h
    cases hb' : evOpB P nB callf T H nx o with
    | some x => rw [hb'] at h; exact .inl h
    | none =>
      rw [hb'] at h
      simp only at h
      split at h
      · rename_i v hv; cases h; exact .inr ⟨v, hv, rfl⟩
      · cases h
  rcases hall with h | ⟨v, hv, rfl⟩
  rotate_left
  · obtain ⟨v', h1, h2⟩ := hc.2 o T v hv ν a w hg hT hb
    unfold Oper.wp
    rw [h1, Oper.upon_value]
    exact hK v' w ν (post_val h2 hb)
  by_cases hcall : ∀ c f, o.op = .call c → c.callee ≠ .value f
  · obtain ⟨v', w', ν', h1, h2 | ⟨h2, rfl⟩⟩ := leaf_ok h hcall hT hν hH hlow hid hb hB
    · unfold Oper.wp
      rw [h2, Oper.upon_value]
      exact hK v' w' ν' h1
    · unfold Oper.wp
      rw [h2, Oper.upon_skip]
      exact hK undef w' ν' h1
  · simp only [Classical.not_forall, Classical.not_not] at hcall
    obtain ⟨c, f, ho, hcf⟩ := hcall
    simp only [evOpB, ho, callL] at h
    split at h
    · rename_i args hargs
      rw [hcf] at h
      simp only at h
      split at h
      · rename_i g caps hf
        have hob : Nat.ble OB g = false := by
          cases hbb : Nat.ble OB g with
          | false => rfl
          | true => rw [hbb] at h; cases h
        rw [hob] at h
        obtain ⟨⟨fn, hfn, hbody, hname⟩, hC⟩ := hc.1 g (args ++ caps) H nx out hob h hnx
        have hmem : ∀ x, x ∈ c.args.toList ∨ x = f → x ∈ o.op.operands.toList := by
          intro x hx
          rw [ho]
          simp only [Op.operands, Call.operands, hcf]
          simp
          rcases hx with hx | hx
          · right; simpa using hx
          · left; exact hx
        have hav := opds_ok (fun x hx => hT x (hmem x (.inl hx))) hargs
        have hfv := hT f (hmem f (.inr rfl)) _ hf
        simp only [VR] at hfv
        obtain ⟨cs, e1, hcs⟩ := hfv
        have hnb : fn.body.isNone = false := by
          cases hbb : fn.body <;> simp_all
        have hrun : (execOp a.eval o).run P w = .ok (.enter g ((c.args.toList.map a.eval ++ cs).toArray)) w := by
          obtain ⟨dst, op, type, pos, after, guard⟩ := o
          simp only at ho
          subst ho
          simp only [execOp, resolve, hcf, e1, Deferred.ofValue, Sem.run_bind, Sem.run_pure, Result.andThen_ok, invoke, callFunc, run_program, hfn, hname, hnb, Bool.false_eq_true, if_false]
          congr 2
          apply Array.ext'
          simp
        unfold Oper.wp
        rw [hrun, Oper.upon_enter]
        refine (hC ν _ w hν (hav.append hcs) hH hlow hinj hid (GEok.glob _ hg) hb).mono ?_
        rintro e w' ⟨v', ν', rfl, hp⟩
        exact hK v' w' ν' hp
      · cases h
    · cases h
theorem mem_oldW {nx i : Nat} : ∀ {d : Dl}, i ∈ oldW nx d ↔ i < nx ∧ (dget d i).isSome = true
  | [] => by simp [oldW, dget]
  | (j, b) :: d => by
    have ih := mem_oldW (nx := nx) (i := i) (d := d)
    simp only [oldW, dget]
    by_cases hj : j < nx
    · rw [if_pos hj, List.mem_cons, ih]
      cases hd : dget d i with
      | some x => simp; omega
      | none =>
        by_cases hij : i = j
        · simp [hij, hj]
        · simp [hij]
    · rw [if_neg hj, ih]
      cases hd : dget d i with
      | some x => simp
      | none =>
        by_cases hij : i = j
        · simp [hij]; omega
        · simp [hij]
theorem post_ext {ν ν' : Env} {H : Hp} {nx : Nat} {out : Out} {w w' : World} {v' : Value} (h : OpPost nB B w0 ν ν' H nx out w w' v') (hν : ∀ i, nx ≤ i → i < out.nx → ν i = none) : Ext ν ν' := fun i l hl => by
  by_cases hi : nx ≤ i ∧ i < out.nx
  · rw [hν i hi.1 hi.2] at hl; cases hl
  · rw [h.ext i hi]; exact hl
theorem StR.step {ν ν' : Env} {s : St} {a : Act} {w w' : World} {out : Out} {v' : Value} {dst : Option Tmp} (hs : StR P GE nB B w0 ν s a w) (hB : B ≤ w0.heap.size) (hν : ∀ i, s.nx ≤ i → i < out.nx → ν i = none) (hnx : s.nx ≤ out.nx) (h : OpPost nB B w0 ν ν' s.H s.nx out w w' v') :
    StR P GE nB B w0 ν' ⟨s.nt, putT s.nt s.T dst out.v, s.H.app out.d, out.nx, oldW s.nx out.d ++ s.wr⟩ (a.put dst v') w' ∧ Frg nB ν ν' s ⟨s.nt, putT s.nt s.T dst out.v, s.H.app out.d, out.nx, oldW s.nx out.d ++ s.wr⟩ w w' := by
  have hext := post_ext h hν
  -- a block that was there and is not touched
  have hold : ∀ i k, s.H.get i = some k → dget out.d i = none → ∃ l, ν i = some l ∧ ν' i = some l ∧ w'.heap[l.addr]? = w.heap[l.addr]? ∧ BlkR ν l k w.heap[l.addr]? := by
    intro i k hk hd
    obtain ⟨l, hl, hb⟩ := hs.hr i k trivial hk
    refine ⟨l, hl, hext i l hl, ?_, hb⟩
    refine h.frame _ hb.heap (fun j lj hj hdj hlj e => ?_)
    obtain ⟨kj, hkj⟩ := Option.isSome_iff_exists.1 (h.old j hj hdj).2
    have := hs.inj j i kj k lj l hkj hk hlj hl e
    subst this
    rw [hd] at hdj; cases hdj
  have hcase : ∀ i k, (s.H.app out.d).get i = some k → (dget out.d i = some (some k)) ∨ (dget out.d i = none ∧ s.H.get i = some k) := by
    intro i k hk
    rw [get_app] at hk
    split at hk
    · rename_i x hx; rw [hx, hk]; exact .inl rfl
    · rename_i hx; exact .inr ⟨hx, hk⟩
  have hfr : ∀ i k l, dget out.d i = some (some k) → ν' i = some l → s.nx ≤ i → w.heap.size ≤ l.addr ∨ ∃ j lj, j < s.nx ∧ dget out.d j = some none ∧ ν j = some lj ∧ lj.addr = l.addr := fun i k l h1 h2 h3 => h.fresh i k l h3 h1 h2
  refine ⟨⟨?_, ?_, ?_, ?_, ?_, h.below, ?_, ?_, ?_, ?_⟩, ⟨hnx, rfl, fun i hi => List.mem_append_right _ hi, h.ext, ?_, ?_, ?_, ?_, ?_, h.size⟩⟩
  · intro i k _ hk
    rcases hcase i k hk with h1 | ⟨h1, h2⟩
    · exact h.blk i k h1
    · obtain ⟨l, _, hl', he, hb⟩ := hold i k h2 h1
      exact ⟨l, hl', by rw [he]; exact hb.ext hext⟩
  · intro i k l _ hi hk hl
    rcases hcase i k hk with h1 | ⟨h1, h2⟩
    · by_cases hin : s.nx ≤ i
      · rcases hfr i k l h1 hl hin with h3 | ⟨j, lj, h3, h4, h5, h6⟩
        · have := h.below.size; have := hs.below.size; omega
        · obtain ⟨hjB, hj2⟩ := h.old j h3 (by rw [h4]; rfl)
          obtain ⟨kj, hkj⟩ := Option.isSome_iff_exists.1 hj2
          have := hs.low j kj lj trivial hjB hkj h5
          omega
      · obtain ⟨hjB, hj2⟩ := h.old i (by omega) (by rw [h1]; rfl)
        obtain ⟨kj, hkj⟩ := Option.isSome_iff_exists.1 hj2
        rw [h.ext i (by omega)] at hl
        exact hs.low i kj l trivial hi hkj hl
    · obtain ⟨l', hl1, hl2, _, _⟩ := hold i k h2 h1
      rw [hl2] at hl; cases hl
      exact hs.low i k _ trivial hi h2 hl1
  · -- no two numbers of one block
    have key : ∀ i ki li, (s.H.app out.d).get i = some ki → ν' i = some li → s.nx ≤ i ∨ ∃ q, s.H.get i = some q ∧ ν i = some li ∧ ∀ x, dget out.d i = some x → x ≠ none := by
      intro i ki li hk hl
      by_cases hin : s.nx ≤ i
      · exact .inl hin
      · right
        rw [h.ext i (by omega)] at hl
        rcases hcase i ki hk with h1 | ⟨h1, h2⟩
        · obtain ⟨q, hq⟩ := Option.isSome_iff_exists.1 (h.old i (by omega) (by rw [h1]; rfl)).2
          exact ⟨q, hq, hl, fun x hx => by rw [h1] at hx; cases hx; simp⟩
        · exact ⟨ki, h2, hl, fun x hx => by rw [h1] at hx; cases hx⟩
    have mix : ∀ i j ki li lj, s.nx ≤ i → (s.H.app out.d).get i = some ki → ν' i = some li → (∃ q, s.H.get j = some q ∧ ν j = some lj ∧ ∀ x, dget out.d j = some x → x ≠ none) → li.addr = lj.addr → False := by
      intro i j ki li lj hi hk hl ⟨q, hq, hlj, hx⟩ he
      rcases hcase i ki hk with h1 | ⟨h1, h2⟩
      · rcases hfr i ki li h1 hl hi with h3 | ⟨j', lj', h3, h4, h5, h6⟩
        · obtain ⟨l', hl', hb⟩ := hs.hr j q trivial hq
          rw [hlj] at hl'; cases hl'
          have := hb.heap
          omega
        · obtain ⟨q', hq'⟩ := Option.isSome_iff_exists.1 (h.old j' h3 (by rw [h4]; rfl)).2
          have := hs.inj j' j q' q lj' lj hq' hq h5 hlj (by omega)
          subst this
          exact hx none h4 rfl
      · have := hs.ids i ki h2; omega
    intro i j ki kj li lj hi hj hli hlj he
    rcases key i ki li hi hli with h1 | h1
    · rcases key j kj lj hj hlj with h2 | h2
      · have c1 : dget out.d i = some (some ki) := by
          rcases hcase i ki hi with h3 | ⟨_, h3⟩
          · exact h3
          · have := hs.ids i ki h3; omega
        have c2 : dget out.d j = some (some kj) := by
          rcases hcase j kj hj with h3 | ⟨_, h3⟩
          · exact h3
          · have := hs.ids j kj h3; omega
        exact h.inj i j ki kj li lj h1 h2 c1 c2 hli hlj he
      · exact (mix i j ki li lj h1 hi hli h2 he).elim
    · rcases key j kj lj hj hlj with h2 | h2
      · exact (mix j i kj lj li h2 hj hlj h1 he.symm).elim
      · obtain ⟨q, hq, hl1, _⟩ := h1
        obtain ⟨q', hq', hl2, _⟩ := h2
        exact hs.inj i j q q' li lj hq hq' hl1 hl2 he
  · intro i k hk
    rcases hcase i k hk with h1 | ⟨h1, h2⟩
    · by_cases hin : i < s.nx
      · show i < out.nx; omega
      · exact h.new i (by omega) (by rw [h1]; rfl)
    · have := hs.ids i k h2; show i < out.nx; omega
  · exact GEok.mono (P := P) ν ν' hext hs.glob
  · have := TR.put (dst := dst) (hs.tr.ext hext) h.val
    rwa [hs.sz] at this
  · cases dst <;> simp [Act.put, hs.sz]
  · cases dst <;> simp [Act.put, hs.df]
  · intro i hi
    rcases List.mem_append.1 hi with h1 | h1
    · have := (mem_oldW.1 h1).1; show i < out.nx; omega
    · have := hs.wrs i h1; show i < out.nx; omega
  · intro a ha hno
    exact h.frame a ha (fun i l hi hd hl => hno i l (List.mem_append_left _ (mem_oldW.2 ⟨hi, hd⟩)) hi hl)
  · intro i l hi hh hl
    rcases hh with hh | ⟨k, hk⟩
    · rcases List.mem_append.1 hh with h1 | h1
      · have := (mem_oldW.1 h1).1; omega
      · have := hs.wrs i h1; omega
    · rcases hcase i k hk with h1 | ⟨h1, h2⟩
      · rcases hfr i k l h1 hl hi with h3 | ⟨j, lj, h3, h4, h5, h6⟩
        · exact .inl h3
        · exact .inr ⟨j, lj, List.mem_append_left _ (mem_oldW.2 ⟨h3, by rw [h4]; rfl⟩), h3, h5, h6⟩
      · have := hs.ids i k h2; omega
  · intro i k hk hi
    rcases hcase i k hk with h1 | ⟨h1, h2⟩
    · exact Option.isSome_iff_exists.1 (h.old i hi (by rw [h1]; rfl)).2
    · exact ⟨k, h2⟩
  · intro i hi hw
    show (s.H.app out.d).get i = s.H.get i
    rw [get_app]
    have : dget out.d i = none := by
      cases hd : dget out.d i with
      | none => rfl
      | some x => exact absurd (List.mem_append_left _ (mem_oldW.2 ⟨hi, by rw [hd]; rfl⟩)) hw
    rw [this]
  · intro i hi
    rcases List.mem_append.1 hi with h1 | h1
    · obtain ⟨h2, h3⟩ := mem_oldW.1 h1
      exact .inr (.inr ⟨(h.old i h2 h3).1, Option.isSome_iff_exists.1 (h.old i h2 h3).2⟩)
    · exact .inl h1
end
end Go.Proofs.YtjpfhhndjpdmoaaGreatDoor

namespace Go.Proofs.YtjpfhhndjpdmoaaGreatDoor
open Go.RowKit
set_option linter.unusedVariables false
set_option linter.unusedSectionVars false
set_option linter.unusedSimpArgs false

section
variable {P : Program} {GE : Env → Prop} [hGE : GEok P GE] {nB B : Nat} {w0 : World} {callf : FuncId → List LV → Hp → Nat → Option Out} {ops : Array Oper}
theorem getD_bool {tmps : Array Value} {d : Nat} {b : Bool} (h : tmps.getD d undef = .bool b) : tmps[d]? = some (.bool b) := by
  simp only [Array.getD_eq_getD_getElem?] at h
  cases hx : tmps[d]? with
  | none => rw [hx] at h; simp [undef] at h
  | some v => rw [hx] at h; simp at h; rw [h]
theorem want_ok {ν : Env} {T : Tr LV} {tmps : Array Value} {o : Oper} {b : Bool} (h : ∀ j want d l, o.guard = some (j, want) → (ops[j]?).bind (·.dst) = some d → T.get d = some l → VR ν l (tmps.getD d undef)) (hw : wantL ops T o = some b) : Region.wanted o (yielded ops tmps) = b := by
  unfold wantL at hw
  unfold Region.wanted
  split at hw
  · rename_i hg; cases hw; rw [hg]
  · rename_i j want hg
    rw [hg]
    simp only
    split at hw
    · rename_i d hd
      split at hw
      · rename_i c hc
        have h1 := h j want d _ hg hd hc
        simp only [VR] at h1
        have h2 := getD_bool h1.1
        cases hw
        simp [yielded, hd, h2]
      · rename_i cs hc
        have h1 := h j want d _ hg hd hc
        simp only [VR] at h1
        obtain ⟨vs, h1, _⟩ := h1
        cases hw
        have : yielded ops tmps j = none := by
          unfold yielded
          rw [hd]
          simp only [Option.bind_some]
          simp only [Array.getD_eq_getD_getElem?] at h1
          cases hx : tmps[d]? with
          | none => rfl
          | some v => rw [hx] at h1; simp at h1; rw [h1]
        rw [this]; rfl
      · cases hw
    · cases hw
theorem undef_ok (ν : Env) : VR ν (.tup []) undef := by simp [VR, VRs, undef]
theorem StR.skip {ν : Env} {s : St} {a : Act} {w : World} {dst : Option Tmp} (hs : StR P GE nB B w0 ν s a w) : StR P GE nB B w0 ν { s with T := putT s.nt s.T dst (.tup []) } (a.put dst undef) w ∧ Frg nB ν ν s { s with T := putT s.nt s.T dst (.tup []) } w w := by
  refine ⟨⟨hs.hr, hs.low, hs.inj, hs.ids, hs.glob, hs.below, ?_, ?_, ?_, hs.wrs⟩, ?_⟩
  · have := TR.put (dst := dst) hs.tr (undef_ok ν)
    rwa [hs.sz] at this
  · cases dst <;> simp [Act.put, hs.sz]
  · cases dst <;> simp [Act.put, hs.df]
  · have := Frg.refl (nB := nB) (ν := ν) (w := w) hs.wrs hs.ids
    exact ⟨this.nx, rfl, this.wr, this.ext, this.frame, this.fresh, this.live, this.kept, this.old, this.size⟩
theorem evSeq_mono : ∀ {l : List Oper} {s s' : St}, evSeq P nB callf ops l s = some s' → s.nx ≤ s'.nx
  | [], s, s', h => by simp only [evSeq] at h; cases h; exact Nat.le_refl _
  | o :: l, s, s', h => by
    simp only [evSeq] at h
    split at h
    · split at h
      · split at h
        · rename_i hle
          have := evSeq_mono h
          exact Nat.le_trans hle this
        · cases h
      · cases h
    · have := evSeq_mono h; exact this
    · cases h
theorem seq_ok (hc : EvOk P GE nB B w0 callf) (hB : B ≤ w0.heap.size) : ∀ {l : List Oper} {s s' : St}, evSeq P nB callf ops l s = some s' → ∀ {ν : Env} {a : Act} {w : World}, StR P GE nB B w0 ν s a w → (∀ i, s.nx ≤ i → i < s'.nx → ν i = none) →
    ∀ {Q : Exit → Act → World → Prop}, (∀ a' w' ν', StR P GE nB B w0 ν' s' a' w' → Frg nB ν ν' s s' w w' → Q .normal a' w') → wpList P ops Q l a w
  | [], s, s', h, ν, a, w, hs, _, Q, hQ => by
    simp only [evSeq] at h; cases h
    exact wpList_nil (hQ a w ν hs (Frg.refl hs.wrs hs.ids))
  | o :: l, s, s', h, ν, a, w, hs, hν, Q, hQ => by
    simp only [evSeq] at h
    split at h
    · rename_i hw
      split at h
      · rename_i out hout
        split at h
        · rename_i hle
          have hm := evSeq_mono h
          have hν1 : ∀ i, s.nx ≤ i → i < out.nx → ν i = none := fun i h1 h2 => hν i h1 (Nat.lt_of_lt_of_le h2 hm)
          refine wpList_step (fun K hK => ?_)
          rw [if_pos (want_ok (fun _ _ d l _ _ hd => hs.tr d l hd) hw)]
          refine evOp_wp hc hB hout hle (fun x hx l hl => opd_ok hs.tr hs.glob hl) hν1 (fun i k _ hk => hs.hr i k trivial hk) (fun i k l _ => hs.low i k l trivial) (fun i j ki kj li lj _ _ => hs.inj i j ki kj li lj) hs.ids hs.glob hs.below (fun v' w' ν' hp => ?_)
          obtain ⟨hs1, hf1⟩ := hs.step (dst := o.dst) hB hν1 hle hp
          refine hK _ _ (seq_ok hc hB h hs1 (fun i h1 h2 => ?_) (fun a2 w2 ν2 hs2 hf2 => hQ a2 w2 ν2 hs2 (hf1.trans hf2)))
          have h1' : out.nx ≤ i := h1
          rw [hp.ext i (by omega)]
          exact hν i (by omega) h2
        · cases h
      · cases h
    · rename_i hw
      obtain ⟨hs1, hf1⟩ := hs.skip (dst := o.dst)
      unfold wpList
      rw [if_neg (by rw [want_ok (fun _ _ d l _ _ hd => hs.tr d l hd) hw]; simp)]
      exact seq_ok hc hB h hs1 hν (fun a2 w2 ν2 hs2 hf2 => hQ a2 w2 ν2 hs2 (hf1.trans hf2))
    · cases h
end
end Go.Proofs.YtjpfhhndjpdmoaaGreatDoor
