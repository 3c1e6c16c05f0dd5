/- Part of the proof: EvDc, EvDd. No conditions of its own. -/
import Derived.Below
import Derived.KernelRfl
import Derived.Laws.BytesArg
import Derived.Laws.CopyRow
import Derived.Laws.NewFold
import Derived.Laws.Strings
import Derived.Lib.ConvBytes
import Derived.Orders
import Derived.RowKit3
import Derived.Test.YtjpfhhndjpdmoaaGreatDoorK03
import Derived.Test.YtjpfhhndjpdmoaaGreatDoorK11
namespace Go.Proofs.YtjpfhhndjpdmoaaGreatDoor
open Go.RowKit
set_option linter.unusedVariables false
set_option linter.unusedSectionVars false
set_option linter.unusedSimpArgs false

structure DD where
  v : Nat → LV
  d : Nat → Dl
  nx : Nat → Nat
  ft : Nat → Option (List Nat)
  T : Nat → Tr LV
  wb : Nat → Bool
  R : Nat → List Rc
section
variable {P : Program} {GE : Env → Prop} [hGE : GEok P GE] {nB B : Nat} {w0 : World} {callf : FuncId → List LV → Hp → Nat → Option Out} {nt : Nat} {ops : Array Oper} {H : Hp}
structure DD.At (P : Program) (nB : Nat) (callf : FuncId → List LV → Hp → Nat → Option Out) (nt : Nat) (ops : Array Oper) (H : Hp) (D : DD) (j : Nat) (o : Oper) (m : Nat) : Prop where
  le : D.nx j ≤ D.nx (j + 1)
  T : D.T (j + 1) = putT nt (D.T j) o.dst (D.v j)
  R : D.R (j + 1) = ⟨j, D.d j, D.nx j, D.ft j⟩ :: D.R j
  want : wantL ops (D.T j) o = some (D.wb j)
  yes : D.wb j = true → evOp P nB callf (D.T j) (overH H m (D.R j)) (D.nx j) o = some ⟨D.v j, D.d j, D.nx (j + 1), D.ft j⟩ ∧ freeB m (oldW (D.nx j) (D.d j)) (D.ft j) (D.R j) = true ∧ dOk (overH H m (D.R j)) (D.nx j) (D.nx (j + 1)) (D.ft j) (D.d j) = true
  no : D.wb j = false → D.v j = .tup [] ∧ D.d j = [] ∧ D.nx (j + 1) = D.nx j ∧ D.ft j = some []
theorem draw_data : ∀ {l : List Oper} {ms : List Nat} {k : Nat} {T T' : Tr LV} {nx nx' : Nat} {rs rs' : List Rc}, evDraw P nB callf nt ops H l ms k T nx rs = some (T', nx', rs') →
    ∃ D : DD, D.T k = T ∧ D.nx k = nx ∧ D.R k = rs ∧ D.T (k + l.length) = T' ∧ D.nx (k + l.length) = nx' ∧ D.R (k + l.length) = rs' ∧ ∀ (i : Nat) (o : Oper), l[i]? = some o → ∃ m, ms[i]? = some m ∧ D.At P nB callf nt ops H (k + i) o m
  | [], ms, k, T, T', nx, nx', rs, rs', h => by
    simp only [evDraw, Option.some.injEq, Prod.mk.injEq] at h
    obtain ⟨rfl, rfl, rfl⟩ := h
    exact ⟨⟨fun _ => .emp, fun _ => [], fun _ => nx, fun _ => none, fun _ => T, fun _ => true, fun _ => rs⟩, rfl, rfl, rfl, rfl, rfl, rfl, fun i o h => by simp at h⟩
  | o :: l, [], k, T, T', nx, nx', rs, rs', h => by simp [evDraw] at h
  | o :: l, m :: ms, k, T, T', nx, nx', rs, rs', h => by
    have join : ∀ (v : LV) (d : Dl) (nx1 : Nat) (ft : Option (List Nat)) (b : Bool), nx ≤ nx1 → wantL ops T o = some b →
        (b = true → evOp P nB callf T (overH H m rs) nx o = some ⟨v, d, nx1, ft⟩ ∧ freeB m (oldW nx d) ft rs = true ∧ dOk (overH H m rs) nx nx1 ft d = true) → (b = false → v = .tup [] ∧ d = [] ∧ nx1 = nx ∧ ft = some []) →
        evDraw P nB callf nt ops H l ms (k + 1) (putT nt T o.dst v) nx1 (⟨k, d, nx, ft⟩ :: rs) = some (T', nx', rs') →
        ∃ D : DD, D.T k = T ∧ D.nx k = nx ∧ D.R k = rs ∧ D.T (k + (o :: l).length) = T' ∧ D.nx (k + (o :: l).length) = nx' ∧ D.R (k + (o :: l).length) = rs' ∧ ∀ (i : Nat) (o' : Oper), (o :: l)[i]? = some o' → ∃ m', (m :: ms)[i]? = some m' ∧ D.At P nB callf nt ops H (k + i) o' m' := by
      intro v d nx1 ft b hle hw hy hn hr
      obtain ⟨D, h1, h2, h3, h4, h5, h6, h7⟩ := draw_data hr
      have ek : ∀ j, k + 1 + j ≠ k := fun j => by omega
      have ek1 : k + 1 ≠ k := by omega
      have ek2 : ∀ j, k + 1 + j + 1 ≠ k := fun j => by omega
      refine ⟨⟨fun j => if j = k then v else D.v j, fun j => if j = k then d else D.d j, fun j => if j = k then nx else D.nx j, fun j => if j = k then ft else D.ft j, fun j => if j = k then T else D.T j, fun j => if j = k then b else D.wb j, fun j => if j = k then rs else D.R j⟩, by simp, by simp, by simp, ?_, ?_, ?_, ?_⟩
      · simp only [List.length_cons]; rw [if_neg (by omega), show k + (l.length + 1) = k + 1 + l.length by omega]; exact h4
      · simp only [List.length_cons]; rw [if_neg (by omega), show k + (l.length + 1) = k + 1 + l.length by omega]; exact h5
      · simp only [List.length_cons]; rw [if_neg (by omega), show k + (l.length + 1) = k + 1 + l.length by omega]; exact h6
      · intro i o' hi
        cases i with
        | zero =>
          simp at hi; subst hi
          refine ⟨m, rfl, ?_⟩
          simp only [Nat.add_zero]
          constructor
          · simp only [if_true, if_neg ek1, h2]; exact hle
          · simp only [if_true, if_neg ek1, h1]
          · simp only [if_true, if_neg ek1, h3]
          · simp only [if_true]; exact hw
          · simp only [if_true, if_neg ek1, h2]; exact hy
          · simp only [if_true, if_neg ek1, h2]; exact hn
        | succ i =>
          obtain ⟨m', hm', hA⟩ := h7 i o' (by simpa using hi)
          refine ⟨m', by simpa using hm', ?_⟩
          rw [show k + (i + 1) = k + 1 + i by omega]
          constructor
          · simp only [if_neg (ek i), if_neg (ek2 i)]; exact hA.le
          · simp only [if_neg (ek i), if_neg (ek2 i)]; exact hA.T
          · simp only [if_neg (ek i), if_neg (ek2 i)]; exact hA.R
          · simp only [if_neg (ek i)]; exact hA.want
          · simp only [if_neg (ek i), if_neg (ek2 i)]; exact hA.yes
          · simp only [if_neg (ek i), if_neg (ek2 i)]; exact hA.no
    simp only [evDraw] at h
    split at h
    · rename_i hw
      split at h
      · rename_i out hout
        split at h
        · rename_i hc
          exact join out.v out.d out.nx out.foot true hc.1 hw (fun _ => ⟨hout, hc.2.1, hc.2.2⟩) (fun h => by cases h) h
        · cases h
      · cases h
    · rename_i hw
      exact join (.tup []) [] nx (some []) false (Nat.le_refl _) hw (fun h => by cases h) (fun _ => ⟨rfl, rfl, rfl, rfl⟩) h
    · cases h
theorem dOk_mem {Hk : Hp} {nx nx' : Nat} {ft : Option (List Nat)} : ∀ {d : Dl}, dOk Hk nx nx' ft d = true → ∀ i, (dget d i).isSome = true → (i < nx ∧ (Hk.get i).isSome = true ∧ footB ft i = true) ∨ (nx ≤ i ∧ i < nx')
  | [], _, i, h => by simp [dget] at h
  | (j, b) :: d, h, i, hi => by
    simp only [dOk, Bool.and_eq_true] at h
    simp only [dget] at hi
    cases hd : dget d i with
    | some x => exact dOk_mem h.2 i (by rw [hd]; rfl)
    | none =>
      rw [hd] at hi
      simp only at hi
      split at hi
      · rename_i e; subst e
        have h1 := h.1
        split at h1
        · rename_i hlt
          simp only [Bool.and_eq_true] at h1
          exact .inl ⟨hlt, h1⟩
        · rename_i hlt
          exact .inr ⟨by omega, by simpa using h1⟩
      · cases hi
theorem footB_iff {ft : Option (List Nat)} {i : Nat} : footB ft i = true ↔ footHas ft i := by
  cases ft with
  | none => simp [footB, footHas]
  | some F => simp [footB, footHas]
theorem apartB_no {W : List Nat} {ft : Option (List Nat)} (h : apartB W ft = true) {i : Nat} (hi : i ∈ W) : ¬ footHas ft i := by
  cases ft with
  | none =>
    simp only [apartB, List.isEmpty_iff] at h
    subst h; cases hi
  | some F =>
    simp only [apartB, List.all_eq_true] at h
    have := h i hi
    simpa [footHas] using this
theorem overH_get {D : DD} {m : Nat} : ∀ {k : Nat}, (∀ j, j < k → D.R (j + 1) = ⟨j, D.d j, D.nx j, D.ft j⟩ :: D.R j) → D.R 0 = [] → ∀ i, (overH H m (D.R k)).get i = match lastOf (fun p => dget (D.d p) i) (fun p => m.testBit p) k with | some x => x | none => H.get i
  | 0, _, h0, i => by rw [h0]; rfl
  | k + 1, hR, h0, i => by
    have ih := overH_get (D := D) (m := m) (k := k) (fun j hj => hR j (by omega)) h0 i
    rw [hR k (by omega)]
    simp only [overH, lastOf]
    split
    · rename_i hb
      rw [get_app]
      cases hd : dget (D.d k) i with
      | some x => rfl
      | none => exact ih
    · exact ih
theorem allH_get {D : DD} : ∀ {k : Nat}, (∀ j, j < k → D.R (j + 1) = ⟨j, D.d j, D.nx j, D.ft j⟩ :: D.R j) → D.R 0 = [] → ∀ i, (allH H (D.R k)).get i = match lastOf (fun p => dget (D.d p) i) (fun _ => true) k with | some x => x | none => H.get i
  | 0, _, h0, i => by rw [h0]; rfl
  | k + 1, hR, h0, i => by
    have ih := allH_get (D := D) (k := k) (fun j hj => hR j (by omega)) h0 i
    rw [hR k (by omega)]
    simp only [allH, lastOf, if_true]
    rw [get_app]
    cases hd : dget (D.d k) i with
    | some x => rfl
    | none => exact ih
theorem wrOf_mem {D : DD} : ∀ {k : Nat}, (∀ j, j < k → D.R (j + 1) = ⟨j, D.d j, D.nx j, D.ft j⟩ :: D.R j) → D.R 0 = [] → ∀ i, i ∈ wrOf (D.R k) ↔ ∃ j, j < k ∧ i ∈ oldW (D.nx j) (D.d j)
  | 0, _, h0, i => by rw [h0]; simp [wrOf]
  | k + 1, hR, h0, i => by
    have ih := wrOf_mem (D := D) (k := k) (fun j hj => hR j (by omega)) h0 i
    rw [hR k (by omega)]
    simp only [wrOf, List.mem_append, ih]
    constructor
    · rintro (h | ⟨j, h1, h2⟩)
      · exact ⟨k, by omega, h⟩
      · exact ⟨j, by omega, h2⟩
    · rintro ⟨j, h1, h2⟩
      by_cases hj : j = k
      · subst hj; exact .inl h2
      · exact .inr ⟨j, by omega, h2⟩
def slotW (nt : Nat) (ops : Array Oper) (D : DD) (x : Nat) (k : Nat) : Option LV :=
  match ops[k]? with
  | some o => if o.dst = some x ∧ x < nt then some (D.v k) else none
  | none => none
theorem T_get {D : DD} {T : Tr LV} : ∀ {k : Nat}, k ≤ ops.size → (∀ j o, j < k → ops[j]? = some o → D.T (j + 1) = putT nt (D.T j) o.dst (D.v j)) → D.T 0 = T → ∀ x, (D.T k).get x = match lastOf (slotW nt ops D x) (fun _ => true) k with | some y => some y | none => T.get x
  | 0, _, _, h0, x => by rw [h0]; rfl
  | k + 1, hk, hT, h0, x => by
    have ih := T_get (D := D) (k := k) (by omega) (fun j o hj => hT j o (by omega)) h0 x
    obtain ⟨o, ho⟩ := oper_of (ops := ops) (k := k) (by omega)
    rw [hT k o (by omega) ho]
    simp only [lastOf, if_true, slotW, ho]
    cases hd : o.dst with
    | none => simp [putT]; exact ih
    | some d =>
      simp only [putT]
      by_cases hdn : d < nt
      · rw [if_pos hdn, Tr.get_set]
        by_cases hx : x = d
        · subst hx; simp [hdn]
        · rw [if_neg hx, if_neg (by simp; intro e; exact absurd e.symm hx)]
          exact ih
      · rw [if_neg hdn, if_neg (by simp; intro e; rw [← e]; exact Nat.le_of_not_lt hdn)]
        exact ih
end
end Go.Proofs.YtjpfhhndjpdmoaaGreatDoor

namespace Go.Proofs.YtjpfhhndjpdmoaaGreatDoor
open Go.RowKit
set_option linter.unusedVariables false
set_option linter.unusedSectionVars false
set_option linter.unusedSimpArgs false

theorem lastOf_cut {α : Type} {f : Nat → Option α} {D : Nat → Bool} {k : Nat} : ∀ {n : Nat}, k ≤ n → (∀ p, k ≤ p → p < n → D p = false) → lastOf f D n = lastOf f D k
  | 0, h, _ => by have : k = 0 := by omega
                  subst this; rfl
  | n + 1, h, hD => by
    by_cases hk : k = n + 1
    · rw [hk]
    · simp only [lastOf]
      rw [hD n (by omega) (by omega)]
      simpa using lastOf_cut (n := n) (by omega) (fun p h1 h2 => hD p h1 (by omega))
section
variable {P : Program} {GE : Env → Prop} [hGE : GEok P GE] {nB B : Nat} {w0 : World} {callf : FuncId → List LV → Hp → Nat → Option Out} {ops : Array Oper} {s : St} {D : DD}
structure DAll (P : Program) (nB : Nat) (callf : FuncId → List LV → Hp → Nat → Option Out) (ops : Array Oper) (s : St) (D : DD) : Prop where
  reg : regB ops = true
  at_ : ∀ j o, ops[j]? = some o → D.At P nB callf s.nt ops s.H j o (maskOf ops j)
  T0 : D.T 0 = s.T
  nx0 : D.nx 0 = s.nx
  R0 : D.R 0 = []
  ids : ∀ i k, s.H.get i = some k → i < s.nx
theorem DAll.R (h : DAll P nB callf ops s D) {j : Nat} (hj : j < ops.size) : D.R (j + 1) = ⟨j, D.d j, D.nx j, D.ft j⟩ :: D.R j := by
  obtain ⟨o, ho⟩ := oper_of hj
  exact (h.at_ j o ho).R
theorem DAll.mono (h : DAll P nB callf ops s D) : ∀ {k j : Nat}, j ≤ k → k ≤ ops.size → D.nx j ≤ D.nx k
  | 0, j, hj, _ => by have : j = 0 := by omega
                      subst this; exact Nat.le_refl _
  | k + 1, j, hj, hk => by
    by_cases he : j = k + 1
    · rw [he]; exact Nat.le_refl _
    · obtain ⟨o, ho⟩ := oper_of (ops := ops) (k := k) (by omega)
      exact Nat.le_trans (h.mono (by omega) (by omega)) (h.at_ k o ho).le
def Hof (ops : Array Oper) (s : St) (D : DD) (k : Nat) : Hp := overH s.H (maskOf ops k) (D.R k)
theorem DAll.dmem (h : DAll P nB callf ops s D) {j i : Nat} (hj : j < ops.size) (hi : (dget (D.d j) i).isSome = true) : (i < D.nx j ∧ ((Hof ops s D j).get i).isSome = true ∧ footHas (D.ft j) i) ∨ (D.nx j ≤ i ∧ i < D.nx (j + 1)) := by
  obtain ⟨o, ho⟩ := oper_of hj
  have A := h.at_ j o ho
  cases hw : D.wb j with
  | true =>
    rcases dOk_mem (A.yes hw).2.2 i hi with ⟨h1, h2, h3⟩ | h1
    · exact .inl ⟨h1, h2, footB_iff.1 h3⟩
    · exact .inr h1
  | false =>
    rw [(A.no hw).2.1] at hi
    simp [dget] at hi
theorem DAll.hof (h : DAll P nB callf ops s D) {k : Nat} (hk : k ≤ ops.size) (i : Nat) : (Hof ops s D k).get i = match lastOf (fun p => dget (D.d p) i) (fun p => (maskOf ops k).testBit p) k with | some x => x | none => s.H.get i :=
  overH_get (fun j hj => h.R (by omega)) h.R0 i
theorem DAll.seen (h : DAll P nB callf ops s D) {j i : Nat} (hj : j < ops.size) (hi : D.nx j ≤ i ∧ i < D.nx (j + 1)) : ∀ k, k < ops.size → ((Hof ops s D k).get i).isSome = true → (maskOf ops k).testBit j = true := by
  intro k
  induction k using Nat.strongRecOn with
  | _ k ih =>
    intro hk hs
    rw [h.hof (by omega) i] at hs
    split at hs
    · rename_i x hx
      obtain ⟨p, h1, h2, h3⟩ := lastOf_some hx
      rcases h.dmem (j := p) (i := i) (by omega) (by rw [h3]; rfl) with ⟨h4, h5, _⟩ | h4
      · have := ih p h1 (by omega) h5
        exact mask_trans (reg_edges h.reg) k p j h2 this
      · have : p = j := by
          rcases Nat.lt_trichotomy p j with hlt | he | hgt
          · have := h.mono (j := p + 1) (k := j) (by omega) (by omega); omega
          · exact he
          · have := h.mono (j := j + 1) (k := p) (by omega) (by omega); omega
        rw [← this]; exact h2
    · obtain ⟨q, hq⟩ := Option.isSome_iff_exists.1 hs
      have h1 := h.ids i q hq
      have h2 := h.mono (j := 0) (k := j) (by omega) (by omega)
      rw [h.nx0] at h2
      omega
theorem freeB_mem {m : Nat} {W : List Nat} {ft : Option (List Nat)} : ∀ {rs : List Rc}, freeB m W ft rs = true → ∀ r ∈ rs, m.testBit r.j = true ∨ (apartB (oldW r.nx r.d) ft = true ∧ apartB W r.foot = true)
  | [], _, r, h => by cases h
  | r' :: rs, h, r, hr => by
    simp only [freeB, Bool.and_eq_true, Bool.or_eq_true] at h
    rcases List.mem_cons.1 hr with rfl | hr
    · exact h.1
    · exact freeB_mem h.2 r hr
theorem DAll.rec_mem (h : DAll P nB callf ops s D) : ∀ {k j : Nat}, j < k → k ≤ ops.size → (⟨j, D.d j, D.nx j, D.ft j⟩ : Rc) ∈ D.R k
  | 0, j, hj, _ => by omega
  | k + 1, j, hj, hk => by
    rw [h.R (by omega)]
    by_cases he : j = k
    · subst he; simp
    · exact List.mem_cons_of_mem _ (h.rec_mem (by omega) (by omega))
theorem DAll.free (h : DAll P nB callf ops s D) {j k : Nat} (hjk : j < k) (hk : k < ops.size) (hm : (maskOf ops k).testBit j = false) : (∀ i, i ∈ oldW (D.nx j) (D.d j) → ¬ footHas (D.ft k) i) ∧ (∀ i, i ∈ oldW (D.nx k) (D.d k) → ¬ footHas (D.ft j) i) := by
  obtain ⟨o, ho⟩ := oper_of hk
  have A := h.at_ k o ho
  cases hw : D.wb k with
  | true =>
    rcases freeB_mem (A.yes hw).2.1 _ (h.rec_mem hjk (by omega)) with h1 | ⟨h1, h2⟩
    · simp only at h1; rw [hm] at h1; cases h1
    · exact ⟨fun i hi => apartB_no h1 hi, fun i hi => apartB_no h2 hi⟩
  | false =>
    obtain ⟨_, h2, _, h4⟩ := A.no hw
    refine ⟨fun i _ => by rw [h4]; simp [footHas], fun i hi => by rw [h2] at hi; simp [oldW] at hi⟩
theorem DAll.apart (h : DAll P nB callf ops s D) {j k i : Nat} (hjk : j < k) (hk : k < ops.size) (hm : (maskOf ops k).testBit j = false) (hj : dget (D.d j) i ≠ none) : dget (D.d k) i = none := by
  cases hd : dget (D.d k) i with
  | none => rfl
  | some x =>
    exfalso
    have hj' : (dget (D.d j) i).isSome = true := by cases hx : dget (D.d j) i <;> simp_all
    have hf := h.free hjk hk hm
    rcases h.dmem hk (by rw [hd]; rfl) with ⟨h1, h2, h3⟩ | h1
    · rcases h.dmem (by omega) hj' with ⟨h4, _, _⟩ | h4
      · exact hf.1 i (mem_oldW.2 ⟨h4, hj'⟩) h3
      · have := h.seen (by omega) h4 k hk h2
        rw [hm] at this; cases this
    · rcases h.dmem (by omega) hj' with ⟨h4, _, _⟩ | h4
      · have := h.mono (j := j) (k := k) (by omega) (by omega); omega
      · have := h.mono (j := j + 1) (k := k) (by omega) (by omega); omega
def hL (ops : Array Oper) (s : St) (D : DD) (L : Nat → Bool) : Nat → Option Blk := fun i => match lastOf (fun p => dget (D.d p) i) L ops.size with | some x => x | none => s.H.get i
def tL (ops : Array Oper) (s : St) (D : DD) (L : Nat → Bool) : Nat → Option LV := fun x => match lastOf (slotW s.nt ops D x) L ops.size with | some y => some y | none => s.T.get x
def oL (ops : Array Oper) (s : St) (D : DD) (L : Nat → Bool) : Nat → Prop := fun i => i < s.nx ∨ ∃ p, p < ops.size ∧ L p = true ∧ D.nx p ≤ i ∧ i < D.nx (p + 1)
def wL (ops : Array Oper) (s : St) (D : DD) (L : Nat → Bool) : Nat → Prop := fun i => i ∈ s.wr ∨ ∃ p, p < ops.size ∧ L p = true ∧ i ∈ oldW (D.nx p) (D.d p)
structure DInv (P : Program) (GE : Env → Prop) (nB B : Nat) (w0 : World) (ops : Array Oper) (s : St) (D : DD) (ν0 : Env) (w00 : World) (L : Nat → Bool) (ν : Env) (a : Act) (w : World) : Prop where
  st : StO P GE nB B w0 s.nt ν (hL ops s D L) (tL ops s D L) (oL ops s D L) a w
  fr : FrgO nB ν0 ν s.H.get (hL ops s D L) (fun i => i < s.nx) (oL ops s D L) (fun i => i ∈ s.wr) (wL ops s D L) w00 w
  free : ∀ p, p < ops.size → L p = false → ∀ i, D.nx p ≤ i → i < D.nx (p + 1) → ν i = none
  down : ∀ k, k < ops.size → L k = true → ∀ j, (maskOf ops k).testBit j = true → L j = true
theorem DAll.slots (h : DAll P nB callf ops s D) {L : Nat → Bool} (hdown : ∀ k, k < ops.size → L k = true → ∀ j, (maskOf ops k).testBit j = true → L j = true) {k : Nat} {o : Oper} (ho : ops[k]? = some o) (hk : k < ops.size) (hLk : L k = false) (hpast : ∀ j, (maskOf ops k).testBit j = true → L j = true) {x : Tmp} (hx : x ∈ o.looksAt ops) :
    tL ops s D L x = (D.T k).get x := by
  rw [T_get (T := s.T) (by omega) (fun j o' hj ho' => (h.at_ j o' ho').T) h.T0 x]
  unfold tL
  have e : lastOf (slotW s.nt ops D x) L ops.size = lastOf (slotW s.nt ops D x) (fun p => decide (p < k)) ops.size := lastOf_congr (fun p hp hf => by
    obtain ⟨op, hop⟩ := oper_of hp
    have hdst : op.dst = some x := by
      unfold slotW at hf
      rw [hop] at hf
      simp only at hf
      split at hf
      · rename_i hc; exact hc.1
      · exact absurd rfl hf
    rcases Nat.lt_trichotomy p k with hlt | he | hgt
    · have : L p = true := by
        rcases reg_apart h.reg hlt hop ho with h1 | h1
        · exact hpast p h1
        · exact absurd hx ((Oper.apart_spec h1).1 x hdst)
      simp [this, hlt]
    · subst he; simp [hLk]
    · have : L p = false := by
        cases hLp : L p with
        | false => rfl
        | true =>
          rcases reg_apart h.reg hgt ho hop with h1 | h1
          · rw [hdown p hp hLp k h1] at hLk; cases hLk
          · exact absurd hx ((Oper.apart_spec h1).2.2 x hdst)
      rw [this]; simp; omega)
  rw [e, lastOf_cut (k := k) (by omega) (fun p h1 _ => by simp; omega)]
  have e2 : lastOf (slotW s.nt ops D x) (fun p => decide (p < k)) k = lastOf (slotW s.nt ops D x) (fun _ => true) k := lastOf_congr (fun p hp _ => by simp [hp])
  rw [e2]
  all_goals rfl
theorem DAll.blocks (h : DAll P nB callf ops s D) {L : Nat → Bool} (hdown : ∀ k, k < ops.size → L k = true → ∀ j, (maskOf ops k).testBit j = true → L j = true) {k : Nat} (hk : k < ops.size) (hLk : L k = false) (hpast : ∀ j, (maskOf ops k).testBit j = true → L j = true) {i : Nat} (hf : footHas (D.ft k) i) (hs : ((Hof ops s D k).get i).isSome = true) :
    hL ops s D L i = (Hof ops s D k).get i := by
  rw [h.hof (by omega) i]
  unfold hL
  have hml : ∀ p, (maskOf ops k).testBit p = true → p < k := mask_lt (reg_edges h.reg) k
  have e : lastOf (fun p => dget (D.d p) i) L ops.size = lastOf (fun p => dget (D.d p) i) (fun p => (maskOf ops k).testBit p) ops.size := lastOf_congr (fun p hp hne => by
    have hsome : (dget (D.d p) i).isSome = true := by cases hx : dget (D.d p) i <;> simp_all
    cases hm : (maskOf ops k).testBit p with
    | true => exact hpast p hm
    | false =>
      cases hLp : L p with
      | false => rfl
      | true =>
        exfalso
        rcases h.dmem hp hsome with ⟨h1, _, _⟩ | h1
        · rcases Nat.lt_trichotomy p k with hlt | he | hgt
          · exact (h.free hlt hk hm).1 i (mem_oldW.2 ⟨h1, hsome⟩) hf
          · subst he; rw [hLk] at hLp; cases hLp
          · have hm2 : (maskOf ops p).testBit k = false := by
              cases hq : (maskOf ops p).testBit k with
              | false => rfl
              | true => rw [hdown p hp hLp k hq] at hLk; cases hLk
            exact (h.free hgt hp hm2).2 i (mem_oldW.2 ⟨h1, hsome⟩) hf
        · have := h.seen hp h1 k hk hs
          rw [hm] at this; cases this)
  rw [e, lastOf_cut (k := k) (by omega) (fun p h1 _ => by
    cases hq : (maskOf ops k).testBit p with
    | false => rfl
    | true => have := hml p hq; omega)]
end
end Go.Proofs.YtjpfhhndjpdmoaaGreatDoor
