/- Part of the proof: EvDa, EvDb, EvDc. No conditions of its own. -/
import Derived.Below
import Derived.KernelRfl
import Derived.Laws.BytesArg
import Derived.Laws.CopyRow
import Derived.Laws.NewFold
import Derived.Laws.Strings
import Derived.Lib.ConvBytes
import Derived.Orders
import Derived.RowKit3
import Derived.Test.YtjpfhhndjpdmoaaGreatDoorK08
import Derived.Test.YtjpfhhndjpdmoaaGreatDoorK01
import Derived.Test.YtjpfhhndjpdmoaaGreatDoorK02
namespace Go.Proofs.YtjpfhhndjpdmoaaGreatDoor
open Go.RowKit
set_option linter.unusedVariables false
set_option linter.unusedSectionVars false
set_option linter.unusedSimpArgs false

section
variable {P : Program} {GE : Env → Prop} [hGE : GEok P GE] {nB B : Nat} {w0 : World}
structure StO (P : Program) (GE : Env → Prop) (nB B : Nat) (w0 : World) (nt : Nat) (ν : Env) (h : Nat → Option Blk) (t : Nat → Option LV) (O : Nat → Prop) (a : Act) (w : World) : Prop where
  hr : ∀ i k, h i = some k → ∃ l, ν i = some l ∧ BlkR ν l k w.heap[l.addr]?
  low : ∀ i k l, nB ≤ i → h i = some k → ν i = some l → B ≤ l.addr
  inj : ∀ i j ki kj li lj, h i = some ki → h j = some kj → ν i = some li → ν j = some lj → li.addr = lj.addr → i = j
  ids : ∀ i k, h i = some k → O i
  glob : GE ν
  below : Below B w0 w
  tr : ∀ x l, t x = some l → VR ν l (a.tmps.getD x undef)
  sz : a.tmps.size = nt
  df : a.defers = []
structure FrgO (nB : Nat) (ν ν' : Env) (h h' : Nat → Option Blk) (O O' W W' : Nat → Prop) (w w' : World) : Prop where
  o : ∀ i, O i → O' i
  wr : ∀ i, W i → W' i
  ext : ∀ i, (O i ∨ ¬ O' i) → ν' i = ν i
  frame : ∀ a, a < w.heap.size → (∀ i l, W' i → O i → ν i = some l → l.addr ≠ a) → w'.heap[a]? = w.heap[a]?
  fresh : ∀ i l, ¬ O i → (W' i ∨ ∃ k, h' i = some k) → ν' i = some l → w.heap.size ≤ l.addr ∨ ∃ j lj, W' j ∧ O j ∧ ν j = some lj ∧ lj.addr = l.addr
  live : ∀ i k, h' i = some k → O i → ∃ k0, h i = some k0
  kept : ∀ i, O i → ¬ W' i → h' i = h i
  old : ∀ i, W' i → W i ∨ ¬ O i ∨ (nB ≤ i ∧ ∃ k, h i = some k)
  size : w.heap.size ≤ w'.heap.size
theorem FrgO.refl {ν : Env} {h : Nat → Option Blk} {O W : Nat → Prop} {w : World} (hw : ∀ i, W i → O i) (hids : ∀ i k, h i = some k → O i) : FrgO nB ν ν h h O O W W w w where
  o := fun _ h => h
  wr := fun _ h => h
  ext := fun _ _ => rfl
  frame := fun _ _ _ => rfl
  fresh := fun i l hi h => by
    rcases h with h' | ⟨k, hk⟩
    · exact absurd (hw i h') hi
    · exact absurd (hids i k hk) hi
  live := fun i k hk _ => ⟨k, hk⟩
  kept := fun _ _ _ => rfl
  old := fun i hi => .inl hi
  size := Nat.le_refl _
theorem FrgO.trans {ν ν1 ν2 : Env} {h h1 h2 : Nat → Option Blk} {O O1 O2 W W1 W2 : Nat → Prop} {w w1 w2 : World} (p : FrgO nB ν ν1 h h1 O O1 W W1 w w1) (k : FrgO nB ν1 ν2 h1 h2 O1 O2 W1 W2 w1 w2) : FrgO nB ν ν2 h h2 O O2 W W2 w w2 := by
  have alias1 : ∀ i l, W2 i → O1 i → ν1 i = some l → ¬ O i → w.heap.size ≤ l.addr ∨ ∃ j lj, W2 j ∧ O j ∧ ν j = some lj ∧ lj.addr = l.addr := by
    intro i l hi hi1 hl hin
    have hh : W1 i ∨ ∃ q, h1 i = some q := by
      rcases k.old i hi with h1 | h1 | h1
      · exact .inl h1
      · exact absurd hi1 h1
      · exact .inr h1.2
    rcases p.fresh i l hin hh hl with h2 | ⟨j, lj, h2, h3, h4, h5⟩
    · exact .inl h2
    · exact .inr ⟨j, lj, k.wr j h2, h3, h4, h5⟩
  refine ⟨fun i hi => k.o i (p.o i hi), fun i hi => k.wr i (p.wr i hi), fun i hi => ?_, fun a ha hno => ?_, fun i l hi hh hl => ?_, fun i q hq hi => ?_, fun i hi hw => ?_, fun i hi => ?_, Nat.le_trans p.size k.size⟩
  · rcases hi with hi | hi
    · rw [k.ext i (.inl (p.o i hi)), p.ext i (.inl hi)]
    · have h1 : ¬ O1 i := fun h => hi (k.o i h)
      rw [k.ext i (.inr hi), p.ext i (.inr h1)]
  · have e1 : w1.heap[a]? = w.heap[a]? := p.frame a ha (fun i l hi hin hl => hno i l (k.wr i hi) hin hl)
    rw [← e1]
    refine k.frame a (Nat.lt_of_lt_of_le ha p.size) (fun i l hi hin hl => ?_)
    by_cases hlt : O i
    · rw [p.ext i (.inl hlt)] at hl
      exact hno i l hi hlt hl
    · rcases alias1 i l hi hin hl hlt with h1 | ⟨j, lj, h1, h2, h3, h4⟩
      · omega
      · have := hno j lj h1 h2 h3; omega
  · by_cases hlt : O1 i
    · rw [k.ext i (.inl hlt)] at hl
      rcases hh with hh | ⟨q, hq⟩
      · exact alias1 i l hh hlt hl hi
      · obtain ⟨q0, hq0⟩ := k.live i q hq hlt
        rcases p.fresh i l hi (.inr ⟨q0, hq0⟩) hl with h2 | ⟨j, lj, h2, h3, h4, h5⟩
        · exact .inl h2
        · exact .inr ⟨j, lj, k.wr j h2, h3, h4, h5⟩
    · rcases k.fresh i l hlt hh hl with h1 | ⟨j, lj, h1, h2, h3, h4⟩
      · exact .inl (Nat.le_trans p.size h1)
      · by_cases hjn : O j
        · rw [p.ext j (.inl hjn)] at h3
          exact .inr ⟨j, lj, h1, hjn, h3, h4⟩
        · rcases alias1 j lj h1 h2 h3 hjn with h5 | ⟨j', lj', h5, h6, h7, h8⟩
          · exact .inl (by omega)
          · exact .inr ⟨j', lj', h5, h6, h7, by omega⟩
  · obtain ⟨q1, hq1⟩ := k.live i q hq (p.o i hi)
    exact p.live i q1 hq1 hi
  · rw [k.kept i (p.o i hi) hw, p.kept i hi (fun hm => hw (k.wr i hm))]
  · rcases k.old i hi with h1 | h1 | ⟨h1, q, hq⟩
    · exact p.old i h1
    · exact .inr (.inl fun h => h1 (p.o i h))
    · by_cases hin : O i
      · exact .inr (.inr ⟨h1, p.live i q hq hin⟩)
      · exact .inr (.inl hin)
def hPut (h : Nat → Option Blk) (d : Dl) : Nat → Option Blk := fun i => match dget d i with | some x => x | none => h i
def tPut (nt : Nat) (t : Nat → Option LV) (dst : Option Tmp) (v : LV) : Nat → Option LV := fun x => match dst with | some d => if d < nt ∧ x = d then some v else t x | none => t x
def oPut (O : Nat → Prop) (a b : Nat) : Nat → Prop := fun i => O i ∨ (a ≤ i ∧ i < b)
def wPut (W : Nat → Prop) (nx : Nat) (d : Dl) : Nat → Prop := fun i => W i ∨ (i < nx ∧ (dget d i).isSome = true)
theorem StO.step {ν ν' : Env} {nt : Nat} {h : Nat → Option Blk} {t : Nat → Option LV} {O W : Nat → Prop} {a : Act} {w w' : World} {Hk : Hp} {nx : Nat} {out : Out} {v' : Value} {dst : Option Tmp} (hs : StO P GE nB B w0 nt ν h t O a w) (hWO : ∀ i, W i → O i) (hB : B ≤ w0.heap.size) (hν : ∀ i, nx ≤ i → i < out.nx → ν i = none ∧ ¬ O i) (hnx : nx ≤ out.nx)
    (hp : OpPost nB B w0 ν ν' Hk nx out w w' v') (hold' : ∀ i, i < nx → (dget out.d i).isSome = true → O i ∧ (h i).isSome = true) :
    StO P GE nB B w0 nt ν' (hPut h out.d) (tPut nt t dst out.v) (oPut O nx out.nx) (a.put dst v') w' ∧ FrgO nB ν ν' h (hPut h out.d) O (oPut O nx out.nx) W (wPut W nx out.d) w w' := by
  have hext := post_ext hp (fun i h1 h2 => (hν i h1 h2).1)
  have hnew : ∀ i, (dget out.d i).isSome = true → i < nx ∨ (nx ≤ i ∧ i < out.nx) := fun i hd => by
    by_cases hi : i < nx
    · exact .inl hi
    · exact .inr ⟨by omega, hp.new i (by omega) hd⟩
  have hextO : ∀ i, O i → ν' i = ν i := fun i hO => hp.ext i (fun hh => (hν i hh.1 hh.2).2 hO)
  have hold : ∀ i k, h i = some k → dget out.d i = none → ∃ l, ν i = some l ∧ ν' i = some l ∧ w'.heap[l.addr]? = w.heap[l.addr]? ∧ BlkR ν l k w.heap[l.addr]? := by
    intro i k hk hd
    obtain ⟨l, hl, hb⟩ := hs.hr i k hk
    refine ⟨l, hl, hext i l hl, ?_, hb⟩
    refine hp.frame _ hb.heap (fun j lj hj hdj hlj e => ?_)
    obtain ⟨kj, hkj⟩ := Option.isSome_iff_exists.1 (hold' j hj hdj).2
    have := hs.inj j i kj k lj l hkj hk hlj hl e
    subst this
    rw [hd] at hdj; cases hdj
  have hcase : ∀ i k, hPut h out.d i = some k → (dget out.d i = some (some k)) ∨ (dget out.d i = none ∧ h i = some k) := by
    intro i k hk
    unfold hPut at hk
    split at hk
    · rename_i x hx; rw [hx, hk]; exact .inl rfl
    · rename_i hx; exact .inr ⟨hx, hk⟩
  have hfr : ∀ i k l, dget out.d i = some (some k) → ν' i = some l → nx ≤ i → w.heap.size ≤ l.addr ∨ ∃ j lj, j < nx ∧ dget out.d j = some none ∧ ν j = some lj ∧ lj.addr = l.addr := fun i k l h1 h2 h3 => hp.fresh i k l h3 h1 h2
  refine ⟨⟨?_, ?_, ?_, ?_, ?_, hp.below, ?_, ?_, ?_⟩, ⟨fun i hi => .inl hi, fun i hi => .inl hi, ?_, ?_, ?_, ?_, ?_, ?_, hp.size⟩⟩
  · intro i k hk
    rcases hcase i k hk with h1 | ⟨h1, h2⟩
    · exact hp.blk i k h1
    · obtain ⟨l, _, hl', he, hb⟩ := hold i k h2 h1
      exact ⟨l, hl', by rw [he]; exact hb.ext hext⟩
  · intro i k l hi hk hl
    rcases hcase i k hk with h1 | ⟨h1, h2⟩
    · by_cases hin : nx ≤ i
      · rcases hfr i k l h1 hl hin with h3 | ⟨j, lj, h3, h4, h5, h6⟩
        · have := hp.below.size; have := hs.below.size; omega
        · obtain ⟨hjB, _⟩ := hp.old j h3 (by rw [h4]; rfl)
          obtain ⟨kj, hkj⟩ := Option.isSome_iff_exists.1 (hold' j h3 (by rw [h4]; rfl)).2
          have := hs.low j kj lj hjB hkj h5
          omega
      · obtain ⟨hO, hj2⟩ := hold' i (by omega) (by rw [h1]; rfl)
        obtain ⟨kj, hkj⟩ := Option.isSome_iff_exists.1 hj2
        rw [hextO i hO] at hl
        exact hs.low i kj l hi hkj hl
    · obtain ⟨l', hl1, hl2, _, _⟩ := hold i k h2 h1
      rw [hl2] at hl; cases hl
      exact hs.low i k _ hi h2 hl1
  · have key : ∀ i ki li, hPut h out.d i = some ki → ν' i = some li → (nx ≤ i ∧ dget out.d i = some (some ki)) ∨ ∃ q, h i = some q ∧ ν i = some li ∧ ∀ x, dget out.d i = some x → x ≠ none := by
      intro i ki li hk hl
      rcases hcase i ki hk with h1 | ⟨h1, h2⟩
      · by_cases hin : nx ≤ i
        · exact .inl ⟨hin, h1⟩
        · right
          obtain ⟨hO, h3⟩ := hold' i (by omega) (by rw [h1]; rfl)
          obtain ⟨q, hq⟩ := Option.isSome_iff_exists.1 h3
          rw [hextO i hO] at hl
          exact ⟨q, hq, hl, fun x hx => by rw [h1] at hx; cases hx; simp⟩
      · right
        rw [hextO i (hs.ids i ki h2)] at hl
        exact ⟨ki, h2, hl, fun x hx => by rw [h1] at hx; cases hx⟩
    have mix : ∀ i j ki li lj, nx ≤ i → dget out.d i = some (some ki) → ν' i = some li → (∃ q, h j = some q ∧ ν j = some lj ∧ ∀ x, dget out.d j = some x → x ≠ none) → li.addr = lj.addr → False := by
      intro i j ki li lj hi h1 hl ⟨q, hq, hlj, hx⟩ he
      rcases hfr i ki li h1 hl hi with h3 | ⟨j', lj', h3, h4, h5, h6⟩
      · obtain ⟨l', hl', hb⟩ := hs.hr j q hq
        rw [hlj] at hl'; cases hl'
        have := hb.heap
        omega
      · obtain ⟨q', hq'⟩ := Option.isSome_iff_exists.1 (hold' j' h3 (by rw [h4]; rfl)).2
        have := hs.inj j' j q' q lj' lj hq' hq h5 hlj (by omega)
        subst this
        exact hx none h4 rfl
    intro i j ki kj li lj hi hj hli hlj he
    rcases key i ki li hi hli with h1 | h1
    · rcases key j kj lj hj hlj with h2 | h2
      · exact hp.inj i j ki kj li lj h1.1 h2.1 h1.2 h2.2 hli hlj he
      · exact (mix i j ki li lj h1.1 h1.2 hli h2 he).elim
    · rcases key j kj lj hj hlj with h2 | h2
      · exact (mix j i kj lj li h2.1 h2.2 hlj h1 he.symm).elim
      · obtain ⟨q, hq, hl1, _⟩ := h1
        obtain ⟨q', hq', hl2, _⟩ := h2
        exact hs.inj i j q q' li lj hq hq' hl1 hl2 he
  · intro i k hk
    rcases hcase i k hk with h1 | ⟨h1, h2⟩
    · rcases hnew i (by rw [h1]; rfl) with h3 | h3
      · exact .inl (hold' i h3 (by rw [h1]; rfl)).1
      · exact .inr h3
    · exact .inl (hs.ids i k h2)
  · exact GEok.mono (P := P) ν ν' hext hs.glob
  · intro x l hx
    cases dst with
    | none => exact VR.ext hext _ _ (hs.tr x l hx)
    | some d =>
      simp only [tPut] at hx
      split at hx
      · rename_i hc
        obtain ⟨hc1, rfl⟩ := hc
        cases hx
        have hxs : x < a.tmps.size := by rw [hs.sz]; exact hc1
        simpa [Act.put, hxs] using hp.val
      · rename_i hc
        have h1 := VR.ext hext _ _ (hs.tr x l hx)
        simp only [Act.put, Array.getD_eq_getD_getElem?] at h1 ⊢
        by_cases hxd : x = d
        · subst hxd
          rw [show a.tmps.setIfInBounds x v' = a.tmps by
            have : ¬ x < a.tmps.size := by rw [hs.sz]; exact fun hh => hc ⟨hh, rfl⟩
            simp [Array.setIfInBounds, this]]
          exact h1
        · rwa [Array.getElem?_setIfInBounds_ne (Ne.symm hxd)]
  · cases dst <;> simp [Act.put, hs.sz]
  · cases dst <;> simp [Act.put, hs.df]
  · intro i hi
    rcases hi with hi | hi
    · exact hextO i hi
    · exact hp.ext i (fun hh => hi (.inr hh))
  · intro a ha hno
    exact hp.frame a ha (fun i l hi hd hl => hno i l (.inr ⟨hi, hd⟩) (hold' i hi hd).1 hl)
  · intro i l hi hh hl
    rcases hh with (hh | hh) | ⟨k, hk⟩
    · exact absurd (hWO i hh) hi
    · exact absurd (hold' i hh.1 hh.2).1 hi
    · rcases hcase i k hk with h1 | ⟨h1, h2⟩
      · rcases hnew i (by rw [h1]; rfl) with h3 | h3
        · exact absurd (hold' i h3 (by rw [h1]; rfl)).1 hi
        · rcases hfr i k l h1 hl h3.1 with h4 | ⟨j, lj, h4, h5, h6, h7⟩
          · exact .inl h4
          · exact .inr ⟨j, lj, .inr ⟨h4, by rw [h5]; rfl⟩, (hold' j h4 (by rw [h5]; rfl)).1, h6, h7⟩
      · exact absurd (hs.ids i k h2) hi
  · intro i k hk hi
    rcases hcase i k hk with h1 | ⟨h1, h2⟩
    · rcases hnew i (by rw [h1]; rfl) with h3 | h3
      · exact Option.isSome_iff_exists.1 (hold' i h3 (by rw [h1]; rfl)).2
      · exact absurd hi (hν i h3.1 h3.2).2
    · exact ⟨k, h2⟩
  · intro i hi hw
    unfold hPut
    have : dget out.d i = none := by
      cases hd : dget out.d i with
      | none => rfl
      | some x =>
        rcases hnew i (by rw [hd]; rfl) with h3 | h3
        · exact absurd (.inr ⟨h3, by rw [hd]; rfl⟩) hw
        · exact absurd hi (hν i h3.1 h3.2).2
    rw [this]
  · intro i hi
    rcases hi with hi | hi
    · exact .inl hi
    · exact .inr (.inr ⟨(hp.old i hi.1 hi.2).1, Option.isSome_iff_exists.1 (hold' i hi.1 hi.2).2⟩)
end
end Go.Proofs.YtjpfhhndjpdmoaaGreatDoor

namespace Go.Proofs.YtjpfhhndjpdmoaaGreatDoor
open Go.RowKit
set_option linter.unusedVariables false
set_option linter.unusedSectionVars false
set_option linter.unusedSimpArgs false

def lastOf {α : Type} (f : Nat → Option α) (D : Nat → Bool) : Nat → Option α
  | 0 => none
  | k + 1 => if D k = true then (match f k with | some x => some x | none => lastOf f D k) else lastOf f D k
theorem lastOf_congr {α : Type} {f : Nat → Option α} {D D' : Nat → Bool} : ∀ {n : Nat}, (∀ p, p < n → f p ≠ none → D p = D' p) → lastOf f D n = lastOf f D' n
  | 0, _ => rfl
  | n + 1, h => by
    have ih := lastOf_congr (fun p hp => h p (by omega)) (n := n)
    simp only [lastOf, ih]
    cases hf : f n with
    | none => simp
    | some x => rw [h n (by omega) (by rw [hf]; simp)]
theorem lastOf_some {α : Type} {f : Nat → Option α} {D : Nat → Bool} : ∀ {n : Nat} {x : α}, lastOf f D n = some x → ∃ p, p < n ∧ D p = true ∧ f p = some x
  | 0, x, h => by cases h
  | n + 1, x, h => by
    simp only [lastOf] at h
    split at h
    · rename_i hD
      split at h
      · rename_i y hy; cases h; exact ⟨n, by omega, hD, hy⟩
      · obtain ⟨p, h1, h2⟩ := lastOf_some h; exact ⟨p, by omega, h2⟩
    · obtain ⟨p, h1, h2⟩ := lastOf_some h; exact ⟨p, by omega, h2⟩
theorem lastOf_set {α : Type} {f : Nat → Option α} {D : Nat → Bool} {k : Nat} : ∀ {n : Nat}, k < n → D k = false → (∀ j, k < j → j < n → D j = true → f k ≠ none → f j = none) →
    lastOf f (fun p => p == k || D p) n = match f k with | some x => some x | none => lastOf f D n
  | 0, h, _, _ => by omega
  | n + 1, h, hk, hno => by
    simp only [lastOf]
    by_cases hn : n = k
    · subst hn
      have e : lastOf f (fun p => p == n || D p) n = lastOf f D n := lastOf_congr (fun p hp _ => by
        have : (p == n) = false := by simp; omega
        simp [this])
      simp [hk, e]
    · have hkn : k < n := by omega
      have ih := lastOf_set hkn hk (fun j h1 h2 => hno j h1 (by omega)) (n := n)
      have : (n == k) = false := by simpa using hn
      simp only [this, Bool.false_or]
      by_cases hD : D n = true
      · simp only [hD, if_true]
        cases hfk : f k with
        | some x =>
          have := hno n hkn (by omega) hD (by rw [hfk]; simp)
          simp only [this, ih, hfk]
        | none =>
          cases hfn : f n with
          | some y => rfl
          | none => simp only [ih, hfk]
      · simp only [hD]
        exact ih
theorem mem_pastOf {ms : List Nat} {j : Nat} : ∀ {es : List Edge}, (pastOf ms es).testBit j = true ↔ ∃ e ∈ es, Region.binds .any e = true ∧ (e.on = j ∨ (ms.getD e.on 0).testBit j = true)
  | [] => by simp [pastOf]
  | e :: es => by
    have ih := mem_pastOf (ms := ms) (j := j) (es := es)
    simp only [pastOf]
    split
    · rename_i hb
      rw [Nat.testBit_or, Nat.testBit_or, Bool.or_eq_true, Bool.or_eq_true, ih, Nat.testBit_two_pow]
      constructor
      · rintro ((h | h) | ⟨e', h1, h2, h3⟩)
        · exact ⟨e, by simp, hb, .inl (by simpa using h)⟩
        · exact ⟨e, by simp, hb, .inr h⟩
        · exact ⟨e', by simp [h1], h2, h3⟩
      · rintro ⟨e', h1, h2, h3⟩
        rcases List.mem_cons.1 h1 with rfl | h1
        · rcases h3 with h3 | h3
          · exact .inl (.inl (by simpa using h3))
          · exact .inl (.inr h3)
        · exact .inr ⟨e', h1, h2, h3⟩
    · rename_i hb
      rw [ih]
      constructor
      · rintro ⟨e', h1, h2⟩; exact ⟨e', by simp [h1], h2⟩
      · rintro ⟨e', h1, h2, h3⟩
        rcases List.mem_cons.1 h1 with rfl | h1
        · exact absurd h2 hb
        · exact ⟨e', h1, h2, h3⟩
theorem pastsL_len : ∀ {l : List Oper} {ms : List Nat}, (pastsL l ms).length = ms.length + l.length
  | [], ms => rfl
  | o :: l, ms => by simp only [pastsL]; rw [pastsL_len]; simp; omega
theorem pastsL_old : ∀ {l : List Oper} {ms : List Nat} {i : Nat}, i < ms.length → (pastsL l ms)[i]? = ms[i]?
  | [], ms, i, _ => rfl
  | o :: l, ms, i, h => by
    simp only [pastsL]
    rw [pastsL_old (by simp; omega), List.getElem?_append_left h]
theorem pastsL_new : ∀ {l : List Oper} {ms : List Nat} {i : Nat} {o : Oper}, l[i]? = some o → (pastsL l ms)[ms.length + i]? = some (pastOf ((pastsL l ms).take (ms.length + i)) o.after.toList)
  | [], ms, i, o, h => by simp at h
  | o' :: l, ms, 0, o, h => by
    simp at h; subst h
    simp only [pastsL, Nat.add_zero]
    rw [pastsL_old (by simp)]
    have : (pastsL l (ms ++ [pastOf ms o'.after.toList])).take ms.length = ms := by
      apply List.ext_getElem?
      intro j
      by_cases hj : j < ms.length
      · rw [List.getElem?_take_of_lt hj, pastsL_old (by simp; omega), List.getElem?_append_left hj]
      · rw [List.getElem?_eq_none (by simp; omega), List.getElem?_eq_none (by omega)]
    rw [this]
    simp
  | o' :: l, ms, i + 1, o, h => by
    simp only [pastsL]
    have := pastsL_new (l := l) (ms := ms ++ [pastOf ms o'.after.toList]) (i := i) (by simpa using h)
    simpa [Nat.add_assoc, Nat.add_comm 1 i] using this
def maskOf (ops : Array Oper) (k : Nat) : Nat := (pastsL ops.toList []).getD k 0
section
variable {ops : Array Oper}
theorem edges_lt : ∀ {l : List Oper} {k i : Nat} {o : Oper}, edgesB k l = true → l[i]? = some o → ∀ e ∈ o.after.toList, Region.binds .any e = true → e.on < k + i
  | [], k, i, o, _, h, _, _, _ => by simp at h
  | o' :: l, k, 0, o, hE, h, e, he, hb => by
    simp at h; subst h
    simp only [edgesB, Bool.and_eq_true, List.all_eq_true] at hE
    have := hE.1 e he
    simp [hb] at this
    omega
  | o' :: l, k, i + 1, o, hE, h, e, he, hb => by
    simp only [edgesB, Bool.and_eq_true] at hE
    have := edges_lt hE.2 (by simpa using h) e he hb
    omega
theorem mask_iff (hE : edgesB 0 ops.toList = true) {k j : Nat} {o : Oper} (hk : ops[k]? = some o) : (maskOf ops k).testBit j = true ↔ ∃ e ∈ o.after.toList, Region.binds .any e = true ∧ (e.on = j ∨ (maskOf ops e.on).testBit j = true) := by
  have hk' : ops.toList[k]? = some o := by simpa using hk
  have h1 := pastsL_new (ms := []) hk'
  simp only [List.length_nil, Nat.zero_add] at h1
  unfold maskOf
  rw [List.getD_eq_getElem?_getD, h1, Option.getD_some, mem_pastOf]
  constructor
  · rintro ⟨e, h2, h3, h4⟩
    have hlt := edges_lt hE hk' e h2 h3
    refine ⟨e, h2, h3, h4.imp id (fun h => ?_)⟩
    rw [List.getD_eq_getElem?_getD, List.getElem?_take_of_lt (by omega), ← List.getD_eq_getElem?_getD] at h
    exact h
  · rintro ⟨e, h2, h3, h4⟩
    have hlt := edges_lt hE hk' e h2 h3
    refine ⟨e, h2, h3, h4.imp id (fun h => ?_)⟩
    rw [List.getD_eq_getElem?_getD, List.getElem?_take_of_lt (by omega), ← List.getD_eq_getElem?_getD]
    exact h
theorem mask_out {k j : Nat} (hk : ops.size ≤ k) : (maskOf ops k).testBit j = false := by
  unfold maskOf
  rw [List.getD_eq_getElem?_getD, List.getElem?_eq_none (by rw [pastsL_len]; simpa using hk)]
  simp
theorem oper_of {k : Nat} (hk : k < ops.size) : ∃ o, ops[k]? = some o := ⟨_, Array.getElem?_eq_getElem hk⟩
theorem mask_lt (hE : edgesB 0 ops.toList = true) : ∀ (k j : Nat), (maskOf ops k).testBit j = true → j < k := by
  intro k
  induction k using Nat.strongRecOn with
  | _ k ih =>
    intro j h
    by_cases hk : k < ops.size
    · obtain ⟨o, ho⟩ := oper_of hk
      obtain ⟨e, h2, h3, h4⟩ := (mask_iff hE ho).1 h
      have hlt := edges_lt hE (show ops.toList[k]? = some o by simpa using ho) e h2 h3
      rcases h4 with rfl | h4
      · omega
      · have := ih e.on (by omega) j h4; omega
    · rw [mask_out (by omega)] at h; cases h
theorem mask_trans (hE : edgesB 0 ops.toList = true) : ∀ (k p j : Nat), (maskOf ops k).testBit p = true → (maskOf ops p).testBit j = true → (maskOf ops k).testBit j = true := by
  intro k
  induction k using Nat.strongRecOn with
  | _ k ih =>
    intro p j h1 h2
    by_cases hk : k < ops.size
    · obtain ⟨o, ho⟩ := oper_of hk
      obtain ⟨e, h3, h4, h5⟩ := (mask_iff hE ho).1 h1
      have hlt := edges_lt hE (show ops.toList[k]? = some o by simpa using ho) e h3 h4
      refine (mask_iff hE ho).2 ⟨e, h3, h4, .inr ?_⟩
      rcases h5 with h5 | h5
      · rw [h5]; exact h2
      · exact ih e.on (by omega) p j h5 h2
    · rw [mask_out (by omega)] at h1; cases h1
theorem pair_apart {x : Oper} {jx : Nat} : ∀ {l : List Oper} {k : Nat} {ms : List Nat}, pairB ops x jx k l ms = true → ∀ (i : Nat) (y : Oper), l[i]? = some y → ∃ m, ms[i]? = some m ∧ (m.testBit jx = true ∨ x.apart ops y = true)
  | [], k, ms, _, i, y, h => by simp at h
  | z :: l, k, [], h, i, y, hy => by simp [pairB] at h
  | z :: l, k, m :: ms, h, i, y, hy => by
    simp only [pairB, Bool.and_eq_true, Bool.or_eq_true] at h
    cases i with
    | zero => simp at hy; subst hy; exact ⟨m, rfl, h.1⟩
    | succ i => simpa using pair_apart h.2 i y (by simpa using hy)
theorem pairs_apart : ∀ {l : List Oper} {k : Nat} {ms : List Nat}, pairsB ops k l ms = true → ∀ (i j : Nat) (x y : Oper), i < j → l[i]? = some x → l[j]? = some y → ∃ m, ms[j]? = some m ∧ (m.testBit (k + i) = true ∨ x.apart ops y = true)
  | [], k, ms, _, i, j, x, y, _, h, _ => by simp at h
  | z :: l, k, [], h, i, j, x, y, _, _, _ => by simp [pairsB] at h
  | z :: l, k, m :: ms, h, i, j, x, y, hij, hx, hy => by
    simp only [pairsB, Bool.and_eq_true] at h
    cases j with
    | zero => omega
    | succ j =>
      cases i with
      | zero =>
        simp at hx; subst hx
        simpa using pair_apart h.1 j y (by simpa using hy)
      | succ i =>
        have := pairs_apart h.2 i j x y (by omega) (by simpa using hx) (by simpa using hy)
        simpa [Nat.add_assoc, Nat.add_comm 1 i] using this
theorem reg_apart (h : regB ops = true) {i j : Nat} {x y : Oper} (hij : i < j) (hx : ops[i]? = some x) (hy : ops[j]? = some y) : (maskOf ops j).testBit i = true ∨ x.apart ops y = true := by
  simp only [regB, Bool.and_eq_true] at h
  obtain ⟨m, h1, h2⟩ := pairs_apart h.2 i j x y hij (by simpa using hx) (by simpa using hy)
  unfold maskOf
  rw [List.getD_eq_getElem?_getD, h1, Option.getD_some]
  simpa using h2
theorem reg_edges (h : regB ops = true) : edgesB 0 ops.toList = true := by
  simp only [regB, Bool.and_eq_true] at h
  exact h.1
end
end Go.Proofs.YtjpfhhndjpdmoaaGreatDoor

namespace Go.Proofs.YtjpfhhndjpdmoaaGreatDoor
open Go.RowKit
set_option linter.unusedVariables false
set_option linter.unusedSectionVars false
set_option linter.unusedSimpArgs false

structure DD where
  v : Nat → LV
  d : Nat → Dl
  nx : Nat → Nat
  ft : Nat → Option (List Nat)
  T : Nat → Tr LV
  wb : Nat → Bool
  R : Nat → List Rc
section
variable {P : Program} {GE : Env → Prop} [hGE : GEok P GE] {nB B : Nat} {w0 : World} {callf : FuncId → List LV → Hp → Nat → Option Out} {nt : Nat} {ops : Array Oper} {H : Hp}
structure DD.At (P : Program) (nB : Nat) (callf : FuncId → List LV → Hp → Nat → Option Out) (nt : Nat) (ops : Array Oper) (H : Hp) (D : DD) (j : Nat) (o : Oper) (m : Nat) : Prop where
  le : D.nx j ≤ D.nx (j + 1)
  T : D.T (j + 1) = putT nt (D.T j) o.dst (D.v j)
  R : D.R (j + 1) = ⟨j, D.d j, D.nx j, D.ft j⟩ :: D.R j
  want : wantL ops (D.T j) o = some (D.wb j)
  yes : D.wb j = true → evOp P nB callf (D.T j) (overH H m (D.R j)) (D.nx j) o = some ⟨D.v j, D.d j, D.nx (j + 1), D.ft j⟩ ∧ freeB m (oldW (D.nx j) (D.d j)) (D.ft j) (D.R j) = true ∧ dOk (overH H m (D.R j)) (D.nx j) (D.nx (j + 1)) (D.ft j) (D.d j) = true
  no : D.wb j = false → D.v j = .tup [] ∧ D.d j = [] ∧ D.nx (j + 1) = D.nx j ∧ D.ft j = some []
theorem draw_data : ∀ {l : List Oper} {ms : List Nat} {k : Nat} {T T' : Tr LV} {nx nx' : Nat} {rs rs' : List Rc}, evDraw P nB callf nt ops H l ms k T nx rs = some (T', nx', rs') →
    ∃ D : DD, D.T k = T ∧ D.nx k = nx ∧ D.R k = rs ∧ D.T (k + l.length) = T' ∧ D.nx (k + l.length) = nx' ∧ D.R (k + l.length) = rs' ∧ ∀ (i : Nat) (o : Oper), l[i]? = some o → ∃ m, ms[i]? = some m ∧ D.At P nB callf nt ops H (k + i) o m
  | [], ms, k, T, T', nx, nx', rs, rs', h => by
    simp only [evDraw, Option.some.injEq, Prod.mk.injEq] at h
    obtain ⟨rfl, rfl, rfl⟩ := h
    exact ⟨⟨fun _ => .emp, fun _ => [], fun _ => nx, fun _ => none, fun _ => T, fun _ => true, fun _ => rs⟩, rfl, rfl, rfl, rfl, rfl, rfl, fun i o h => by simp at h⟩
  | o :: l, [], k, T, T', nx, nx', rs, rs', h => by simp [evDraw] at h
  | o :: l, m :: ms, k, T, T', nx, nx', rs, rs', h => by
    have join : ∀ (v : LV) (d : Dl) (nx1 : Nat) (ft : Option (List Nat)) (b : Bool), nx ≤ nx1 → wantL ops T o = some b →
        (b = true → evOp P nB callf T (overH H m rs) nx o = some ⟨v, d, nx1, ft⟩ ∧ freeB m (oldW nx d) ft rs = true ∧ dOk (overH H m rs) nx nx1 ft d = true) → (b = false → v = .tup [] ∧ d = [] ∧ nx1 = nx ∧ ft = some []) →
        evDraw P nB callf nt ops H l ms (k + 1) (putT nt T o.dst v) nx1 (⟨k, d, nx, ft⟩ :: rs) = some (T', nx', rs') →
        ∃ D : DD, D.T k = T ∧ D.nx k = nx ∧ D.R k = rs ∧ D.T (k + (o :: l).length) = T' ∧ D.nx (k + (o :: l).length) = nx' ∧ D.R (k + (o :: l).length) = rs' ∧ ∀ (i : Nat) (o' : Oper), (o :: l)[i]? = some o' → ∃ m', (m :: ms)[i]? = some m' ∧ D.At P nB callf nt ops H (k + i) o' m' := by
      intro v d nx1 ft b hle hw hy hn hr
      obtain ⟨D, h1, h2, h3, h4, h5, h6, h7⟩ := draw_data hr
      have ek : ∀ j, k + 1 + j ≠ k := fun j => by omega
      have ek1 : k + 1 ≠ k := by omega
      have ek2 : ∀ j, k + 1 + j + 1 ≠ k := fun j => by omega
      refine ⟨⟨fun j => if j = k then v else D.v j, fun j => if j = k then d else D.d j, fun j => if j = k then nx else D.nx j, fun j => if j = k then ft else D.ft j, fun j => if j = k then T else D.T j, fun j => if j = k then b else D.wb j, fun j => if j = k then rs else D.R j⟩, by simp, by simp, by simp, ?_, ?_, ?_, ?_⟩
      · simp only [List.length_cons]; rw [if_neg (by omega), show k + (l.length + 1) = k + 1 + l.length by omega]; exact h4
      · simp only [List.length_cons]; rw [if_neg (by omega), show k + (l.length + 1) = k + 1 + l.length by omega]; exact h5
      · simp only [List.length_cons]; rw [if_neg (by omega), show k + (l.length + 1) = k + 1 + l.length by omega]; exact h6
      · intro i o' hi
        cases i with
        | zero =>
          simp at hi; subst hi
          refine ⟨m, rfl, ?_⟩
          simp only [Nat.add_zero]
          constructor
          · simp only [if_true, if_neg ek1, h2]; exact hle
          · simp only [if_true, if_neg ek1, h1]
          · simp only [if_true, if_neg ek1, h3]
          · simp only [if_true]; exact hw
          · simp only [if_true, if_neg ek1, h2]; exact hy
          · simp only [if_true, if_neg ek1, h2]; exact hn
        | succ i =>
          obtain ⟨m', hm', hA⟩ := h7 i o' (by simpa using hi)
          refine ⟨m', by simpa using hm', ?_⟩
          rw [show k + (i + 1) = k + 1 + i by omega]
          constructor
          · simp only [if_neg (ek i), if_neg (ek2 i)]; exact hA.le
          · simp only [if_neg (ek i), if_neg (ek2 i)]; exact hA.T
          · simp only [if_neg (ek i), if_neg (ek2 i)]; exact hA.R
          · simp only [if_neg (ek i)]; exact hA.want
          · simp only [if_neg (ek i), if_neg (ek2 i)]; exact hA.yes
          · simp only [if_neg (ek i), if_neg (ek2 i)]; exact hA.no
    simp only [evDraw] at h
    split at h
    · rename_i hw
      split at h
      · rename_i out hout
        split at h
        · rename_i hc
          exact join out.v out.d out.nx out.foot true hc.1 hw (fun _ => ⟨hout, hc.2.1, hc.2.2⟩) (fun h => by cases h) h
        · cases h
      · cases h
    · rename_i hw
      exact join (.tup []) [] nx (some []) false (Nat.le_refl _) hw (fun h => by cases h) (fun _ => ⟨rfl, rfl, rfl, rfl⟩) h
    · cases h
theorem dOk_mem {Hk : Hp} {nx nx' : Nat} {ft : Option (List Nat)} : ∀ {d : Dl}, dOk Hk nx nx' ft d = true → ∀ i, (dget d i).isSome = true → (i < nx ∧ (Hk.get i).isSome = true ∧ footB ft i = true) ∨ (nx ≤ i ∧ i < nx')
  | [], _, i, h => by simp [dget] at h
  | (j, b) :: d, h, i, hi => by
    simp only [dOk, Bool.and_eq_true] at h
    simp only [dget] at hi
    cases hd : dget d i with
    | some x => exact dOk_mem h.2 i (by rw [hd]; rfl)
    | none =>
      rw [hd] at hi
      simp only at hi
      split at hi
      · rename_i e; subst e
        have h1 := h.1
        split at h1
        · rename_i hlt
          simp only [Bool.and_eq_true] at h1
          exact .inl ⟨hlt, h1⟩
        · rename_i hlt
          exact .inr ⟨by omega, by simpa using h1⟩
      · cases hi
theorem footB_iff {ft : Option (List Nat)} {i : Nat} : footB ft i = true ↔ footHas ft i := by
  cases ft with
  | none => simp [footB, footHas]
  | some F => simp [footB, footHas]
theorem apartB_no {W : List Nat} {ft : Option (List Nat)} (h : apartB W ft = true) {i : Nat} (hi : i ∈ W) : ¬ footHas ft i := by
  cases ft with
  | none =>
    simp only [apartB, List.isEmpty_iff] at h
    subst h; cases hi
  | some F =>
    simp only [apartB, List.all_eq_true] at h
    have := h i hi
    simpa [footHas] using this
theorem overH_get {D : DD} {m : Nat} : ∀ {k : Nat}, (∀ j, j < k → D.R (j + 1) = ⟨j, D.d j, D.nx j, D.ft j⟩ :: D.R j) → D.R 0 = [] → ∀ i, (overH H m (D.R k)).get i = match lastOf (fun p => dget (D.d p) i) (fun p => m.testBit p) k with | some x => x | none => H.get i
  | 0, _, h0, i => by rw [h0]; rfl
  | k + 1, hR, h0, i => by
    have ih := overH_get (D := D) (m := m) (k := k) (fun j hj => hR j (by omega)) h0 i
    rw [hR k (by omega)]
    simp only [overH, lastOf]
    split
    · rename_i hb
      rw [get_app]
      cases hd : dget (D.d k) i with
      | some x => rfl
      | none => exact ih
    · exact ih
theorem allH_get {D : DD} : ∀ {k : Nat}, (∀ j, j < k → D.R (j + 1) = ⟨j, D.d j, D.nx j, D.ft j⟩ :: D.R j) → D.R 0 = [] → ∀ i, (allH H (D.R k)).get i = match lastOf (fun p => dget (D.d p) i) (fun _ => true) k with | some x => x | none => H.get i
  | 0, _, h0, i => by rw [h0]; rfl
  | k + 1, hR, h0, i => by
    have ih := allH_get (D := D) (k := k) (fun j hj => hR j (by omega)) h0 i
    rw [hR k (by omega)]
    simp only [allH, lastOf, if_true]
    rw [get_app]
    cases hd : dget (D.d k) i with
    | some x => rfl
    | none => exact ih
theorem wrOf_mem {D : DD} : ∀ {k : Nat}, (∀ j, j < k → D.R (j + 1) = ⟨j, D.d j, D.nx j, D.ft j⟩ :: D.R j) → D.R 0 = [] → ∀ i, i ∈ wrOf (D.R k) ↔ ∃ j, j < k ∧ i ∈ oldW (D.nx j) (D.d j)
  | 0, _, h0, i => by rw [h0]; simp [wrOf]
  | k + 1, hR, h0, i => by
    have ih := wrOf_mem (D := D) (k := k) (fun j hj => hR j (by omega)) h0 i
    rw [hR k (by omega)]
    simp only [wrOf, List.mem_append, ih]
    constructor
    · rintro (h | ⟨j, h1, h2⟩)
      · exact ⟨k, by omega, h⟩
      · exact ⟨j, by omega, h2⟩
    · rintro ⟨j, h1, h2⟩
      by_cases hj : j = k
      · subst hj; exact .inl h2
      · exact .inr ⟨j, by omega, h2⟩
def slotW (nt : Nat) (ops : Array Oper) (D : DD) (x : Nat) (k : Nat) : Option LV :=
  match ops[k]? with
  | some o => if o.dst = some x ∧ x < nt then some (D.v k) else none
  | none => none
theorem T_get {D : DD} {T : Tr LV} : ∀ {k : Nat}, k ≤ ops.size → (∀ j o, j < k → ops[j]? = some o → D.T (j + 1) = putT nt (D.T j) o.dst (D.v j)) → D.T 0 = T → ∀ x, (D.T k).get x = match lastOf (slotW nt ops D x) (fun _ => true) k with | some y => some y | none => T.get x
  | 0, _, _, h0, x => by rw [h0]; rfl
  | k + 1, hk, hT, h0, x => by
    have ih := T_get (D := D) (k := k) (by omega) (fun j o hj => hT j o (by omega)) h0 x
    obtain ⟨o, ho⟩ := oper_of (ops := ops) (k := k) (by omega)
    rw [hT k o (by omega) ho]
    simp only [lastOf, if_true, slotW, ho]
    cases hd : o.dst with
    | none => simp [putT]; exact ih
    | some d =>
      simp only [putT]
      by_cases hdn : d < nt
      · rw [if_pos hdn, Tr.get_set]
        by_cases hx : x = d
        · subst hx; simp [hdn]
        · rw [if_neg hx, if_neg (by simp; intro e; exact absurd e.symm hx)]
          exact ih
      · rw [if_neg hdn, if_neg (by simp; intro e; rw [← e]; exact Nat.le_of_not_lt hdn)]
        exact ih
end
end Go.Proofs.YtjpfhhndjpdmoaaGreatDoor
