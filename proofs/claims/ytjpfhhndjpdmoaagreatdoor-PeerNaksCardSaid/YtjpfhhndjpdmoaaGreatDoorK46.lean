/- Part of the proof: EvLx, EvGh, NaksD. No conditions of its own. -/
import Derived.Below
import Derived.KernelRfl
import Derived.Laws.BytesArg
import Derived.Laws.CopyRow
import Derived.Laws.NewFold
import Derived.Laws.Strings
import Derived.Lib.ConvBytes
import Derived.Orders
import Derived.RowKit3
import Derived.Test.YtjpfhhndjpdmoaaGreatDoorK44
import Derived.ArgAppend
import Derived.BigQuiet
import Derived.Deep.CutBlock
import Derived.Deep.DeepCutAuto
import Derived.Deep.Draws
import Derived.Deep.LoopGhost
import Derived.Deep.Quiet
import Derived.Deep.QuietTactic
import Derived.Deep.RegionLaw
import Derived.Laws.AppendOwnNone
import Derived.Laws.Bits64b
import Derived.Laws.BitsAllLaws
import Derived.Laws.CopyOwn
import Derived.Lib.AppendStr
import Derived.Lib.Hide
import Derived.Lib.MakeNoZero
import Derived.LoopIn
import Derived.LoopNIn
import Derived.Maps.AppendAt
import Derived.OrdersIn
import Derived.OwnWalkIn
import Derived.RangeFuncBound
import Derived.RangeFuncCalls
import Derived.RangeFuncLeaves
import Derived.RangeFuncNested
import Derived.RangeFuncWrites
import Derived.Shelf.Abstract
import Derived.Shelf.Bits.Mul64
import Derived.Shelf.Spec.BitsCarry
import Derived.StillTail
import Derived.Stop.BytesEq
import Derived.TacticsIn
import Derived.TacticsInMore
import Derived.Test.YtjpfhhndjpdmoaaGreatDoorProg
import Derived.Test.YtjpfhhndjpdmoaaGreatDoorRows
import Derived.WalkKit
import Derived.Test.YtjpfhhndjpdmoaaGreatDoorK43
import Derived.Test.YtjpfhhndjpdmoaaGreatDoorK45
namespace Go.Proofs.YtjpfhhndjpdmoaaGreatDoor
open Go.RowKit
set_option linter.unusedVariables false
set_option linter.unusedSimpArgs false
set_option linter.unusedSectionVars false
set_option autoImplicit false

section
variable {P : Program} {GE : Env → Prop} [hGE : GEok P GE] {nB B : Nat} {w0 : World}
theorem stretchX {GE2 : Env → Prop} {callf : FuncId → List LV → Hp → Nat → Option Out} (hm : P.follows .mixedOrders = true) (hc : EvOk P GE nB B w0 callf) (hB : B ≤ w0.heap.size) {n : Nat} {c : Code} {s : St} {t : Pat} {σ : Sg} {x : Ex} (h : okS nB σ ⟨[], []⟩ t x s.nx (evCQ P nB callf n c s) = true)
    (hG : ∀ ν', GE ν' → insK nB t.nx σ = true → GE2 (envS nB σ ν')) {ν : Env} {a : Act} {w : World} (hs : StR P GE nB B w0 ν s a w) (hf : Free ν s.nx) : c.wp P (fun e a' w' => e = exR x ∧ ∃ ν1, StR P GE2 nB B w0 (envS nB σ ν1) (stOf s.nt t) a' w' ∧ Free (envS nB σ ν1) t.nx ∧ GE ν1) a w := by
  rw [evCQ_eq, evCK_eq] at h
  cases hev : evC P nB callf n c s with
  | none => rw [hev] at h; cases h
  | some r =>
    obtain ⟨y, s'⟩ := r
    rw [hev] at h
    simp only [okS, Bool.and_eq_true] at h
    obtain ⟨⟨h1, h2, h3⟩, h4⟩ := h
    obtain rfl := exB_ok h1
    refine wp_mono ((code_all hm hc hB n).1 c s s' y hev ν a w hs (fun i q1 q2 => hf i q1 (by have := Nat.le_of_ble_eq_true h2; omega))) ?_
    rintro e a' w' ⟨rfl, ν', g1, g2⟩
    have := ins_ok (KnOk.nil _ _ _) g1 (hG ν' g1.glob (insS_K h4)) h4
    rw [g2.nt] at this
    exact ⟨rfl, _, this.1, this.2, g1.glob⟩
theorem pre_okX {GE2 : Env → Prop} {callf : FuncId → List LV → Hp → Nat → Option Out} (hm : P.follows .mixedOrders = true) (hc : EvOk P GE nB B w0 callf) (hB : B ≤ w0.heap.size) {lf n : Nat} {c : Code} {s : St} {t : Pat} {σ : Sg} (h : okS nB σ ⟨[], []⟩ t .normal s.nx (evPre P nB callf lf n c s) = true)
    (hG : ∀ ν', GE ν' → insK nB t.nx σ = true → GE2 (envS nB σ ν')) {Q : Exit → Act → World → Prop} {ν : Env} {a : Act} {w : World} (hs : StR P GE nB B w0 ν s a w) (hf : Free ν s.nx)
    (hK : ∀ a' w' ν1, StR P GE2 nB B w0 (envS nB σ ν1) (stOf s.nt t) a' w' → Free (envS nB σ ν1) t.nx → GE ν1 → (Cd.drop n c).wp P Q a' w') : c.wp P Q a w := by
  cases hev : evPre P nB callf lf n c s with
  | none => rw [hev] at h; cases h
  | some r =>
    obtain ⟨y, s'⟩ := r
    rw [hev] at h
    simp only [okS, Bool.and_eq_true] at h
    obtain ⟨⟨h1, h2, h3⟩, h4⟩ := h
    have h2' := Nat.le_of_ble_eq_true h2
    refine (evPre_ok hm hc hB n c s s' y hev).2 hs (fun i q1 q2 => hf i q1 (by omega)) (fun a' w' ν' g1 g2 => ?_)
    have := ins_ok (KnOk.nil _ _ _) g1 (hG ν' g1.glob (insS_K h4)) h4
    rw [g2] at this
    exact hK a' w' _ this.1 this.2 g1.glob
theorem StR.env {GE2 : Env → Prop} {ν ν' : Env} {s : St} {a : Act} {w : World} (hs : StR P GE nB B w0 ν s a w) (he : Ext ν ν') (hi : ∀ i, i < s.nx → ν' i = ν i) (hG : GE2 ν') : StR P GE2 nB B w0 ν' s a w := by
  refine ⟨fun i k hf hk => ?_, fun i k l hf h1 hk hl => ?_, fun i j ki kj li lj h1 h2 h3 h4 h5 => ?_, hs.ids, hG, hs.below, fun t x hx => VR.ext he _ _ (hs.tr t x hx), hs.sz, hs.df, hs.wrs⟩
  · obtain ⟨l, q1, q2⟩ := hs.hr i k hf hk
    exact ⟨l, he i l q1, q2.ext he⟩
  · rw [hi i (hs.ids i k hk)] at hl
    exact hs.low i k l hf h1 hk hl
  · rw [hi i (hs.ids i ki h1)] at h3
    rw [hi j (hs.ids j kj h2)] at h4
    exact hs.inj i j ki kj li lj h1 h2 h3 h4 h5
theorem StR.keep {ν : Env} {s : St} {a : Act} {w : World} (hs : StR P GE nB B w0 ν s a w) {T : List (Nat × LV)} {H : Hp} (hT : ∀ t x, (t, x) ∈ T → s.T.get t = some x) (hH : ∀ i k, H.get i = some k → s.H.get i = some k) : StR P GE nB B w0 ν ⟨s.nt, trOf T, H, s.nx, []⟩ a w := by
  refine ⟨fun i k hf hk => hs.hr i k hf (hH i k hk), fun i k l hf h1 hk hl => hs.low i k l hf h1 (hH i k hk) hl, fun i j ki kj li lj h1 h2 h3 h4 h5 => hs.inj i j ki kj li lj (hH i ki h1) (hH j kj h2) h3 h4 h5, fun i k hk => hs.ids i k (hH i k hk), hs.glob, hs.below, fun t x hx => hs.tr t x (hT t x (trOf_get hx)), hs.sz, hs.df, fun i hi => by cases hi⟩
def eqT (T : Tr LV) : List (Nat × LV) → Bool
  | [] => true
  | (t, x) :: l => (match T.get t with | some y => eqLV x y | none => false) && eqT T l
def okT (T : List (Nat × LV)) (nx nt : Nat) : Option (Ex × St) → Bool
  | some (.normal, s) => (s.wr.isEmpty && Nat.beq s.nx nx) && (Nat.beq s.nt nt && eqT s.T T)
  | _ => false
/-! ### sums and comparisons -/
theorem opK_lss {op : Op} {ts : List Nat} (h : opK op = some (6, ts)) : ∃ t x y u, op = .binOp .lss t x y u ∧ ts = [] := by
  cases op with
  | binOp o t x y u =>
    cases o <;> simp only [opK, Option.some.injEq, Prod.mk.injEq, reduceCtorEq] at h
    all_goals first | (exact ⟨t, x, y, u, rfl, h.2.symm⟩) | (simp at h; done)
  | call c => simp only [opK] at h; split at h <;> first | (split at h <;> simp at h; done) | (simp at h; done)
  | slice t x lo hi mx => cases lo <;> cases hi <;> cases mx <;> simp [opK] at h
  | _ => simp [opK] at h
theorem opK_add {op : Op} {ts : List Nat} (h : opK op = some (10, ts)) : ∃ t x y u, op = .binOp .add t x y u ∧ ts = [] := by
  cases op with
  | binOp o t x y u =>
    cases o <;> simp only [opK, Option.some.injEq, Prod.mk.injEq, reduceCtorEq] at h
    all_goals first | (exact ⟨t, x, y, u, rfl, h.2.symm⟩) | (simp at h; done)
  | call c => simp only [opK] at h; split at h <;> first | (split at h <;> simp at h; done) | (simp at h; done)
  | slice t x lo hi mx => cases lo <;> cases hi <;> cases mx <;> simp [opK] at h
  | _ => simp [opK] at h
theorem hint_lss {x y : LV} {i n : Nat} {r : Bool} (hx : ∀ ν v, GE ν → VR ν x v → v = .int .i64 (i : Int)) (hy : ∀ ν v, GE ν → VR ν y v → v = .int .i64 (n : Int)) (hr : decide (i < n) = r) : HintOk P GE B w0 ⟨6, [], [x, y], .v (.bool r)⟩ := by
  intro op ho ν a w hG hbl hv
  obtain ⟨t', x', y', u', e1, e2⟩ := opK_lss ho
  obtain ⟨dst, op, type, pos, after, guard⟩ := op
  simp only at e1 hv
  subst e1
  simp only [Op.operands] at hv
  obtain ⟨v1, us, e3, h1, h2⟩ := VRs.cons_iff.1 hv
  obtain ⟨v2, us, rfl, h3, h4⟩ := VRs.cons_iff.1 h2
  obtain rfl := VRs.nil_iff.1 h4
  simp only [List.map_cons, List.map_nil, List.cons.injEq, and_true] at e3
  have p1 := hx ν v1 hG h1
  have p2 := hy ν v2 hG h3
  refine ⟨.bool r, ?_, by simp [VR, plainV]⟩
  show (do pure (.value (← (do eqGuard .lss t' x' y' (a.eval x') (a.eval y'); binOp .lss t' (a.eval x') (a.eval y')))) : Sem Next).run P w = _
  rw [e3.1, e3.2, p1, p2, ← hr]
  simp [eqGuard, binOp, Op.intCmp]
theorem hint_add {x v : LV} {i : Nat} (hx : ∀ ν y, GE ν → VR ν x y → y = .int .i64 (i : Int)) (hi : i ≤ 1000000) (hv : ∀ ν, GE ν → VR ν v (.int .i64 ((i + 1 : Nat) : Int))) : HintOk P GE B w0 ⟨10, [], [x, goI 1], v⟩ := by
  intro op ho ν a w hG hbl hvs
  obtain ⟨t', x', y', u', e1, e2⟩ := opK_add ho
  obtain ⟨dst, op, type, pos, after, guard⟩ := op
  simp only at e1 hvs
  subst e1
  simp only [Op.operands] at hvs
  obtain ⟨v1, us, e3, h1, h2⟩ := VRs.cons_iff.1 hvs
  obtain ⟨v2, us, rfl, h3, h4⟩ := VRs.cons_iff.1 h2
  obtain rfl := VRs.nil_iff.1 h4
  simp only [List.map_cons, List.map_nil, List.cons.injEq, and_true] at e3
  have p1 := hx ν v1 hG h1
  have p2 : v2 = .int .i64 1 := by
    simp only [goI, VR] at h3
    exact h3.1
  have hw : IntKind.i64.wrap ((i : Int) + 1) = (i : Int) + 1 := by rw [IntKind.wrap_i64]; omega
  refine ⟨.int .i64 ((i + 1 : Nat) : Int), ?_, hv ν hG⟩
  show (do pure (.value (← (do eqGuard .add t' x' y' (a.eval x') (a.eval y'); binOp .add t' (a.eval x') (a.eval y')))) : Sem Next).run P w = _
  rw [e3.1, e3.2, p1, p2]
  simp [eqGuard, binOp, Op.intArith, hw]
end
end Go.Proofs.YtjpfhhndjpdmoaaGreatDoor

namespace Go.Proofs.YtjpfhhndjpdmoaaGreatDoor
open Go.RowKit
set_option linter.unusedVariables false
set_option linter.unusedSimpArgs false

theorem BlkR.sz {ν : Env} {l l' : Loc} {k k' : Blk} {o : Option Obj} (h : BlkR ν l k o) (h' : BlkR ν l' k' o) (ha : l.addr = l'.addr) : BlkR ν l' k o := by
  obtain ⟨c, fr, h1, h2, h3, h4, h5⟩ := h
  obtain ⟨c', fr', g1, g2, _⟩ := h'
  rw [h1] at g1
  injection g1 with g1
  injection g1 with e1 e2 e3
  subst e1
  exact ⟨c, fr, h1, g2, h3, h4, h5⟩
section
variable {w : World} {t1 t2 t3 t4 t5 t6 t7 : TypeId}
theorem GRows.below {w w' : World} (h : GRows w t1 t2 t3 t4 t5 t6 t7) (hb : Below w.heap.size w w') : GRows w' t1 t2 t3 t4 t5 t6 t7 := ⟨h.r1.below hb h.r1.lt, h.r2.below hb h.r2.lt, h.r3.below hb h.r3.lt, h.r4.below hb h.r4.lt, h.r5.below hb h.r5.lt, h.r6.below hb h.r6.lt, h.r7.below hb h.r7.lt⟩
theorem gh_blk (h : GRows w t1 t2 t3 t4 t5 t6 t7) (ν : Env) {i : Nat} {k : Blk} (hk : (GH t1 t2 t3 t4 t5 t6 t7).get i = some k) : BlkR ν ⟨i, k.cells.length⟩ k w.heap[i]? := by
  have hm := gh_mem hk
  simp only [gB, List.mem_cons, List.not_mem_nil, or_false, Prod.mk.injEq] at hm
  rcases hm with ⟨rfl, rfl⟩ | ⟨rfl, rfl⟩ | ⟨rfl, rfl⟩ | ⟨rfl, rfl⟩ | ⟨rfl, rfl⟩ | ⟨rfl, rfl⟩ | ⟨rfl, rfl⟩
  · exact row_blk h.r1 (q64_vrs _) (q64_one _)
  · exact row_blk h.r2 (q64_vrs _) (q64_one _)
  · exact row_blk h.r3 (q64_vrs _) (q64_one _)
  · exact row_blk h.r4 (q64_vrs _) (q64_one _)
  · exact row_blk h.r5 (q64_vrs _) (q64_one _)
  · exact row_blk h.r6 (q32_vrs _) (q32_one _)
  · exact row_blk h.r7 (q32_vrs _) (q32_one _)
theorem gh_or {H : Hp} {i : Nat} {k : Blk} (h : (Hp.app H (gD t1 t2 t3 t4 t5 t6 t7)).get i = some k) : (GH t1 t2 t3 t4 t5 t6 t7).get i = some k ∨ H.get i = some k := by
  rw [get_app] at h
  unfold GH
  rw [get_app]
  cases hd : dget (gD t1 t2 t3 t4 t5 t6 t7) i with
  | some x => rw [hd] at h; exact .inl h
  | none => rw [hd] at h; exact .inr h
theorem StR.addG {GE : Env → Prop} [GEok Tryz.prog GE] {w0 : World} {ν : Env} {s : St} {a : Act} (hs : StR Tryz.prog GE GN w0.heap.size w0 ν s a w) (hg : GRows w0 t1 t2 t3 t4 t5 t6 t7) (hν : ∀ i, i < GN → ν i = nu0 t1 t2 t3 t4 t5 t6 t7 i) (hno : ∀ i k, s.H.get i = some k → GN ≤ i) (hnx : GN ≤ s.nx) :
    StR Tryz.prog GE GN w0.heap.size w0 ν ⟨s.nt, s.T, Hp.app s.H (gD t1 t2 t3 t4 t5 t6 t7), s.nx, s.wr⟩ a w := by
  have hgw : GRows w t1 t2 t3 t4 t5 t6 t7 := hg.below hs.below
  have hx : Ext (nu0 t1 t2 t3 t4 t5 t6 t7) ν := fun i l h => by
    have hi : i < GN := by
      unfold nu0 at h
      by_cases hi : i < GN
      · exact hi
      · rw [if_neg hi] at h; cases h
    rw [hν i hi]; exact h
  have hlt : ∀ i k l, (GH t1 t2 t3 t4 t5 t6 t7).get i = some k → ν i = some l → l.addr = i ∧ i < w0.heap.size := fun i k l hk hl => by
    have h1 := (gh_blk hg ν hk).heap (w := w0)
    rw [hν i (gh_low hk)] at hl
    exact ⟨nu0_some hl, h1⟩
  refine ⟨fun i k _ hk => ?_, fun i k l _ hi hk hl => ?_, fun i j ki kj li lj h1 h2 h3 h4 h5 => ?_, fun i k hk => ?_, hs.glob, hs.below, hs.tr, hs.sz, hs.df, hs.wrs⟩
  · rcases gh_or hk with h | h
    · obtain ⟨l, q1, q2⟩ := gh_hrf hgw i k trivial h
      exact ⟨l, hx i l q1, q2.ext hx⟩
    · exact hs.hr i k trivial h
  · rcases gh_or hk with h | h
    · have := gh_low h; omega
    · exact hs.low i k l trivial hi h hl
  · rcases gh_or h1 with h1 | h1
    · rcases gh_or h2 with h2 | h2
      · rw [← (hlt i ki li h1 h3).1, ← (hlt j kj lj h2 h4).1, h5]
      · have e1 := hlt i ki li h1 h3
        have e2 := hs.low j kj lj trivial (hno j kj h2) h2 h4
        omega
    · rcases gh_or h2 with h2 | h2
      · have e1 := hlt j kj lj h2 h4
        have e2 := hs.low i ki li trivial (hno i ki h1) h1 h3
        omega
      · exact hs.inj i j ki kj li lj h1 h2 h3 h4 h5
  · rcases gh_or hk with h | h
    · exact Nat.lt_of_lt_of_le (gh_low h) hnx
    · exact hs.ids i k h
end
/-! ### a stage that reads the package variables -/
def gKeys : List Nat := [1, 2, 3, 6, 7, 8, 10]
def hasN (H : Hp) : List Nat → Bool
  | [] => true
  | i :: l => (match H.get i with | some _ => true | none => false) && hasN H l
theorem hasN_ok {H : Hp} : ∀ {l : List Nat}, hasN H l = true → ∀ i ∈ l, ∃ k, H.get i = some k
  | [], _, i, h => by cases h
  | j :: l, h, i, hm => by
    simp only [hasN, Bool.and_eq_true] at h
    rcases List.mem_cons.1 hm with rfl | hm
    · have h1 := h.1
      split at h1
      · rename_i k hk; exact ⟨k, hk⟩
      · cases h1
    · exact hasN_ok h.2 i hm
def stG (s : Stg) (args : List LV) (H : Hp) (nx : Nat) : Option Out := match (eqLs s.a args && Nat.beq s.nx nx) && (subB H s.D && hasN H gKeys) with
  | true => some ⟨s.v, s.d, s.nx', none⟩
  | false => none
theorem stG_ok {w0 : World} {t1 t2 t3 t4 t5 t6 t7 : TypeId} {callf : FuncId → List LV → Hp → Nat → Option Out} (hc : CallOkW Tryz.prog GN w0.heap.size w0 callf) (hg : GRows w0 t1 t2 t3 t4 t5 t6 t7) (s : Stg) (hob : Nat.ble OB s.f = false) (hr : stB s (callf s.f s.a (Hp.app (hpOf s.D) (gD t1 t2 t3 t4 t5 t6 t7)) s.nx) = true) : FnOkW Tryz.prog GN w0.heap.size w0 s.f (stG s) := by
  intro args H nx out h hnx
  obtain ⟨h1, h2⟩ := stB_ok hr
  unfold stG at h
  split at h
  · rename_i hb
    cases h
    simp only [Bool.and_eq_true] at hb
    obtain ⟨⟨ha, hn⟩, hs, hk⟩ := hb
    have ha := eqLs_ok ha
    have hn := nbeq hn
    subst hn
    have hsub : ∀ i k, (hpOf s.D).get i = some k → H.get i = some k := fun i k hg => subB_ok hs i k (hpOf_get hg)
    have hgk : ∀ i k, (GH t1 t2 t3 t4 t5 t6 t7).get i = some k → ∃ k', H.get i = some k' := fun i k hi => by
      refine hasN_ok hk i ?_
      have hm := gh_mem hi
      simp only [gB, List.mem_cons, List.not_mem_nil, or_false, Prod.mk.injEq] at hm
      simp only [gKeys, List.mem_cons, List.not_mem_nil, or_false]
      rcases hm with ⟨rfl, _⟩ | ⟨rfl, _⟩ | ⟨rfl, _⟩ | ⟨rfl, _⟩ | ⟨rfl, _⟩ | ⟨rfl, _⟩ | ⟨rfl, _⟩ <;> simp
    have hall : ∀ i k, (Hp.app (hpOf s.D) (gD t1 t2 t3 t4 t5 t6 t7)).get i = some k → ∃ k', H.get i = some k' := fun i k hi => by
      rcases gh_or hi with hi | hi
      · exact hgk i k hi
      · exact ⟨k, hsub i k hi⟩
    obtain ⟨g1, g2⟩ := hc _ _ _ _ _ hob h1 h2
    refine ⟨g1, fun ν vs w hν hvs hH hlow hinj hid hgl hbl => ?_⟩
    have hgw : GRows w t1 t2 t3 t4 t5 t6 t7 := hg.below hbl
    rw [← ha] at hvs
    refine (g2 ν vs w hν hvs (fun i k hf hk => ?_) (fun i k l hf hi hk hl => ?_) (fun i j ki kj li lj _ _ h3 h4 h5 h6 h7 => ?_) (fun i k hk => ?_) hgl hbl).mono ?_
    · rcases gh_or hk with hi | hi
      · obtain ⟨k', hk'⟩ := hgk i k hi
        obtain ⟨l, q1, q2⟩ := hH i k' trivial hk'
        have hlow := gh_low hi
        have hs : Tryz.prog.globals.size = GN := by kernel_rfl
        obtain ⟨sz, e⟩ := hgl i (by rw [hs]; exact hlow)
        rw [e] at q1
        cases q1
        exact ⟨_, e, (gh_blk hgw ν hi).sz q2 rfl⟩
      · exact hH i k trivial (hsub i k hi)
    · rcases gh_or hk with h | h
      · have := gh_low h; omega
      · exact hlow i k l trivial hi (hsub i k h) hl
    · obtain ⟨ki', e1⟩ := hall i ki h3
      obtain ⟨kj', e2⟩ := hall j kj h4
      exact hinj i j ki' kj' li lj trivial trivial e1 e2 h5 h6 h7
    · obtain ⟨k', e1⟩ := hall i k hk
      exact hid i k' e1
    rintro e w' ⟨v', ν', rfl, hp⟩
    refine ⟨v', ν', rfl, hp.ext, hp.val, hp.blk, hp.frame, hp.fresh, hp.inj, fun i hi hd => ?_, hp.new, hp.below, hp.size⟩
    obtain ⟨q1, q2⟩ := hp.old i hi hd
    obtain ⟨k, hk⟩ := Option.isSome_iff_exists.1 q2
    obtain ⟨k', e1⟩ := hall i k hk
    exact ⟨q1, by rw [e1]; rfl⟩
  · cases h
end Go.Proofs.YtjpfhhndjpdmoaaGreatDoor

namespace Go.Proofs.YtjpfhhndjpdmoaaGreatDoor
open Go.RowKit
set_option linter.unusedVariables false
set_option linter.unusedSimpArgs false

def zs : Nat → List LV → List LV
  | 0, l => l
  | n + 1, l => .v (.int .u8 0) :: zs n l
abbrev diF : FuncId := 216
def sgD : Stg := ⟨diF, [(.agg ([(.slice 4549 0 1 1), (.v (.int .u8 3))] ++ (zs 30 ([(.v (.int .u8 3)), (.slice 4550 0 1 1), (.v (.int .i64 5))] ++ (zs 32 ([(.v (.bool false)), (.v (.slice none 0 0))] ++ (zs 32 ([(.v (.int .i64 0)), (.v (.int .i64 0)), (.v (.string ⟨#[]⟩)), (.v (.string ⟨#[]⟩)), (.v (.int .i64 0)), (.v (.int .i64 0)), (.v (.slice none 0 0)), (.v (.bool false)), (.v (.int .i64 0)), (.v (.int .i64 0))] ++ (zs 32 [])))))))))], [(1628, ⟨5, false, false, (q8 [48, 130, 1, 33, 48, 129, 201, 160, 3, 2, 1, 2, 2, 1, 1, 48, 10, 6, 8, 42, 134, 72, 206, 61, 4, 3, 2, 48, 13, 48, 11, 6, 3, 85, 4, 3, 12, 4, 114, 111, 111, 116, 48, 7, 2, 1, 0, 2, 2, 3, 232, 48, 13, 48, 11, 6, 3, 85, 4, 3, 12, 4, 114, 111, 111, 116, 48, 89, 48, 19, 6, 7, 42, 134, 72, 206, 61, 2, 1, 6, 8, 42, 134, 72, 206, 61, 3, 1, 7, 3, 66, 0, 4, 153, 95, 123, 98, 33, 154, 66, 70, 244, 115, 118, 65, 26, 205, 177, 105, 5, 93, 141, 222, 239, 84, 122, 208, 225, 12, 44, 85, 188, 77, 193, 111, 188, 193, 162, 112, 89, 74, 172, 83, 188, 101, 97, 201, 95, 58, 170, 119, 18, 71, 62, 143, 159, 77, 83, 173, 225, 7, 124, 85, 137, 115, 128, 207, 163, 49, 48, 47, 48, 18, 6, 3, 85, 29, 19, 1, 1, 255, 4, 8, 48, 6, 1, 1, 255, 2, 1, 0, 48, 13, 6, 3, 85, 29, 15, 1, 1, 255, 4, 3, 2, 1, 3, 48, 10, 6, 3, 85, 29, 37, 4, 3, 2, 1, 0, 48, 10, 6, 8, 42, 134, 72, 206, 61, 4, 3, 2, 3, 71, 0, 48, 68, 2, 32, 73, 126, 189, 214, 73, 0, 24, 180, 105, 76, 79, 117, 199, 4, 42, 163, 36, 158, 134, 107, 209, 115, 7, 23, 154, 161, 77, 109, 218, 250, 142, 77, 2, 32, 5, 102, 29, 61, 220, 168, 13, 196, 62, 169, 37, 98, 146, 163, 244, 234, 25, 68, 159, 188, 31, 67, 233, 198, 239, 15, 128, 45, 229, 26, 77, 37])⟩), (4550, ⟨22, true, false, [(.buf 1628 0 293 1)]⟩), (4548, ⟨5, false, false, (q8 [48, 130, 1, 29, 48, 129, 197, 160, 3, 2, 1, 2, 2, 1, 3, 48, 10, 6, 8, 42, 134, 72, 206, 61, 4, 3, 2, 48, 13, 48, 11, 6, 3, 85, 4, 3, 12, 4, 114, 111, 111, 116, 48, 7, 2, 1, 0, 2, 2, 3, 232, 48, 15, 48, 13, 6, 3, 85, 4, 3, 12, 6, 99, 108, 105, 101, 110, 116, 48, 89, 48, 19, 6, 7, 42, 134, 72, 206, 61, 2, 1, 6, 8, 42, 134, 72, 206, 61, 3, 1, 7, 3, 66, 0, 4, 209, 46, 211, 16, 55, 59, 18, 74, 208, 42, 35, 62, 143, 215, 225, 45, 31, 169, 165, 160, 17, 73, 87, 91, 63, 187, 26, 189, 16, 208, 44, 23, 211, 197, 1, 216, 233, 202, 145, 210, 176, 54, 219, 188, 205, 234, 144, 21, 120, 180, 24, 182, 122, 190, 85, 22, 65, 127, 138, 163, 231, 233, 60, 140, 163, 43, 48, 41, 48, 12, 6, 3, 85, 29, 19, 1, 1, 255, 4, 2, 48, 0, 48, 13, 6, 3, 85, 29, 15, 1, 1, 255, 4, 3, 2, 1, 1, 48, 10, 6, 3, 85, 29, 37, 4, 3, 2, 1, 2, 48, 10, 6, 8, 42, 134, 72, 206, 61, 4, 3, 2, 3, 71, 0, 48, 68, 2, 32, 27, 72, 221, 59, 124, 122, 62, 181, 67, 95, 240, 80, 3, 4, 190, 79, 141, 58, 87, 79, 125, 164, 96, 216, 32, 187, 13, 172, 22, 180, 101, 67, 2, 32, 114, 163, 207, 240, 172, 169, 107, 97, 57, 196, 24, 100, 130, 113, 111, 156, 236, 144, 172, 235, 115, 189, 119, 193, 11, 95, 245, 236, 134, 166, 192, 121])⟩), (4549, ⟨22, true, false, [(.buf 4548 0 289 1)]⟩)], 4629, (.tup [(.ptr 4644 0), (.buf 4740 0 150 1), (.v (.int .i64 0))]), [(4740, some ⟨5, false, false, (q8 [22, 3, 3, 0, 145, 1, 0, 0, 141, 3, 3, 6, 100, 122, 182, 121, 89, 67, 175, 103, 231, 61, 7, 114, 96, 205, 98, 166, 178, 242, 242, 171, 138, 209, 167, 64, 113, 220, 82, 81, 70, 3, 120, 0, 0, 2, 19, 1, 1, 0, 0, 98, 0, 43, 0, 3, 2, 3, 4, 0, 10, 0, 4, 0, 2, 0, 23, 0, 13, 0, 4, 0, 2, 4, 3, 0, 51, 0, 71, 0, 69, 0, 23, 0, 65, 4, 152, 236, 39, 85, 176, 246, 105, 20, 63, 250, 49, 42, 125, 106, 2, 37, 18, 182, 255, 26, 15, 5, 10, 12, 23, 78, 121, 1, 95, 254, 25, 18, 184, 113, 132, 71, 228, 236, 21, 196, 113, 187, 247, 166, 126, 51, 220, 234, 184, 37, 170, 58, 104, 55, 106, 65, 69, 19, 116, 176, 157, 70, 116, 158])⟩), (4737, some ⟨5, false, false, (q8 [1, 0, 0, 141, 3, 3, 6, 100, 122, 182, 121, 89, 67, 175, 103, 231, 61, 7, 114, 96, 205, 98, 166, 178, 242, 242, 171, 138, 209, 167, 64, 113, 220, 82, 81, 70, 3, 120, 0, 0, 2, 19, 1, 1, 0, 0, 98, 0, 43, 0, 3, 2, 3, 4, 0, 10, 0, 4, 0, 2, 0, 23, 0, 13, 0, 4, 0, 2, 4, 3, 0, 51, 0, 71, 0, 69, 0, 23, 0, 65, 4, 152, 236, 39, 85, 176, 246, 105, 20, 63, 250, 49, 42, 125, 106, 2, 37, 18, 182, 255, 26, 15, 5, 10, 12, 23, 78, 121, 1, 95, 254, 25, 18, 184, 113, 132, 71, 228, 236, 21, 196, 113, 187, 247, 166, 126, 51, 220, 234, 184, 37, 170, 58, 104, 55, 106, 65, 69, 19, 116, 176, 157, 70, 116, 158])⟩), (4643, some ⟨300, true, false, [(.v (.int .u32 1382578519)), (.v (.int .u32 3494476242)), (.v (.int .u32 3513778884)), (.v (.int .u32 1715790690)), (.v (.int .u32 1427065776)), (.v (.int .u32 1066389104)), (.v (.int .u32 1081987908)), (.v (.int .u32 263929231)), (.buf 4737 128 17 1), (.v (.int .i64 145))]⟩), (4638, some ⟨5, false, false, (q8 [48, 130, 1, 33, 48, 129, 201, 160, 3, 2, 1, 2, 2, 1, 1, 48, 10, 6, 8, 42, 134, 72, 206, 61, 4, 3, 2, 48, 13, 48, 11, 6, 3, 85, 4, 3, 12, 4, 114, 111, 111, 116, 48, 7, 2, 1, 0, 2, 2, 3, 232, 48, 13, 48, 11, 6, 3, 85, 4, 3, 12, 4, 114, 111, 111, 116, 48, 89, 48, 19, 6, 7, 42, 134, 72, 206, 61, 2, 1, 6, 8, 42, 134, 72, 206, 61, 3, 1, 7, 3, 66, 0, 4, 153, 95, 123, 98, 33, 154, 66, 70, 244, 115, 118, 65, 26, 205, 177, 105, 5, 93, 141, 222, 239, 84, 122, 208, 225, 12, 44, 85, 188, 77, 193, 111, 188, 193, 162, 112, 89, 74, 172, 83, 188, 101, 97, 201, 95, 58, 170, 119, 18, 71, 62, 143, 159, 77, 83, 173, 225, 7, 124, 85, 137, 115, 128, 207, 163, 49, 48, 47, 48, 18, 6, 3, 85, 29, 19, 1, 1, 255, 4, 8, 48, 6, 1, 1, 255, 2, 1, 0, 48, 13, 6, 3, 85, 29, 15, 1, 1, 255, 4, 3, 2, 1, 3, 48, 10, 6, 3, 85, 29, 37, 4, 3, 2, 1, 0, 48, 10, 6, 8, 42, 134, 72, 206, 61, 4, 3, 2, 3, 71, 0, 48, 68, 2, 32, 73, 126, 189, 214, 73, 0, 24, 180, 105, 76, 79, 117, 199, 4, 42, 163, 36, 158, 134, 107, 209, 115, 7, 23, 154, 161, 77, 109, 218, 250, 142, 77, 2, 32, 5, 102, 29, 61, 220, 168, 13, 196, 62, 169, 37, 98, 146, 163, 244, 234, 25, 68, 159, 188, 31, 67, 233, 198, 239, 15, 128, 45, 229, 26, 77, 37])⟩), (4640, some ⟨22, false, false, [(.buf 4638 0 293 1)]⟩), (4634, some ⟨5, false, false, (q8 [48, 130, 1, 29, 48, 129, 197, 160, 3, 2, 1, 2, 2, 1, 3, 48, 10, 6, 8, 42, 134, 72, 206, 61, 4, 3, 2, 48, 13, 48, 11, 6, 3, 85, 4, 3, 12, 4, 114, 111, 111, 116, 48, 7, 2, 1, 0, 2, 2, 3, 232, 48, 15, 48, 13, 6, 3, 85, 4, 3, 12, 6, 99, 108, 105, 101, 110, 116, 48, 89, 48, 19, 6, 7, 42, 134, 72, 206, 61, 2, 1, 6, 8, 42, 134, 72, 206, 61, 3, 1, 7, 3, 66, 0, 4, 209, 46, 211, 16, 55, 59, 18, 74, 208, 42, 35, 62, 143, 215, 225, 45, 31, 169, 165, 160, 17, 73, 87, 91, 63, 187, 26, 189, 16, 208, 44, 23, 211, 197, 1, 216, 233, 202, 145, 210, 176, 54, 219, 188, 205, 234, 144, 21, 120, 180, 24, 182, 122, 190, 85, 22, 65, 127, 138, 163, 231, 233, 60, 140, 163, 43, 48, 41, 48, 12, 6, 3, 85, 29, 19, 1, 1, 255, 4, 2, 48, 0, 48, 13, 6, 3, 85, 29, 15, 1, 1, 255, 4, 3, 2, 1, 1, 48, 10, 6, 3, 85, 29, 37, 4, 3, 2, 1, 2, 48, 10, 6, 8, 42, 134, 72, 206, 61, 4, 3, 2, 3, 71, 0, 48, 68, 2, 32, 27, 72, 221, 59, 124, 122, 62, 181, 67, 95, 240, 80, 3, 4, 190, 79, 141, 58, 87, 79, 125, 164, 96, 216, 32, 187, 13, 172, 22, 180, 101, 67, 2, 32, 114, 163, 207, 240, 172, 169, 107, 97, 57, 196, 24, 100, 130, 113, 111, 156, 236, 144, 172, 235, 115, 189, 119, 193, 11, 95, 245, 236, 134, 166, 192, 121])⟩), (4636, some ⟨22, false, false, [(.buf 4634 0 289 1)]⟩), (4644, some ⟨207, true, false, ([(.buf 4636 0 1 1), (.v (.int .u8 3))] ++ (zs 30 ([(.v (.int .u8 3)), (.buf 4640 0 1 1), (.v (.int .i64 5))] ++ (zs 32 ([(.v (.bool false)), (.v (.slice none 0 0))] ++ (zs 32 ([(.v (.int .i64 0)), (.v (.int .i64 0)), (.v (.string ⟨#[]⟩)), (.v (.string ⟨#[]⟩)), (.v (.int .i64 0)), (.v (.int .i64 0)), (.v (.slice none 0 0)), (.v (.bool false)), (.v (.int .i64 0)), (.v (.int .i64 0))] ++ (zs 32 ([(.v (.bool false)), (.v (.int .i64 0)), (.ptr 4643 0), (.v (.int .i64 0))] ++ (zs 64 ([(.v (.slice none 0 0)), (.v (.slice none 0 0)), (.v (.slice none 0 0)), (.v (.slice none 0 0)), (.v (.slice none 0 0)), (.v (.slice none 0 0)), (.v (.int .i64 0)), (.v (.int .i64 0)), (.v (.bool false)), (.v (.bool false)), (.v (.bool false)), (.v (.bool true))] ++ (zs 192 ([(.v (.pointer none)), (.v (.pointer none)), (.v (.int .i64 0)), (.v (.string ⟨#[]⟩)), (.v (.string ⟨#[]⟩)), (.v (.int .i64 0)), (.v (.int .i64 0)), (.v (.slice none 0 0)), (.v (.bool false)), (.v (.int .i64 0)), (.v (.int .i64 0)), (.v (.bool false)), (.v (.bool false)), (.v (.bool false)), (.v (.bool false)), (.v (.slice none 0 0))] ++ (zs 32 ([(.v (.int .i64 0)), (.v (.int .i64 0)), (.v (.string ⟨#[]⟩)), (.v (.string ⟨#[]⟩)), (.v (.int .i64 0)), (.v (.int .i64 0)), (.v (.slice none 0 0)), (.v (.bool false)), (.v (.int .i64 0)), (.v (.int .i64 0))] ++ (zs 32 ([(.v (.slice none 0 0))])))))))))))))))))⟩)], 4741⟩
set_option maxRecDepth 100000 in
theorem sgD_run (t1 t2 t3 t4 t5 t6 t7 : TypeId) : stB sgD (cfN sgD.f sgD.a (Hp.app (hpOf sgD.D) (gD t1 t2 t3 t4 t5 t6 t7)) sgD.nx) = true := by kernel_rfl
noncomputable def orcE : Orc := withO diF (stG sgD) orcN3
noncomputable def cfE : FuncId → List LV → Hp → Nat → Option Out := evFQ Tryz.prog GN 100000 orcE 60
theorem obD : Nat.ble OB diF = false := by kernel_rfl
theorem noH_E : NoH orcE := noH_with obD noH_N3
section
variable {w : World} {t1 t2 t3 t4 t5 t6 t7 : TypeId} (hW : HashW w) (hC : CurveW w) (hg : GRows w t1 t2 t3 t4 t5 t6 t7)
include hW hC hg
theorem orcE_ok : OrcOkW Tryz.prog GN w.heap.size w orcE := withO_ok (stG_ok (cfN_ok hW hC) hg sgD obD (sgD_run t1 t2 t3 t4 t5 t6 t7)) (orcN3_ok hW hC)
theorem cfE_ok : CallOkW Tryz.prog GN w.heap.size w cfE := by
  unfold cfE
  rw [evFQ_evF]
  exact evF_okW (by kernel_rfl) (Nat.le_refl _) noGo szOB noH_E (orcE_ok hW hC hg) 60
theorem evE_ok {GE : Env → Prop} : EvOk Tryz.prog GE GN w.heap.size w cfE := by
  refine ⟨cfE_ok hW hC hg, ?_⟩
  unfold cfE
  rw [evFQ_evF]
  exact noOps szOB noH_E
end
end Go.Proofs.YtjpfhhndjpdmoaaGreatDoor
