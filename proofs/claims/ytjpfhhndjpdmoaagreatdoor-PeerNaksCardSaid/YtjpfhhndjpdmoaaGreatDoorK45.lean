/- Part of the proof: EvSp, EvSo, EvPr, EvPn. No conditions of its own. -/
import Derived.ArgAppend
import Derived.Below
import Derived.BigQuiet
import Derived.Deep.DeepCutAuto
import Derived.Deep.LoopGhost
import Derived.Deep.Quiet
import Derived.Deep.QuietTactic
import Derived.Deep.RegionLaw
import Derived.KernelRfl
import Derived.Laws.AppendOwnNone
import Derived.Laws.BitsAllLaws
import Derived.Laws.BytesArg
import Derived.Laws.CopyRow
import Derived.Laws.NewFold
import Derived.Laws.Strings
import Derived.Lib.ConvBytes
import Derived.Lib.Hide
import Derived.LoopIn
import Derived.LoopNIn
import Derived.Maps.AppendAt
import Derived.Orders
import Derived.OrdersIn
import Derived.OwnWalkIn
import Derived.RangeFuncBound
import Derived.RangeFuncCalls
import Derived.RangeFuncLeaves
import Derived.RangeFuncNested
import Derived.RangeFuncWrites
import Derived.RowKit3
import Derived.Shelf.Abstract
import Derived.StillTail
import Derived.TacticsIn
import Derived.TacticsInMore
import Derived.Test.YtjpfhhndjpdmoaaGreatDoorProg
import Derived.WalkKit
import Derived.Test.YtjpfhhndjpdmoaaGreatDoorK43
import Derived.Test.YtjpfhhndjpdmoaaGreatDoorK44
import Derived.Deep.CutBlock
import Derived.Deep.Draws
import Derived.Laws.Bits64b
import Derived.Laws.CopyOwn
import Derived.Lib.AppendStr
import Derived.Lib.MakeNoZero
import Derived.Shelf.Bits.Mul64
import Derived.Shelf.Spec.BitsCarry
import Derived.Stop.BytesEq
import Derived.Test.YtjpfhhndjpdmoaaGreatDoorRows
import Derived.Test.YtjpfhhndjpdmoaaGreatDoorK37
namespace Go.Proofs.YtjpfhhndjpdmoaaGreatDoor
open Go.RowKit
set_option linter.unusedVariables false
set_option linter.unusedSectionVars false
set_option linter.unusedSimpArgs false

namespace Cd
def rfA : Code → Code | .rangeFunc _ _ a _ => a | _ => .skip
def rfB : Code → Code | .rangeFunc _ _ _ b => b | _ => .skip
def ops : Code → Array Oper | .region _ ops _ => ops | _ => #[]
end Cd
abbrev spF : FuncId := 105
abbrev chF : FuncId := 121
noncomputable def spB : Code := Cd.bodyOf Tryz.prog spF
noncomputable def spC6 : Code := Cd.drop 5 spB
noncomputable def spR : Code := Cd.a (Cd.b (Cd.a spC6))
noncomputable def spEn : Code := Cd.b spC6
theorem spR_eq : spR = .rangeFunc (.tmp 56) #[57] (Cd.rfA spR) (Cd.rfB spR) := by kernel_rfl
theorem spA_eq : Cd.rfA spR = .region 11 (Cd.ops (Cd.rfA spR)) false := by kernel_rfl
noncomputable def spO : Array Oper := Cd.ops (Cd.a (Cd.rfB spR))
theorem spB_eq : Cd.rfB spR = .block (Cd.id (Cd.rfB spR)) (.region 12 spO true) := by kernel_rfl
theorem spA_one : (Cd.ops (Cd.rfA spR)).toList.map (fun o => (o.dst, o.guard, o.op)) = [(some 9, none, .assign (.tmp 57))] := by kernel_rfl
theorem spB_nd : spO.toList.all notDefer = true := by kernel_rfl
theorem spEn_flat : flatB spEn = true := by kernel_rfl
section
variable {P : Program} {GE : Env → Prop} [hGE : GEok P GE] {nB B : Nat} {w0 : World} {callf : FuncId → List LV → Hp → Nat → Option Out}
theorem Frg.addWr {ν ν' : Env} {T T2' : Tr LV} {s s' : St} {w w' : World} (h : Frg nB ν ν' ⟨s.nt, T, s.H, s.nx, []⟩ s' w w') (hr : ∀ i ∈ s.wr, i < s.nx) : Frg nB ν ν' s ⟨s.nt, T2', s'.H, s'.nx, s'.wr ++ s.wr⟩ w w' where
  nx := h.nx
  nt := rfl
  wr := fun i hi => List.mem_append_right _ hi
  ext := h.ext
  frame := fun a ha hno => h.frame a ha (fun i l hi hlt hl => hno i l (List.mem_append_left _ hi) hlt hl)
  fresh := fun i l hin hh hl => by
    have hh' : i ∈ s'.wr ∨ ∃ k, s'.H.get i = some k := by
      rcases hh with hh | hh
      · rcases List.mem_append.1 hh with q | q
        · exact .inl q
        · have := hr i q; omega
      · exact .inr hh
    rcases h.fresh i l hin hh' hl with q | ⟨j, lj, q1, q2, q3, q4⟩
    · exact .inl q
    · exact .inr ⟨j, lj, List.mem_append_left _ q1, q2, q3, q4⟩
  live := h.live
  kept := fun i hi hn => h.kept i hi (fun hh => hn (List.mem_append_left _ hh))
  old := fun i hi => by
    rcases List.mem_append.1 hi with q | q
    · rcases h.old i q with g | g
      · cases g
      · exact .inr g
    · exact .inl q
  size := h.size
theorem StR.grown {ν : Env} {s : St} {a : Act} {W W' : World} {row : Option Nat} (hs : StR P GE nB B w0 ν s a W) (hB : B ≤ W.heap.size) (hg : W.grownBy W' row) (hr : ∀ r, row = some r → B ≤ r ∧ ∃ o : Obj, W.heap[r]? = some o ∧ o.isCells = false) : StR P GE nB B w0 ν s a W' :=
  hs.own ((Below.refl B W).grown hg hB (fun k e => (hr k e).1)) (fun i k l hk hl => by
    obtain ⟨l', h1, c, fr, h2, _⟩ := hs.hr i k trivial hk
    rw [hl] at h1; cases h1
    refine hg.block l.addr (Array.getElem?_eq_some_iff.1 h2).1 (fun e => ?_)
    obtain ⟨_, o, ho, hc⟩ := hr _ e.symm
    rw [h2] at ho
    cases ho
    cases hc)
theorem Frg.grown {ν ν' : Env} {s s' : St} {w W W' : World} {row : Option Nat} (h : Frg nB ν ν' s s' w W) (hg : W.grownBy W' row) (hr : ∀ r, row = some r → w.heap.size ≤ r) : Frg nB ν ν' s s' w W' :=
  ⟨h.nx, h.nt, h.wr, h.ext, fun a ha hno => (hg.block a (Nat.lt_of_lt_of_le ha h.size) (fun e => by have := hr a e.symm; omega)).trans (h.frame a ha hno), h.fresh, h.live, h.kept, h.old, Nat.le_trans h.size hg.size⟩
theorem one_row {ν : Env} {l : Loc} {t : TypeId} {x : LV} {o : Option Obj} (h : BlkR ν l ⟨t, true, false, [x]⟩ o) : ∃ v, o = some (.cells #[v] t (0, 0)) ∧ VR ν x v := by
  obtain ⟨c, fr, h1, h2, h3, ⟨vs, rest, h4, h5⟩, h6, h7, h8⟩ := h
  obtain ⟨u, us, rfl, h9, h10⟩ := VRs.cons_iff.1 h5
  have h10 := VRs.nil_iff.1 h10
  subst h10
  have hc1 : c.size = 1 := (h3 rfl).symm
  have hr : rest = [] := by
    have := congrArg List.length h4
    simp at this
    exact List.eq_nil_of_length_eq_zero (by omega)
  subst hr
  have hc : c = #[u] := by
    apply Array.ext'
    simpa using h4
  have hf := h8 rfl
  subst hc hf
  exact ⟨u, h1, h9⟩
theorem keep_row {ν ν' : Env} {s s' : St} {a a' : Act} {W W1 : World} (h : StR P GE nB B w0 ν s a W) (h1 : StR P GE nB B w0 ν' s' a' W1) (hf : Frg nB ν ν' s s' W W1) {i : Nat} {t : TypeId} {x : LV} (hk : s.H.get i = some ⟨t, true, false, [x]⟩) (hw : i ∉ s'.wr)
    (hd : ∀ v v', VR ν x v → VR ν' x v' → v = v') {l : Loc} (hl : ν i = some l) {t2 : TypeId} {cs : Array Value} (hr : Row W l.addr t2 cs) : Row W1 l.addr t2 cs := by
  have hlt := h.ids i _ hk
  obtain ⟨l', e1, hb⟩ := h.hr i _ trivial hk
  rw [hl] at e1; cases e1
  obtain ⟨v, e2, e3⟩ := one_row hb
  have hk' := (hf.kept i hlt hw).trans hk
  obtain ⟨l2, e4, hb2⟩ := h1.hr i _ trivial hk'
  rw [hf.ext i (by omega), hl] at e4; cases e4
  obtain ⟨v', e5, e6⟩ := one_row hb2
  have := hd v v' e3 e6
  subst this
  have h3 := hr.heap
  rw [e2] at h3
  cases h3
  exact Row.of_heap e5
theorem run_asg {o : Oper} {a : Act} {w : World} {x : Operand} (h : o.op = .assign x) : (execOp a.eval o).run P w = .ok (.value (a.eval x)) w := by
  obtain ⟨dst, op, type, pos, after, guard⟩ := o
  simp only at h
  subst h
  rfl
end
section
variable {GE : Env → Prop} [hGE : GEok Tryz.prog GE] {nB B : Nat} {w0 : World} {callf : FuncId → List LV → Hp → Nat → Option Out}
set_option maxRecDepth 100000 in
theorem sp_loop (hc : EvOk Tryz.prog GE nB B w0 callf) (hB : B ≤ w0.heap.size) {s2 s4 : St} {bs bn b off len : Nat}
    (hT : s2.T.get 56 = some (.fn (.func chF) [.ptr bs 0, .ptr bn 0])) (hbs : s2.H.get bs = some ⟨22, true, false, [.buf b off len 1]⟩) (hbn : s2.H.get bn = some ⟨3, true, false, [.v (.int .i64 99)]⟩)
    (hl0 : 0 < len) (hl99 : len ≤ 99) (hnt : s2.nt = 72)
    (hev : evReg Tryz.prog nB callf spO true ⟨s2.nt, (s2.T.set 57 (some (.slice b off len len))).set 9 (some (.slice b off len len)), s2.H, s2.nx, []⟩ = some s4)
    (hwb : bs ∉ s4.wr) (hwn : bn ∉ s4.wr) {ν : Env} {a : Act} {w : World} (hs : StR Tryz.prog GE nB B w0 ν s2 a w) (hν : ∀ i, s2.nx ≤ i → i < s4.nx → ν i = none) {Q : Exit → Act → World → Prop}
    (hQ : ∀ a' w' ν' D, StR Tryz.prog GE nB B w0 ν' ⟨s2.nt, s2.T, s4.H, s4.nx, s4.wr ++ s2.wr⟩ (Act.bare a') w' → w.heap.size ≤ D → a'.defers = [markOf D] → w'.heap[D]? = some (.deferred (some [])) → Frg nB ν ν' s2 ⟨s2.nt, s2.T, s4.H, s4.nx, s4.wr ++ s2.wr⟩ w w' → Q .normal a' w') : spR.wp Tryz.prog Q a w := by
  obtain ⟨lb, hlb, hBb⟩ := hs.hr bs _ trivial hbs
  obtain ⟨ln, hln, hBn⟩ := hs.hr bn _ trivial hbn
  obtain ⟨vb, hb1, hb2⟩ := one_row hBb
  obtain ⟨vn, hn1, hn2⟩ := one_row hBn
  simp only [VR] at hb2 hn2
  obtain ⟨lq, c, hlq, rfl, hc1, hc2, hc3⟩ := hb2
  obtain ⟨rfl, _⟩ := hn2
  have hfn := hs.tr 56 _ hT
  simp only [VR] at hfn
  obtain ⟨vs, hfv, hvs⟩ := hfn
  obtain ⟨u1, us, rfl, g1, g2⟩ := VRs.cons_iff.1 hvs
  obtain ⟨u2, us', rfl, g3, g4⟩ := VRs.cons_iff.1 g2
  obtain rfl := VRs.nil_iff.1 g4
  simp only [VR] at g1 g3
  obtain ⟨l1, g1, rfl⟩ := g1
  obtain ⟨l2, g3, rfl⟩ := g3
  rw [hlb] at g1; cases g1
  rw [hln] at g3; cases g3
  have hBw : B ≤ w.heap.size := Nat.le_trans hB hs.below.size
  have hsz : a.tmps.size = 72 := by rw [hs.sz, hnt]
  obtain ⟨y, hy⟩ : ∃ y, y = Value.slice (some ⟨lq.addr, off, none⟩) len len := ⟨_, rfl⟩
  obtain ⟨a1, ha1⟩ : ∃ a1 : Act, a1 = { tmps := (a.tmps.setIfInBounds 57 y).setIfInBounds 9 y, defers := [] } := ⟨_, rfl⟩
  rw [spR_eq]
  refine (wpIn_wide (n := 4)).1 ?_
  refine wpIn_rangeFunc_ownG (n := 4) rfl (by omega) (gf := chF) (lb := #[.pointer (some ⟨lb.addr, 0, none⟩), .pointer (some ⟨ln.addr, 0, none⟩)]) hfv trivial (enters_of Tryz.func121 (by kernel_rfl) rfl)
    (chunk_stopsU 3 (by omega) lb.addr ln.addr lq.addr off len c w hl0 hl99 hc1 (by unfold maxLen; omega) (Row.of_heap hb1) (Row.of_heap hn1)) (fun h k => KpC.trans h k) (fun W l o o' _ h hc _ => KpC.put W l o o' h hc) (Below.refl _ _) (fun _ => rfl)
    (fun pre W => (pre = [] → StR Tryz.prog GE nB B w0 ν s2 a W ∧ Frg nB ν ν s2 s2 w W) ∧ (pre ≠ [] → ∃ ν', StR Tryz.prog GE nB B w0 ν' ⟨s2.nt, s2.T, s4.H, s4.nx, s4.wr ++ s2.wr⟩ a W ∧ Frg nB ν ν' s2 ⟨s2.nt, s2.T, s4.H, s4.nx, s4.wr ++ s2.wr⟩ w W))
    (fun _ _ _ => False) ?hI (fun _ _ _ _ _ hs _ _ => hs) ⟨fun _ => ⟨hs, Frg.refl hs.wrs hs.ids⟩, fun h => absurd rfl h⟩ (fun _ => a1) ?assign ?body ?done (fun _ _ _ _ _ _ h _ => h.elim)
  case hI =>
    rintro pre A A' row ⟨h1, h2⟩ hg hr
    have hr1 : ∀ r, row = some r → w.heap.size ≤ r := fun r e => (hr r e).1
    have hr2 : ∀ r, row = some r → B ≤ r ∧ ∃ o : Obj, A.heap[r]? = some o ∧ o.isCells = false := fun r e => ⟨Nat.le_trans hBw (hr r e).1, (hr r e).2⟩
    refine ⟨fun e => ?_, fun e => ?_⟩
    · obtain ⟨q1, q2⟩ := h1 e
      exact ⟨q1.grown (Nat.le_trans hBw q2.size) hg hr2, q2.grown hg hr1⟩
    · obtain ⟨ν', q1, q2⟩ := h2 e
      exact ⟨ν', q1.grown (Nat.le_trans hBw q2.size) hg hr2, q2.grown hg hr1⟩
  case assign =>
    intro l x W K hK
    rw [spA_eq]
    have h1 := spA_one
    generalize Cd.ops (Cd.rfA spR) = ops at h1 ⊢
    obtain ⟨L⟩ := ops
    simp only at h1
    rcases L with _ | ⟨o, _ | ⟨o2, L⟩⟩
    · simp at h1
    · simp only [List.map_cons, List.map_nil, List.cons.injEq, Prod.mk.injEq, and_true] at h1
      obtain ⟨e1, e2, e3⟩ := h1
      refine region_round (L := [o]) (fun ⟨_, _, h⟩ => h) (by simp [notDefer, e3]) ?_
      refine wpList_step (fun K' hK' => ?_)
      rw [if_pos (by simp [Region.wanted, e2])]
      unfold Oper.wp
      rw [run_asg e3, Oper.upon_value]
      refine hK' _ _ (wpList_nil ?_)
      have : Act.put { tmps := (#[57].zip (encU lq.addr off len x)).foldl (fun t (p, v) => t.setIfInBounds p v) a.tmps, defers := [] } o.dst (Act.eval { tmps := (#[57].zip (encU lq.addr off len x)).foldl (fun t (p, v) => t.setIfInBounds p v) a.tmps, defers := [] } (.tmp 57)) = a1 := by
        rw [ha1, e1, hy]
        simp [encU, Act.put, Act.eval, hsz]
      rw [this]
      exact hK
    · simp at h1
  case body =>
    rintro l' pre x W ⟨h1, _⟩ hlen
    have hp : pre = [] := List.eq_nil_of_length_eq_zero (by omega)
    subst hp
    obtain ⟨hsW, hfW⟩ := h1 rfl
    rw [spB_eq]
    refine wpIn_block ?_
    have hnd := spB_nd
    obtain ⟨L, hL⟩ : ∃ L : List Oper, spO = L.toArray := ⟨spO.toList, by simp⟩
    rw [hL] at hev hnd ⊢
    refine region_drawn_round (by kernel_rfl) (fun ⟨_, _, h⟩ => h) (by simpa using hnd) ?_
    have hs3 : StR Tryz.prog GE nB B w0 ν ⟨s2.nt, (s2.T.set 57 (some (.slice b off len len))).set 9 (some (.slice b off len len)), s2.H, s2.nx, []⟩ a1 W := by
      refine ⟨hsW.hr, hsW.low, hsW.inj, hsW.ids, hsW.glob, hsW.below, fun t z ht => ?_, by rw [ha1]; simp [hsz, hnt], by rw [ha1], fun i hi => by cases hi⟩
      simp only [Tr.get_set] at ht
      have hyv : VR ν (.slice b off len len) y := by rw [hy]; simp only [VR]; exact ⟨lq, hlq, rfl⟩
      by_cases h9 : t = 9
      · subst h9
        rw [if_pos rfl] at ht
        cases ht
        rw [ha1]
        simpa [hsz] using hyv
      · rw [if_neg h9] at ht
        by_cases h57 : t = 57
        · subst h57
          rw [if_pos rfl] at ht
          cases ht
          rw [ha1]
          simpa [Array.getElem?_setIfInBounds, hsz] using hyv
        · rw [if_neg h57] at ht
          have := hsW.tr t z ht
          rw [ha1]
          simp only [Array.getD_eq_getD_getElem?] at this ⊢
          rwa [Array.getElem?_setIfInBounds_ne (Ne.symm h9), Array.getElem?_setIfInBounds_ne (Ne.symm h57)]
    refine draw_okA hc hB hev hs3 hν (fun a' W1 ν' g1 g2 => ?_)
    have hext : Ext ν ν' := fun i l hl => by
      rw [g2.ext i (fun hh => by rw [hν i hh.1 hh.2] at hl; cases hl)]
      exact hl
    refine ⟨⟨g2.size, fun k o hBk hk hoc => ?_⟩, fun bb t cs hbb hrow => ?_, fun e => absurd e (by simp), fun _ => ⟨ν', ⟨g1.hr, g1.low, g1.inj, g1.ids, g1.glob, g1.below, hsW.tr.ext hext, hsW.sz, hsW.df, fun i hi => ?_⟩, hfW.trans (g2.addWr hs.wrs)⟩⟩
    · refine (g2.frame k (Array.getElem?_eq_some_iff.1 hk).1 (fun i l hi hlt hl e => ?_)).trans hk
      rcases g2.old i hi with q | q | ⟨_, kb, hkb⟩
      · cases q
      · have hlt' : i < s2.nx := hlt
        have q' : s2.nx ≤ i := q
        omega
      · obtain ⟨l2, e1, c2, fr, e2, _⟩ := hsW.hr i kb trivial hkb
        rw [hl] at e1; cases e1
        rw [e, hk] at e2
        cases e2
        cases hoc
    · rcases hbb with rfl | rfl
      · refine keep_row hs3 g1 g2 hbs hwb (fun v v' hv hv' => ?_) hlb hrow
        simp only [VR] at hv hv'
        obtain ⟨l1, c1, e1, rfl, _, e2, _⟩ := hv
        obtain ⟨l2, c2, e3, rfl, _, e4, _⟩ := hv'
        rw [hext _ _ e1] at e3; cases e3
        have : c1 = c2 := by omega
        rw [this]
      · refine keep_row hs3 g1 g2 hbn hwn (fun v v' hv hv' => ?_) hln hrow
        simp only [VR] at hv hv'
        rw [hv.1, hv'.1]
    · rcases List.mem_append.1 hi with q | q
      · exact g1.wrs i q
      · have := hs.wrs i q
        have := g2.nx
        show i < s4.nx
        have h3 : s2.nx ≤ s4.nx := g2.nx
        omega
  case done =>
    rintro D xs W hD hS ⟨_, h2⟩ hdef
    obtain ⟨ν', q1, q2⟩ := h2 (by rw [hS]; simp)
    have hda := hs.df
    have hbare : ∀ ds, Act.bare { a with defers := ds } = a := fun ds => by
      obtain ⟨tm, df⟩ := a
      simp only at hda
      subst hda
      rfl
    refine hQ _ W ν' D (by rw [hbare]; exact q1) hD (by rw [hda]; rfl) hdef q2
end
end Go.Proofs.YtjpfhhndjpdmoaaGreatDoor

namespace Go.Proofs.YtjpfhhndjpdmoaaGreatDoor
open Go.RowKit
set_option linter.unusedVariables false
set_option linter.unusedSectionVars false
set_option linter.unusedSimpArgs false

def spIn (H : Hp) (T : Tr LV) : Option (Nat × Nat × Nat × Nat × Nat) := match T.get 56 with
  | some (.fn (.func f) [.ptr bs 0, .ptr bn 0]) => match H.get bs, H.get bn with
    | some ⟨t1, true, false, [.buf b off len 1]⟩, some ⟨t2, true, false, [.v (.int .i64 (.ofNat c))]⟩ =>
      match (Nat.beq f chF && (Nat.beq t1 22 && Nat.beq t2 3)) && (Nat.beq c 99 && (Nat.ble 1 len && Nat.ble len 99)) with
      | true => some (bs, bn, b, off, len)
      | false => none
    | _, _ => none
  | _ => none
theorem spIn_ok {H : Hp} {T : Tr LV} {bs bn b off len : Nat} (h : spIn H T = some (bs, bn, b, off, len)) :
    T.get 56 = some (.fn (.func chF) [.ptr bs 0, .ptr bn 0]) ∧ H.get bs = some ⟨22, true, false, [.buf b off len 1]⟩ ∧ H.get bn = some ⟨3, true, false, [.v (.int .i64 99)]⟩ ∧ 0 < len ∧ len ≤ 99 := by
  unfold spIn at h
  split at h
  · rename_i f bs' bn' h1
    split at h
    · rename_i t1 b' off' len' t2 c h2 h3
      split at h
      · rename_i hb
        cases h
        simp only [Bool.and_eq_true] at hb
        obtain ⟨⟨e1, e2, e3⟩, e4, e5, e6⟩ := hb
        have e1 := nbeq e1
        have e2 := nbeq e2
        have e3 := nbeq e3
        have e4 := nbeq e4
        subst e1 e2 e3 e4
        exact ⟨h1, h2, h3, Nat.le_of_ble_eq_true e5, Nat.le_of_ble_eq_true e6⟩
      · cases h
    · cases h
  · cases h
noncomputable def evSplit (nB : Nat) (callf : FuncId → List LV → Hp → Nat → Option Out) (args : List LV) (H : Hp) (nx : Nat) : Option Out :=
  match evPre Tryz.prog nB callf 100 5 spB ⟨args.length + (72 - args.length), argsT 0 args .nil, H, nx, []⟩ with
  | some (.normal, s1) => match evCQ Tryz.prog nB callf 100 (Cd.a (Cd.a spC6)) s1 with
    | some (.normal, s2) => match spIn s2.H s2.T with
      | some (bs, bn, b, off, len) => match evCQ Tryz.prog nB callf 100 (.region 12 spO true) ⟨s2.nt, (s2.T.set 57 (some (.slice b off len len))).set 9 (some (.slice b off len len)), s2.H, s2.nx, []⟩ with
        | some (.normal, s4) => match !(s4.wr.any (Nat.beq bs)) && (!(s4.wr.any (Nat.beq bn)) && Nat.beq s2.nt 72) with
          | true => match evCQ Tryz.prog nB callf 100 spEn ⟨s2.nt, s2.T, s4.H, s4.nx, []⟩ with
            | some (.ret, s6) => match resL Tryz.prog s6.T s6.H Tryz.f105.results.toList with
              | some rs => some ⟨oneL rs, olds nx s6.H (s6.wr ++ (s4.wr ++ s2.wr)) .nil ++ reach nx s6.H (s6.nx + 100000) ((oneL rs).ids ++ idsD (olds nx s6.H (s6.wr ++ (s4.wr ++ s2.wr)) .nil)) .nil [], s6.nx, none⟩
              | none => none
            | _ => none
          | false => none
        | _ => none
      | none => none
    | _ => none
  | _ => none
theorem any_no {l : List Nat} {x : Nat} (h : (!(l.any (Nat.beq x))) = true) : x ∉ l := by
  intro hm
  simp only [Bool.not_eq_true'] at h
  rw [List.any_eq_false] at h
  exact h x hm (Nat.beq_refl x)
section
variable {nB B : Nat} {w0 : World} {callf : FuncId → List LV → Hp → Nat → Option Out}
set_option maxRecDepth 100000 in
theorem split_ok (hc : EvOk Tryz.prog (GlobE Tryz.prog) nB B w0 callf) (hB : B ≤ w0.heap.size) : FnOk Tryz.prog nB B w0 spF (evSplit nB callf) := by
  intro args H nx out h hnx
  unfold evSplit at h
  split at h
  · rename_i s1 h1
    split at h
    · rename_i s2 h2
      split at h
      · rename_i bs bn b off len h3
        split at h
        · rename_i s4 h4
          split at h
          · rename_i hchk
            split at h
            · rename_i s6 h6
              split at h
              · rename_i rs hres
                cases h
                simp only [Bool.and_eq_true] at hchk
                obtain ⟨c1, c2, c3⟩ := hchk
                have c1 := any_no c1
                have c2 := any_no c2
                have c3 := nbeq c3
                obtain ⟨i1, i2, i3, i4, i5⟩ := spIn_ok h3
                rw [evCQ_eq, evCK_eq] at h2 h4 h6
                have hev : evReg Tryz.prog nB callf spO true ⟨s2.nt, (s2.T.set 57 (some (.slice b off len len))).set 9 (some (.slice b off len len)), s2.H, s2.nx, []⟩ = some s4 := by
                  simp only [evC] at h4
                  split at h4
                  · rename_i s5 h5
                    cases h4
                    exact h5
                  · cases h4
                have m2 : s1.nx ≤ s2.nx := evC_mono h2
                have m4 : s2.nx ≤ s4.nx := by have := evC_mono h4; exact this
                have m6 : s4.nx ≤ s6.nx := by have := evC_mono h6; exact this
                have hm : Tryz.prog.follows .mixedOrders = true := by kernel_rfl
                refine ⟨⟨_, Tryz.func105, by kernel_rfl, by kernel_rfl⟩, rfl, fun ν vs w hν hvs hH hlow hinj hid hg hb => ?_⟩
                have hν' : ∀ i, nx ≤ i → i < s6.nx → ν i = none := hν
                refine (callsIn_wide (n := 5)).1 (callsIn_of_wp_marks (c := spB) Tryz.func105 (by kernel_rfl) trivial ?_ rfl)
                refine wpIn_wide.2 ?_
                have hs0 := entry (P := Tryz.prog) (GE := GlobE Tryz.prog) (nt := 72) hvs hH hlow hinj hid hg hb
                have hnt : Tryz.f105.ntmps = 72 := by kernel_rfl
                rw [hnt]
                obtain ⟨m1, hpre⟩ := evPre_okF hm hc hB (Q := bodyPostM Fence.wide 5 Tryz.prog Tryz.f105 fun e w' => ∃ v' ν', e = .returned v' ∧ OpPost nB B w0 ν ν' H nx ⟨oneL rs, olds nx s6.H (s6.wr ++ (s4.wr ++ s2.wr)) .nil ++ reach nx s6.H (s6.nx + 100000) ((oneL rs).ids ++ idsD (olds nx s6.H (s6.wr ++ (s4.wr ++ s2.wr)) .nil)) .nil [], s6.nx, none⟩ w w' v') 5 spB _ s1 .normal h1
                have m1' : nx ≤ s1.nx := m1
                refine hpre hs0 (fun i q1 q2 => hν' i q1 (by omega)) (fun a1 w1 ν1 hs1 hf1 => ?_)
                have f1 := free_of (s2 := s6) hf1 (by omega) hν'
                refine wpSeq (c := spC6) (by kernel_rfl) ?_
                refine wpSeq (c := Cd.a spC6) (by kernel_rfl) ?_
                refine wp_mono ((code_all hm hc hB 100).1 _ s1 s2 .normal h2 ν1 a1 w1 hs1 (fun i q1 q2 => f1 i q1 (by omega))) ?_
                rintro e a2 w2 ⟨rfl, ν2, hs2, hf2⟩
                have f2 := free_of (s2 := s6) hf2 (by omega) f1
                show (Cd.b (Cd.a spC6)).wp Tryz.prog _ a2 w2
                refine wpBlock (by kernel_rfl) ?_
                refine sp_loop hc hB i1 i2 i3 i4 i5 c3 hev c1 c2 hs2 (fun i q1 q2 => f2 i q1 (by omega)) (fun a3 w3 ν3 D hs3 hD hdef hdo hf3 => ?_)
                have f3 := free_of (s2 := s6) hf3 (by show s4.nx ≤ s6.nx; omega) f2
                show spEn.wp Tryz.prog _ a3 w3
                have hs3' : StR Tryz.prog (GlobE Tryz.prog) nB B w0 ν3 ⟨s2.nt, s2.T, s4.H, s4.nx, []⟩ (Act.bare a3) w3 := ⟨hs3.hr, hs3.low, hs3.inj, hs3.ids, hs3.glob, hs3.below, hs3.tr, hs3.sz, hs3.df, fun i hi => by cases hi⟩
                refine wp_mono (flat_ok hc hB 100 spEn _ s6 .ret spEn_flat h6 ν3 a3 w3 hs3' f3) ?_
                rintro e a6 w6 ⟨rfl, hd6, ν6, hs6, hf6⟩
                have hD6 : w6.heap[D]? = some (.deferred (some [])) := hf6.others hs3' rfl hdo (fun c t fr e => by cases e)
                have hwD : w.heap.size ≤ D := Nat.le_trans hf1.size (Nat.le_trans hf2.size hD)
                have hBD : B ≤ D := Nat.le_trans (Nat.le_trans hB hb.size) hwD
                show LeavesInM Fence.wide 5 Tryz.prog _ a6.tmps _ a6.defers .returning w6
                rw [hd6, hdef]
                refine ⟨by simp [markOf], .inl ⟨D, _, rfl, run_takeDeferred hD6, ?_⟩⟩
                have hgr := grownBy_putObj' w6 D (.deferred none)
                have hFall := ((hf1.trans hf2).trans hf3).trans (hf6.addWr (s := ⟨s2.nt, s2.T, s4.H, s4.nx, s4.wr ++ s2.wr⟩) (T2' := s6.T) hs3.wrs)
                have hs6' : StR Tryz.prog (GlobE Tryz.prog) nB B w0 ν6 ⟨s2.nt, s6.T, s6.H, s6.nx, s6.wr ++ (s4.wr ++ s2.wr)⟩ (Act.bare a6) w6 := ⟨hs6.hr, hs6.low, hs6.inj, hs6.ids, hs6.glob, hs6.below, hs6.tr, hs6.sz.trans hf6.nt, hs6.df, fun i hi => by
                  rcases List.mem_append.1 hi with q | q
                  · exact hs6.wrs i q
                  · have q' : i < s4.nx := hs3.wrs i q
                    show i < s6.nx
                    omega⟩
                have hs7 := hs6'.grown (Nat.le_trans hB hs6.below.size) hgr (fun r e => by cases e; exact ⟨hBD, _, hD6, rfl⟩)
                have hF7 := hFall.grown hgr (fun r e => by cases e; exact hwD)
                obtain ⟨v, hv, hvv⟩ := results_ok hs7 hres
                refine ⟨v, hv, v, ν6, rfl, ?_⟩
                exact post_fin hs7 hF7 hvv
              · cases h
            · cases h
          · cases h
        · cases h
      · cases h
    · cases h
  · cases h
end
end Go.Proofs.YtjpfhhndjpdmoaaGreatDoor

namespace Go.Proofs.YtjpfhhndjpdmoaaGreatDoor
open Go.RowKit
set_option linter.unusedVariables false
set_option linter.unusedSimpArgs false

def words4 : List LV → Option (List UInt32)
  | [] => some []
  | .v (.int .u32 (.ofNat n)) :: l => if n < 4294967296 then (words4 l).map (UInt32.ofNat n :: ·) else none
  | _ => none
theorem words4_ok {ν : Env} : ∀ {cs : List LV} {h : List UInt32} {vs : List Value}, words4 cs = some h → VRs ν cs vs → vs = h.map D
  | [], h, vs, e, hv => by
    simp only [words4, Option.some.injEq] at e
    subst e
    rw [VRs.nil_iff.1 hv]; rfl
  | c :: cs, h, vs, e, hv => by
    unfold words4 at e
    split at e
    · rename_i e0; cases e0
    · rename_i n l e0
      cases e0
      split at e
      · rename_i hn
        cases hw : words4 cs with
        | none => rw [hw] at e; cases e
        | some h' =>
          rw [hw] at e
          cases e
          obtain ⟨u, us, rfl, h1, h2⟩ := VRs.cons_iff.1 hv
          rw [words4_ok hw h2]
          simp only [VR] at h1
          rw [h1.1]
          simp [D, UInt32.toNat_ofNat', Nat.mod_eq_of_lt hn]
      · cases e
    · cases e
def wordsLV (l : List UInt32) : LV := .agg (l.map fun q => .v (.int .u32 (.ofNat q.toNat)))
theorem wordsLV_ok {ν : Env} (l : List UInt32) : VR ν (wordsLV l) (.agg (AD l)) := by
  simp only [wordsLV, VR]
  refine ⟨l.map D, rfl, ?_⟩
  induction l with
  | nil => exact VRs.nil_iff.2 rfl
  | cons q l ih => exact VRs.cons_iff.2 ⟨_, _, rfl, by simp [VR, plainV, D], ih⟩
def pressO : List LV → Hp → Nat → Option Out := fun args H nx => match args with
  | [.agg cs, x] => match words4 cs, sliceB H x with
    | some h, some b => if h.length = 8 ∧ b.length = 64 then some ⟨wordsLV (pressS h b), [], nx, none⟩ else none
    | _, _ => none
  | _ => none
section
variable {nB : Nat} {w0 : World}
theorem press_ok (hW : HashW w0) : OneOk nB w0 197 pressO := by
  intro args H nx out h
  unfold pressO at h
  split at h
  · rename_i cs x
    split at h
    · rename_i hh b h1 h2
      split at h
      · rename_i hc
        rw [val_inv h]
        refine orc_val ⟨_, Tryz.func197, by kernel_rfl, by kernel_rfl⟩ (fun ν vs w hvs hH hb => ?_)
        obtain ⟨v1, v2, rfl, g1, g2⟩ := two_val hvs
        simp only [VR] at g1
        obtain ⟨us, rfl, g1⟩ := g1
        rw [words4_ok h1 g1]
        exact ⟨_, wordsLV_ok _, press_any hh v2 b w (hW.below hb).rounds hc.1 (sliceB_ok hH h2 g2).1 hc.2⟩
      · cases h
    · cases h
  · cases h
end
end Go.Proofs.YtjpfhhndjpdmoaaGreatDoor

namespace Go.Proofs.YtjpfhhndjpdmoaaGreatDoor
open Go.RowKit
set_option linter.unusedVariables false
set_option linter.unusedSimpArgs false

abbrev prF : FuncId := 197
abbrev tiF : FuncId := 84
abbrev veF : FuncId := 252
abbrev ofF : FuncId := 273
def fallO (g h : List LV → Hp → Nat → Option Out) (args : List LV) (H : Hp) (nx : Nat) : Option Out := match g args H nx with
  | some o => some o
  | none => h args H nx
theorem fallO_ok {P : Program} {nB B : Nat} {w0 : World} {f : FuncId} {g h : List LV → Hp → Nat → Option Out} (hg : FnOkW P nB B w0 f g) (hh : FnOkW P nB B w0 f h) : FnOkW P nB B w0 f (fallO g h) := by
  intro args H nx out e hn
  unfold fallO at e
  split at e
  · rename_i o ho
    cases e
    exact hg args H nx _ ho hn
  · exact hh args H nx out e hn
theorem OneOk.wide {nB : Nat} {w0 : World} {f : FuncId} {g : List LV → Hp → Nat → Option Out} (h : OneOk nB w0 f g) : FnOkW Tryz.prog nB w0.heap.size w0 f g :=
  FnOk.wide (fun args H nx out e _ => h args H nx out e)
noncomputable def orcN0 : Orc := withO prF pressO (withO tiF timesO orcP)
noncomputable def cfN0 : FuncId → List LV → Hp → Nat → Option Out := evFQ Tryz.prog GN 100000 orcN0 60
noncomputable def orcN1 : Orc := withO veF (locO cfN0 veF) orcN0
noncomputable def cfN1 : FuncId → List LV → Hp → Nat → Option Out := evFQ Tryz.prog GN 100000 orcN1 60
noncomputable def orcN2 : Orc := withO ofF (locO cfN1 ofF) orcN1
noncomputable def cfN2 : FuncId → List LV → Hp → Nat → Option Out := evFQ Tryz.prog GN 100000 orcN2 60
noncomputable def orcN3 : Orc := withO spF (fallO (evSplit GN cfN2) (cfN2 spF)) orcN2
noncomputable def cfN : FuncId → List LV → Hp → Nat → Option Out := evFQ Tryz.prog GN 100000 orcN3 60
theorem obT : Nat.ble OB tiF = false := by kernel_rfl
theorem obN : Nat.ble OB prF = false ∧ Nat.ble OB veF = false ∧ Nat.ble OB ofF = false ∧ Nat.ble OB spF = false := ⟨by kernel_rfl, by kernel_rfl, by kernel_rfl, by kernel_rfl⟩
theorem noH_N0 : NoH orcN0 := noH_with obN.1 (noH_with obT noH_P)
theorem noH_N1 : NoH orcN1 := noH_with obN.2.1 noH_N0
theorem noH_N2 : NoH orcN2 := noH_with obN.2.2.1 noH_N1
theorem noH_N3 : NoH orcN3 := noH_with obN.2.2.2 noH_N2
section
variable {w : World} (hW : HashW w) (hC : CurveW w)
include hW hC
theorem orcN0_ok : OrcOkW Tryz.prog GN w.heap.size w orcN0 := withO_ok (press_ok hW).wide (withO_ok (times_ok hC).wide (CallOk.wide (orcP_ok hW hC)))
theorem cfN0_ok : CallOkW Tryz.prog GN w.heap.size w cfN0 := by
  unfold cfN0
  rw [evFQ_evF]
  exact evF_okW (by kernel_rfl) (Nat.le_refl _) noGo szOB noH_N0 (orcN0_ok hW hC) 60
theorem orcN1_ok : OrcOkW Tryz.prog GN w.heap.size w orcN1 := withO_ok (locO_ok (cfN0_ok hW hC) obN.2.1) (orcN0_ok hW hC)
theorem cfN1_ok : CallOkW Tryz.prog GN w.heap.size w cfN1 := by
  unfold cfN1
  rw [evFQ_evF]
  exact evF_okW (by kernel_rfl) (Nat.le_refl _) noGo szOB noH_N1 (orcN1_ok hW hC) 60
theorem orcN2_ok : OrcOkW Tryz.prog GN w.heap.size w orcN2 := withO_ok (locO_ok (cfN1_ok hW hC) obN.2.2.1) (orcN1_ok hW hC)
theorem cfN2_ok : CallOkW Tryz.prog GN w.heap.size w cfN2 := by
  unfold cfN2
  rw [evFQ_evF]
  exact evF_okW (by kernel_rfl) (Nat.le_refl _) noGo szOB noH_N2 (orcN2_ok hW hC) 60
theorem evN2_ok : EvOk Tryz.prog (GlobE Tryz.prog) GN w.heap.size w cfN2 := by
  refine ⟨cfN2_ok hW hC, ?_⟩
  unfold cfN2
  rw [evFQ_evF]
  exact noOps szOB noH_N2
theorem orcN3_ok : OrcOkW Tryz.prog GN w.heap.size w orcN3 := by
  refine withO_ok (fallO_ok (FnOk.wide (split_ok (evN2_ok hW hC) (Nat.le_refl _))) (fun args H nx out e hn => cfN2_ok hW hC spF args H nx out obN.2.2.2 e hn)) (orcN2_ok hW hC)
theorem cfN_ok : CallOkW Tryz.prog GN w.heap.size w cfN := by
  unfold cfN
  rw [evFQ_evF]
  exact evF_okW (by kernel_rfl) (Nat.le_refl _) noGo szOB noH_N3 (orcN3_ok hW hC) 60
end
end Go.Proofs.YtjpfhhndjpdmoaaGreatDoor
