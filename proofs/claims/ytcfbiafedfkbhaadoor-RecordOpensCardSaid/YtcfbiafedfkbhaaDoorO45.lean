/- Part of the proof: RecordOpens. No conditions of its own. -/
import Derived.ArgAppend
import Derived.Below
import Derived.BigQuiet
import Derived.BigRegion
import Derived.ChangeOld
import Derived.Deep.AppendSrc
import Derived.Deep.CutBlock
import Derived.Deep.DeepCutAuto
import Derived.Deep.Draws
import Derived.Deep.LoopGhost
import Derived.Deep.MidRow
import Derived.Deep.Quiet
import Derived.Deep.QuietTactic
import Derived.Deep.RegionHeld3
import Derived.Deep.RegionLaw
import Derived.Deep.Upon
import Derived.Laws.AppendOwnNone
import Derived.Laws.Bits64
import Derived.Laws.BitsAllLaws
import Derived.Laws.BytesArg
import Derived.Laws.Concat
import Derived.Laws.CopyOwn
import Derived.Laws.MakeOwn
import Derived.Lib.AppendStr
import Derived.Lib.AppendZerosOnto
import Derived.Lib.BufferMore
import Derived.Lib.BufferWrite
import Derived.Lib.ConvBytes
import Derived.Lib.Hide
import Derived.Lib.SlBuf
import Derived.Lib.SlBytesConst
import Derived.LoopIn
import Derived.LoopNIn
import Derived.Maps.AppendAt
import Derived.OpenShut
import Derived.OrdersIn
import Derived.OwnWalkIn
import Derived.ProofKit
import Derived.RangeFuncBound
import Derived.RangeFuncBox
import Derived.RangeFuncCalls
import Derived.RangeFuncLeaves
import Derived.RangeFuncNested
import Derived.Shelf.Abstract
import Derived.ShutString
import Derived.StillTail
import Derived.TacticsIn
import Derived.TacticsInMore
import Derived.Test.YtcfbiafedfkbhaaDoorChecked
import Derived.Test.YtcfbiafedfkbhaaDoorProg
import Derived.WalkKit
import Derived.WalkSpells
import Derived.Test.YtcfbiafedfkbhaaDoorO33
import Derived.Test.YtcfbiafedfkbhaaDoorO42
import Derived.Test.YtcfbiafedfkbhaaDoorO43
import Derived.Test.YtcfbiafedfkbhaaDoorO44
namespace Go.Proofs.YtcfbiafedfkbhaaDoor
open Go.RowKit
set_option linter.unusedVariables false
set_option linter.unusedSimpArgs false

structure R1 (w wr : World) (gm r : Nat) (sec : List UInt8) (v8 : Value) (ps : List (List UInt8)) : Prop where
  m : Row wr gm 39 (rhC sec r)
  str : StrR wr w.heap.size v8 ps
  bel : Below w.heap.size w wr
  len : ∀ p, p ∈ ps → 21 ≤ p.length ∧ p.length ≤ 300
  bx : Row wr w.heap.size 28 (AB sec)
theorem StrR.shape {w : World} {base : Nat} {v : Value} {ps : List (List UInt8)} (h : StrR w base v ps) : ∃ a c, v = .slice a ps.length c := by
  rcases h.2 with ⟨rfl, h0⟩ | ⟨g, cap, cur, rfl, _⟩
  · exact ⟨none, 0, by rw [h0]⟩
  · exact ⟨_, _, rfl⟩
section
variable {w wr w' : World} {gm r : Nat} {sec : List UInt8} {v8 : Value} {ps : List (List UInt8)}
theorem R1.below (h : R1 w wr gm r sec v8 ps) (hb : Below wr.heap.size wr w') : R1 w w' gm r sec v8 ps :=
  ⟨h.m.below hb h.m.lt, h.str.below hb, h.bel.trans (hb.mono h.bel.size), h.len, h.bx.below hb h.bx.lt⟩
theorem R1.grownM (h : R1 w wr gm r sec v8 ps) (hg : wr.grownBy w' (some gm)) {n : Nat} (hn : Row w' gm 39 (rhC sec n)) (hle : w.heap.size ≤ gm) : R1 w w' gm n sec v8 ps :=
  ⟨hn, h.str.kept hg h.m (by decide), h.bel.grown hg h.bel.size (fun j e => by obtain rfl := Option.some.inj e; exact hle), h.len,
    (row_congr (hg.block _ h.bx.lt (fun e => h.m.neT h.bx (by decide) (Option.some.inj e)))).trans h.bx⟩
theorem R1.setN (h : R1 w wr gm r sec v8 ps) (k : Nat) (hle : w.heap.size ≤ gm) : R1 w (wr.setCell ⟨gm, 1, none⟩ (.int .i64 (k : Int))) gm k sec v8 ps :=
  h.grownM (grownBy_setW wr gm 1 _) (h.m.set 1 (.int .i64 (k : Int))) hle
theorem R1.app (h : R1 w wr gm r sec v8 ps) {v' : Value} {p : List UInt8} (hs : StrR w' w.heap.size v' (ps ++ [p])) (hg : wr.grownBy w' v8.ownBlock) (hp : 21 ≤ p.length ∧ p.length ≤ 300) : R1 w w' gm r sec v' (ps ++ [p]) :=
  ⟨(row_congr (hg.block _ h.m.lt (fun e => ownsRow_ne h.str h.m (by decide) e.symm))).trans h.m, hs, h.bel.grown hg h.bel.size (fun j e => (World.ownsRow.lt h.str j e).1), fun q hq => by
    rcases List.mem_append.1 hq with hq | hq
    · exact h.len q hq
    · obtain rfl := List.mem_singleton.1 hq; exact hp,
    (row_congr (hg.block _ h.bx.lt (fun e => ownsRow_ne h.str h.bx (by decide) e.symm))).trans h.bx⟩
end
theorem OwnM.setB {w : World} {B0 b c : Nat} {l : List UInt8} (h : OwnM w B0 (.slice (some ⟨b, 0, none⟩) l.length c) l) {k : Nat} (hk : k < l.length) (y : UInt8) : OwnM (w.setCell ⟨b, k, none⟩ (B y)) B0 (.slice (some ⟨b, 0, none⟩) l.length c) (l.set k y) := by
  obtain ⟨b', cap, cur, fz, e, hb, hh, hf, h1, h2, h3, h4⟩ := h
  obtain ⟨e1, _, rfl⟩ := Value.slice.inj e
  obtain ⟨rfl, _, _⟩ := Addr.mk.inj (Option.some.inj e1)
  refine ⟨b, c, cur.setIfInBounds k (B y), fz, by rw [List.length_set], hb, Lib.heap_setCell_same hh _, by simpa using hf, by rw [List.length_set]; exact h1, by simpa using h2, h3, fun i hi => ?_⟩
  rw [List.length_set] at hi
  rw [gb_setN _ _ _ _ hk]
  by_cases e : k = i
  · subst e
    rw [if_pos rfl, Array.getElem?_setIfInBounds_self_of_lt (by omega)]
  · rw [if_neg e, Array.getElem?_setIfInBounds_ne e]
    exact h4 i hi
theorem OwnM.cellB {w : World} {B0 b c : Nat} {l : List UInt8} (h : OwnM w B0 (.slice (some ⟨b, 0, none⟩) l.length c) l) {k : Nat} (hk : k < l.length) : w.cell? ⟨b, k, none⟩ = some (B (gb l k)) ∧ w.frozen? ⟨b, k, none⟩ = false := by
  obtain ⟨b', cap, cur, fz, e, hb, hh, hf, h1, h2, h3, h4⟩ := h
  obtain ⟨e1, _, rfl⟩ := Value.slice.inj e
  obtain ⟨rfl, _, _⟩ := Addr.mk.inj (Option.some.inj e1)
  exact ⟨(cell_rowF hh).trans (h4 k hk), frozen_rowF hh hf (by omega)⟩
theorem OwnM.heapU {w : World} {B0 : Nat} {v : Value} {l : List UInt8} (h : OwnM w B0 v l) : ∃ b cur fz, v.ownBlock = some b ∧ B0 ≤ b ∧ w.heap[b]? = some (.cells cur 5 fz) := by
  obtain ⟨b, cap, cur, fz, rfl, hb, hh, _⟩ := h
  exact ⟨b, cur, fz, rfl, hb, hh⟩
theorem Row.neU {w : World} {g k : Nat} {cs ds : Array Value} {t : TypeId} {fz : Nat × Nat} (h : w.heap[g]? = some (.cells cs 5 fz)) (h' : Row w k t ds) (ht : t ≠ 5) : k ≠ g := fun e => by
  subst e
  rw [h'.heap] at h
  simp only [Option.some.injEq, Obj.cells.injEq] at h
  exact ht h.2.1
theorem HalfW.otherU {w w' : World} {g gm n : Nat} {sec : List UInt8} {cs : Array Value} {fz : Nat × Nat} (h : HalfW w g sec n) (hh : w.heap[gm]? = some (.cells cs 5 fz)) (hg : w.grownBy w' (some gm)) : HalfW w' g sec n := by
  obtain ⟨p, h1, h2⟩ := h
  have ex : ∀ (k : Nat) (t : TypeId) (ds : Array Value), Row w k t ds → t ≠ 5 → Row w' k t ds := fun k t ds h ht => (row_congr (hg.block k h.lt (fun e => Row.neU hh h ht (Option.some.inj e)))).trans h
  refine ⟨p, ex _ _ _ h1 (by decide), ?_⟩
  obtain ⟨xb, kp, e1, e2, ⟨kb, kk, cap, cur, k1, k2, k3, k4⟩, e4⟩ := h2
  exact ⟨xb, kp, e1, ex _ _ _ e2 (by decide), ⟨kb, kk, cap, cur, k1, ex _ _ _ k2 (by decide), ex _ _ _ k3 (by decide), k4⟩, e4⟩
section
variable {w wr w' : World} {g1 gm r r2 : Nat} {sec : List UInt8} {v8 : Value} {ps : List (List UInt8)}
structure O3 (w wr : World) (g1 gm r r2 : Nat) (sec : List UInt8) (v8 : Value) (ps : List (List UInt8)) : Prop where
  h : HalfW wr g1 sec r
  m : Row wr gm 39 (rhC sec r2)
  str : StrR wr w.heap.size v8 ps
  bel : Below w.heap.size w wr
theorem O3.below (k : O3 w wr g1 gm r r2 sec v8 ps) (hb : Below wr.heap.size wr w') : O3 w w' g1 gm r r2 sec v8 ps :=
  ⟨k.h.below hb, k.m.below hb k.m.lt, k.str.below hb, k.bel.trans (hb.mono k.bel.size)⟩
theorem O3.grownH (k : O3 w wr g1 gm r r2 sec v8 ps) (hg : wr.grownBy w' (some g1)) {n : Nat} (hn : HalfW w' g1 sec n) (hle : w.heap.size ≤ g1) : O3 w w' g1 gm n r2 sec v8 ps := by
  obtain ⟨cs, hr⟩ := k.h.row
  exact ⟨hn, rowM_other k.h k.m hg, k.str.kept hg hr (by decide), k.bel.grown hg k.bel.size (fun j e => by obtain rfl := Option.some.inj e; exact hle)⟩
theorem O3.grownM (k : O3 w wr g1 gm r r2 sec v8 ps) (hg : wr.grownBy w' (some gm)) {n : Nat} (hn : Row w' gm 39 (rhC sec n)) (hle : w.heap.size ≤ gm) : O3 w w' g1 gm r n sec v8 ps :=
  ⟨k.h.otherM k.m hg, hn, k.str.kept hg k.m (by decide), k.bel.grown hg k.bel.size (fun j e => by obtain rfl := Option.some.inj e; exact hle)⟩
theorem O3.grownU (k : O3 w wr g1 gm r r2 sec v8 ps) {b : Nat} {cs : Array Value} {fz : Nat × Nat} (hh : wr.heap[b]? = some (.cells cs 5 fz)) (hg : wr.grownBy w' (some b)) (hle : w.heap.size ≤ b) : O3 w w' g1 gm r r2 sec v8 ps := by
  refine ⟨k.h.otherU hh hg, (row_congr (hg.block _ k.m.lt (fun e => Row.neU hh k.m (by decide) (Option.some.inj e)))).trans k.m, ?_, k.bel.grown hg k.bel.size (fun j e => by obtain rfl := Option.some.inj e; exact hle)⟩
  refine World.ownsRow.kept k.str hg ?_
  rcases k.str.2 with ⟨hv, _⟩ | ⟨g, cap, cur, hv, _, hs, _⟩
  · left; rw [hv]; rfl
  · right
    rw [hv]
    intro e
    obtain rfl := Option.some.inj e
    rw [hs] at hh
    simp only [Option.some.injEq, Obj.cells.injEq] at hh
    exact absurd hh.2.1 (by decide)
end
theorem OwnM.otherR {w w' : World} {B0 g : Nat} {v : Value} {l : List UInt8} {t : TypeId} {cs : Array Value} (h : OwnM w B0 v l) (hr : Row w g t cs) (ht : t ≠ 5) (hg : w.grownBy w' (some g)) : OwnM w' B0 v l :=
  h.congr fun k e => by
    obtain ⟨b, cur, fz, e1, _, hh⟩ := h.heapU
    rw [e1] at e
    obtain rfl := Option.some.inj e
    exact hg.block b (Array.getElem?_eq_some_iff.1 hh).1 (fun e2 => Row.neU hh hr ht (Option.some.inj e2).symm)
def opF (B : Nat) (sec : List UInt8) (d : Tmp) (v : Value) (w : World) : Prop :=
  (d = 133 → ∃ g, v = .pointer (some ⟨g, 0, none⟩) ∧ B ≤ g ∧ HalfW w g sec 0) ∧ (d = 137 → ∃ g, v = .pointer (some ⟨g, 0, none⟩) ∧ B ≤ g ∧ Row w g 39 (rhC sec 0))
theorem opF_stab (B : Nat) (sec : List UInt8) : StabP (opF B sec) := by
  intro d v w w' h hb
  refine ⟨fun e => ?_, fun e => ?_⟩
  · obtain ⟨g, h1, h2, h3⟩ := h.1 e
    exact ⟨g, h1, h2, h3.below hb⟩
  · obtain ⟨g, h1, h2, h3⟩ := h.2 e
    exact ⟨g, h1, h2, h3.below hb h3.lt⟩
theorem StrR.cellS {w : World} {base : Nat} {a : Option Addr} {n c : Nat} {ps : List (List UInt8)} (h : StrR w base (.slice a n c) ps) {i : Nat} (hi : i < ps.length) : ∃ g, a = some ⟨g, 0, none⟩ ∧ n = ps.length ∧ n ≤ c ∧ c ≤ maxLen ∧ w.cell? ⟨g, i, none⟩ = some (S (ps.getD i [])) := by
  rcases h.2 with ⟨e, h0⟩ | ⟨g, cap, cur, e, _, hh, h1, h2, h3, h4⟩
  · omega
  · obtain ⟨rfl, rfl, rfl⟩ := Value.slice.inj e
    refine ⟨g, rfl, rfl, h1, h2, ?_⟩
    have hrow : Row w g 9 cur := .of_heap hh
    rw [hrow.cell, ← Array.getElem?_toList]
    have : (cur.toList.take (ps.length * 1))[i]? = (ps.map S)[i]? := by rw [h4]
    rw [List.getElem?_take, if_pos (by omega)] at this
    rw [this]
    simp [hi]
set_option maxRecDepth 100000 in
set_option maxHeartbeats 8000000 in
theorem ropens_any (w : World) (sec : List UInt8) (vl vo : Value) (ls : List Ln) (zs : List Int) (hk : sec.length = 32) (hl : LinesIn w vl ls) (hz : NumS w vo zs) (hv : HashW w) : Calls Tryd.prog 5 #[.agg (AB sec), vl, vo] w fun e w' => e = .returned (.bool true) ∧ Below w.heap.size w w' := by
  obtain ⟨al, cl, rfl, hlc, hlm, hll⟩ := hl
  obtain ⟨ao, co, rfl, hzz⟩ := id hz
  clear hzz
  have HLL := Lib.hid hll
  have HZ := Lib.hid hz
  have HV := Lib.hid hv
  have HK := Lib.hid hk
  have hks := (AB_size sec).trans hk
  have hsk := sub_all (AB sec) 32 hks
  have z32 : 0 + 32 ≤ (AB sec).size := by rw [hks]; decide
  obtain ⟨NZ, hNZ⟩ : ∃ N, N = ls.length := ⟨_, rfl⟩
  obtain ⟨NO, hNO⟩ : ∃ N, N = zs.length := ⟨_, rfl⟩
  rw [← hNZ] at hlc ⊢
  rw [← hNO]
  have HNZ := Lib.hid (⟨hNZ, hlc, hlm, hNO⟩ : _ ∧ _ ∧ _ ∧ _)
  have i0 : Row (w.alloc (.cells (AB sec) 28)) w.heap.size 28 (AB sec) := Row.new _ _ _
  have HA0 := Lib.hid (show Below w.heap.size w (w.alloc (.cells (AB sec) 28)) from (Below.refl _ _).alloc (Nat.le_refl _) _)
  have hcs := run_conv_slb (P := Tryd.prog) (w.alloc (.cells (AB sec) 28)) 23 5 9 Tryd.underlying23 Tryd.underlying5 Tryd.underlying9 (.slice (some ⟨w.heap.size, 0, none⟩) 32 32) sec
    (by have := i0.slW (l := sec) (by rw [hk]; decide); rwa [hk] at this)
  clear hll hv hk hNZ hlc hlm hNO hz
  go_enter Tryd.func5, Tryd.ntmps5
  go_upto_region 2 with (fail)
  obtain ⟨w0, hw0⟩ : ∃ W, W = w.alloc (.cells (AB sec) 28) := ⟨_, rfl⟩
  have hs0 : w.heap.size < w0.heap.size := by rw [hw0]; simp
  rw [← hw0] at i0 HA0 ⊢
  obtain ⟨gm, hgm⟩ : ∃ g, g = w.heap.size + 1 := ⟨_, rfl⟩
  have hgm0 : gm = w0.heap.size := by rw [hw0, hgm]; simp
  have HR0 := Lib.hid (show R1 w (w0.alloc (.cells #[S sec, .int .i64 0] 39)) gm 0 sec (.slice none 0 0) [] from
    ⟨Row.newAt _ _ _ _ hgm0, StrR.nil _ _, HA0.out.alloc HA0.out.size _, (fun p hp => by cases hp), i0.alloc _⟩)
  have HGM := Lib.hid (show w.heap.size ≤ gm by omega)
  rw [← hgm]
  clear hw0 hs0 hgm0 hcs HA0 i0 hgm
  go_upto_block 0 with (fail)
  go_cut [8] (fun t8 wr => ∃ (r : Nat) (ps : List (List UInt8)) (a8 : Option Addr) (c8 : Nat), t8 = .slice a8 ps.length c8 ∧ ps.length ≤ 6 ∧ R1 w wr gm r sec t8 ps)
  case first =>
    --<L
    go_wp2_with fail
    go_loopg [8, 9] 6 (fun gk t8 t9 wr => ∃ (i r : Nat) (ps : List (List UInt8)) (a8 : Option Addr) (c8 : Nat), gk + i = 6 ∧ t9 = .int .i64 (i : Int) ∧ t8 = .slice a8 ps.length c8 ∧ ps.length ≤ i ∧ R1 w wr gm r sec t8 ps)
    case atStart => exact ⟨0, 0, [], none, 0, rfl, rfl, rfl, Nat.le_refl _, HR0.out⟩
    case round =>
      clear HR0
      obtain ⟨i, r, ps, a8, c8, hgi, rfl, rfl, hpi, hR⟩ := hrel
      obtain ⟨PN, hPN⟩ : ∃ n, n = ps.length := ⟨_, rfl⟩
      rw [← hPN] at hR hpi ⊢
      have HR := Lib.hid hR
      have HGI := Lib.hid (⟨hgi, hpi, hPN⟩ : _ ∧ _ ∧ _)
      have hi6 : (i : Int) ≤ 6 := by omega
      clear hR hgi hpi hPN
      by_cases h6 : i < 6 ∧ i < NZ
      · obtain ⟨h6, hz⟩ := h6
        have c1 : (i : Int) < 6 := by omega
        have c2 : (i : Int) < (NZ : Int) := by omega
        have c3 : (0 : Int) ≤ (i : Int) := by omega
        have c4 : ((i : Int)).toNat = i := by omega
        obtain ⟨ln, hln⟩ : ∃ l, ls[i]? = some l := ⟨_, List.getElem?_eq_getElem (by have := HNZ.out.1; omega)⟩
        obtain ⟨b, o, vb, rfl, hrg, hpb⟩ := HLL.out i ln hln
        obtain ⟨kd, bs, p⟩ := ln
        simp only at hrg hpb
        obtain ⟨ab, cb, rfl, hcb⟩ := hpb.shape
        have HRW := Lib.hid hrg
        have hrg := rangeAt_below hrg HR.out.bel
        have HPW := Lib.hid hpb
        have HRG := Lib.hid hrg
        have HP := Lib.hid (⟨h6, hz, hcb⟩ : _ ∧ _ ∧ _)
        obtain ⟨nb, hnb⟩ : ∃ n, n = bs.length := ⟨_, rfl⟩
        rw [← hnb] at HRG HRW HPW HP
        have HNB := Lib.hid hnb
        obtain ⟨BX, hBX⟩ : ∃ l, l = bs.take 60 := ⟨_, rfl⟩
        have HBX := Lib.hid (⟨hBX, (by rw [hBX, List.length_take]; omega)⟩ : BX = bs.take 60 ∧ BX.length ≤ 60)
        have cB : wr.drew.cell? ⟨b, o + i * 3 + 1, none⟩ = some (.slice ab nb cb) := by have := HRG.out 1 _ rfl; exact this
        have c5 : (i : Int) * 3 = ((i * 3 : Nat) : Int) := by omega
        clear hrg hpb hln h6 hz hcb hnb hBX
        go_upto_region 6 with (fail)
        go_cut [10] (fun t10 wx => (∃ n c, t10 = .slice ab n c ∧ n = (BX.length : Nat)) ∧ wx = wr.drew ∧ PB w t10 BX)
        case first =>
          --<A
          rcases Nat.lt_or_ge 60 nb with h | h
          · have hl1 : ¬ ((nb : Int) ≤ 60) := by omega
            have hl2 : (60 : Int) < (nb : Int) := by omega
            have hl3 : (60 : Int) ≤ (cb : Int) := by have := HP.out.2.2; omega
            have HPT := Lib.hid (show PB w (.slice ab 60 cb) BX by rw [HBX.out.1]; exact HPW.out.take 60 (by omega))
            have HBL := Lib.hid (show 60 = BX.length by rw [HBX.out.1, List.length_take, ← HNB.out]; omega)
            clear h
            refine wp_region_qtail (fun w' => w' = _) 12 (by kernel_rfl) (by kernel_rfl) rfl ?_
            simp only [List.take_succ_cons, List.take_zero, List.drop_succ_cons, List.drop_zero]
            repeat (first | go_big_quiet_skip | (go_big_quiet_want; go_big_quiet_op; go_big_quiet_on))
            refine wpQuiet_nil ?_
            rintro _ rfl
            go_wp2_with fail
            go_meet
            case rel => exact ⟨⟨60, cb, (by rw [show (min (nb : Int) 60).toNat = 60 by omega]), HBL.out⟩, rfl, (by rw [show (min (nb : Int) 60).toNat = 60 by omega]; exact HPT.out)⟩
          · have hl1 : (nb : Int) ≤ 60 := by omega
            have hl2 : ¬ (60 : Int) < (nb : Int) := by omega
            have hl3 : (nb : Int) ≤ (cb : Int) := by have := HP.out.2.2; omega
            have HPT := Lib.hid (show PB w (.slice ab nb cb) BX by rw [HBX.out.1, List.take_of_length_le (by rw [← HNB.out]; exact h)]; exact HPW.out)
            have HBL := Lib.hid (show nb = BX.length by rw [HBX.out.1, List.length_take, ← HNB.out]; omega)
            clear h
            refine wp_region_qtail (fun w' => w' = _) 12 (by kernel_rfl) (by kernel_rfl) rfl ?_
            simp only [List.take_succ_cons, List.take_zero, List.drop_succ_cons, List.drop_zero]
            repeat (first | go_big_quiet_skip | (go_big_quiet_want; go_big_quiet_op; go_big_quiet_on))
            refine wpQuiet_nil ?_
            rintro _ rfl
            go_wp2_with fail
            go_meet
            case rel => exact ⟨⟨nb, cb, (by rw [show (min (nb : Int) 60).toNat = nb by omega]), HBL.out⟩, rfl, (by rw [show (min (nb : Int) 60).toNat = nb by omega]; exact HPT.out)⟩
          --A>
        case rest =>
          obtain ⟨⟨BN, c10, rfl, hBN⟩, hw, hPB⟩ := hcut
          subst hw
          have HR2 := Lib.hid (HR.out.below (Below.refl _ _).drew)
          have HPXW := Lib.hid hPB
          have HPX := Lib.hid (hPB.below HR2.out.bel)
          have HBN := Lib.hid hBN
          have b60 : (BN : Int) ≤ 60 := by have := HBX.out.2; omega
          have b61 : (0 : Int) ≤ (BN : Int) := by omega
          have hrgd := (World.rangeAt_drew wr b (o + i * 3) [.int .i64 kd, .slice ab nb cb, .int .i64 p]).2 HRG.out
          have cP : wr.drew.cell? ⟨b, o + i * 3 + 2, none⟩ = some (.int .i64 p) := hrgd 2 _ rfl
          have cK : wr.drew.cell? ⟨b, o + i * 3, none⟩ = some (.int .i64 kd) := by have := hrgd 0 _ rfl; exact this
          obtain ⟨q, hq⟩ : ∃ q, p.tmod 4 = q := ⟨_, rfl⟩
          clear hPB hBN cB hrgd HR HRG
          by_cases hq1 : q = 1
          · subst hq1
            --<W
            go_upto_region 8 with (fail)
            have c0 : wr.drew.cell? ⟨gm, 0, none⟩ = some (S sec) := HR2.out.m.cell 0
            obtain ⟨HD, hHD⟩ : ∃ h, h = headS 23 (BN + 16) := ⟨_, rfl⟩
            have hHDl : HD.length = 5 := by rw [hHD]; rfl
            have HH := Lib.hid (fun W => show Calls Tryd.prog 17 #[.int .i64 23, .int .i64 ((BN : Int) + 16)] W (fun e w' => e = .returned (S HD) ∧ Below W.heap.size W w') by rw [hHD]; exact rhead_23 W BN (by omega))
            obtain ⟨SW, hSW⟩ : ∃ s, s = sealB (expand (keyS sec)) (lastOf (keyS sec)) (hOf (keyS sec)) (livS sec i) BX HD := ⟨_, rfl⟩
            have hSWl : SW.length = BX.length + 16 := by rw [hSW]; exact sealB_len _ _ _ _ _ _
            have HG := Lib.hid (fun W => show Calls Tryd.prog 18 #[S (keyS sec), .agg (AB (livS sec i)), S BX, S HD] W (fun e w' => e = .returned (S SW) ∧ Below W.heap.size W w') by
              rw [hSW]
              exact refGSeal_any (keyS sec) (livS sec i) BX HD W (.inl (keyS_len sec)) (livS_len sec i) (by have := HBX.out.2; omega) (by omega))
            obtain ⟨RC, hRC⟩ : ∃ r, r = HD ++ SW := ⟨_, rfl⟩
            have hRCl : 21 ≤ RC.length ∧ RC.length ≤ 300 := by rw [hRC, List.length_append]; have := HBX.out.2; omega
            have a3 : ∀ W, (Op.stringOp .add ⟨HD.toArray⟩ ⟨SW.toArray⟩).run Tryd.prog W = .ok (S RC) W := fun W => by rw [hRC]; exact add_W HD SW (by have := HBX.out.2; omega) W
            have HRC := Lib.hid hRCl
            have HLN := Lib.hid (show (ps ++ [RC]).length = PN + 1 by rw [List.length_append, ← HGI.out.2.2]; rfl)
            clear hHD hHDl hSW hSWl hRC hRCl cP cK hq
            go_wp2_with fail
            refine (rlab_key _ sec HK.out).mono ?_
            rintro e w2 ⟨rfl, hB2⟩
            have HR3 := Lib.hid (HR2.out.below hB2)
            have HPX3 := Lib.hid (HPX.out.below hB2)
            have c1' : w2.cell? ⟨gm, 0, none⟩ = some (S sec) := HR3.out.m.cell 0
            clear hB2 c0 HR2 HPX
            obtain ⟨g13, hg13⟩ : ∃ g, g = w2.heap.size := ⟨_, rfl⟩
            have hal : Below w2.heap.size w2 (w2.alloc (.cells #[S sec, .int .i64 (i : Int)] 39)) := (Below.refl _ _).alloc (Nat.le_refl _) _
            have HA3 := Lib.hid hal
            have H13 := Lib.hid (show Row (w2.alloc (.cells #[S sec, .int .i64 (i : Int)] 39)) g13 39 (rhC sec i) from Row.newAt _ _ _ _ hg13)
            clear hal
            go_wp2_with fail
            refine (HH.out _).mono ?_
            rintro e w3 ⟨rfl, hB3⟩
            have HR4 := Lib.hid ((HR3.out.below HA3.out).below hB3)
            have HPX4 := Lib.hid ((HPX3.out.below HA3.out).below hB3)
            have H14 := Lib.hid (H13.out.below hB3 H13.out.lt)
            rw [← hg13]
            clear hB3 c1' hg13 HR3 HPX3 H13 HA3
            have hcv0 := run_conv_pb w3.drew _ BX (HPX4.out.below (Below.refl _ _).drew)
            go_upto_region 11 with (fail)
            go_region_law (first
              | (refine wp_callO 19 #[.pointer (some ⟨g13, 0, none⟩)] ?_ ?_
                 (focus (simp [go_sem]; done))
                 refine (liv_any _ g13 i _ sec H14.out.drew HK.out (by have := HP.out.1; omega)).mono ?_
                 rintro e w4 ⟨rfl, hB⟩
                 refine ⟨_, rfl, ?_⟩
                 have HR5 := Lib.hid (HR4.out.below ((Below.refl _ _).drew.trans hB))
                 have hcv1 := run_conv_pb w4 _ BX (HPX4.out.below ((Below.refl _ _).drew.trans hB))
                 clear hB)
              | (refine wp_callO 18 #[S (keyS sec), .agg (AB (livS sec i)), S BX, S HD] ?_ ?_
                 (focus (simp [go_sem]; done))
                 refine (HG.out _).mono ?_
                 rintro e w5 ⟨rfl, hB⟩
                 refine ⟨_, rfl, ?_⟩
                 have HR6 := Lib.hid (HR5.out.below hB)
                 clear hB)
              | (refine wp_appStrR (.tmp 81) (.tmp 91) (by rfl) w.heap.size (.slice a8 PN c8) ps (by rfl) (HR6.out.str.below ((Below.refl _ _).alloc (Nat.le_refl _) _)) w5.heap.size RC (by rfl) ((Row.new _ _ _).cell 0) (by have := HGI.out; omega) (by have := HR6.out.bel.size; simp; omega) ?_
                 rintro v9 w6 hs hg
                 have HR7 := Lib.hid ((HR6.out.below ((Below.refl _ _).alloc (Nat.le_refl _) _)).app hs hg HRC.out)
                 obtain ⟨a9, c9, e9⟩ := hs.shape
                 rw [HLN.out] at e9
                 subst e9
                 clear hs hg)
              | fail)
            all_goals
              have hN : w6.frozen? ⟨gm, 1, none⟩ = false := HR7.out.m.frozen 1
              have cN : w6.cell? ⟨gm, 1, none⟩ = some (.int .i64 (r : Int)) := HR7.out.m.cell 1
              have HR8 := Lib.hid (show R1 w (w6.setCell ⟨gm, 1, none⟩ (.int .i64 ((i : Int) + 1))) gm (i + 1) sec (.slice a9 (PN + 1) c9) (ps ++ [RC]) by
                have := HR7.out.setN (i + 1) HGM.out
                rw [show ((i + 1 : Nat) : Int) = (i : Int) + 1 by omega] at this
                exact this)
              go_wp2_with fail
              go_roundg (gk - 1)
              case measure => have := HGI.out; have := HP.out; omega
              case rel => exact ⟨i + 1, i + 1, ps ++ [RC], a9, c9, by have := HGI.out; have := HP.out; omega, by go_num, by rw [HLN.out], by have := HGI.out; have := HLN.out; omega, HR8.out⟩
            --W>
          · have hq2 : (q == 1) = false := by rw [beq_eq_false_iff_ne]; exact hq1
            --<V
            have fN : wr.drew.frozen? ⟨gm, 1, none⟩ = false := HR2.out.m.frozen 1
            have fN0 : wr.frozen? ⟨gm, 1, none⟩ = false := HR2.out.m.frozen 1
            have cN0 : wr.cell? ⟨gm, 1, none⟩ = some (.int .i64 (r : Int)) := HR2.out.m.cell 1
            go_upto_region 14 with (fail)
            have hBX := HBX.out.2
            obtain ⟨q3, hq3, hq4⟩ : ∃ s : Nat, (IntKind.u64.wrap kd).tmod 3 = (s : Int) ∧ s < 3 := by
              have h1 : 0 ≤ IntKind.u64.wrap kd := by rw [IntKind.wrap_u64]; omega
              refine ⟨((IntKind.u64.wrap kd).tmod 3).toNat, ?_, ?_⟩
              · rw [Int.tmod_eq_emod_of_nonneg h1]; omega
              · rw [Int.tmod_eq_emod_of_nonneg h1]; omega
            obtain ⟨q5, hq5, hq6⟩ : ∃ s : Nat, (IntKind.u64.wrap p).tmod 50 = (s : Int) ∧ s < 50 := by
              have h1 : 0 ≤ IntKind.u64.wrap p := by rw [IntKind.wrap_u64]; omega
              refine ⟨((IntKind.u64.wrap p).tmod 50).toNat, ?_, ?_⟩
              · rw [Int.tmod_eq_emod_of_nonneg h1]; omega
              · rw [Int.tmod_eq_emod_of_nonneg h1]; omega
            obtain ⟨k, hkk⟩ : ∃ k, k = 21 + q3 := ⟨_, rfl⟩
            have hk1 : (21 : Int) + (q3 : Int) = (k : Int) := by omega
            have hk2 : 21 ≤ k ∧ k ≤ 23 := by omega
            have v1 : IntKind.i64.wrap (q3 : Int) = (q3 : Int) := by rw [IntKind.wrap_i64]; omega
            have v2 : IntKind.i64.wrap (q5 : Int) = (q5 : Int) := by rw [IntKind.wrap_i64]; omega
            have v3 : IntKind.i64.wrap (k : Int) = (k : Int) := by rw [IntKind.wrap_i64]; omega
            have v4 : IntKind.i64.wrap ((21 : Int) + (q3 : Int)) = (k : Int) := by rw [IntKind.wrap_i64]; omega
            obtain ⟨RC, hRC⟩ : ∃ r, r = recS sec i (innS k BX q5) := ⟨_, rfl⟩
            have hRCl : 21 ≤ RC.length ∧ RC.length ≤ 300 := by rw [hRC, recS_len, innS_len]; omega
            have HSE := Lib.hid (fun W (h : Row W gm 39 (rhC sec i)) => show Calls Tryd.prog 15 #[.pointer (some ⟨gm, 0, none⟩), .int .i64 (k : Int), S BX, .int .i64 (q5 : Int)] W (fun e w' =>
                e = .returned (.tuple #[S RC, .int .i64 0]) ∧ Row w' gm 39 (rhC sec (i + 1)) ∧ W.grownBy w' (some gm)) by
              rw [hRC]
              exact rrs_ok W gm i k q5 sec BX h HK.out hk2 (by omega) (by have := HP.out.1; omega))
            have HRC := Lib.hid hRCl
            obtain ⟨w2, hw2⟩ : ∃ W, W = (wr.setCell ⟨gm, 1, none⟩ (.int .i64 (i : Int))).drew := ⟨_, rfl⟩
            have HR3 := Lib.hid (show R1 w w2 gm i sec (.slice a8 PN c8) ps by rw [hw2]; exact (HR2.out.setN i HGM.out))
            rw [← hw2]
            have hrg2 := rangeAt_below HRW.out (HR3.out.below (Below.refl _ _).drew).bel
            have cP : w2.drew.cell? ⟨b, o + i * 3 + 2, none⟩ = some (.int .i64 p) := hrg2 2 _ rfl
            have cK : w2.drew.cell? ⟨b, o + i * 3, none⟩ = some (.int .i64 kd) := by have := hrg2 0 _ rfl; exact this
            have HPV := Lib.hid (HPXW.out.below (HR3.out.below (Below.refl _ _).drew).bel)
            have hcv := run_conv_pb w2.drew _ BX HPV.out
            clear hw2 hrg2 hq4 hq6 hkk hk2 hRC hRCl fN fN0 cN0 hBX
            go_region_law (first
              | (refine wp_callO 15 #[.pointer (some ⟨gm, 0, none⟩), .int .i64 (k : Int), S BX, .int .i64 (q5 : Int)] ?_ ?_
                 (focus (simp [go_sem]; done))
                 refine (HSE.out _ (HR3.out.below (Below.refl _ _).drew).m).mono ?_
                 rintro e w3 ⟨rfl, hrow, hg⟩
                 refine ⟨_, rfl, ?_⟩
                 have HR4 := Lib.hid ((HR3.out.below (Below.refl _ _).drew).grownM hg hrow HGM.out)
                 clear hrow hg)
              | fail)
            all_goals
              clear v1 v2 v3 v4 hq3 hq5 hk1 cP cK hcv
              have HLN := Lib.hid (show (ps ++ [RC]).length = PN + 1 by rw [List.length_append, ← HGI.out.2.2]; rfl)
              go_wp2_with (at_builtin; refine wpl_appStrR rfl (.tmp 128) (.tmp 130) rfl w.heap.size (.slice a8 PN c8) ps rfl (HR4.out.str.below ((Below.refl _ _).alloc (Nat.le_refl _) _)) w3.heap.size RC rfl ((Row.new _ _ _).cell 0) (by have := HGI.out; omega) (by have := HR4.out.bel.size; simp; omega) ?_)
              intro v9 w6 hs hg
              have HR7 := Lib.hid ((HR4.out.below ((Below.refl _ _).alloc (Nat.le_refl _) _)).app hs hg HRC.out)
              obtain ⟨a9, c9, e9⟩ := hs.shape
              rw [HLN.out] at e9
              subst e9
              clear hs hg
              go_wp2_with fail
              go_roundg (gk - 1)
              case measure => have := HGI.out; have := HP.out; omega
              case rel => exact ⟨i + 1, i + 1, ps ++ [RC], a9, c9, by have := HGI.out; have := HP.out; omega, by go_num, by rw [HLN.out], by have := HGI.out; have := HLN.out; omega, HR7.out⟩
            --V>
      · have H6 := Lib.hid h6
        clear h6
        by_cases hz : i < NZ
        · have c1 : ¬ (i : Int) < 6 := by have := H6.out; omega
          have c2 : (i : Int) < (NZ : Int) := by omega
          clear hz
          go_wp2_with fail
          go_meet
          case rel => exact ⟨r, ps, a8, c8, by rw [HGI.out.2.2], by have := HGI.out; omega, HR.out⟩
        · have c2 : ¬ (i : Int) < (NZ : Int) := by omega
          clear hz
          go_wp2_with fail
          go_meet
          case rel => exact ⟨r, ps, a8, c8, by rw [HGI.out.2.2], by have := HGI.out; omega, HR.out⟩
    --L>
  case rest =>
    clear HR0
    obtain ⟨r, ps, a8, c8, rfl, hps, hR⟩ := hcut
    obtain ⟨PN, hPN⟩ : ∃ n, n = ps.length := ⟨_, rfl⟩
    rw [← hPN] at hR hps ⊢
    have HR := Lib.hid hR
    have HPS := Lib.hid (⟨hPN, hps⟩ : _ ∧ _)
    have i3 := hR.bx.drew
    have HA3 := Lib.hid hR.bel.drew
    have HSX := Lib.hid (show SlB wc.drew (.slice (some ⟨w.heap.size, 0, none⟩) 32 32) sec by have := i3.slW (l := sec) (by rw [HK.out]; decide); rwa [HK.out] at this)
    clear hR hPN hps
    go_upto_region 17 with (fail)
    refine wp_region_freeD 7 [133, 137] [17] (fun _ _ => True) (opF w.heap.size sec) (by kernel_rfl) (by kernel_rfl) (by kernel_rfl) ?hst ?hpp ?hin ?h
    case hst => exact opF_stab _ _
    case hpp =>
      intro d v w h
      exact trivial
    case hin =>
      intro d
      exact ⟨undef, trivial⟩
    case h =>
    simp only [List.take_succ_cons, List.take_zero, List.drop_succ_cons, List.drop_zero]
    apply Exists.intro
    apply Exists.intro
    refine ⟨?_, ?_, ?_⟩
    · intro ν hν
      (apply wpF_q rfl; focus (intro C hC hG; (first | go_big_quiet_skip | (go_big_quiet_want; go_big_quiet_op; first | go_big_quiet_on | (refine ⟨_, fun _ _ => rfl, ?_⟩; go_big_quiet_on)) | (go_big_quiet_want; apply qf_load1 _ _ rfl _ _ rfl; (exact hC); rotate_left 1; (focus (intro _; simp [go_sem]; done)); rotate_right 1; assumption; assumption; (simp only [Act.put, lS]; go_big_quiet_on)) | (go_big_quiet_want; apply qf_loadA _ _ rfl _ _ rfl (sz := 32); (exact hC); rotate_left 1; (focus (intro _; simp [go_sem]; done)); (focus (intro _; simp [go_sem]; done)); rotate_right 1; assumption; assumption; assumption; (simp only [Act.put, lS]; go_big_quiet_on))); exact wpQuiet_nil rfl))
      (apply wpF_free; (focus rfl); (focus rfl); (exact (fun w' hb _ => (rnew_any w' sec (HV.out.below (HA3.out.trans (hb.mono HA3.out.size))) HK.out).mono fun e w'' ⟨g, h1, h2, h3, h4⟩ => ⟨_, h1, fun d hd => by cases hd; exact ⟨fun _ => ⟨g, rfl, Nat.le_trans (Nat.le_trans HA3.out.size hb.size) h2, h3⟩, fun e => absurd e (by decide)⟩, h4⟩)); (focus (intro w; simp [go_sem]; done)); simp only [Act.put, vqF, pS])
      (apply wpF_q rfl; focus (intro C hC hG; (first | go_big_quiet_skip | (go_big_quiet_want; go_big_quiet_op; first | go_big_quiet_on | (refine ⟨_, fun _ _ => rfl, ?_⟩; go_big_quiet_on)) | (go_big_quiet_want; apply qf_load1 _ _ rfl _ _ rfl; (exact hC); rotate_left 1; (focus (intro _; simp [go_sem]; done)); rotate_right 1; assumption; assumption; (simp only [Act.put, lS]; go_big_quiet_on)) | (go_big_quiet_want; apply qf_loadA _ _ rfl _ _ rfl (sz := 32); (exact hC); rotate_left 1; (focus (intro _; simp [go_sem]; done)); (focus (intro _; simp [go_sem]; done)); rotate_right 1; assumption; assumption; assumption; (simp only [Act.put, lS]; go_big_quiet_on))); exact wpQuiet_nil rfl))
      (apply wpF_q rfl; focus (intro C hC hG; go_big_quiet_want; apply qf_conv; (focus rfl); (exact hC); (focus rfl); (exact Tryd.underlying23); (exact Tryd.underlying5); (exact Tryd.underlying9); (exact (fun w' hb _ => HSX.out.below hb)); (simp only [Act.put, lS]; go_big_quiet_on); exact wpQuiet_nil rfl))
      (apply wpF_q rfl; focus (intro C hC hG; (first | go_big_quiet_skip | (go_big_quiet_want; go_big_quiet_op; first | go_big_quiet_on | (refine ⟨_, fun _ _ => rfl, ?_⟩; go_big_quiet_on)) | (go_big_quiet_want; apply qf_load1 _ _ rfl _ _ rfl; (exact hC); rotate_left 1; (focus (intro _; simp [go_sem]; done)); rotate_right 1; assumption; assumption; (simp only [Act.put, lS]; go_big_quiet_on)) | (go_big_quiet_want; apply qf_loadA _ _ rfl _ _ rfl (sz := 32); (exact hC); rotate_left 1; (focus (intro _; simp [go_sem]; done)); (focus (intro _; simp [go_sem]; done)); rotate_right 1; assumption; assumption; assumption; (simp only [Act.put, lS]; go_big_quiet_on))); exact wpQuiet_nil rfl))
      apply wpF_alloc rfl rfl
      · intro w' hb _
        refine ⟨.pointer (some ⟨w'.heap.size, 0, none⟩), w'.alloc (.cells #[S sec, .int .i64 0] 39), ?_, ?_, (Below.refl _ w').alloc (Nat.le_refl _) _⟩
        · simp [go_sem]
        · intro d hd
          cases hd
          exact ⟨fun e => absurd e (by decide), fun _ => ⟨_, rfl, Nat.le_trans HA3.out.size hb.size, Row.new _ _ _⟩⟩
      simp only [Act.put, vqF, pS]
      (apply wpF_d; (focus rfl); (focus rfl); (exact fun _ => rfl); simp only [Act.put, lS])
      exact wpF_nil ⟨rfl, rfl⟩
    · intro ν ν'
      kernel_rfl
    · intro ν w4 hν hw4 hf
      obtain ⟨g1, hg1, hl1, hh1⟩ := (hf 133 (by decide)).1 rfl
      obtain ⟨g2, hg2, hl2, hh2⟩ := (hf 137 (by decide)).2 rfl
      obtain ⟨v1, hv1⟩ : ∃ v, v = ν 133 := ⟨_, rfl⟩
      obtain ⟨v2, hv2⟩ : ∃ v, v = ν 137 := ⟨_, rfl⟩
      rw [← hv1] at hg1 ⊢
      rw [← hv2] at hg2 ⊢
      subst hg1
      subst hg2
      simp only [Act.eval, Array.getD_eq_getD_getElem?, List.getElem?_toArray, List.getElem?_cons_succ, List.getElem?_cons_zero, Option.getD_some, List.getElem_toArray, List.getElem_cons_succ, List.getElem_cons_zero]
      have HO4 := Lib.hid (show O3 w w4 g1 g2 0 0 sec (.slice a8 PN c8) ps from ⟨hh1, hh2, HR.out.str.below ((Below.refl _ _).drew.trans hw4), HA3.out.trans (hw4.mono HA3.out.size)⟩)
      have HGG := Lib.hid (⟨hl1, hl2⟩ : w.heap.size ≤ g1 ∧ w.heap.size ≤ g2)
      clear hv1 hv2 hf hν hw4 hh1 hh2 hl1 hl2 i3 HA3 HSX
      go_wp2_with fail
      go_loopg [19] 10 (fun gk t19 wr => ∃ (j n : Nat), gk + j = 10 ∧ t19 = .int .i64 (j : Int) ∧ n ≤ j ∧ O3 w wr g1 g2 n n sec (.slice a8 PN c8) ps)
      case atStart => exact ⟨0, 0, rfl, rfl, Nat.le_refl _, HO4.out⟩
      case round =>
        clear HO4
        obtain ⟨j, n, hgj, rfl, hnj, hO⟩ := hrel
        have HO := Lib.hid hO
        have HGJ := Lib.hid (⟨hgj, hnj⟩ : _ ∧ _)
        have hj10 : (j : Int) ≤ 10 := by omega
        clear hO hgj hnj
        by_cases hjn : j < NO
        · have c2 : (j : Int) < (NO : Int) := by omega
          by_cases hj : j < 10
          · have c1 : (j : Int) < 10 := by omega
            by_cases hpn : 0 < PN
            · have c0 : (0 : Int) < (PN : Int) := by omega
              have c3 : (0 : Int) ≤ (j : Int) := by omega
              obtain ⟨az, cz, ez, z1, z2, z3, z4⟩ := HZ.out
              obtain ⟨rfl, _, rfl⟩ := Value.slice.inj ez
              have hnz := HNZ.out.2.2.2
              cases ao with
              | none => exact absurd (z3 rfl) (by omega)
              | some ad =>
              obtain ⟨zb, zo, sp⟩ := ad
              obtain ⟨hsp, hcs⟩ := z4 _ rfl
              have hsp' : sp = none := hsp
              subst hsp'
              obtain ⟨z, hzz⟩ : ∃ z, z = zs.getD j 0 := ⟨_, rfl⟩
              have hcell : wr.cell? ⟨zb, zo + j, none⟩ = some (.int .i64 z) := by
                have h1 := hcs j (by omega)
                rw [← hzz] at h1
                exact (HO.out.bel.cell (World.block_lt_of_cell? w _ h1)).trans h1
              obtain ⟨X, hX, hX3⟩ : ∃ s : Nat, (IntKind.u64.wrap z).tmod 1000 = (s : Int) ∧ s < 1000 := by
                have h1 : 0 ≤ IntKind.u64.wrap z := by rw [IntKind.wrap_u64]; omega
                refine ⟨((IntKind.u64.wrap z).tmod 1000).toNat, ?_, ?_⟩
                · rw [Int.tmod_eq_emod_of_nonneg h1]; omega
                · rw [Int.tmod_eq_emod_of_nonneg h1]; omega
              have x1 : IntKind.i64.wrap (X : Int) = (X : Int) := by rw [IntKind.wrap_i64]; omega
              have hxl : X % PN < PN := Nat.mod_lt _ hpn
              obtain ⟨xi, hxi, hxe, hxi2⟩ : ∃ k : Nat, (X : Int).tmod (PN : Int) = (k : Int) ∧ (X : Int) % (PN : Int) = (k : Int) ∧ k < PN := ⟨X % PN, by rw [Int.tmod_eq_emod_of_nonneg (by omega)]; exact (Int.natCast_emod X PN).symm, (Int.natCast_emod X PN).symm, hxl⟩
              obtain ⟨g8, rfl, -, hc8, hc9, hcS⟩ := HO.out.str.cellS (i := xi) (by have := HPS.out.1; omega)
              obtain ⟨q0, hq0⟩ : ∃ q, q = ps.getD xi [] := ⟨_, rfl⟩
              rw [← hq0] at hcS
              have hql : 21 ≤ q0.length ∧ q0.length ≤ 300 := by
                have : q0 ∈ ps := by
                  rw [hq0, List.getD_eq_getElem?_getD, List.getElem?_eq_getElem (by have := HPS.out.1; omega)]
                  exact List.getElem_mem _
                exact HR.out.len q0 this
              obtain ⟨vc, wv, hconv, hoc, hbc⟩ := conv_str wr q0 (by omega)
              obtain ⟨NQ, hNQ⟩ : ∃ n, n = q0.length := ⟨_, rfl⟩
              obtain ⟨bs, cs, rfl⟩ : ∃ b c, vc = .slice (some ⟨b, 0, none⟩) NQ c := by
                obtain ⟨b, cap, cur, fz, e, _⟩ := hoc
                exact ⟨b, cap, by rw [hNQ]; exact e⟩
              have HOV := Lib.hid (HO.out.below hbc)
              have HQ := Lib.hid (⟨hoc.low HO.out.bel.size, hNQ, hql⟩ : OwnM wv w.heap.size (.slice (some ⟨bs, 0, none⟩) NQ cs) q0 ∧ NQ = q0.length ∧ (21 ≤ q0.length ∧ q0.length ≤ 300))
              have x2 : (xi : Int) < (PN : Int) := by omega
              have x3 : (0 : Int) ≤ (xi : Int) := by omega
              have x4 : (PN : Int) ≤ (c8 : Int) := by omega
              have x5 : ¬ ((PN : Int) = 0) := by omega
              have x6 : (j : Int) ≤ (co : Int) := by omega
              have x7 : (NO : Int) ≤ (co : Int) := by omega
              have xA : PN ≤ c8 := hc8
              have xB : (X : Int) ≤ 999 := by omega
              have xC : (0 : Int) ≤ (X : Int) := by omega
              have HJ := Lib.hid (⟨hjn, hj, hX3⟩ : _ ∧ _ ∧ _)
              obtain ⟨cb, hcb⟩ : ∃ c, decide ((500 : Int) < (X : Int)) = c := ⟨_, rfl⟩
              clear hoc hbc hql hNQ hq0 hxl hjn hj hpn ez z1 z2 z3 z4 hcs hzz hnz hc8 hc9 hxi2 hX3 HO
              go_upto_if 169 with (fail)
              clear hconv hcell hcS hX x1
              go_cut [] (fun wx => ∃ q : List UInt8, NQ = q.length ∧ OwnM wx w.heap.size (.slice (some ⟨bs, 0, none⟩) NQ cs) q ∧ O3 w wx g1 g2 n n sec (.slice (some ⟨g8, 0, none⟩) PN c8) ps)
              case first =>
                --<F
                cases cb with
                | true =>
                  have hq21 := HQ.out.2
                  obtain ⟨k, hk1, hk2, hk3⟩ : ∃ k : Nat, (X : Int).tmod (NQ : Int) = (k : Int) ∧ (X : Int) % (NQ : Int) = (k : Int) ∧ k < NQ := ⟨X % NQ, by rw [Int.tmod_eq_emod_of_nonneg (by omega)]; exact (Int.natCast_emod X NQ).symm, (Int.natCast_emod X NQ).symm, Nat.mod_lt _ (by omega)⟩
                  have y1 : (k : Int) < (NQ : Int) := by omega
                  have y2 : (0 : Int) ≤ (k : Int) := by omega
                  have y3 : ¬ ((NQ : Int) = 0) := by omega
                  have y4 : (NQ : Int) ≤ 300 := by omega
                  obtain ⟨hcc, hff⟩ := OwnM.cellB (by have := HQ.out.1; rwa [HQ.out.2.1] at this) (k := k) (by omega)
                  obtain ⟨y, hy⟩ : ∃ y, y = gb q0 k := ⟨_, rfl⟩
                  rw [← hy] at hcc
                  have v8 := u8wr X (X : Int) rfl
                  obtain ⟨x, hx⟩ : ∃ x, x = UInt8.ofNat X := ⟨_, rfl⟩
                  rw [← hx] at v8
                  have HN := Lib.hid (show NQ = (q0.set k (xr y x)).length ∧ OwnM (wv.setCell ⟨bs, k, none⟩ (B (xr y x))) w.heap.size (.slice (some ⟨bs, 0, none⟩) NQ cs) (q0.set k (xr y x)) ∧ O3 w (wv.setCell ⟨bs, k, none⟩ (B (xr y x))) g1 g2 n n sec (.slice (some ⟨g8, 0, none⟩) PN c8) ps by
                    have h1 := HQ.out.1
                    rw [HQ.out.2.1] at h1
                    have h2 := h1.setB (k := k) (by omega) (xr y x)
                    rw [← HQ.out.2.1] at h2
                    refine ⟨by rw [List.length_set]; exact HQ.out.2.1, h2, ?_⟩
                    obtain ⟨b', cur, fz, e, hb, hh⟩ := h1.heapU
                    obtain rfl := Option.some.inj e
                    exact HOV.out.grownU hh (grownBy_setW wv bs k _) hb)
                  clear hq21 hk3 hy hx hcb
                  go_wp2_with fail
                  go_meet
                  case rel => exact ⟨_, HN.out⟩
                | false =>
                  clear hcb
                  go_wp2_with fail
                  go_meet
                  case rel => exact ⟨q0, HQ.out.2.1, HQ.out.1, HOV.out⟩
                --F>
              case rest =>
                --<G
                obtain ⟨q, hNq, hM, hO⟩ := hcut
                have hqB : 21 ≤ q.length ∧ q.length ≤ 300 := by have := HQ.out.2; omega
                obtain ⟨K, hK⟩ : ∃ x : Int, x = (opnK sec n q : Int) := ⟨_, rfl⟩
                obtain ⟨E, hE⟩ : ∃ x : Int, x = (opnE sec n q : Int) := ⟨_, rfl⟩
                obtain ⟨OB, hOB⟩ : ∃ x, x = opnB sec n q := ⟨_, rfl⟩
                obtain ⟨n', hn'⟩ : ∃ x, x = opnN sec n q := ⟨_, rfl⟩
                have hnn : n' ≤ n + 1 := by rw [hn']; exact opnN_le _ _ _
                have HOP := Lib.hid (fun W (h1 : HalfW W g1 sec n) (h2 : SlB W (.slice (some ⟨bs, 0, none⟩) NQ cs) q) => show Calls Tryd.prog 11 #[.pointer (some ⟨g1, 0, none⟩), .slice (some ⟨bs, 0, none⟩) NQ cs] W (fun e w' => ∃ v, e = .returned (.tuple #[.int .i64 K, v, .int .i64 E]) ∧ OwnW w' W.heap.size v OB ∧ HalfW w' g1 sec n' ∧ W.grownBy w' (some g1)) by
                  have := copen_any W g1 n cs sec q (some ⟨bs, 0, none⟩) h1 (by rw [← hNq]; exact h2) hqB.1 (by omega) (by have := HGJ.out; omega)
                  rw [← hNq] at this
                  rw [hK, hE, hOB, hn']
                  exact this)
                have HRP := Lib.hid (fun W (h1 : Row W g2 39 (rhC sec n)) => show Calls Tryd.prog 20 #[.pointer (some ⟨g2, 0, none⟩), S q] W (fun e w' => e = .returned (.tuple #[.int .i64 K, S OB, .int .i64 E]) ∧ Row w' g2 39 (rhC sec n') ∧ W.grownBy w' (some g2)) by
                  have := ropen_any W g2 n sec q h1 HK.out hqB.1 (by omega) (by have := HGJ.out; omega)
                  rw [hK, hE, hOB, hn']
                  exact this)
                have HM := Lib.hid hM
                have HO := Lib.hid hO
                have HN' := Lib.hid hnn
                clear hNq hM hO hqB hK hE hOB hn' hnn HQ HOV hcb
                go_upto_region 25 with (fail)
                go_wp2_with fail
                refine (HOP.out _ HO.out.h HM.out.slb).mono ?_
                rintro e w5 ⟨v23, rfl, ho, hh, hg⟩
                have HO5 := Lib.hid (HO.out.grownH hg hh HGG.out.1)
                have HM5 := Lib.hid (show OwnM w5 w.heap.size (.slice (some ⟨bs, 0, none⟩) NQ cs) q by obtain ⟨ds, hr⟩ := HO.out.h.row; exact HM.out.otherR hr (by decide) hg)
                have HB5 := Lib.hid (ho.lowW HO.out.bel.size)
                obtain ⟨a23, c23, rfl, _⟩ := ho.slb
                have hcv := run_conv_slb (P := Tryd.prog) w5 23 5 9 Tryd.underlying23 Tryd.underlying5 Tryd.underlying9 _ _ HM5.out.slb
                obtain ⟨NB2, hNB2⟩ : ∃ x, x = OB.length := ⟨_, rfl⟩
                rw [← hNB2] at HB5 ⊢
                clear ho hh hg hNB2
                go_wp2_with fail
                refine (HRP.out _ HO5.out.m).mono ?_
                rintro e w6 ⟨rfl, hm, hg⟩
                have HO6 := Lib.hid (HO5.out.grownM hg hm HGG.out.2)
                have HB6 := Lib.hid (HB5.out.otherR HO5.out.m (by decide) hg)
                have hrm := HO6.out.m.drew
                have hlm := hrm.lt
                have hqm : (rhC sec n')[1]? = some (.int .i64 (n' : Int)) := rfl
                clear hm hg hcv
                go_upto_region 27 with (fail)
                refine wp_region_qtail (Below w6.drew.heap.size w6.drew) 21 (by kernel_rfl) (by kernel_rfl) (Below.refl _ _) ?_
                simp only [List.take_succ_cons, List.take_zero, List.drop_succ_cons, List.drop_zero]
                iterate 5 (first | go_big_quiet_skip | (go_big_quiet_want; go_big_quiet_op; first | go_big_quiet_on | (refine ⟨_, fun _ _ => rfl, ?_⟩; go_big_quiet_on)) | (go_big_quiet_want; apply qb_load1 _ _ rfl _ _ rfl; rotate_left 2; (focus (intro _; simp [go_sem]; done)); rotate_right 2; assumption; assumption; assumption; (simp only [Act.put, lS]; go_big_quiet_on)) | (go_big_quiet_want; apply qb_loadA _ _ rfl _ _ rfl (sz := 16); rotate_left 2; (focus (intro _; simp [go_sem]; done)); (focus (intro _; simp [go_sem]; done)); rotate_right 2; assumption; assumption; assumption; assumption; (simp only [Act.put, lS]; go_big_quiet_on)))
                go_big_quiet_want
                refine qb_conv 23 9 _ rfl 5 Tryd.underlying23 Tryd.underlying5 Tryd.underlying9 _ rfl OB (fun w' h => HB6.out.slb.below ((Below.refl _ _).drew.trans h)) ?_
                (simp only [Act.put, lS]; go_big_quiet_on)
                iterate 10 (first | go_big_quiet_skip | (go_big_quiet_want; go_big_quiet_op; first | go_big_quiet_on | (refine ⟨_, fun _ _ => rfl, ?_⟩; go_big_quiet_on)) | (go_big_quiet_want; apply qb_load1 _ _ rfl _ _ rfl; rotate_left 2; (focus (intro _; simp [go_sem]; done)); rotate_right 2; assumption; assumption; assumption; (simp only [Act.put, lS]; go_big_quiet_on)) | (go_big_quiet_want; apply qb_loadA _ _ rfl _ _ rfl (sz := 16); rotate_left 2; (focus (intro _; simp [go_sem]; done)); (focus (intro _; simp [go_sem]; done)); rotate_right 2; assumption; assumption; assumption; assumption; (simp only [Act.put, lS]; go_big_quiet_on)))
                (go_big_quiet_want; refine qb_call _ _ ?_ _ (fun w' h => (used_any w' g1 n' sec (HO6.out.h.below ((Below.refl _ _).drew.trans h))).mono fun e w'' ⟨h1, h2⟩ => ⟨h1, h2 ▸ Below.refl _ _⟩) (Nat.le_refl _) ?_; (focus (intro w; simp [go_sem]; done)); (simp only [Act.put, lS]; go_big_quiet_on))
                iterate 4 (first | go_big_quiet_skip | (go_big_quiet_want; go_big_quiet_op; first | go_big_quiet_on | (refine ⟨_, fun _ _ => rfl, ?_⟩; go_big_quiet_on)) | (go_big_quiet_want; apply qb_load1 _ _ rfl _ _ rfl; rotate_left 2; (focus (intro _; simp [go_sem]; done)); rotate_right 2; assumption; assumption; assumption; (simp only [Act.put, lS]; go_big_quiet_on)) | (go_big_quiet_want; apply qb_loadA _ _ rfl _ _ rfl (sz := 16); rotate_left 2; (focus (intro _; simp [go_sem]; done)); (focus (intro _; simp [go_sem]; done)); rotate_right 2; assumption; assumption; assumption; assumption; (simp only [Act.put, lS]; go_big_quiet_on)))
                refine wpQuiet_nil ?_
                intro w7 hB7
                have HO7 := Lib.hid (HO6.out.below ((Below.refl _ _).drew.trans hB7))
                clear hB7 hrm hlm hqm
                go_wp2_with fail
                go_roundg (gk - 1)
                case measure => have := HGJ.out; have := HJ.out; omega
                case rel => exact ⟨j + 1, n', by have := HGJ.out; have := HJ.out; omega, by go_num, by have := HGJ.out; have := HN'.out; omega, HO7.out⟩
                --G>
            · have c0 : ¬ (0 : Int) < (PN : Int) := by omega
              clear hjn hj hpn
              go_wp2_with fail
              refine (records_any wr (HV.out.below HO.out.bel)).mono ?_
              rintro e w6 ⟨rfl, hB6⟩
              have HB6 := Lib.hid (HO.out.bel.trans (hB6.mono HO.out.bel.size))
              clear hB6
              go_wp2_with fail
              go_ret
              exact ⟨rfl, HB6.out⟩
          · have c1 : ¬ (j : Int) < 10 := by omega
            clear hjn hj
            go_wp2_with fail
            refine (records_any wr (HV.out.below HO.out.bel)).mono ?_
            rintro e w6 ⟨rfl, hB6⟩
            have HB6 := Lib.hid (HO.out.bel.trans (hB6.mono HO.out.bel.size))
            clear hB6
            go_wp2_with fail
            go_ret
            exact ⟨rfl, HB6.out⟩
        · have c2 : ¬ (j : Int) < (NO : Int) := by omega
          clear hjn
          go_wp2_with fail
          refine (records_any wr (HV.out.below HO.out.bel)).mono ?_
          rintro e w6 ⟨rfl, hB6⟩
          have HB6 := Lib.hid (HO.out.bel.trans (hB6.mono HO.out.bel.size))
          clear hB6
          go_wp2_with fail
          go_ret
          exact ⟨rfl, HB6.out⟩
theorem ropens_law (sec : List UInt8) (vl : Value) (ls : List Ln) (vo : Value) (zs : List Int) (w : World) (hk : sec.length = 32) (hl : LinesIn w vl ls) (hz : NumS w vo zs) (hv : HashW w) : Calls Tryd.prog 5 #[.agg (AB sec), vl, vo] w fun e w' => e = .returned (.bool true) ∧ Below w.heap.size w w' := ropens_any w sec vl vo ls zs hk hl hz hv
end Go.Proofs.YtcfbiafedfkbhaaDoor
