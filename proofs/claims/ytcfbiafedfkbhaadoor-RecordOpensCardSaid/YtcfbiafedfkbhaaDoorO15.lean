/- Part of the proof: Fold. No conditions of its own. -/
import Derived.Below
import Derived.BigQuiet
import Derived.ChangeOld
import Derived.Deep.DeepCutAuto
import Derived.Deep.LoopGhost
import Derived.Deep.Quiet
import Derived.Deep.QuietTactic
import Derived.Deep.RegionLaw
import Derived.Laws.AppendOwnNone
import Derived.Laws.Bits64
import Derived.Laws.BitsAllLaws
import Derived.Laws.CopyOwn
import Derived.Lib.Hide
import Derived.LoopIn
import Derived.LoopNIn
import Derived.OpenShut
import Derived.OrdersIn
import Derived.OwnWalkIn
import Derived.ProofKit
import Derived.RangeFuncBound
import Derived.RangeFuncCalls
import Derived.RangeFuncLeaves
import Derived.RangeFuncNested
import Derived.Shelf.Abstract
import Derived.ShutString
import Derived.StillTail
import Derived.TacticsIn
import Derived.TacticsInMore
import Derived.Test.YtcfbiafedfkbhaaDoorProg
import Derived.WalkKit
import Derived.WalkSpells
import Derived.Test.YtcfbiafedfkbhaaDoorO13
import Derived.Test.YtcfbiafedfkbhaaDoorO14
namespace Go.Proofs.YtcfbiafedfkbhaaDoor
open Go.RowKit Go.Shelf
attribute [local go_sem] Oper.semAt_some

def padC (c : List UInt8) : List UInt8 := c ++ List.replicate (16 - c.length) 0
theorem padC_len (c : List UInt8) (h : c.length ≤ 16) : (padC c).length = 16 := by simp [padC]; omega
def chB (l : List UInt8) (k : Nat) : List UInt8 := (l.drop (16 * k)).take 16
theorem chB_len (l : List UInt8) (k : Nat) : (chB l k).length = min 16 (l.length - 16 * k) := by simp [chB]
def xorP (a b : UInt64 × UInt64) : UInt64 × UInt64 := (xq a.1 b.1, xq a.2 b.2)
def foldC (h : UInt64 × UInt64) (y : UInt64 × UInt64) (c : List UInt8) : UInt64 × UInt64 := tmQ (xorP y (elQ (padC c))) h
def foldK (h : UInt64 × UInt64) (l : List UInt8) (y : UInt64 × UInt64) (ks : List Nat) : UInt64 × UInt64 := ks.foldl (fun y k => foldC h y (chB l k)) y
def foldP (h : UInt64 × UInt64) (y : UInt64 × UInt64) (l : List UInt8) : UInt64 × UInt64 := foldK h l y (List.range (nCh l.length))
def foldF (by' : List UInt8) (parts : List (List UInt8)) : List UInt8 := blQ (parts.foldl (foldP (elQ by')) (0, 0))
theorem foldK_snoc (h : UInt64 × UInt64) (l : List UInt8) (y : UInt64 × UInt64) (ks : List Nat) (k : Nat) : foldK h l y (ks ++ [k]) = foldC h (foldK h l y ks) (chB l k) := by simp [foldK]

def PartsAt (w : World) (vp : Value) (parts : List (List UInt8)) : Prop :=
  ∃ a cap, vp = .slice a parts.length cap ∧ parts.length ≤ cap ∧ cap ≤ maxLen ∧ ∀ i, i < parts.length → ∃ g o v, a = some ⟨g, o, none⟩ ∧ w.cell? ⟨g, o + i, none⟩ = some v ∧ SlB w v (parts.getD i []) ∧ (parts.getD i []).length ≤ 140737488355328

theorem Row.keptO {A B : World} {b : Nat} {t : TypeId} {cs : Array Value} {row : Option Nat} (h : Row A b t cs) (hg : A.grownBy B row) (hr : ∀ r, row = some r → ∃ o : Obj, A.heap[r]? = some o ∧ o.isCells = false) : Row B b t cs := by
  refine (row_congr (hg.block b h.lt ?_)).trans h
  intro e
  obtain ⟨o, ho, hc⟩ := hr b e.symm
  rw [h.heap] at ho
  cases ho
  cases hc
theorem KeepsOthers.ofBelow {W W' : World} (hb : Below W.heap.size W W') : KeepsOthers W W' := ⟨hb.size, fun k _ hk _ => (hb.block k (Array.getElem?_eq_some_iff.1 hk).1).trans hk⟩
theorem KeepsOthers.ofSetRow {W : World} {g : Nat} {t : TypeId} {cs0 : Array Value} (h : Row W g t cs0) (cs : Array Value) : KeepsOthers W (W.setRow g cs) :=
  ⟨by simp, fun k o hk ho => by
    refine (setRow_other W g k cs ?_).trans hk
    rintro rfl
    rw [h.heap] at hk
    cases hk
    cases ho⟩
theorem res_row {P : Program} {fn : Func} {p : Tmp} {ty : TypeId} {tmps : Array Value} {w : World} (h : fn.results = #[.cell p ty]) (g : Nat) (t : TypeId) (cs : Array Value) (n : Nat) (d : TypeDesc)
    (hp : tmps.getD p undef = .pointer (some ⟨g, 0, none⟩)) (hr : Row w g t cs) (hu : P.underlying ty = some d) (hd : (match d with | .struct _ | .array _ _ => true | _ => false) = true) (hi : (P.info? ty).map (·.size) = some n) (hn : cs.size = n) :
    (results fn tmps).run P w = .ok (.agg cs) w := results_cell_row (P := P) h tmps w g t cs (0, 0) d hp hr.heap hu hd (by rw [hi, hn])
def FoldI (bl : List UInt8) (parts : List (List UInt8)) (pa : Option Addr) (pcap t5 : Nat) (w : World) (g : Nat) (a : Act) (w' : World) : Prop :=
  ∃ (k : Nat) (Ds : List Nat) (u8 u16 u17 u18 u19 u20 u31 : Value), g + k = parts.length ∧
    a = ⟨#[.agg (AB bl), .slice pa parts.length pcap, .pointer (some ⟨w.heap.size, 0, none⟩), undef, .pointer (some ⟨w.heap.size + 1, 0, none⟩), .pointer (some ⟨t5, 0, none⟩), .pointer (some ⟨t5 + 1, 0, none⟩), undef, u8, undef, undef,
      .slice (some ⟨w.heap.size, 0, none⟩) 16 16, .agg #[Q (hiQ bl), Q (loQ bl)], .slice pa parts.length pcap, .int .i64 (parts.length : Int), .int .i64 (k : Int), u16, u17, u18, u19, u20, undef, undef, undef, undef, undef, undef, undef, undef, undef, undef, u31, undef, undef], Ds.map markOf⟩ ∧
    Ds.Nodup ∧ (∀ D, D ∈ Ds → w.heap.size ≤ D ∧ w'.heap[D]? = some (.deferred (some []))) ∧
    Row w' t5 120 #[Q (hiQ bl), Q (loQ bl)] ∧ Row w' (t5 + 1) 120 #[Q ((parts.take k).foldl (foldP (elQ bl)) (0, 0)).1, Q ((parts.take k).foldl (foldP (elQ bl)) (0, 0)).2] ∧ RowN w' (w.heap.size + 1) 84 16 ∧ Below w.heap.size w w'

set_option maxRecDepth 100000 in
set_option maxHeartbeats 4000000 in
theorem gfold_any (bl : List UInt8) (parts : List (List UInt8)) (vp : Value) (w : World) (hb : bl.length = 16) (hp : PartsAt w vp parts) :
    Calls Tryd.prog 66 #[.agg (AB bl), vp] w fun e w' => e = .returned (.agg (AB (foldF bl parts))) ∧ Below w.heap.size w w' := by
  obtain ⟨pa, pcap, rfl, hpc, hpm, hpe⟩ := hp
  have HPE := Lib.hid hpe
  clear hpe
  unfold maxLen at hpm
  refine (callsIn_wide (n := 4)).1 (callsIn_of_wp_marks Tryd.func66 rfl trivial ?_ rfl)
  simp only [Tryd.ntmps66, List.size_toArray, List.length_cons, List.length_nil, Nat.reduceAdd, Nat.reduceSub, Array.replicate_succ, Array.replicate_zero, List.push_toArray, List.append_toArray, List.nil_append, List.cons_append]
  refine wpIn_wide.2 ?_
  go_wp2_with fail
  have s1 := (Row.new w 84 (AB bl)).alloc (.cells (AB (List.replicate 16 0)) 84)
  refine (gof_any _ bl _ (SlB.of_row s1 hb (by decide)) hb).mono ?_
  rintro e w1 ⟨rfl, hb1⟩
  have s4 := (RowN.newAt (w.alloc (.cells (AB bl) 84)) (w.heap.size + 1) 84 (AB (List.replicate 16 0)) (by simp)).below hb1 (by simp <;> omega)
  have hB1 : Below w.heap.size w w1 := (((Below.refl _ w).alloc (Nat.le_refl _) _).alloc (by simp) _).trans (hb1.mono (by simp <;> omega))
  have hs1 : w.heap.size + 2 ≤ w1.heap.size := by have := hb1.size; simpa using this
  obtain ⟨t5, ht5⟩ : ∃ t5, t5 = w1.heap.size := ⟨_, rfl⟩
  rw [show (AB (List.replicate 16 0)).size = 16 from rfl] at s4
  have l4 : w.heap.size + 1 < w1.heap.size := by omega
  clear hb1 s1
  go_upto_region 3 with (fail)
  obtain ⟨w2, hw2⟩ : ∃ w2, w2 = (((w1.alloc (.cells #[.int .u64 0, .int .u64 0] 120)).setRow w1.heap.size #[Q (hiQ bl), Q (loQ bl)]).alloc (.cells #[.int .u64 0, .int .u64 0] 120)) := ⟨_, rfl⟩
  rw [← hw2, ← ht5]
  have r4 : RowN w2 (w.heap.size + 1) 84 16 := by rw [hw2]; exact ((s4.alloc _).setRowOther _ _ (by omega)).alloc _
  have r5 : Row w2 t5 120 #[Q (hiQ bl), Q (loQ bl)] := by rw [hw2, ht5]; exact ((Row.new _ _ _).setRow _).alloc _
  have r6 : Row w2 (t5 + 1) 120 #[Q 0, Q 0] := by rw [hw2, ht5]; exact Row.newAt _ _ _ _ (by simp)
  have hB2 : Below w.heap.size w w2 := by rw [hw2]; exact (bSetRow (hB1.alloc (by omega) _) (by omega) _).alloc (by simp; omega) _
  have ht : w.heap.size + 1 < t5 := by omega
  clear hw2 ht5 s4 hB1 hs1 l4
  go_wp2_with fail
  refine wp_loop_ghost_k (FoldI bl parts pa pcap t5 w) parts.length ⟨0, [], undef, undef, undef, undef, undef, undef, undef, by omega, rfl, List.nodup_nil, (fun D h => by cases h), r5, r6, r4, hB2⟩ ?_
  clear r4 r5 r6 hB2
  rintro gk a wr ⟨k, Ds, u8, u16, u17, u18, u19, u20, u31, hgk, rfl, hnd, hDs, r5, r6, r4, hB⟩ J K hJ hK
  have l5 := r5.lt
  have l6 := r6.lt
  have l4 := r4.lt
  obtain ⟨y, hy⟩ : ∃ y, y = (parts.take k).foldl (foldP (elQ bl)) (0, 0) := ⟨_, rfl⟩
  rw [← hy] at r6
  have HY := Lib.hid hy
  have HJ := Lib.hid hJ
  have HDs := Lib.hid hDs
  have Hnd := Lib.hid hnd
  obtain ⟨ms, hms⟩ : ∃ ms, ms = Ds.map markOf := ⟨_, rfl⟩
  rw [← hms]
  have HMS := Lib.hid hms
  clear hy hJ hDs hnd hms
  by_cases hk : k < parts.length
  · have b1 : (k : Int) < (parts.length : Int) := by omega
    obtain ⟨pg, po, v, rfl, hpc1, hps, hpl⟩ := HPE.out k hk
    have hpb := World.block_lt_of_cell? w _ hpc1
    have hpc2 : wr.cell? ⟨pg, po + k, none⟩ = some v := (hB.cell hpb).trans hpc1
    obtain ⟨l, hl⟩ : ∃ l, l = parts.getD k [] := ⟨_, rfl⟩
    rw [← hl] at hps hpl
    have HL := Lib.hid hl
    obtain ⟨av, cv, rfl, hlc, hcm, hnil, hcs⟩ := hps
    clear hl hpc1
    go_wp2_with fail
    refine (chunk_any _ _ _ _).mono ?_
    rintro e w' ⟨rfl, rfl⟩
    go_wp2_with fail
    obtain ⟨w3, hw3⟩ : ∃ w3, w3 = ((wr.alloc (.cells #[.slice av l.length cv] 23)).alloc (.cells #[.int .i64 16] 3)) := ⟨_, rfl⟩
    obtain ⟨Bs, hBs⟩ : ∃ Bs, Bs = wr.heap.size := ⟨_, rfl⟩
    rw [← hw3, ← hBs]
    have hs3 : w3.heap.size = Bs + 2 := by rw [hw3, hBs]; simp
    have q1 : Row w3 Bs 23 #[.slice av l.length cv] := by rw [hw3, hBs]; exact (Row.new _ _ _).alloc _
    have q2 : Row w3 (Bs + 1) 3 #[.int .i64 16] := by rw [hw3, hBs]; exact Row.newAt _ _ _ _ (by simp)
    have r5' : Row w3 t5 120 #[Q (hiQ bl), Q (loQ bl)] := by rw [hw3]; exact (r5.alloc _).alloc _
    have r6' : Row w3 (t5 + 1) 120 #[Q y.1, Q y.2] := by rw [hw3]; exact (r6.alloc _).alloc _
    have r4' : RowN w3 (w.heap.size + 1) 84 16 := by rw [hw3]; exact (r4.alloc _).alloc _
    have hB3 : Below w.heap.size w w3 := by rw [hw3]; exact (hB.alloc hB.size _).alloc (by have := hB.size; simp; omega) _
    have hD3 : ∀ D, D ∈ Ds → D < w3.heap.size ∧ w3.heap[D]? = some (.deferred (some [])) := by
      intro D hD
      have h1 := (HDs.out D hD).2
      have h2 := (Array.getElem?_eq_some_iff.1 h1).1
      refine ⟨by omega, ?_⟩
      rw [hw3, Below.heap_alloc _ _ _ (by simp; omega), Below.heap_alloc _ _ _ h2]
      exact h1
    have l5' : t5 + 1 < Bs := by omega
    have l4' : w.heap.size + 1 < Bs := by omega
    clear hw3 hBs r5 r6 r4 hB l5 l6 l4 hpc2
    obtain ⟨pb, poff, hpa⟩ : ∃ b off, 0 < l.length → av = some ⟨b, off, none⟩ := by
      cases av with
      | none => exact ⟨0, 0, fun h => by have := hnil rfl; omega⟩
      | some ad =>
        obtain ⟨b, o, sp⟩ := ad
        have := (hcs _ rfl).1
        simp only at this
        subst this
        exact ⟨b, o, fun _ => rfl⟩
    refine (wpIn_wide (n := 4)).1 ?_
    refine wpIn_rangeFunc_ownG (n := 4) rfl (by omega) (gf := 83) (lb := #[.pointer (some ⟨Bs, 0, none⟩), .pointer (some ⟨Bs + 1, 0, none⟩)]) rfl trivial (enters_of Tryd.func83 (by kernel_rfl) rfl)
      (chunk_stops 3 (by omega) Bs (Bs + 1) av l.length cv w3 pb poff hpa hlc hcm hpl q1 q2) (fun h k => KpC.trans h k) (fun W l o o' _ h hc _ => KpC.put W l o o' h hc) (Below.refl _ _) (fun _ => rfl)
      (fun pre W => (Row W (t5 + 1) 120 #[Q (foldK (elQ bl) l y pre).1, Q (foldK (elQ bl) l y pre).2] ∧ Row W t5 120 #[Q (hiQ bl), Q (loQ bl)] ∧ RowN W (w.heap.size + 1) 84 16 ∧ ∀ D, D ∈ Ds → W.heap[D]? = some (.deferred (some []))) ∧ Below w.heap.size w W)
      (fun _ _ _ => False) (OwnFrom.and ?hI (ownFrom_below (Nat.le_refl _) (by omega))) (fun _ _ _ _ _ hs _ _ => hs) ⟨⟨r6', r5', r4', fun D hD => (hD3 D hD).2⟩, hB3⟩
      (fun x => ⟨#[.agg (AB bl), .slice (some ⟨pg, po, none⟩) parts.length pcap, .pointer (some ⟨w.heap.size, 0, none⟩), undef, .pointer (some ⟨w.heap.size + 1, 0, none⟩), .pointer (some ⟨t5, 0, none⟩), .pointer (some ⟨t5 + 1, 0, none⟩), undef, .slice av l.length cv, .slice (some ⟨pb, poff + 16 * x, none⟩) (min 16 (l.length - 16 * x)) (min 16 (l.length - 16 * x)), undef, .slice (some ⟨w.heap.size, 0, none⟩) 16 16, .agg #[Q (hiQ bl), Q (loQ bl)], .slice (some ⟨pg, po, none⟩) parts.length pcap, .int .i64 (parts.length : Int), .int .i64 (k : Int), .bool true, .pointer (some ⟨pg, po + k, none⟩), .slice av l.length cv, .slice av l.length cv, .func (.func 83) #[] #[.pointer (some ⟨Bs, 0, none⟩), .pointer (some ⟨Bs + 1, 0, none⟩)], .slice (some ⟨pb, poff + 16 * x, none⟩) (min 16 (l.length - 16 * x)) (min 16 (l.length - 16 * x)), undef, undef, undef, undef, undef, undef, undef, undef, undef, u31, undef, undef], []⟩) ?assign ?body ?done ?stop
    case hI =>
      rintro pre A B row ⟨h6, h5, ⟨z, h4, hz⟩, hD⟩ hg hr
      refine ⟨h6.keptO hg fun r e => (hr r e).2, h5.keptO hg fun r e => (hr r e).2, ⟨z, h4.keptO hg fun r e => (hr r e).2, hz⟩, fun D hDm => ?_⟩
      have h1 := hD D hDm
      refine (hg.block D (Array.getElem?_eq_some_iff.1 h1).1 fun e => ?_).trans h1
      have := (hr D e.symm).1
      have := (hD3 D hDm).1
      omega
    case assign =>
      intro l' x W K hK
      unfold encC
      gi_wp2
      exact hK
    case body =>
      rintro l' pre x W ⟨⟨h6, h5, ⟨z, h4, hz⟩, hD⟩, hBW⟩ _
      refine wpIn_block ?_
      refine wpIn_seq ?_
      refine region_round (fun ⟨_, _, h⟩ => h) rfl ?_
      go_wp2_with fail
      obtain ⟨m, hm⟩ : ∃ m, m = min 16 (l.length - 16 * x) := ⟨_, rfl⟩
      rw [← hm]
      obtain ⟨c, hc⟩ : ∃ c, c = chB l x := ⟨_, rfl⟩
      have hcl : c.length = m := by rw [hc, hm, chB_len]
      have hm16 : m ≤ 16 := by omega
      have hsrc : ∀ j, j < m → W.cell? ⟨pb, poff + 16 * x + j, none⟩ = some (B (gb c j)) ∧ av = some ⟨pb, poff, none⟩ := by
        intro j hj
        have hl0 : 0 < l.length := by omega
        have hav := hpa hl0
        have h1 := (hcs _ hav).2 (16 * x + j) (by omega)
        refine ⟨?_, hav⟩
        simp only at h1
        rw [show poff + 16 * x + j = poff + (16 * x + j) by omega]
        refine ((hBW.cell (World.block_lt_of_cell? w _ h1)).trans h1).trans ?_
        rw [hc]
        simp [chB, gb, show j < 16 by omega]
      have HSRC := Lib.hid hsrc
      have HC := Lib.hid hc
      have HM := Lib.hid hm
      have HCL := Lib.hid hcl
      clear hm hc hcl hsrc
      refine wpIn_seq ?_
      have hc2 : (c.map B).length = Nat.min m 16 := by rw [List.length_map, HCL.out]; exact (Nat.min_eq_left hm16).symm
      have hc3 : ∀ o : Obj, 0 < (c.map B).length → (some ⟨W.heap.size, 0, none⟩ : Option Addr) = some ⟨W.heap.size, 0, none⟩ ∧ ∃ ad, (some ⟨pb, poff + 16 * x, none⟩ : Option Addr) = some ad ∧ ∀ j v, (c.map B)[j]? = some v → (W.alloc o).cell? (ad.add j) = some v := by
        intro o _
        refine ⟨rfl, _, rfl, fun j v hv => ?_⟩
        have hj : j < c.length := by simpa using (List.getElem?_eq_some_iff.1 hv).1
        obtain ⟨h1, h2⟩ := HSRC.out j (by rw [← HCL.out]; exact hj)
        rw [Addr.add_lit]
        have h3 := World.block_lt_of_cell? W _ h1
        refine (((Below.refl W.heap.size W).alloc (Nat.le_refl _) o).cell h3).trans (h1.trans ?_)
        simpa [gb, hj] using hv
      have hc4 : 0 + (c.map B).length ≤ (List.replicate 16 (B 0)).length := by rw [List.length_map, HCL.out, List.length_replicate]; omega
      have hc5 : ∀ u ∈ c.map B, u.oneCell' = true := by intro u hu; obtain ⟨z, _, rfl⟩ := List.mem_map.1 hu; rfl
      have HC2 := Lib.hid hc2
      have HC3 := Lib.hid hc3
      have HC4 := Lib.hid hc4
      have HC5 := Lib.hid hc5
      clear hc2 hc3 hc4 hc5
      refine region_round (fun ⟨_, _, h⟩ => h) rfl ?_
      go_wp2_with ((with_reducible refine wpList_copy_splice rfl (.tmp 22) (.tmp 23) 23 23 rfl 5 Tryd.underlying23 (by kernel_rfl) (some ⟨W.heap.size, 0, none⟩) (some ⟨pb, poff + 16 * x, none⟩) 16 16 m m rfl rfl W.heap.size 0 (List.replicate 16 (B 0)) 84 (heap_alloc_new W _) (c.map B) HC2.out (HC3.out _) HC4.out HC5.out W.heap.size W ((Below.refl _ _).alloc (Nat.le_refl _) _) (Nat.le_refl _) ?_))
      intro W1 hW1 hbW1
      have hRc : Row W1 W.heap.size 84 (AB (padC c)) := by
        refine (Row.of_heap hW1.out).trans ?_
        congr 2
        simp only [splice, AB, padC, List.take_zero, List.nil_append, Nat.zero_add, List.length_map, List.map_append, List.map_replicate]
        rw [← List.drop_replicate]
        rfl
      have g6 := h6.below hbW1 h6.lt
      have g5 := h5.below hbW1 h5.lt
      have g4 := h4.below hbW1 h4.lt
      have m6 := g6.lt
      have m5 := g5.lt
      have mc := hRc.lt
      have hpl16 := padC_len c (by rw [HCL.out]; exact hm16)
      have hBW1 := hBW.trans (hbW1.mono hBW.size)
      have HBW1 := Lib.hid hBW1
      have HbW1 := Lib.hid hbW1
      have hof : ∀ w', Below W1.heap.size W1 w' → _ := fun w' h => gof_any _ (padC c) w' (SlB.of_row (hRc.below h hRc.lt) hpl16 (by decide)) hpl16
      obtain ⟨yp, hyp⟩ : ∃ yp, yp = foldK (elQ bl) l y pre := ⟨_, rfl⟩
      rw [← hyp] at g6
      obtain ⟨pc, hpc⟩ : ∃ pc, pc = padC c := ⟨_, rfl⟩
      rw [← hpc] at hof
      have HOF := Lib.hid hof
      have hstep : itZ (xq yp.1 (hiQ pc)) (xq yp.2 (loQ pc)) (hiQ bl) (loQ bl) 128 = foldK (elQ bl) l y (pre ++ [x]) := by
        rw [foldK_snoc, ← hyp, ← HC.out]
        unfold foldC
        rw [← hpc]
        rfl
      obtain ⟨yn, hyn⟩ : ∃ yn, yn = foldK (elQ bl) l y (pre ++ [x]) := ⟨_, rfl⟩
      have htm : ∀ w', Calls Tryd.prog 84 #[.agg #[Q (xq yp.1 (hiQ pc)), Q (xq yp.2 (loQ pc))], .agg #[Q (hiQ bl), Q (loQ bl)]] w' (fun e w'' => e = .returned (.agg #[Q yn.1, Q yn.2]) ∧ Below w'.heap.size w' w'') := fun w' => by
        have := gtimes_any (xq yp.1 (hiQ pc)) (xq yp.2 (loQ pc)) (hiQ bl) (loQ bl) w'
        rwa [hstep, ← hyn] at this
      have HTM := Lib.hid htm
      have HYN := Lib.hid hyn
      have HW1 := Lib.hid hW1.out
      have HPL := Lib.hid hpl16
      have se6 : sub #[Q yp.1, Q yp.2] 0 2 = #[Q yp.1, Q yp.2] := sub_all _ _ rfl
      have se5 : sub #[Q (hiQ bl), Q (loQ bl)] 0 2 = #[Q (hiQ bl), Q (loQ bl)] := sub_all _ _ rfl
      have sz6 : 0 + 2 ≤ (#[Q yp.1, Q yp.2] : Array Value).size := Nat.le_refl _
      have sz5 : 0 + 2 ≤ (#[Q (hiQ bl), Q (loQ bl)] : Array Value).size := Nat.le_refl _
      clear hof hyp hpc hstep htm hyn hBW1 hbW1 hW1 hpl16 hBW h6 h5 h4
      go_wp2_with fail
      refine region_qtail_round (Below W1.heap.size W1) 6 (by kernel_rfl) (fun ⟨_, _, h⟩ => h) rfl (by kernel_rfl) (Below.refl _ _).drew ?_
      simp only [List.take_succ_cons, List.take_zero, List.drop_succ_cons, List.drop_zero]
      repeat (first | go_big_quiet_skip | (go_big_quiet_want; go_big_quiet_op; first | go_big_quiet_on | (refine ⟨_, fun _ _ => rfl, ?_⟩; go_big_quiet_on)) | (go_big_quiet_want; apply qb_load1 _ _ rfl _ _ rfl; rotate_left 2; (focus (intro _; simp [go_sem]; done)); rotate_right 2; assumption; assumption; assumption; (simp only [Act.put, lS]; go_big_quiet_on)) | (go_big_quiet_want; apply qb_loadA _ _ rfl _ _ rfl (sz := 16); rotate_left 2; (focus (intro _; simp [go_sem]; done)); (focus (intro _; simp [go_sem]; done)); rotate_right 2; assumption; assumption; assumption; assumption; (simp only [Act.put, lS]; go_big_quiet_on)) | (go_big_quiet_want; apply qb_loadA _ _ rfl _ _ rfl (sz := 2); rotate_left 2; (focus (intro _; simp [go_sem]; done)); (focus (intro _; simp [go_sem]; done)); rotate_right 2; assumption; assumption; assumption; assumption; (simp only [Act.put, lS]; go_big_quiet_on)) | (go_big_quiet_want; apply qb_loadA _ _ rfl _ _ rfl (sz := 12); rotate_left 2; (focus (intro _; simp [go_sem]; done)); (focus (intro _; simp [go_sem]; done)); rotate_right 2; assumption; assumption; assumption; assumption; (simp only [Act.put, lS]; go_big_quiet_on)) | (go_big_quiet_want; apply qb_loadA _ _ rfl _ _ rfl (sz := 32); rotate_left 2; (focus (intro _; simp [go_sem]; done)); (focus (intro _; simp [go_sem]; done)); rotate_right 2; assumption; assumption; assumption; assumption; (simp only [Act.put, lS]; go_big_quiet_on)))
      (go_big_quiet_want; refine qb_call _ _ ?_ _ HOF.out (Nat.le_refl _) ?_; (focus (intro w; simp [go_sem]; done)); (simp only [Act.put, lS]; go_big_quiet_on))
      repeat (first | go_big_quiet_skip | (go_big_quiet_want; go_big_quiet_op; first | go_big_quiet_on | (refine ⟨_, fun _ _ => rfl, ?_⟩; go_big_quiet_on)) | (go_big_quiet_want; apply qb_load1 _ _ rfl _ _ rfl; rotate_left 2; (focus (intro _; simp [go_sem]; done)); rotate_right 2; assumption; assumption; assumption; (simp only [Act.put, lS]; go_big_quiet_on)) | (go_big_quiet_want; apply qb_loadA _ _ rfl _ _ rfl (sz := 16); rotate_left 2; (focus (intro _; simp [go_sem]; done)); (focus (intro _; simp [go_sem]; done)); rotate_right 2; assumption; assumption; assumption; assumption; (simp only [Act.put, lS]; go_big_quiet_on)) | (go_big_quiet_want; apply qb_loadA _ _ rfl _ _ rfl (sz := 2); rotate_left 2; (focus (intro _; simp [go_sem]; done)); (focus (intro _; simp [go_sem]; done)); rotate_right 2; assumption; assumption; assumption; assumption; (simp only [Act.put, lS]; go_big_quiet_on)) | (go_big_quiet_want; apply qb_loadA _ _ rfl _ _ rfl (sz := 12); rotate_left 2; (focus (intro _; simp [go_sem]; done)); (focus (intro _; simp [go_sem]; done)); rotate_right 2; assumption; assumption; assumption; assumption; (simp only [Act.put, lS]; go_big_quiet_on)) | (go_big_quiet_want; apply qb_loadA _ _ rfl _ _ rfl (sz := 32); rotate_left 2; (focus (intro _; simp [go_sem]; done)); (focus (intro _; simp [go_sem]; done)); rotate_right 2; assumption; assumption; assumption; assumption; (simp only [Act.put, lS]; go_big_quiet_on)))
      (go_big_quiet_want; refine qb_call _ _ ?_ _ (fun w' _ => gadd_any yp.1 yp.2 (hiQ pc) (loQ pc) w') (Nat.le_refl _) ?_; (focus (intro w; simp [go_sem]; done)); (simp only [Act.put, lS]; go_big_quiet_on))
      repeat (first | go_big_quiet_skip | (go_big_quiet_want; go_big_quiet_op; first | go_big_quiet_on | (refine ⟨_, fun _ _ => rfl, ?_⟩; go_big_quiet_on)) | (go_big_quiet_want; apply qb_load1 _ _ rfl _ _ rfl; rotate_left 2; (focus (intro _; simp [go_sem]; done)); rotate_right 2; assumption; assumption; assumption; (simp only [Act.put, lS]; go_big_quiet_on)) | (go_big_quiet_want; apply qb_loadA _ _ rfl _ _ rfl (sz := 16); rotate_left 2; (focus (intro _; simp [go_sem]; done)); (focus (intro _; simp [go_sem]; done)); rotate_right 2; assumption; assumption; assumption; assumption; (simp only [Act.put, lS]; go_big_quiet_on)) | (go_big_quiet_want; apply qb_loadA _ _ rfl _ _ rfl (sz := 2); rotate_left 2; (focus (intro _; simp [go_sem]; done)); (focus (intro _; simp [go_sem]; done)); rotate_right 2; assumption; assumption; assumption; assumption; (simp only [Act.put, lS]; go_big_quiet_on)) | (go_big_quiet_want; apply qb_loadA _ _ rfl _ _ rfl (sz := 12); rotate_left 2; (focus (intro _; simp [go_sem]; done)); (focus (intro _; simp [go_sem]; done)); rotate_right 2; assumption; assumption; assumption; assumption; (simp only [Act.put, lS]; go_big_quiet_on)) | (go_big_quiet_want; apply qb_loadA _ _ rfl _ _ rfl (sz := 32); rotate_left 2; (focus (intro _; simp [go_sem]; done)); (focus (intro _; simp [go_sem]; done)); rotate_right 2; assumption; assumption; assumption; assumption; (simp only [Act.put, lS]; go_big_quiet_on)))
      (go_big_quiet_want; refine qb_call _ _ ?_ _ (fun w' _ => HTM.out w') (Nat.le_refl _) ?_; (focus (intro w; simp [go_sem]; done)); (simp only [Act.put, lS]; go_big_quiet_on))
      refine wpQuiet_nil ?_
      intro w' hw'
      have k6 := g6.below hw' m6
      have k5 := g5.below hw' m5
      have k4 := g4.below hw' g4.lt
      have n6 := k6.lt
      clear g6 g5 g4
      go_wp2_with fail
      have hbW2 := HbW1.out.trans (hw'.mono HbW1.out.size)
      refine ⟨((KeepsOthers.ofBelow hbW2).trans (KeepsOthers.ofSetRow k6 _)).from _, ?_, ⟨?_, k5.setRowOther _ _ (by omega), ⟨z, k4.setRowOther _ _ (by omega), hz⟩, ?_⟩, ?_⟩
      · intro b t cs hb0 hr
        exact (hr.below hbW2 hr.lt).setRowOther _ _ (by rcases hb0 with rfl | rfl <;> omega)
      · rw [← HYN.out]
        exact k6.setRow _
      · intro D hDm
        have h1 := hD D hDm
        have h2 := (hbW2.block D (Array.getElem?_eq_some_iff.1 h1).1).trans h1
        refine (setRow_other _ _ D _ ?_).trans h2
        rintro rfl
        rw [k6.heap] at h2
        cases h2
      · exact bSetRow (HBW1.out.trans (hw'.mono HBW1.out.size)) (by omega) _
    case done =>
      rintro D ys W hDge rfl ⟨⟨h6, h5, h4, hD⟩, hBW⟩ hKD
      have hyn : foldK (elQ bl) l y (List.range (nCh l.length)) = (parts.take (k + 1)).foldl (foldP (elQ bl)) (0, 0) := by
        rw [List.take_succ_eq_append_getElem hk, List.foldl_append, ← HY.out]
        simp only [List.foldl_cons, List.foldl_nil, foldP]
        rw [HL.out]
        simp [List.getD, hk]
      rw [hyn] at h6
      have H6 := Lib.hid h6
      clear hyn h6
      go_wp2_with fail
      refine ⟨gk - 1, by omega, HJ.out _ _ _ ⟨k + 1, D :: Ds, .slice av l.length cv, .bool true, .pointer (some ⟨pg, po + k, none⟩), .slice av l.length cv, .slice av l.length cv, .func (.func 83) #[] #[.pointer (some ⟨Bs, 0, none⟩), .pointer (some ⟨Bs + 1, 0, none⟩)], .int .i64 ((k : Int) + 1), by omega, ?_, ?_, ?_, h5, H6.out, h4, hBW⟩⟩
      · rw [List.map_cons, ← HMS.out]
        rfl
      · rw [List.nodup_cons]
        exact ⟨fun h => by have := (hD3 D h).1; omega, Hnd.out⟩
      · intro E hE
        rcases List.mem_cons.1 hE with rfl | hE
        · exact ⟨by have := hB3.size; omega, hKD⟩
        · exact ⟨(HDs.out E hE).1, hD E hE⟩
    case stop => exact fun D c pre W _ _ h _ => h.elim
  · obtain rfl : k = parts.length := by omega
    have hol := blQ_len y
    have hfin : blQ y = foldF bl parts := by rw [HY.out, List.take_length]; rfl
    have hby := fun w' => gbytes_any y.1 y.2 w'
    obtain ⟨R, hR⟩ : ∃ R, R = blQ y := ⟨_, rfl⟩
    have hby' : ∀ w', Calls Tryd.prog 65 #[.agg #[Q y.1, Q y.2]] w' (fun e w'' => e = .returned (.agg (AB R)) ∧ Below w'.heap.size w' w'') := fun w' => by rw [hR]; exact hby w'
    rw [← hR] at hol hfin
    have HBY := Lib.hid hby'
    have HF := Lib.hid hfin
    clear hby hby' hfin hR
    obtain ⟨z, h4, hz⟩ := r4
    go_wp2_with (go_at_call 65; refine (HBY.out _).mono ?_; rintro e w5 ⟨rfl, hb5⟩; have j4 := h4.below hb5 l4; have m4 := j4.lt)
    have hB5 : Below w.heap.size w (w5.setRow (w.heap.size + 1) (AB R)) := bSetRow (hB.trans (hb5.mono hB.size)) (by omega) _
    have hl16 := (AB_size R).trans hol
    rw [HMS.out]
    refine leaves_marks (n0 := w.heap.size) Ds _ Hnd.out (fun D hD => ?_) (fun w' hr hb => ⟨_, res_row rfl (w.heap.size + 1) _ _ 16 _ rfl (hr _ _ _ (j4.setRow (AB R))) Tryd.underlying84 rfl (by kernel_rfl) hl16, by rw [HF.out], hB5.trans hb⟩)
    obtain ⟨h0, h1⟩ := HDs.out D hD
    have h2 := (hb5.block D (Array.getElem?_eq_some_iff.1 h1).1).trans h1
    refine ⟨h0, (setRow_other _ _ D _ ?_).trans h2⟩
    rintro rfl
    rw [j4.heap] at h2
    cases h2
end Go.Proofs.YtcfbiafedfkbhaaDoor
