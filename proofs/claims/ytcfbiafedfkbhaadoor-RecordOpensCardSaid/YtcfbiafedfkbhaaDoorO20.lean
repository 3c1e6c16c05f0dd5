/- Part of the proof: Tag. No conditions of its own. -/
import Derived.Below
import Derived.BigQuiet
import Derived.BigRegion
import Derived.ChangeOld
import Derived.Deep.CutBlock
import Derived.Deep.DeepCutAuto
import Derived.Deep.Draws
import Derived.Deep.LoopGhost
import Derived.Deep.Quiet
import Derived.Deep.QuietTactic
import Derived.Deep.RegionHeld3
import Derived.Deep.RegionLaw
import Derived.Laws.AppendOwnNone
import Derived.Laws.Bits64
import Derived.Laws.BitsAllLaws
import Derived.Laws.BytesArg
import Derived.Laws.CopyOwn
import Derived.Lib.Hide
import Derived.LoopIn
import Derived.LoopNIn
import Derived.OpenShut
import Derived.OrdersIn
import Derived.OwnWalkIn
import Derived.ProofKit
import Derived.RangeFuncBound
import Derived.RangeFuncBox
import Derived.RangeFuncCalls
import Derived.RangeFuncLeaves
import Derived.RangeFuncNested
import Derived.Shelf.Abstract
import Derived.ShutString
import Derived.StillTail
import Derived.TacticsIn
import Derived.TacticsInMore
import Derived.Test.YtcfbiafedfkbhaaDoorProg
import Derived.WalkKit
import Derived.WalkSpells
import Derived.Test.YtcfbiafedfkbhaaDoorO19
namespace Go.Proofs.YtcfbiafedfkbhaaDoor
open Go.RowKit

def cntB (b c : Nat) : List UInt8 := blQ (UInt64.ofNat (b * 8), UInt64.ofNat (c * 8))
def tagF (K : List UInt8) (last : Nat) (h nonce hidden beside : List UInt8) : List UInt8 :=
  blQ (xorP (elQ (foldF h [beside, hidden, cntB beside.length hidden.length])) (elQ (padB K last nonce 1)))
theorem tagF_len (K : List UInt8) (last : Nat) (h nonce hidden beside : List UInt8) : (tagF K last h nonce hidden beside).length = 16 := blQ_len _
theorem foldF_len (a : List UInt8) (p : List (List UInt8)) : (foldF a p).length = 16 := blQ_len _
theorem heapAt (w : World) (o : Obj) (g : Nat) (h : g = w.heap.size) : (w.alloc o).heap[g]? = some o := by subst h; exact heap_alloc_new w o
theorem drewH (w : World) : w.drew.heap = w.heap := rfl
theorem bSetCells {n : Nat} {a : World} {g : Nat} (hg : n ≤ g) (vs : List Value) (o : Nat) {w : World} (h : Below n a w) : Below n a (w.setCells g o vs) := by
  induction vs generalizing o w with
  | nil => exact h
  | cons v r ih => exact ih _ (h.setCell hg _)
theorem there_row {w : World} {g : Nat} {t : TypeId} {cs : Array Value} {n : Nat} (h : Row w g t cs) (hn : n = cs.size) : w.there g 0 n := fun j hj => by
  refine ⟨?_, h.frozen _⟩
  rw [h.cell, Nat.zero_add]
  simp [show j < cs.size by omega]
theorem setCells_row {w : World} {g : Nat} {t : TypeId} {cs : Array Value} (h : Row w g t cs) (vs : List Value) (hn : vs.length = cs.size) (h1 : ∀ v ∈ vs, v.oneCell' = true) : w.setCells g 0 vs = w.setRow g vs.toArray := by
  have e1 := run_storeCells_at (P := Tryd.prog) g 0 t vs 0 cs w h.heap (by omega) h1
  have e2 := run_storeCells_cells (P := Tryd.prog) g 0 vs 0 w (fun j hj => by simpa using (there_row h hn j (by omega)).1) (fun j hj => by simpa using (there_row h hn j (by omega)).2) h1
  rw [e1] at e2
  simp only [Result.ok.injEq, true_and, Nat.zero_add, List.take_zero, List.nil_append, hn] at e2
  rw [List.drop_eq_nil_of_le (by simp), List.append_nil] at e2
  exact e2.symm
theorem countQ (n : Nat) (h : n ≤ 1000000) : Value.int .u64 ((n : Int) * 8) = Q (UInt64.ofNat (n * 8)) := by
  unfold Q
  rw [UInt64.toNat_ofNat']
  congr 1
  omega

set_option maxRecDepth 100000 in
set_option maxHeartbeats 4000000 in
theorem tag_any (p : Value) (K : List UInt8) (last : Nat) (h nonce : List UInt8) (vh vb : Value) (hid bes : List UInt8) (w : World) (hb : BoxAt 87 109 84 w p K last h) (hn : nonce.length = 12)
    (hh : SlB w vh hid) (hhl : hid.length ≤ 1000000) (hbs : SlB w vb bes) (hbl : bes.length ≤ 1000000) :
    Calls Tryd.prog 47 #[p, .agg (AB nonce), vh, vb] w fun e w' => e = .returned (.agg (AB (tagF K last h nonce hid bes))) ∧ Below w.heap.size w w' := by
  obtain ⟨ha, hc, hv1⟩ : ∃ a c, vh = .slice a hid.length c := let ⟨a, c, h, _⟩ := hh; ⟨a, c, h⟩
  subst hv1
  obtain ⟨ba, bc, hv2⟩ : ∃ a c, vb = .slice a bes.length c := let ⟨a, c, h, _⟩ := hbs; ⟨a, c, h⟩
  subst hv2
  obtain ⟨xb, hxb⟩ : ∃ xb, p = .pointer (some ⟨xb, 0, none⟩) := let ⟨xb, _, h, _⟩ := hb; ⟨xb, h⟩
  subst hxb
  have HB := Lib.hid hb
  have HH := Lib.hid hh
  have HS := Lib.hid hbs
  have hQ1 := Lib.hid (countQ bes.length hbl)
  have hQ2 := Lib.hid (countQ hid.length hhl)
  clear hb hh hbs
  go_enter Tryd.func47, Tryd.ntmps47
  go_wp2_with fail
  rw [hQ1.out, hQ2.out]
  refine (gbytes_any _ _ _).mono ?_
  rintro e w1 ⟨rfl, hb1⟩
  obtain ⟨C, hC⟩ : ∃ C, C = outQ (UInt64.ofNat (bes.length * 8)) (UInt64.ofNat (hid.length * 8)) 8 := ⟨_, rfl⟩
  have hCl : C.length = 16 := by rw [hC]; exact outQ_len _ _ _
  have hCe : C = cntB bes.length hid.length := hC
  rw [← hC]
  have HC := Lib.hid hCe
  have s5 := ((Row.new w 50 (AB nonce)).alloc (.cells (AB (List.replicate 16 0)) 84)).below hb1 (by simp <;> omega)
  have s8 := (RowN.newAt (w.alloc (.cells (AB nonce) 50)) (w.heap.size + 1) 84 (AB (List.replicate 16 0)) (by simp)).below hb1 (by simp <;> omega)
  rw [show (AB (List.replicate 16 0)).size = 16 from rfl] at s8
  have hB1 : Below w.heap.size w w1 := (((Below.refl _ w).alloc (Nat.le_refl _) _).alloc (by simp) _).trans (hb1.mono (by simp <;> omega))
  have hs1 : w.heap.size + 2 ≤ w1.heap.size := by have := hb1.size; simpa using this
  have hC16 := (AB_size C).trans hCl
  clear hC hCe hb1
  go_upto_region 2 with (fail)
  obtain ⟨w2, hw2⟩ : ∃ w2, w2 = (w1.alloc (.cells #[.int .u8 0, .int .u8 0, .int .u8 0, .int .u8 0, .int .u8 0, .int .u8 0, .int .u8 0, .int .u8 0, .int .u8 0, .int .u8 0, .int .u8 0, .int .u8 0, .int .u8 0, .int .u8 0, .int .u8 0, .int .u8 0] 84)).setRow w1.heap.size (AB C) := ⟨_, rfl⟩
  obtain ⟨t9, ht9⟩ : ∃ t9, t9 = w1.heap.size := ⟨_, rfl⟩
  rw [← hw2, ← ht9]
  have r9 : Row w2 t9 84 (AB C) := by rw [hw2, ht9]; exact (Row.new _ _ _).setRow _
  have r5 : Row w2 w.heap.size 50 (AB nonce) := by rw [hw2]; exact (s5.alloc _).setRowOther _ _ (by omega)
  have r8 : RowN w2 (w.heap.size + 1) 84 16 := by rw [hw2]; exact (s8.alloc _).setRowOther _ _ (by omega)
  have hB2 : Below w.heap.size w w2 := by rw [hw2]; exact bSetRow (hB1.alloc (by omega) _) (by omega) _
  have ht : w.heap.size + 1 < t9 := by omega
  clear hw2 ht9 s5 s8 hB1 hs1
  obtain ⟨xb', kp, e1, hx, hk, hhl16⟩ := HB.out.below hB2
  simp only [Value.pointer.injEq, Option.some.injEq, Addr.mk.injEq, and_true] at e1
  subst e1
  have lx := hx.lt
  have l9 := r9.lt
  have hrg : ∀ w', Below w2.heap.size w2 w' → w'.rangeAt xb 1 (h.map B) := by
    intro w' hb j v hv
    have hj : j < h.length := by simpa using (List.getElem?_eq_some_iff.1 hv).1
    rw [(hx.below hb lx).cell]
    rw [← hv, ← Array.getElem?_toList]
    simp [boxC, AB, Nat.add_comm 1 j]
  have hkeep : ∀ w', Below w2.heap.size w2 w' → w'.rangeAt xb 1 (h.map B) ∧ Below w2.heap.size w2 w' := fun w' hb => ⟨hrg w' hb, hb⟩
  have hu23 := Tryd.underlying84
  have hi23 : (Tryd.prog.info? 84).map (·.size) = some (h.map B).length := by rw [List.length_map, hhl16]; kernel_rfl
  have hl23 : (h.map B).length = 16 := by rw [List.length_map, hhl16]
  have ho23 : ∀ v ∈ h.map B, v.oneCell' = true := by intro u hu; obtain ⟨z, _, rfl⟩ := List.mem_map.1 hu; rfl
  have hpt : ∀ w' s, Below w2.heap.size w2 w' → w'.heap[s]? = some (.cells #[.slice ba bes.length bc, .slice ha hid.length hc, .slice (some ⟨t9, 0, none⟩) 16 16] 23 (0, 0)) → PartsAt w' (.slice (some ⟨s, 0, none⟩) 3 3) [bes, hid, C] := by
    intro w' s hb hs
    have hbw := hB2.trans (hb.mono hB2.size)
    refine ⟨_, 3, rfl, Nat.le_refl _, by decide, fun i hi => ?_⟩
    have hc := fun j => (Row.of_heap hs).cell j
    match i, hi with
    | 0, _ => exact ⟨s, 0, _, rfl, hc 0, HS.out.below hbw, by simpa using Nat.le_trans hbl (by decide)⟩
    | 1, _ => exact ⟨s, 0, _, rfl, hc 1, HH.out.below hbw, by simpa using Nat.le_trans hhl (by decide)⟩
    | 2, _ => exact ⟨s, 0, _, rfl, hc 2, SlB.of_row (r9.below hb l9) hCl (by decide), by simp [hCl]⟩
  have HPT := Lib.hid hpt
  have hfl := foldF_len h [bes, hid, C]
  obtain ⟨F, hF⟩ : ∃ F, F = foldF h [bes, hid, C] := ⟨_, rfl⟩
  have hfold : ∀ w' s, Below w2.heap.size w2 w' → w'.heap[s]? = some (.cells #[.slice ba bes.length bc, .slice ha hid.length hc, .slice (some ⟨t9, 0, none⟩) 16 16] 23 (0, 0)) → Calls Tryd.prog 66 #[.agg (h.map B).toArray, .slice (some ⟨s, 0, none⟩) 3 3] w' (fun e w'' => e = .returned (.agg (F.map B).toArray) ∧ Below w'.heap.size w' w'') := fun w' s hb hs => by
    rw [hF]; exact gfold_any h _ _ w' hhl16 (HPT.out w' s hb hs)
  rw [← hF] at hfl
  have HF := Lib.hid hF
  have HFO := Lib.hid hfold
  have hF16 := (AB_size F).trans hfl
  have hlF : (F.map B).length = 16 := by rw [List.length_map, hfl]
  have hiF : (Tryd.prog.info? 84).map (·.size) = some (F.map B).length := by rw [hlF]; kernel_rfl
  have hoF : ∀ v ∈ F.map B, v.oneCell' = true := by intro u hu; obtain ⟨z, _, rfl⟩ := List.mem_map.1 hu; rfl
  clear hF hfold hpt
  have hd0 : Below w2.heap.size w2 w2.drew := (Below.refl _ _).drew
  go_region_held3? (fun w' => w'.rangeAt xb 1 (h.map B) ∧ Below w2.heap.size w2 w')
    ((refine hkeep _ ?_; first | assumption | exact hd0 | exact Below.alloc hd0 (Nat.le_refl _) _ | exact Below.alloc (Below.alloc hd0 (Nat.le_refl _) _) (by simp) _ | exact Below.alloc (by assumption) (Below.size (by assumption)) _ | exact bSetCells (by first | exact Nat.le_refl _ | exact Nat.le_succ _ | exact Below.size (by assumption)) _ _ (by first | assumption | exact Below.alloc (by assumption) (Below.size (by assumption)) _)))
    ((go_at_call 66; refine (HFO.out _ _ (by first | assumption | exact hd0 | exact Below.alloc hd0 (Nat.le_refl _) _ | exact Below.alloc (Below.alloc hd0 (Nat.le_refl _) _) (by simp) _ | exact Below.alloc (by assumption) (Below.size (by assumption)) _) (by first | exact heap_alloc_new _ _ | exact heapAt _ _ _ (by simp) | (rw [Below.heap_alloc _ _ _ (by simp)]; exact heap_alloc_new _ _) | (rw [drewH, Below.heap_alloc _ _ _ (by simp)]; exact heap_alloc_new _ _))).mono ?_; rintro e w5 ⟨rfl, hb5⟩; have hb6 : Below w2.heap.size w2 w5 := Below.trans (by first | assumption | exact hd0 | exact Below.alloc hd0 (Nat.le_refl _) _ | exact Below.alloc (Below.alloc hd0 (Nat.le_refl _) _) (by simp) _ | exact Below.alloc (by assumption) (Below.size (by assumption)) _) (Below.mono hb5 (by simp <;> omega)); have tr1 := Row.new w5 84 #[.int .u8 0, .int .u8 0, .int .u8 0, .int .u8 0, .int .u8 0, .int .u8 0, .int .u8 0, .int .u8 0, .int .u8 0, .int .u8 0, .int .u8 0, .int .u8 0, .int .u8 0, .int .u8 0, .int .u8 0, .int .u8 0]; have th1 : (w5.alloc (.cells #[.int .u8 0, .int .u8 0, .int .u8 0, .int .u8 0, .int .u8 0, .int .u8 0, .int .u8 0, .int .u8 0, .int .u8 0, .int .u8 0, .int .u8 0, .int .u8 0, .int .u8 0, .int .u8 0, .int .u8 0, .int .u8 0] 84)).there w5.heap.size 0 (F.map B).length := there_row tr1 hlF; (try have tr2 : Row w5 (w2.heap.size + 1) _ _ := (Row.below (Row.of_heap (t := 84) (cs := #[.int .u8 0, .int .u8 0, .int .u8 0, .int .u8 0, .int .u8 0, .int .u8 0, .int .u8 0, .int .u8 0, .int .u8 0, .int .u8 0, .int .u8 0, .int .u8 0, .int .u8 0, .int .u8 0, .int .u8 0, .int .u8 0]) (by (try simp only [drewH]); exact heapAt _ _ _ (by simp))) hb5 (by simp))); (try have th2 := there_row tr2 hlF); (try have tr3 : Row w5 w2.heap.size _ _ := (Row.below (Row.of_heap (t := 84) (cs := #[.int .u8 0, .int .u8 0, .int .u8 0, .int .u8 0, .int .u8 0, .int .u8 0, .int .u8 0, .int .u8 0, .int .u8 0, .int .u8 0, .int .u8 0, .int .u8 0, .int .u8 0, .int .u8 0, .int .u8 0, .int .u8 0]) (by (try simp only [drewH]); rw [Below.heap_alloc _ _ _ (by simp)]; exact heapAt _ _ _ (by simp))) hb5 (by simp; omega))); (try have th3 := there_row tr3 hlF)))
  all_goals (first | (rw [setCells_row tr1 _ hlF hoF]; obtain ⟨W, hW⟩ : ∃ W, W = (w5.alloc (.cells #[.int .u8 0, .int .u8 0, .int .u8 0, .int .u8 0, .int .u8 0, .int .u8 0, .int .u8 0, .int .u8 0, .int .u8 0, .int .u8 0, .int .u8 0, .int .u8 0, .int .u8 0, .int .u8 0, .int .u8 0, .int .u8 0] 84)).setRow (w5.heap.size) (F.map B).toArray := ⟨_, rfl⟩; have r10 : Row W (w5.heap.size) 84 (AB F) := (by rw [hW]; exact tr1.setRow _); have hBW : Below w2.heap.size w2 W := (by rw [hW]; exact bSetRow (hb6.alloc hb6.size _) hb6.size _); rw [← hW]; obtain ⟨t10, ht10⟩ : ∃ t, t = w5.heap.size := ⟨_, rfl⟩; have hle : w2.heap.size ≤ t10 := (by rw [ht10]; exact hb6.size); rw [← ht10] at r10 ⊢; clear hW ht10) | (rw [setCells_row tr2 _ hlF hoF]; obtain ⟨W, hW⟩ : ∃ W, W = (w5).setRow (w2.heap.size + 1) (F.map B).toArray := ⟨_, rfl⟩; have r10 : Row W (w2.heap.size + 1) 84 (AB F) := (by rw [hW]; exact tr2.setRow _); have hBW : Below w2.heap.size w2 W := (by rw [hW]; exact bSetRow hb6 (Nat.le_succ _) _); rw [← hW]; obtain ⟨t10, ht10⟩ : ∃ t, t = w2.heap.size + 1 := ⟨_, rfl⟩; have hle : w2.heap.size ≤ t10 := (by rw [ht10]; exact (Nat.le_succ _)); rw [← ht10] at r10 ⊢; clear hW ht10) | (rw [setCells_row tr3 _ hlF hoF]; obtain ⟨W, hW⟩ : ∃ W, W = (w5).setRow (w2.heap.size) (F.map B).toArray := ⟨_, rfl⟩; have r10 : Row W (w2.heap.size) 84 (AB F) := (by rw [hW]; exact tr3.setRow _); have hBW : Below w2.heap.size w2 W := (by rw [hW]; exact bSetRow hb6 (Nat.le_refl _) _); rw [← hW]; obtain ⟨t10, ht10⟩ : ∃ t, t = w2.heap.size := ⟨_, rfl⟩; have hle : w2.heap.size ≤ t10 := (by rw [ht10]; exact (Nat.le_refl _)); rw [← ht10] at r10 ⊢; clear hW ht10))
  all_goals
    have g5 := r5.below hBW r5.lt
    have g8 := r8.below hBW r8.lt
    have hB5 : Below w.heap.size w W := hB2.trans (hBW.mono hB2.size)
    have hn5 := (AB_size nonce).trans hn
    have lg5 := g5.lt
    have lg8 := g8.lt
    have l10 := r10.lt
    go_wp2_with fail
  all_goals
    refine (pad_any _ K last h nonce 1 W (HB.out.below hB5) hn).mono ?_
    rintro e w6 ⟨rfl, hb7⟩
    have hpl := sealN_len K last (ctrB nonce 1) last
    obtain ⟨Pd, hPd⟩ : ∃ Pd, Pd = sealN K last (ctrB nonce 1) last := ⟨_, rfl⟩
    rw [← hPd] at hpl ⊢
    have HPD := Lib.hid hPd
    clear hPd
    have hP16 := (AB_size Pd).trans hpl
    have f10 := r10.below hb7 l10
    have f8 := g8.below hb7 lg8
    have hB6 := hB5.trans (hb7.mono hB5.size)
    have l10' : t10 < w6.heap.size := f10.lt
    have l8' : w.heap.size + 1 < w6.heap.size := f8.lt
    go_upto_region 4 with (fail)
  all_goals
    obtain ⟨w7, hw7⟩ : ∃ w7, w7 = (w6.alloc (.cells #[.int .u8 0, .int .u8 0, .int .u8 0, .int .u8 0, .int .u8 0, .int .u8 0, .int .u8 0, .int .u8 0, .int .u8 0, .int .u8 0, .int .u8 0, .int .u8 0, .int .u8 0, .int .u8 0, .int .u8 0, .int .u8 0] 84)).setRow w6.heap.size (AB Pd) := ⟨_, rfl⟩
    rw [← hw7]
    have k11 : Row w7 w6.heap.size 84 (AB Pd) := by rw [hw7]; exact (Row.new _ _ _).setRow _
    have k10 : Row w7 t10 84 (AB F) := by rw [hw7]; exact (f10.alloc _).setRowOther _ _ (by omega)
    have k8 : RowN w7 (w.heap.size + 1) 84 16 := by rw [hw7]; exact (f8.alloc _).setRowOther _ _ (by omega)
    have hB7 : Below w.heap.size w w7 := by rw [hw7]; exact bSetRow (hB6.alloc hB6.size _) hB6.size _
    clear hw7
    have hof1 : ∀ w', Below w7.heap.size w7 w' → _ := fun w' hh => gof_any _ F w' (SlB.of_row (k10.below hh k10.lt) hfl (by decide)) hfl
    have hof2 : ∀ w', Below w7.heap.size w7 w' → _ := fun w' hh => gof_any _ Pd w' (SlB.of_row (k11.below hh k11.lt) hpl (by decide)) hpl
    have hol := blQ_len (xorP (elQ F) (elQ Pd))
    obtain ⟨R, hR⟩ : ∃ R, R = blQ (xorP (elQ F) (elQ Pd)) := ⟨_, rfl⟩
    have had : ∀ w', Calls Tryd.prog 68 #[.agg #[Q (hiQ F), Q (loQ F)], .agg #[Q (hiQ Pd), Q (loQ Pd)]] w' _ := fun w' => gadd_any _ _ _ _ w'
    have hby : ∀ w', Calls Tryd.prog 65 #[.agg #[Q (xq (hiQ F) (hiQ Pd)), Q (xq (loQ F) (loQ Pd))]] w' (fun e w'' => e = .returned (.agg (AB R)) ∧ Below w'.heap.size w' w'') := fun w' => by rw [hR]; exact gbytes_any _ _ w'
    rw [← hR] at hol
    have HR := Lib.hid hR
    have Hof1 := Lib.hid hof1
    have Hof2 := Lib.hid hof2
    have Had := Lib.hid had
    have Hby := Lib.hid hby
    clear hR hof1 hof2 had hby
    refine wp_region_qtail (Below w7.heap.size w7) 6 (by kernel_rfl) (by kernel_rfl) (Below.refl _ _).drew ?_
    simp only [List.take_succ_cons, List.take_zero, List.drop_succ_cons, List.drop_zero]
    repeat (first | go_big_quiet_skip | (go_big_quiet_want; go_big_quiet_op; first | go_big_quiet_on | (refine ⟨_, fun _ _ => rfl, ?_⟩; go_big_quiet_on)) | (go_big_quiet_want; apply qb_load1 _ _ rfl _ _ rfl; rotate_left 2; (focus (intro _; simp [go_sem]; done)); rotate_right 2; assumption; assumption; assumption; (simp only [Act.put, lS]; go_big_quiet_on)) | (go_big_quiet_want; apply qb_loadA _ _ rfl _ _ rfl (sz := 16); rotate_left 2; (focus (intro _; simp [go_sem]; done)); (focus (intro _; simp [go_sem]; done)); rotate_right 2; assumption; assumption; assumption; assumption; (simp only [Act.put, lS]; go_big_quiet_on)))
    (go_big_quiet_want; refine qb_call _ _ ?_ _ Hof1.out (Nat.le_refl _) ?_; (focus (intro w; simp [go_sem]; done)); (simp only [Act.put, lS]; go_big_quiet_on))
    repeat (first | go_big_quiet_skip | (go_big_quiet_want; go_big_quiet_op; first | go_big_quiet_on | (refine ⟨_, fun _ _ => rfl, ?_⟩; go_big_quiet_on)) | (go_big_quiet_want; apply qb_load1 _ _ rfl _ _ rfl; rotate_left 2; (focus (intro _; simp [go_sem]; done)); rotate_right 2; assumption; assumption; assumption; (simp only [Act.put, lS]; go_big_quiet_on)) | (go_big_quiet_want; apply qb_loadA _ _ rfl _ _ rfl (sz := 16); rotate_left 2; (focus (intro _; simp [go_sem]; done)); (focus (intro _; simp [go_sem]; done)); rotate_right 2; assumption; assumption; assumption; assumption; (simp only [Act.put, lS]; go_big_quiet_on)))
    (go_big_quiet_want; refine qb_call _ _ ?_ _ Hof2.out (Nat.le_refl _) ?_; (focus (intro w; simp [go_sem]; done)); (simp only [Act.put, lS]; go_big_quiet_on))
    repeat (first | go_big_quiet_skip | (go_big_quiet_want; go_big_quiet_op; first | go_big_quiet_on | (refine ⟨_, fun _ _ => rfl, ?_⟩; go_big_quiet_on)) | (go_big_quiet_want; apply qb_load1 _ _ rfl _ _ rfl; rotate_left 2; (focus (intro _; simp [go_sem]; done)); rotate_right 2; assumption; assumption; assumption; (simp only [Act.put, lS]; go_big_quiet_on)) | (go_big_quiet_want; apply qb_loadA _ _ rfl _ _ rfl (sz := 16); rotate_left 2; (focus (intro _; simp [go_sem]; done)); (focus (intro _; simp [go_sem]; done)); rotate_right 2; assumption; assumption; assumption; assumption; (simp only [Act.put, lS]; go_big_quiet_on)))
    (go_big_quiet_want; refine qb_call _ _ ?_ _ (fun w' _ => Had.out w') (Nat.le_refl _) ?_; (focus (intro w; simp [go_sem]; done)); (simp only [Act.put, lS]; go_big_quiet_on))
    repeat (first | go_big_quiet_skip | (go_big_quiet_want; go_big_quiet_op; first | go_big_quiet_on | (refine ⟨_, fun _ _ => rfl, ?_⟩; go_big_quiet_on)) | (go_big_quiet_want; apply qb_load1 _ _ rfl _ _ rfl; rotate_left 2; (focus (intro _; simp [go_sem]; done)); rotate_right 2; assumption; assumption; assumption; (simp only [Act.put, lS]; go_big_quiet_on)) | (go_big_quiet_want; apply qb_loadA _ _ rfl _ _ rfl (sz := 16); rotate_left 2; (focus (intro _; simp [go_sem]; done)); (focus (intro _; simp [go_sem]; done)); rotate_right 2; assumption; assumption; assumption; assumption; (simp only [Act.put, lS]; go_big_quiet_on)))
    (go_big_quiet_want; refine qb_call _ _ ?_ _ (fun w' _ => Hby.out w') (Nat.le_refl _) ?_; (focus (intro w; simp [go_sem]; done)); (simp only [Act.put, lS]; go_big_quiet_on))
    refine wpQuiet_nil ?_
    intro w' hw'
    obtain ⟨z, hz, hzs⟩ := k8.below hw' k8.lt
    have HBE := hB7.trans (hw'.mono hB7.size)
    have hl16 := (AB_size R).trans hol
    clear k10 k11 k8 hB7 hw'
    go_wp2_with fail
    exact ret_row (.inl rfl) rfl (w.heap.size + 1) _ _ 16 _ rfl (hz.setRow _) Tryd.underlying84 rfl (by kernel_rfl) hl16 ⟨by rw [HR.out, HF.out, HPD.out, HC.out]; rfl, bSetRow HBE (by omega) _⟩
end Go.Proofs.YtcfbiafedfkbhaaDoor
