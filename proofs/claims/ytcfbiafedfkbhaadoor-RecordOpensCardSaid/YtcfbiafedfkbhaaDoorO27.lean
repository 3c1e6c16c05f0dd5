/- Part of the proof: RefFoldSpec, Ctr. No conditions of its own. -/
import Derived.Below
import Derived.BigQuiet
import Derived.ChangeOld
import Derived.Deep.DeepCutAuto
import Derived.Deep.LoopGhost
import Derived.Deep.Quiet
import Derived.Deep.QuietTactic
import Derived.Deep.RegionLaw
import Derived.Laws.AppendOwnNone
import Derived.Laws.Bits64
import Derived.Laws.BitsAllLaws
import Derived.Laws.CopyOwn
import Derived.Lib.Hide
import Derived.LoopIn
import Derived.LoopNIn
import Derived.OpenShut
import Derived.OrdersIn
import Derived.OwnWalkIn
import Derived.ProofKit
import Derived.RangeFuncBound
import Derived.RangeFuncCalls
import Derived.RangeFuncLeaves
import Derived.RangeFuncNested
import Derived.Shelf.Abstract
import Derived.ShutString
import Derived.StillTail
import Derived.TacticsIn
import Derived.TacticsInMore
import Derived.Test.YtcfbiafedfkbhaaDoorProg
import Derived.WalkKit
import Derived.WalkSpells
import Derived.Test.YtcfbiafedfkbhaaDoorO15
import Derived.Test.YtcfbiafedfkbhaaDoorO26
import Derived.BigRegion
import Derived.Deep.CutBlock
import Derived.Deep.Draws
import Derived.Deep.RegionHeld3
import Derived.Laws.BytesArg
import Derived.RangeFuncBox
import Derived.Test.YtcfbiafedfkbhaaDoorO08
import Derived.Test.YtcfbiafedfkbhaaDoorO20
namespace Go.Proofs.YtcfbiafedfkbhaaDoor
open Go.RowKit

theorem q2_inj {a b : UInt64 × UInt64} (h : q2 a = q2 b) : a = b := by
  have h1 := a.2.toNat_lt
  have h2 := b.2.toNat_lt
  unfold q2 at h
  have e1 : a.1.toNat = b.1.toNat := by omega
  have e2 : a.2.toNat = b.2.toNat := by omega
  exact Prod.ext (UInt64.toNat_inj.1 e1) (UInt64.toNat_inj.1 e2)
theorem el_bl (q : UInt64 × UInt64) : elQ (blQ q) = q := by
  apply q2_inj
  rw [q2_el _ (blQ_len q), blQ_fB, be_fB _ (q2_lt q)]
theorem bl_el (l : List UInt8) (h : l.length = 16) : blQ (elQ l) = l := by rw [blQ_fB, q2_el l h, fB_be l h]
theorem el_xorL (a b : List UInt8) (ha : a.length = 16) (hb : b.length = 16) : elQ (xorL a b) = xorP (elQ a) (elQ b) := by
  apply q2_inj
  rw [q2_el _ (xorL_len _ _), be_xorL a b ha hb, xorP, q2_xor, q2_el a ha, q2_el b hb]
theorem bl_foldC (by' : List UInt8) (q : UInt64 × UInt64) (c : List UInt8) (hc : c.length ≤ 16) : blQ (foldC (elQ by') q c) = gprod (xorL (blQ q) (padC c)) by' := by
  unfold gprod foldC
  rw [el_xorL _ _ (blQ_len q) (padC_len c hc), el_bl]
def xjP (y c : List UInt8) (j : Nat) : List UInt8 := tab 16 fun i => if i < j then xr (gb y i) (gb c i) else gb y i
theorem xjP_len (y c : List UInt8) (j : Nat) : (xjP y c j).length = 16 := tab_length _ _
theorem xjP_zero (y c : List UInt8) (h : y.length = 16) : xjP y c 0 = y := by
  have : xjP y c 0 = tab 16 (gb y) := tab_congr fun i _ => by rw [if_neg (by omega)]
  rw [this, tab_gb h]
theorem xjP_get (y c : List UInt8) (j : Nat) (h : j < 16) : gb (xjP y c j) j = gb y j := by unfold xjP; rw [gb_tab _ h, if_neg (by omega)]
theorem xjP_step (y c : List UInt8) (j : Nat) : (xjP y c j).set j (xr (gb y j) (gb c j)) = xjP y c (j + 1) := by
  unfold xjP
  rw [tab_set]
  apply tab_congr
  intro i _
  by_cases h : i = j
  · subst h; rw [if_pos rfl, if_pos (by omega)]
  · rw [if_neg h]
    by_cases h2 : i < j
    · rw [if_pos h2, if_pos (by omega)]
    · rw [if_neg h2, if_neg (by omega)]
theorem gb_padC (c : List UInt8) (i : Nat) : gb (padC c) i = gb c i := by
  unfold padC
  by_cases h : i < c.length
  · rw [gb_append_left _ _ _ h]
  · have e : gb (c ++ List.replicate (16 - c.length) 0) i = gb (List.replicate (16 - c.length) 0) (i - c.length) := by
      simp only [gb, List.getD_eq_getElem?_getD, List.getElem?_append, if_neg h]
    rw [e]
    simp [gb, List.getElem?_replicate, show c.length ≤ i by omega]
    split <;> rfl
theorem xjP_full (y c : List UInt8) : xjP y c c.length = xorL y (padC c) := tab_congr fun i _ => by
  rw [gb_padC c i]
  by_cases h : i < c.length
  · rw [if_pos h]
  · rw [if_neg h]
    have : gb c i = 0 := by simp [gb, show c.length ≤ i by omega]
    rw [this, xr]
    simp
theorem gb_chB (l : List UInt8) (x j : Nat) (hj : j < 16) : gb (chB l x) j = gb l (16 * x + j) := by simp [gb, chB, hj]
end Go.Proofs.YtcfbiafedfkbhaaDoor

/- The walk of the document's Fold. -/
namespace Go.Proofs.YtcfbiafedfkbhaaDoor
open Go.RowKit

def StrsAt (w : World) (vp : Value) (parts : List (List UInt8)) : Prop :=
  ∃ a cap, vp = .slice a parts.length cap ∧ parts.length ≤ cap ∧ cap ≤ maxLen ∧ ∀ i, i < parts.length → ∃ g o, a = some ⟨g, o, none⟩ ∧ w.cell? ⟨g, o + i, none⟩ = some (S (parts.getD i [])) ∧ (parts.getD i []).length ≤ 1000000
theorem StrsAt.below {w w' : World} {vp : Value} {parts : List (List UInt8)} (h : StrsAt w vp parts) (hb : Below w.heap.size w w') : StrsAt w' vp parts := by
  obtain ⟨a, cap, e, h1, h2, h3⟩ := h
  refine ⟨a, cap, e, h1, h2, fun i hi => ?_⟩
  obtain ⟨g, o, e1, e2, e3⟩ := h3 i hi
  exact ⟨g, o, e1, (hb.cell (World.block_lt_of_cell? w _ e2)).trans e2, e3⟩
theorem blQ_nil : AB (blQ (0, 0)) = #[.int .u8 0, .int .u8 0, .int .u8 0, .int .u8 0, .int .u8 0, .int .u8 0, .int .u8 0, .int .u8 0, .int .u8 0, .int .u8 0, .int .u8 0, .int .u8 0, .int .u8 0, .int .u8 0, .int .u8 0, .int .u8 0] := by kernel_rfl
set_option maxRecDepth 100000 in
set_option maxHeartbeats 4000000 in
theorem refFold_any (bl : List UInt8) (parts : List (List UInt8)) (vp : Value) (w : World) (hb : bl.length = 16) (hp : StrsAt w vp parts) :
    Calls Tryd.prog 56 #[.agg (AB bl), vp] w fun e w' => e = .returned (.agg (AB (foldF bl parts))) ∧ Below w.heap.size w w' := by
  obtain ⟨pa, pcap, rfl, hpc, hpm, hpe⟩ := hp
  have HPE := Lib.hid hpe
  have hb16 := (AB_size bl).trans hb
  clear hpe
  unfold maxLen at hpm
  go_enter Tryd.func56, Tryd.ntmps56
  go_wp2_with fail
  obtain ⟨w0, hw0⟩ : ∃ w0, w0 = ((w.alloc (.cells (AB bl) 84)).alloc (.cells #[.int .u8 0, .int .u8 0, .int .u8 0, .int .u8 0, .int .u8 0, .int .u8 0, .int .u8 0, .int .u8 0, .int .u8 0, .int .u8 0, .int .u8 0, .int .u8 0, .int .u8 0, .int .u8 0, .int .u8 0, .int .u8 0] 84)).alloc (.cells #[.int .u8 0, .int .u8 0, .int .u8 0, .int .u8 0, .int .u8 0, .int .u8 0, .int .u8 0, .int .u8 0, .int .u8 0, .int .u8 0, .int .u8 0, .int .u8 0, .int .u8 0, .int .u8 0, .int .u8 0, .int .u8 0] 84) := ⟨_, rfl⟩
  rw [← hw0]
  have h2 : Row w0 w.heap.size 84 (AB bl) := by rw [hw0]; exact ((Row.new w _ _).alloc _).alloc _
  have h4 : RowN w0 (w.heap.size + 1) 84 16 := by rw [hw0]; exact (RowN.newAt _ _ _ #[.int .u8 0, .int .u8 0, .int .u8 0, .int .u8 0, .int .u8 0, .int .u8 0, .int .u8 0, .int .u8 0, .int .u8 0, .int .u8 0, .int .u8 0, .int .u8 0, .int .u8 0, .int .u8 0, .int .u8 0, .int .u8 0] (by simp)).alloc _
  have h5 : Row w0 (w.heap.size + 1 + 1) 84 (AB (blQ ((parts.take 0).foldl (foldP (elQ bl)) (0, 0)))) := by
    rw [show AB (blQ ((parts.take 0).foldl (foldP (elQ bl)) (0, 0))) = #[.int .u8 0, .int .u8 0, .int .u8 0, .int .u8 0, .int .u8 0, .int .u8 0, .int .u8 0, .int .u8 0, .int .u8 0, .int .u8 0, .int .u8 0, .int .u8 0, .int .u8 0, .int .u8 0, .int .u8 0, .int .u8 0] from blQ_nil, hw0]
    exact Row.newAt _ _ _ _ (by simp)
  have hB : Below w.heap.size w w0 := by rw [hw0]; exact (((Below.refl _ w).alloc (Nat.le_refl _) _).alloc (by simp) _).alloc (by simp <;> omega) _
  clear hw0
  go_loopg [6] (parts.length) (fun m iv wr => ∃ k : Nat, m + k = parts.length ∧ iv = .int .i64 k ∧ Row wr w.heap.size 84 (AB bl) ∧ RowN wr (w.heap.size + 1) 84 16 ∧ Row wr (w.heap.size + 1 + 1) 84 (AB (blQ ((parts.take k).foldl (foldP (elQ bl)) (0, 0)))) ∧ Below w.heap.size w wr)
  case atStart => exact ⟨0, by omega, rfl, h2, h4, h5, hB⟩
  case round =>
    clear h2 h4 h5 hB
    obtain ⟨k, hk, rfl, h2, h4, h5, hB⟩ := hrel
    obtain ⟨no, rfl⟩ : ∃ no : Nat, no = gk := ⟨_, rfl⟩
    by_cases hkp : k < parts.length
    · have c1 : (k : Int) < (parts.length : Int) := by omega
      obtain ⟨pg, po, rfl, hcell, hpl⟩ := HPE.out k hkp
      obtain ⟨y0, hy0⟩ : ∃ y, y = (parts.take k).foldl (foldP (elQ bl)) (0, 0) := ⟨_, rfl⟩
      have hpn : (parts.take (k + 1)).foldl (foldP (elQ bl)) (0, 0) = foldP (elQ bl) y0 (parts.getD k []) := by
        rw [List.take_succ_eq_append_getElem hkp, List.foldl_append, ← hy0]
        simp [hkp]
      have hcell' : wr.cell? ⟨pg, po + k, none⟩ = some (S (parts.getD k [])) := (hB.cell (World.block_lt_of_cell? w _ hcell)).trans hcell
      obtain ⟨l, hl⟩ : ∃ l, l = parts.getD k [] := ⟨_, rfl⟩
      rw [← hl] at hpn hcell' hpl
      rw [← hy0] at h5
      have HPN := Lib.hid hpn
      clear hpn hl hy0 hcell
      go_wp2_with fail
      go_loopg [8] (nCh l.length) (fun m iv wr => ∃ x : Nat, m + x = nCh l.length ∧ iv = .int .i64 (16 * (x : Int)) ∧ Row wr w.heap.size 84 (AB bl) ∧ RowN wr (w.heap.size + 1) 84 16 ∧ Row wr (w.heap.size + 1 + 1) 84 (AB (blQ (foldK (elQ bl) l y0 (List.range x)))) ∧ Below w.heap.size w wr)
      case atStart => exact ⟨0, by omega, rfl, h2, h4, h5, hB⟩
      case round =>
        clear h2 h4 h5 hB hcell'
        obtain ⟨x, hx, rfl, h2, h4, h5, hB⟩ := hrel
        obtain ⟨n1, rfl⟩ : ∃ n1 : Nat, n1 = gk := ⟨_, rfl⟩
        by_cases hxn : x < nCh l.length
        ·
          --<A
          have hxl : 16 * x < l.length := by unfold nCh at hxn; omega
          have c2 : 16 * (x : Int) < (l.length : Int) := by omega
          have c3 : (0 : Int) ≤ (x : Int) := by omega
          have c4 : (l.length : Int) ≤ 1000000 := by omega
          obtain ⟨Y, hY⟩ : ∃ Y, Y = blQ (foldK (elQ bl) l y0 (List.range x)) := ⟨_, rfl⟩
          obtain ⟨c, hc⟩ : ∃ c, c = chB l x := ⟨_, rfl⟩
          have hcl : c.length = min 16 (l.length - 16 * x) := by rw [hc, chB_len]
          have hc16 : c.length ≤ 16 := by omega
          have hyl : Y.length = 16 := by rw [hY]; exact blQ_len _
          have hnext : blQ (foldK (elQ bl) l y0 (List.range (x + 1))) = gprod (xorL Y (padC c)) bl := by
            rw [List.range_succ, foldK_snoc, bl_foldC _ _ _ (by rw [← hc]; exact hc16), ← hc, ← hY]
          have hgc : ∀ j, j < 16 → gb l (16 * x + j) = gb c j := fun j hj => by rw [hc, gb_chB l x j hj]
          rw [← hY, ← xjP_zero Y c hyl] at h5
          have HNX := Lib.hid hnext
          have HGC := Lib.hid hgc
          have HCL := Lib.hid hcl
          have HYL := Lib.hid hyl
          clear hY hc hcl hnext hgc hyl
          go_wp2_with fail
          go_loopg [9] (c.length) (fun m iv wr => ∃ j : Nat, m + j = c.length ∧ iv = .int .i64 (j : Int) ∧ Row wr w.heap.size 84 (AB bl) ∧ RowN wr (w.heap.size + 1) 84 16 ∧ Row wr (w.heap.size + 1 + 1) 84 (AB (xjP Y c j)) ∧ Below w.heap.size w wr)
          case atStart => exact ⟨0, by omega, rfl, h2, h4, h5, hB⟩
          case round =>
            clear h2 h4 h5 hB
            obtain ⟨j, hj, rfl, h2, h4, h5, hB⟩ := hrel
            by_cases hjc : j < c.length
            · have d1 : (j : Int) < 16 := by omega
              have d0 : j < 16 := by omega
              have hcl := HCL.out
              have d2 : 16 * (x : Int) + (j : Int) < (l.length : Int) := by omega
              have d3 : (0 : Int) ≤ 16 * (x : Int) + (j : Int) := by omega
              have d4 : (16 * (x : Int) + (j : Int)).toNat = 16 * x + j := by omega
              have d5 : IntKind.i64.wrap (16 * (x : Int) + (j : Int)) = 16 * (x : Int) + (j : Int) := by rw [IntKind.wrap_i64]; omega
              have hst : (xjP Y c j).set j (xr (gb (xjP Y c j) j) (gb l (16 * x + j))) = xjP Y c (j + 1) := by rw [xjP_get Y c j d0, HGC.out j d0]; exact xjP_step Y c j
              have HST := Lib.hid hst
              have hxl16 := xjP_len Y c j
              have d6 : l.length ≤ 1000000 := hpl
              clear hst hcl
              go_wp2_with fail
              refine wp_region_qtail (fun w' => w' = _) 10 (by kernel_rfl) (by kernel_rfl) rfl ?_
              simp only [List.take_succ_cons, List.take_zero, List.drop_succ_cons, List.drop_zero]
              repeat (first | go_big_quiet_skip | (go_big_quiet_want; go_big_quiet_op; go_big_quiet_on))
              refine wpQuiet_nil ?_
              rintro _ rfl
              go_wp2_with fail
              go_roundg (gk - 1)
              case measure => omega
              case rel => exact ⟨j + 1, by omega, by go_num, h2.drew.setOther _ _ (by simp; try omega), (by obtain ⟨z, hz, hzs⟩ := h4; exact ⟨z, hz.drew.setOther _ _ (by simp; try omega), hzs⟩), by rw [← HST.out]; exact h5.drew.setByte j _, hB.drew.setCell (by simp; omega) _⟩
            · obtain rfl : j = c.length := by omega
              rw [xjP_full] at h5
              have hcl := HCL.out
              have hxl16 := xorL_len Y (padC c)
              have hprod : ∀ w', Calls Tryd.prog 76 #[.agg (AB (xorL Y (padC c))), .agg (AB bl)] w' (fun e w'' => e = .returned (.agg (AB (blQ (foldK (elQ bl) l y0 (List.range (x + 1)))))) ∧ Below w'.heap.size w' w'') := fun w' => by rw [HNX.out]; exact refProd_any _ bl w' hxl16 hb
              obtain ⟨Z, hZ⟩ : ∃ Z, Z = xorL Y (padC c) := ⟨_, rfl⟩
              obtain ⟨N, hN⟩ : ∃ N, N = blQ (foldK (elQ bl) l y0 (List.range (x + 1))) := ⟨_, rfl⟩
              have hNl : N.length = 16 := by rw [hN]; exact blQ_len _
              rw [← hZ] at h5 hprod hxl16
              rw [← hN] at hprod
              have hz16 := (AB_size Z).trans hxl16
              have hn16 := (AB_size N).trans hNl
              have HPR := Lib.hid hprod
              have HN := Lib.hid hN
              have l5 := h5.lt
              have l2 := h2.lt
              have l4 := h4.lt
              have g1 : IntKind.i64.wrap (16 * (x : Int) + 16) = 16 * (x : Int) + 16 := by rw [IntKind.wrap_i64]; omega
              have G1 := Lib.hid g1
              clear hprod hN hZ g1
              by_cases hc16' : c.length < 16
              · have d1 : (c.length : Int) < 16 := by omega
                have d2 : ¬ (16 * (x : Int) + (c.length : Int) < (l.length : Int)) := by omega
                have d5 : IntKind.i64.wrap (16 * (x : Int) + (c.length : Int)) = 16 * (x : Int) + (c.length : Int) := by rw [IntKind.wrap_i64]; omega
                have d7 : (l.length : Int) ≤ 16 * (x : Int) + (c.length : Int) := by omega
                clear hcl
                go_wp2_with fail
                refine (HPR.out _).mono ?_
                rintro e w5 ⟨rfl, hb5⟩
                have k5 := h5.below hb5 l5
                have k2 := h2.below hb5 l2
                have k4 := h4.below hb5 l4
                have kB := hB.trans (hb5.mono hB.size)
                clear d1 d2 d5 d7 h2 h4 h5 hB
                go_wp2_with fail
                go_roundg (n1 - 1)
                case measure => omega
                case rel => exact ⟨x + 1, by omega, by go_num, k2.setRowOther _ _ (by omega), k4.setRowOther _ _ (by omega), by rw [← HN.out]; exact k5.setRow _, bSetRow kB (by omega) _⟩
              · have d1 : c.length = 16 := by omega
                have d2 : ¬ ((c.length : Int) < 16) := by omega
                have d3 : (16 : Int) ≤ (c.length : Int) := by omega
                rw [d1]
                rw [show ((16 : Nat) : Int) = 16 from rfl]
                clear hcl d2 d3
                go_wp2_with fail
                refine (HPR.out _).mono ?_
                rintro e w5 ⟨rfl, hb5⟩
                have k5 := h5.below hb5 l5
                have k2 := h2.below hb5 l2
                have k4 := h4.below hb5 l4
                have kB := hB.trans (hb5.mono hB.size)
                clear h2 h4 h5 hB
                go_wp2_with fail
                go_roundg (n1 - 1)
                case measure => omega
                case rel => exact ⟨x + 1, by omega, by go_num, k2.setRowOther _ _ (by omega), k4.setRowOther _ _ (by omega), by rw [← HN.out]; exact k5.setRow _, bSetRow kB (by omega) _⟩
          --A>
        ·
          --<B
          obtain rfl : x = nCh l.length := by omega
          have c2 : ¬ (16 * (nCh l.length : Int) < (l.length : Int)) := by unfold nCh; omega
          have c5 : (l.length : Int) ≤ 16 * (nCh l.length : Int) := by omega
          go_wp2_with fail
          go_roundg (no - 1)
          case measure => omega
          case rel => exact ⟨k + 1, by omega, by go_num, h2, h4, by rw [HPN.out]; exact h5, hB⟩
          --B>
    ·
      --<C
      obtain rfl : k = parts.length := by omega
      rw [List.take_length] at h5
      have hfl : (foldF bl parts).length = 16 := blQ_len _
      obtain ⟨F, hF⟩ : ∃ F, F = foldF bl parts := ⟨_, rfl⟩
      have h5' : Row wr (w.heap.size + 1 + 1) 84 (AB F) := by rw [hF]; exact h5
      rw [← hF] at hfl
      have HF := Lib.hid hF
      have hf16 := (AB_size F).trans hfl
      obtain ⟨z, hz, hzs⟩ := h4
      clear h5 hF
      go_wp2_with fail
      exact ret_row (.inl rfl) rfl (w.heap.size + 1) _ _ 16 _ rfl (hz.setRow _) Tryd.underlying84 rfl (by kernel_rfl) hf16 ⟨by rw [HF.out], bSetRow hB (by omega) _⟩
      --C>
end Go.Proofs.YtcfbiafedfkbhaaDoor

namespace Go.Proofs.YtcfbiafedfkbhaaDoor
open Go.RowKit

def noP (nonce : List UInt8) (k : Nat) : List UInt8 := tab 16 fun j => if j < k then gb nonce j else 0
theorem noP_len (nonce : List UInt8) (k : Nat) : (noP nonce k).length = 16 := tab_length _ _
theorem noP_zero (nonce : List UInt8) : noP nonce 0 = List.replicate 16 0 := by
  have : noP nonce 0 = tab 16 fun _ => 0 := tab_congr fun i _ => by rw [if_neg (by omega)]
  rw [this]; rfl
theorem noP_step (nonce : List UInt8) (k : Nat) : (noP nonce k).set k (gb nonce k) = noP nonce (k + 1) := by
  unfold noP
  rw [tab_set]
  apply tab_congr
  intro i _
  by_cases h : i = k
  · subst h; rw [if_pos rfl, if_pos (by omega)]
  · rw [if_neg h]
    by_cases h2 : i < k
    · rw [if_pos h2, if_pos (by omega)]
    · rw [if_neg h2, if_neg (by omega)]
theorem noP_full (nonce : List UInt8) (h : nonce.length = 12) : noP nonce 12 = nonce ++ List.replicate 4 0 := by
  apply gb_ext (by rw [noP_len]; simp [h])
  intro i hi
  have hi16 : i < 16 := by simpa [h] using hi
  unfold noP
  rw [gb_tab _ hi16]
  by_cases h2 : i < 12
  · rw [if_pos h2, gb_append_left _ _ _ (by omega)]
  · rw [if_neg h2]
    have h3 : ∀ i, i < 4 → (0 : UInt8) = gb (List.replicate 4 0) i := by decide
    have e : gb (nonce ++ List.replicate 4 0) i = gb (List.replicate 4 0) (i - 12) := by
      simp only [gb, List.getD_eq_getElem?_getD, List.getElem?_append, h, if_neg h2]
    rw [e]
    exact h3 (i - 12) (by omega)
set_option maxRecDepth 100000 in
set_option maxHeartbeats 2000000 in
theorem counter_any (nonce : List UInt8) (n : Nat) (w : World) (hn : nonce.length = 12) : Calls Tryd.prog 55 #[.agg (AB nonce), .int .i64 (n : Int)] w fun e w' => e = .returned (.agg (AB (ctrB nonce n))) ∧ Below w.heap.size w w' := by
  have hn16 := (AB_size nonce).trans hn
  have v1 : IntKind.u8.wrap ((n : Int) / 16777216) = ((UInt8.ofNat (n / 16777216)).toNat : Int) := by rw [← u8wrap]; simp
  have v2 : IntKind.u8.wrap ((n : Int) / 65536) = ((UInt8.ofNat (n / 65536)).toNat : Int) := by rw [← u8wrap]; simp
  have v3 : IntKind.u8.wrap ((n : Int) / 256) = ((UInt8.ofNat (n / 256)).toNat : Int) := by rw [← u8wrap]; simp
  have v4 := u8wrap n
  obtain ⟨b1, hb1⟩ : ∃ b, b = UInt8.ofNat (n / 16777216) := ⟨_, rfl⟩
  obtain ⟨b2, hb2⟩ : ∃ b, b = UInt8.ofNat (n / 65536) := ⟨_, rfl⟩
  obtain ⟨b3, hb3⟩ : ∃ b, b = UInt8.ofNat (n / 256) := ⟨_, rfl⟩
  obtain ⟨b4, hb4⟩ : ∃ b, b = UInt8.ofNat n := ⟨_, rfl⟩
  have hfin : ((((noP nonce 12).set 12 b1).set 13 b2).set 14 b3).set 15 b4 = ctrB nonce n := by
    rw [noP_full nonce hn, hb1, hb2, hb3, hb4]
    unfold ctrB
    simp [hn, List.replicate]
  rw [← hb1] at v1
  rw [← hb2] at v2
  rw [← hb3] at v3
  rw [← hb4] at v4
  have HFIN := Lib.hid hfin
  clear hb1 hb2 hb3 hb4 hfin
  go_enter Tryd.func55, Tryd.ntmps55
  go_wp2_with fail
  have h2 := ((Row.new w 50 (AB nonce)).alloc (.cells (AB (List.replicate 16 0)) 84)).alloc (.cells (AB (List.replicate 16 0)) 84)
  have h4 := (RowN.newAt (w.alloc (.cells (AB nonce) 50)) (w.heap.size + 1) 84 (AB (List.replicate 16 0)) (by simp)).alloc (.cells (AB (List.replicate 16 0)) 84)
  rw [show (AB (List.replicate 16 0)).size = 16 from rfl] at h4
  have h5 : Row (((w.alloc (.cells (AB nonce) 50)).alloc (.cells (AB (List.replicate 16 0)) 84)).alloc (.cells (AB (List.replicate 16 0)) 84)) (w.heap.size + 1 + 1) 84 (AB (noP nonce 0)) := by
    rw [noP_zero]
    exact Row.newAt _ _ _ _ (by simp)
  have hB : Below w.heap.size w (((w.alloc (.cells (AB nonce) 50)).alloc (.cells (AB (List.replicate 16 0)) 84)).alloc (.cells (AB (List.replicate 16 0)) 84)) := (((Below.refl _ w).alloc (Nat.le_refl _) _).alloc (by simp) _).alloc (by simp <;> omega) _
  go_loopg [6] 12 (fun m iv wr => ∃ k : Nat, m + k = 12 ∧ iv = .int .i64 k ∧ Row wr w.heap.size 50 (AB nonce) ∧ RowN wr (w.heap.size + 1) 84 16 ∧ Row wr (w.heap.size + 1 + 1) 84 (AB (noP nonce k)) ∧ Below w.heap.size w wr)
  case atStart => exact ⟨0, by omega, rfl, h2, h4, h5, hB⟩
  case round =>
    clear h2 h4 h5 hB
    obtain ⟨k, hk, rfl, h2, h4, h5, hB⟩ := hrel
    have hl := noP_len nonce k
    have l5 := h5.lt
    by_cases hk12 : k < 12
    · have c1 : (k : Int) < 12 := by omega
      have c2 : (k : Int) < 16 := by omega
      have c3 : k < 16 := by omega
      go_wp2_with fail
      go_roundg (gk - 1)
      case measure => omega
      case rel => exact ⟨k + 1, by omega, by go_num, h2.setOther _ _ (by simp; try omega), (by obtain ⟨z, hz, hzs⟩ := h4; exact ⟨z, hz.setOther _ _ (by simp; try omega), hzs⟩), by rw [← noP_step]; exact h5.setByte k _, hB.setCell (by simp; omega) _⟩
    · obtain rfl : k = 12 := by omega
      go_upto_region 7 with (fail)
      obtain ⟨w3, hw3⟩ : ∃ w3, w3 = (((wr.setCell ⟨w.heap.size + 1 + 1, 12, none⟩ (B b1)).setCell ⟨w.heap.size + 1 + 1, 13, none⟩ (B b2)).setCell ⟨w.heap.size + 1 + 1, 14, none⟩ (B b3)).setCell ⟨w.heap.size + 1 + 1, 15, none⟩ (B b4) := ⟨_, rfl⟩
      rw [← hw3]
      have k5 : Row w3 (w.heap.size + 1 + 1) 84 (AB (ctrB nonce n)) := by
        rw [hw3, ← HFIN.out]
        exact (((h5.setByte 12 b1).setByte 13 b2).setByte 14 b3).setByte 15 b4
      have k4 : RowN w3 (w.heap.size + 1) 84 16 := by
        rw [hw3]
        obtain ⟨z, hz, hzs⟩ := h4
        exact ⟨z, (((hz.setOther _ _ (by simp)).setOther _ _ (by simp)).setOther _ _ (by simp)).setOther _ _ (by simp), hzs⟩
      have kB : Below w.heap.size w w3 := by rw [hw3]; exact (((hB.setCell (by simp; omega) _).setCell (by simp; omega) _).setCell (by simp; omega) _).setCell (by simp; omega) _
      have hc16 := (AB_size _).trans (ctrB_len nonce n hn)
      obtain ⟨z, hz, hzs⟩ := k4
      clear hw3 h2 h4 h5 hB HFIN v1 v2 v3 v4
      go_wp2_with fail
      exact ret_row (.inl rfl) rfl (w.heap.size + 1) _ _ 16 _ rfl (hz.setRow _) Tryd.underlying84 rfl (by kernel_rfl) hc16 ⟨rfl, bSetRow kB (by omega) _⟩
end Go.Proofs.YtcfbiafedfkbhaaDoor

/- The walk of the document's eight. -/
namespace Go.Proofs.YtcfbiafedfkbhaaDoor
open Go.RowKit

def e8P (n r : Nat) : List UInt8 := (List.range r).map fun j => UInt8.ofNat (n * 8 / 2 ^ (56 - 8 * j))
theorem e8P_len (n r : Nat) : (e8P n r).length = r := by simp [e8P]
theorem e8P_step (n r : Nat) : e8P n r ++ [UInt8.ofNat (n * 8 / 2 ^ (56 - 8 * r))] = e8P n (r + 1) := by simp [e8P, List.range_succ]
theorem cntB_e8 (b c : Nat) (hb : b ≤ 1000000) (hc : c ≤ 1000000) : cntB b c = e8P b 8 ++ e8P c 8 := by
  apply gb_ext (by rw [cntB, blQ_len, List.length_append, e8P_len, e8P_len])
  intro i hi
  rw [List.length_append, e8P_len, e8P_len] at hi
  have h1 : b * 8 % 18446744073709551616 = b * 8 := by omega
  have h2 : c * 8 % 18446744073709551616 = c * 8 := by omega
  unfold cntB blQ outQ
  rw [gb_tab _ (by omega)]
  by_cases h : i < 8
  · rw [if_pos h, gb_append_left _ _ _ (by rw [e8P_len]; exact h)]
    simp [byQ, h1, e8P, gb, h]
  · rw [if_neg h, if_pos (by omega)]
    have e : gb (e8P b 8 ++ e8P c 8) i = gb (e8P c 8) (i - 8) := by
      simp only [gb, List.getD_eq_getElem?_getD, List.getElem?_append, e8P_len, if_neg h]
    rw [e]
    simp [byQ, h2, e8P, gb, show i - 8 < 8 by omega]
set_option maxRecDepth 100000 in
set_option maxHeartbeats 2000000 in
theorem eight_any (n : Nat) (w : World) (hn : n ≤ 1000000) : Calls Tryd.prog 57 #[.int .i64 (n : Int)] w fun e w' => e = .returned (S (e8P n 8)) ∧ Below w.heap.size w w' := by
  have n1 : (0 : Int) ≤ (n : Int) := by omega
  have n2 : (n : Int) ≤ 1000000 := by omega
  have n3 : IntKind.u64.wrap (n : Int) = (n : Int) := by rw [IntKind.wrap_u64]; omega
  have n4 : IntKind.u64.wrap ((n : Int) * 8) = (n : Int) * 8 := by rw [IntKind.wrap_u64]; omega
  go_enter Tryd.func57, Tryd.ntmps57
  go_wp2_with fail
  go_loopg [3, 4] 8 (fun m v i wr => ∃ r : Nat, m + r = 8 ∧ i = .int .i64 (56 - 8 * (r : Int)) ∧ Buf 5 wr w.heap.size v (e8P n r) ∧ Below w.heap.size w wr)
  case atStart => exact ⟨0, by omega, rfl, by simpa [Buf, e8P] using World.ownsRow_nil w w.heap.size 5 1, Below.refl _ w⟩
  case round =>
    obtain ⟨r, hr, rfl, hbuf, hB⟩ := hrel
    have hsz := hB.size
    by_cases h : r < 8
    · obtain ⟨e, he⟩ : ∃ e, e = 56 - 8 * r := ⟨_, rfl⟩
      have hc : 56 - 8 * (r : Int) = (e : Int) := by omega
      have hnx : (e : Int) - 8 = 56 - 8 * ((r + 1 : Nat) : Int) := by omega
      rw [hc]
      have c1 : (0 : Int) ≤ (e : Int) := by omega
      have c2 : (e : Int) ≤ 56 := by omega
      have v8 : IntKind.u8.wrap ((n : Int) * 8 / 2 ^ e) = ((UInt8.ofNat (n * 8 / 2 ^ e)).toNat : Int) := by rw [← u8wrap]; simp
      obtain ⟨x, hx⟩ : ∃ x, x = UInt8.ofNat (n * 8 / 2 ^ e) := ⟨_, rfl⟩
      rw [← hx] at v8
      have hst : e8P n r ++ [x] = e8P n (r + 1) := by rw [hx, he]; exact e8P_step n r
      have hcl := e8P_len n r
      obtain ⟨L, hL⟩ : ∃ L, L = e8P n r := ⟨_, rfl⟩
      rw [← hL] at hbuf hcl hst
      have HST := Lib.hid hst
      have HNX := Lib.hid hnx
      clear hL hst hx he hc hnx
      go_wp2_with (at_builtin; refine wpl_append1 rfl (.tmp 9) (.tmp 16) 23 rfl Tryd.underlying23 info_u8 w.heap.size _ L rfl (hbuf.alloc _) wr.heap.size x rfl ?c1 ?c2 ?c3 ?c4)
      case c1 => simp
      case c2 => omega
      case c3 => simp; omega
      case c4 =>
        intro v' w' hbuf' hgrow
        have hB' : Below w.heap.size w w' := (hB.alloc hsz _).grown hgrow (by simp; omega) (fun j e => (hbuf.lt j e).1)
        have HB' := Lib.hid (HST.out ▸ hbuf')
        clear hbuf' hgrow hB hbuf
        go_wp2_with fail
        go_roundg (gk - 1)
        case measure => omega
        case rel => exact ⟨r + 1, by omega, by rw [← HNX.out], HB'.out, hB'⟩
    · obtain rfl : r = 8 := by omega
      have hconv := run_conv_slb (P := Tryd.prog) wr 23 5 9 Tryd.underlying23 Tryd.underlying5 Tryd.underlying9 _ _ hbuf.slb
      clear hbuf
      go_wp2_with fail
      go_ret
      exact ⟨rfl, hB⟩
end Go.Proofs.YtcfbiafedfkbhaaDoor
