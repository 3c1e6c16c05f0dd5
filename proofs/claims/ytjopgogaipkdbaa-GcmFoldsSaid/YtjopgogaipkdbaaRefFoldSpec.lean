/- What the document's Fold reckons is what gcm's does. -/
import Derived.Test.YtjopgogaipkdbaaFold
import Derived.Test.YtjopgogaipkdbaaGLink
import Derived.Test.YtjopgogaipkdbaaKit
namespace Go.Proofs.Ytjopgogaipkdbaa
open Go.RowKit

theorem q2_inj {a b : UInt64 × UInt64} (h : q2 a = q2 b) : a = b := by
  have h1 := a.2.toNat_lt
  have h2 := b.2.toNat_lt
  unfold q2 at h
  have e1 : a.1.toNat = b.1.toNat := by omega
  have e2 : a.2.toNat = b.2.toNat := by omega
  exact Prod.ext (UInt64.toNat_inj.1 e1) (UInt64.toNat_inj.1 e2)
theorem el_bl (q : UInt64 × UInt64) : elQ (blQ q) = q := by
  apply q2_inj
  rw [q2_el _ (blQ_len q), blQ_fB, be_fB _ (q2_lt q)]
theorem bl_el (l : List UInt8) (h : l.length = 16) : blQ (elQ l) = l := by rw [blQ_fB, q2_el l h, fB_be l h]
theorem el_xorL (a b : List UInt8) (ha : a.length = 16) (hb : b.length = 16) : elQ (xorL a b) = xorP (elQ a) (elQ b) := by
  apply q2_inj
  rw [q2_el _ (xorL_len _ _), be_xorL a b ha hb, xorP, q2_xor, q2_el a ha, q2_el b hb]
/-- One part more, in bytes. -/
theorem bl_foldC (by' : List UInt8) (q : UInt64 × UInt64) (c : List UInt8) (hc : c.length ≤ 16) : blQ (foldC (elQ by') q c) = gprod (xorL (blQ q) (padC c)) by' := by
  unfold gprod foldC
  rw [el_xorL _ _ (blQ_len q) (padC_len c hc), el_bl]
/-- A row of sixteen bytes, the first j changed. -/
def xjP (y c : List UInt8) (j : Nat) : List UInt8 := tab 16 fun i => if i < j then xr (gb y i) (gb c i) else gb y i
theorem xjP_len (y c : List UInt8) (j : Nat) : (xjP y c j).length = 16 := tab_length _ _
theorem xjP_zero (y c : List UInt8) (h : y.length = 16) : xjP y c 0 = y := by
  have : xjP y c 0 = tab 16 (gb y) := tab_congr fun i _ => by rw [if_neg (by omega)]
  rw [this, tab_gb h]
theorem xjP_get (y c : List UInt8) (j : Nat) (h : j < 16) : gb (xjP y c j) j = gb y j := by unfold xjP; rw [gb_tab _ h, if_neg (by omega)]
theorem xjP_step (y c : List UInt8) (j : Nat) : (xjP y c j).set j (xr (gb y j) (gb c j)) = xjP y c (j + 1) := by
  unfold xjP
  rw [tab_set]
  apply tab_congr
  intro i _
  by_cases h : i = j
  · subst h; rw [if_pos rfl, if_pos (by omega)]
  · rw [if_neg h]
    by_cases h2 : i < j
    · rw [if_pos h2, if_pos (by omega)]
    · rw [if_neg h2, if_neg (by omega)]
theorem gb_padC (c : List UInt8) (i : Nat) : gb (padC c) i = gb c i := by
  unfold padC
  by_cases h : i < c.length
  · rw [gb_append_left _ _ _ h]
  · have e : gb (c ++ List.replicate (16 - c.length) 0) i = gb (List.replicate (16 - c.length) 0) (i - c.length) := by
      simp only [gb, List.getD_eq_getElem?_getD, List.getElem?_append, if_neg h]
    rw [e]
    simp [gb, List.getElem?_replicate, show c.length ≤ i by omega]
    split <;> rfl
theorem xjP_full (y c : List UInt8) : xjP y c c.length = xorL y (padC c) := tab_congr fun i _ => by
  rw [gb_padC c i]
  by_cases h : i < c.length
  · rw [if_pos h]
  · rw [if_neg h]
    have : gb c i = 0 := by simp [gb, show c.length ≤ i by omega]
    rw [this, xr]
    simp
theorem gb_chB (l : List UInt8) (x j : Nat) (hj : j < 16) : gb (chB l x) j = gb l (16 * x + j) := by simp [gb, chB, hj]
end Go.Proofs.Ytjopgogaipkdbaa

/- The walk of the document's Fold. -/
namespace Go.Proofs.Ytjopgogaipkdbaa
open Go.RowKit

/-- A slice of strings. -/
def StrsAt (w : World) (vp : Value) (parts : List (List UInt8)) : Prop :=
  ∃ a cap, vp = .slice a parts.length cap ∧ parts.length ≤ cap ∧ cap ≤ maxLen ∧ ∀ i, i < parts.length → ∃ g o, a = some ⟨g, o, none⟩ ∧ w.cell? ⟨g, o + i, none⟩ = some (S (parts.getD i [])) ∧ (parts.getD i []).length ≤ 1000000
theorem StrsAt.below {w w' : World} {vp : Value} {parts : List (List UInt8)} (h : StrsAt w vp parts) (hb : Below w.heap.size w w') : StrsAt w' vp parts := by
  obtain ⟨a, cap, e, h1, h2, h3⟩ := h
  refine ⟨a, cap, e, h1, h2, fun i hi => ?_⟩
  obtain ⟨g, o, e1, e2, e3⟩ := h3 i hi
  exact ⟨g, o, e1, (hb.cell (World.block_lt_of_cell? w _ e2)).trans e2, e3⟩
theorem blQ_nil : AB (blQ (0, 0)) = #[.int .u8 0, .int .u8 0, .int .u8 0, .int .u8 0, .int .u8 0, .int .u8 0, .int .u8 0, .int .u8 0, .int .u8 0, .int .u8 0, .int .u8 0, .int .u8 0, .int .u8 0, .int .u8 0, .int .u8 0, .int .u8 0] := by kernel_rfl
set_option maxRecDepth 100000 in
set_option maxHeartbeats 4000000 in
theorem refFold_any (bl : List UInt8) (parts : List (List UInt8)) (vp : Value) (w : World) (hb : bl.length = 16) (hp : StrsAt w vp parts) :
    Calls Try.prog 23 #[.agg (AB bl), vp] w fun e w' => e = .returned (.agg (AB (foldF bl parts))) ∧ Below w.heap.size w w' := by
  obtain ⟨pa, pcap, rfl, hpc, hpm, hpe⟩ := hp
  have HPE := Lib.hid hpe
  have hb16 := (AB_size bl).trans hb
  clear hpe
  unfold maxLen at hpm
  go_enter Try.func23, Try.ntmps23
  go_wp2_with fail
  obtain ⟨w0, hw0⟩ : ∃ w0, w0 = ((w.alloc (.cells (AB bl) 23)).alloc (.cells #[.int .u8 0, .int .u8 0, .int .u8 0, .int .u8 0, .int .u8 0, .int .u8 0, .int .u8 0, .int .u8 0, .int .u8 0, .int .u8 0, .int .u8 0, .int .u8 0, .int .u8 0, .int .u8 0, .int .u8 0, .int .u8 0] 23)).alloc (.cells #[.int .u8 0, .int .u8 0, .int .u8 0, .int .u8 0, .int .u8 0, .int .u8 0, .int .u8 0, .int .u8 0, .int .u8 0, .int .u8 0, .int .u8 0, .int .u8 0, .int .u8 0, .int .u8 0, .int .u8 0, .int .u8 0] 23) := ⟨_, rfl⟩
  rw [← hw0]
  have h2 : Row w0 w.heap.size 23 (AB bl) := by rw [hw0]; exact ((Row.new w _ _).alloc _).alloc _
  have h4 : RowN w0 (w.heap.size + 1) 23 16 := by rw [hw0]; exact (RowN.newAt _ _ _ #[.int .u8 0, .int .u8 0, .int .u8 0, .int .u8 0, .int .u8 0, .int .u8 0, .int .u8 0, .int .u8 0, .int .u8 0, .int .u8 0, .int .u8 0, .int .u8 0, .int .u8 0, .int .u8 0, .int .u8 0, .int .u8 0] (by simp)).alloc _
  have h5 : Row w0 (w.heap.size + 1 + 1) 23 (AB (blQ ((parts.take 0).foldl (foldP (elQ bl)) (0, 0)))) := by
    rw [show AB (blQ ((parts.take 0).foldl (foldP (elQ bl)) (0, 0))) = #[.int .u8 0, .int .u8 0, .int .u8 0, .int .u8 0, .int .u8 0, .int .u8 0, .int .u8 0, .int .u8 0, .int .u8 0, .int .u8 0, .int .u8 0, .int .u8 0, .int .u8 0, .int .u8 0, .int .u8 0, .int .u8 0] from blQ_nil, hw0]
    exact Row.newAt _ _ _ _ (by simp)
  have hB : Below w.heap.size w w0 := by rw [hw0]; exact (((Below.refl _ w).alloc (Nat.le_refl _) _).alloc (by simp) _).alloc (by simp <;> omega) _
  clear hw0
  go_loopg [6] (parts.length) (fun m iv wr => ∃ k : Nat, m + k = parts.length ∧ iv = .int .i64 k ∧ Row wr w.heap.size 23 (AB bl) ∧ RowN wr (w.heap.size + 1) 23 16 ∧ Row wr (w.heap.size + 1 + 1) 23 (AB (blQ ((parts.take k).foldl (foldP (elQ bl)) (0, 0)))) ∧ Below w.heap.size w wr)
  case atStart => exact ⟨0, by omega, rfl, h2, h4, h5, hB⟩
  case round =>
    clear h2 h4 h5 hB
    obtain ⟨k, hk, rfl, h2, h4, h5, hB⟩ := hrel
    obtain ⟨no, rfl⟩ : ∃ no : Nat, no = gk := ⟨_, rfl⟩
    by_cases hkp : k < parts.length
    · have c1 : (k : Int) < (parts.length : Int) := by omega
      obtain ⟨pg, po, rfl, hcell, hpl⟩ := HPE.out k hkp
      obtain ⟨y0, hy0⟩ : ∃ y, y = (parts.take k).foldl (foldP (elQ bl)) (0, 0) := ⟨_, rfl⟩
      have hpn : (parts.take (k + 1)).foldl (foldP (elQ bl)) (0, 0) = foldP (elQ bl) y0 (parts.getD k []) := by
        rw [List.take_succ_eq_append_getElem hkp, List.foldl_append, ← hy0]
        simp [hkp]
      have hcell' : wr.cell? ⟨pg, po + k, none⟩ = some (S (parts.getD k [])) := (hB.cell (World.block_lt_of_cell? w _ hcell)).trans hcell
      obtain ⟨l, hl⟩ : ∃ l, l = parts.getD k [] := ⟨_, rfl⟩
      rw [← hl] at hpn hcell' hpl
      rw [← hy0] at h5
      have HPN := Lib.hid hpn
      clear hpn hl hy0 hcell
      go_wp2_with fail
      go_loopg [8] (nCh l.length) (fun m iv wr => ∃ x : Nat, m + x = nCh l.length ∧ iv = .int .i64 (16 * (x : Int)) ∧ Row wr w.heap.size 23 (AB bl) ∧ RowN wr (w.heap.size + 1) 23 16 ∧ Row wr (w.heap.size + 1 + 1) 23 (AB (blQ (foldK (elQ bl) l y0 (List.range x)))) ∧ Below w.heap.size w wr)
      case atStart => exact ⟨0, by omega, rfl, h2, h4, h5, hB⟩
      case round =>
        clear h2 h4 h5 hB hcell'
        obtain ⟨x, hx, rfl, h2, h4, h5, hB⟩ := hrel
        obtain ⟨n1, rfl⟩ : ∃ n1 : Nat, n1 = gk := ⟨_, rfl⟩
        by_cases hxn : x < nCh l.length
        ·
          --<A
          have hxl : 16 * x < l.length := by unfold nCh at hxn; omega
          have c2 : 16 * (x : Int) < (l.length : Int) := by omega
          have c3 : (0 : Int) ≤ (x : Int) := by omega
          have c4 : (l.length : Int) ≤ 1000000 := by omega
          obtain ⟨Y, hY⟩ : ∃ Y, Y = blQ (foldK (elQ bl) l y0 (List.range x)) := ⟨_, rfl⟩
          obtain ⟨c, hc⟩ : ∃ c, c = chB l x := ⟨_, rfl⟩
          have hcl : c.length = min 16 (l.length - 16 * x) := by rw [hc, chB_len]
          have hc16 : c.length ≤ 16 := by omega
          have hyl : Y.length = 16 := by rw [hY]; exact blQ_len _
          have hnext : blQ (foldK (elQ bl) l y0 (List.range (x + 1))) = gprod (xorL Y (padC c)) bl := by
            rw [List.range_succ, foldK_snoc, bl_foldC _ _ _ (by rw [← hc]; exact hc16), ← hc, ← hY]
          have hgc : ∀ j, j < 16 → gb l (16 * x + j) = gb c j := fun j hj => by rw [hc, gb_chB l x j hj]
          rw [← hY, ← xjP_zero Y c hyl] at h5
          have HNX := Lib.hid hnext
          have HGC := Lib.hid hgc
          have HCL := Lib.hid hcl
          have HYL := Lib.hid hyl
          clear hY hc hcl hnext hgc hyl
          go_wp2_with fail
          go_loopg [9] (c.length) (fun m iv wr => ∃ j : Nat, m + j = c.length ∧ iv = .int .i64 (j : Int) ∧ Row wr w.heap.size 23 (AB bl) ∧ RowN wr (w.heap.size + 1) 23 16 ∧ Row wr (w.heap.size + 1 + 1) 23 (AB (xjP Y c j)) ∧ Below w.heap.size w wr)
          case atStart => exact ⟨0, by omega, rfl, h2, h4, h5, hB⟩
          case round =>
            clear h2 h4 h5 hB
            obtain ⟨j, hj, rfl, h2, h4, h5, hB⟩ := hrel
            by_cases hjc : j < c.length
            · have d1 : (j : Int) < 16 := by omega
              have d0 : j < 16 := by omega
              have hcl := HCL.out
              have d2 : 16 * (x : Int) + (j : Int) < (l.length : Int) := by omega
              have d3 : (0 : Int) ≤ 16 * (x : Int) + (j : Int) := by omega
              have d4 : (16 * (x : Int) + (j : Int)).toNat = 16 * x + j := by omega
              have d5 : IntKind.i64.wrap (16 * (x : Int) + (j : Int)) = 16 * (x : Int) + (j : Int) := by rw [IntKind.wrap_i64]; omega
              have hst : (xjP Y c j).set j (xr (gb (xjP Y c j) j) (gb l (16 * x + j))) = xjP Y c (j + 1) := by rw [xjP_get Y c j d0, HGC.out j d0]; exact xjP_step Y c j
              have HST := Lib.hid hst
              have hxl16 := xjP_len Y c j
              have d6 : l.length ≤ 1000000 := hpl
              clear hst hcl
              go_wp2_with fail
              refine wp_region_qtail (fun w' => w' = _) 10 (by kernel_rfl) (by kernel_rfl) rfl ?_
              simp only [List.take_succ_cons, List.take_zero, List.drop_succ_cons, List.drop_zero]
              repeat (first | go_big_quiet_skip | (go_big_quiet_want; go_big_quiet_op; go_big_quiet_on))
              refine wpQuiet_nil ?_
              rintro _ rfl
              go_wp2_with fail
              go_roundg (gk - 1)
              case measure => omega
              case rel => exact ⟨j + 1, by omega, by go_num, h2.drew.setOther _ _ (by simp; try omega), (by obtain ⟨z, hz, hzs⟩ := h4; exact ⟨z, hz.drew.setOther _ _ (by simp; try omega), hzs⟩), by rw [← HST.out]; exact h5.drew.setByte j _, hB.drew.setCell (by simp; omega) _⟩
            · obtain rfl : j = c.length := by omega
              rw [xjP_full] at h5
              have hcl := HCL.out
              have hxl16 := xorL_len Y (padC c)
              have hprod : ∀ w', Calls Try.prog 30 #[.agg (AB (xorL Y (padC c))), .agg (AB bl)] w' (fun e w'' => e = .returned (.agg (AB (blQ (foldK (elQ bl) l y0 (List.range (x + 1)))))) ∧ Below w'.heap.size w' w'') := fun w' => by rw [HNX.out]; exact refProd_any _ bl w' hxl16 hb
              obtain ⟨Z, hZ⟩ : ∃ Z, Z = xorL Y (padC c) := ⟨_, rfl⟩
              obtain ⟨N, hN⟩ : ∃ N, N = blQ (foldK (elQ bl) l y0 (List.range (x + 1))) := ⟨_, rfl⟩
              have hNl : N.length = 16 := by rw [hN]; exact blQ_len _
              rw [← hZ] at h5 hprod hxl16
              rw [← hN] at hprod
              have hz16 := (AB_size Z).trans hxl16
              have hn16 := (AB_size N).trans hNl
              have HPR := Lib.hid hprod
              have HN := Lib.hid hN
              have l5 := h5.lt
              have l2 := h2.lt
              have l4 := h4.lt
              have g1 : IntKind.i64.wrap (16 * (x : Int) + 16) = 16 * (x : Int) + 16 := by rw [IntKind.wrap_i64]; omega
              have G1 := Lib.hid g1
              clear hprod hN hZ g1
              by_cases hc16' : c.length < 16
              · have d1 : (c.length : Int) < 16 := by omega
                have d2 : ¬ (16 * (x : Int) + (c.length : Int) < (l.length : Int)) := by omega
                have d5 : IntKind.i64.wrap (16 * (x : Int) + (c.length : Int)) = 16 * (x : Int) + (c.length : Int) := by rw [IntKind.wrap_i64]; omega
                have d7 : (l.length : Int) ≤ 16 * (x : Int) + (c.length : Int) := by omega
                clear hcl
                go_wp2_with fail
                refine (HPR.out _).mono ?_
                rintro e w5 ⟨rfl, hb5⟩
                have k5 := h5.below hb5 l5
                have k2 := h2.below hb5 l2
                have k4 := h4.below hb5 l4
                have kB := hB.trans (hb5.mono hB.size)
                clear d1 d2 d5 d7 h2 h4 h5 hB
                go_wp2_with fail
                go_roundg (n1 - 1)
                case measure => omega
                case rel => exact ⟨x + 1, by omega, by go_num, k2.setRowOther _ _ (by omega), k4.setRowOther _ _ (by omega), by rw [← HN.out]; exact k5.setRow _, bSetRow kB (by omega) _⟩
              · have d1 : c.length = 16 := by omega
                have d2 : ¬ ((c.length : Int) < 16) := by omega
                have d3 : (16 : Int) ≤ (c.length : Int) := by omega
                rw [d1]
                rw [show ((16 : Nat) : Int) = 16 from rfl]
                clear hcl d2 d3
                go_wp2_with fail
                refine (HPR.out _).mono ?_
                rintro e w5 ⟨rfl, hb5⟩
                have k5 := h5.below hb5 l5
                have k2 := h2.below hb5 l2
                have k4 := h4.below hb5 l4
                have kB := hB.trans (hb5.mono hB.size)
                clear h2 h4 h5 hB
                go_wp2_with fail
                go_roundg (n1 - 1)
                case measure => omega
                case rel => exact ⟨x + 1, by omega, by go_num, k2.setRowOther _ _ (by omega), k4.setRowOther _ _ (by omega), by rw [← HN.out]; exact k5.setRow _, bSetRow kB (by omega) _⟩
          --A>
        ·
          --<B
          obtain rfl : x = nCh l.length := by omega
          have c2 : ¬ (16 * (nCh l.length : Int) < (l.length : Int)) := by unfold nCh; omega
          have c5 : (l.length : Int) ≤ 16 * (nCh l.length : Int) := by omega
          go_wp2_with fail
          go_roundg (no - 1)
          case measure => omega
          case rel => exact ⟨k + 1, by omega, by go_num, h2, h4, by rw [HPN.out]; exact h5, hB⟩
          --B>
    ·
      --<C
      obtain rfl : k = parts.length := by omega
      rw [List.take_length] at h5
      have hfl : (foldF bl parts).length = 16 := blQ_len _
      obtain ⟨F, hF⟩ : ∃ F, F = foldF bl parts := ⟨_, rfl⟩
      have h5' : Row wr (w.heap.size + 1 + 1) 23 (AB F) := by rw [hF]; exact h5
      rw [← hF] at hfl
      have HF := Lib.hid hF
      have hf16 := (AB_size F).trans hfl
      obtain ⟨z, hz, hzs⟩ := h4
      clear h5 hF
      go_wp2_with fail
      exact ret_row (.inl rfl) rfl (w.heap.size + 1) _ _ 16 _ rfl (hz.setRow _) Try.underlying23 rfl (by kernel_rfl) hf16 ⟨by rw [HF.out], bSetRow hB (by omega) _⟩
      --C>
end Go.Proofs.Ytjopgogaipkdbaa
