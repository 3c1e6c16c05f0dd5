/- The law GcmProducts: the walk. -/
import Derived.Test.YtjopgogaipkdbaaAlloc
import Derived.Test.YtjopgogaipkdbaaBoxes
import Derived.Test.YtjopgogaipkdbaaLawKit
import Derived.Test.YtjopgogaipkdbaaRefProd
import Derived.Deep.RegionHeld3
namespace Go.Proofs.Ytjopgogaipkdbaa
open Go.RowKit

set_option maxRecDepth 100000 in
theorem alloc_b16 (w : World) : (Instr.alloc 23 true (.tuple #[])).run Try.prog w = .ok (.pointer (some ⟨w.heap.size, 0, none⟩)) (w.alloc (.cells (AB (List.replicate 16 0)) 23)) := by kernel_rfl
theorem alF_b16 (ops : Array Oper) (dst : Option Tmp) (type : TypeId) (pos : String) (after : Array Edge) : AlF Try.prog ops { dst, op := .alloc 23, type, pos, after, guard := none } (.cells (AB (List.replicate 16 0)) 23) := by
  refine ⟨fun a => by simp [Region.wanted], fun ρ w => ?_⟩
  unfold execOp
  simp only [Sem.run_bind, alloc_b16, Result.andThen_ok]
  rfl
def xP (x y : List UInt8) (k : Nat) : List UInt8 := tab 16 fun j => if j < k then xr (gb x j) (gb y j) else 0
theorem xP_len (x y : List UInt8) (k : Nat) : (xP x y k).length = 16 := tab_length _ _
theorem xP_zero (x y : List UInt8) : xP x y 0 = List.replicate 16 0 := by
  have : xP x y 0 = tab 16 fun _ => 0 := tab_congr fun i _ => by rw [if_neg (by omega)]
  rw [this]; rfl
theorem xP_full (x y : List UInt8) : xP x y 16 = xorL x y := tab_congr fun i hi => by rw [if_pos hi]
theorem xP_step (x y : List UInt8) (k : Nat) : (xP x y k).set k (xr (gb x k) (gb y k)) = xP x y (k + 1) := by
  unfold xP
  rw [tab_set]
  apply tab_congr
  intro i _
  by_cases h : i = k
  · subst h; rw [if_pos rfl, if_pos (by omega)]
  · rw [if_neg h]
    by_cases h2 : i < k
    · rw [if_pos h2, if_pos (by omega)]
    · rw [if_neg h2, if_neg (by omega)]

set_option maxRecDepth 100000 in
set_option maxHeartbeats 4000000 in
theorem gcmProducts_any (a b c : List UInt8) (ha : a.length = 16) (hb : b.length = 16) (hc : c.length = 16) (w : World) : Calls Try.prog 10 #[.agg (AB a), .agg (AB b), .agg (AB c)] w fun e w' => e = .returned (.bool true) ∧ Below w.heap.size w w' := by
  have ha16 := (AB_size a).trans ha
  have hb16 := (AB_size b).trans hb
  have hc16 := (AB_size c).trans hc
  have hsa := sub_all (AB a) 16 ha16
  have hsb := sub_all (AB b) 16 hb16
  have hsc := sub_all (AB c) 16 hc16
  have za : 0 + 16 ≤ (AB a).size := by rw [ha16]; decide
  have zb : 0 + 16 ≤ (AB b).size := by rw [hb16]; decide
  have zc : 0 + 16 ≤ (AB c).size := by rw [hc16]; decide
  go_enter Try.func10, Try.ntmps10
  go_upto_region 1 with (fail)
  obtain ⟨w0, hw0⟩ : ∃ w0, w0 = ((w.alloc (.cells (AB a) 23)).alloc (.cells (AB b) 23)).alloc (.cells (AB c) 23) := ⟨_, rfl⟩
  rw [← hw0]
  have h3 : Row w0.drew w.heap.size 23 (AB a) := by rw [hw0]; exact ((Row.new w _ _).alloc _).alloc _
  have h4 : Row w0.drew (w.heap.size + 1) 23 (AB b) := by rw [hw0]; exact (Row.newAt _ _ _ _ (by simp)).alloc _
  have h5 : Row w0.drew (w.heap.size + 1 + 1) 23 (AB c) := by rw [hw0]; exact Row.newAt _ _ _ _ (by simp)
  have hB : Below w.heap.size w w0.drew := by rw [hw0]; exact ((((Below.refl _ w).alloc (Nat.le_refl _) _).alloc (by simp) _).alloc (by simp <;> omega) _).drew
  have hs0 : w0.drew.heap.size = w.heap.size + 3 := by rw [hw0]; simp
  clear hw0
  obtain ⟨p, hp⟩ : ∃ p, p = gprod a b := ⟨_, rfl⟩
  obtain ⟨q, hq⟩ : ∃ q, q = gprod a c := ⟨_, rfl⟩
  have hpl : p.length = 16 := by rw [hp]; exact gprod_len _ _
  have hql : q.length = 16 := by rw [hq]; exact gprod_len _ _
  have c1 : ∀ w', Calls Try.prog 29 #[.agg (AB a), .agg (AB b)] w' (fun e w'' => e = .returned (.agg (AB p)) ∧ Below w'.heap.size w' w'') := fun w' => by rw [hp]; exact gproduct_any a b w' ha hb
  have c2 : ∀ w', Calls Try.prog 29 #[.agg (AB a), .agg (AB c)] w' (fun e w'' => e = .returned (.agg (AB q)) ∧ Below w'.heap.size w' w'') := fun w' => by rw [hq]; exact gproduct_any a c w' ha hc
  have C1 := Lib.hid c1
  have C2 := Lib.hid c2
  have HP := Lib.hid hp
  have HQ := Lib.hid hq
  clear c1 c2 hp hq
  refine wp_region_allocs 8 [0, 1, 2, 3, 4, 5] [6, 7] (fun _ => .cells (AB (List.replicate 16 0)) 23) (by kernel_rfl) (by kernel_rfl) (by kernel_rfl) (by kernel_rfl) ?hal ?h
  case hal =>
    intro k hk o ho
    simp only [List.mem_cons, List.not_mem_nil, or_false] at hk
    rcases hk with rfl | rfl
    · cases ho; exact alF_b16 _ _ _ _ _
    · cases ho; exact alF_b16 _ _ _ _ _
  case h =>
    apply Exists.intro
    refine ⟨fun R => ?_, ?_⟩
    · simp only [List.map_cons, List.map_nil, List.getD_cons_zero, List.getD_cons_succ]
      repeat (first | go_big_quiet_skip | (go_big_quiet_want; go_big_quiet_op; first | go_big_quiet_on | (refine ⟨_, fun _ _ => rfl, ?_⟩; go_big_quiet_on)) | (go_big_quiet_want; apply qa_load1 _ _ rfl _ _ rfl; rotate_left 1; (focus (intro _; simp [go_sem]; done)); rotate_right 1; assumption; assumption; (simp only [Act.put, List.setIfInBounds_toArray, List.set_cons_zero, List.set_cons_succ]; go_big_quiet_on)) | (go_big_quiet_want; apply qa_loadA _ _ rfl _ _ rfl (sz := 16); rotate_left 1; (focus (intro _; simp [go_sem]; done)); (focus (intro _; simp [go_sem]; done)); rotate_right 1; assumption; assumption; assumption; (simp only [Act.put, List.setIfInBounds_toArray, List.set_cons_zero, List.set_cons_succ]; go_big_quiet_on)) | (go_big_quiet_want; apply qa_loadA _ _ rfl _ _ rfl (sz := 2); rotate_left 1; (focus (intro _; simp [go_sem]; done)); (focus (intro _; simp [go_sem]; done)); rotate_right 1; assumption; assumption; assumption; (simp only [Act.put, List.setIfInBounds_toArray, List.set_cons_zero, List.set_cons_succ]; go_big_quiet_on)) | (go_big_quiet_want; apply qa_loadA _ _ rfl _ _ rfl (sz := 12); rotate_left 1; (focus (intro _; simp [go_sem]; done)); (focus (intro _; simp [go_sem]; done)); rotate_right 1; assumption; assumption; assumption; (simp only [Act.put, List.setIfInBounds_toArray, List.set_cons_zero, List.set_cons_succ]; go_big_quiet_on)))
      (go_big_quiet_want; refine qa_call _ _ ?_ _ (fun w' _ => C1.out w') ?_; (focus (intro w; simp [go_sem]; done)); (simp only [Act.put, List.setIfInBounds_toArray, List.set_cons_zero, List.set_cons_succ]; go_big_quiet_on))
      repeat (first | go_big_quiet_skip | (go_big_quiet_want; go_big_quiet_op; first | go_big_quiet_on | (refine ⟨_, fun _ _ => rfl, ?_⟩; go_big_quiet_on)) | (go_big_quiet_want; apply qa_load1 _ _ rfl _ _ rfl; rotate_left 1; (focus (intro _; simp [go_sem]; done)); rotate_right 1; assumption; assumption; (simp only [Act.put, List.setIfInBounds_toArray, List.set_cons_zero, List.set_cons_succ]; go_big_quiet_on)) | (go_big_quiet_want; apply qa_loadA _ _ rfl _ _ rfl (sz := 16); rotate_left 1; (focus (intro _; simp [go_sem]; done)); (focus (intro _; simp [go_sem]; done)); rotate_right 1; assumption; assumption; assumption; (simp only [Act.put, List.setIfInBounds_toArray, List.set_cons_zero, List.set_cons_succ]; go_big_quiet_on)) | (go_big_quiet_want; apply qa_loadA _ _ rfl _ _ rfl (sz := 2); rotate_left 1; (focus (intro _; simp [go_sem]; done)); (focus (intro _; simp [go_sem]; done)); rotate_right 1; assumption; assumption; assumption; (simp only [Act.put, List.setIfInBounds_toArray, List.set_cons_zero, List.set_cons_succ]; go_big_quiet_on)) | (go_big_quiet_want; apply qa_loadA _ _ rfl _ _ rfl (sz := 12); rotate_left 1; (focus (intro _; simp [go_sem]; done)); (focus (intro _; simp [go_sem]; done)); rotate_right 1; assumption; assumption; assumption; (simp only [Act.put, List.setIfInBounds_toArray, List.set_cons_zero, List.set_cons_succ]; go_big_quiet_on)))
      (go_big_quiet_want; refine qa_call _ _ ?_ _ (fun w' _ => C2.out w') ?_; (focus (intro w; simp [go_sem]; done)); (simp only [Act.put, List.setIfInBounds_toArray, List.set_cons_zero, List.set_cons_succ]; go_big_quiet_on))
      exact wpQuiet_nil rfl
    · refine wpAl_cons rfl ?_
      intro g7 hg7 _
      refine wpAl_cons rfl ?_
      intro g8 hg8 hn8
      intro w1 hcc
      have hne : g8 ≠ g7 := by
        rintro rfl
        rw [upd_same] at hn8
        cases hn8
      have k7 : Row w1 g7 23 (AB (List.replicate 16 0)) := .of_heap (hcc.2 g7 _ (by rw [upd_ne _ _ (Ne.symm hne), upd_same]))
      have k8 : Row w1 g8 23 (AB (List.replicate 16 0)) := .of_heap (hcc.2 g8 _ (upd_same _ _ _))
      have k3 := h3.below hcc.1 h3.lt
      have k4 := h4.below hcc.1 h4.lt
      have k5 := h5.below hcc.1 h5.lt
      have hB1 := hB.trans (hcc.1.mono hB.size)
      have n7 : w.heap.size + 3 ≤ g7 := by omega
      have n8 : w.heap.size + 3 ≤ g8 := by omega
      have hp16 := (AB_size p).trans hpl
      have hq16 := (AB_size q).trans hql
      have hz16 : (AB (List.replicate 16 0)).size = 16 := by rw [AB_size, List.length_replicate]
      have hne' : g7 ≠ g8 := Ne.symm hne
      clear hcc hn8 h3 h4 h5 hB hg7 hg8 hs0
      simp only [Act.put, List.setIfInBounds_toArray, ptr, List.drop_succ_cons, List.drop_zero]
      go_upto_region 2 with (fail)
      obtain ⟨w2, hw2⟩ : ∃ w2, w2 = (w1.setRow g7 (AB p)).setRow g8 (AB q) := ⟨_, rfl⟩
      rw [← hw2]
      have j7 : Row w2 g7 23 (AB p) := by rw [hw2]; exact (k7.setRow _).setRowOther _ _ hne'
      have j8 : Row w2 g8 23 (AB q) := by rw [hw2]; exact (k8.setRowOther _ _ hne).setRow _
      have j3 : Row w2 w.heap.size 23 (AB a) := by rw [hw2]; exact (k3.setRowOther _ _ (by omega)).setRowOther _ _ (by omega)
      have j4 : Row w2 (w.heap.size + 1) 23 (AB b) := by rw [hw2]; exact (k4.setRowOther _ _ (by omega)).setRowOther _ _ (by omega)
      have j5 : Row w2 (w.heap.size + 1 + 1) 23 (AB c) := by rw [hw2]; exact (k5.setRowOther _ _ (by omega)).setRowOther _ _ (by omega)
      have hB2 : Below w.heap.size w w2 := by rw [hw2]; exact bSetRow (bSetRow hB1 (by omega) _) (by omega) _
      clear hw2 k7 k8 k3 k4 k5 hB1
      have l7 := j7.lt
      have l8 := j8.lt
      go_wp2_with fail
      obtain ⟨w3, hw3⟩ : ∃ w3, w3 = (w2.alloc (.cells #[.int .u8 0, .int .u8 0, .int .u8 0, .int .u8 0, .int .u8 0, .int .u8 0, .int .u8 0, .int .u8 0, .int .u8 0, .int .u8 0, .int .u8 0, .int .u8 0, .int .u8 0, .int .u8 0, .int .u8 0, .int .u8 0] 23)).alloc (.cells #[.int .u8 0, .int .u8 0, .int .u8 0, .int .u8 0, .int .u8 0, .int .u8 0, .int .u8 0, .int .u8 0, .int .u8 0, .int .u8 0, .int .u8 0, .int .u8 0, .int .u8 0, .int .u8 0, .int .u8 0, .int .u8 0] 23) := ⟨_, rfl⟩
      obtain ⟨t9, ht9⟩ : ∃ t9, t9 = w2.heap.size := ⟨_, rfl⟩
      rw [← hw3, ← ht9]
      have i7 : Row w3 g7 23 (AB p) := by rw [hw3]; exact (j7.alloc _).alloc _
      have i8 : Row w3 g8 23 (AB q) := by rw [hw3]; exact (j8.alloc _).alloc _
      have i3 : Row w3 w.heap.size 23 (AB a) := by rw [hw3]; exact (j3.alloc _).alloc _
      have i4 : Row w3 (w.heap.size + 1) 23 (AB b) := by rw [hw3]; exact (j4.alloc _).alloc _
      have i5 : Row w3 (w.heap.size + 1 + 1) 23 (AB c) := by rw [hw3]; exact (j5.alloc _).alloc _
      have i9 : Row w3 t9 23 (AB (xP b c 0)) := by rw [hw3, ht9, xP_zero]; exact (Row.new _ _ _).alloc _
      have i10 : Row w3 (t9 + 1) 23 (AB (xP p q 0)) := by rw [hw3, ht9, xP_zero]; exact Row.newAt _ _ _ _ (by simp)
      have hB3 : Below w.heap.size w w3 := by rw [hw3]; exact (hB2.alloc hB2.size _).alloc (by have := hB2.size; simp; omega) _
      have m7 : g7 < t9 := by omega
      have m8 : g8 < t9 := by omega
      have m9 : w.heap.size + 3 ≤ t9 := by omega
      clear hw3 ht9 j7 j8 j3 j4 j5 hB2 l7 l8
      go_loopg [11] 16 (fun n iv wr => ∃ k : Nat, n + k = 16 ∧ iv = .int .i64 k ∧ (Row wr (w.heap.size + 1) 23 (AB b) ∧ Row wr (w.heap.size + 1 + 1) 23 (AB c) ∧ Row wr g7 23 (AB p) ∧ Row wr g8 23 (AB q)) ∧ Row wr w.heap.size 23 (AB a) ∧ Row wr t9 23 (AB (xP b c k)) ∧ Row wr (t9 + 1) 23 (AB (xP p q k)) ∧ Below w.heap.size w wr)
      case atStart => exact ⟨0, by omega, rfl, ⟨i4, i5, i7, i8⟩, i3, i9, i10, hB3⟩
      case round =>
        clear i3 i4 i5 i7 i8 i9 i10 hB3
        obtain ⟨k, hk, rfl, ⟨i4, i5, i7, i8⟩, i3, i9, i10, hB⟩ := hrel
        by_cases hk16 : k < 16
        ·
          --<A
          have b1 : (k : Int) < 16 := by omega
          have x1 := xP_step b c k
          have x2 := xP_step p q k
          have X1 := Lib.hid x1
          have X2 := Lib.hid x2
          have y9 := xP_len b c k
          have y10 := xP_len p q k
          clear x1 x2
          have keepS : ∀ (w' : World) (g i : Nat) (v : Value), t9 ≤ g → (Row w' (w.heap.size + 1) 23 (AB b) ∧ Row w' (w.heap.size + 1 + 1) 23 (AB c) ∧ Row w' g7 23 (AB p) ∧ Row w' g8 23 (AB q)) → (Row (w'.setCell ⟨g, i, none⟩ v) (w.heap.size + 1) 23 (AB b) ∧ Row (w'.setCell ⟨g, i, none⟩ v) (w.heap.size + 1 + 1) 23 (AB c) ∧ Row (w'.setCell ⟨g, i, none⟩ v) g7 23 (AB p) ∧ Row (w'.setCell ⟨g, i, none⟩ v) g8 23 (AB q)) :=
            fun w' g i v hg h => ⟨h.1.setOther _ _ (by simp; omega), h.2.1.setOther _ _ (by simp; omega), h.2.2.1.setOther _ _ (by simp; omega), h.2.2.2.setOther _ _ (by simp; omega)⟩
          have KS := Lib.hid keepS
          clear keepS
          go_upto_region 6 with (fail)
          go_region_held3? (fun w' => Row w' (w.heap.size + 1) 23 (AB b) ∧ Row w' (w.heap.size + 1 + 1) 23 (AB c) ∧ Row w' g7 23 (AB p) ∧ Row w' g8 23 (AB q))
            ((first | assumption | exact ⟨i4, i5, i7, i8⟩ | exact KS.out _ _ _ _ (by omega) (by first | assumption | exact ⟨i4, i5, i7, i8⟩)))
            (fail)
          go_wp2_with fail
          go_roundg (gk - 1)
          case measure => omega
          case rel => exact ⟨k + 1, by omega, by go_num, (show _ from KS.out _ _ _ _ (by omega) (KS.out _ _ _ _ (by omega) ⟨i4, i5, i7, i8⟩)), (show _ from (i3.setOther _ _ (by simp; omega)).setOther _ _ (by simp; omega)), by rw [← X1.out]; exact (i9.setByte k _).setOther _ _ (by simp), by rw [← X2.out]; exact (i10.setOther _ _ (by simp)).setByte k _, ((hB.setCell (by simp; omega) _).setCell (by simp; omega) _).drew⟩
          --A>
        · obtain rfl : k = 16 := by omega
          --<B
          rw [xP_full] at i9 i10
          obtain ⟨sl, hsl⟩ : ∃ s, s = xorL b c := ⟨_, rfl⟩
          obtain ⟨tl, htl⟩ : ∃ t, t = xorL p q := ⟨_, rfl⟩
          obtain ⟨v, hv⟩ : ∃ v, v = gprod b c := ⟨_, rfl⟩
          obtain ⟨u, hu⟩ : ∃ u, u = gprod p c := ⟨_, rfl⟩
          have hsll : sl.length = 16 := by rw [hsl]; exact xorL_len _ _
          have htll : tl.length = 16 := by rw [htl]; exact xorL_len _ _
          have hvl : v.length = 16 := by rw [hv]; exact gprod_len _ _
          have hul : u.length = 16 := by rw [hu]; exact gprod_len _ _
          have e3 : gprod a sl = tl := by rw [hsl, htl, HP.out, HQ.out]; exact gprod_add a b c ha hb hc
          have e7 : gprod a v = u := by rw [hv, hu, HP.out]; exact (gprod_assoc a b c ha hb hc).symm
          have d0 : ∀ w', Calls Try.prog 21 #[] w' (fun e w'' => e = .returned (.bool true) ∧ Below w'.heap.size w' w'') := fun w' => gboxes_any w'
          have d1 : ∀ w', Calls Try.prog 30 #[.agg (AB a), .agg (AB b)] w' (fun e w'' => e = .returned (.agg (AB p)) ∧ Below w'.heap.size w' w'') := fun w' => by rw [HP.out]; exact refProd_any a b w' ha hb
          have d2 : ∀ w', Calls Try.prog 29 #[.agg (AB b), .agg (AB a)] w' (fun e w'' => e = .returned (.agg (AB p)) ∧ Below w'.heap.size w' w'') := fun w' => by rw [HP.out, gprod_comm a b ha hb]; exact gproduct_any b a w' hb ha
          have d3 : ∀ w', Calls Try.prog 29 #[.agg (AB a), .agg (AB sl)] w' (fun e w'' => e = .returned (.agg (AB tl)) ∧ Below w'.heap.size w' w'') := fun w' => by rw [← e3]; exact gproduct_any a sl w' ha hsll
          have d5 : ∀ w', Calls Try.prog 29 #[.agg (AB p), .agg (AB c)] w' (fun e w'' => e = .returned (.agg (AB u)) ∧ Below w'.heap.size w' w'') := fun w' => by rw [hu]; exact gproduct_any p c w' hpl hc
          have d6 : ∀ w', Calls Try.prog 29 #[.agg (AB b), .agg (AB c)] w' (fun e w'' => e = .returned (.agg (AB v)) ∧ Below w'.heap.size w' w'') := fun w' => by rw [hv]; exact gproduct_any b c w' hb hc
          have d7 : ∀ w', Calls Try.prog 29 #[.agg (AB a), .agg (AB v)] w' (fun e w'' => e = .returned (.agg (AB u)) ∧ Below w'.heap.size w' w'') := fun w' => by rw [← e7]; exact gproduct_any a v w' ha hvl
          rw [← hsl] at i9
          rw [← htl] at i10
          have D0 := Lib.hid d0
          have D1 := Lib.hid d1
          have D2 := Lib.hid d2
          have D3 := Lib.hid d3
          have D5 := Lib.hid d5
          have D6 := Lib.hid d6
          have D7 := Lib.hid d7
          clear e3 e7 hsl htl hv hu d0 d1 d2 d3 d5 d6 d7
          have hs16 := (AB_size sl).trans hsll
          have ht16 := (AB_size tl).trans htll
          have hsp := sub_all (AB p) 16 hp16
          have hss := sub_all (AB sl) 16 hs16
          have hst := sub_all (AB tl) 16 ht16
          have zp : 0 + 16 ≤ (AB p).size := by rw [hp16]; decide
          have zs : 0 + 16 ≤ (AB sl).size := by rw [hs16]; decide
          have zt : 0 + 16 ≤ (AB tl).size := by rw [ht16]; decide
          go_upto_region 7 with (fail)
          have i3 := i3.drew
          have i4 := i4.drew
          have i5 := i5.drew
          have i7 := i7.drew
          have i9 := i9.drew
          have i10 := i10.drew
          have q3 := i3.lt
          have q4 := i4.lt
          have q5 := i5.lt
          have q7 := i7.lt
          have q9 := i9.lt
          have q10 := i10.lt
          have hBd := hB.drew
          refine wp_region_qtail (Below wr.drew.heap.size wr.drew) 33 (by kernel_rfl) (by kernel_rfl) (Below.refl _ _) ?_
          simp only [List.take_succ_cons, List.take_zero, List.drop_succ_cons, List.drop_zero]
          repeat (first | go_big_quiet_skip | (go_big_quiet_want; go_big_quiet_op; first | go_big_quiet_on | (refine ⟨_, fun _ _ => rfl, ?_⟩; go_big_quiet_on)) | (go_big_quiet_want; apply qb_load1 _ _ rfl _ _ rfl; rotate_left 2; (focus (intro _; simp [go_sem]; done)); rotate_right 2; assumption; assumption; assumption; (simp only [Act.put, List.setIfInBounds_toArray, List.set_cons_zero, List.set_cons_succ]; go_big_quiet_on)) | (go_big_quiet_want; apply qb_loadA _ _ rfl _ _ rfl (sz := 16); rotate_left 2; (focus (intro _; simp [go_sem]; done)); (focus (intro _; simp [go_sem]; done)); rotate_right 2; assumption; assumption; assumption; assumption; (simp only [Act.put, List.setIfInBounds_toArray, List.set_cons_zero, List.set_cons_succ]; go_big_quiet_on)))
          (go_big_quiet_want; refine qb_call _ _ ?_ _ (fun w' _ => D0.out w') (Nat.le_refl _) ?_; (focus (intro w; simp [go_sem]; done)); (simp only [Act.put, List.setIfInBounds_toArray, List.set_cons_zero, List.set_cons_succ]; go_big_quiet_on))
          repeat (first | go_big_quiet_skip | (go_big_quiet_want; go_big_quiet_op; first | go_big_quiet_on | (refine ⟨_, fun _ _ => rfl, ?_⟩; go_big_quiet_on)) | (go_big_quiet_want; apply qb_load1 _ _ rfl _ _ rfl; rotate_left 2; (focus (intro _; simp [go_sem]; done)); rotate_right 2; assumption; assumption; assumption; (simp only [Act.put, List.setIfInBounds_toArray, List.set_cons_zero, List.set_cons_succ]; go_big_quiet_on)) | (go_big_quiet_want; apply qb_loadA _ _ rfl _ _ rfl (sz := 16); rotate_left 2; (focus (intro _; simp [go_sem]; done)); (focus (intro _; simp [go_sem]; done)); rotate_right 2; assumption; assumption; assumption; assumption; (simp only [Act.put, List.setIfInBounds_toArray, List.set_cons_zero, List.set_cons_succ]; go_big_quiet_on)))
          (go_big_quiet_want; refine qb_call _ _ ?_ _ (fun w' _ => D1.out w') (Nat.le_refl _) ?_; (focus (intro w; simp [go_sem]; done)); (simp only [Act.put, List.setIfInBounds_toArray, List.set_cons_zero, List.set_cons_succ]; go_big_quiet_on))
          repeat (first | go_big_quiet_skip | (go_big_quiet_want; go_big_quiet_op; first | go_big_quiet_on | (refine ⟨_, fun _ _ => rfl, ?_⟩; go_big_quiet_on)) | (go_big_quiet_want; apply qb_load1 _ _ rfl _ _ rfl; rotate_left 2; (focus (intro _; simp [go_sem]; done)); rotate_right 2; assumption; assumption; assumption; (simp only [Act.put, List.setIfInBounds_toArray, List.set_cons_zero, List.set_cons_succ]; go_big_quiet_on)) | (go_big_quiet_want; apply qb_loadA _ _ rfl _ _ rfl (sz := 16); rotate_left 2; (focus (intro _; simp [go_sem]; done)); (focus (intro _; simp [go_sem]; done)); rotate_right 2; assumption; assumption; assumption; assumption; (simp only [Act.put, List.setIfInBounds_toArray, List.set_cons_zero, List.set_cons_succ]; go_big_quiet_on)))
          (go_big_quiet_want; refine qb_call _ _ ?_ _ (fun w' _ => D2.out w') (Nat.le_refl _) ?_; (focus (intro w; simp [go_sem]; done)); (simp only [Act.put, List.setIfInBounds_toArray, List.set_cons_zero, List.set_cons_succ]; go_big_quiet_on))
          repeat (first | go_big_quiet_skip | (go_big_quiet_want; go_big_quiet_op; first | go_big_quiet_on | (refine ⟨_, fun _ _ => rfl, ?_⟩; go_big_quiet_on)) | (go_big_quiet_want; apply qb_load1 _ _ rfl _ _ rfl; rotate_left 2; (focus (intro _; simp [go_sem]; done)); rotate_right 2; assumption; assumption; assumption; (simp only [Act.put, List.setIfInBounds_toArray, List.set_cons_zero, List.set_cons_succ]; go_big_quiet_on)) | (go_big_quiet_want; apply qb_loadA _ _ rfl _ _ rfl (sz := 16); rotate_left 2; (focus (intro _; simp [go_sem]; done)); (focus (intro _; simp [go_sem]; done)); rotate_right 2; assumption; assumption; assumption; assumption; (simp only [Act.put, List.setIfInBounds_toArray, List.set_cons_zero, List.set_cons_succ]; go_big_quiet_on)))
          (go_big_quiet_want; refine qb_call _ _ ?_ _ (fun w' _ => D3.out w') (Nat.le_refl _) ?_; (focus (intro w; simp [go_sem]; done)); (simp only [Act.put, List.setIfInBounds_toArray, List.set_cons_zero, List.set_cons_succ]; go_big_quiet_on))
          repeat (first | go_big_quiet_skip | (go_big_quiet_want; go_big_quiet_op; first | go_big_quiet_on | (refine ⟨_, fun _ _ => rfl, ?_⟩; go_big_quiet_on)) | (go_big_quiet_want; apply qb_load1 _ _ rfl _ _ rfl; rotate_left 2; (focus (intro _; simp [go_sem]; done)); rotate_right 2; assumption; assumption; assumption; (simp only [Act.put, List.setIfInBounds_toArray, List.set_cons_zero, List.set_cons_succ]; go_big_quiet_on)) | (go_big_quiet_want; apply qb_loadA _ _ rfl _ _ rfl (sz := 16); rotate_left 2; (focus (intro _; simp [go_sem]; done)); (focus (intro _; simp [go_sem]; done)); rotate_right 2; assumption; assumption; assumption; assumption; (simp only [Act.put, List.setIfInBounds_toArray, List.set_cons_zero, List.set_cons_succ]; go_big_quiet_on)))
          (go_big_quiet_want; refine qb_call _ _ ?_ _ (fun w' _ => C1.out w') (Nat.le_refl _) ?_; (focus (intro w; simp [go_sem]; done)); (simp only [Act.put, List.setIfInBounds_toArray, List.set_cons_zero, List.set_cons_succ]; go_big_quiet_on))
          repeat (first | go_big_quiet_skip | (go_big_quiet_want; go_big_quiet_op; first | go_big_quiet_on | (refine ⟨_, fun _ _ => rfl, ?_⟩; go_big_quiet_on)) | (go_big_quiet_want; apply qb_load1 _ _ rfl _ _ rfl; rotate_left 2; (focus (intro _; simp [go_sem]; done)); rotate_right 2; assumption; assumption; assumption; (simp only [Act.put, List.setIfInBounds_toArray, List.set_cons_zero, List.set_cons_succ]; go_big_quiet_on)) | (go_big_quiet_want; apply qb_loadA _ _ rfl _ _ rfl (sz := 16); rotate_left 2; (focus (intro _; simp [go_sem]; done)); (focus (intro _; simp [go_sem]; done)); rotate_right 2; assumption; assumption; assumption; assumption; (simp only [Act.put, List.setIfInBounds_toArray, List.set_cons_zero, List.set_cons_succ]; go_big_quiet_on)))
          (go_big_quiet_want; refine qb_call _ _ ?_ _ (fun w' _ => D5.out w') (Nat.le_refl _) ?_; (focus (intro w; simp [go_sem]; done)); (simp only [Act.put, List.setIfInBounds_toArray, List.set_cons_zero, List.set_cons_succ]; go_big_quiet_on))
          repeat (first | go_big_quiet_skip | (go_big_quiet_want; go_big_quiet_op; first | go_big_quiet_on | (refine ⟨_, fun _ _ => rfl, ?_⟩; go_big_quiet_on)) | (go_big_quiet_want; apply qb_load1 _ _ rfl _ _ rfl; rotate_left 2; (focus (intro _; simp [go_sem]; done)); rotate_right 2; assumption; assumption; assumption; (simp only [Act.put, List.setIfInBounds_toArray, List.set_cons_zero, List.set_cons_succ]; go_big_quiet_on)) | (go_big_quiet_want; apply qb_loadA _ _ rfl _ _ rfl (sz := 16); rotate_left 2; (focus (intro _; simp [go_sem]; done)); (focus (intro _; simp [go_sem]; done)); rotate_right 2; assumption; assumption; assumption; assumption; (simp only [Act.put, List.setIfInBounds_toArray, List.set_cons_zero, List.set_cons_succ]; go_big_quiet_on)))
          (go_big_quiet_want; refine qb_call _ _ ?_ _ (fun w' _ => D6.out w') (Nat.le_refl _) ?_; (focus (intro w; simp [go_sem]; done)); (simp only [Act.put, List.setIfInBounds_toArray, List.set_cons_zero, List.set_cons_succ]; go_big_quiet_on))
          repeat (first | go_big_quiet_skip | (go_big_quiet_want; go_big_quiet_op; first | go_big_quiet_on | (refine ⟨_, fun _ _ => rfl, ?_⟩; go_big_quiet_on)) | (go_big_quiet_want; apply qb_load1 _ _ rfl _ _ rfl; rotate_left 2; (focus (intro _; simp [go_sem]; done)); rotate_right 2; assumption; assumption; assumption; (simp only [Act.put, List.setIfInBounds_toArray, List.set_cons_zero, List.set_cons_succ]; go_big_quiet_on)) | (go_big_quiet_want; apply qb_loadA _ _ rfl _ _ rfl (sz := 16); rotate_left 2; (focus (intro _; simp [go_sem]; done)); (focus (intro _; simp [go_sem]; done)); rotate_right 2; assumption; assumption; assumption; assumption; (simp only [Act.put, List.setIfInBounds_toArray, List.set_cons_zero, List.set_cons_succ]; go_big_quiet_on)))
          (go_big_quiet_want; refine qb_call _ _ ?_ _ (fun w' _ => D7.out w') (Nat.le_refl _) ?_; (focus (intro w; simp [go_sem]; done)); (simp only [Act.put, List.setIfInBounds_toArray, List.set_cons_zero, List.set_cons_succ]; go_big_quiet_on))
          repeat (first | go_big_quiet_skip | (go_big_quiet_want; go_big_quiet_op; first | go_big_quiet_on | (refine ⟨_, fun _ _ => rfl, ?_⟩; go_big_quiet_on)) | (go_big_quiet_want; apply qb_load1 _ _ rfl _ _ rfl; rotate_left 2; (focus (intro _; simp [go_sem]; done)); rotate_right 2; assumption; assumption; assumption; (simp only [Act.put, List.setIfInBounds_toArray, List.set_cons_zero, List.set_cons_succ]; go_big_quiet_on)) | (go_big_quiet_want; apply qb_loadA _ _ rfl _ _ rfl (sz := 16); rotate_left 2; (focus (intro _; simp [go_sem]; done)); (focus (intro _; simp [go_sem]; done)); rotate_right 2; assumption; assumption; assumption; assumption; (simp only [Act.put, List.setIfInBounds_toArray, List.set_cons_zero, List.set_cons_succ]; go_big_quiet_on)))
          refine wpQuiet_nil ?_
          intro w' hw'
          have HBE := hBd.trans (hw'.mono hBd.size)
          go_wp2_with fail
          go_ret
          exact ⟨rfl, HBE⟩
          --B>
end Go.Proofs.Ytjopgogaipkdbaa
