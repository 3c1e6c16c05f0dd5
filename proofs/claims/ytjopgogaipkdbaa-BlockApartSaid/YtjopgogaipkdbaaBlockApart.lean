/- tollgatelaw04.BlockApart: of all keys of sixteen bytes and all two blocks the law returns true and changes nothing that was there: two blocks that are not the same do not become the same. No conditions. -/
import Derived.Test.YtjopgogaipkdbaaLawKit
import Derived.Test.YtjopgogaipkdbaaDoor
namespace Go.Proofs.Ytjopgogaipkdbaa
open Go.RowKit

set_option maxRecDepth 100000 in
set_option maxHeartbeats 4000000 in
theorem blockApart_walk (k a b : List UInt8) (hk : k.length = 16) (ha : a.length = 16) (hb : b.length = 16) (w : World) :
    Calls Try.prog 5 #[.agg (AB k), .agg (AB a), .agg (AB b)] w fun e w' => e = .returned (.bool true) ∧ Below w.heap.size w w' := by
  have hS := fun w0 => SlB.of_row (Row.new w0 23 (AB k)) hk (by decide)
  go_enter Try.func5, Try.ntmps5
  go_wp2_with fail
  clear hS
  obtain ⟨w1, hw1⟩ : ∃ w1, w1 = ((w.alloc (.cells (AB k) 23)).alloc (.cells (AB a) 23)).alloc (.cells (AB b) 23) := ⟨_, rfl⟩
  rw [← hw1]
  have hs1 : w1.heap.size = w.heap.size + 3 := by rw [hw1]; simp
  have hK1 : Row w1 w.heap.size 23 (AB k) := by rw [hw1]; exact ((Row.new w _ _).alloc _).alloc _
  have hA1 : Row w1 (w.heap.size + 1) 23 (AB a) := by rw [hw1]; exact (Row.newAt _ _ _ _ (by simp)).alloc _
  have hB1 : Row w1 (w.heap.size + 1 + 1) 23 (AB b) := by rw [hw1]; exact Row.newAt _ _ _ _ (by simp)
  have hb1 : Below w.heap.size w w1 := by rw [hw1]; exact (((Below.refl _ w).alloc (Nat.le_refl _) _).alloc (by simp) _).alloc (by simp <;> omega) _
  clear hw1
  refine (new_ok _ _ _ (SlB.of_row hK1 hk (by decide)) hk).mono ?_
  rintro e w2 ⟨p, rfl, hK, hb2⟩
  obtain ⟨kb, rfl⟩ : ∃ kb, p = .pointer (some ⟨kb, 0, none⟩) := (let ⟨kb, _, _, _, h, _⟩ := hK; ⟨kb, h⟩)
  have hA2 := hA1.below hb2 (by omega)
  have hB2 := hB1.below hb2 (by omega)
  have hbw := hb1.trans (hb2.mono (by omega))
  have hs2 := hb2.size
  have la : w.heap.size + 1 < w2.heap.size := by omega
  have lb : w.heap.size + 1 + 1 < w2.heap.size := by omega
  clear hb1 hb2 hA1 hB1 hK1 hs1 hs2
  obtain ⟨W, hW⟩ : ∃ W, W = expand k := ⟨_, rfl⟩
  rw [← hW] at hK
  clear hW
  have sa : sub (AB a) 0 16 = AB a := sub_all _ _ (by rw [AB_size, ha])
  have sb : sub (AB b) 0 16 = AB b := sub_all _ _ (by rw [AB_size, hb])
  have za : 0 + 16 ≤ (AB a).size := by rw [AB_size, ha]; omega
  have zb : 0 + 16 ≤ (AB b).size := by rw [AB_size, hb]; omega
  have cblocks := fun w0 => blocks_any w0
  have hsa : ∀ w0, Below w2.heap.size w2 w0 → _ := fun w0 h => seal_any _ W 10 a w0 (hK.below h) ha
  have hsb : ∀ w0, Below w2.heap.size w2 w0 → _ := fun w0 h => seal_any _ W 10 b w0 (hK.below h) hb
  have hoa : ∀ w0, Below w2.heap.size w2 w0 → _ := fun w0 h => open_any _ W 10 a w0 (hK.below h) ha
  have hob : ∀ w0, Below w2.heap.size w2 w0 → _ := fun w0 h => open_any _ W 10 b w0 (hK.below h) hb
  have es : (sealN W 10 a 10 == sealN W 10 b 10) = (a == b) := by
    rw [Bool.eq_iff_iff, beq_iff_eq, beq_iff_eq]
    exact ⟨seal_inj W 10 a b ha hb, fun h => by rw [h]⟩
  have eo : (openD W 10 10 a == openD W 10 10 b) = (a == b) := by
    rw [Bool.eq_iff_iff, beq_iff_eq, beq_iff_eq]
    exact ⟨open_inj W 10 a b ha hb, fun h => by rw [h]⟩
  have l1 := sealN_len W 10 a 10
  have l2 := sealN_len W 10 b 10
  have l3 := openD_len W 10 10 a
  have l4 := openD_len W 10 10 b
  generalize sealN W 10 a 10 = ca at *
  generalize sealN W 10 b 10 = cb at *
  generalize openD W 10 10 a = da at *
  generalize openD W 10 10 b = db at *
  obtain ⟨t, ht⟩ : ∃ t, (a == b) = t := ⟨_, rfl⟩
  rw [ht] at es eo
  go_wp2_with fail
  refine wp_region_qtail (Below w2.heap.size w2) 31 (by kernel_rfl) (by kernel_rfl) (Below.refl _ _).drew ?_
  simp only [List.take_succ_cons, List.take_zero, List.drop_succ_cons, List.drop_zero]
  repeat (first | go_big_quiet_skip | (go_big_quiet_want; go_big_quiet_op; first | go_big_quiet_on | (refine ⟨_, fun _ _ => rfl, ?_⟩; go_big_quiet_on)) | (go_big_quiet_want; apply qb_load1 _ _ rfl _ _ rfl; rotate_left 2; (focus (intro _; simp [go_sem]; done)); rotate_right 2; assumption; assumption; assumption; (simp only [Act.put, List.setIfInBounds_toArray, List.set_cons_zero, List.set_cons_succ]; go_big_quiet_on)) | (go_big_quiet_want; apply qb_loadA _ _ rfl _ _ rfl (sz := 16); rotate_left 2; (focus (intro _; simp [go_sem]; done)); (focus (intro _; simp [go_sem]; done)); rotate_right 2; assumption; assumption; assumption; assumption; (simp only [Act.put, List.setIfInBounds_toArray, List.set_cons_zero, List.set_cons_succ]; go_big_quiet_on)))
  (go_big_quiet_want; refine qb_call _ _ ?_ _ (fun w0 _ => cblocks w0) (Nat.le_refl _) ?_; (focus (intro w; simp [go_sem]; done)); (simp only [Act.put, List.setIfInBounds_toArray, List.set_cons_zero, List.set_cons_succ]; go_big_quiet_on))
  cases t
  all_goals
    repeat (first | go_big_quiet_skip | (go_big_quiet_want; go_big_quiet_op; first | go_big_quiet_on | (refine ⟨_, fun _ _ => rfl, ?_⟩; go_big_quiet_on)) | (go_big_quiet_want; apply qb_load1 _ _ rfl _ _ rfl; rotate_left 2; (focus (intro _; simp [go_sem]; done)); rotate_right 2; assumption; assumption; assumption; (simp only [Act.put, List.setIfInBounds_toArray, List.set_cons_zero, List.set_cons_succ]; go_big_quiet_on)) | (go_big_quiet_want; apply qb_loadA _ _ rfl _ _ rfl (sz := 16); rotate_left 2; (focus (intro _; simp [go_sem]; done)); (focus (intro _; simp [go_sem]; done)); rotate_right 2; assumption; assumption; assumption; assumption; (simp only [Act.put, List.setIfInBounds_toArray, List.set_cons_zero, List.set_cons_succ]; go_big_quiet_on)))
    (go_big_quiet_want; refine qb_call _ _ ?_ _ hsa (Nat.le_refl _) ?_; (focus (intro w; simp [go_sem]; done)); (simp only [Act.put, List.setIfInBounds_toArray, List.set_cons_zero, List.set_cons_succ]; go_big_quiet_on))
    repeat (first | go_big_quiet_skip | (go_big_quiet_want; go_big_quiet_op; first | go_big_quiet_on | (refine ⟨_, fun _ _ => rfl, ?_⟩; go_big_quiet_on)) | (go_big_quiet_want; apply qb_load1 _ _ rfl _ _ rfl; rotate_left 2; (focus (intro _; simp [go_sem]; done)); rotate_right 2; assumption; assumption; assumption; (simp only [Act.put, List.setIfInBounds_toArray, List.set_cons_zero, List.set_cons_succ]; go_big_quiet_on)) | (go_big_quiet_want; apply qb_loadA _ _ rfl _ _ rfl (sz := 16); rotate_left 2; (focus (intro _; simp [go_sem]; done)); (focus (intro _; simp [go_sem]; done)); rotate_right 2; assumption; assumption; assumption; assumption; (simp only [Act.put, List.setIfInBounds_toArray, List.set_cons_zero, List.set_cons_succ]; go_big_quiet_on)))
    (go_big_quiet_want; refine qb_call _ _ ?_ _ hsb (Nat.le_refl _) ?_; (focus (intro w; simp [go_sem]; done)); (simp only [Act.put, List.setIfInBounds_toArray, List.set_cons_zero, List.set_cons_succ]; go_big_quiet_on))
    repeat (first | go_big_quiet_skip | (go_big_quiet_want; go_big_quiet_op; first | go_big_quiet_on | (refine ⟨_, fun _ _ => rfl, ?_⟩; go_big_quiet_on)) | (go_big_quiet_want; apply qb_load1 _ _ rfl _ _ rfl; rotate_left 2; (focus (intro _; simp [go_sem]; done)); rotate_right 2; assumption; assumption; assumption; (simp only [Act.put, List.setIfInBounds_toArray, List.set_cons_zero, List.set_cons_succ]; go_big_quiet_on)) | (go_big_quiet_want; apply qb_loadA _ _ rfl _ _ rfl (sz := 16); rotate_left 2; (focus (intro _; simp [go_sem]; done)); (focus (intro _; simp [go_sem]; done)); rotate_right 2; assumption; assumption; assumption; assumption; (simp only [Act.put, List.setIfInBounds_toArray, List.set_cons_zero, List.set_cons_succ]; go_big_quiet_on)))
    (go_big_quiet_want; refine qb_call _ _ ?_ _ hoa (Nat.le_refl _) ?_; (focus (intro w; simp [go_sem]; done)); (simp only [Act.put, List.setIfInBounds_toArray, List.set_cons_zero, List.set_cons_succ]; go_big_quiet_on))
    repeat (first | go_big_quiet_skip | (go_big_quiet_want; go_big_quiet_op; first | go_big_quiet_on | (refine ⟨_, fun _ _ => rfl, ?_⟩; go_big_quiet_on)) | (go_big_quiet_want; apply qb_load1 _ _ rfl _ _ rfl; rotate_left 2; (focus (intro _; simp [go_sem]; done)); rotate_right 2; assumption; assumption; assumption; (simp only [Act.put, List.setIfInBounds_toArray, List.set_cons_zero, List.set_cons_succ]; go_big_quiet_on)) | (go_big_quiet_want; apply qb_loadA _ _ rfl _ _ rfl (sz := 16); rotate_left 2; (focus (intro _; simp [go_sem]; done)); (focus (intro _; simp [go_sem]; done)); rotate_right 2; assumption; assumption; assumption; assumption; (simp only [Act.put, List.setIfInBounds_toArray, List.set_cons_zero, List.set_cons_succ]; go_big_quiet_on)))
    (go_big_quiet_want; refine qb_call _ _ ?_ _ hob (Nat.le_refl _) ?_; (focus (intro w; simp [go_sem]; done)); (simp only [Act.put, List.setIfInBounds_toArray, List.set_cons_zero, List.set_cons_succ]; go_big_quiet_on))
    repeat (first | go_big_quiet_skip | (go_big_quiet_want; go_big_quiet_op; first | go_big_quiet_on | (refine ⟨_, fun _ _ => rfl, ?_⟩; go_big_quiet_on)) | (go_big_quiet_want; apply qb_load1 _ _ rfl _ _ rfl; rotate_left 2; (focus (intro _; simp [go_sem]; done)); rotate_right 2; assumption; assumption; assumption; (simp only [Act.put, List.setIfInBounds_toArray, List.set_cons_zero, List.set_cons_succ]; go_big_quiet_on)) | (go_big_quiet_want; apply qb_loadA _ _ rfl _ _ rfl (sz := 16); rotate_left 2; (focus (intro _; simp [go_sem]; done)); (focus (intro _; simp [go_sem]; done)); rotate_right 2; assumption; assumption; assumption; assumption; (simp only [Act.put, List.setIfInBounds_toArray, List.set_cons_zero, List.set_cons_succ]; go_big_quiet_on)))
    refine wpQuiet_nil ?_
    intro w' hw'
    have HB := hbw.trans (hw'.mono hbw.size)
    go_wp2_with fail
    go_ret
    exact ⟨rfl, HB⟩
end Go.Proofs.Ytjopgogaipkdbaa
