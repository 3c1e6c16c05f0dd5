/- tollgatelaw04.BlockSeals: of all keys of sixteen bytes and of 32, and all blocks, the law returns true and changes nothing that was there: a block becomes what the standard says, and is turned back. No conditions. -/
import Derived.Test.YtjopgogaipkdbaaLawKit
import Derived.Test.YtjopgogaipkdbaaDoor
import Derived.Test.YtjopgogaipkdbaaConv
import Derived.Test.YtjopgogaipkdbaaRefD
namespace Go.Proofs.Ytjopgogaipkdbaa
open Go.RowKit

set_option maxRecDepth 100000 in
set_option maxHeartbeats 4000000 in
theorem blockSeals_walk (k b : List UInt8) (short : Bool) (hk : k.length = 32) (hb : b.length = 16) (w : World) :
    Calls Try.prog 3 #[.agg (AB k), .agg (AB b), .bool short] w fun e w' => e = .returned (.bool true) ∧ Below w.heap.size w w' := by
  have hk2 : (k.take 16).length = 16 := by simp; omega
  have Hk2 := Lib.hid hk2
  clear hk2
  go_enter Try.func3, Try.ntmps3
  cases short
  all_goals
    go_wp2_with fail
    obtain ⟨w1, hw1⟩ : ∃ w1, w1 = (w.alloc (.cells (AB k) 22)).alloc (.cells (AB b) 23) := ⟨_, rfl⟩
    rw [← hw1]
    have hs1 : w1.heap.size = w.heap.size + 2 := by rw [hw1]; simp
    have hK1 : Row w1 w.heap.size 22 (AB k) := by rw [hw1]; exact (Row.new w _ _).alloc _
    have hB1 : Row w1 (w.heap.size + 1) 23 (AB b) := by rw [hw1]; exact Row.newAt _ _ _ _ (by simp)
    have hb1 : Below w.heap.size w w1 := by rw [hw1]; exact ((Below.refl _ w).alloc (Nat.le_refl _) _).alloc (by simp) _
    clear hw1
  rotate_left
  · have hS1 := SlB.of_part hK1 hk (by decide : 16 ≤ 32) (by decide)
    refine (new_ok _ _ _ hS1 Hk2.out).mono ?_
    rintro e w2 ⟨p, rfl, hK, hb2⟩
    obtain ⟨kb, rfl⟩ : ∃ kb, p = .pointer (some ⟨kb, 0, none⟩) := (let ⟨kb, _, _, _, h, _⟩ := hK; ⟨kb, h⟩)
    have hS2 := hS1.below (hb2.mono (Nat.le_refl _))
    have hB2 := hB1.below hb2 (by omega)
    have hbw := hb1.trans (hb2.mono (by omega))
    have hs2 := hb2.size
    have lb : w.heap.size + 1 < w2.heap.size := by omega
    have la : w.heap.size < w2.heap.size := by omega
    have href := fun w0 => ref_seal 4 (k.take 16) b w0 (by omega) Hk2.out hb
    rw [show 4 + 6 = 10 from rfl] at href
    clear hb1 hb2 hB1 hK1 hs1 hs2 hS1
    obtain ⟨kk, hkk⟩ : ∃ kk, kk = k.take 16 := ⟨_, rfl⟩
    rw [← hkk] at hK hS2 href
    clear hkk
    obtain ⟨W, hW⟩ : ∃ W, W = expand kk := ⟨_, rfl⟩
    rw [← hW] at hK href
    clear hW
    have hKB : ∀ w0, Below w2.heap.size w2 w0 → KeyAt 67 23 w0 (.pointer (some ⟨kb, 0, none⟩)) W 11 := fun w0 h => hK.below h
    have hseal : ∀ w0, Below w2.heap.size w2 w0 → _ := fun w0 h => seal_any _ W 10 b w0 (hKB w0 h) hb
    have hopc : ∀ w0, Below w2.heap.size w2 w0 → _ := fun w0 h => open_any _ W 10 (sealN W 10 b 10) w0 (hKB w0 h) (sealN_len _ _ _ _)
    rw [openD_sealN W 10 b hb 10] at hopc
    have hopb : ∀ w0, Below w2.heap.size w2 w0 → _ := fun w0 h => open_any _ W 10 b w0 (hKB w0 h) hb
    have hsd : ∀ w0, Below w2.heap.size w2 w0 → _ := fun w0 h => seal_any _ W 10 (openD W 10 10 b) w0 (hKB w0 h) (openD_len _ _ _ _)
    rw [sealN_openD W 10 10 b hb] at hsd
    have hcl := sealN_len W 10 b 10
    have hdl := openD_len W 10 10 b
    generalize sealN W 10 b 10 = c at *
    generalize openD W 10 10 b = d at *
    have hsv : ∀ w0, Below w2.heap.size w2 w0 → SlB w0 (.slice (some ⟨w.heap.size, 0, none⟩) 16 32) kk := fun w0 h => hS2.below h
    clear hK hKB hS2
    have Href := Lib.hid href
    have Hseal := Lib.hid hseal
    have Hopc := Lib.hid hopc
    have Hopb := Lib.hid hopb
    have Hsd := Lib.hid hsd
    have Hsv := Lib.hid hsv
    clear href hseal hopc hopb hsd hsv
    go_wp2_with (go_at_call 15; refine (blocks_any _).mono ?_; rintro e w3 ⟨rfl, hb3⟩; have hB3 := hB2.below hb3 lb; have lb3 := hB3.lt)
    refine (Hseal.out _ hb3).mono ?_
    rintro e w4 ⟨rfl, hb4⟩
    have hb5 := hb3.trans (hb4.mono hb3.size)
    clear hb3 hb4 hB3 lb3
    go_upto_region 8 with (fail)
    obtain ⟨w6, hw6⟩ : ∃ w6, w6 = ((w4.alloc (.cells #[.int .u8 0, .int .u8 0, .int .u8 0, .int .u8 0, .int .u8 0, .int .u8 0, .int .u8 0, .int .u8 0, .int .u8 0, .int .u8 0, .int .u8 0, .int .u8 0, .int .u8 0, .int .u8 0, .int .u8 0, .int .u8 0] 23)).setRow w4.heap.size (AB c)) := ⟨_, rfl⟩
    rw [← hw6]
    have hC : Row w6 w4.heap.size 23 (AB c) := by rw [hw6]; exact (Row.new _ _ _).setRow _
    have hb6 : Below w2.heap.size w2 w6 := by rw [hw6]; exact bSetRow (hb5.alloc hb5.size _) hb5.size _
    have hB6 := hB2.below hb6 lb
    have lc := hC.lt
    have ld : w.heap.size + 1 < w6.heap.size := Nat.lt_of_lt_of_le lb hb6.size
    clear hw6 hb5 hB2
    have zb : 0 + 16 ≤ (AB b).size := by rw [AB_size, hb]; omega
    have zc : 0 + 16 ≤ (AB c).size := by rw [AB_size, hcl]; omega
    have sb : sub (AB b) 0 16 = AB b := sub_all _ _ (by rw [AB_size, hb])
    have sc : sub (AB c) 0 16 = AB c := sub_all _ _ (by rw [AB_size, hcl])
    have hbw6 := hbw.trans (hb6.mono hbw.size)
    have u1 : ∀ w', Below w6.heap.size w6 w' → Below w2.heap.size w2 w' := fun w' h => hb6.trans (h.mono hb6.size)
    refine wp_region_qtail (Below w6.heap.size w6) 22 (by kernel_rfl) (by kernel_rfl) (Below.refl _ _).drew ?_
    simp only [List.take_succ_cons, List.take_zero, List.drop_succ_cons, List.drop_zero]
    repeat (first | go_big_quiet_skip | (go_big_quiet_want; go_big_quiet_op; first | go_big_quiet_on | (refine ⟨_, fun _ _ => rfl, ?_⟩; go_big_quiet_on)) | (go_big_quiet_want; apply qb_load1 _ _ rfl _ _ rfl; rotate_left 2; (focus (intro _; simp [go_sem]; done)); rotate_right 2; assumption; assumption; assumption; (simp only [Act.put, List.setIfInBounds_toArray, List.set_cons_zero, List.set_cons_succ]; go_big_quiet_on)) | (go_big_quiet_want; apply qb_loadA _ _ rfl _ _ rfl (sz := 16); rotate_left 2; (focus (intro _; simp [go_sem]; done)); (focus (intro _; simp [go_sem]; done)); rotate_right 2; assumption; assumption; assumption; assumption; (simp only [Act.put, List.setIfInBounds_toArray, List.set_cons_zero, List.set_cons_succ]; go_big_quiet_on)))
    go_big_quiet_want
    refine qb_conv 24 9 _ rfl 5 Try.underlying24 Try.underlying5 Try.underlying9 _ rfl kk (fun w' h => Hsv.out w' (u1 w' h)) ?_
    (simp only [Act.put, List.setIfInBounds_toArray, List.set_cons_zero, List.set_cons_succ]; go_big_quiet_on)
    repeat (first | go_big_quiet_skip | (go_big_quiet_want; go_big_quiet_op; first | go_big_quiet_on | (refine ⟨_, fun _ _ => rfl, ?_⟩; go_big_quiet_on)) | (go_big_quiet_want; apply qb_load1 _ _ rfl _ _ rfl; rotate_left 2; (focus (intro _; simp [go_sem]; done)); rotate_right 2; assumption; assumption; assumption; (simp only [Act.put, List.setIfInBounds_toArray, List.set_cons_zero, List.set_cons_succ]; go_big_quiet_on)) | (go_big_quiet_want; apply qb_loadA _ _ rfl _ _ rfl (sz := 16); rotate_left 2; (focus (intro _; simp [go_sem]; done)); (focus (intro _; simp [go_sem]; done)); rotate_right 2; assumption; assumption; assumption; assumption; (simp only [Act.put, List.setIfInBounds_toArray, List.set_cons_zero, List.set_cons_succ]; go_big_quiet_on)))
    (go_big_quiet_want; refine qb_call _ _ ?_ _ (fun w' _ => Href.out w') (Nat.le_refl _) ?_; (focus (intro w; simp [go_sem]; done)); (simp only [Act.put, List.setIfInBounds_toArray, List.set_cons_zero, List.set_cons_succ]; go_big_quiet_on))
    repeat (first | go_big_quiet_skip | (go_big_quiet_want; go_big_quiet_op; first | go_big_quiet_on | (refine ⟨_, fun _ _ => rfl, ?_⟩; go_big_quiet_on)) | (go_big_quiet_want; apply qb_load1 _ _ rfl _ _ rfl; rotate_left 2; (focus (intro _; simp [go_sem]; done)); rotate_right 2; assumption; assumption; assumption; (simp only [Act.put, List.setIfInBounds_toArray, List.set_cons_zero, List.set_cons_succ]; go_big_quiet_on)) | (go_big_quiet_want; apply qb_loadA _ _ rfl _ _ rfl (sz := 16); rotate_left 2; (focus (intro _; simp [go_sem]; done)); (focus (intro _; simp [go_sem]; done)); rotate_right 2; assumption; assumption; assumption; assumption; (simp only [Act.put, List.setIfInBounds_toArray, List.set_cons_zero, List.set_cons_succ]; go_big_quiet_on)))
    (go_big_quiet_want; refine qb_call _ _ ?_ _ (fun w' h => Hopc.out w' (u1 w' h)) (Nat.le_refl _) ?_; (focus (intro w; simp [go_sem]; done)); (simp only [Act.put, List.setIfInBounds_toArray, List.set_cons_zero, List.set_cons_succ]; go_big_quiet_on))
    repeat (first | go_big_quiet_skip | (go_big_quiet_want; go_big_quiet_op; first | go_big_quiet_on | (refine ⟨_, fun _ _ => rfl, ?_⟩; go_big_quiet_on)) | (go_big_quiet_want; apply qb_load1 _ _ rfl _ _ rfl; rotate_left 2; (focus (intro _; simp [go_sem]; done)); rotate_right 2; assumption; assumption; assumption; (simp only [Act.put, List.setIfInBounds_toArray, List.set_cons_zero, List.set_cons_succ]; go_big_quiet_on)) | (go_big_quiet_want; apply qb_loadA _ _ rfl _ _ rfl (sz := 16); rotate_left 2; (focus (intro _; simp [go_sem]; done)); (focus (intro _; simp [go_sem]; done)); rotate_right 2; assumption; assumption; assumption; assumption; (simp only [Act.put, List.setIfInBounds_toArray, List.set_cons_zero, List.set_cons_succ]; go_big_quiet_on)))
    (go_big_quiet_want; refine qb_call _ _ ?_ _ (fun w' h => Hopb.out w' (u1 w' h)) (Nat.le_refl _) ?_; (focus (intro w; simp [go_sem]; done)); (simp only [Act.put, List.setIfInBounds_toArray, List.set_cons_zero, List.set_cons_succ]; go_big_quiet_on))
    repeat (first | go_big_quiet_skip | (go_big_quiet_want; go_big_quiet_op; first | go_big_quiet_on | (refine ⟨_, fun _ _ => rfl, ?_⟩; go_big_quiet_on)) | (go_big_quiet_want; apply qb_load1 _ _ rfl _ _ rfl; rotate_left 2; (focus (intro _; simp [go_sem]; done)); rotate_right 2; assumption; assumption; assumption; (simp only [Act.put, List.setIfInBounds_toArray, List.set_cons_zero, List.set_cons_succ]; go_big_quiet_on)) | (go_big_quiet_want; apply qb_loadA _ _ rfl _ _ rfl (sz := 16); rotate_left 2; (focus (intro _; simp [go_sem]; done)); (focus (intro _; simp [go_sem]; done)); rotate_right 2; assumption; assumption; assumption; assumption; (simp only [Act.put, List.setIfInBounds_toArray, List.set_cons_zero, List.set_cons_succ]; go_big_quiet_on)))
    (go_big_quiet_want; refine qb_call _ _ ?_ _ (fun w' h => Hsd.out w' (u1 w' h)) (Nat.le_refl _) ?_; (focus (intro w; simp [go_sem]; done)); (simp only [Act.put, List.setIfInBounds_toArray, List.set_cons_zero, List.set_cons_succ]; go_big_quiet_on))
    repeat (first | go_big_quiet_skip | (go_big_quiet_want; go_big_quiet_op; first | go_big_quiet_on | (refine ⟨_, fun _ _ => rfl, ?_⟩; go_big_quiet_on)) | (go_big_quiet_want; apply qb_load1 _ _ rfl _ _ rfl; rotate_left 2; (focus (intro _; simp [go_sem]; done)); rotate_right 2; assumption; assumption; assumption; (simp only [Act.put, List.setIfInBounds_toArray, List.set_cons_zero, List.set_cons_succ]; go_big_quiet_on)) | (go_big_quiet_want; apply qb_loadA _ _ rfl _ _ rfl (sz := 16); rotate_left 2; (focus (intro _; simp [go_sem]; done)); (focus (intro _; simp [go_sem]; done)); rotate_right 2; assumption; assumption; assumption; assumption; (simp only [Act.put, List.setIfInBounds_toArray, List.set_cons_zero, List.set_cons_succ]; go_big_quiet_on)))
    refine wpQuiet_nil ?_
    intro w' hw'
    have HB := hbw6.trans (hw'.mono hbw6.size)
    go_wp2_with fail
    go_ret
    exact ⟨rfl, HB⟩
  · have hS1 := SlB.of_row hK1 hk (by decide)
    refine (new_ok32 _ _ _ hS1 hk).mono ?_
    rintro e w2 ⟨p, rfl, hK, hb2⟩
    obtain ⟨kb, rfl⟩ : ∃ kb, p = .pointer (some ⟨kb, 0, none⟩) := (let ⟨kb, _, _, _, h, _⟩ := hK; ⟨kb, h⟩)
    have hS2 := hS1.below (hb2.mono (Nat.le_refl _))
    have hB2 := hB1.below hb2 (by omega)
    have hbw := hb1.trans (hb2.mono (by omega))
    have hs2 := hb2.size
    have lb : w.heap.size + 1 < w2.heap.size := by omega
    have la : w.heap.size < w2.heap.size := by omega
    have href := fun w0 => ref_seal 8 (k) b w0 (by omega) hk hb
    rw [show 8 + 6 = 14 from rfl] at href
    clear hb1 hb2 hB1 hK1 hs1 hs2 hS1
    obtain ⟨kk, hkk⟩ : ∃ kk, kk = k := ⟨_, rfl⟩
    rw [← hkk] at hK hS2 href
    clear hkk
    obtain ⟨W, hW⟩ : ∃ W, W = expand kk := ⟨_, rfl⟩
    rw [← hW] at hK href
    clear hW
    have hKB : ∀ w0, Below w2.heap.size w2 w0 → KeyAt 67 23 w0 (.pointer (some ⟨kb, 0, none⟩)) W 15 := fun w0 h => hK.below h
    have hseal : ∀ w0, Below w2.heap.size w2 w0 → _ := fun w0 h => seal_any _ W 14 b w0 (hKB w0 h) hb
    have hopc : ∀ w0, Below w2.heap.size w2 w0 → _ := fun w0 h => open_any _ W 14 (sealN W 14 b 14) w0 (hKB w0 h) (sealN_len _ _ _ _)
    rw [openD_sealN W 14 b hb 14] at hopc
    have hopb : ∀ w0, Below w2.heap.size w2 w0 → _ := fun w0 h => open_any _ W 14 b w0 (hKB w0 h) hb
    have hsd : ∀ w0, Below w2.heap.size w2 w0 → _ := fun w0 h => seal_any _ W 14 (openD W 14 14 b) w0 (hKB w0 h) (openD_len _ _ _ _)
    rw [sealN_openD W 14 14 b hb] at hsd
    have hcl := sealN_len W 14 b 14
    have hdl := openD_len W 14 14 b
    generalize sealN W 14 b 14 = c at *
    generalize openD W 14 14 b = d at *
    have hsv : ∀ w0, Below w2.heap.size w2 w0 → SlB w0 (.slice (some ⟨w.heap.size, 0, none⟩) 32 32) kk := fun w0 h => hS2.below h
    clear hK hKB hS2
    have Href := Lib.hid href
    have Hseal := Lib.hid hseal
    have Hopc := Lib.hid hopc
    have Hopb := Lib.hid hopb
    have Hsd := Lib.hid hsd
    have Hsv := Lib.hid hsv
    clear href hseal hopc hopb hsd hsv
    go_wp2_with (go_at_call 15; refine (blocks_any _).mono ?_; rintro e w3 ⟨rfl, hb3⟩; have hB3 := hB2.below hb3 lb; have lb3 := hB3.lt)
    refine (Hseal.out _ hb3).mono ?_
    rintro e w4 ⟨rfl, hb4⟩
    have hb5 := hb3.trans (hb4.mono hb3.size)
    clear hb3 hb4 hB3 lb3
    go_upto_region 8 with (fail)
    obtain ⟨w6, hw6⟩ : ∃ w6, w6 = ((w4.alloc (.cells #[.int .u8 0, .int .u8 0, .int .u8 0, .int .u8 0, .int .u8 0, .int .u8 0, .int .u8 0, .int .u8 0, .int .u8 0, .int .u8 0, .int .u8 0, .int .u8 0, .int .u8 0, .int .u8 0, .int .u8 0, .int .u8 0] 23)).setRow w4.heap.size (AB c)) := ⟨_, rfl⟩
    rw [← hw6]
    have hC : Row w6 w4.heap.size 23 (AB c) := by rw [hw6]; exact (Row.new _ _ _).setRow _
    have hb6 : Below w2.heap.size w2 w6 := by rw [hw6]; exact bSetRow (hb5.alloc hb5.size _) hb5.size _
    have hB6 := hB2.below hb6 lb
    have lc := hC.lt
    have ld : w.heap.size + 1 < w6.heap.size := Nat.lt_of_lt_of_le lb hb6.size
    clear hw6 hb5 hB2
    have zb : 0 + 16 ≤ (AB b).size := by rw [AB_size, hb]; omega
    have zc : 0 + 16 ≤ (AB c).size := by rw [AB_size, hcl]; omega
    have sb : sub (AB b) 0 16 = AB b := sub_all _ _ (by rw [AB_size, hb])
    have sc : sub (AB c) 0 16 = AB c := sub_all _ _ (by rw [AB_size, hcl])
    have hbw6 := hbw.trans (hb6.mono hbw.size)
    have u1 : ∀ w', Below w6.heap.size w6 w' → Below w2.heap.size w2 w' := fun w' h => hb6.trans (h.mono hb6.size)
    refine wp_region_qtail (Below w6.heap.size w6) 22 (by kernel_rfl) (by kernel_rfl) (Below.refl _ _).drew ?_
    simp only [List.take_succ_cons, List.take_zero, List.drop_succ_cons, List.drop_zero]
    repeat (first | go_big_quiet_skip | (go_big_quiet_want; go_big_quiet_op; first | go_big_quiet_on | (refine ⟨_, fun _ _ => rfl, ?_⟩; go_big_quiet_on)) | (go_big_quiet_want; apply qb_load1 _ _ rfl _ _ rfl; rotate_left 2; (focus (intro _; simp [go_sem]; done)); rotate_right 2; assumption; assumption; assumption; (simp only [Act.put, List.setIfInBounds_toArray, List.set_cons_zero, List.set_cons_succ]; go_big_quiet_on)) | (go_big_quiet_want; apply qb_loadA _ _ rfl _ _ rfl (sz := 16); rotate_left 2; (focus (intro _; simp [go_sem]; done)); (focus (intro _; simp [go_sem]; done)); rotate_right 2; assumption; assumption; assumption; assumption; (simp only [Act.put, List.setIfInBounds_toArray, List.set_cons_zero, List.set_cons_succ]; go_big_quiet_on)))
    go_big_quiet_want
    refine qb_conv 24 9 _ rfl 5 Try.underlying24 Try.underlying5 Try.underlying9 _ rfl kk (fun w' h => Hsv.out w' (u1 w' h)) ?_
    (simp only [Act.put, List.setIfInBounds_toArray, List.set_cons_zero, List.set_cons_succ]; go_big_quiet_on)
    repeat (first | go_big_quiet_skip | (go_big_quiet_want; go_big_quiet_op; first | go_big_quiet_on | (refine ⟨_, fun _ _ => rfl, ?_⟩; go_big_quiet_on)) | (go_big_quiet_want; apply qb_load1 _ _ rfl _ _ rfl; rotate_left 2; (focus (intro _; simp [go_sem]; done)); rotate_right 2; assumption; assumption; assumption; (simp only [Act.put, List.setIfInBounds_toArray, List.set_cons_zero, List.set_cons_succ]; go_big_quiet_on)) | (go_big_quiet_want; apply qb_loadA _ _ rfl _ _ rfl (sz := 16); rotate_left 2; (focus (intro _; simp [go_sem]; done)); (focus (intro _; simp [go_sem]; done)); rotate_right 2; assumption; assumption; assumption; assumption; (simp only [Act.put, List.setIfInBounds_toArray, List.set_cons_zero, List.set_cons_succ]; go_big_quiet_on)))
    (go_big_quiet_want; refine qb_call _ _ ?_ _ (fun w' _ => Href.out w') (Nat.le_refl _) ?_; (focus (intro w; simp [go_sem]; done)); (simp only [Act.put, List.setIfInBounds_toArray, List.set_cons_zero, List.set_cons_succ]; go_big_quiet_on))
    repeat (first | go_big_quiet_skip | (go_big_quiet_want; go_big_quiet_op; first | go_big_quiet_on | (refine ⟨_, fun _ _ => rfl, ?_⟩; go_big_quiet_on)) | (go_big_quiet_want; apply qb_load1 _ _ rfl _ _ rfl; rotate_left 2; (focus (intro _; simp [go_sem]; done)); rotate_right 2; assumption; assumption; assumption; (simp only [Act.put, List.setIfInBounds_toArray, List.set_cons_zero, List.set_cons_succ]; go_big_quiet_on)) | (go_big_quiet_want; apply qb_loadA _ _ rfl _ _ rfl (sz := 16); rotate_left 2; (focus (intro _; simp [go_sem]; done)); (focus (intro _; simp [go_sem]; done)); rotate_right 2; assumption; assumption; assumption; assumption; (simp only [Act.put, List.setIfInBounds_toArray, List.set_cons_zero, List.set_cons_succ]; go_big_quiet_on)))
    (go_big_quiet_want; refine qb_call _ _ ?_ _ (fun w' h => Hopc.out w' (u1 w' h)) (Nat.le_refl _) ?_; (focus (intro w; simp [go_sem]; done)); (simp only [Act.put, List.setIfInBounds_toArray, List.set_cons_zero, List.set_cons_succ]; go_big_quiet_on))
    repeat (first | go_big_quiet_skip | (go_big_quiet_want; go_big_quiet_op; first | go_big_quiet_on | (refine ⟨_, fun _ _ => rfl, ?_⟩; go_big_quiet_on)) | (go_big_quiet_want; apply qb_load1 _ _ rfl _ _ rfl; rotate_left 2; (focus (intro _; simp [go_sem]; done)); rotate_right 2; assumption; assumption; assumption; (simp only [Act.put, List.setIfInBounds_toArray, List.set_cons_zero, List.set_cons_succ]; go_big_quiet_on)) | (go_big_quiet_want; apply qb_loadA _ _ rfl _ _ rfl (sz := 16); rotate_left 2; (focus (intro _; simp [go_sem]; done)); (focus (intro _; simp [go_sem]; done)); rotate_right 2; assumption; assumption; assumption; assumption; (simp only [Act.put, List.setIfInBounds_toArray, List.set_cons_zero, List.set_cons_succ]; go_big_quiet_on)))
    (go_big_quiet_want; refine qb_call _ _ ?_ _ (fun w' h => Hopb.out w' (u1 w' h)) (Nat.le_refl _) ?_; (focus (intro w; simp [go_sem]; done)); (simp only [Act.put, List.setIfInBounds_toArray, List.set_cons_zero, List.set_cons_succ]; go_big_quiet_on))
    repeat (first | go_big_quiet_skip | (go_big_quiet_want; go_big_quiet_op; first | go_big_quiet_on | (refine ⟨_, fun _ _ => rfl, ?_⟩; go_big_quiet_on)) | (go_big_quiet_want; apply qb_load1 _ _ rfl _ _ rfl; rotate_left 2; (focus (intro _; simp [go_sem]; done)); rotate_right 2; assumption; assumption; assumption; (simp only [Act.put, List.setIfInBounds_toArray, List.set_cons_zero, List.set_cons_succ]; go_big_quiet_on)) | (go_big_quiet_want; apply qb_loadA _ _ rfl _ _ rfl (sz := 16); rotate_left 2; (focus (intro _; simp [go_sem]; done)); (focus (intro _; simp [go_sem]; done)); rotate_right 2; assumption; assumption; assumption; assumption; (simp only [Act.put, List.setIfInBounds_toArray, List.set_cons_zero, List.set_cons_succ]; go_big_quiet_on)))
    (go_big_quiet_want; refine qb_call _ _ ?_ _ (fun w' h => Hsd.out w' (u1 w' h)) (Nat.le_refl _) ?_; (focus (intro w; simp [go_sem]; done)); (simp only [Act.put, List.setIfInBounds_toArray, List.set_cons_zero, List.set_cons_succ]; go_big_quiet_on))
    repeat (first | go_big_quiet_skip | (go_big_quiet_want; go_big_quiet_op; first | go_big_quiet_on | (refine ⟨_, fun _ _ => rfl, ?_⟩; go_big_quiet_on)) | (go_big_quiet_want; apply qb_load1 _ _ rfl _ _ rfl; rotate_left 2; (focus (intro _; simp [go_sem]; done)); rotate_right 2; assumption; assumption; assumption; (simp only [Act.put, List.setIfInBounds_toArray, List.set_cons_zero, List.set_cons_succ]; go_big_quiet_on)) | (go_big_quiet_want; apply qb_loadA _ _ rfl _ _ rfl (sz := 16); rotate_left 2; (focus (intro _; simp [go_sem]; done)); (focus (intro _; simp [go_sem]; done)); rotate_right 2; assumption; assumption; assumption; assumption; (simp only [Act.put, List.setIfInBounds_toArray, List.set_cons_zero, List.set_cons_succ]; go_big_quiet_on)))
    refine wpQuiet_nil ?_
    intro w' hw'
    have HB := hbw6.trans (hw'.mono hbw6.size)
    go_wp2_with fail
    go_ret
    exact ⟨rfl, HB⟩
end Go.Proofs.Ytjopgogaipkdbaa
