/- tollgatelaw04.BlockKeys: of all slices for a key and all blocks the law returns true and changes nothing that was there: a key has sixteen or 32 bytes; it is not kept. No conditions. -/
import Derived.Test.YtjopgogaipkdbaaLawKit
import Derived.Test.YtjopgogaipkdbaaDoor
import Derived.Test.YtjopgogaipkdbaaConv
import Derived.Test.YtjopgogaipkdbaaRefD
import Derived.Test.YtjopgogaipkdbaaApp
namespace Go.Proofs.Ytjopgogaipkdbaa
open Go.RowKit

theorem none_below (w : World) : Calls Try.prog 19 #[] w fun e w' => e = .returned (.pointer none) ∧ Below w.heap.size w w' :=
  (none_any w).mono fun _ _ ⟨h1, h2⟩ => ⟨h1, h2 ▸ Below.refl _ w⟩
theorem equal_nought (w : World) : (Op.equalIn 10000 23 (.agg (AB [0, 0, 0, 0, 0, 0, 0, 0, 0, 0, 0, 0, 0, 0, 0, 0])) (.agg #[.int .u8 0, .int .u8 0, .int .u8 0, .int .u8 0, .int .u8 0, .int .u8 0, .int .u8 0, .int .u8 0, .int .u8 0, .int .u8 0, .int .u8 0, .int .u8 0, .int .u8 0, .int .u8 0, .int .u8 0, .int .u8 0])).run Try.prog w = .ok true w := by
  have := equal_blk (List.replicate 16 0) (List.replicate 16 0) rfl rfl w
  rw [show (List.replicate 16 (0 : UInt8) == List.replicate 16 0) = true by rfl] at this
  exact this
attribute [local go_sem] equal_nought

set_option maxRecDepth 100000 in
set_option maxHeartbeats 4000000 in
theorem blockKeys_walk (v : Value) (l b : List UInt8) (w : World) (hv : SlB w v l) (hb : b.length = 16) :
    Calls Try.prog 4 #[v, .agg (AB b)] w fun e w' => e = .returned (.bool true) ∧ Below w.heap.size w w' := by
  obtain ⟨a, n, cap, rfl⟩ : ∃ a n cap, v = .slice a n cap := let ⟨a, cap, h, _⟩ := hv; ⟨a, _, cap, h⟩
  have hn := hv.len
  have hncap : n ≤ cap := by obtain ⟨_, _, h, h1, _⟩ := hv; simp at h; omega
  have hcm : cap ≤ 9223372036854775807 := by obtain ⟨_, _, h, _, h1, _⟩ := hv; simp at h; unfold maxLen at h1; omega
  have HV := Lib.hid hv
  have HN := Lib.hid hn
  clear hv hn
  have main : ∀ m, m ≤ n → m ≤ 70 → ((n : Int) ≤ 70 ∧ m = n ∨ ¬ (n : Int) ≤ 70 ∧ m = 70) → Calls Try.prog 4 #[.slice a n cap, .agg (AB b)] w fun e w' => e = .returned (.bool true) ∧ Below w.heap.size w w' := by
    intro m hmn hm70 hmc
    have hS0 : SlB ((w.alloc (.cells (AB b) 23)).alloc (.cells #[] 5)) (.slice a m cap) (l.take m) :=
      (HV.out.below (((Below.refl _ w).alloc (Nat.le_refl _) _).alloc (by simp) _)).take m hmn
    have hlm : (l.take m).length = m := by rw [List.length_take, HN.out]; omega
    obtain ⟨kk, hkk⟩ : ∃ kk, kk = l.take m := ⟨_, rfl⟩
    rw [← hkk] at hS0 hlm
    have HS0 := Lib.hid hS0
    have HLM := Lib.hid hlm
    have hmn' : (m : Int) ≤ n := by omega
    have hm70' : (m : Int) ≤ 70 := by omega
    clear hkk hS0 hlm
    go_enter Try.func4, Try.ntmps4
    rcases hmc with ⟨h70, rfl⟩ | ⟨h70, rfl⟩
    all_goals
      have h70' := h70
      go_wp2_with (at_builtin; refine wpl_appendS rfl (.tmp 9) (.tmp 14) 24 rfl Try.underlying24 info_u8 (w.heap.size + 1) _ [] rfl (Buf.empty _ _ _ (by simp) (Nat.le_refl _)) _ kk rfl HS0.out (by have := HLM.out; simp; omega) (by simp) ?_)
      intro v1 w1 hbuf hgrow
      have hS1 := hbuf.slb
      obtain ⟨a1, cap1, rfl⟩ : ∃ a1 cap1, v1 = .slice a1 kk.length cap1 := let ⟨a, cap, h, _⟩ := hS1; ⟨a, cap, h⟩
      have hB1 : Below w.heap.size w w1 := (((Below.refl _ w).alloc (Nat.le_refl _) _).alloc (by simp) _).grown hgrow (by simp <;> omega) (fun k e => by simp [Value.ownBlock] at e; omega)
      have hR1 : Row w1 w.heap.size 23 (AB b) := (row_congr (hgrow.block w.heap.size (by simp <;> omega) (by simp [Value.ownBlock]))).trans ((Row.new w _ _).alloc _)
      have hz1 : w.heap.size + 1 ≤ w1.heap.size := hR1.lt
      have HBUF := Lib.hid (show Buf 5 w1 (w.heap.size + 1) (.slice a1 kk.length cap1) kk from hbuf)
      have HS1 := Lib.hid hS1
      clear hbuf hgrow hS1 HS0 HV HN
      by_cases h16 : kk.length = 16
      ·
        --<A
        have HL := Lib.hid h16
        have hs0 := HS1.out
        rw [h16] at hs0 ⊢
        have HS0 := Lib.hid hs0
        clear hs0
        go_wp2_with fail
        refine (new_ok _ kk _ HS0.out HL.out).mono ?_
        rintro e w2 ⟨p, rfl, hK, hb2⟩
        obtain ⟨kb, rfl⟩ : ∃ kb, p = .pointer (some ⟨kb, 0, none⟩) := (let ⟨kb, _, _, _, h, _⟩ := hK; ⟨kb, h⟩)
        have hR2 := hR1.below hb2 hR1.lt
        have lb2 := hR2.lt
        have hB2 := hB1.trans (hb2.mono hB1.size)
        have HBUF2 := Lib.hid (ownsRow_low HBUF.out hb2)
        have HE := Lib.hid (show expand kk = expand kk from rfl)
        clear hR1 hb2 h16 HBUF HS1 HS0 hB1 hz1
        have zb : 0 + 16 ≤ (AB b).size := by rw [AB_size, hb]; omega
        have sb : sub (AB b) 0 16 = AB b := sub_all _ _ (by rw [AB_size, hb])
        go_wp2_with fail
        refine wp_region_qtail (Below w2.heap.size w2) 15 (by kernel_rfl) (by kernel_rfl) (Below.refl _ _).drew ?_
        simp only [List.take_succ_cons, List.take_zero, List.drop_succ_cons, List.drop_zero]
        repeat (first | go_big_quiet_skip | (go_big_quiet_want; go_big_quiet_op; first | go_big_quiet_on | (refine ⟨_, fun _ _ => rfl, ?_⟩; go_big_quiet_on)) | (go_big_quiet_want; apply qb_load1 _ _ rfl _ _ rfl; rotate_left 2; (focus (intro _; simp [go_sem]; done)); rotate_right 2; assumption; assumption; assumption; (simp only [Act.put, List.setIfInBounds_toArray, List.set_cons_zero, List.set_cons_succ]; go_big_quiet_on)) | (go_big_quiet_want; apply qb_loadA _ _ rfl _ _ rfl (sz := 16); rotate_left 2; (focus (intro _; simp [go_sem]; done)); (focus (intro _; simp [go_sem]; done)); rotate_right 2; assumption; assumption; assumption; assumption; (simp only [Act.put, List.setIfInBounds_toArray, List.set_cons_zero, List.set_cons_succ]; go_big_quiet_on)))
        (go_big_quiet_want; refine qb_call _ _ ?_ _ (fun w0 _ => blocks_any w0) (Nat.le_refl _) ?_; (focus (intro w; simp [go_sem]; done)); (simp only [Act.put, List.setIfInBounds_toArray, List.set_cons_zero, List.set_cons_succ]; go_big_quiet_on))
        repeat (first | go_big_quiet_skip | (go_big_quiet_want; go_big_quiet_op; first | go_big_quiet_on | (refine ⟨_, fun _ _ => rfl, ?_⟩; go_big_quiet_on)) | (go_big_quiet_want; apply qb_load1 _ _ rfl _ _ rfl; rotate_left 2; (focus (intro _; simp [go_sem]; done)); rotate_right 2; assumption; assumption; assumption; (simp only [Act.put, List.setIfInBounds_toArray, List.set_cons_zero, List.set_cons_succ]; go_big_quiet_on)) | (go_big_quiet_want; apply qb_loadA _ _ rfl _ _ rfl (sz := 16); rotate_left 2; (focus (intro _; simp [go_sem]; done)); (focus (intro _; simp [go_sem]; done)); rotate_right 2; assumption; assumption; assumption; assumption; (simp only [Act.put, List.setIfInBounds_toArray, List.set_cons_zero, List.set_cons_succ]; go_big_quiet_on)))
        (go_big_quiet_want; refine qb_call _ _ ?_ _ (fun w0 _ => none_below w0) (Nat.le_refl _) ?_; (focus (intro w; simp [go_sem]; done)); (simp only [Act.put, List.setIfInBounds_toArray, List.set_cons_zero, List.set_cons_succ]; go_big_quiet_on))
        repeat (first | go_big_quiet_skip | (go_big_quiet_want; go_big_quiet_op; first | go_big_quiet_on | (refine ⟨_, fun _ _ => rfl, ?_⟩; go_big_quiet_on)) | (go_big_quiet_want; apply qb_load1 _ _ rfl _ _ rfl; rotate_left 2; (focus (intro _; simp [go_sem]; done)); rotate_right 2; assumption; assumption; assumption; (simp only [Act.put, List.setIfInBounds_toArray, List.set_cons_zero, List.set_cons_succ]; go_big_quiet_on)) | (go_big_quiet_want; apply qb_loadA _ _ rfl _ _ rfl (sz := 16); rotate_left 2; (focus (intro _; simp [go_sem]; done)); (focus (intro _; simp [go_sem]; done)); rotate_right 2; assumption; assumption; assumption; assumption; (simp only [Act.put, List.setIfInBounds_toArray, List.set_cons_zero, List.set_cons_succ]; go_big_quiet_on)))
        (go_big_quiet_want; refine qb_call _ _ ?_ _ (fun w0 _ => seal_nil b hb w0) (Nat.le_refl _) ?_; (focus (intro w; simp [go_sem]; done)); (simp only [Act.put, List.setIfInBounds_toArray, List.set_cons_zero, List.set_cons_succ]; go_big_quiet_on))
        repeat (first | go_big_quiet_skip | (go_big_quiet_want; go_big_quiet_op; first | go_big_quiet_on | (refine ⟨_, fun _ _ => rfl, ?_⟩; go_big_quiet_on)) | (go_big_quiet_want; apply qb_load1 _ _ rfl _ _ rfl; rotate_left 2; (focus (intro _; simp [go_sem]; done)); rotate_right 2; assumption; assumption; assumption; (simp only [Act.put, List.setIfInBounds_toArray, List.set_cons_zero, List.set_cons_succ]; go_big_quiet_on)) | (go_big_quiet_want; apply qb_loadA _ _ rfl _ _ rfl (sz := 16); rotate_left 2; (focus (intro _; simp [go_sem]; done)); (focus (intro _; simp [go_sem]; done)); rotate_right 2; assumption; assumption; assumption; assumption; (simp only [Act.put, List.setIfInBounds_toArray, List.set_cons_zero, List.set_cons_succ]; go_big_quiet_on)))
        (go_big_quiet_want; refine qb_call _ _ ?_ _ (fun w0 _ => none_below w0) (Nat.le_refl _) ?_; (focus (intro w; simp [go_sem]; done)); (simp only [Act.put, List.setIfInBounds_toArray, List.set_cons_zero, List.set_cons_succ]; go_big_quiet_on))
        repeat (first | go_big_quiet_skip | (go_big_quiet_want; go_big_quiet_op; first | go_big_quiet_on | (refine ⟨_, fun _ _ => rfl, ?_⟩; go_big_quiet_on)) | (go_big_quiet_want; apply qb_load1 _ _ rfl _ _ rfl; rotate_left 2; (focus (intro _; simp [go_sem]; done)); rotate_right 2; assumption; assumption; assumption; (simp only [Act.put, List.setIfInBounds_toArray, List.set_cons_zero, List.set_cons_succ]; go_big_quiet_on)) | (go_big_quiet_want; apply qb_loadA _ _ rfl _ _ rfl (sz := 16); rotate_left 2; (focus (intro _; simp [go_sem]; done)); (focus (intro _; simp [go_sem]; done)); rotate_right 2; assumption; assumption; assumption; assumption; (simp only [Act.put, List.setIfInBounds_toArray, List.set_cons_zero, List.set_cons_succ]; go_big_quiet_on)))
        (go_big_quiet_want; refine qb_call _ _ ?_ _ (fun w0 _ => open_nil b hb w0) (Nat.le_refl _) ?_; (focus (intro w; simp [go_sem]; done)); (simp only [Act.put, List.setIfInBounds_toArray, List.set_cons_zero, List.set_cons_succ]; go_big_quiet_on))
        repeat (first | go_big_quiet_skip | (go_big_quiet_want; go_big_quiet_op; first | go_big_quiet_on | (refine ⟨_, fun _ _ => rfl, ?_⟩; go_big_quiet_on)) | (go_big_quiet_want; apply qb_load1 _ _ rfl _ _ rfl; rotate_left 2; (focus (intro _; simp [go_sem]; done)); rotate_right 2; assumption; assumption; assumption; (simp only [Act.put, List.setIfInBounds_toArray, List.set_cons_zero, List.set_cons_succ]; go_big_quiet_on)) | (go_big_quiet_want; apply qb_loadA _ _ rfl _ _ rfl (sz := 16); rotate_left 2; (focus (intro _; simp [go_sem]; done)); (focus (intro _; simp [go_sem]; done)); rotate_right 2; assumption; assumption; assumption; assumption; (simp only [Act.put, List.setIfInBounds_toArray, List.set_cons_zero, List.set_cons_succ]; go_big_quiet_on)))
        refine wpQuiet_nil ?_
        intro w3 hw3
        have hR3 := hR2.below hw3 hR2.lt
        have hK3 := hK.below hw3
        have hB3 := hB2.trans (hw3.mono hB2.size)
        have HBUF3 := Lib.hid (ownsRow_low HBUF2.out hw3)
        clear hR2 hK hw3 hB2 HBUF2 lb2
        obtain ⟨g, cap2, cur, hv2, hg, hrow, hlc, hcm2, hcs, hpre⟩ := Buf.open HBUF3.out (by rw [HL.out]; omega)
        simp only [Value.slice.injEq, true_and] at hv2
        obtain ⟨rfl, rfl⟩ := hv2
        have hconv := run_conv_slb (P := Try.prog) w3 24 5 9 Try.underlying24 Try.underlying5 Try.underlying9 _ kk (Buf.slb HBUF3.out)
        rw [HL.out] at hconv
        have HPRE := Lib.hid hpre
        have HCS := Lib.hid hcs
        clear HBUF3 hpre hcs
        go_wp2_with fail
        clear hconv
        go_loopg [8] 16 (fun n iv wr => ∃ (k : Nat) (m : List UInt8) (cu : Array Value), n + k = 16 ∧ iv = .int .i64 k ∧ m.length = 16 ∧ Row wr g 5 cu ∧ Pre cu m ∧ Row wr w.heap.size 23 (AB b) ∧ KeyAt 67 23 wr (.pointer (some ⟨kb, 0, none⟩)) (expand kk) 11 ∧ Below w.heap.size w wr)
        case atStart => exact ⟨0, kk, cur, by omega, rfl, HL.out, hrow, HPRE.out, hR3, hK3, hB3⟩
        case round =>
          clear hrow hR3 hK3 hB3
          obtain ⟨k, m, cu, hr, rfl, hml, hrow, hpm, hR, hK, hB⟩ := hrel
          have lg := hrow.lt
          have lb := hR.lt
          by_cases hk : k < 16
          · have b1 : (k : Int) < 16 := by omega
            obtain ⟨x, hx⟩ : ∃ x, x = gb m k := ⟨_, rfl⟩
            have hcx : cu[k]? = some (B x) := by rw [hx]; exact hpm.get k (by omega)
            have hxx : bits .xor .u8 (x.toNat : Int) 255 = ((xr x 255).toNat : Int) := bx8 x 255
            have HML := Lib.hid hml
            have HPM := Lib.hid hpm
            clear hx hml hpm
            have hgb : w.heap.size ≠ g := by omega
            go_wp2_with fail
            go_roundg (gk - 1)
            case measure => omega
            case rel => exact ⟨k + 1, m.set k (xr x 255), _, by omega, by go_num, by simp [HML.out], hrow.set k _, HPM.out.set k _ (by rw [HML.out]; omega), hR.setOther _ _ (by simpa using hgb), hK.setCell hrow (by decide) (by decide) k _, hB.setCell (by simp; omega) _⟩
          · obtain rfl : k = 16 := by omega
            have href := fun w0 => ref_seal 4 kk b w0 (by omega) HL.out hb
            rw [show 4 + 6 = 10 from rfl] at href
            obtain ⟨W, hW⟩ : ∃ W, W = expand kk := ⟨_, rfl⟩
            rw [← hW] at hK href
            have hseal : ∀ w0, Below wr.heap.size wr w0 → _ := fun w0 h => seal_any _ W 10 b w0 (hK.below h) hb
            have hcl := sealN_len W 10 b 10
            generalize sealN W 10 b 10 = c at *
            have Href := Lib.hid href
            have Hseal := Lib.hid hseal
            clear href hseal hK hpm hml hW
            go_wp2_with fail
            refine wp_region_qtail (Below wr.heap.size wr) 11 (by kernel_rfl) (by kernel_rfl) (Below.refl _ _).drew ?_
            simp only [List.take_succ_cons, List.take_zero, List.drop_succ_cons, List.drop_zero]
            repeat (first | go_big_quiet_skip | (go_big_quiet_want; go_big_quiet_op; first | go_big_quiet_on | (refine ⟨_, fun _ _ => rfl, ?_⟩; go_big_quiet_on)) | (go_big_quiet_want; apply qb_load1 _ _ rfl _ _ rfl; rotate_left 2; (focus (intro _; simp [go_sem]; done)); rotate_right 2; assumption; assumption; assumption; (simp only [Act.put, List.setIfInBounds_toArray, List.set_cons_zero, List.set_cons_succ]; go_big_quiet_on)) | (go_big_quiet_want; apply qb_loadA _ _ rfl _ _ rfl (sz := 16); rotate_left 2; (focus (intro _; simp [go_sem]; done)); (focus (intro _; simp [go_sem]; done)); rotate_right 2; assumption; assumption; assumption; assumption; (simp only [Act.put, List.setIfInBounds_toArray, List.set_cons_zero, List.set_cons_succ]; go_big_quiet_on)))
            (go_big_quiet_want; refine qb_call _ _ ?_ _ Hseal.out (Nat.le_refl _) ?_; (focus (intro w; simp [go_sem]; done)); (simp only [Act.put, List.setIfInBounds_toArray, List.set_cons_zero, List.set_cons_succ]; go_big_quiet_on))
            repeat (first | go_big_quiet_skip | (go_big_quiet_want; go_big_quiet_op; first | go_big_quiet_on | (refine ⟨_, fun _ _ => rfl, ?_⟩; go_big_quiet_on)) | (go_big_quiet_want; apply qb_load1 _ _ rfl _ _ rfl; rotate_left 2; (focus (intro _; simp [go_sem]; done)); rotate_right 2; assumption; assumption; assumption; (simp only [Act.put, List.setIfInBounds_toArray, List.set_cons_zero, List.set_cons_succ]; go_big_quiet_on)) | (go_big_quiet_want; apply qb_loadA _ _ rfl _ _ rfl (sz := 16); rotate_left 2; (focus (intro _; simp [go_sem]; done)); (focus (intro _; simp [go_sem]; done)); rotate_right 2; assumption; assumption; assumption; assumption; (simp only [Act.put, List.setIfInBounds_toArray, List.set_cons_zero, List.set_cons_succ]; go_big_quiet_on)))
            (go_big_quiet_want; refine qb_call _ _ ?_ _ (fun w0 _ => Href.out w0) (Nat.le_refl _) ?_; (focus (intro w; simp [go_sem]; done)); (simp only [Act.put, List.setIfInBounds_toArray, List.set_cons_zero, List.set_cons_succ]; go_big_quiet_on))
            repeat (first | go_big_quiet_skip | (go_big_quiet_want; go_big_quiet_op; first | go_big_quiet_on | (refine ⟨_, fun _ _ => rfl, ?_⟩; go_big_quiet_on)) | (go_big_quiet_want; apply qb_load1 _ _ rfl _ _ rfl; rotate_left 2; (focus (intro _; simp [go_sem]; done)); rotate_right 2; assumption; assumption; assumption; (simp only [Act.put, List.setIfInBounds_toArray, List.set_cons_zero, List.set_cons_succ]; go_big_quiet_on)) | (go_big_quiet_want; apply qb_loadA _ _ rfl _ _ rfl (sz := 16); rotate_left 2; (focus (intro _; simp [go_sem]; done)); (focus (intro _; simp [go_sem]; done)); rotate_right 2; assumption; assumption; assumption; assumption; (simp only [Act.put, List.setIfInBounds_toArray, List.set_cons_zero, List.set_cons_succ]; go_big_quiet_on)))
            refine wpQuiet_nil ?_
            intro w' hw'
            have HB := hB.trans (hw'.mono hB.size)
            go_wp2_with fail
            go_ret
            exact ⟨rfl, HB⟩
        --A>
      by_cases h32 : kk.length = 32
      ·
        --<B
        have HL := Lib.hid h32
        have hs0 := HS1.out
        rw [h32] at hs0 ⊢
        have HS0 := Lib.hid hs0
        clear hs0
        go_wp2_with fail
        refine (new_ok32 _ kk _ HS0.out HL.out).mono ?_
        rintro e w2 ⟨p, rfl, hK, hb2⟩
        obtain ⟨kb, rfl⟩ : ∃ kb, p = .pointer (some ⟨kb, 0, none⟩) := (let ⟨kb, _, _, _, h, _⟩ := hK; ⟨kb, h⟩)
        have hR2 := hR1.below hb2 hR1.lt
        have lb2 := hR2.lt
        have hB2 := hB1.trans (hb2.mono hB1.size)
        have HBUF2 := Lib.hid (ownsRow_low HBUF.out hb2)
        have HE := Lib.hid (show expand kk = expand kk from rfl)
        clear hR1 hb2 h32 HBUF HS1 HS0 hB1 hz1
        have zb : 0 + 16 ≤ (AB b).size := by rw [AB_size, hb]; omega
        have sb : sub (AB b) 0 16 = AB b := sub_all _ _ (by rw [AB_size, hb])
        go_wp2_with fail
        refine wp_region_qtail (Below w2.heap.size w2) 15 (by kernel_rfl) (by kernel_rfl) (Below.refl _ _).drew ?_
        simp only [List.take_succ_cons, List.take_zero, List.drop_succ_cons, List.drop_zero]
        repeat (first | go_big_quiet_skip | (go_big_quiet_want; go_big_quiet_op; first | go_big_quiet_on | (refine ⟨_, fun _ _ => rfl, ?_⟩; go_big_quiet_on)) | (go_big_quiet_want; apply qb_load1 _ _ rfl _ _ rfl; rotate_left 2; (focus (intro _; simp [go_sem]; done)); rotate_right 2; assumption; assumption; assumption; (simp only [Act.put, List.setIfInBounds_toArray, List.set_cons_zero, List.set_cons_succ]; go_big_quiet_on)) | (go_big_quiet_want; apply qb_loadA _ _ rfl _ _ rfl (sz := 16); rotate_left 2; (focus (intro _; simp [go_sem]; done)); (focus (intro _; simp [go_sem]; done)); rotate_right 2; assumption; assumption; assumption; assumption; (simp only [Act.put, List.setIfInBounds_toArray, List.set_cons_zero, List.set_cons_succ]; go_big_quiet_on)))
        (go_big_quiet_want; refine qb_call _ _ ?_ _ (fun w0 _ => blocks_any w0) (Nat.le_refl _) ?_; (focus (intro w; simp [go_sem]; done)); (simp only [Act.put, List.setIfInBounds_toArray, List.set_cons_zero, List.set_cons_succ]; go_big_quiet_on))
        repeat (first | go_big_quiet_skip | (go_big_quiet_want; go_big_quiet_op; first | go_big_quiet_on | (refine ⟨_, fun _ _ => rfl, ?_⟩; go_big_quiet_on)) | (go_big_quiet_want; apply qb_load1 _ _ rfl _ _ rfl; rotate_left 2; (focus (intro _; simp [go_sem]; done)); rotate_right 2; assumption; assumption; assumption; (simp only [Act.put, List.setIfInBounds_toArray, List.set_cons_zero, List.set_cons_succ]; go_big_quiet_on)) | (go_big_quiet_want; apply qb_loadA _ _ rfl _ _ rfl (sz := 16); rotate_left 2; (focus (intro _; simp [go_sem]; done)); (focus (intro _; simp [go_sem]; done)); rotate_right 2; assumption; assumption; assumption; assumption; (simp only [Act.put, List.setIfInBounds_toArray, List.set_cons_zero, List.set_cons_succ]; go_big_quiet_on)))
        (go_big_quiet_want; refine qb_call _ _ ?_ _ (fun w0 _ => none_below w0) (Nat.le_refl _) ?_; (focus (intro w; simp [go_sem]; done)); (simp only [Act.put, List.setIfInBounds_toArray, List.set_cons_zero, List.set_cons_succ]; go_big_quiet_on))
        repeat (first | go_big_quiet_skip | (go_big_quiet_want; go_big_quiet_op; first | go_big_quiet_on | (refine ⟨_, fun _ _ => rfl, ?_⟩; go_big_quiet_on)) | (go_big_quiet_want; apply qb_load1 _ _ rfl _ _ rfl; rotate_left 2; (focus (intro _; simp [go_sem]; done)); rotate_right 2; assumption; assumption; assumption; (simp only [Act.put, List.setIfInBounds_toArray, List.set_cons_zero, List.set_cons_succ]; go_big_quiet_on)) | (go_big_quiet_want; apply qb_loadA _ _ rfl _ _ rfl (sz := 16); rotate_left 2; (focus (intro _; simp [go_sem]; done)); (focus (intro _; simp [go_sem]; done)); rotate_right 2; assumption; assumption; assumption; assumption; (simp only [Act.put, List.setIfInBounds_toArray, List.set_cons_zero, List.set_cons_succ]; go_big_quiet_on)))
        (go_big_quiet_want; refine qb_call _ _ ?_ _ (fun w0 _ => seal_nil b hb w0) (Nat.le_refl _) ?_; (focus (intro w; simp [go_sem]; done)); (simp only [Act.put, List.setIfInBounds_toArray, List.set_cons_zero, List.set_cons_succ]; go_big_quiet_on))
        repeat (first | go_big_quiet_skip | (go_big_quiet_want; go_big_quiet_op; first | go_big_quiet_on | (refine ⟨_, fun _ _ => rfl, ?_⟩; go_big_quiet_on)) | (go_big_quiet_want; apply qb_load1 _ _ rfl _ _ rfl; rotate_left 2; (focus (intro _; simp [go_sem]; done)); rotate_right 2; assumption; assumption; assumption; (simp only [Act.put, List.setIfInBounds_toArray, List.set_cons_zero, List.set_cons_succ]; go_big_quiet_on)) | (go_big_quiet_want; apply qb_loadA _ _ rfl _ _ rfl (sz := 16); rotate_left 2; (focus (intro _; simp [go_sem]; done)); (focus (intro _; simp [go_sem]; done)); rotate_right 2; assumption; assumption; assumption; assumption; (simp only [Act.put, List.setIfInBounds_toArray, List.set_cons_zero, List.set_cons_succ]; go_big_quiet_on)))
        (go_big_quiet_want; refine qb_call _ _ ?_ _ (fun w0 _ => none_below w0) (Nat.le_refl _) ?_; (focus (intro w; simp [go_sem]; done)); (simp only [Act.put, List.setIfInBounds_toArray, List.set_cons_zero, List.set_cons_succ]; go_big_quiet_on))
        repeat (first | go_big_quiet_skip | (go_big_quiet_want; go_big_quiet_op; first | go_big_quiet_on | (refine ⟨_, fun _ _ => rfl, ?_⟩; go_big_quiet_on)) | (go_big_quiet_want; apply qb_load1 _ _ rfl _ _ rfl; rotate_left 2; (focus (intro _; simp [go_sem]; done)); rotate_right 2; assumption; assumption; assumption; (simp only [Act.put, List.setIfInBounds_toArray, List.set_cons_zero, List.set_cons_succ]; go_big_quiet_on)) | (go_big_quiet_want; apply qb_loadA _ _ rfl _ _ rfl (sz := 16); rotate_left 2; (focus (intro _; simp [go_sem]; done)); (focus (intro _; simp [go_sem]; done)); rotate_right 2; assumption; assumption; assumption; assumption; (simp only [Act.put, List.setIfInBounds_toArray, List.set_cons_zero, List.set_cons_succ]; go_big_quiet_on)))
        (go_big_quiet_want; refine qb_call _ _ ?_ _ (fun w0 _ => open_nil b hb w0) (Nat.le_refl _) ?_; (focus (intro w; simp [go_sem]; done)); (simp only [Act.put, List.setIfInBounds_toArray, List.set_cons_zero, List.set_cons_succ]; go_big_quiet_on))
        repeat (first | go_big_quiet_skip | (go_big_quiet_want; go_big_quiet_op; first | go_big_quiet_on | (refine ⟨_, fun _ _ => rfl, ?_⟩; go_big_quiet_on)) | (go_big_quiet_want; apply qb_load1 _ _ rfl _ _ rfl; rotate_left 2; (focus (intro _; simp [go_sem]; done)); rotate_right 2; assumption; assumption; assumption; (simp only [Act.put, List.setIfInBounds_toArray, List.set_cons_zero, List.set_cons_succ]; go_big_quiet_on)) | (go_big_quiet_want; apply qb_loadA _ _ rfl _ _ rfl (sz := 16); rotate_left 2; (focus (intro _; simp [go_sem]; done)); (focus (intro _; simp [go_sem]; done)); rotate_right 2; assumption; assumption; assumption; assumption; (simp only [Act.put, List.setIfInBounds_toArray, List.set_cons_zero, List.set_cons_succ]; go_big_quiet_on)))
        refine wpQuiet_nil ?_
        intro w3 hw3
        have hR3 := hR2.below hw3 hR2.lt
        have hK3 := hK.below hw3
        have hB3 := hB2.trans (hw3.mono hB2.size)
        have HBUF3 := Lib.hid (ownsRow_low HBUF2.out hw3)
        clear hR2 hK hw3 hB2 HBUF2 lb2
        obtain ⟨g, cap2, cur, hv2, hg, hrow, hlc, hcm2, hcs, hpre⟩ := Buf.open HBUF3.out (by rw [HL.out]; omega)
        simp only [Value.slice.injEq, true_and] at hv2
        obtain ⟨rfl, rfl⟩ := hv2
        have hconv := run_conv_slb (P := Try.prog) w3 24 5 9 Try.underlying24 Try.underlying5 Try.underlying9 _ kk (Buf.slb HBUF3.out)
        rw [HL.out] at hconv
        have HPRE := Lib.hid hpre
        have HCS := Lib.hid hcs
        clear HBUF3 hpre hcs
        go_wp2_with fail
        clear hconv
        go_loopg [8] 32 (fun n iv wr => ∃ (k : Nat) (m : List UInt8) (cu : Array Value), n + k = 32 ∧ iv = .int .i64 k ∧ m.length = 32 ∧ Row wr g 5 cu ∧ Pre cu m ∧ Row wr w.heap.size 23 (AB b) ∧ KeyAt 67 23 wr (.pointer (some ⟨kb, 0, none⟩)) (expand kk) 15 ∧ Below w.heap.size w wr)
        case atStart => exact ⟨0, kk, cur, by omega, rfl, HL.out, hrow, HPRE.out, hR3, hK3, hB3⟩
        case round =>
          clear hrow hR3 hK3 hB3
          obtain ⟨k, m, cu, hr, rfl, hml, hrow, hpm, hR, hK, hB⟩ := hrel
          have lg := hrow.lt
          have lb := hR.lt
          by_cases hk : k < 32
          · have b1 : (k : Int) < 32 := by omega
            obtain ⟨x, hx⟩ : ∃ x, x = gb m k := ⟨_, rfl⟩
            have hcx : cu[k]? = some (B x) := by rw [hx]; exact hpm.get k (by omega)
            have hxx : bits .xor .u8 (x.toNat : Int) 255 = ((xr x 255).toNat : Int) := bx8 x 255
            have HML := Lib.hid hml
            have HPM := Lib.hid hpm
            clear hx hml hpm
            have hgb : w.heap.size ≠ g := by omega
            go_wp2_with fail
            go_roundg (gk - 1)
            case measure => omega
            case rel => exact ⟨k + 1, m.set k (xr x 255), _, by omega, by go_num, by simp [HML.out], hrow.set k _, HPM.out.set k _ (by rw [HML.out]; omega), hR.setOther _ _ (by simpa using hgb), hK.setCell hrow (by decide) (by decide) k _, hB.setCell (by simp; omega) _⟩
          · obtain rfl : k = 32 := by omega
            have href := fun w0 => ref_seal 8 kk b w0 (by omega) HL.out hb
            rw [show 8 + 6 = 14 from rfl] at href
            obtain ⟨W, hW⟩ : ∃ W, W = expand kk := ⟨_, rfl⟩
            rw [← hW] at hK href
            have hseal : ∀ w0, Below wr.heap.size wr w0 → _ := fun w0 h => seal_any _ W 14 b w0 (hK.below h) hb
            have hcl := sealN_len W 14 b 14
            generalize sealN W 14 b 14 = c at *
            have Href := Lib.hid href
            have Hseal := Lib.hid hseal
            clear href hseal hK hpm hml hW
            go_wp2_with fail
            refine wp_region_qtail (Below wr.heap.size wr) 11 (by kernel_rfl) (by kernel_rfl) (Below.refl _ _).drew ?_
            simp only [List.take_succ_cons, List.take_zero, List.drop_succ_cons, List.drop_zero]
            repeat (first | go_big_quiet_skip | (go_big_quiet_want; go_big_quiet_op; first | go_big_quiet_on | (refine ⟨_, fun _ _ => rfl, ?_⟩; go_big_quiet_on)) | (go_big_quiet_want; apply qb_load1 _ _ rfl _ _ rfl; rotate_left 2; (focus (intro _; simp [go_sem]; done)); rotate_right 2; assumption; assumption; assumption; (simp only [Act.put, List.setIfInBounds_toArray, List.set_cons_zero, List.set_cons_succ]; go_big_quiet_on)) | (go_big_quiet_want; apply qb_loadA _ _ rfl _ _ rfl (sz := 16); rotate_left 2; (focus (intro _; simp [go_sem]; done)); (focus (intro _; simp [go_sem]; done)); rotate_right 2; assumption; assumption; assumption; assumption; (simp only [Act.put, List.setIfInBounds_toArray, List.set_cons_zero, List.set_cons_succ]; go_big_quiet_on)))
            (go_big_quiet_want; refine qb_call _ _ ?_ _ Hseal.out (Nat.le_refl _) ?_; (focus (intro w; simp [go_sem]; done)); (simp only [Act.put, List.setIfInBounds_toArray, List.set_cons_zero, List.set_cons_succ]; go_big_quiet_on))
            repeat (first | go_big_quiet_skip | (go_big_quiet_want; go_big_quiet_op; first | go_big_quiet_on | (refine ⟨_, fun _ _ => rfl, ?_⟩; go_big_quiet_on)) | (go_big_quiet_want; apply qb_load1 _ _ rfl _ _ rfl; rotate_left 2; (focus (intro _; simp [go_sem]; done)); rotate_right 2; assumption; assumption; assumption; (simp only [Act.put, List.setIfInBounds_toArray, List.set_cons_zero, List.set_cons_succ]; go_big_quiet_on)) | (go_big_quiet_want; apply qb_loadA _ _ rfl _ _ rfl (sz := 16); rotate_left 2; (focus (intro _; simp [go_sem]; done)); (focus (intro _; simp [go_sem]; done)); rotate_right 2; assumption; assumption; assumption; assumption; (simp only [Act.put, List.setIfInBounds_toArray, List.set_cons_zero, List.set_cons_succ]; go_big_quiet_on)))
            (go_big_quiet_want; refine qb_call _ _ ?_ _ (fun w0 _ => Href.out w0) (Nat.le_refl _) ?_; (focus (intro w; simp [go_sem]; done)); (simp only [Act.put, List.setIfInBounds_toArray, List.set_cons_zero, List.set_cons_succ]; go_big_quiet_on))
            repeat (first | go_big_quiet_skip | (go_big_quiet_want; go_big_quiet_op; first | go_big_quiet_on | (refine ⟨_, fun _ _ => rfl, ?_⟩; go_big_quiet_on)) | (go_big_quiet_want; apply qb_load1 _ _ rfl _ _ rfl; rotate_left 2; (focus (intro _; simp [go_sem]; done)); rotate_right 2; assumption; assumption; assumption; (simp only [Act.put, List.setIfInBounds_toArray, List.set_cons_zero, List.set_cons_succ]; go_big_quiet_on)) | (go_big_quiet_want; apply qb_loadA _ _ rfl _ _ rfl (sz := 16); rotate_left 2; (focus (intro _; simp [go_sem]; done)); (focus (intro _; simp [go_sem]; done)); rotate_right 2; assumption; assumption; assumption; assumption; (simp only [Act.put, List.setIfInBounds_toArray, List.set_cons_zero, List.set_cons_succ]; go_big_quiet_on)))
            refine wpQuiet_nil ?_
            intro w' hw'
            have HB := hB.trans (hw'.mono hB.size)
            go_wp2_with fail
            go_ret
            exact ⟨rfl, HB⟩
        --B>
      ·
        --<C
        have t1 : ((kk.length : Int) == 16) = false := by simp; omega
        have t2 : ((kk.length : Int) == 32) = false := by simp; omega
        have t3 : ((kk.length : Int) != 16) = true := by simp; omega
        have t4 : ((kk.length : Int) != 32) = true := by simp; omega
        have t5 : ¬ (kk.length : Int) = 16 := by omega
        have H16 := Lib.hid h16
        have H32 := Lib.hid h32
        clear h16 h32
        go_wp2_with (go_at_call 14; refine (new_bad _ kk _ HS1.out H16.out H32.out).mono ?_; rintro e w' ⟨rfl, rfl⟩)
        have zb : 0 + 16 ≤ (AB b).size := by rw [AB_size, hb]; omega
        have sb : sub (AB b) 0 16 = AB b := sub_all _ _ (by rw [AB_size, hb])
        refine wp_region_qtail (Below w1.heap.size w1) 15 (by kernel_rfl) (by kernel_rfl) (Below.refl _ _).drew ?_
        simp only [List.take_succ_cons, List.take_zero, List.drop_succ_cons, List.drop_zero]
        repeat (first | go_big_quiet_skip | (go_big_quiet_want; go_big_quiet_op; first | go_big_quiet_on | (refine ⟨_, fun _ _ => rfl, ?_⟩; go_big_quiet_on)) | (go_big_quiet_want; apply qb_load1 _ _ rfl _ _ rfl; rotate_left 2; (focus (intro _; simp [go_sem]; done)); rotate_right 2; assumption; assumption; assumption; (simp only [Act.put, List.setIfInBounds_toArray, List.set_cons_zero, List.set_cons_succ]; go_big_quiet_on)) | (go_big_quiet_want; apply qb_loadA _ _ rfl _ _ rfl (sz := 16); rotate_left 2; (focus (intro _; simp [go_sem]; done)); (focus (intro _; simp [go_sem]; done)); rotate_right 2; assumption; assumption; assumption; assumption; (simp only [Act.put, List.setIfInBounds_toArray, List.set_cons_zero, List.set_cons_succ]; go_big_quiet_on)))
        (go_big_quiet_want; refine qb_call _ _ ?_ _ (fun w0 _ => blocks_any w0) (Nat.le_refl _) ?_; (focus (intro w; simp [go_sem]; done)); (simp only [Act.put, List.setIfInBounds_toArray, List.set_cons_zero, List.set_cons_succ]; go_big_quiet_on))
        repeat (first | go_big_quiet_skip | (go_big_quiet_want; go_big_quiet_op; first | go_big_quiet_on | (refine ⟨_, fun _ _ => rfl, ?_⟩; go_big_quiet_on)) | (go_big_quiet_want; apply qb_load1 _ _ rfl _ _ rfl; rotate_left 2; (focus (intro _; simp [go_sem]; done)); rotate_right 2; assumption; assumption; assumption; (simp only [Act.put, List.setIfInBounds_toArray, List.set_cons_zero, List.set_cons_succ]; go_big_quiet_on)) | (go_big_quiet_want; apply qb_loadA _ _ rfl _ _ rfl (sz := 16); rotate_left 2; (focus (intro _; simp [go_sem]; done)); (focus (intro _; simp [go_sem]; done)); rotate_right 2; assumption; assumption; assumption; assumption; (simp only [Act.put, List.setIfInBounds_toArray, List.set_cons_zero, List.set_cons_succ]; go_big_quiet_on)))
        (go_big_quiet_want; refine qb_call _ _ ?_ _ (fun w0 _ => none_below w0) (Nat.le_refl _) ?_; (focus (intro w; simp [go_sem]; done)); (simp only [Act.put, List.setIfInBounds_toArray, List.set_cons_zero, List.set_cons_succ]; go_big_quiet_on))
        repeat (first | go_big_quiet_skip | (go_big_quiet_want; go_big_quiet_op; first | go_big_quiet_on | (refine ⟨_, fun _ _ => rfl, ?_⟩; go_big_quiet_on)) | (go_big_quiet_want; apply qb_load1 _ _ rfl _ _ rfl; rotate_left 2; (focus (intro _; simp [go_sem]; done)); rotate_right 2; assumption; assumption; assumption; (simp only [Act.put, List.setIfInBounds_toArray, List.set_cons_zero, List.set_cons_succ]; go_big_quiet_on)) | (go_big_quiet_want; apply qb_loadA _ _ rfl _ _ rfl (sz := 16); rotate_left 2; (focus (intro _; simp [go_sem]; done)); (focus (intro _; simp [go_sem]; done)); rotate_right 2; assumption; assumption; assumption; assumption; (simp only [Act.put, List.setIfInBounds_toArray, List.set_cons_zero, List.set_cons_succ]; go_big_quiet_on)))
        (go_big_quiet_want; refine qb_call _ _ ?_ _ (fun w0 _ => seal_nil b hb w0) (Nat.le_refl _) ?_; (focus (intro w; simp [go_sem]; done)); (simp only [Act.put, List.setIfInBounds_toArray, List.set_cons_zero, List.set_cons_succ]; go_big_quiet_on))
        repeat (first | go_big_quiet_skip | (go_big_quiet_want; go_big_quiet_op; first | go_big_quiet_on | (refine ⟨_, fun _ _ => rfl, ?_⟩; go_big_quiet_on)) | (go_big_quiet_want; apply qb_load1 _ _ rfl _ _ rfl; rotate_left 2; (focus (intro _; simp [go_sem]; done)); rotate_right 2; assumption; assumption; assumption; (simp only [Act.put, List.setIfInBounds_toArray, List.set_cons_zero, List.set_cons_succ]; go_big_quiet_on)) | (go_big_quiet_want; apply qb_loadA _ _ rfl _ _ rfl (sz := 16); rotate_left 2; (focus (intro _; simp [go_sem]; done)); (focus (intro _; simp [go_sem]; done)); rotate_right 2; assumption; assumption; assumption; assumption; (simp only [Act.put, List.setIfInBounds_toArray, List.set_cons_zero, List.set_cons_succ]; go_big_quiet_on)))
        (go_big_quiet_want; refine qb_call _ _ ?_ _ (fun w0 _ => none_below w0) (Nat.le_refl _) ?_; (focus (intro w; simp [go_sem]; done)); (simp only [Act.put, List.setIfInBounds_toArray, List.set_cons_zero, List.set_cons_succ]; go_big_quiet_on))
        repeat (first | go_big_quiet_skip | (go_big_quiet_want; go_big_quiet_op; first | go_big_quiet_on | (refine ⟨_, fun _ _ => rfl, ?_⟩; go_big_quiet_on)) | (go_big_quiet_want; apply qb_load1 _ _ rfl _ _ rfl; rotate_left 2; (focus (intro _; simp [go_sem]; done)); rotate_right 2; assumption; assumption; assumption; (simp only [Act.put, List.setIfInBounds_toArray, List.set_cons_zero, List.set_cons_succ]; go_big_quiet_on)) | (go_big_quiet_want; apply qb_loadA _ _ rfl _ _ rfl (sz := 16); rotate_left 2; (focus (intro _; simp [go_sem]; done)); (focus (intro _; simp [go_sem]; done)); rotate_right 2; assumption; assumption; assumption; assumption; (simp only [Act.put, List.setIfInBounds_toArray, List.set_cons_zero, List.set_cons_succ]; go_big_quiet_on)))
        (go_big_quiet_want; refine qb_call _ _ ?_ _ (fun w0 _ => open_nil b hb w0) (Nat.le_refl _) ?_; (focus (intro w; simp [go_sem]; done)); (simp only [Act.put, List.setIfInBounds_toArray, List.set_cons_zero, List.set_cons_succ]; go_big_quiet_on))
        repeat (first | go_big_quiet_skip | (go_big_quiet_want; go_big_quiet_op; first | go_big_quiet_on | (refine ⟨_, fun _ _ => rfl, ?_⟩; go_big_quiet_on)) | (go_big_quiet_want; apply qb_load1 _ _ rfl _ _ rfl; rotate_left 2; (focus (intro _; simp [go_sem]; done)); rotate_right 2; assumption; assumption; assumption; (simp only [Act.put, List.setIfInBounds_toArray, List.set_cons_zero, List.set_cons_succ]; go_big_quiet_on)) | (go_big_quiet_want; apply qb_loadA _ _ rfl _ _ rfl (sz := 16); rotate_left 2; (focus (intro _; simp [go_sem]; done)); (focus (intro _; simp [go_sem]; done)); rotate_right 2; assumption; assumption; assumption; assumption; (simp only [Act.put, List.setIfInBounds_toArray, List.set_cons_zero, List.set_cons_succ]; go_big_quiet_on)))
        refine wpQuiet_nil ?_
        intro w3 hw3
        have HB := hB1.trans (hw3.mono hB1.size)
        go_wp2_with fail
        go_ret
        exact ⟨rfl, HB⟩
        --C>
  by_cases h70 : n ≤ 70
  · exact main n (Nat.le_refl _) h70 (.inl ⟨by omega, rfl⟩)
  · exact main 70 (by omega) (Nat.le_refl _) (.inr ⟨by omega, rfl⟩)
end Go.Proofs.Ytjopgogaipkdbaa
