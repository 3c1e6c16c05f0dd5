/- Part of the proof: RefOpen, Line. No conditions of its own. -/
import Derived.ArgAppend
import Derived.Below
import Derived.BigQuiet
import Derived.BigRegion
import Derived.ChangeOld
import Derived.Deep.CutBlock
import Derived.Deep.DeepCutAuto
import Derived.Deep.Draws
import Derived.Deep.LoopGhost
import Derived.Deep.Quiet
import Derived.Deep.QuietTactic
import Derived.Deep.RegionHeld3
import Derived.Deep.RegionLaw
import Derived.Laws.AppendOwnNone
import Derived.Laws.Bits64
import Derived.Laws.BitsAllLaws
import Derived.Laws.BytesArg
import Derived.Laws.Concat
import Derived.Laws.CopyOwn
import Derived.Laws.MakeOwn
import Derived.Lib.AppendStr
import Derived.Lib.AppendZerosOnto
import Derived.Lib.BufferMore
import Derived.Lib.ConvBytes
import Derived.Lib.Hide
import Derived.Lib.SlBytesConst
import Derived.LoopIn
import Derived.LoopNIn
import Derived.Maps.AppendAt
import Derived.OpenShut
import Derived.OrdersIn
import Derived.OwnWalkIn
import Derived.ProofKit
import Derived.RangeFuncBound
import Derived.RangeFuncBox
import Derived.RangeFuncCalls
import Derived.RangeFuncLeaves
import Derived.RangeFuncNested
import Derived.Shelf.Abstract
import Derived.ShutString
import Derived.StillTail
import Derived.TacticsIn
import Derived.TacticsInMore
import Derived.Test.YtcfbiafedfkbhaaDoorChecked
import Derived.Test.YtcfbiafedfkbhaaDoorProg
import Derived.WalkKit
import Derived.WalkSpells
import Derived.Test.YtcfbiafedfkbhaaDoorO35
import Derived.Test.YtcfbiafedfkbhaaDoorO41
import Derived.Deep.AppendSrc
import Derived.Deep.MidRow
import Derived.Deep.Upon
import Derived.Test.YtcfbiafedfkbhaaDoorO24
import Derived.Test.YtcfbiafedfkbhaaDoorO28
import Derived.Test.YtcfbiafedfkbhaaDoorO32
import Derived.Test.YtcfbiafedfkbhaaDoorO37
namespace Go.Proofs.YtcfbiafedfkbhaaDoor
open Go.RowKit
set_option linter.unusedVariables false
set_option linter.unusedSimpArgs false

def ROpenSt (w : World) (g : Nat) (sec : List UInt8) (n : Nat) (l : List UInt8) (e : Ending) (w' : World) : Prop :=
  e = .returned (.tuple #[.int .i64 (opnK sec n l : Int), S (opnB sec n l), .int .i64 (opnE sec n l : Int)]) ∧ Row w' g 39 (rhC sec (opnN sec n l)) ∧ w.grownBy w' (some g)
theorem ROpenSt.no {w w' : World} {g n k m : Nat} {sec l : List UInt8} (hk : opnE sec n l = k) (h0 : k ≠ 0) (hn : opnN sec n l = m) (hh : Row w' g 39 (rhC sec m)) (hg : w.grownBy w' (some g)) : ROpenSt w g sec n l (.returned (.tuple #[.int .i64 0, S [], .int .i64 (k : Int)])) w' := by
  have h1 : opnE sec n l ≠ 0 := by rw [hk]; exact h0
  refine ⟨?_, by rw [hn]; exact hh, hg⟩
  rw [hk, opnK, if_neg h1, opnB, if_neg h1]
  rfl
theorem trimS_take (l : List UInt8) : ∀ k, k ≤ l.length → (∀ j, k ≤ j → j < l.length → gb l j = 0) → trimS l = trimS (l.take k) := by
  intro k hk h
  have e : l = l.take k ++ List.replicate (l.length - k) 0 := by
    apply gb_ext (by simp; omega)
    intro i hi
    rw [show (List.take k l ++ List.replicate (l.length - k) (0 : UInt8)).length = l.length by simp; omega] at hi
    by_cases hik : i < k
    · unfold gb
      rw [List.getD_eq_getElem?_getD, List.getD_eq_getElem?_getD, List.getElem?_append_left (by rw [List.length_take]; omega), List.getElem?_take, if_pos hik]
    · rw [h i (by omega) hi]
      unfold gb
      rw [List.getD_eq_getElem?_getD, List.getElem?_append_right (by rw [List.length_take]; omega), List.getElem?_replicate]
      split <;> rfl
  conv => lhs; rw [e]
  exact trimS_zeros _ _
theorem trimS_full (l : List UInt8) (k : Nat) (hk : k ≤ l.length) (h0 : k = 0 ∨ gb l (k - 1) ≠ 0) (h : ∀ j, k ≤ j → j < l.length → gb l j = 0) : trimS l = l.take k := by
  rw [trimS_take l k hk h]
  rcases h0 with rfl | h0
  · rfl
  · rcases Nat.eq_zero_or_pos k with rfl | hp
    · rfl
    · obtain ⟨q, rfl⟩ : ∃ q, k = q + 1 := ⟨k - 1, by omega⟩
      have h0' : gb l q ≠ 0 := h0
      rw [take_snoc l q (by omega), trimS_snoc, if_neg h0']
set_option maxRecDepth 100000 in
set_option maxHeartbeats 8000000 in
theorem ropen_any (w : World) (g n : Nat) (sec l : List UInt8) (hr : Row w g 39 (rhC sec n)) (hs : sec.length = 32) (h21 : 21 ≤ l.length) (hl : l.length ≤ 1000) (hn : n < 1000) :
    Calls Tryd.prog 20 #[.pointer (some ⟨g, 0, none⟩), S l] w (ROpenSt w g sec n l) := by
  have HC := Lib.hid (rcut_any w l (by omega))
  have HR := Lib.hid hr
  have HLT := Lib.hid hr.lt
  have HS := Lib.hid hs
  have HL := Lib.hid (⟨h21, hl, hn⟩ : _ ∧ _ ∧ _)
  have m1 : (l.length : Int) ≤ 1000 := by omega
  have m2 : (0 : Int) < (l.length : Int) := by omega
  have m3 : (5 : Int) ≤ (l.length : Int) := by omega
  have m4 : 0 < l.length := by omega
  have n3 : ¬ (1000 : Int) ≤ (n : Int) := by omega
  have n4 : (n : Int) ≤ 1000 := by omega
  clear hr hs h21 hl hn
  go_enter Tryd.func20, Tryd.ntmps20
  go_wp2_with fail
  refine HC.out.mono ?_
  rintro e w1 ⟨rfl, hB⟩
  have HB := Lib.hid hB
  have HR1 := Lib.hid (HR.out.below hB HLT.out)
  clear hB
  by_cases h0 : cutE l = 0
  · rw [h0]
    obtain ⟨Z, hZ⟩ : ∃ Z, Z = cutZ l := ⟨_, rfl⟩
    rw [← hZ]
    by_cases hz : Z = []
    · subst hz
      have hA : aloE l = 0 := by unfold aloE; rw [if_neg (fun h => h.2 hZ.symm)]; exact h0
      obtain ⟨x, hx⟩ : ∃ x, x = gb l 0 := ⟨_, rfl⟩
      by_cases hk : x = 23
      · subst hk
        have hgx : gb l 0 = 23 := hx.symm
        obtain ⟨SB, hSB⟩ : ∃ L, L = l.drop 5 := ⟨_, rfl⟩
        have hSBl : SB.length = l.length - 5 := by rw [hSB, List.length_drop]
        obtain ⟨N, hN⟩ : ∃ N, N = SB.length - 16 := ⟨_, rfl⟩
        obtain ⟨HI, hHI⟩ : ∃ L, L = hidS l := ⟨_, rfl⟩
        obtain ⟨TG, hTG⟩ : ∃ L, L = tagS l := ⟨_, rfl⟩
        obtain ⟨HD, hHD⟩ : ∃ L, L = l.take 5 := ⟨_, rfl⟩
        obtain ⟨NC, hNC⟩ : ∃ x, x = nonS (ivS sec) n := ⟨_, rfl⟩
        have hNl : NC.length = 12 := by rw [hNC]; exact nonS_len _ _ (ivS_len sec)
        obtain ⟨TT, hTT⟩ : ∃ L, L = tagF (expand (keyS sec)) (lastOf (keyS sec)) (hOf (keyS sec)) NC HI HD := ⟨_, rfl⟩
        obtain ⟨inn, hinn⟩ : ∃ L, L = innO sec n l := ⟨_, rfl⟩
        have hil : inn.length ≤ 1000 := by rw [hinn, innO_len]; have := HL.out; omega
        have x4 : (⟨l.toArray⟩ : ByteArray).extract 5 l.length = ⟨SB.toArray⟩ := by rw [ext_S, hSB, List.take_of_length_le (by rw [List.length_drop]; omega)]
        have x3 : (⟨l.toArray⟩ : ByteArray).extract 0 5 = ⟨HD.toArray⟩ := by rw [ext0_S, hHD]
        have x1 : (⟨SB.toArray⟩ : ByteArray).extract 0 N = ⟨HI.toArray⟩ := by rw [ext0_S, hHI, hidS, ← hSB, hN]
        have x2 : (⟨SB.toArray⟩ : ByteArray).extract N SB.length = ⟨TG.toArray⟩ := by rw [ext_S, hTG, tagS, ← hSB, ← hN, List.take_of_length_le (by rw [List.length_drop]; omega)]
        have w1N : (SB.length : Int) - 16 = (N : Int) := by have := HL.out; omega
        have w2N : ¬ (SB.length : Int) < 16 := by have := HL.out; omega
        have w6N : decide ((SB.length : Int) < 16) = false := decide_eq_false w2N
        have w3N : (N : Int) ≤ (SB.length : Int) := by omega
        have w4N : (SB.length : Int) ≤ 1000 := by omega
        have w5N : (0 : Int) ≤ (N : Int) := by omega
        have HT := Lib.hid (fun W => show Calls Tryd.prog 41 #[S (keyS sec), .agg (AB NC), S HI, S HD] W (fun e w'' => e = .returned (S TT) ∧ Below W.heap.size W w'') by
          rw [hTT]
          exact refTag_any (keyS sec) NC HI HD W (.inl (keyS_len sec)) hNl (by rw [hHI, hidS, List.length_take, List.length_drop]; omega) (by rw [hHD, List.length_take]; omega))
        have HTU := Lib.hid (fun W => show Calls Tryd.prog 40 #[S (keyS sec), .agg (AB NC), S HI] W (fun e w'' => e = .returned (S inn) ∧ Below W.heap.size W w'') by
          rw [hinn, innO, ← hNC, ← hHI]
          exact refTurn_any (keyS sec) NC HI W (.inl (keyS_len sec)) hNl (by rw [hHI, hidS, List.length_take, List.length_drop]; omega))
        have HNO := Lib.hid (fun W (h : Row W g 39 (rhC sec n)) => show Calls Tryd.prog 38 #[.pointer (some ⟨g, 0, none⟩)] W (fun e w' => e = .returned (.agg (AB NC)) ∧ Below W.heap.size W w') by rw [hNC]; exact rnonce_any W g n _ sec h HS.out (by have := HL.out; omega))
        have HOK := Lib.hid (show (TT = TG → opnOK sec n l = true) ∧ (TT ≠ TG → opnOK sec n l = false) from by
          have e : opnOK sec n l = decide (TT = TG) := by
            unfold opnOK
            rw [← hNC, ← hHI, ← hHD, ← hTT, ← hTG, ← hSB]
            rw [decide_eq_true (show 16 ≤ SB.length by have := HL.out; omega), Bool.true_and]
          exact ⟨fun h => by rw [e]; exact decide_eq_true h, fun h => by rw [e]; exact decide_eq_false h⟩)
        have HEE := Lib.hid (show opnE sec n l = (if opnOK sec n l = false then 5 else endE (trimS inn)) ∧ opnN sec n l = (if opnOK sec n l = true then n + 1 else n) from by
          constructor
          · unfold opnE; rw [if_neg (by omega), if_neg (by rw [hgx]; decide), hinn]
          · unfold opnN
            by_cases h : opnOK sec n l = true
            · rw [if_pos ⟨hA, hgx, h⟩, if_pos h]
            · rw [if_neg (fun h' => h h'.2.2), if_neg h])
        have HIN := Lib.hid (⟨hinn, hil⟩ : _ ∧ _)
        have c0 : w1.cell? ⟨g, 0, none⟩ = some (S sec) := HR1.out.cell 0
        have c1 : w1.cell? ⟨g, 1, none⟩ = some (.int .i64 (n : Int)) := HR1.out.cell 1
        clear h0 hZ hA hx hSB hSBl hN hHI hTG hHD hNC hNl hTT hinn hil
        go_wp2_with fail
        refine (rlab_key w1 sec HS.out).mono ?_
        rintro e w2 ⟨rfl, hB2⟩
        have HB2 := Lib.hid (HB.out.trans (hB2.mono HB.out.size))
        have HR2 := Lib.hid (HR1.out.below hB2 (by have := HLT.out; have := HB.out.size; omega))
        clear hB2 c0 c1
        go_upto_region 10 with (fail)
        refine wp_region_qtail (Below w2.drew.heap.size w2.drew) 20 (by kernel_rfl) (by kernel_rfl) (Below.refl _ _) ?_
        simp only [List.take_succ_cons, List.take_zero, List.drop_succ_cons, List.drop_zero]
        iterate 6 (first | go_big_quiet_skip | (go_big_quiet_want; go_big_quiet_op; first | go_big_quiet_on | (refine ⟨_, fun _ _ => rfl, ?_⟩; go_big_quiet_on)) | (go_big_quiet_want; apply qb_load1 _ _ rfl _ _ rfl; rotate_left 2; (focus (intro _; simp [go_sem]; done)); rotate_right 2; assumption; assumption; assumption; (simp only [Act.put, lS]; go_big_quiet_on)) | (go_big_quiet_want; apply qb_loadA _ _ rfl _ _ rfl (sz := 16); rotate_left 2; (focus (intro _; simp [go_sem]; done)); (focus (intro _; simp [go_sem]; done)); rotate_right 2; assumption; assumption; assumption; assumption; (simp only [Act.put, lS]; go_big_quiet_on)))
        (go_big_quiet_want; refine qb_call _ _ ?_ _ (fun w' hb => HNO.out w' (HR2.out.drew.below hb (by have := HLT.out; have := HB2.out.size; show g < w2.heap.size; omega))) (Nat.le_refl _) ?_; (focus (intro w; simp [go_sem]; done)); (simp only [Act.put, lS]; go_big_quiet_on))
        iterate 7 (first | go_big_quiet_skip | (go_big_quiet_want; go_big_quiet_op; first | go_big_quiet_on | (refine ⟨_, fun _ _ => rfl, ?_⟩; go_big_quiet_on)) | (go_big_quiet_want; apply qb_load1 _ _ rfl _ _ rfl; rotate_left 2; (focus (intro _; simp [go_sem]; done)); rotate_right 2; assumption; assumption; assumption; (simp only [Act.put, lS]; go_big_quiet_on)) | (go_big_quiet_want; apply qb_loadA _ _ rfl _ _ rfl (sz := 16); rotate_left 2; (focus (intro _; simp [go_sem]; done)); (focus (intro _; simp [go_sem]; done)); rotate_right 2; assumption; assumption; assumption; assumption; (simp only [Act.put, lS]; go_big_quiet_on)))
        (go_big_quiet_want; refine qb_call _ _ ?_ _ (fun w' hb => HT.out w') (Nat.le_refl _) ?_; (focus (intro w; simp [go_sem]; done)); (simp only [Act.put, lS]; go_big_quiet_on))
        iterate 5 (first | go_big_quiet_skip | (go_big_quiet_want; go_big_quiet_op; first | go_big_quiet_on | (refine ⟨_, fun _ _ => rfl, ?_⟩; go_big_quiet_on)) | (go_big_quiet_want; apply qb_load1 _ _ rfl _ _ rfl; rotate_left 2; (focus (intro _; simp [go_sem]; done)); rotate_right 2; assumption; assumption; assumption; (simp only [Act.put, lS]; go_big_quiet_on)) | (go_big_quiet_want; apply qb_loadA _ _ rfl _ _ rfl (sz := 16); rotate_left 2; (focus (intro _; simp [go_sem]; done)); (focus (intro _; simp [go_sem]; done)); rotate_right 2; assumption; assumption; assumption; assumption; (simp only [Act.put, lS]; go_big_quiet_on)))
        refine wpQuiet_nil ?_
        intro w3 hB3
        have HB3 := Lib.hid (HB2.out.drew.trans (hB3.mono HB2.out.size))
        have HR3 := Lib.hid (show Row w3 g 39 (rhC sec n) from HR2.out.drew.below hB3 (by have := HLT.out; have := HB2.out.size; show g < w2.heap.size; omega))
        clear hB3
        by_cases hTT : TT = TG
        · have HE := Lib.hid (show opnE sec n l = endE (trimS inn) ∧ opnN sec n l = n + 1 from ⟨by rw [HEE.out.1, HOK.out.1 hTT]; rfl, by rw [HEE.out.2, HOK.out.1 hTT]; rfl⟩)
          subst hTT
          clear HEE HOK
          go_upto_region 12 with (fail)
          refine wp_region_qtail (Below w3.drew.heap.size w3.drew) 8 (by kernel_rfl) (by kernel_rfl) (Below.refl _ _) ?_
          simp only [List.take_succ_cons, List.take_zero, List.drop_succ_cons, List.drop_zero]
          iterate 2 (first | go_big_quiet_skip | (go_big_quiet_want; go_big_quiet_op; first | go_big_quiet_on | (refine ⟨_, fun _ _ => rfl, ?_⟩; go_big_quiet_on)) | (go_big_quiet_want; apply qb_load1 _ _ rfl _ _ rfl; rotate_left 2; (focus (intro _; simp [go_sem]; done)); rotate_right 2; assumption; assumption; assumption; (simp only [Act.put, lS]; go_big_quiet_on)) | (go_big_quiet_want; apply qb_loadA _ _ rfl _ _ rfl (sz := 16); rotate_left 2; (focus (intro _; simp [go_sem]; done)); (focus (intro _; simp [go_sem]; done)); rotate_right 2; assumption; assumption; assumption; assumption; (simp only [Act.put, lS]; go_big_quiet_on)))
          (go_big_quiet_want; refine qb_call _ _ ?_ _ (fun w' hb => HNO.out w' (HR3.out.drew.below hb (by have := HLT.out; have := HB3.out.size; show g < w3.heap.size; omega))) (Nat.le_refl _) ?_; (focus (intro w; simp [go_sem]; done)); (simp only [Act.put, lS]; go_big_quiet_on))
          iterate 5 (first | go_big_quiet_skip | (go_big_quiet_want; go_big_quiet_op; first | go_big_quiet_on | (refine ⟨_, fun _ _ => rfl, ?_⟩; go_big_quiet_on)) | (go_big_quiet_want; apply qb_load1 _ _ rfl _ _ rfl; rotate_left 2; (focus (intro _; simp [go_sem]; done)); rotate_right 2; assumption; assumption; assumption; (simp only [Act.put, lS]; go_big_quiet_on)) | (go_big_quiet_want; apply qb_loadA _ _ rfl _ _ rfl (sz := 16); rotate_left 2; (focus (intro _; simp [go_sem]; done)); (focus (intro _; simp [go_sem]; done)); rotate_right 2; assumption; assumption; assumption; assumption; (simp only [Act.put, lS]; go_big_quiet_on)))
          refine wpQuiet_nil ?_
          intro w4 hB4
          have HB4 := Lib.hid (HB3.out.drew.trans (hB4.mono HB3.out.size))
          have HR4 := Lib.hid (show Row w4 g 39 (rhC sec n) from HR3.out.drew.below hB4 (by have := HLT.out; have := HB3.out.size; show g < w3.heap.size; omega))
          clear hB4 x1 x2 x3 x4 w1N w2N w3N w4N w5N w6N
          go_wp2_with fail
          refine (HTU.out w4).mono ?_
          rintro e w5 ⟨rfl, hB5⟩
          have HB5 := Lib.hid (HB4.out.trans (hB5.mono HB4.out.size))
          have hr5 := (show Row w5 g 39 (rhC sec n) from HR4.out.below hB5 (by have := HLT.out; have := HB4.out.size; omega))
          have c5 : w5.cell? ⟨g, 1, none⟩ = some (.int .i64 (n : Int)) := hr5.cell 1
          have f5 : w5.frozen? ⟨g, 1, none⟩ = false := hr5.frozen 1
          have HR5 := Lib.hid hr5
          clear hB5 hr5
          go_upto_region 14 with (fail)
          obtain ⟨w6, hw6⟩ : ∃ W, W = w5.setCell ⟨g, 1, none⟩ (.int .i64 ((n : Int) + 1)) := ⟨_, rfl⟩
          rw [← hw6]
          have HF := Lib.hid (show Row w6 g 39 (rhC sec (n + 1)) ∧ w.grownBy w6 (some g) from ⟨by
            rw [hw6]
            have := HR5.out.set 1 (.int .i64 ((n : Int) + 1))
            exact this, by rw [hw6]; exact (below_grown HB5.out (some g)).trans (grownBy_setW w5 g 1 _)⟩)
          have m9 : (inn.length : Int) ≤ 1000 := by have := HIN.out.2; omega
          clear hw6 c5 f5
          go_wp2_with fail
          go_loopg [14] inn.length (fun gk t14 wx => t14 = .int .i64 (gk : Int) ∧ gk ≤ inn.length ∧ (∀ j, gk ≤ j → j < inn.length → gb inn j = 0) ∧ wx = w6)
          case atStart => exact ⟨rfl, Nat.le_refl _, fun j h1 h2 => by omega, rfl⟩
          case round =>
            obtain ⟨rfl, hk, hz, hw⟩ := hrel
            obtain rfl := hw.symm
            rcases Nat.eq_zero_or_pos gk with h0 | h0
            · subst h0
              have HE2 := Lib.hid (show opnE sec n l = 2 from by
                rw [HE.out.1, trimS_full inn 0 (Nat.zero_le _) (.inl rfl) hz]
                rfl)
              clear hk hz
              go_wp2_with fail
              go_ret3
              exact ROpenSt.no HE2.out (by decide) HE.out.2 HF.out.1 HF.out.2
            · obtain ⟨q, rfl⟩ : ∃ q, gk = q + 1 := ⟨gk - 1, by omega⟩
              obtain ⟨y, hy⟩ : ∃ y, y = gb inn q := ⟨_, rfl⟩
              have hgy : gb inn q = y := hy.symm
              have p1 : ((q + 1 : Nat) : Int) = (q : Int) + 1 := by omega
              have p2 : (q : Int) + 1 - 1 = (q : Int) := by omega
              have p3 : (0 : Int) < (q : Int) + 1 := by omega
              have p4 : (0 : Int) ≤ (q : Int) := by omega
              have p5 : (q : Int) < (inn.length : Int) := by omega
              have p6 : q < inn.length := by omega
              have p7 : (q : Int) ≤ 1000 := by omega
              have p8 : ¬ ((q : Int) + 1 = 0) := by omega
              have p9 : (y.toNat : Int) ≤ 255 := by have := y.toNat_lt; omega
              have pA : (0 : Int) ≤ (y.toNat : Int) := by omega
              have pB : ¬ (16384 : Int) < (q : Int) := by omega
              have HZ := Lib.hid (⟨hk, hz⟩ : _ ∧ _)
              have HY := Lib.hid hy
              clear hk hz hy h0
              by_cases hy0 : y = 0
              · subst hy0
                go_wp2_with fail
                go_roundg q
                case measure => omega
                case rel => exact ⟨rfl, by omega, fun j h1 h2 => by
                  rcases Nat.eq_or_lt_of_le h1 with h | h
                  · rw [← h]; exact HY.out.symm
                  · exact HZ.out.2 j (by omega) h2, rfl⟩
              · have htr : trimS inn = inn.take (q + 1) := trimS_full inn (q + 1) HZ.out.1 (.inr (by rw [Nat.add_sub_cancel, ← HY.out]; exact hy0)) HZ.out.2
                have htl : (trimS inn).length = q + 1 := by rw [htr, List.length_take]; omega
                have hek : endK (trimS inn) = y := by
                  unfold endK
                  rw [htl, htr, HY.out]
                  show gb (inn.take (q + 1)) q = gb inn q
                  unfold gb
                  rw [List.getD_eq_getElem?_getD, List.getD_eq_getElem?_getD, List.getElem?_take, if_pos (by omega)]
                have hEn : endE (trimS inn) = if kindB (y.toNat : Int) = false then 2 else 0 := by unfold endE; rw [if_neg (by omega), hek]
                have y1 : ¬ ((y.toNat : Int) = 0) := fun e => hy0 (by apply UInt8.toNat_inj.1; show y.toNat = 0; omega)
                have y2 : ((y.toNat : Int) == 0) = false := by rw [beq_eq_false_iff_ne]; exact y1
                have xq : (⟨inn.toArray⟩ : ByteArray).extract 0 q = ⟨(inn.take q).toArray⟩ := ext0_S inn q
                cases hkb : kindB (y.toNat : Int) with
                | false =>
                  have HKB := Lib.hid hkb
                  have HE2 := Lib.hid (show opnE sec n l = 2 by rw [HE.out.1, hEn, if_pos hkb])
                  clear htr htl hek hEn hkb hy0
                  go_wp2_with (go_at_call 37; refine (rkind_any _ _).mono ?_; rintro e w' ⟨rfl, rfl⟩; rw [HKB.out])
                  go_ret3
                  exact ROpenSt.no HE2.out (by decide) HE.out.2 HF.out.1 HF.out.2
                | true =>
                  have HKB := Lib.hid hkb
                  have HE2 := Lib.hid (show opnE sec n l = 0 by rw [HE.out.1, hEn, if_neg (by rw [hkb]; decide)])
                  have HQ := Lib.hid (show opnK sec n l = y.toNat ∧ opnB sec n l = inn.take q from ⟨by unfold opnK; rw [if_pos HE2.out, ← HIN.out.1, hek], by
                    unfold opnB
                    rw [if_pos HE2.out, ← HIN.out.1, htl, htr, List.take_take]
                    congr 1
                    omega⟩)
                  clear htr htl hek hEn hkb hy0
                  go_upto_region 21 with (go_at_call 37; refine (rkind_any _ _).mono ?_; rintro e w' ⟨rfl, rfl⟩; rw [HKB.out])
                  refine wp_region_qtail (fun w' => w' = _) 10 (by kernel_rfl) (by kernel_rfl) rfl ?_
                  simp only [List.take_succ_cons, List.take_zero, List.drop_succ_cons, List.drop_zero]
                  repeat (first | go_big_quiet_skip | (go_big_quiet_want; go_big_quiet_op; go_big_quiet_on))
                  refine wpQuiet_nil ?_
                  rintro _ rfl
                  go_wp2_with fail
                  refine bodyPost_ret (results_tmp3 rfl _ _ _) rfl ?_
                  refine ⟨?_, by rw [HE.out.2]; exact HF.out.1.drew, HF.out.2.trans (below_grown (Below.refl _ _).drew (some g))⟩
                  rw [HQ.out.1, HQ.out.2, HE2.out]
                  rfl
        · have HE := Lib.hid (show opnE sec n l = 5 ∧ opnN sec n l = n from ⟨by rw [HEE.out.1, HOK.out.2 hTT]; rfl, by rw [HEE.out.2, HOK.out.2 hTT]; rfl⟩)
          have e0 : (TT == TG) = false := beq_eq_false_iff_ne.2 hTT
          clear hTT HOK HEE
          go_wp2_with fail
          go_ret3
          exact ROpenSt.no HE.out.1 (by decide) HE.out.2 HR3.out (below_grown HB3.out (some g))
      · have HE := Lib.hid (show opnE sec n l = 2 ∧ opnN sec n l = n from ⟨by unfold opnE; rw [if_neg (by omega), if_pos (by rw [← hx]; exact hk)], by unfold opnN; rw [if_neg (fun h => hk (hx.trans h.2.1))]⟩)
        have hgx : gb l 0 = x := hx.symm
        have hk1 : ¬ ((x.toNat : Int) = 23) := fun e => hk (by apply UInt8.toNat_inj.1; show x.toNat = 23; omega)
        have hk2 : ((x.toNat : Int) != 23) = true := by rw [bne_iff_ne]; exact hk1
        clear h0 hZ hA hk hx
        go_wp2_with fail
        go_ret3
        exact ROpenSt.no HE.out.1 (by decide) HE.out.2 HR1.out (below_grown HB.out (some g))
    · have hA : aloE l = 2 := if_pos ⟨h0, fun h => hz (hZ.trans h)⟩
      have HE := Lib.hid (show opnE sec n l = 2 ∧ opnN sec n l = n from ⟨by unfold opnE; rw [if_pos (by rw [hA]; decide)]; exact hA, by unfold opnN; rw [if_neg (fun h => by rw [hA] at h; exact absurd h.1 (by decide))]⟩)
      have e0 : (Z == []) = false := beq_eq_false_iff_ne.2 hz
      clear h0 hZ hA
      go_wp2_with fail
      go_ret3
      exact ROpenSt.no HE.out.1 (by decide) HE.out.2 HR1.out (below_grown HB.out (some g))
  · have hA : aloE l = cutE l := by unfold aloE; rw [if_neg (fun h => h0 h.1)]
    obtain ⟨k, hk⟩ : ∃ k, k = cutE l := ⟨_, rfl⟩
    have HE := Lib.hid (show opnE sec n l = k ∧ opnN sec n l = n from ⟨by unfold opnE; rw [if_pos (by rw [hA]; exact h0), hA, hk], by unfold opnN; rw [if_neg (fun h => by rw [hA] at h; exact h0 h.1)]⟩)
    rw [← hk] at h0 ⊢
    have z1 : ¬ (k : Int) = 0 := by omega
    have H0 := Lib.hid h0
    clear h0 hk hA
    go_wp2_with fail
    go_ret3
    exact ROpenSt.no HE.out.1 H0.out HE.out.2 HR1.out (below_grown HB.out (some g))
end Go.Proofs.YtcfbiafedfkbhaaDoor

namespace Go.Proofs.YtcfbiafedfkbhaaDoor
open Go.RowKit
set_option linter.unusedVariables false
set_option linter.unusedSimpArgs false

def sealE (k pad : Int) (n : Nat) : Nat := if kindB k = false then 1 else if pad < 0 then 1 else if 16384 < (n : Int) + pad then 4 else 0
def sealX (sec : List UInt8) (n : Nat) (k pad : Int) (l : List UInt8) : List UInt8 := if sealE k pad l.length = 0 then recS sec n (innS k.toNat l pad.toNat) else []
def sealD (k pad : Int) (n : Nat) : Nat := if sealE k pad n = 0 then 1 else 0
structure Ln where
  kind : Int
  bytes : List UInt8
  pad : Int
def lnC (k : Int) (v : Value) (p : Int) : Array Value := #[.int .i64 k, v, .int .i64 p]
def padI (p : Int) : Int := if 200 < p ∧ p < 16000 then 200 else p
end Go.Proofs.YtcfbiafedfkbhaaDoor
