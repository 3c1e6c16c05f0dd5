/- The law GcmFolds: the walk. -/
import Derived.Test.YtjopgogaipkdbaaFew
import Derived.Test.YtjopgogaipkdbaaRefFoldSpec
import Derived.Test.YtjopgogaipkdbaaGSeal
import Derived.Test.YtjopgogaipkdbaaLawKit
namespace Go.Proofs.Ytjopgogaipkdbaa
open Go.RowKit

def strP (P : List (List UInt8)) (i : Nat) : List Value := (P.take i).map S
theorem info_str : (Try.prog.info? 9).map (fun i => (i.zero, i.size, i.bytes)) = some (some (.string ⟨#[]⟩), 1, 16) := by kernel_rfl
theorem strs_fin {w : World} {base : Nat} {v : Value} {parts : List (List UInt8)} (h : w.ownsRow base 9 1 v parts.length (parts.map S)) (hl : ∀ i, i < parts.length → (parts.getD i []).length ≤ 1000000) : StrsAt w v parts := by
  rcases h.2 with ⟨rfl, h0⟩ | ⟨g, cap, cur, rfl, _, hh, h1, h2, h3, h4⟩
  · exact ⟨none, 0, by rw [h0], by omega, Nat.zero_le _, fun j hj => by omega⟩
  · refine ⟨some ⟨g, 0, none⟩, cap, rfl, h1, h2, fun j hj => ?_⟩
    have hrow : Row w g 9 cur := .of_heap hh
    refine ⟨g, 0, rfl, ?_, hl j hj⟩
    rw [Nat.zero_add, hrow.cell, ← Array.getElem?_toList]
    have : (cur.toList.take (parts.length * 1))[j]? = (parts.map S)[j]? := by rw [h4]
    rw [List.getElem?_take, if_pos (by omega)] at this
    rw [this]
    simp [hj]
set_option maxRecDepth 100000 in
set_option maxHeartbeats 4000000 in
theorem gcmFolds_any (bl : List UInt8) (vp : Value) (parts : List (List UInt8)) (w : World) (hb : bl.length = 16) (hp : PtsIn w vp parts) :
    Calls Try.prog 7 #[.agg (AB bl), vp] w fun e w' => e = .returned (.bool true) ∧ Below w.heap.size w w' := by
  have hb16 := (AB_size bl).trans hb
  have hsb := sub_all (AB bl) 16 hb16
  have zb : 0 + 16 ≤ (AB bl).size := by rw [hb16]; decide
  have HP := Lib.hid hp
  have HBL := Lib.hid hb
  clear hp hb
  obtain ⟨v0, hv0⟩ : ∃ v, v = vp := ⟨_, rfl⟩
  rw [← hv0] at HP ⊢
  clear hv0
  go_enter Try.func7, Try.ntmps7
  go_wp2_with fail
  have hB0 : Below w.heap.size w (w.alloc (.cells (AB bl) 23)) := (Below.refl _ w).alloc (Nat.le_refl _) _
  refine (few_any v0 parts _ ?hpts).mono ?_
  case hpts =>
    obtain ⟨a, cap, h1, h2, h3, h4⟩ := HP.out
    refine ⟨a, cap, h1, h2, h3, fun i hi => ?_⟩
    obtain ⟨g, o, u, h5, h6, h7⟩ := h4 i hi
    exact ⟨g, o, u, h5, (hB0.cell (World.block_lt_of_cell? w _ h6)).trans h6, h7.below hB0⟩
  rintro e w1 ⟨v1, rfl, hpt, hb1⟩
  have i1 := (Row.new w 23 (AB bl)).below hb1 (by simp)
  have hA1 : Below w.heap.size w w1 := hB0.trans (hb1.mono (by simp))
  clear hB0 hb1 HP
  obtain ⟨P, hP⟩ : ∃ P, P = fewP parts 5 := ⟨_, rfl⟩
  rw [← hP] at hpt
  have hPl : P.length ≤ 5 := by rw [hP]; simp [fewP]; omega
  have hPe : ∀ i, i < P.length → (P.getD i []).length ≤ 1000000 := fun i hi => by
    rw [hP] at hi ⊢
    have h5 : i < 5 := by simp [fewP] at hi; omega
    have hp' : i < parts.length := by simp [fewP] at hi; omega
    simp [fewP, h5, hp']
    omega
  have HPE := Lib.hid hPe
  have HPT := Lib.hid hpt
  obtain ⟨pa, pcap, hv1, hpc, hpm, hpe⟩ := hpt
  subst hv1
  have HPC := Lib.hid hpe
  clear hP hPe hpe
  go_wp2_with fail
  go_loopg [6, 7] P.length (fun n v iv wr => ∃ (i : Nat), n + i = P.length ∧ iv = .int .i64 (i : Int) ∧ wr.ownsRow w1.heap.size 9 1 v i (strP P i) ∧ Below w1.heap.size w1 wr)
  case atStart => exact ⟨0, by omega, rfl, World.ownsRow_nil w1 w1.heap.size 9 1, Below.refl _ _⟩
  case round =>
    obtain ⟨i, hi, rfl, hrow, hB⟩ := hrel
    have hi0 : (0 : Int) ≤ (i : Int) := by omega
    have hi3 : ((i : Int)).toNat = i := by omega
    by_cases c1 : i < P.length
    · have x1 : (i : Int) < (P.length : Int) := by omega
      obtain ⟨g, o, ve, hpa, hce, hpb, _⟩ := HPC.out i c1
      subst hpa
      have hcr : wr.cell? ⟨g, o + i, none⟩ = some ve := (hB.cell (World.block_lt_of_cell? w1 _ hce)).trans hce
      obtain ⟨l, hl⟩ : ∃ l, l = P.getD i [] := ⟨_, rfl⟩
      rw [← hl] at hpb
      have hconv := run_conv_slb (P := Try.prog) wr 24 5 9 Try.underlying24 Try.underlying5 Try.underlying9 _ _ (hpb.below hB)
      obtain ⟨i9, hi9, hz0, hz1, hz2⟩ := info_any info_str
      have hcell : ∀ j y, [S l][j]? = some y → (wr.alloc (.cells #[S l] 9)).cell? ((⟨wr.heap.size, 0, none⟩ : Addr).add j) = some y := fun j y hj => by
        have hj1 : j < 1 := by simpa using (List.getElem?_eq_some_iff.1 hj).1
        obtain rfl : j = 0 := by omega
        rw [Addr.add_lit, (Row.new wr 9 #[S l]).cell]
        simpa using hj
      have hone : ∀ y ∈ [S l], y.oneCell' = true := fun y hy => by
        obtain rfl : y = S l := by simpa using hy
        rfl
      have hr2 : (wr.alloc (.cells #[S l] 9)).ownsRow w1.heap.size 9 1 u6 i (strP P i) := World.ownsRow.alloc hrow _
      have hB2 : Below w1.heap.size w1 (wr.alloc (.cells #[S l] 9)) := hB.alloc hB.size _
      have hst : strP P i ++ [S l] = strP P (i + 1) := by
        unfold strP
        rw [List.take_succ_eq_append_getElem c1, List.map_append, hl]
        simp [c1]
      have hmx : i + 1 ≤ maxLen := by unfold maxLen; omega
      have HCELL := Lib.hid hcell
      have HONE := Lib.hid hone
      have HI9 := Lib.hid hi9
      have HZ0 := Lib.hid hz0
      have HZ1 := Lib.hid hz1
      have HZ2 := Lib.hid hz2
      have HR2 := Lib.hid hr2
      have HB2 := Lib.hid hB2
      have HST := Lib.hid hst
      have HMX := Lib.hid hmx
      clear hcell hone hi9 hz0 hz1 hz2 hr2 hB2 hst hmx hl hce hpb hrow hB
      go_wp2_with (at_builtin; refine wpList_append_own _ rfl (.tmp 16) (.tmp 22) 40 rfl w1.heap.size 9 i9 (.string ⟨#[]⟩) 1 16 Try.underlying40 HI9.out HZ0.out HZ1.out HZ2.out rfl (by decide) _ i _ rfl HR2.out ⟨wr.heap.size, 0, none⟩ 1 1 [S l] rfl rfl HCELL.out HONE.out HMX.out (by omega) HB2.out.size ?_)
      intro v' w' hown hg _
      rw [HST.out] at hown
      have hB6 : Below w1.heap.size w1 w' := HB2.out.grown hg HB2.out.size (fun k e => (World.ownsRow.lt HR2.out k e).1)
      have HOWN := Lib.hid hown
      clear hown hg
      go_wp2_with fail
      go_roundg (gk - 1)
      case measure => omega
      case rel => exact ⟨i + 1, by omega, by go_num, HOWN.out, hB6⟩
    · obtain rfl : i = P.length := by omega
      unfold strP at hrow
      rw [List.take_length] at hrow
      have hstr := strs_fin hrow HPE.out
      have hA2 := hA1.trans (hB.mono hA1.size)
      have i2 := i1.below hB i1.lt
      have HSTR := Lib.hid hstr
      have HPT := Lib.hid (show PartsAt wr (.slice pa P.length pcap) P from by
        obtain ⟨a, cap, h1, h2, h3, h4⟩ := HPT.out
        refine ⟨a, cap, h1, h2, h3, fun i hi => ?_⟩
        obtain ⟨g, o, u, h5, h6, h7, h8⟩ := h4 i hi
        exact ⟨g, o, u, h5, (hB.cell (World.block_lt_of_cell? w1 _ h6)).trans h6, h7.below hB, h8⟩)
      clear hrow hstr hB i1 hA1 HPC HPE
      have x1 : ¬ (P.length : Int) < (P.length : Int) := by omega
      go_upto_region 7 with (fail)
      have i3 := i2.drew
      have hA3 := hA2.drew
      have q3 := i3.lt
      obtain ⟨F, hF⟩ : ∃ F, F = foldF bl P := ⟨_, rfl⟩
      have hFl : F.length = 16 := by rw [hF]; exact foldF_len _ _
      have hF16 := (AB_size F).trans hFl
      have hpts : ∀ w', Below wr.drew.heap.size wr.drew w' → Calls Try.prog 22 #[.agg (AB bl), .slice pa P.length pcap] w' (fun e w'' => e = .returned (.agg (AB F)) ∧ Below w'.heap.size w' w'') := fun w' hw' => by
        rw [hF]
        refine gfold_any bl P _ w' HBL.out ?_
        obtain ⟨a, cap, h1, h2, h3, h4⟩ := HPT.out
        refine ⟨a, cap, h1, h2, h3, fun i hi => ?_⟩
        obtain ⟨g, o, u, h5, h6, h7, h8⟩ := h4 i hi
        have hw2 : Below wr.heap.size wr w' := (Below.refl _ wr).drew.trans hw'
        exact ⟨g, o, u, h5, (hw2.cell (World.block_lt_of_cell? wr _ h6)).trans h6, h7.below hw2, h8⟩
      have hstrs : ∀ w', Below wr.drew.heap.size wr.drew w' → Calls Try.prog 23 #[.agg (AB bl), u6] w' (fun e w'' => e = .returned (.agg (AB F)) ∧ Below w'.heap.size w' w'') := fun w' hw' => by
        rw [hF]
        exact refFold_any bl P u6 w' HBL.out (HSTR.out.below ((Below.refl _ wr).drew.trans hw'))
      have HF1 := Lib.hid hpts
      have HF2 := Lib.hid hstrs
      clear hF hpts hstrs i2 hA2
      refine wp_region_qtail (Below wr.drew.heap.size wr.drew) 10 (by kernel_rfl) (by kernel_rfl) (Below.refl _ _) ?_
      simp only [List.take_succ_cons, List.take_zero, List.drop_succ_cons, List.drop_zero]
      (go_big_quiet_want; refine qb_call _ _ ?_ _ (fun w' _ => gboxes_any w') (Nat.le_refl _) ?_; (focus (intro w; simp [go_sem]; done)); (simp only [Act.put, List.setIfInBounds_toArray, List.set_cons_zero, List.set_cons_succ]; go_big_quiet_on))
      repeat (first | go_big_quiet_skip | (go_big_quiet_want; go_big_quiet_op; first | go_big_quiet_on | (refine ⟨_, fun _ _ => rfl, ?_⟩; go_big_quiet_on)) | (go_big_quiet_want; apply qb_load1 _ _ rfl _ _ rfl; rotate_left 2; (focus (intro _; simp [go_sem]; done)); rotate_right 2; assumption; assumption; assumption; (simp only [Act.put, List.setIfInBounds_toArray, List.set_cons_zero, List.set_cons_succ]; go_big_quiet_on)) | (go_big_quiet_want; apply qb_loadA _ _ rfl _ _ rfl (sz := 16); rotate_left 2; (focus (intro _; simp [go_sem]; done)); (focus (intro _; simp [go_sem]; done)); rotate_right 2; assumption; assumption; assumption; assumption; (simp only [Act.put, List.setIfInBounds_toArray, List.set_cons_zero, List.set_cons_succ]; go_big_quiet_on)) | (go_big_quiet_want; apply qb_loadA _ _ rfl _ _ rfl (sz := 2); rotate_left 2; (focus (intro _; simp [go_sem]; done)); (focus (intro _; simp [go_sem]; done)); rotate_right 2; assumption; assumption; assumption; assumption; (simp only [Act.put, List.setIfInBounds_toArray, List.set_cons_zero, List.set_cons_succ]; go_big_quiet_on)) | (go_big_quiet_want; apply qb_loadA _ _ rfl _ _ rfl (sz := 12); rotate_left 2; (focus (intro _; simp [go_sem]; done)); (focus (intro _; simp [go_sem]; done)); rotate_right 2; assumption; assumption; assumption; assumption; (simp only [Act.put, List.setIfInBounds_toArray, List.set_cons_zero, List.set_cons_succ]; go_big_quiet_on)) | (go_big_quiet_want; apply qb_loadA _ _ rfl _ _ rfl (sz := 32); rotate_left 2; (focus (intro _; simp [go_sem]; done)); (focus (intro _; simp [go_sem]; done)); rotate_right 2; assumption; assumption; assumption; assumption; (simp only [Act.put, List.setIfInBounds_toArray, List.set_cons_zero, List.set_cons_succ]; go_big_quiet_on)))
      (go_big_quiet_want; refine qb_call _ _ ?_ _ (fun w' h => HF1.out w' h) (Nat.le_refl _) ?_; (focus (intro w; simp [go_sem]; done)); (simp only [Act.put, List.setIfInBounds_toArray, List.set_cons_zero, List.set_cons_succ]; go_big_quiet_on))
      repeat (first | go_big_quiet_skip | (go_big_quiet_want; go_big_quiet_op; first | go_big_quiet_on | (refine ⟨_, fun _ _ => rfl, ?_⟩; go_big_quiet_on)) | (go_big_quiet_want; apply qb_load1 _ _ rfl _ _ rfl; rotate_left 2; (focus (intro _; simp [go_sem]; done)); rotate_right 2; assumption; assumption; assumption; (simp only [Act.put, List.setIfInBounds_toArray, List.set_cons_zero, List.set_cons_succ]; go_big_quiet_on)) | (go_big_quiet_want; apply qb_loadA _ _ rfl _ _ rfl (sz := 16); rotate_left 2; (focus (intro _; simp [go_sem]; done)); (focus (intro _; simp [go_sem]; done)); rotate_right 2; assumption; assumption; assumption; assumption; (simp only [Act.put, List.setIfInBounds_toArray, List.set_cons_zero, List.set_cons_succ]; go_big_quiet_on)) | (go_big_quiet_want; apply qb_loadA _ _ rfl _ _ rfl (sz := 2); rotate_left 2; (focus (intro _; simp [go_sem]; done)); (focus (intro _; simp [go_sem]; done)); rotate_right 2; assumption; assumption; assumption; assumption; (simp only [Act.put, List.setIfInBounds_toArray, List.set_cons_zero, List.set_cons_succ]; go_big_quiet_on)) | (go_big_quiet_want; apply qb_loadA _ _ rfl _ _ rfl (sz := 12); rotate_left 2; (focus (intro _; simp [go_sem]; done)); (focus (intro _; simp [go_sem]; done)); rotate_right 2; assumption; assumption; assumption; assumption; (simp only [Act.put, List.setIfInBounds_toArray, List.set_cons_zero, List.set_cons_succ]; go_big_quiet_on)) | (go_big_quiet_want; apply qb_loadA _ _ rfl _ _ rfl (sz := 32); rotate_left 2; (focus (intro _; simp [go_sem]; done)); (focus (intro _; simp [go_sem]; done)); rotate_right 2; assumption; assumption; assumption; assumption; (simp only [Act.put, List.setIfInBounds_toArray, List.set_cons_zero, List.set_cons_succ]; go_big_quiet_on)))
      (go_big_quiet_want; refine qb_call _ _ ?_ _ (fun w' h => HF2.out w' h) (Nat.le_refl _) ?_; (focus (intro w; simp [go_sem]; done)); (simp only [Act.put, List.setIfInBounds_toArray, List.set_cons_zero, List.set_cons_succ]; go_big_quiet_on))
      repeat (first | go_big_quiet_skip | (go_big_quiet_want; go_big_quiet_op; first | go_big_quiet_on | (refine ⟨_, fun _ _ => rfl, ?_⟩; go_big_quiet_on)) | (go_big_quiet_want; apply qb_load1 _ _ rfl _ _ rfl; rotate_left 2; (focus (intro _; simp [go_sem]; done)); rotate_right 2; assumption; assumption; assumption; (simp only [Act.put, List.setIfInBounds_toArray, List.set_cons_zero, List.set_cons_succ]; go_big_quiet_on)) | (go_big_quiet_want; apply qb_loadA _ _ rfl _ _ rfl (sz := 16); rotate_left 2; (focus (intro _; simp [go_sem]; done)); (focus (intro _; simp [go_sem]; done)); rotate_right 2; assumption; assumption; assumption; assumption; (simp only [Act.put, List.setIfInBounds_toArray, List.set_cons_zero, List.set_cons_succ]; go_big_quiet_on)) | (go_big_quiet_want; apply qb_loadA _ _ rfl _ _ rfl (sz := 2); rotate_left 2; (focus (intro _; simp [go_sem]; done)); (focus (intro _; simp [go_sem]; done)); rotate_right 2; assumption; assumption; assumption; assumption; (simp only [Act.put, List.setIfInBounds_toArray, List.set_cons_zero, List.set_cons_succ]; go_big_quiet_on)) | (go_big_quiet_want; apply qb_loadA _ _ rfl _ _ rfl (sz := 12); rotate_left 2; (focus (intro _; simp [go_sem]; done)); (focus (intro _; simp [go_sem]; done)); rotate_right 2; assumption; assumption; assumption; assumption; (simp only [Act.put, List.setIfInBounds_toArray, List.set_cons_zero, List.set_cons_succ]; go_big_quiet_on)) | (go_big_quiet_want; apply qb_loadA _ _ rfl _ _ rfl (sz := 32); rotate_left 2; (focus (intro _; simp [go_sem]; done)); (focus (intro _; simp [go_sem]; done)); rotate_right 2; assumption; assumption; assumption; assumption; (simp only [Act.put, List.setIfInBounds_toArray, List.set_cons_zero, List.set_cons_succ]; go_big_quiet_on)))
      refine wpQuiet_nil ?_
      intro w3 hw3
      have hA4 := hA3.trans (hw3.mono hA3.size)
      clear hA3 hw3 i3 q3
      go_wp2_with fail
      go_ret
      exact ⟨rfl, hA4⟩
end Go.Proofs.Ytjopgogaipkdbaa
