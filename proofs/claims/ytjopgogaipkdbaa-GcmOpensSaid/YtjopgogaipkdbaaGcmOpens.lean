/- The law GcmOpens: the walk. -/
import Derived.Test.YtjopgogaipkdbaaSealsLaw
namespace Go.Proofs.Ytjopgogaipkdbaa
open Go.RowKit

set_option maxRecDepth 100000 in
set_option maxHeartbeats 8000000 in
theorem gopens_bad (key nonce l0 bs0 sl : List UInt8) (short : Bool) (vp vb vs : Value) (w : World) (hk : key.length = 32) (hn : nonce.length = 12) (_hp : SlB w vp l0) (hb : SlB w vb bs0) (hs : SlB w vs sl)
    (hbad : 16 ≤ (sl.take 120).length → tagF (expand (keyOf key short)) (lastOf (keyOf key short)) (hOf (keyOf key short)) nonce ((sl.take 120).take ((sl.take 120).length - 16)) (bs0.take 60) ≠ (sl.take 120).drop ((sl.take 120).length - 16)) :
    Calls Try.prog 12 #[.agg (letC key short nonce vp vb), vs] w fun e w' => e = .returned (.bool true) ∧ Below w.heap.size w w' := by
  obtain ⟨a, cap, hvv⟩ : ∃ a c, vs = .slice a sl.length c := let ⟨a, c, h, _⟩ := hs; ⟨a, c, h⟩
  subst hvv
  have hcap : sl.length ≤ cap := by obtain ⟨a', c', h, h1, _⟩ := hs; simp only [Value.slice.injEq] at h; omega
  have hsz := letC_size (short := short) (vp := vp) (vb := vb) hk hn
  have hno := letC_nonce (short := short) (vp := vp) (vb := vb) hk hn
  have hkk := keyOf_len key short hk
  have HKEY := Lib.hid (fun w => lkey_any key nonce short vp vb w hk)
  have HBE := Lib.hid (fun w h => lbeside_any key nonce short vp vb bs0 w hk hn h)
  obtain ⟨C, hC⟩ : ∃ C, C = letC key short nonce vp vb := ⟨_, rfl⟩
  rw [← hC] at hsz hno HKEY HBE ⊢
  clear hC
  obtain ⟨K, hK⟩ : ∃ K, K = keyOf key short := ⟨_, rfl⟩
  rw [← hK] at HKEY hkk hbad
  obtain ⟨bs, hbs⟩ : ∃ l, l = bs0.take 60 := ⟨_, rfl⟩
  rw [← hbs] at HBE hbad
  have hbl : bs.length ≤ 60 := by rw [hbs]; simp; omega
  have hsc := sub_all C 47 hsz
  have z47 : 0 + 47 ≤ C.size := by rw [hsz]; decide
  have z33 : 33 + 12 ≤ C.size := by rw [hsz]; decide
  have hn16 := (AB_size nonce).trans hn
  obtain ⟨s, hse⟩ : ∃ s, s = sl.take 120 := ⟨_, rfl⟩
  have hsn : s.length = min 120 sl.length := by rw [hse, List.length_take]
  have hss : SlB w (.slice a s.length cap) s := by
    rcases Nat.lt_or_ge 120 sl.length with h | h
    · rw [hsn, Nat.min_eq_left (by omega), hse]; exact hs.take 120 (by omega)
    · rw [hsn, Nat.min_eq_right h, hse, List.take_of_length_le h]; exact hs
  rw [← hse] at hbad
  obtain ⟨n, hnn⟩ : ∃ n, n = s.length := ⟨_, rfl⟩
  rw [← hnn] at hss hbad hsn
  have hnl : n ≤ 120 := by omega
  have hnc : n ≤ cap := by omega
  have hopen : ∀ (xb : Nat) w' vb', BoxAt 84 67 23 w' (.pointer (some ⟨xb, 0, none⟩)) (expand K) (lastOf K) (hOf K) → SlB w' (.slice a n cap) s → SlB w' vb' bs → Calls Try.prog 32 #[.pointer (some ⟨xb, 0, none⟩), .agg (AB nonce), .slice a n cap, vb'] w' fun e w'' => e = .returned (.tuple #[.slice none 0 0, .int .i64 5]) ∧ Below w'.heap.size w' w'' := fun xb w' vb' h1 h2 h3 => by
    by_cases h16 : 16 ≤ n
    · refine (gopen_any _ _ _ _ nonce _ _ s bs w' h1 hn h2 (by omega) (by omega) h3 (by omega)).mono fun e w'' h => ⟨?_, h.2⟩
      have := h.1
      rwa [← hnn, if_neg (hbad h16)] at this
    · exact gopen_short xb nonce a n cap vb' w' (by omega)
  have htag : 16 ≤ n → ∀ w', Calls Try.prog 34 #[S K, .agg (AB nonce), S (s.take (n - 16)), S bs] w' (fun e w'' => e = .returned (S (tagF (expand K) (lastOf K) (hOf K) nonce (s.take (n - 16)) bs)) ∧ Below w'.heap.size w' w'') := fun _ w' =>
    refTag_any K nonce (s.take (n - 16)) bs w' hkk hn (by simp; omega) (by omega)
  obtain ⟨m, hm⟩ : ∃ m, m = sl.length := ⟨_, rfl⟩
  rw [← hm] at hsn hcap ⊢
  have HOPEN := Lib.hid hopen
  have HTAG := Lib.hid htag
  have HBAD := Lib.hid hbad
  have HN := Lib.hid hn
  have HSZ := Lib.hid hsz
  have HB := Lib.hid hb
  have HS := Lib.hid hss
  have HSN := Lib.hid hsn
  have HNN := Lib.hid hnn
  clear hK hk hn hb hs hss hsz hopen htag hbad hse hnn hm hbs hsn
  go_enter Try.func12, Try.ntmps12
  go_wp2_with fail
  refine (HKEY.out _).mono ?_
  rintro e w1 ⟨v1, rfl, hb1, hB1⟩
  have i1 := (Row.new w 50 C).below hB1 (by simp)
  have hA1 : Below w.heap.size w w1 := ((Below.refl _ w).alloc (Nat.le_refl _) _).trans (hB1.mono (by simp))
  have HS1 := Lib.hid hb1.slb
  clear hb1 hB1
  go_wp2_with fail
  refine (gnew_ok v1 K _ HS1.out hkk).mono ?_
  rintro e w2 ⟨p, rfl, hbx, hB2⟩
  obtain ⟨xb, hpx⟩ : ∃ xb, p = .pointer (some ⟨xb, 0, none⟩) := let ⟨a, _, h, _⟩ := hbx; ⟨a, h⟩
  subst hpx
  have i2 := i1.below hB2 i1.lt
  have hA2 := hA1.trans (hB2.mono hA1.size)
  have HBX := Lib.hid hbx
  clear hbx hB2 i1 hA1 HS1
  go_upto_region 2 with (fail)
  go_cut [1] (fun v wr => v = .slice a n cap ∧ wr = w2)
  case first =>
    rcases Nat.lt_or_ge 120 m with h | h
    · have hl1 : ¬ ((m : Int) ≤ 120) := by omega
      have hl2 : (120 : Int) < (m : Int) := by omega
      have hl3 : (120 : Int) ≤ (cap : Int) := by omega
      have hfin : (120 : Nat) = n := by have := HSN.out; omega
      have HF := Lib.hid hfin
      clear hfin h
      go_wp2_with fail
      go_meet
      case rel => exact ⟨by rw [← HF.out], rfl⟩
    · have hl1 : (m : Int) ≤ 120 := by omega
      have hl2 : ¬ (120 : Int) < (m : Int) := by omega
      have hl3 : (m : Int) ≤ (cap : Int) := by omega
      have hfin : m = n := by have := HSN.out; omega
      have HF := Lib.hid hfin
      clear hfin h
      go_wp2_with fail
      go_meet
      case rel => exact ⟨by rw [← HF.out], rfl⟩
  case rest =>
    obtain ⟨e1, e2⟩ := hcut
    subst e1
    subst e2
    go_upto_region 3 with (fail)
    have i3 := i2.drew
    have hA3 := hA2.drew
    have q3 := hA3.size
    have HBX := Lib.hid (HBX.out.below (Below.refl _ _).drew)
    have HS3 := Lib.hid (HS.out.below hA3)
    have HB3 := Lib.hid (HB.out.below hA3)
    clear i2 hA2
    refine wp_region_free 11 [28] (bufF 5 w.heap.size (fun _ => bs)) (by kernel_rfl) (by kernel_rfl) (by kernel_rfl) (bufF_stab _ _ _) ?_
    simp only [List.take_succ_cons, List.take_zero, List.drop_succ_cons, List.drop_zero]
    apply Exists.intro
    apply Exists.intro
    refine ⟨?_, ?_, ?_⟩
    · intro ν
      repeat (apply wpF_q rfl; focus (intro C hC hG; (first | go_big_quiet_skip | (go_big_quiet_want; go_big_quiet_op; first | go_big_quiet_on | (refine ⟨_, fun _ _ => rfl, ?_⟩; go_big_quiet_on)) | (go_big_quiet_want; apply qf_load1 _ _ rfl _ _ rfl; (exact hC); rotate_left 1; (focus (intro _; simp [go_sem]; done)); rotate_right 1; assumption; assumption; (simp only [Act.put, List.setIfInBounds_toArray, List.set_cons_zero, List.set_cons_succ]; go_big_quiet_on)) | (go_big_quiet_want; apply qf_loadA _ _ rfl _ _ rfl (sz := 47); (exact hC); rotate_left 1; (focus (intro _; simp [go_sem]; done)); (focus (intro _; simp [go_sem]; done)); rotate_right 1; assumption; assumption; assumption; (simp only [Act.put, List.setIfInBounds_toArray, List.set_cons_zero, List.set_cons_succ]; go_big_quiet_on)) | (go_big_quiet_want; apply qf_loadA _ _ rfl _ _ rfl (sz := 12); (exact hC); rotate_left 1; (focus (intro _; simp [go_sem]; done)); (focus (intro _; simp [go_sem]; done)); rotate_right 1; assumption; assumption; assumption; (simp only [Act.put, List.setIfInBounds_toArray, List.set_cons_zero, List.set_cons_succ]; go_big_quiet_on)) | (go_big_quiet_want; apply qf_loadA _ _ rfl _ _ rfl (sz := 16); (exact hC); rotate_left 1; (focus (intro _; simp [go_sem]; done)); (focus (intro _; simp [go_sem]; done)); rotate_right 1; assumption; assumption; assumption; (simp only [Act.put, List.setIfInBounds_toArray, List.set_cons_zero, List.set_cons_succ]; go_big_quiet_on)) | (go_big_quiet_want; apply qf_loadA _ _ rfl _ _ rfl (sz := 32); (exact hC); rotate_left 1; (focus (intro _; simp [go_sem]; done)); (focus (intro _; simp [go_sem]; done)); rotate_right 1; assumption; assumption; assumption; (simp only [Act.put, List.setIfInBounds_toArray, List.set_cons_zero, List.set_cons_succ]; go_big_quiet_on)) | (go_big_quiet_want; apply qf_loadA _ _ rfl _ _ rfl (sz := 2); (exact hC); rotate_left 1; (focus (intro _; simp [go_sem]; done)); (focus (intro _; simp [go_sem]; done)); rotate_right 1; assumption; assumption; assumption; (simp only [Act.put, List.setIfInBounds_toArray, List.set_cons_zero, List.set_cons_succ]; go_big_quiet_on))); exact wpQuiet_nil rfl))
      (apply wpF_free; (focus rfl); (focus rfl); (exact (fun w hb _ => bufX hb q3 rfl (HBE.out w (HB3.out.below hb)))); (focus (intro w; simp [go_sem]; done)); simp only [Act.put, vqF, Option.toList_some, List.cons_append, List.nil_append, List.setIfInBounds_toArray, List.set_cons_zero, List.set_cons_succ])
      (apply wpF_q rfl; focus (intro C hC hG; go_big_quiet_want; apply qf_call; (exact hC); (exact hG); (exact (fun w hb hf => HOPEN.out xb w _ (HBX.out.below hb) (HS3.out.below hb) (bufS (l := bs) (hf 28 (by decide) rfl) rfl))); (focus (intro w; simp [go_sem]; done)); (simp only [Act.put, List.setIfInBounds_toArray, List.set_cons_zero, List.set_cons_succ]; go_big_quiet_on); exact wpQuiet_nil rfl))
      repeat (apply wpF_q rfl; focus (intro C hC hG; (first | go_big_quiet_skip | (go_big_quiet_want; go_big_quiet_op; first | go_big_quiet_on | (refine ⟨_, fun _ _ => rfl, ?_⟩; go_big_quiet_on)) | (go_big_quiet_want; apply qf_load1 _ _ rfl _ _ rfl; (exact hC); rotate_left 1; (focus (intro _; simp [go_sem]; done)); rotate_right 1; assumption; assumption; (simp only [Act.put, List.setIfInBounds_toArray, List.set_cons_zero, List.set_cons_succ]; go_big_quiet_on)) | (go_big_quiet_want; apply qf_loadA _ _ rfl _ _ rfl (sz := 47); (exact hC); rotate_left 1; (focus (intro _; simp [go_sem]; done)); (focus (intro _; simp [go_sem]; done)); rotate_right 1; assumption; assumption; assumption; (simp only [Act.put, List.setIfInBounds_toArray, List.set_cons_zero, List.set_cons_succ]; go_big_quiet_on)) | (go_big_quiet_want; apply qf_loadA _ _ rfl _ _ rfl (sz := 12); (exact hC); rotate_left 1; (focus (intro _; simp [go_sem]; done)); (focus (intro _; simp [go_sem]; done)); rotate_right 1; assumption; assumption; assumption; (simp only [Act.put, List.setIfInBounds_toArray, List.set_cons_zero, List.set_cons_succ]; go_big_quiet_on)) | (go_big_quiet_want; apply qf_loadA _ _ rfl _ _ rfl (sz := 16); (exact hC); rotate_left 1; (focus (intro _; simp [go_sem]; done)); (focus (intro _; simp [go_sem]; done)); rotate_right 1; assumption; assumption; assumption; (simp only [Act.put, List.setIfInBounds_toArray, List.set_cons_zero, List.set_cons_succ]; go_big_quiet_on)) | (go_big_quiet_want; apply qf_loadA _ _ rfl _ _ rfl (sz := 32); (exact hC); rotate_left 1; (focus (intro _; simp [go_sem]; done)); (focus (intro _; simp [go_sem]; done)); rotate_right 1; assumption; assumption; assumption; (simp only [Act.put, List.setIfInBounds_toArray, List.set_cons_zero, List.set_cons_succ]; go_big_quiet_on)) | (go_big_quiet_want; apply qf_loadA _ _ rfl _ _ rfl (sz := 2); (exact hC); rotate_left 1; (focus (intro _; simp [go_sem]; done)); (focus (intro _; simp [go_sem]; done)); rotate_right 1; assumption; assumption; assumption; (simp only [Act.put, List.setIfInBounds_toArray, List.set_cons_zero, List.set_cons_succ]; go_big_quiet_on))); exact wpQuiet_nil rfl))
      exact wpF_nil ⟨rfl, rfl⟩
    · intro ν ν'
      kernel_rfl
    · intro ν w4 hw4 _
      have i4 := i3.below hw4 i3.lt
      have hA4 := hA3.trans (hw4.mono hA3.size)
      clear i3 hA3 q3 hw4 HS3 HB3 HBX
      go_wp2_with fail
      refine (gboxes_any _).mono ?_
      rintro e w5 ⟨rfl, hb5⟩
      have i5 := i4.below hb5 i4.lt
      have hA5 := hA4.trans (hb5.mono hA4.size)
      clear i4 hA4 hb5
      rcases Nat.lt_or_ge n 16 with h | h
      · have hl : (n : Int) < 16 := by omega
        clear h
        go_wp2_with fail
        go_ret
        exact ⟨rfl, hA5⟩
      · obtain ⟨sb, so, scap, hsa, _⟩ := HS.out.addr (by have := HNN.out; omega)
        simp only [Value.slice.injEq] at hsa
        have ha := hsa.1
        subst ha
        clear hsa
        obtain ⟨k, rfl⟩ : ∃ k, n = k + 16 := ⟨n - 16, by omega⟩
        have HTAG := Lib.hid (HTAG.out h)
        have hbad := HBAD.out h
        have hct := HS.out.take k (by omega)
        have htt := HS.out.drop k (by omega)
        rw [show k + 16 - k = 16 by omega] at htt
        rw [show k + 16 - 16 = k by omega] at hbad HTAG
        obtain ⟨c, hc⟩ : ∃ c, c = s.take k := ⟨_, rfl⟩
        obtain ⟨E, hE⟩ : ∃ E, E = s.drop k := ⟨_, rfl⟩
        rw [← hc] at hct hbad HTAG
        rw [← hE] at htt hbad
        obtain ⟨T, hT⟩ : ∃ T, T = tagF (expand K) (lastOf K) (hOf K) nonce c bs := ⟨_, rfl⟩
        rw [← hT] at hbad HTAG
        have HCT := Lib.hid (hct.below hA5)
        have HTT := Lib.hid (htt.below hA5)
        have hTE : (T == E) = false := by simpa using hbad
        have hl : ¬ ((k : Int) + 16 < 16) := by omega
        have t0 : ((k + 16 : Nat) : Int) = (k : Int) + 16 := by omega
        have t1 : IntKind.i64.wrap ((k : Int) + 16 - 16) = (k : Int) := by rw [IntKind.wrap_i64]; omega
        have t2 : (k : Int) + 16 - 16 = (k : Int) := by omega
        have t3 : ¬ (k : Int) < 0 := by omega
        have t4 : (0 : Int) ≤ (k : Int) := by omega
        have t5 : (k : Int) ≤ (cap : Int) := by omega
        have t6 : (k : Int) ≤ (k : Int) + 16 := by omega
        have hconv := run_conv_slb (P := Try.prog) w5 24 5 9 Try.underlying24 Try.underlying5 Try.underlying9 _ _ HCT.out
        clear h hc hE hT hct htt HBAD HSN HNN
        go_upto_region 9 with (fail)
        have i6 := i5.drew
        have hA6 := hA5.drew
        have q6 := hA6.size
        have HB6 := Lib.hid (HB.out.below hA6)
        have HTT := Lib.hid (HTT.out.below (Below.refl _ _).drew)
        clear i5 hA5 hconv
        refine wp_region_free 17 [55, 61] (bufF 5 w.heap.size (fun d => if d = 55 then K else bs)) (by kernel_rfl) (by kernel_rfl) (by kernel_rfl) (bufF_stab _ _ _) ?_
        simp only [List.take_succ_cons, List.take_zero, List.drop_succ_cons, List.drop_zero]
        apply Exists.intro
        apply Exists.intro
        refine ⟨?_, ?_, ?_⟩
        · intro ν
          repeat (apply wpF_q rfl; focus (intro C hC hG; (first | go_big_quiet_skip | (go_big_quiet_want; go_big_quiet_op; first | go_big_quiet_on | (refine ⟨_, fun _ _ => rfl, ?_⟩; go_big_quiet_on)) | (go_big_quiet_want; apply qf_load1 _ _ rfl _ _ rfl; (exact hC); rotate_left 1; (focus (intro _; simp [go_sem]; done)); rotate_right 1; assumption; assumption; (simp only [Act.put, List.setIfInBounds_toArray, List.set_cons_zero, List.set_cons_succ]; go_big_quiet_on)) | (go_big_quiet_want; apply qf_loadA _ _ rfl _ _ rfl (sz := 47); (exact hC); rotate_left 1; (focus (intro _; simp [go_sem]; done)); (focus (intro _; simp [go_sem]; done)); rotate_right 1; assumption; assumption; assumption; (simp only [Act.put, List.setIfInBounds_toArray, List.set_cons_zero, List.set_cons_succ]; go_big_quiet_on)) | (go_big_quiet_want; apply qf_loadA _ _ rfl _ _ rfl (sz := 12); (exact hC); rotate_left 1; (focus (intro _; simp [go_sem]; done)); (focus (intro _; simp [go_sem]; done)); rotate_right 1; assumption; assumption; assumption; (simp only [Act.put, List.setIfInBounds_toArray, List.set_cons_zero, List.set_cons_succ]; go_big_quiet_on)) | (go_big_quiet_want; apply qf_loadA _ _ rfl _ _ rfl (sz := 16); (exact hC); rotate_left 1; (focus (intro _; simp [go_sem]; done)); (focus (intro _; simp [go_sem]; done)); rotate_right 1; assumption; assumption; assumption; (simp only [Act.put, List.setIfInBounds_toArray, List.set_cons_zero, List.set_cons_succ]; go_big_quiet_on)) | (go_big_quiet_want; apply qf_loadA _ _ rfl _ _ rfl (sz := 32); (exact hC); rotate_left 1; (focus (intro _; simp [go_sem]; done)); (focus (intro _; simp [go_sem]; done)); rotate_right 1; assumption; assumption; assumption; (simp only [Act.put, List.setIfInBounds_toArray, List.set_cons_zero, List.set_cons_succ]; go_big_quiet_on)) | (go_big_quiet_want; apply qf_loadA _ _ rfl _ _ rfl (sz := 2); (exact hC); rotate_left 1; (focus (intro _; simp [go_sem]; done)); (focus (intro _; simp [go_sem]; done)); rotate_right 1; assumption; assumption; assumption; (simp only [Act.put, List.setIfInBounds_toArray, List.set_cons_zero, List.set_cons_succ]; go_big_quiet_on))); exact wpQuiet_nil rfl))
          (apply wpF_free; (focus rfl); (focus rfl); (exact (fun w hb _ => bufX hb q6 rfl (HKEY.out w))); (focus (intro w; simp [go_sem]; done)); simp only [Act.put, vqF, Option.toList_some, List.cons_append, List.nil_append, List.setIfInBounds_toArray, List.set_cons_zero, List.set_cons_succ])
          (apply wpF_q rfl; focus (intro C hC hG; go_big_quiet_want; apply qf_conv; (focus rfl); (exact hC); (focus rfl); (exact Try.underlying24); (exact Try.underlying5); (exact Try.underlying9); (exact (fun w hb hf => bufS (l := K) (hf 55 (by decide) rfl) rfl)); (simp only [Act.put, List.setIfInBounds_toArray, List.set_cons_zero, List.set_cons_succ]; go_big_quiet_on); exact wpQuiet_nil rfl))
          repeat (apply wpF_q rfl; focus (intro C hC hG; (first | go_big_quiet_skip | (go_big_quiet_want; go_big_quiet_op; first | go_big_quiet_on | (refine ⟨_, fun _ _ => rfl, ?_⟩; go_big_quiet_on)) | (go_big_quiet_want; apply qf_load1 _ _ rfl _ _ rfl; (exact hC); rotate_left 1; (focus (intro _; simp [go_sem]; done)); rotate_right 1; assumption; assumption; (simp only [Act.put, List.setIfInBounds_toArray, List.set_cons_zero, List.set_cons_succ]; go_big_quiet_on)) | (go_big_quiet_want; apply qf_loadA _ _ rfl _ _ rfl (sz := 47); (exact hC); rotate_left 1; (focus (intro _; simp [go_sem]; done)); (focus (intro _; simp [go_sem]; done)); rotate_right 1; assumption; assumption; assumption; (simp only [Act.put, List.setIfInBounds_toArray, List.set_cons_zero, List.set_cons_succ]; go_big_quiet_on)) | (go_big_quiet_want; apply qf_loadA _ _ rfl _ _ rfl (sz := 12); (exact hC); rotate_left 1; (focus (intro _; simp [go_sem]; done)); (focus (intro _; simp [go_sem]; done)); rotate_right 1; assumption; assumption; assumption; (simp only [Act.put, List.setIfInBounds_toArray, List.set_cons_zero, List.set_cons_succ]; go_big_quiet_on)) | (go_big_quiet_want; apply qf_loadA _ _ rfl _ _ rfl (sz := 16); (exact hC); rotate_left 1; (focus (intro _; simp [go_sem]; done)); (focus (intro _; simp [go_sem]; done)); rotate_right 1; assumption; assumption; assumption; (simp only [Act.put, List.setIfInBounds_toArray, List.set_cons_zero, List.set_cons_succ]; go_big_quiet_on)) | (go_big_quiet_want; apply qf_loadA _ _ rfl _ _ rfl (sz := 32); (exact hC); rotate_left 1; (focus (intro _; simp [go_sem]; done)); (focus (intro _; simp [go_sem]; done)); rotate_right 1; assumption; assumption; assumption; (simp only [Act.put, List.setIfInBounds_toArray, List.set_cons_zero, List.set_cons_succ]; go_big_quiet_on)) | (go_big_quiet_want; apply qf_loadA _ _ rfl _ _ rfl (sz := 2); (exact hC); rotate_left 1; (focus (intro _; simp [go_sem]; done)); (focus (intro _; simp [go_sem]; done)); rotate_right 1; assumption; assumption; assumption; (simp only [Act.put, List.setIfInBounds_toArray, List.set_cons_zero, List.set_cons_succ]; go_big_quiet_on))); exact wpQuiet_nil rfl))
          (apply wpF_free; (focus rfl); (focus rfl); (exact (fun w hb _ => bufX hb q6 rfl (HBE.out w (HB6.out.below hb)))); (focus (intro w; simp [go_sem]; done)); simp only [Act.put, vqF, Option.toList_some, List.cons_append, List.nil_append, List.setIfInBounds_toArray, List.set_cons_zero, List.set_cons_succ])
          (apply wpF_q rfl; focus (intro C hC hG; go_big_quiet_want; apply qf_conv; (focus rfl); (exact hC); (focus rfl); (exact Try.underlying24); (exact Try.underlying5); (exact Try.underlying9); (exact (fun w hb hf => bufS (l := bs) (hf 61 (by decide) rfl) rfl)); (simp only [Act.put, List.setIfInBounds_toArray, List.set_cons_zero, List.set_cons_succ]; go_big_quiet_on); exact wpQuiet_nil rfl))
          (apply wpF_q rfl; focus (intro C hC hG; go_big_quiet_want; apply qf_call; (exact hC); (exact hG); (exact (fun w hb hf => HTAG.out w)); (focus (intro w; simp [go_sem]; done)); (simp only [Act.put, List.setIfInBounds_toArray, List.set_cons_zero, List.set_cons_succ]; go_big_quiet_on); exact wpQuiet_nil rfl))
          repeat (apply wpF_q rfl; focus (intro C hC hG; (first | go_big_quiet_skip | (go_big_quiet_want; go_big_quiet_op; first | go_big_quiet_on | (refine ⟨_, fun _ _ => rfl, ?_⟩; go_big_quiet_on)) | (go_big_quiet_want; apply qf_load1 _ _ rfl _ _ rfl; (exact hC); rotate_left 1; (focus (intro _; simp [go_sem]; done)); rotate_right 1; assumption; assumption; (simp only [Act.put, List.setIfInBounds_toArray, List.set_cons_zero, List.set_cons_succ]; go_big_quiet_on)) | (go_big_quiet_want; apply qf_loadA _ _ rfl _ _ rfl (sz := 47); (exact hC); rotate_left 1; (focus (intro _; simp [go_sem]; done)); (focus (intro _; simp [go_sem]; done)); rotate_right 1; assumption; assumption; assumption; (simp only [Act.put, List.setIfInBounds_toArray, List.set_cons_zero, List.set_cons_succ]; go_big_quiet_on)) | (go_big_quiet_want; apply qf_loadA _ _ rfl _ _ rfl (sz := 12); (exact hC); rotate_left 1; (focus (intro _; simp [go_sem]; done)); (focus (intro _; simp [go_sem]; done)); rotate_right 1; assumption; assumption; assumption; (simp only [Act.put, List.setIfInBounds_toArray, List.set_cons_zero, List.set_cons_succ]; go_big_quiet_on)) | (go_big_quiet_want; apply qf_loadA _ _ rfl _ _ rfl (sz := 16); (exact hC); rotate_left 1; (focus (intro _; simp [go_sem]; done)); (focus (intro _; simp [go_sem]; done)); rotate_right 1; assumption; assumption; assumption; (simp only [Act.put, List.setIfInBounds_toArray, List.set_cons_zero, List.set_cons_succ]; go_big_quiet_on)) | (go_big_quiet_want; apply qf_loadA _ _ rfl _ _ rfl (sz := 32); (exact hC); rotate_left 1; (focus (intro _; simp [go_sem]; done)); (focus (intro _; simp [go_sem]; done)); rotate_right 1; assumption; assumption; assumption; (simp only [Act.put, List.setIfInBounds_toArray, List.set_cons_zero, List.set_cons_succ]; go_big_quiet_on)) | (go_big_quiet_want; apply qf_loadA _ _ rfl _ _ rfl (sz := 2); (exact hC); rotate_left 1; (focus (intro _; simp [go_sem]; done)); (focus (intro _; simp [go_sem]; done)); rotate_right 1; assumption; assumption; assumption; (simp only [Act.put, List.setIfInBounds_toArray, List.set_cons_zero, List.set_cons_succ]; go_big_quiet_on))); exact wpQuiet_nil rfl))
          (apply wpF_q rfl; focus (intro C hC hG; go_big_quiet_want; apply qf_conv; (focus rfl); (exact hC); (focus rfl); (exact Try.underlying24); (exact Try.underlying5); (exact Try.underlying9); (exact (fun w hb _ => HTT.out.below hb)); (simp only [Act.put, List.setIfInBounds_toArray, List.set_cons_zero, List.set_cons_succ]; go_big_quiet_on); exact wpQuiet_nil rfl))
          repeat (apply wpF_q rfl; focus (intro C hC hG; (first | go_big_quiet_skip | (go_big_quiet_want; go_big_quiet_op; first | go_big_quiet_on | (refine ⟨_, fun _ _ => rfl, ?_⟩; go_big_quiet_on)) | (go_big_quiet_want; apply qf_load1 _ _ rfl _ _ rfl; (exact hC); rotate_left 1; (focus (intro _; simp [go_sem]; done)); rotate_right 1; assumption; assumption; (simp only [Act.put, List.setIfInBounds_toArray, List.set_cons_zero, List.set_cons_succ]; go_big_quiet_on)) | (go_big_quiet_want; apply qf_loadA _ _ rfl _ _ rfl (sz := 47); (exact hC); rotate_left 1; (focus (intro _; simp [go_sem]; done)); (focus (intro _; simp [go_sem]; done)); rotate_right 1; assumption; assumption; assumption; (simp only [Act.put, List.setIfInBounds_toArray, List.set_cons_zero, List.set_cons_succ]; go_big_quiet_on)) | (go_big_quiet_want; apply qf_loadA _ _ rfl _ _ rfl (sz := 12); (exact hC); rotate_left 1; (focus (intro _; simp [go_sem]; done)); (focus (intro _; simp [go_sem]; done)); rotate_right 1; assumption; assumption; assumption; (simp only [Act.put, List.setIfInBounds_toArray, List.set_cons_zero, List.set_cons_succ]; go_big_quiet_on)) | (go_big_quiet_want; apply qf_loadA _ _ rfl _ _ rfl (sz := 16); (exact hC); rotate_left 1; (focus (intro _; simp [go_sem]; done)); (focus (intro _; simp [go_sem]; done)); rotate_right 1; assumption; assumption; assumption; (simp only [Act.put, List.setIfInBounds_toArray, List.set_cons_zero, List.set_cons_succ]; go_big_quiet_on)) | (go_big_quiet_want; apply qf_loadA _ _ rfl _ _ rfl (sz := 32); (exact hC); rotate_left 1; (focus (intro _; simp [go_sem]; done)); (focus (intro _; simp [go_sem]; done)); rotate_right 1; assumption; assumption; assumption; (simp only [Act.put, List.setIfInBounds_toArray, List.set_cons_zero, List.set_cons_succ]; go_big_quiet_on)) | (go_big_quiet_want; apply qf_loadA _ _ rfl _ _ rfl (sz := 2); (exact hC); rotate_left 1; (focus (intro _; simp [go_sem]; done)); (focus (intro _; simp [go_sem]; done)); rotate_right 1; assumption; assumption; assumption; (simp only [Act.put, List.setIfInBounds_toArray, List.set_cons_zero, List.set_cons_succ]; go_big_quiet_on))); exact wpQuiet_nil rfl))
          exact wpF_nil ⟨rfl, rfl⟩
        · intro ν ν'
          kernel_rfl
        · intro ν w6 hw6 _
          have hA7 := hA6.trans (hw6.mono hA6.size)
          clear i6 hA6 q6 hw6 HB6 HTT HCT
          go_wp2_with fail
          go_ret
          exact ⟨rfl, hA7⟩
set_option maxRecDepth 100000 in
set_option maxHeartbeats 8000000 in
theorem gopens_good (key nonce l0 bs0 sl : List UInt8) (short : Bool) (vp vb vs : Value) (w : World) (hk : key.length = 32) (hn : nonce.length = 12) (_hp : SlB w vp l0) (hb : SlB w vb bs0) (hs : SlB w vs sl)
    (h16 : 16 ≤ (sl.take 120).length) (hbad : tagF (expand (keyOf key short)) (lastOf (keyOf key short)) (hOf (keyOf key short)) nonce ((sl.take 120).take ((sl.take 120).length - 16)) (bs0.take 60) = (sl.take 120).drop ((sl.take 120).length - 16)) :
    Calls Try.prog 12 #[.agg (letC key short nonce vp vb), vs] w fun e w' => e = .returned (.bool true) ∧ Below w.heap.size w w' := by
  obtain ⟨a, cap, hvv⟩ : ∃ a c, vs = .slice a sl.length c := let ⟨a, c, h, _⟩ := hs; ⟨a, c, h⟩
  subst hvv
  have hcap : sl.length ≤ cap := by obtain ⟨a', c', h, h1, _⟩ := hs; simp only [Value.slice.injEq] at h; omega
  have hsz := letC_size (short := short) (vp := vp) (vb := vb) hk hn
  have hno := letC_nonce (short := short) (vp := vp) (vb := vb) hk hn
  have hkk := keyOf_len key short hk
  have HKEY := Lib.hid (fun w => lkey_any key nonce short vp vb w hk)
  have HBE := Lib.hid (fun w h => lbeside_any key nonce short vp vb bs0 w hk hn h)
  obtain ⟨C, hC⟩ : ∃ C, C = letC key short nonce vp vb := ⟨_, rfl⟩
  rw [← hC] at hsz hno HKEY HBE ⊢
  clear hC
  obtain ⟨K, hK⟩ : ∃ K, K = keyOf key short := ⟨_, rfl⟩
  rw [← hK] at HKEY hkk hbad
  obtain ⟨bs, hbs⟩ : ∃ l, l = bs0.take 60 := ⟨_, rfl⟩
  rw [← hbs] at HBE hbad
  have hbl : bs.length ≤ 60 := by rw [hbs]; simp; omega
  have hsc := sub_all C 47 hsz
  have z47 : 0 + 47 ≤ C.size := by rw [hsz]; decide
  have z33 : 33 + 12 ≤ C.size := by rw [hsz]; decide
  have hn16 := (AB_size nonce).trans hn
  obtain ⟨s, hse⟩ : ∃ s, s = sl.take 120 := ⟨_, rfl⟩
  have hsn : s.length = min 120 sl.length := by rw [hse, List.length_take]
  have hss : SlB w (.slice a s.length cap) s := by
    rcases Nat.lt_or_ge 120 sl.length with h | h
    · rw [hsn, Nat.min_eq_left (by omega), hse]; exact hs.take 120 (by omega)
    · rw [hsn, Nat.min_eq_right h, hse, List.take_of_length_le h]; exact hs
  rw [← hse] at hbad h16
  obtain ⟨n, hnn⟩ : ∃ n, n = s.length := ⟨_, rfl⟩
  rw [← hnn] at hss hbad hsn h16
  have hnl : n ≤ 120 := by omega
  have hnc : n ≤ cap := by omega
  obtain ⟨k, rfl⟩ : ∃ k, n = k + 16 := ⟨n - 16, by omega⟩
  rw [show k + 16 - 16 = k by omega] at hbad
  obtain ⟨sb, so, scap, hsa, _⟩ := hss.addr (by omega)
  simp only [Value.slice.injEq] at hsa
  have ha := hsa.1
  subst ha
  clear hsa
  have hct := hss.take k (by omega)
  have htt := hss.drop k (by omega)
  rw [show k + 16 - k = 16 by omega] at htt
  obtain ⟨c, hc⟩ : ∃ c, c = s.take k := ⟨_, rfl⟩
  obtain ⟨E, hE⟩ : ∃ E, E = s.drop k := ⟨_, rfl⟩
  have hopen : ∀ (xb : Nat) w' vb', BoxAt 84 67 23 w' (.pointer (some ⟨xb, 0, none⟩)) (expand K) (lastOf K) (hOf K) → SlB w' (.slice (some ⟨sb, so, none⟩) (k + 16) cap) s → SlB w' vb' bs → Calls Try.prog 32 #[.pointer (some ⟨xb, 0, none⟩), .agg (AB nonce), .slice (some ⟨sb, so, none⟩) (k + 16) cap, vb'] w' fun e w'' => ∃ v, e = .returned v ∧ (v = .tuple #[tupG v 0, .int .i64 0] ∧ Buf 5 w'' w'.heap.size (tupG v 0) (turnF (expand K) (lastOf K) nonce c)) ∧ Below w'.heap.size w' w'' := fun xb w' vb' h1 h2 h3 => by
    refine (gopen_any _ _ _ _ nonce _ _ s bs w' h1 hn h2 (by omega) (by omega) h3 (by omega)).mono fun e w'' h => ?_
    have h4 := h.1
    rw [← hnn, show k + 16 - 16 = k by omega, if_pos hbad] at h4
    obtain ⟨v', rfl, h5⟩ := h4
    exact ⟨_, rfl, ⟨rfl, by rw [hc]; exact h5⟩, h.2⟩
  rw [← hc, ← hE] at hbad
  rw [← hc] at hct
  rw [← hE] at htt
  have htag : ∀ w', Calls Try.prog 34 #[S K, .agg (AB nonce), S c, S bs] w' (fun e w'' => e = .returned (S E) ∧ Below w'.heap.size w' w'') := fun w' => by
    rw [← hbad]
    exact refTag_any K nonce c bs w' hkk hn (by rw [hc]; simp; omega) (by omega)
  obtain ⟨t, ht⟩ : ∃ t, t = turnF (expand K) (lastOf K) nonce c := ⟨_, rfl⟩
  rw [← ht] at hopen
  have hturn : ∀ w', Calls Try.prog 35 #[S K, .agg (AB nonce), S c] w' (fun e w'' => e = .returned (S t) ∧ Below w'.heap.size w' w'') := fun w' => by
    rw [ht]
    exact refTurn_any K nonce c w' hkk hn (by rw [hc]; simp; omega)
  obtain ⟨m, hm⟩ : ∃ m, m = sl.length := ⟨_, rfl⟩
  rw [← hm] at hsn hcap ⊢
  have HOPEN := Lib.hid hopen
  have HTAG := Lib.hid htag
  have HTURN := Lib.hid hturn
  have HCT := Lib.hid hct
  have HTT := Lib.hid htt
  have HN := Lib.hid hn
  have HSZ := Lib.hid hsz
  have HB := Lib.hid hb
  have HS := Lib.hid hss
  have HSN := Lib.hid hsn
  have HNN := Lib.hid hnn
  clear hK hk hn hb hs hss hsz hopen htag hbad hse hnn hm hbs hsn hct htt hc hE ht hturn h16
  go_enter Try.func12, Try.ntmps12
  go_wp2_with fail
  refine (HKEY.out _).mono ?_
  rintro e w1 ⟨v1, rfl, hb1, hB1⟩
  have i1 := (Row.new w 50 C).below hB1 (by simp)
  have hA1 : Below w.heap.size w w1 := ((Below.refl _ w).alloc (Nat.le_refl _) _).trans (hB1.mono (by simp))
  have HS1 := Lib.hid hb1.slb
  clear hb1 hB1
  go_wp2_with fail
  refine (gnew_ok v1 K _ HS1.out hkk).mono ?_
  rintro e w2 ⟨p, rfl, hbx, hB2⟩
  obtain ⟨xb, hpx⟩ : ∃ xb, p = .pointer (some ⟨xb, 0, none⟩) := let ⟨a, _, h, _⟩ := hbx; ⟨a, h⟩
  subst hpx
  have i2 := i1.below hB2 i1.lt
  have hA2 := hA1.trans (hB2.mono hA1.size)
  have HBX := Lib.hid hbx
  clear hbx hB2 i1 hA1 HS1
  go_upto_region 2 with (fail)
  go_cut [1] (fun v wr => v = .slice (some ⟨sb, so, none⟩) (k + 16) cap ∧ wr = w2)
  case first =>
    rcases Nat.lt_or_ge 120 m with h | h
    · have hl1 : ¬ ((m : Int) ≤ 120) := by omega
      have hl2 : (120 : Int) < (m : Int) := by omega
      have hl3 : (120 : Int) ≤ (cap : Int) := by omega
      have hfin : (120 : Nat) = k + 16 := by have := HSN.out; omega
      have HF := Lib.hid hfin
      clear hfin h
      go_wp2_with fail
      go_meet
      case rel => exact ⟨by rw [← HF.out], rfl⟩
    · have hl1 : (m : Int) ≤ 120 := by omega
      have hl2 : ¬ (120 : Int) < (m : Int) := by omega
      have hl3 : (m : Int) ≤ (cap : Int) := by omega
      have hfin : m = k + 16 := by have := HSN.out; omega
      have HF := Lib.hid hfin
      clear hfin h
      go_wp2_with fail
      go_meet
      case rel => exact ⟨by rw [← HF.out], rfl⟩
  case rest =>
    obtain ⟨e1, e2⟩ := hcut
    subst e1
    subst e2
    go_upto_region 3 with (fail)
    have i3 := i2.drew
    have hA3 := hA2.drew
    have q3 := hA3.size
    have HBX := Lib.hid (HBX.out.below (Below.refl _ _).drew)
    have HS3 := Lib.hid (HS.out.below hA3)
    have HB3 := Lib.hid (HB.out.below hA3)
    clear i2 hA2
    refine wp_region_freeD 11 [28, 29] [22, 30, 31, 7] (fun d v => if d = 29 then v = .tuple #[tupG v 0, .int .i64 0] else True) (fun d v w' => if d = 29 then v = .tuple #[tupG v 0, .int .i64 0] ∧ Buf 5 w' w.heap.size (tupG v 0) t else Buf 5 w' w.heap.size v bs) (by kernel_rfl) (by kernel_rfl) (by kernel_rfl) ?hst ?hpp ?hin ?h
    case hst =>
      intro d v w w' h hb
      by_cases e : d = 29
      · rw [if_pos e] at h ⊢; exact ⟨h.1, h.2.grow hb⟩
      · rw [if_neg e] at h ⊢; exact h.grow hb
    case hpp =>
      intro d v w h
      by_cases e : d = 29
      · rw [if_pos e] at h ⊢; exact h.1
      · rw [if_neg e]; trivial
    case hin =>
      intro d
      by_cases e : d = 29
      · exact ⟨.tuple #[undef, .int .i64 0], by rw [if_pos e]; rfl⟩
      · exact ⟨undef, by rw [if_neg e]; trivial⟩
    case h =>
    simp only [List.take_succ_cons, List.take_zero, List.drop_succ_cons, List.drop_zero]
    apply Exists.intro
    apply Exists.intro
    refine ⟨?_, ?_, ?_⟩
    · intro ν hν
      have h29 : ν 29 = .tuple #[tupG (ν 29) 0, .int .i64 0] := hν 29
      have H29 := Lib.hid h29
      clear h29
      repeat (apply wpF_q rfl; focus (intro C hC hG; (first | go_big_quiet_skip | (go_big_quiet_want; go_big_quiet_op; first | go_big_quiet_on | (refine ⟨_, fun _ _ => rfl, ?_⟩; go_big_quiet_on)) | (go_big_quiet_want; apply qf_load1 _ _ rfl _ _ rfl; (exact hC); rotate_left 1; (focus (intro _; simp [go_sem]; done)); rotate_right 1; assumption; assumption; (simp only [Act.put, List.setIfInBounds_toArray, List.set_cons_zero, List.set_cons_succ]; go_big_quiet_on)) | (go_big_quiet_want; apply qf_loadA _ _ rfl _ _ rfl (sz := 47); (exact hC); rotate_left 1; (focus (intro _; simp [go_sem]; done)); (focus (intro _; simp [go_sem]; done)); rotate_right 1; assumption; assumption; assumption; (simp only [Act.put, List.setIfInBounds_toArray, List.set_cons_zero, List.set_cons_succ]; go_big_quiet_on)) | (go_big_quiet_want; apply qf_loadA _ _ rfl _ _ rfl (sz := 12); (exact hC); rotate_left 1; (focus (intro _; simp [go_sem]; done)); (focus (intro _; simp [go_sem]; done)); rotate_right 1; assumption; assumption; assumption; (simp only [Act.put, List.setIfInBounds_toArray, List.set_cons_zero, List.set_cons_succ]; go_big_quiet_on)) | (go_big_quiet_want; apply qf_loadA _ _ rfl _ _ rfl (sz := 16); (exact hC); rotate_left 1; (focus (intro _; simp [go_sem]; done)); (focus (intro _; simp [go_sem]; done)); rotate_right 1; assumption; assumption; assumption; (simp only [Act.put, List.setIfInBounds_toArray, List.set_cons_zero, List.set_cons_succ]; go_big_quiet_on)) | (go_big_quiet_want; apply qf_loadA _ _ rfl _ _ rfl (sz := 32); (exact hC); rotate_left 1; (focus (intro _; simp [go_sem]; done)); (focus (intro _; simp [go_sem]; done)); rotate_right 1; assumption; assumption; assumption; (simp only [Act.put, List.setIfInBounds_toArray, List.set_cons_zero, List.set_cons_succ]; go_big_quiet_on)) | (go_big_quiet_want; apply qf_loadA _ _ rfl _ _ rfl (sz := 2); (exact hC); rotate_left 1; (focus (intro _; simp [go_sem]; done)); (focus (intro _; simp [go_sem]; done)); rotate_right 1; assumption; assumption; assumption; (simp only [Act.put, List.setIfInBounds_toArray, List.set_cons_zero, List.set_cons_succ]; go_big_quiet_on))); exact wpQuiet_nil rfl))
      (apply wpF_free; (focus rfl); (focus rfl); (exact (fun w hb _ => (HBE.out w (HB3.out.below hb)).mono fun e w'' ⟨v, h1, h2, h3⟩ => ⟨v, h1, fun d hd => by cases hd; exact h2.low (Nat.le_trans q3 hb.size), h3⟩)); (focus (intro w; simp [go_sem]; done)); simp only [Act.put, vqF, Option.toList_some, List.cons_append, List.nil_append, List.setIfInBounds_toArray, List.set_cons_zero, List.set_cons_succ])
      (apply wpF_free; (focus rfl); (focus rfl); (exact (fun w hb hf => (HOPEN.out xb w _ (HBX.out.below hb) (HS3.out.below hb) (Buf.slb (show Buf 5 w _ (ν 28) bs from hf 28 (by decide) rfl))).mono fun e w'' ⟨v, h1, h2, h3⟩ => ⟨v, h1, fun d hd => by cases hd; exact ⟨h2.1, h2.2.low (Nat.le_trans q3 hb.size)⟩, h3⟩)); (focus (intro w; simp [go_sem]; done)); simp only [Act.put, vqF, Option.toList_some, List.cons_append, List.nil_append, List.setIfInBounds_toArray, List.set_cons_zero, List.set_cons_succ])
      (apply wpF_d; (focus rfl); (focus rfl); (exact fun _ => rfl); simp only [Act.put, List.setIfInBounds_toArray, List.set_cons_zero, List.set_cons_succ])
      (apply wpF_d; (focus rfl); (focus rfl); (exact (run_extract _ _ rfl rfl H29.out rfl)); simp only [Act.put, List.setIfInBounds_toArray, List.set_cons_zero, List.set_cons_succ])
      (apply wpF_d; (focus rfl); (focus rfl); (exact (run_extract _ _ rfl rfl H29.out rfl)); simp only [Act.put, List.setIfInBounds_toArray, List.set_cons_zero, List.set_cons_succ])
      (apply wpF_d; (focus rfl); (focus rfl); (exact fun _ => rfl); simp only [Act.put, List.setIfInBounds_toArray, List.set_cons_zero, List.set_cons_succ])
      exact wpF_nil ⟨rfl, rfl⟩
    · intro ν ν'
      kernel_rfl
    · intro ν w4 hν hw4 hf
      have hbo : Buf 5 w4 w.heap.size (tupG (ν 29) 0) t := (show ν 29 = .tuple #[tupG (ν 29) 0, .int .i64 0] ∧ Buf 5 w4 w.heap.size (tupG (ν 29) 0) t from hf 29 (by decide)).2
      obtain ⟨vt, hvt⟩ : ∃ v, v = ν 29 := ⟨_, rfl⟩
      obtain ⟨vb', hvb'⟩ : ∃ v, v = ν 28 := ⟨_, rfl⟩
      rw [← hvt] at hbo ⊢
      rw [← hvb']
      obtain ⟨vo, hvo⟩ : ∃ v, v = tupG vt 0 := ⟨_, rfl⟩
      rw [← hvo] at hbo ⊢
      have i4 := i3.below hw4 i3.lt
      have hA4 := hA3.trans (hw4.mono hA3.size)
      have HBO := Lib.hid hbo
      clear i3 hA3 q3 hw4 HS3 HB3 HBX hvt hvo hvb' hf hν hbo
      have hl : ¬ ((k : Int) + 16 < 16) := by omega
      have t0 : ((k + 16 : Nat) : Int) = (k : Int) + 16 := by omega
      go_wp2_with fail
      refine (gboxes_any _).mono ?_
      rintro e w5 ⟨rfl, hb5⟩
      have i5 := i4.below hb5 i4.lt
      have hA5 := hA4.trans (hb5.mono hA4.size)
      have HBO := Lib.hid (HBO.out.grow hb5)
      clear i4 hA4 hb5
      ·
        have HCT := Lib.hid (HCT.out.below hA5)
        have HTT := Lib.hid (HTT.out.below hA5)
        have t1 : IntKind.i64.wrap ((k : Int) + 16 - 16) = (k : Int) := by rw [IntKind.wrap_i64]; omega
        have t2 : (k : Int) + 16 - 16 = (k : Int) := by omega
        have t3 : ¬ (k : Int) < 0 := by omega
        have t4 : (0 : Int) ≤ (k : Int) := by omega
        have t5 : (k : Int) ≤ (cap : Int) := by omega
        have t6 : (k : Int) ≤ (k : Int) + 16 := by omega
        have hconv := run_conv_slb (P := Try.prog) w5 24 5 9 Try.underlying24 Try.underlying5 Try.underlying9 _ _ HCT.out
        clear HSN HNN
        go_upto_region 9 with (fail)
        have i6 := i5.drew
        have hA6 := hA5.drew
        have q6 := hA6.size
        have HB6 := Lib.hid (HB.out.below hA6)
        have HTT := Lib.hid (HTT.out.below (Below.refl _ _).drew)
        have HBO := Lib.hid (HBO.out.grow (Below.refl _ _).drew)
        clear i5 hA5 hconv
        refine wp_region_free 17 [55, 61] (bufF 5 w.heap.size (fun d => if d = 55 then K else bs)) (by kernel_rfl) (by kernel_rfl) (by kernel_rfl) (bufF_stab _ _ _) ?_
        simp only [List.take_succ_cons, List.take_zero, List.drop_succ_cons, List.drop_zero]
        apply Exists.intro
        apply Exists.intro
        refine ⟨?_, ?_, ?_⟩
        · intro ν
          repeat (apply wpF_q rfl; focus (intro C hC hG; (first | go_big_quiet_skip | (go_big_quiet_want; go_big_quiet_op; first | go_big_quiet_on | (refine ⟨_, fun _ _ => rfl, ?_⟩; go_big_quiet_on)) | (go_big_quiet_want; apply qf_load1 _ _ rfl _ _ rfl; (exact hC); rotate_left 1; (focus (intro _; simp [go_sem]; done)); rotate_right 1; assumption; assumption; (simp only [Act.put, List.setIfInBounds_toArray, List.set_cons_zero, List.set_cons_succ]; go_big_quiet_on)) | (go_big_quiet_want; apply qf_loadA _ _ rfl _ _ rfl (sz := 47); (exact hC); rotate_left 1; (focus (intro _; simp [go_sem]; done)); (focus (intro _; simp [go_sem]; done)); rotate_right 1; assumption; assumption; assumption; (simp only [Act.put, List.setIfInBounds_toArray, List.set_cons_zero, List.set_cons_succ]; go_big_quiet_on)) | (go_big_quiet_want; apply qf_loadA _ _ rfl _ _ rfl (sz := 12); (exact hC); rotate_left 1; (focus (intro _; simp [go_sem]; done)); (focus (intro _; simp [go_sem]; done)); rotate_right 1; assumption; assumption; assumption; (simp only [Act.put, List.setIfInBounds_toArray, List.set_cons_zero, List.set_cons_succ]; go_big_quiet_on)) | (go_big_quiet_want; apply qf_loadA _ _ rfl _ _ rfl (sz := 16); (exact hC); rotate_left 1; (focus (intro _; simp [go_sem]; done)); (focus (intro _; simp [go_sem]; done)); rotate_right 1; assumption; assumption; assumption; (simp only [Act.put, List.setIfInBounds_toArray, List.set_cons_zero, List.set_cons_succ]; go_big_quiet_on)) | (go_big_quiet_want; apply qf_loadA _ _ rfl _ _ rfl (sz := 32); (exact hC); rotate_left 1; (focus (intro _; simp [go_sem]; done)); (focus (intro _; simp [go_sem]; done)); rotate_right 1; assumption; assumption; assumption; (simp only [Act.put, List.setIfInBounds_toArray, List.set_cons_zero, List.set_cons_succ]; go_big_quiet_on)) | (go_big_quiet_want; apply qf_loadA _ _ rfl _ _ rfl (sz := 2); (exact hC); rotate_left 1; (focus (intro _; simp [go_sem]; done)); (focus (intro _; simp [go_sem]; done)); rotate_right 1; assumption; assumption; assumption; (simp only [Act.put, List.setIfInBounds_toArray, List.set_cons_zero, List.set_cons_succ]; go_big_quiet_on))); exact wpQuiet_nil rfl))
          (apply wpF_free; (focus rfl); (focus rfl); (exact (fun w hb _ => bufX hb q6 rfl (HKEY.out w))); (focus (intro w; simp [go_sem]; done)); simp only [Act.put, vqF, Option.toList_some, List.cons_append, List.nil_append, List.setIfInBounds_toArray, List.set_cons_zero, List.set_cons_succ])
          (apply wpF_q rfl; focus (intro C hC hG; go_big_quiet_want; apply qf_conv; (focus rfl); (exact hC); (focus rfl); (exact Try.underlying24); (exact Try.underlying5); (exact Try.underlying9); (exact (fun w hb hf => bufS (l := K) (hf 55 (by decide) rfl) rfl)); (simp only [Act.put, List.setIfInBounds_toArray, List.set_cons_zero, List.set_cons_succ]; go_big_quiet_on); exact wpQuiet_nil rfl))
          repeat (apply wpF_q rfl; focus (intro C hC hG; (first | go_big_quiet_skip | (go_big_quiet_want; go_big_quiet_op; first | go_big_quiet_on | (refine ⟨_, fun _ _ => rfl, ?_⟩; go_big_quiet_on)) | (go_big_quiet_want; apply qf_load1 _ _ rfl _ _ rfl; (exact hC); rotate_left 1; (focus (intro _; simp [go_sem]; done)); rotate_right 1; assumption; assumption; (simp only [Act.put, List.setIfInBounds_toArray, List.set_cons_zero, List.set_cons_succ]; go_big_quiet_on)) | (go_big_quiet_want; apply qf_loadA _ _ rfl _ _ rfl (sz := 47); (exact hC); rotate_left 1; (focus (intro _; simp [go_sem]; done)); (focus (intro _; simp [go_sem]; done)); rotate_right 1; assumption; assumption; assumption; (simp only [Act.put, List.setIfInBounds_toArray, List.set_cons_zero, List.set_cons_succ]; go_big_quiet_on)) | (go_big_quiet_want; apply qf_loadA _ _ rfl _ _ rfl (sz := 12); (exact hC); rotate_left 1; (focus (intro _; simp [go_sem]; done)); (focus (intro _; simp [go_sem]; done)); rotate_right 1; assumption; assumption; assumption; (simp only [Act.put, List.setIfInBounds_toArray, List.set_cons_zero, List.set_cons_succ]; go_big_quiet_on)) | (go_big_quiet_want; apply qf_loadA _ _ rfl _ _ rfl (sz := 16); (exact hC); rotate_left 1; (focus (intro _; simp [go_sem]; done)); (focus (intro _; simp [go_sem]; done)); rotate_right 1; assumption; assumption; assumption; (simp only [Act.put, List.setIfInBounds_toArray, List.set_cons_zero, List.set_cons_succ]; go_big_quiet_on)) | (go_big_quiet_want; apply qf_loadA _ _ rfl _ _ rfl (sz := 32); (exact hC); rotate_left 1; (focus (intro _; simp [go_sem]; done)); (focus (intro _; simp [go_sem]; done)); rotate_right 1; assumption; assumption; assumption; (simp only [Act.put, List.setIfInBounds_toArray, List.set_cons_zero, List.set_cons_succ]; go_big_quiet_on)) | (go_big_quiet_want; apply qf_loadA _ _ rfl _ _ rfl (sz := 2); (exact hC); rotate_left 1; (focus (intro _; simp [go_sem]; done)); (focus (intro _; simp [go_sem]; done)); rotate_right 1; assumption; assumption; assumption; (simp only [Act.put, List.setIfInBounds_toArray, List.set_cons_zero, List.set_cons_succ]; go_big_quiet_on))); exact wpQuiet_nil rfl))
          (apply wpF_free; (focus rfl); (focus rfl); (exact (fun w hb _ => bufX hb q6 rfl (HBE.out w (HB6.out.below hb)))); (focus (intro w; simp [go_sem]; done)); simp only [Act.put, vqF, Option.toList_some, List.cons_append, List.nil_append, List.setIfInBounds_toArray, List.set_cons_zero, List.set_cons_succ])
          (apply wpF_q rfl; focus (intro C hC hG; go_big_quiet_want; apply qf_conv; (focus rfl); (exact hC); (focus rfl); (exact Try.underlying24); (exact Try.underlying5); (exact Try.underlying9); (exact (fun w hb hf => bufS (l := bs) (hf 61 (by decide) rfl) rfl)); (simp only [Act.put, List.setIfInBounds_toArray, List.set_cons_zero, List.set_cons_succ]; go_big_quiet_on); exact wpQuiet_nil rfl))
          (apply wpF_q rfl; focus (intro C hC hG; go_big_quiet_want; apply qf_call; (exact hC); (exact hG); (exact (fun w hb hf => HTAG.out w)); (focus (intro w; simp [go_sem]; done)); (simp only [Act.put, List.setIfInBounds_toArray, List.set_cons_zero, List.set_cons_succ]; go_big_quiet_on); exact wpQuiet_nil rfl))
          repeat (apply wpF_q rfl; focus (intro C hC hG; (first | go_big_quiet_skip | (go_big_quiet_want; go_big_quiet_op; first | go_big_quiet_on | (refine ⟨_, fun _ _ => rfl, ?_⟩; go_big_quiet_on)) | (go_big_quiet_want; apply qf_load1 _ _ rfl _ _ rfl; (exact hC); rotate_left 1; (focus (intro _; simp [go_sem]; done)); rotate_right 1; assumption; assumption; (simp only [Act.put, List.setIfInBounds_toArray, List.set_cons_zero, List.set_cons_succ]; go_big_quiet_on)) | (go_big_quiet_want; apply qf_loadA _ _ rfl _ _ rfl (sz := 47); (exact hC); rotate_left 1; (focus (intro _; simp [go_sem]; done)); (focus (intro _; simp [go_sem]; done)); rotate_right 1; assumption; assumption; assumption; (simp only [Act.put, List.setIfInBounds_toArray, List.set_cons_zero, List.set_cons_succ]; go_big_quiet_on)) | (go_big_quiet_want; apply qf_loadA _ _ rfl _ _ rfl (sz := 12); (exact hC); rotate_left 1; (focus (intro _; simp [go_sem]; done)); (focus (intro _; simp [go_sem]; done)); rotate_right 1; assumption; assumption; assumption; (simp only [Act.put, List.setIfInBounds_toArray, List.set_cons_zero, List.set_cons_succ]; go_big_quiet_on)) | (go_big_quiet_want; apply qf_loadA _ _ rfl _ _ rfl (sz := 16); (exact hC); rotate_left 1; (focus (intro _; simp [go_sem]; done)); (focus (intro _; simp [go_sem]; done)); rotate_right 1; assumption; assumption; assumption; (simp only [Act.put, List.setIfInBounds_toArray, List.set_cons_zero, List.set_cons_succ]; go_big_quiet_on)) | (go_big_quiet_want; apply qf_loadA _ _ rfl _ _ rfl (sz := 32); (exact hC); rotate_left 1; (focus (intro _; simp [go_sem]; done)); (focus (intro _; simp [go_sem]; done)); rotate_right 1; assumption; assumption; assumption; (simp only [Act.put, List.setIfInBounds_toArray, List.set_cons_zero, List.set_cons_succ]; go_big_quiet_on)) | (go_big_quiet_want; apply qf_loadA _ _ rfl _ _ rfl (sz := 2); (exact hC); rotate_left 1; (focus (intro _; simp [go_sem]; done)); (focus (intro _; simp [go_sem]; done)); rotate_right 1; assumption; assumption; assumption; (simp only [Act.put, List.setIfInBounds_toArray, List.set_cons_zero, List.set_cons_succ]; go_big_quiet_on))); exact wpQuiet_nil rfl))
          (apply wpF_q rfl; focus (intro C hC hG; go_big_quiet_want; apply qf_conv; (focus rfl); (exact hC); (focus rfl); (exact Try.underlying24); (exact Try.underlying5); (exact Try.underlying9); (exact (fun w hb _ => HTT.out.below hb)); (simp only [Act.put, List.setIfInBounds_toArray, List.set_cons_zero, List.set_cons_succ]; go_big_quiet_on); exact wpQuiet_nil rfl))
          repeat (apply wpF_q rfl; focus (intro C hC hG; (first | go_big_quiet_skip | (go_big_quiet_want; go_big_quiet_op; first | go_big_quiet_on | (refine ⟨_, fun _ _ => rfl, ?_⟩; go_big_quiet_on)) | (go_big_quiet_want; apply qf_load1 _ _ rfl _ _ rfl; (exact hC); rotate_left 1; (focus (intro _; simp [go_sem]; done)); rotate_right 1; assumption; assumption; (simp only [Act.put, List.setIfInBounds_toArray, List.set_cons_zero, List.set_cons_succ]; go_big_quiet_on)) | (go_big_quiet_want; apply qf_loadA _ _ rfl _ _ rfl (sz := 47); (exact hC); rotate_left 1; (focus (intro _; simp [go_sem]; done)); (focus (intro _; simp [go_sem]; done)); rotate_right 1; assumption; assumption; assumption; (simp only [Act.put, List.setIfInBounds_toArray, List.set_cons_zero, List.set_cons_succ]; go_big_quiet_on)) | (go_big_quiet_want; apply qf_loadA _ _ rfl _ _ rfl (sz := 12); (exact hC); rotate_left 1; (focus (intro _; simp [go_sem]; done)); (focus (intro _; simp [go_sem]; done)); rotate_right 1; assumption; assumption; assumption; (simp only [Act.put, List.setIfInBounds_toArray, List.set_cons_zero, List.set_cons_succ]; go_big_quiet_on)) | (go_big_quiet_want; apply qf_loadA _ _ rfl _ _ rfl (sz := 16); (exact hC); rotate_left 1; (focus (intro _; simp [go_sem]; done)); (focus (intro _; simp [go_sem]; done)); rotate_right 1; assumption; assumption; assumption; (simp only [Act.put, List.setIfInBounds_toArray, List.set_cons_zero, List.set_cons_succ]; go_big_quiet_on)) | (go_big_quiet_want; apply qf_loadA _ _ rfl _ _ rfl (sz := 32); (exact hC); rotate_left 1; (focus (intro _; simp [go_sem]; done)); (focus (intro _; simp [go_sem]; done)); rotate_right 1; assumption; assumption; assumption; (simp only [Act.put, List.setIfInBounds_toArray, List.set_cons_zero, List.set_cons_succ]; go_big_quiet_on)) | (go_big_quiet_want; apply qf_loadA _ _ rfl _ _ rfl (sz := 2); (exact hC); rotate_left 1; (focus (intro _; simp [go_sem]; done)); (focus (intro _; simp [go_sem]; done)); rotate_right 1; assumption; assumption; assumption; (simp only [Act.put, List.setIfInBounds_toArray, List.set_cons_zero, List.set_cons_succ]; go_big_quiet_on))); exact wpQuiet_nil rfl))
          exact wpF_nil ⟨rfl, rfl⟩
        · intro ν ν'
          kernel_rfl
        · intro ν w6 hw6 _
          have hA7 := hA6.trans (hw6.mono hA6.size)
          have i7 := i6.below hw6 i6.lt
          have HBO := Lib.hid (HBO.out.grow hw6)
          clear i6 hA6 q6 hw6 HB6 HTT HCT
          go_upto_region 12 with (fail)
          have i8 := i7.drew
          have hA8 := hA7.drew
          have q8 := hA8.size
          have HBO := Lib.hid (HBO.out.grow (Below.refl _ _).drew)
          clear i7 hA7
          refine wp_region_free 14 [86] (bufF 5 w.heap.size (fun _ => K)) (by kernel_rfl) (by kernel_rfl) (by kernel_rfl) (bufF_stab _ _ _) ?_
          simp only [List.take_succ_cons, List.take_zero, List.drop_succ_cons, List.drop_zero]
          apply Exists.intro
          apply Exists.intro
          refine ⟨?_, ?_, ?_⟩
          · intro ν
            repeat (apply wpF_q rfl; focus (intro C hC hG; (first | go_big_quiet_skip | (go_big_quiet_want; go_big_quiet_op; first | go_big_quiet_on | (refine ⟨_, fun _ _ => rfl, ?_⟩; go_big_quiet_on)) | (go_big_quiet_want; apply qf_load1 _ _ rfl _ _ rfl; (exact hC); rotate_left 1; (focus (intro _; simp [go_sem]; done)); rotate_right 1; assumption; assumption; (simp only [Act.put, List.setIfInBounds_toArray, List.set_cons_zero, List.set_cons_succ]; go_big_quiet_on)) | (go_big_quiet_want; apply qf_loadA _ _ rfl _ _ rfl (sz := 47); (exact hC); rotate_left 1; (focus (intro _; simp [go_sem]; done)); (focus (intro _; simp [go_sem]; done)); rotate_right 1; assumption; assumption; assumption; (simp only [Act.put, List.setIfInBounds_toArray, List.set_cons_zero, List.set_cons_succ]; go_big_quiet_on)) | (go_big_quiet_want; apply qf_loadA _ _ rfl _ _ rfl (sz := 12); (exact hC); rotate_left 1; (focus (intro _; simp [go_sem]; done)); (focus (intro _; simp [go_sem]; done)); rotate_right 1; assumption; assumption; assumption; (simp only [Act.put, List.setIfInBounds_toArray, List.set_cons_zero, List.set_cons_succ]; go_big_quiet_on)) | (go_big_quiet_want; apply qf_loadA _ _ rfl _ _ rfl (sz := 16); (exact hC); rotate_left 1; (focus (intro _; simp [go_sem]; done)); (focus (intro _; simp [go_sem]; done)); rotate_right 1; assumption; assumption; assumption; (simp only [Act.put, List.setIfInBounds_toArray, List.set_cons_zero, List.set_cons_succ]; go_big_quiet_on)) | (go_big_quiet_want; apply qf_loadA _ _ rfl _ _ rfl (sz := 32); (exact hC); rotate_left 1; (focus (intro _; simp [go_sem]; done)); (focus (intro _; simp [go_sem]; done)); rotate_right 1; assumption; assumption; assumption; (simp only [Act.put, List.setIfInBounds_toArray, List.set_cons_zero, List.set_cons_succ]; go_big_quiet_on)) | (go_big_quiet_want; apply qf_loadA _ _ rfl _ _ rfl (sz := 2); (exact hC); rotate_left 1; (focus (intro _; simp [go_sem]; done)); (focus (intro _; simp [go_sem]; done)); rotate_right 1; assumption; assumption; assumption; (simp only [Act.put, List.setIfInBounds_toArray, List.set_cons_zero, List.set_cons_succ]; go_big_quiet_on))); exact wpQuiet_nil rfl))
            (apply wpF_q rfl; focus (intro C hC hG; go_big_quiet_want; apply qf_conv; (focus rfl); (exact hC); (focus rfl); (exact Try.underlying24); (exact Try.underlying5); (exact Try.underlying9); (exact (fun w hb _ => (HBO.out.grow hb).slb)); (simp only [Act.put, List.setIfInBounds_toArray, List.set_cons_zero, List.set_cons_succ]; go_big_quiet_on); exact wpQuiet_nil rfl))
            repeat (apply wpF_q rfl; focus (intro C hC hG; (first | go_big_quiet_skip | (go_big_quiet_want; go_big_quiet_op; first | go_big_quiet_on | (refine ⟨_, fun _ _ => rfl, ?_⟩; go_big_quiet_on)) | (go_big_quiet_want; apply qf_load1 _ _ rfl _ _ rfl; (exact hC); rotate_left 1; (focus (intro _; simp [go_sem]; done)); rotate_right 1; assumption; assumption; (simp only [Act.put, List.setIfInBounds_toArray, List.set_cons_zero, List.set_cons_succ]; go_big_quiet_on)) | (go_big_quiet_want; apply qf_loadA _ _ rfl _ _ rfl (sz := 47); (exact hC); rotate_left 1; (focus (intro _; simp [go_sem]; done)); (focus (intro _; simp [go_sem]; done)); rotate_right 1; assumption; assumption; assumption; (simp only [Act.put, List.setIfInBounds_toArray, List.set_cons_zero, List.set_cons_succ]; go_big_quiet_on)) | (go_big_quiet_want; apply qf_loadA _ _ rfl _ _ rfl (sz := 12); (exact hC); rotate_left 1; (focus (intro _; simp [go_sem]; done)); (focus (intro _; simp [go_sem]; done)); rotate_right 1; assumption; assumption; assumption; (simp only [Act.put, List.setIfInBounds_toArray, List.set_cons_zero, List.set_cons_succ]; go_big_quiet_on)) | (go_big_quiet_want; apply qf_loadA _ _ rfl _ _ rfl (sz := 16); (exact hC); rotate_left 1; (focus (intro _; simp [go_sem]; done)); (focus (intro _; simp [go_sem]; done)); rotate_right 1; assumption; assumption; assumption; (simp only [Act.put, List.setIfInBounds_toArray, List.set_cons_zero, List.set_cons_succ]; go_big_quiet_on)) | (go_big_quiet_want; apply qf_loadA _ _ rfl _ _ rfl (sz := 32); (exact hC); rotate_left 1; (focus (intro _; simp [go_sem]; done)); (focus (intro _; simp [go_sem]; done)); rotate_right 1; assumption; assumption; assumption; (simp only [Act.put, List.setIfInBounds_toArray, List.set_cons_zero, List.set_cons_succ]; go_big_quiet_on)) | (go_big_quiet_want; apply qf_loadA _ _ rfl _ _ rfl (sz := 2); (exact hC); rotate_left 1; (focus (intro _; simp [go_sem]; done)); (focus (intro _; simp [go_sem]; done)); rotate_right 1; assumption; assumption; assumption; (simp only [Act.put, List.setIfInBounds_toArray, List.set_cons_zero, List.set_cons_succ]; go_big_quiet_on))); exact wpQuiet_nil rfl))
            (apply wpF_free; (focus rfl); (focus rfl); (exact (fun w hb _ => bufX hb q8 rfl (HKEY.out w))); (focus (intro w; simp [go_sem]; done)); simp only [Act.put, vqF, Option.toList_some, List.cons_append, List.nil_append, List.setIfInBounds_toArray, List.set_cons_zero, List.set_cons_succ])
            (apply wpF_q rfl; focus (intro C hC hG; go_big_quiet_want; apply qf_conv; (focus rfl); (exact hC); (focus rfl); (exact Try.underlying24); (exact Try.underlying5); (exact Try.underlying9); (exact (fun w hb hf => bufS (l := K) (hf 86 (by decide) rfl) rfl)); (simp only [Act.put, List.setIfInBounds_toArray, List.set_cons_zero, List.set_cons_succ]; go_big_quiet_on); exact wpQuiet_nil rfl))
            repeat (apply wpF_q rfl; focus (intro C hC hG; (first | go_big_quiet_skip | (go_big_quiet_want; go_big_quiet_op; first | go_big_quiet_on | (refine ⟨_, fun _ _ => rfl, ?_⟩; go_big_quiet_on)) | (go_big_quiet_want; apply qf_load1 _ _ rfl _ _ rfl; (exact hC); rotate_left 1; (focus (intro _; simp [go_sem]; done)); rotate_right 1; assumption; assumption; (simp only [Act.put, List.setIfInBounds_toArray, List.set_cons_zero, List.set_cons_succ]; go_big_quiet_on)) | (go_big_quiet_want; apply qf_loadA _ _ rfl _ _ rfl (sz := 47); (exact hC); rotate_left 1; (focus (intro _; simp [go_sem]; done)); (focus (intro _; simp [go_sem]; done)); rotate_right 1; assumption; assumption; assumption; (simp only [Act.put, List.setIfInBounds_toArray, List.set_cons_zero, List.set_cons_succ]; go_big_quiet_on)) | (go_big_quiet_want; apply qf_loadA _ _ rfl _ _ rfl (sz := 12); (exact hC); rotate_left 1; (focus (intro _; simp [go_sem]; done)); (focus (intro _; simp [go_sem]; done)); rotate_right 1; assumption; assumption; assumption; (simp only [Act.put, List.setIfInBounds_toArray, List.set_cons_zero, List.set_cons_succ]; go_big_quiet_on)) | (go_big_quiet_want; apply qf_loadA _ _ rfl _ _ rfl (sz := 16); (exact hC); rotate_left 1; (focus (intro _; simp [go_sem]; done)); (focus (intro _; simp [go_sem]; done)); rotate_right 1; assumption; assumption; assumption; (simp only [Act.put, List.setIfInBounds_toArray, List.set_cons_zero, List.set_cons_succ]; go_big_quiet_on)) | (go_big_quiet_want; apply qf_loadA _ _ rfl _ _ rfl (sz := 32); (exact hC); rotate_left 1; (focus (intro _; simp [go_sem]; done)); (focus (intro _; simp [go_sem]; done)); rotate_right 1; assumption; assumption; assumption; (simp only [Act.put, List.setIfInBounds_toArray, List.set_cons_zero, List.set_cons_succ]; go_big_quiet_on)) | (go_big_quiet_want; apply qf_loadA _ _ rfl _ _ rfl (sz := 2); (exact hC); rotate_left 1; (focus (intro _; simp [go_sem]; done)); (focus (intro _; simp [go_sem]; done)); rotate_right 1; assumption; assumption; assumption; (simp only [Act.put, List.setIfInBounds_toArray, List.set_cons_zero, List.set_cons_succ]; go_big_quiet_on))); exact wpQuiet_nil rfl))
            (apply wpF_q rfl; focus (intro C hC hG; go_big_quiet_want; apply qf_call; (exact hC); (exact hG); (exact (fun w hb hf => HTURN.out w)); (focus (intro w; simp [go_sem]; done)); (simp only [Act.put, List.setIfInBounds_toArray, List.set_cons_zero, List.set_cons_succ]; go_big_quiet_on); exact wpQuiet_nil rfl))
            repeat (apply wpF_q rfl; focus (intro C hC hG; (first | go_big_quiet_skip | (go_big_quiet_want; go_big_quiet_op; first | go_big_quiet_on | (refine ⟨_, fun _ _ => rfl, ?_⟩; go_big_quiet_on)) | (go_big_quiet_want; apply qf_load1 _ _ rfl _ _ rfl; (exact hC); rotate_left 1; (focus (intro _; simp [go_sem]; done)); rotate_right 1; assumption; assumption; (simp only [Act.put, List.setIfInBounds_toArray, List.set_cons_zero, List.set_cons_succ]; go_big_quiet_on)) | (go_big_quiet_want; apply qf_loadA _ _ rfl _ _ rfl (sz := 47); (exact hC); rotate_left 1; (focus (intro _; simp [go_sem]; done)); (focus (intro _; simp [go_sem]; done)); rotate_right 1; assumption; assumption; assumption; (simp only [Act.put, List.setIfInBounds_toArray, List.set_cons_zero, List.set_cons_succ]; go_big_quiet_on)) | (go_big_quiet_want; apply qf_loadA _ _ rfl _ _ rfl (sz := 12); (exact hC); rotate_left 1; (focus (intro _; simp [go_sem]; done)); (focus (intro _; simp [go_sem]; done)); rotate_right 1; assumption; assumption; assumption; (simp only [Act.put, List.setIfInBounds_toArray, List.set_cons_zero, List.set_cons_succ]; go_big_quiet_on)) | (go_big_quiet_want; apply qf_loadA _ _ rfl _ _ rfl (sz := 16); (exact hC); rotate_left 1; (focus (intro _; simp [go_sem]; done)); (focus (intro _; simp [go_sem]; done)); rotate_right 1; assumption; assumption; assumption; (simp only [Act.put, List.setIfInBounds_toArray, List.set_cons_zero, List.set_cons_succ]; go_big_quiet_on)) | (go_big_quiet_want; apply qf_loadA _ _ rfl _ _ rfl (sz := 32); (exact hC); rotate_left 1; (focus (intro _; simp [go_sem]; done)); (focus (intro _; simp [go_sem]; done)); rotate_right 1; assumption; assumption; assumption; (simp only [Act.put, List.setIfInBounds_toArray, List.set_cons_zero, List.set_cons_succ]; go_big_quiet_on)) | (go_big_quiet_want; apply qf_loadA _ _ rfl _ _ rfl (sz := 2); (exact hC); rotate_left 1; (focus (intro _; simp [go_sem]; done)); (focus (intro _; simp [go_sem]; done)); rotate_right 1; assumption; assumption; assumption; (simp only [Act.put, List.setIfInBounds_toArray, List.set_cons_zero, List.set_cons_succ]; go_big_quiet_on))); exact wpQuiet_nil rfl))
            exact wpF_nil ⟨rfl, rfl⟩
          · intro ν ν'
            kernel_rfl
          · intro ν w8 hw8 _
            have hA9 := hA8.trans (hw8.mono hA8.size)
            clear i8 hA8 q8 hw8 HBO
            go_wp2_with fail
            go_ret
            exact ⟨rfl, hA9⟩
theorem gcmOpens_any (key nonce l0 bs0 : List UInt8) (short : Bool) (vp vb vs : Value) (sl : List UInt8) (w : World) (hk : key.length = 32) (hn : nonce.length = 12) (hp : SlB w vp l0) (hb : SlB w vb bs0) (hs : SlB w vs sl) :
    Calls Try.prog 12 #[.agg (letC key short nonce vp vb), vs] w fun e w' => e = .returned (.bool true) ∧ Below w.heap.size w w' := by
  by_cases h16 : 16 ≤ (sl.take 120).length
  · by_cases hg : tagF (expand (keyOf key short)) (lastOf (keyOf key short)) (hOf (keyOf key short)) nonce ((sl.take 120).take ((sl.take 120).length - 16)) (bs0.take 60) = (sl.take 120).drop ((sl.take 120).length - 16)
    · exact gopens_good key nonce l0 bs0 sl short vp vb vs w hk hn hp hb hs h16 hg
    · exact gopens_bad key nonce l0 bs0 sl short vp vb vs w hk hn hp hb hs (fun _ => hg)
  · exact gopens_bad key nonce l0 bs0 sl short vp vb vs w hk hn hp hb hs (fun h => absurd h h16)
end Go.Proofs.Ytjopgogaipkdbaa
