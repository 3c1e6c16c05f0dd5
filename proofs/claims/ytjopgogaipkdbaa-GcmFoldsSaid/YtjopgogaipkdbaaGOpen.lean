/- The walk of gcm's Open. -/
import Derived.Test.YtjopgogaipkdbaaGSeal
import Derived.Test.YtjopgogaipkdbaaSame
namespace Go.Proofs.Ytjopgogaipkdbaa
open Go.RowKit

theorem SlB.drop {w : World} {b o n cap : Nat} {l : List UInt8} (h : SlB w (.slice (some ⟨b, o, none⟩) n cap) l) (m : Nat) (hm : m ≤ n) : SlB w (.slice (some ⟨b, o + m, none⟩) (n - m) (cap - m)) (l.drop m) := by
  obtain ⟨a', cap', hv, h1, h2, h3, h4⟩ := h
  simp only [Value.slice.injEq] at hv
  obtain ⟨rfl, rfl, rfl⟩ := hv
  refine ⟨some ⟨b, o + m, none⟩, cap - m, by rw [List.length_drop], by rw [List.length_drop]; omega, by omega, (fun h => by cases h), fun ad had => ?_⟩
  obtain rfl := Option.some.inj had
  refine ⟨rfl, fun i hi => ?_⟩
  rw [List.length_drop] at hi
  have := (h4 _ rfl).2 (m + i) (by omega)
  simp only at this ⊢
  rw [Nat.add_assoc, this]
  simp [gb]
set_option maxRecDepth 100000 in
theorem gopen_nil (nonce : List UInt8) (vs vb : Value) (w : World) : Calls Try.prog 32 #[.pointer none, .agg (AB nonce), vs, vb] w fun e w' => e = .returned (.tuple #[.slice none 0 0, .int .i64 1]) ∧ Below w.heap.size w w' := by
  go_enter Try.func32, Try.ntmps32
  go_wp2_with fail
  go_ret2
  exact ⟨rfl, (Below.refl _ w).alloc (Nat.le_refl _) _⟩
set_option maxRecDepth 100000 in
theorem gopen_short (xb : Nat) (nonce : List UInt8) (a : Option Addr) (n cap : Nat) (vb : Value) (w : World) (hn : n < 16) : Calls Try.prog 32 #[.pointer (some ⟨xb, 0, none⟩), .agg (AB nonce), .slice a n cap, vb] w fun e w' => e = .returned (.tuple #[.slice none 0 0, .int .i64 5]) ∧ Below w.heap.size w w' := by
  have t1 : IntKind.i64.wrap ((n : Int) - 16) = (n : Int) - 16 := by rw [IntKind.wrap_i64]; omega
  have t2 : (n : Int) - 16 < 0 := by omega
  have t3 : (n : Int) < 16 := by omega
  go_enter Try.func32, Try.ntmps32
  go_wp2_with fail
  go_ret2
  exact ⟨rfl, (Below.refl _ w).alloc (Nat.le_refl _) _⟩
set_option maxRecDepth 100000 in
set_option maxHeartbeats 4000000 in
theorem gopen_any (p : Value) (K : List UInt8) (last : Nat) (h nonce : List UInt8) (vs vb : Value) (l bes : List UInt8) (w : World) (hb : BoxAt 84 67 23 w p K last h) (hn : nonce.length = 12)
    (hl : SlB w vs l) (hll : l.length ≤ 1000000) (h16 : 16 ≤ l.length) (hbs : SlB w vb bes) (hbl : bes.length ≤ 1000000) :
    Calls Try.prog 32 #[p, .agg (AB nonce), vs, vb] w fun e w' => (if tagF K last h nonce (l.take (l.length - 16)) bes = l.drop (l.length - 16) then ∃ v', e = .returned (.tuple #[v', .int .i64 0]) ∧ Buf 5 w' w.heap.size v' (turnF K last nonce (l.take (l.length - 16))) else e = .returned (.tuple #[.slice none 0 0, .int .i64 5])) ∧ Below w.heap.size w w' := by
  obtain ⟨xb, hxb⟩ : ∃ xb, p = .pointer (some ⟨xb, 0, none⟩) := let ⟨xb, _, h, _⟩ := hb; ⟨xb, h⟩
  subst hxb
  obtain ⟨sb, so, scap, rfl, hc1, hm1, hsb, _⟩ := hl.addr (by omega)
  obtain ⟨n, hnn⟩ : ∃ n, n = l.length - 16 := ⟨_, rfl⟩
  rw [← hnn]
  have hln : l.length = n + 16 := by omega
  have hct := hl.take n (by omega)
  have htt := hl.drop n (by omega)
  rw [hln] at htt
  rw [show n + 16 - n = 16 by omega] at htt
  have hcl : (l.take n).length = n := by simp; omega
  have htl : (l.drop n).length = 16 := by simp; omega
  obtain ⟨c, hc⟩ : ∃ c, c = l.take n := ⟨_, rfl⟩
  obtain ⟨tg, htg⟩ : ∃ t, t = l.drop n := ⟨_, rfl⟩
  rw [← hc] at hct hcl ⊢
  rw [← htg] at htt htl ⊢
  rw [hln] at hc1 ⊢
  have hnb : n ≤ 1000000 := by omega
  have HB := Lib.hid hb
  have HC := Lib.hid hct
  have HT := Lib.hid htt
  have HS := Lib.hid hbs
  have HCL := Lib.hid hcl
  have hn16 := (AB_size nonce).trans hn
  have zn : 0 + 12 ≤ (AB nonce).size := by rw [hn16]; decide
  have hsn := sub_all (AB nonce) 12 hn16
  have t0 : ((n + 16 : Nat) : Int) = (n : Int) + 16 := by omega
  have t1 : IntKind.i64.wrap ((n : Int) + 16 - 16) = (n : Int) := by rw [IntKind.wrap_i64]; omega
  have t2 : (n : Int) + 16 - 16 = (n : Int) := by omega
  have t3 : ¬ (n : Int) < 0 := by omega
  have t4 : (0 : Int) ≤ (n : Int) := by omega
  have t5 : (n : Int) ≤ (scap : Int) := by omega
  have t6 : (n : Int) ≤ (n : Int) + 16 := by omega
  clear hb hl hct htt hbs hc htg hln hcl hnn
  go_enter Try.func32, Try.ntmps32
  go_upto_region 6 with (fail)
  obtain ⟨w0, hw0⟩ : ∃ w0, w0 = w.alloc (.cells (AB nonce) 48) := ⟨_, rfl⟩
  rw [← hw0]
  have r5 : Row w0.drew w.heap.size 48 (AB nonce) := by rw [hw0]; exact Row.new w _ _
  have hB0 : Below w.heap.size w w0.drew := by rw [hw0]; exact ((Below.refl _ w).alloc (Nat.le_refl _) _).drew
  have hs0 : w0.drew.heap.size = w.heap.size + 1 := by rw [hw0]; simp
  clear hw0
  have hgl := tagF_len K last h nonce c bes
  obtain ⟨G, hG⟩ : ∃ G, G = tagF K last h nonce c bes := ⟨_, rfl⟩
  have htag : ∀ w', Below w0.drew.heap.size w0.drew w' → Calls Try.prog 50 #[.pointer (some ⟨xb, 0, none⟩), .agg (AB nonce), .slice (some ⟨sb, so, none⟩) n scap, vb] w' (fun e w'' => e = .returned (.agg (AB G)) ∧ Below w'.heap.size w' w'') := fun w' hb => by
    have hbw := hB0.trans (hb.mono hB0.size)
    rw [hG]
    exact tag_any _ K last h nonce _ _ c bes w' (HB.out.below hbw) hn (HC.out.below hbw) (by rw [HCL.out]; exact hnb) (HS.out.below hbw) hbl
  rw [← hG] at hgl
  have HG := Lib.hid hG
  have HTA := Lib.hid htag
  have hG16 := (AB_size G).trans hgl
  clear hG htag
  refine wp_region_allocs 8 [0, 1, 2, 3, 4, 5, 6] [7] (fun _ => .cells (AB (List.replicate 16 0)) 23) (by kernel_rfl) (by kernel_rfl) (by kernel_rfl) (by kernel_rfl) ?hal ?h
  case hal =>
    intro k hk o ho
    simp only [List.mem_cons, List.not_mem_nil, or_false] at hk
    subst hk
    cases ho
    exact alF_b16 _ _ _ _ _
  case h =>
    apply Exists.intro
    refine ⟨fun R => ?_, ?_⟩
    · simp only [List.map_cons, List.map_nil, List.getD_cons_zero, List.getD_cons_succ]
      repeat (first | go_big_quiet_skip | (go_big_quiet_want; go_big_quiet_op; first | go_big_quiet_on | (refine ⟨_, fun _ _ => rfl, ?_⟩; go_big_quiet_on)) | (go_big_quiet_want; apply qa_load1 _ _ rfl _ _ rfl; rotate_left 1; (focus (intro _; simp [go_sem]; done)); rotate_right 1; assumption; assumption; (simp only [Act.put, List.setIfInBounds_toArray, List.set_cons_zero, List.set_cons_succ]; go_big_quiet_on)) | (go_big_quiet_want; apply qa_loadA _ _ rfl _ _ rfl (sz := 16); rotate_left 1; (focus (intro _; simp [go_sem]; done)); (focus (intro _; simp [go_sem]; done)); rotate_right 1; assumption; assumption; assumption; (simp only [Act.put, List.setIfInBounds_toArray, List.set_cons_zero, List.set_cons_succ]; go_big_quiet_on)) | (go_big_quiet_want; apply qa_loadA _ _ rfl _ _ rfl (sz := 2); rotate_left 1; (focus (intro _; simp [go_sem]; done)); (focus (intro _; simp [go_sem]; done)); rotate_right 1; assumption; assumption; assumption; (simp only [Act.put, List.setIfInBounds_toArray, List.set_cons_zero, List.set_cons_succ]; go_big_quiet_on)) | (go_big_quiet_want; apply qa_loadA _ _ rfl _ _ rfl (sz := 12); rotate_left 1; (focus (intro _; simp [go_sem]; done)); (focus (intro _; simp [go_sem]; done)); rotate_right 1; assumption; assumption; assumption; (simp only [Act.put, List.setIfInBounds_toArray, List.set_cons_zero, List.set_cons_succ]; go_big_quiet_on)))
      (go_big_quiet_want; refine qa_call _ _ ?_ _ HTA.out ?_; (focus (intro w; simp [go_sem]; done)); (simp only [Act.put, List.setIfInBounds_toArray, List.set_cons_zero, List.set_cons_succ]; go_big_quiet_on))
      exact wpQuiet_nil rfl
    · refine wpAl_cons rfl ?_
      intro g hg _
      intro w1 hcc
      have k11 : Row w1 g 23 (AB (List.replicate 16 0)) := .of_heap (hcc.2 g _ (upd_same _ _ _))
      have k5 := r5.below hcc.1 r5.lt
      have hB1 := hB0.trans (hcc.1.mono hB0.size)
      have ng : w.heap.size + 1 ≤ g := by omega
      have hz16 : (AB (List.replicate 16 0)).size = 16 := by rw [AB_size, List.length_replicate]
      clear hcc r5 hB0 hg hs0
      simp only [Act.put, List.setIfInBounds_toArray, ptr, List.drop_succ_cons, List.drop_zero]
      go_upto_region 7 with (fail)
      obtain ⟨w2, hw2⟩ : ∃ w2, w2 = w1.setRow g (AB G) := ⟨_, rfl⟩
      rw [← hw2]
      have j11 : Row w2 g 23 (AB G) := by rw [hw2]; exact k11.setRow _
      have j5 : Row w2 w.heap.size 48 (AB nonce) := by rw [hw2]; exact k5.setRowOther _ _ (by omega)
      have hB2 : Below w.heap.size w w2 := by rw [hw2]; exact bSetRow hB1 (by omega) _
      clear hw2 k11 k5 hB1
      refine wp_region_qtail (fun w' => w' = _) 4 (by kernel_rfl) (by kernel_rfl) rfl ?_
      simp only [List.take_succ_cons, List.take_zero, List.drop_succ_cons, List.drop_zero]
      repeat (first | go_big_quiet_skip | (go_big_quiet_want; go_big_quiet_op; go_big_quiet_on))
      refine wpQuiet_nil ?_
      rintro _ rfl
      go_wp2_with fail
      have hB2d := hB2.drew
      have l11 := j11.lt
      refine (same_any _ _ G tg w2.drew (SlB.of_row j11.drew hgl (by decide)) (HT.out.below hB2d) hgl htl).mono ?_
      rintro e w3 ⟨rfl, hb3⟩
      have i5 := j5.drew.below hb3 j5.lt
      have hB3 := hB2d.trans (hb3.mono hB2d.size)
      clear j11 j5 hB2 hB2d hb3 l11
      by_cases he : G = tg
      · rw [decide_eq_true he]
        have hif : tagF K last h nonce c bes = tg := by rw [← HG.out]; exact he
        have HIF := Lib.hid hif
        clear he hif
        go_upto_region 9 with (fail)
        have q5 := i5.drew
        have hB3d := hB3.drew
        refine wp_region_qtail (fun w' => w' = _) 5 (by kernel_rfl) (by kernel_rfl) rfl ?_
        simp only [List.take_succ_cons, List.take_zero, List.drop_succ_cons, List.drop_zero]
        repeat (first | go_big_quiet_skip | (go_big_quiet_want; go_big_quiet_op; go_big_quiet_on))
        refine wpQuiet_nil ?_
        rintro _ rfl
        go_wp2_with fail
        refine (turn_any _ K last h nonce _ c w3.drew (HB.out.below hB3d) hn (HC.out.below hB3d) (by rw [HCL.out]; exact hnb)).mono ?_
        rintro e w4 ⟨v', rfl, hbuf, hb4⟩
        have HBU := Lib.hid (hbuf.low (b' := w.heap.size) hB3d.size)
        have hB4 := hB3d.trans (hb4.mono hB3d.size)
        clear hbuf hb4
        go_wp2_with fail
        go_ret2
        exact ⟨⟨_, rfl, HBU.out⟩, hB4⟩
      · rw [decide_eq_false he]
        have hif : ¬ tagF K last h nonce c bes = tg := by rw [← HG.out]; exact he
        have HIF := Lib.hid hif
        clear he hif
        go_wp2_with fail
        go_ret2
        exact ⟨rfl, hB3⟩
end Go.Proofs.Ytjopgogaipkdbaa
