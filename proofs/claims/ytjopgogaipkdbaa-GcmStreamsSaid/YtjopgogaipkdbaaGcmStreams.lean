/- The law GcmStreams: the walk. -/
import Derived.Test.YtjopgogaipkdbaaSealsLaw
import Derived.Laws.AppendOwn
namespace Go.Proofs.Ytjopgogaipkdbaa
open Go.RowKit

theorem xr_mid (a b k : UInt8) : xr (xr a k) (xr b k) = xr a b := by
  unfold xr
  rw [UInt8.xor_assoc, ← UInt8.xor_assoc k b k, UInt8.xor_comm k b, UInt8.xor_assoc b k k, UInt8.xor_self, UInt8.xor_zero]
theorem SlB.cell {w : World} {b o n c : Nat} {l : List UInt8} (h : SlB w (.slice (some ⟨b, o, none⟩) n c) l) (i : Nat) (hi : i < l.length) : w.cell? ⟨b, o + i, none⟩ = some (B (gb l i)) := by
  obtain ⟨a', cap', hv, _, _, _, h4⟩ := h
  simp only [Value.slice.injEq] at hv
  exact (h4 _ hv.1.symm).2 i hi
/-- A slice of bytes stays where another one, that was empty, has grown. -/
theorem Buf.keptSlb {T base g : Nat} {w w' : World} {v : Value} {l : List UInt8} (h : Buf T w base v l) (hg : Row w g T #[]) (hw : w.grownBy w' (some g)) : SlB w' v l := by
  rcases Nat.eq_zero_or_pos l.length with h0 | h0
  · obtain ⟨a, cap, hv, h1, h2, h3, h4⟩ := h.slb
    exact ⟨a, cap, hv, h1, h2, h3, fun ad had => ⟨(h4 ad had).1, fun i hi => by omega⟩⟩
  · have hne : v.ownBlock = none ∨ v.ownBlock ≠ some g := by
      obtain ⟨k, cap, cur, rfl, _, hr, h1, _, h3, _⟩ := h.open h0
      right
      intro e
      simp only [Value.ownBlock, Option.some.injEq] at e
      subst e
      have h5 := hr.heap
      rw [hg.heap] at h5
      simp only [Option.some.injEq, Obj.cells.injEq] at h5
      rw [← h5.1] at h3
      simp at h3
      omega
    exact (h.kept hw hne).slb
theorem gb_sealB (K : List UInt8) (last : Nat) (h nonce l b : List UInt8) (i : Nat) (hi : i < l.length) : gb (sealB K last h nonce l b) i = tuB K last nonce l i := by
  rw [sealB, gb_append_left _ _ _ (by rw [turnF_len]; exact hi), turnF_tuP, gb_tuP _ _ _ _ _ _ hi]
theorem stream_xor (K : List UInt8) (last : Nat) (h nonce l q b c : List UInt8) (i : Nat) (hi : i < l.length) (hj : i < q.length) : xr (gb (sealB K last h nonce l b) i) (gb (sealB K last h nonce q c) i) = xr (gb l i) (gb q i) := by
  rw [gb_sealB _ _ _ _ _ _ _ hi, gb_sealB _ _ _ _ _ _ _ hj]
  unfold tuB
  exact xr_mid _ _ _
section
variable {P : Program} {ops : Array Oper} {W : World} {fs ds : List Tmp} {φ : Tmp → Value → World → Prop} {ν : Tmp → Value} {E : Act → List Tmp → Prop} {done : List Tmp} {o : Oper} {l : List Oper} {a : Act}
theorem wpF_alloc (hf : isF fs o = true) (hw : Region.wanted o (yielded ops a.tmps) = true)
    (hr : ∀ w, Below W.heap.size W w → (∀ d, d ∈ done → (o.looksAt ops).contains d = true → φ d (ν d) w) → ∃ v w', (execOp a.eval o).run P w = .ok (.value v) w' ∧ (∀ d, o.dst = some d → φ d v w') ∧ Below w.heap.size w w')
    (h : wpF P ops W fs ds φ ν E (o.dst.toList ++ done) l (a.put o.dst (vqF ν o))) : wpF P ops W fs ds φ ν E done (o :: l) a := by
  unfold wpF
  rw [if_pos hf]
  refine ⟨hw, fun w hp => ?_, h⟩
  obtain ⟨v, w', h1, h2, h3⟩ := hr w hp.1 hp.2
  unfold RunsF
  rw [h1]
  exact ⟨h2, h3⟩
theorem qf_loadC {C : World → Prop} {K : Act → Prop} (ty : TypeId) (x : Operand) (ho : o.op = .load ty x) (ad : Addr) (hx : a.eval x = .pointer (some ad)) (hC : ∀ w, C w → PreV W ops φ ν done o w)
    (h1 : ∀ w, (isAgg ty).run P w = .ok false w) (v : Value) (hv : ∀ w, Below W.heap.size W w → w.cell? ad = some v) (hk : K (a.put o.dst v)) : o.quiet P a C K := by
  refine ⟨v, fun w' hw' => ?_, hk⟩
  have hc := hv w' (hC w' hw').1
  unfold Oper.quietAt execOp
  simp only [ho, hx]
  simp [Instr.loadAt, Instr.sureAddr, loadVar, Sem.run_bind, h1, run_load, hc, Oper.quietUpon]
end
set_option maxRecDepth 100000 in
set_option maxHeartbeats 8000000 in
theorem gcmStreams_any (key nonce l0 bs0 : List UInt8) (short : Bool) (vp vb vs : Value) (sl : List UInt8) (w : World) (hk : key.length = 32) (hn : nonce.length = 12) (hp : SlB w vp l0) (hb : SlB w vb bs0) (hs : SlB w vs sl) :
    Calls Try.prog 9 #[.agg (letC key short nonce vp vb), vs] w fun e w' => e = .returned (.bool true) ∧ Below w.heap.size w w' := by
  obtain ⟨a, cap, hvv⟩ : ∃ a c, vs = .slice a sl.length c := let ⟨a, c, h, _⟩ := hs; ⟨a, c, h⟩
  subst hvv
  have hcap : sl.length ≤ cap := by obtain ⟨a', c', h, h1, _⟩ := hs; simp only [Value.slice.injEq] at h; omega
  have hsz := letC_size (short := short) (vp := vp) (vb := vb) hk hn
  have hno := letC_nonce (short := short) (vp := vp) (vb := vb) hk hn
  have hkk := keyOf_len key short hk
  have HKEY := Lib.hid (fun w => lkey_any key nonce short vp vb w hk)
  have HPL := Lib.hid (fun w h => lplain_any key nonce short vp vb l0 w hk hn h)
  have HBE := Lib.hid (fun w h => lbeside_any key nonce short vp vb bs0 w hk hn h)
  obtain ⟨C, hC⟩ : ∃ C, C = letC key short nonce vp vb := ⟨_, rfl⟩
  rw [← hC] at hsz hno HKEY HPL HBE ⊢
  clear hC
  obtain ⟨K, hK⟩ : ∃ K, K = keyOf key short := ⟨_, rfl⟩
  rw [← hK] at HKEY hkk
  obtain ⟨bs, hbs⟩ : ∃ l, l = bs0.take 60 := ⟨_, rfl⟩
  obtain ⟨l, hl⟩ : ∃ l, l = l0.take 100 := ⟨_, rfl⟩
  rw [← hl] at HPL
  rw [← hbs] at HBE
  have hll : l.length ≤ 100 := by rw [hl]; simp; omega
  have hbl : bs.length ≤ 60 := by rw [hbs]; simp; omega
  have hsc := sub_all C 47 hsz
  have z47 : 0 + 47 ≤ C.size := by rw [hsz]; decide
  have z33 : 33 + 12 ≤ C.size := by rw [hsz]; decide
  have hn16 := (AB_size nonce).trans hn
  obtain ⟨q, hq⟩ : ∃ q, q = sl.take 100 := ⟨_, rfl⟩
  have hqn : q.length = min 100 sl.length := by rw [hq, List.length_take]
  have hqs : SlB w (.slice a q.length cap) q := by
    rcases Nat.lt_or_ge 100 sl.length with h | h
    · rw [hqn, Nat.min_eq_left (by omega), hq]; exact hs.take 100 (by omega)
    · rw [hqn, Nat.min_eq_right h, hq, List.take_of_length_le h]; exact hs
  have hql : q.length ≤ 100 := by omega
  obtain ⟨m, hm⟩ : ∃ m, m = sl.length := ⟨_, rfl⟩
  rw [← hm] at hqn hcap ⊢
  have HN := Lib.hid hn
  have HSZ := Lib.hid hsz
  have HP := Lib.hid hp
  have HB := Lib.hid hb
  have HQ := Lib.hid hqs
  have HQN := Lib.hid hqn
  clear hK hk hn hp hb hs hqs hsz hq hm hbs hl hqn
  go_enter Try.func9, Try.ntmps9
  go_wp2_with fail
  refine (HKEY.out _).mono ?_
  rintro e w1 ⟨v1, rfl, hb1, hB1⟩
  have i1 := (Row.new w 50 C).below hB1 (by simp)
  have hA1 : Below w.heap.size w w1 := ((Below.refl _ w).alloc (Nat.le_refl _) _).trans (hB1.mono (by simp))
  have HS1 := Lib.hid hb1.slb
  clear hb1 hB1
  go_wp2_with fail
  refine (gnew_ok v1 K _ HS1.out hkk).mono ?_
  rintro e w2 ⟨p, rfl, hbx, hB2⟩
  obtain ⟨xb, hpx⟩ : ∃ xb, p = .pointer (some ⟨xb, 0, none⟩) := let ⟨a, _, h, _⟩ := hbx; ⟨a, h⟩
  subst hpx
  have i2 := i1.below hB2 i1.lt
  have hA2 := hA1.trans (hB2.mono hA1.size)
  have HBX := Lib.hid hbx
  clear hbx hB2 i1 hA1 HS1
  go_wp2_with fail
  refine (gboxes_any _).mono ?_
  rintro e w3 ⟨rfl, hb3⟩
  have i3 := i2.below hb3 i2.lt
  have hA3 := hA2.trans (hb3.mono hA2.size)
  have HBX := Lib.hid (HBX.out.below hb3)
  clear i2 hA2 hb3
  go_upto_region 4 with (fail)
  go_cut [7, 8] (fun v7 v8 wr => SlB wr v7 l ∧ SlB wr v8 q ∧ Row wr w.heap.size 50 C ∧ Below w.heap.size w wr ∧ BoxAt 84 67 23 wr (.pointer (some ⟨xb, 0, none⟩)) (expand K) (lastOf K) (hOf K))
  case first =>
    have i4 := i3.drew
    have hA4 := hA3.drew
    have q4 := hA4.size
    have HBX := Lib.hid (HBX.out.below (Below.refl _ _).drew)
    have HP4 := Lib.hid (HP.out.below hA4)
    have HQ4 := Lib.hid (HQ.out.below hA4)
    clear i3 hA3
    obtain ⟨n, hn⟩ : ∃ n, n = q.length := ⟨_, rfl⟩
    have hnm : (m ≤ 100 ∧ n = m) ∨ (100 < m ∧ n = 100) := by have := HQN.out; omega
    have hnc : n ≤ cap := by have := HQN.out; omega
    have HNE := Lib.hid hn
    have HBX2 := Lib.hid (fun w' hb => HBX.out.below (w' := w') hb)
    rw [← hn] at hql HQ4
    clear hn HQN HQ HBX
    rcases hnm with ⟨hm1, hm2⟩ | ⟨hm1, hm2⟩
    · subst hm2
      have hl1 : (n : Int) ≤ 100 := by omega
      have hl2 : ¬ (100 : Int) < (n : Int) := by omega
      have hl3 : (n : Int) ≤ (cap : Int) := by omega
      clear hm1
      refine wp_region_free 8 [26, 27] (fun d v w' => if d = 27 then ∃ g, v = .slice (some ⟨g, 0, none⟩) 0 0 ∧ w3.drew.heap.size ≤ g ∧ Row w' g 5 #[] else Buf 5 w' w3.drew.heap.size v l) (by kernel_rfl) (by kernel_rfl) (by kernel_rfl) ?hst ?h
      case hst =>
        intro d v w w' h hb
        by_cases e : d = 27
        · rw [if_pos e] at h ⊢
          obtain ⟨g, h1, h2, h3⟩ := h
          exact ⟨g, h1, h2, h3.below hb h3.lt⟩
        · rw [if_neg e] at h ⊢; exact h.grow hb
      case h =>
      simp only [List.take_succ_cons, List.take_zero, List.drop_succ_cons, List.drop_zero]
      apply Exists.intro
      apply Exists.intro
      refine ⟨?_, ?_, ?_⟩
      · intro ν
        repeat (apply wpF_q rfl; focus (intro C hC hG; (first | go_big_quiet_skip | (go_big_quiet_want; go_big_quiet_op; first | go_big_quiet_on | (refine ⟨_, fun _ _ => rfl, ?_⟩; go_big_quiet_on)) | (go_big_quiet_want; apply qf_load1 _ _ rfl _ _ rfl; (exact hC); rotate_left 1; (focus (intro _; simp [go_sem]; done)); rotate_right 1; assumption; assumption; (simp only [Act.put, List.setIfInBounds_toArray, List.set_cons_zero, List.set_cons_succ]; go_big_quiet_on)) | (go_big_quiet_want; apply qf_loadA _ _ rfl _ _ rfl (sz := 47); (exact hC); rotate_left 1; (focus (intro _; simp [go_sem]; done)); (focus (intro _; simp [go_sem]; done)); rotate_right 1; assumption; assumption; assumption; (simp only [Act.put, List.setIfInBounds_toArray, List.set_cons_zero, List.set_cons_succ]; go_big_quiet_on)) | (go_big_quiet_want; apply qf_loadA _ _ rfl _ _ rfl (sz := 12); (exact hC); rotate_left 1; (focus (intro _; simp [go_sem]; done)); (focus (intro _; simp [go_sem]; done)); rotate_right 1; assumption; assumption; assumption; (simp only [Act.put, List.setIfInBounds_toArray, List.set_cons_zero, List.set_cons_succ]; go_big_quiet_on)) | (go_big_quiet_want; apply qf_loadA _ _ rfl _ _ rfl (sz := 16); (exact hC); rotate_left 1; (focus (intro _; simp [go_sem]; done)); (focus (intro _; simp [go_sem]; done)); rotate_right 1; assumption; assumption; assumption; (simp only [Act.put, List.setIfInBounds_toArray, List.set_cons_zero, List.set_cons_succ]; go_big_quiet_on)) | (go_big_quiet_want; apply qf_loadA _ _ rfl _ _ rfl (sz := 32); (exact hC); rotate_left 1; (focus (intro _; simp [go_sem]; done)); (focus (intro _; simp [go_sem]; done)); rotate_right 1; assumption; assumption; assumption; (simp only [Act.put, List.setIfInBounds_toArray, List.set_cons_zero, List.set_cons_succ]; go_big_quiet_on)) | (go_big_quiet_want; apply qf_loadA _ _ rfl _ _ rfl (sz := 2); (exact hC); rotate_left 1; (focus (intro _; simp [go_sem]; done)); (focus (intro _; simp [go_sem]; done)); rotate_right 1; assumption; assumption; assumption; (simp only [Act.put, List.setIfInBounds_toArray, List.set_cons_zero, List.set_cons_succ]; go_big_quiet_on))); exact wpQuiet_nil rfl))
        (apply wpF_free; (focus rfl); (focus rfl); (exact (fun w hb _ => (HPL.out w (HP4.out.below hb)).mono fun e w'' ⟨v, h1, h2, h3⟩ => ⟨v, h1, fun d hd => by cases hd; exact h2.low hb.size, h3⟩)); (focus (intro w; simp [go_sem]; done)); simp only [Act.put, vqF, Option.toList_some, List.cons_append, List.nil_append, List.setIfInBounds_toArray, List.set_cons_zero, List.set_cons_succ])
        apply wpF_alloc rfl rfl
        · intro w hb _
          refine ⟨.slice (some ⟨w.heap.size, 0, none⟩) 0 0, w.alloc (.cells #[] 5), ?_, ?_, (Below.refl _ w).alloc (Nat.le_refl _) _⟩
          · simp [go_sem]
          · intro d hd
            cases hd
            exact ⟨_, rfl, hb.size, Row.new _ _ _⟩
        simp only [Act.put, vqF, Option.toList_some, List.cons_append, List.nil_append, List.setIfInBounds_toArray, List.set_cons_zero, List.set_cons_succ]
        repeat (apply wpF_q rfl; focus (intro C hC hG; (first | go_big_quiet_skip | (go_big_quiet_want; go_big_quiet_op; first | go_big_quiet_on | (refine ⟨_, fun _ _ => rfl, ?_⟩; go_big_quiet_on)) | (go_big_quiet_want; apply qf_load1 _ _ rfl _ _ rfl; (exact hC); rotate_left 1; (focus (intro _; simp [go_sem]; done)); rotate_right 1; assumption; assumption; (simp only [Act.put, List.setIfInBounds_toArray, List.set_cons_zero, List.set_cons_succ]; go_big_quiet_on)) | (go_big_quiet_want; apply qf_loadA _ _ rfl _ _ rfl (sz := 47); (exact hC); rotate_left 1; (focus (intro _; simp [go_sem]; done)); (focus (intro _; simp [go_sem]; done)); rotate_right 1; assumption; assumption; assumption; (simp only [Act.put, List.setIfInBounds_toArray, List.set_cons_zero, List.set_cons_succ]; go_big_quiet_on)) | (go_big_quiet_want; apply qf_loadA _ _ rfl _ _ rfl (sz := 12); (exact hC); rotate_left 1; (focus (intro _; simp [go_sem]; done)); (focus (intro _; simp [go_sem]; done)); rotate_right 1; assumption; assumption; assumption; (simp only [Act.put, List.setIfInBounds_toArray, List.set_cons_zero, List.set_cons_succ]; go_big_quiet_on)) | (go_big_quiet_want; apply qf_loadA _ _ rfl _ _ rfl (sz := 16); (exact hC); rotate_left 1; (focus (intro _; simp [go_sem]; done)); (focus (intro _; simp [go_sem]; done)); rotate_right 1; assumption; assumption; assumption; (simp only [Act.put, List.setIfInBounds_toArray, List.set_cons_zero, List.set_cons_succ]; go_big_quiet_on)) | (go_big_quiet_want; apply qf_loadA _ _ rfl _ _ rfl (sz := 32); (exact hC); rotate_left 1; (focus (intro _; simp [go_sem]; done)); (focus (intro _; simp [go_sem]; done)); rotate_right 1; assumption; assumption; assumption; (simp only [Act.put, List.setIfInBounds_toArray, List.set_cons_zero, List.set_cons_succ]; go_big_quiet_on)) | (go_big_quiet_want; apply qf_loadA _ _ rfl _ _ rfl (sz := 2); (exact hC); rotate_left 1; (focus (intro _; simp [go_sem]; done)); (focus (intro _; simp [go_sem]; done)); rotate_right 1; assumption; assumption; assumption; (simp only [Act.put, List.setIfInBounds_toArray, List.set_cons_zero, List.set_cons_succ]; go_big_quiet_on))); exact wpQuiet_nil rfl))
        exact wpF_nil ⟨rfl, rfl⟩
      · intro ν ν'
        kernel_rfl
      · intro ν w5 hw5 hf
        have h26 : Buf 5 w5 w3.drew.heap.size (ν 26) l := hf 26 (by decide)
        have h27 : ∃ g, ν 27 = .slice (some ⟨g, 0, none⟩) 0 0 ∧ w3.drew.heap.size ≤ g ∧ Row w5 g 5 #[] := hf 27 (by decide)
        obtain ⟨g, hg27, hg1, hg2⟩ := h27
        obtain ⟨v7, hv7⟩ : ∃ v, v = ν 26 := ⟨_, rfl⟩
        simp only [hg27]
        rw [← hv7] at h26 ⊢
        have HBG := Lib.hid (show Buf 5 w5 w3.drew.heap.size (.slice (some ⟨g, 0, none⟩) 0 0) [] from ⟨by simp, .inr ⟨g, 0, #[], rfl, hg1, hg2.heap, Nat.le_refl _, Nat.zero_le _, by simp, by simp⟩⟩)
        have H26 := Lib.hid h26
        have HG2 := Lib.hid hg2
        have HW5 := Lib.hid hw5
        have hqb : ([] : List UInt8).length + q.length ≤ 140737488355328 := by have := HNE.out; simp; omega
        have HQB := Lib.hid hqb
        have HG1 := Lib.hid hg1
        have hg5 := hg2.lt
        clear hg27 hv7 hf h26 hg2 hw5 hqb hg1
        go_wp2_with (at_builtin; refine wpl_appendS rfl (.tmp 27) (.tmp 32) 24 rfl Try.underlying24 info_u8 w3.drew.heap.size _ [] rfl HBG.out _ q rfl (HQ4.out.below HW5.out) HQB.out HW5.out.size ?_)
        intro v8 w6 hb6 hg6
        have h7 := H26.out.keptSlb HG2.out hg6
        have hB6 : Below w3.drew.heap.size w3.drew w6 := HW5.out.grown hg6 HW5.out.size (fun k e => by simp [Value.ownBlock] at e; have := HG1.out; omega)
        have h8 : SlB w6 v8 q := Buf.slb (show Buf 5 w6 w3.drew.heap.size v8 q from hb6)
        have H7 := Lib.hid h7
        have H8 := Lib.hid h8
        clear hb6 hg6 h7 h8
        go_wp2_with fail
        go_meet
        case rel => exact ⟨H7.out, H8.out, i4.below hB6 i4.lt, hA4.trans (hB6.mono hA4.size), HBX2.out _ hB6⟩
    · subst hm2
      have hl1 : ¬ ((m : Int) ≤ 100) := by omega
      have hl2 : (100 : Int) < (m : Int) := by omega
      have hl3 : (100 : Int) ≤ (cap : Int) := by omega
      clear hm1
      refine wp_region_free 8 [26, 27] (fun d v w' => if d = 27 then ∃ g, v = .slice (some ⟨g, 0, none⟩) 0 0 ∧ w3.drew.heap.size ≤ g ∧ Row w' g 5 #[] else Buf 5 w' w3.drew.heap.size v l) (by kernel_rfl) (by kernel_rfl) (by kernel_rfl) ?hst ?h
      case hst =>
        intro d v w w' h hb
        by_cases e : d = 27
        · rw [if_pos e] at h ⊢
          obtain ⟨g, h1, h2, h3⟩ := h
          exact ⟨g, h1, h2, h3.below hb h3.lt⟩
        · rw [if_neg e] at h ⊢; exact h.grow hb
      case h =>
      simp only [List.take_succ_cons, List.take_zero, List.drop_succ_cons, List.drop_zero]
      apply Exists.intro
      apply Exists.intro
      refine ⟨?_, ?_, ?_⟩
      · intro ν
        repeat (apply wpF_q rfl; focus (intro C hC hG; (first | go_big_quiet_skip | (go_big_quiet_want; go_big_quiet_op; first | go_big_quiet_on | (refine ⟨_, fun _ _ => rfl, ?_⟩; go_big_quiet_on)) | (go_big_quiet_want; apply qf_load1 _ _ rfl _ _ rfl; (exact hC); rotate_left 1; (focus (intro _; simp [go_sem]; done)); rotate_right 1; assumption; assumption; (simp only [Act.put, List.setIfInBounds_toArray, List.set_cons_zero, List.set_cons_succ]; go_big_quiet_on)) | (go_big_quiet_want; apply qf_loadA _ _ rfl _ _ rfl (sz := 47); (exact hC); rotate_left 1; (focus (intro _; simp [go_sem]; done)); (focus (intro _; simp [go_sem]; done)); rotate_right 1; assumption; assumption; assumption; (simp only [Act.put, List.setIfInBounds_toArray, List.set_cons_zero, List.set_cons_succ]; go_big_quiet_on)) | (go_big_quiet_want; apply qf_loadA _ _ rfl _ _ rfl (sz := 12); (exact hC); rotate_left 1; (focus (intro _; simp [go_sem]; done)); (focus (intro _; simp [go_sem]; done)); rotate_right 1; assumption; assumption; assumption; (simp only [Act.put, List.setIfInBounds_toArray, List.set_cons_zero, List.set_cons_succ]; go_big_quiet_on)) | (go_big_quiet_want; apply qf_loadA _ _ rfl _ _ rfl (sz := 16); (exact hC); rotate_left 1; (focus (intro _; simp [go_sem]; done)); (focus (intro _; simp [go_sem]; done)); rotate_right 1; assumption; assumption; assumption; (simp only [Act.put, List.setIfInBounds_toArray, List.set_cons_zero, List.set_cons_succ]; go_big_quiet_on)) | (go_big_quiet_want; apply qf_loadA _ _ rfl _ _ rfl (sz := 32); (exact hC); rotate_left 1; (focus (intro _; simp [go_sem]; done)); (focus (intro _; simp [go_sem]; done)); rotate_right 1; assumption; assumption; assumption; (simp only [Act.put, List.setIfInBounds_toArray, List.set_cons_zero, List.set_cons_succ]; go_big_quiet_on)) | (go_big_quiet_want; apply qf_loadA _ _ rfl _ _ rfl (sz := 2); (exact hC); rotate_left 1; (focus (intro _; simp [go_sem]; done)); (focus (intro _; simp [go_sem]; done)); rotate_right 1; assumption; assumption; assumption; (simp only [Act.put, List.setIfInBounds_toArray, List.set_cons_zero, List.set_cons_succ]; go_big_quiet_on))); exact wpQuiet_nil rfl))
        (apply wpF_free; (focus rfl); (focus rfl); (exact (fun w hb _ => (HPL.out w (HP4.out.below hb)).mono fun e w'' ⟨v, h1, h2, h3⟩ => ⟨v, h1, fun d hd => by cases hd; exact h2.low hb.size, h3⟩)); (focus (intro w; simp [go_sem]; done)); simp only [Act.put, vqF, Option.toList_some, List.cons_append, List.nil_append, List.setIfInBounds_toArray, List.set_cons_zero, List.set_cons_succ])
        apply wpF_alloc rfl rfl
        · intro w hb _
          refine ⟨.slice (some ⟨w.heap.size, 0, none⟩) 0 0, w.alloc (.cells #[] 5), ?_, ?_, (Below.refl _ w).alloc (Nat.le_refl _) _⟩
          · simp [go_sem]
          · intro d hd
            cases hd
            exact ⟨_, rfl, hb.size, Row.new _ _ _⟩
        simp only [Act.put, vqF, Option.toList_some, List.cons_append, List.nil_append, List.setIfInBounds_toArray, List.set_cons_zero, List.set_cons_succ]
        repeat (apply wpF_q rfl; focus (intro C hC hG; (first | go_big_quiet_skip | (go_big_quiet_want; go_big_quiet_op; first | go_big_quiet_on | (refine ⟨_, fun _ _ => rfl, ?_⟩; go_big_quiet_on)) | (go_big_quiet_want; apply qf_load1 _ _ rfl _ _ rfl; (exact hC); rotate_left 1; (focus (intro _; simp [go_sem]; done)); rotate_right 1; assumption; assumption; (simp only [Act.put, List.setIfInBounds_toArray, List.set_cons_zero, List.set_cons_succ]; go_big_quiet_on)) | (go_big_quiet_want; apply qf_loadA _ _ rfl _ _ rfl (sz := 47); (exact hC); rotate_left 1; (focus (intro _; simp [go_sem]; done)); (focus (intro _; simp [go_sem]; done)); rotate_right 1; assumption; assumption; assumption; (simp only [Act.put, List.setIfInBounds_toArray, List.set_cons_zero, List.set_cons_succ]; go_big_quiet_on)) | (go_big_quiet_want; apply qf_loadA _ _ rfl _ _ rfl (sz := 12); (exact hC); rotate_left 1; (focus (intro _; simp [go_sem]; done)); (focus (intro _; simp [go_sem]; done)); rotate_right 1; assumption; assumption; assumption; (simp only [Act.put, List.setIfInBounds_toArray, List.set_cons_zero, List.set_cons_succ]; go_big_quiet_on)) | (go_big_quiet_want; apply qf_loadA _ _ rfl _ _ rfl (sz := 16); (exact hC); rotate_left 1; (focus (intro _; simp [go_sem]; done)); (focus (intro _; simp [go_sem]; done)); rotate_right 1; assumption; assumption; assumption; (simp only [Act.put, List.setIfInBounds_toArray, List.set_cons_zero, List.set_cons_succ]; go_big_quiet_on)) | (go_big_quiet_want; apply qf_loadA _ _ rfl _ _ rfl (sz := 32); (exact hC); rotate_left 1; (focus (intro _; simp [go_sem]; done)); (focus (intro _; simp [go_sem]; done)); rotate_right 1; assumption; assumption; assumption; (simp only [Act.put, List.setIfInBounds_toArray, List.set_cons_zero, List.set_cons_succ]; go_big_quiet_on)) | (go_big_quiet_want; apply qf_loadA _ _ rfl _ _ rfl (sz := 2); (exact hC); rotate_left 1; (focus (intro _; simp [go_sem]; done)); (focus (intro _; simp [go_sem]; done)); rotate_right 1; assumption; assumption; assumption; (simp only [Act.put, List.setIfInBounds_toArray, List.set_cons_zero, List.set_cons_succ]; go_big_quiet_on))); exact wpQuiet_nil rfl))
        exact wpF_nil ⟨rfl, rfl⟩
      · intro ν ν'
        kernel_rfl
      · intro ν w5 hw5 hf
        have h26 : Buf 5 w5 w3.drew.heap.size (ν 26) l := hf 26 (by decide)
        have h27 : ∃ g, ν 27 = .slice (some ⟨g, 0, none⟩) 0 0 ∧ w3.drew.heap.size ≤ g ∧ Row w5 g 5 #[] := hf 27 (by decide)
        obtain ⟨g, hg27, hg1, hg2⟩ := h27
        obtain ⟨v7, hv7⟩ : ∃ v, v = ν 26 := ⟨_, rfl⟩
        simp only [hg27]
        rw [← hv7] at h26 ⊢
        have HBG := Lib.hid (show Buf 5 w5 w3.drew.heap.size (.slice (some ⟨g, 0, none⟩) 0 0) [] from ⟨by simp, .inr ⟨g, 0, #[], rfl, hg1, hg2.heap, Nat.le_refl _, Nat.zero_le _, by simp, by simp⟩⟩)
        have H26 := Lib.hid h26
        have HG2 := Lib.hid hg2
        have HW5 := Lib.hid hw5
        have hqb : ([] : List UInt8).length + q.length ≤ 140737488355328 := by have := HNE.out; simp; omega
        have HQB := Lib.hid hqb
        have HG1 := Lib.hid hg1
        have hg5 := hg2.lt
        clear hg27 hv7 hf h26 hg2 hw5 hqb hg1
        go_wp2_with (at_builtin; refine wpl_appendS rfl (.tmp 27) (.tmp 32) 24 rfl Try.underlying24 info_u8 w3.drew.heap.size _ [] rfl HBG.out _ q rfl (HQ4.out.below HW5.out) HQB.out HW5.out.size ?_)
        intro v8 w6 hb6 hg6
        have h7 := H26.out.keptSlb HG2.out hg6
        have hB6 : Below w3.drew.heap.size w3.drew w6 := HW5.out.grown hg6 HW5.out.size (fun k e => by simp [Value.ownBlock] at e; have := HG1.out; omega)
        have h8 : SlB w6 v8 q := Buf.slb (show Buf 5 w6 w3.drew.heap.size v8 q from hb6)
        have H7 := Lib.hid h7
        have H8 := Lib.hid h8
        clear hb6 hg6 h7 h8
        go_wp2_with fail
        go_meet
        case rel => exact ⟨H7.out, H8.out, i4.below hB6 i4.lt, hA4.trans (hB6.mono hA4.size), HBX2.out _ hB6⟩
  case rest =>
    clear i3 hA3 HBX
    obtain ⟨h7, h8, i4, hA4, hbx⟩ := hcut
    obtain ⟨a7, c7, e7, m7⟩ : ∃ a c, u7 = .slice a l.length c ∧ l.length ≤ c := let ⟨a, c, h, h1, _⟩ := h7; ⟨a, c, h, h1⟩
    subst e7
    have H7 := Lib.hid h7
    obtain ⟨a8, c8, e8, m8⟩ : ∃ a c, u8 = .slice a q.length c ∧ q.length ≤ c := let ⟨a, c, h, h1, _⟩ := h8; ⟨a, c, h, h1⟩
    subst e8
    have H8 := Lib.hid h8
    have HBX := Lib.hid hbx
    clear h7 h8 hbx
    go_upto_region 5 with (fail)
    have i5 := i4.drew
    have hA5 := hA4.drew
    have HBX := Lib.hid (HBX.out.below (Below.refl _ _).drew)
    have H7 := Lib.hid (H7.out.below (Below.refl _ _).drew)
    have H8 := Lib.hid (H8.out.below (Below.refl _ _).drew)
    have HB5 := Lib.hid (HB.out.below hA5)
    clear i4 hA4
    obtain ⟨A, hA⟩ : ∃ A, A = sealB (expand K) (lastOf K) (hOf K) nonce l bs := ⟨_, rfl⟩
    obtain ⟨D, hD⟩ : ∃ A, A = sealB (expand K) (lastOf K) (hOf K) nonce q bs := ⟨_, rfl⟩
    obtain ⟨G, hG⟩ : ∃ A, A = sealB (expand K) (lastOf K) (hOf K) nonce l [] := ⟨_, rfl⟩
    have hAl : A.length = l.length + 16 := by rw [hA, sealB_len]
    have hDl : D.length = q.length + 16 := by rw [hD, sealB_len]
    have hGl : G.length = l.length + 16 := by rw [hG, sealB_len]
    have hAG : A.take l.length = G.take l.length := by
      have e1 := sealB_take (expand K) (lastOf K) (hOf K) nonce l bs
      have e2 := sealB_take (expand K) (lastOf K) (hOf K) nonce l []
      rw [← hA, hAl, Nat.add_sub_cancel] at e1
      rw [← hG, hGl, Nat.add_sub_cancel] at e2
      rw [e1, e2]
    have hX : ∀ i, i < l.length → i < q.length → xr (gb A i) (gb D i) = xr (gb l i) (gb q i) := fun i h1 h2 => by
      rw [hA, hD]
      exact stream_xor _ _ _ _ _ _ _ _ _ h1 h2
    have hsA : ∀ w' vb', BoxAt 84 67 23 w' (.pointer (some ⟨xb, 0, none⟩)) (expand K) (lastOf K) (hOf K) → SlB w' (.slice a7 l.length c7) l → SlB w' vb' bs → Calls Try.prog 27 #[.pointer (some ⟨xb, 0, none⟩), .agg (AB nonce), .slice a7 l.length c7, vb'] w' fun e w'' => ∃ v', e = .returned v' ∧ Buf 5 w'' w'.heap.size v' A ∧ Below w'.heap.size w' w'' := fun w' vb' h1 h2 h3 => by
      rw [hA]
      exact gseal_any _ _ _ _ nonce _ _ l bs w' h1 HN.out h2 (by omega) h3 (by omega)
    have hsD : ∀ w' vb', BoxAt 84 67 23 w' (.pointer (some ⟨xb, 0, none⟩)) (expand K) (lastOf K) (hOf K) → SlB w' (.slice a8 q.length c8) q → SlB w' vb' bs → Calls Try.prog 27 #[.pointer (some ⟨xb, 0, none⟩), .agg (AB nonce), .slice a8 q.length c8, vb'] w' fun e w'' => ∃ v', e = .returned v' ∧ Buf 5 w'' w'.heap.size v' D ∧ Below w'.heap.size w' w'' := fun w' vb' h1 h2 h3 => by
      rw [hD]
      exact gseal_any _ _ _ _ nonce _ _ q bs w' h1 HN.out h2 (by omega) h3 (by omega)
    have hsG : ∀ w', BoxAt 84 67 23 w' (.pointer (some ⟨xb, 0, none⟩)) (expand K) (lastOf K) (hOf K) → SlB w' (.slice a7 l.length c7) l → Calls Try.prog 27 #[.pointer (some ⟨xb, 0, none⟩), .agg (AB nonce), .slice a7 l.length c7, .slice none 0 0] w' fun e w'' => ∃ v', e = .returned v' ∧ Buf 5 w'' w'.heap.size v' G ∧ Below w'.heap.size w' w'' := fun w' h1 h2 => by
      rw [hG]
      exact gseal_any _ _ _ _ nonce _ _ l [] w' h1 HN.out h2 (by omega) (SlB.nil w') (by decide)
    have HSA := Lib.hid hsA
    have HSD := Lib.hid hsD
    have HSG := Lib.hid hsG
    have HX := Lib.hid hX
    have HAG := Lib.hid hAG
    have HAL := Lib.hid hAl
    have HDL := Lib.hid hDl
    have HGL := Lib.hid hGl
    clear hA hD hG hsA hsD hsG hX hAG hAl hDl hGl
    refine wp_region_free 19 [39, 40, 46, 47, 52] (bufF 5 wc.drew.heap.size (fun d => if d = 40 then A else if d = 47 then D else if d = 52 then G else bs)) (by kernel_rfl) (by kernel_rfl) (by kernel_rfl) (bufF_stab _ _ _) ?_
    simp only [List.take_succ_cons, List.take_zero, List.drop_succ_cons, List.drop_zero]
    apply Exists.intro
    apply Exists.intro
    refine ⟨?_, ?_, ?_⟩
    · intro ν
      repeat (apply wpF_q rfl; focus (intro C hC hG; (first | go_big_quiet_skip | (go_big_quiet_want; go_big_quiet_op; first | go_big_quiet_on | (refine ⟨_, fun _ _ => rfl, ?_⟩; go_big_quiet_on)) | (go_big_quiet_want; apply qf_load1 _ _ rfl _ _ rfl; (exact hC); rotate_left 1; (focus (intro _; simp [go_sem]; done)); rotate_right 1; assumption; assumption; (simp only [Act.put, List.setIfInBounds_toArray, List.set_cons_zero, List.set_cons_succ]; go_big_quiet_on)) | (go_big_quiet_want; apply qf_loadA _ _ rfl _ _ rfl (sz := 47); (exact hC); rotate_left 1; (focus (intro _; simp [go_sem]; done)); (focus (intro _; simp [go_sem]; done)); rotate_right 1; assumption; assumption; assumption; (simp only [Act.put, List.setIfInBounds_toArray, List.set_cons_zero, List.set_cons_succ]; go_big_quiet_on)) | (go_big_quiet_want; apply qf_loadA _ _ rfl _ _ rfl (sz := 12); (exact hC); rotate_left 1; (focus (intro _; simp [go_sem]; done)); (focus (intro _; simp [go_sem]; done)); rotate_right 1; assumption; assumption; assumption; (simp only [Act.put, List.setIfInBounds_toArray, List.set_cons_zero, List.set_cons_succ]; go_big_quiet_on)) | (go_big_quiet_want; apply qf_loadA _ _ rfl _ _ rfl (sz := 16); (exact hC); rotate_left 1; (focus (intro _; simp [go_sem]; done)); (focus (intro _; simp [go_sem]; done)); rotate_right 1; assumption; assumption; assumption; (simp only [Act.put, List.setIfInBounds_toArray, List.set_cons_zero, List.set_cons_succ]; go_big_quiet_on)) | (go_big_quiet_want; apply qf_loadA _ _ rfl _ _ rfl (sz := 32); (exact hC); rotate_left 1; (focus (intro _; simp [go_sem]; done)); (focus (intro _; simp [go_sem]; done)); rotate_right 1; assumption; assumption; assumption; (simp only [Act.put, List.setIfInBounds_toArray, List.set_cons_zero, List.set_cons_succ]; go_big_quiet_on)) | (go_big_quiet_want; apply qf_loadA _ _ rfl _ _ rfl (sz := 2); (exact hC); rotate_left 1; (focus (intro _; simp [go_sem]; done)); (focus (intro _; simp [go_sem]; done)); rotate_right 1; assumption; assumption; assumption; (simp only [Act.put, List.setIfInBounds_toArray, List.set_cons_zero, List.set_cons_succ]; go_big_quiet_on))); exact wpQuiet_nil rfl))
      (apply wpF_free; (focus rfl); (focus rfl); (exact (fun w hb _ => bufX hb (Nat.le_refl _) rfl (HBE.out w (HB5.out.below hb)))); (focus (intro w; simp [go_sem]; done)); simp only [Act.put, vqF, Option.toList_some, List.cons_append, List.nil_append, List.setIfInBounds_toArray, List.set_cons_zero, List.set_cons_succ])
      (apply wpF_free; (focus rfl); (focus rfl); (exact (fun w hb hf => bufX hb (Nat.le_refl _) rfl (HSA.out w _ (HBX.out.below hb) (H7.out.below hb) (bufS (l := bs) (hf 39 (by decide) rfl) rfl)))); (focus (intro w; simp [go_sem]; done)); simp only [Act.put, vqF, Option.toList_some, List.cons_append, List.nil_append, List.setIfInBounds_toArray, List.set_cons_zero, List.set_cons_succ])
      repeat (apply wpF_q rfl; focus (intro C hC hG; (first | go_big_quiet_skip | (go_big_quiet_want; go_big_quiet_op; first | go_big_quiet_on | (refine ⟨_, fun _ _ => rfl, ?_⟩; go_big_quiet_on)) | (go_big_quiet_want; apply qf_load1 _ _ rfl _ _ rfl; (exact hC); rotate_left 1; (focus (intro _; simp [go_sem]; done)); rotate_right 1; assumption; assumption; (simp only [Act.put, List.setIfInBounds_toArray, List.set_cons_zero, List.set_cons_succ]; go_big_quiet_on)) | (go_big_quiet_want; apply qf_loadA _ _ rfl _ _ rfl (sz := 47); (exact hC); rotate_left 1; (focus (intro _; simp [go_sem]; done)); (focus (intro _; simp [go_sem]; done)); rotate_right 1; assumption; assumption; assumption; (simp only [Act.put, List.setIfInBounds_toArray, List.set_cons_zero, List.set_cons_succ]; go_big_quiet_on)) | (go_big_quiet_want; apply qf_loadA _ _ rfl _ _ rfl (sz := 12); (exact hC); rotate_left 1; (focus (intro _; simp [go_sem]; done)); (focus (intro _; simp [go_sem]; done)); rotate_right 1; assumption; assumption; assumption; (simp only [Act.put, List.setIfInBounds_toArray, List.set_cons_zero, List.set_cons_succ]; go_big_quiet_on)) | (go_big_quiet_want; apply qf_loadA _ _ rfl _ _ rfl (sz := 16); (exact hC); rotate_left 1; (focus (intro _; simp [go_sem]; done)); (focus (intro _; simp [go_sem]; done)); rotate_right 1; assumption; assumption; assumption; (simp only [Act.put, List.setIfInBounds_toArray, List.set_cons_zero, List.set_cons_succ]; go_big_quiet_on)) | (go_big_quiet_want; apply qf_loadA _ _ rfl _ _ rfl (sz := 32); (exact hC); rotate_left 1; (focus (intro _; simp [go_sem]; done)); (focus (intro _; simp [go_sem]; done)); rotate_right 1; assumption; assumption; assumption; (simp only [Act.put, List.setIfInBounds_toArray, List.set_cons_zero, List.set_cons_succ]; go_big_quiet_on)) | (go_big_quiet_want; apply qf_loadA _ _ rfl _ _ rfl (sz := 2); (exact hC); rotate_left 1; (focus (intro _; simp [go_sem]; done)); (focus (intro _; simp [go_sem]; done)); rotate_right 1; assumption; assumption; assumption; (simp only [Act.put, List.setIfInBounds_toArray, List.set_cons_zero, List.set_cons_succ]; go_big_quiet_on))); exact wpQuiet_nil rfl))
      (apply wpF_free; (focus rfl); (focus rfl); (exact (fun w hb _ => bufX hb (Nat.le_refl _) rfl (HBE.out w (HB5.out.below hb)))); (focus (intro w; simp [go_sem]; done)); simp only [Act.put, vqF, Option.toList_some, List.cons_append, List.nil_append, List.setIfInBounds_toArray, List.set_cons_zero, List.set_cons_succ])
      (apply wpF_free; (focus rfl); (focus rfl); (exact (fun w hb hf => bufX hb (Nat.le_refl _) rfl (HSD.out w _ (HBX.out.below hb) (H8.out.below hb) (bufS (l := bs) (hf 46 (by decide) rfl) rfl)))); (focus (intro w; simp [go_sem]; done)); simp only [Act.put, vqF, Option.toList_some, List.cons_append, List.nil_append, List.setIfInBounds_toArray, List.set_cons_zero, List.set_cons_succ])
      repeat (apply wpF_q rfl; focus (intro C hC hG; (first | go_big_quiet_skip | (go_big_quiet_want; go_big_quiet_op; first | go_big_quiet_on | (refine ⟨_, fun _ _ => rfl, ?_⟩; go_big_quiet_on)) | (go_big_quiet_want; apply qf_load1 _ _ rfl _ _ rfl; (exact hC); rotate_left 1; (focus (intro _; simp [go_sem]; done)); rotate_right 1; assumption; assumption; (simp only [Act.put, List.setIfInBounds_toArray, List.set_cons_zero, List.set_cons_succ]; go_big_quiet_on)) | (go_big_quiet_want; apply qf_loadA _ _ rfl _ _ rfl (sz := 47); (exact hC); rotate_left 1; (focus (intro _; simp [go_sem]; done)); (focus (intro _; simp [go_sem]; done)); rotate_right 1; assumption; assumption; assumption; (simp only [Act.put, List.setIfInBounds_toArray, List.set_cons_zero, List.set_cons_succ]; go_big_quiet_on)) | (go_big_quiet_want; apply qf_loadA _ _ rfl _ _ rfl (sz := 12); (exact hC); rotate_left 1; (focus (intro _; simp [go_sem]; done)); (focus (intro _; simp [go_sem]; done)); rotate_right 1; assumption; assumption; assumption; (simp only [Act.put, List.setIfInBounds_toArray, List.set_cons_zero, List.set_cons_succ]; go_big_quiet_on)) | (go_big_quiet_want; apply qf_loadA _ _ rfl _ _ rfl (sz := 16); (exact hC); rotate_left 1; (focus (intro _; simp [go_sem]; done)); (focus (intro _; simp [go_sem]; done)); rotate_right 1; assumption; assumption; assumption; (simp only [Act.put, List.setIfInBounds_toArray, List.set_cons_zero, List.set_cons_succ]; go_big_quiet_on)) | (go_big_quiet_want; apply qf_loadA _ _ rfl _ _ rfl (sz := 32); (exact hC); rotate_left 1; (focus (intro _; simp [go_sem]; done)); (focus (intro _; simp [go_sem]; done)); rotate_right 1; assumption; assumption; assumption; (simp only [Act.put, List.setIfInBounds_toArray, List.set_cons_zero, List.set_cons_succ]; go_big_quiet_on)) | (go_big_quiet_want; apply qf_loadA _ _ rfl _ _ rfl (sz := 2); (exact hC); rotate_left 1; (focus (intro _; simp [go_sem]; done)); (focus (intro _; simp [go_sem]; done)); rotate_right 1; assumption; assumption; assumption; (simp only [Act.put, List.setIfInBounds_toArray, List.set_cons_zero, List.set_cons_succ]; go_big_quiet_on))); exact wpQuiet_nil rfl))
      (apply wpF_free; (focus rfl); (focus rfl); (exact (fun w hb hf => bufX hb (Nat.le_refl _) rfl (HSG.out w (HBX.out.below hb) (H7.out.below hb)))); (focus (intro w; simp [go_sem]; done)); simp only [Act.put, vqF, Option.toList_some, List.cons_append, List.nil_append, List.setIfInBounds_toArray, List.set_cons_zero, List.set_cons_succ])
      exact wpF_nil ⟨rfl, rfl⟩
    · intro ν ν'
      kernel_rfl
    · intro ν w5 hw5 hf
      have h40 : SlB w5 (ν 40) A := bufS (l := A) (hf 40 (by decide)) rfl
      have h47 : SlB w5 (ν 47) D := bufS (l := D) (hf 47 (by decide)) rfl
      have h52 : SlB w5 (ν 52) G := bufS (l := G) (hf 52 (by decide)) rfl
      have z40 := HAL.out
      have z47' := HDL.out
      have z52 := HGL.out
      obtain ⟨b9, o9, c9, e40, k40, _, _, _⟩ := h40.addr (by omega)
      obtain ⟨b10, o10, c10, e47, k47, _, _, _⟩ := h47.addr (by omega)
      obtain ⟨b11, o11, c11, e52, k52, _, _, _⟩ := h52.addr (by omega)
      rw [z40] at e40 k40
      rw [z47'] at e47 k47
      rw [z52] at e52 k52
      rw [e40] at h40
      rw [e47] at h47
      rw [e52] at h52
      have ht9 := h40.take l.length (by omega)
      have ht11 := h52.take l.length (by omega)
      rw [HAG.out] at ht9
      obtain ⟨T, hT⟩ : ∃ T, T = G.take l.length := ⟨_, rfl⟩
      rw [← hT] at ht9 ht11
      have HT9 := Lib.hid ht9
      have HT11 := Lib.hid ht11
      have H9 := Lib.hid h40
      have H10 := Lib.hid h47
      have H7 := Lib.hid (H7.out.below hw5)
      have H8 := Lib.hid (H8.out.below hw5)
      have hA6 := hA5.trans (hw5.mono hA5.size)
      have hc9 : (l.length : Int) ≤ (c9 : Int) := by omega
      have hc11 : (l.length : Int) ≤ (c11 : Int) := by omega
      have y0 : ((l.length + 16 : Nat) : Int) = (l.length : Int) + 16 := by omega
      have y1 : ((q.length + 16 : Nat) : Int) = (q.length : Int) + 16 := by omega
      have y2 : IntKind.i64.wrap ((l.length : Int) + 16) = (l.length : Int) + 16 := by rw [IntKind.wrap_i64]; omega
      have y3 : IntKind.i64.wrap ((q.length : Int) + 16) = (q.length : Int) + 16 := by rw [IntKind.wrap_i64]; omega
      have y4 : (l.length : Int) ≤ (l.length : Int) + 16 := by omega
      simp only [e40, e47, e52]
      clear h40 h47 h52 z40 z47' z52 e40 e47 e52 ht9 ht11 hT hf HBX HSA HSD HSG HAG HB5 i5 hA5 hw5 HGL
      go_upto_region 6 with (fail)
      have H7 := Lib.hid (H7.out.below (Below.refl _ _).drew)
      have H8 := Lib.hid (H8.out.below (Below.refl _ _).drew)
      have H9 := Lib.hid (H9.out.below (Below.refl _ _).drew)
      have H10 := Lib.hid (H10.out.below (Below.refl _ _).drew)
      have HT9 := Lib.hid (HT9.out.below (Below.refl _ _).drew)
      have HT11 := Lib.hid (HT11.out.below (Below.refl _ _).drew)
      have hA7 := hA6.drew
      clear hA6
      refine wp_region_free 26 [] (fun _ _ _ => True) (by kernel_rfl) (by kernel_rfl) (by kernel_rfl) (fun _ _ _ _ _ _ => trivial) ?_
      simp only [List.take_succ_cons, List.take_zero, List.drop_succ_cons, List.drop_zero]
      apply Exists.intro
      apply Exists.intro
      refine ⟨?_, ?_, ?_⟩
      · intro ν'
        repeat (apply wpF_q rfl; focus (intro C hC hG; (first | go_big_quiet_skip | (go_big_quiet_want; go_big_quiet_op; first | go_big_quiet_on | (refine ⟨_, fun _ _ => rfl, ?_⟩; go_big_quiet_on)) | (go_big_quiet_want; apply qf_load1 _ _ rfl _ _ rfl; (exact hC); rotate_left 1; (focus (intro _; simp [go_sem]; done)); rotate_right 1; assumption; assumption; (simp only [Act.put, List.setIfInBounds_toArray, List.set_cons_zero, List.set_cons_succ]; go_big_quiet_on)) | (go_big_quiet_want; apply qf_loadA _ _ rfl _ _ rfl (sz := 47); (exact hC); rotate_left 1; (focus (intro _; simp [go_sem]; done)); (focus (intro _; simp [go_sem]; done)); rotate_right 1; assumption; assumption; assumption; (simp only [Act.put, List.setIfInBounds_toArray, List.set_cons_zero, List.set_cons_succ]; go_big_quiet_on)) | (go_big_quiet_want; apply qf_loadA _ _ rfl _ _ rfl (sz := 12); (exact hC); rotate_left 1; (focus (intro _; simp [go_sem]; done)); (focus (intro _; simp [go_sem]; done)); rotate_right 1; assumption; assumption; assumption; (simp only [Act.put, List.setIfInBounds_toArray, List.set_cons_zero, List.set_cons_succ]; go_big_quiet_on)) | (go_big_quiet_want; apply qf_loadA _ _ rfl _ _ rfl (sz := 16); (exact hC); rotate_left 1; (focus (intro _; simp [go_sem]; done)); (focus (intro _; simp [go_sem]; done)); rotate_right 1; assumption; assumption; assumption; (simp only [Act.put, List.setIfInBounds_toArray, List.set_cons_zero, List.set_cons_succ]; go_big_quiet_on)) | (go_big_quiet_want; apply qf_loadA _ _ rfl _ _ rfl (sz := 32); (exact hC); rotate_left 1; (focus (intro _; simp [go_sem]; done)); (focus (intro _; simp [go_sem]; done)); rotate_right 1; assumption; assumption; assumption; (simp only [Act.put, List.setIfInBounds_toArray, List.set_cons_zero, List.set_cons_succ]; go_big_quiet_on)) | (go_big_quiet_want; apply qf_loadA _ _ rfl _ _ rfl (sz := 2); (exact hC); rotate_left 1; (focus (intro _; simp [go_sem]; done)); (focus (intro _; simp [go_sem]; done)); rotate_right 1; assumption; assumption; assumption; (simp only [Act.put, List.setIfInBounds_toArray, List.set_cons_zero, List.set_cons_succ]; go_big_quiet_on))); exact wpQuiet_nil rfl))
        (apply wpF_q rfl; focus (intro C hC hG; go_big_quiet_want; apply qf_conv; (focus rfl); (exact hC); (focus rfl); (exact Try.underlying24); (exact Try.underlying5); (exact Try.underlying9); (exact (fun w hb _ => HT9.out.below hb)); (simp only [Act.put, List.setIfInBounds_toArray, List.set_cons_zero, List.set_cons_succ]; go_big_quiet_on); exact wpQuiet_nil rfl))
        repeat (apply wpF_q rfl; focus (intro C hC hG; (first | go_big_quiet_skip | (go_big_quiet_want; go_big_quiet_op; first | go_big_quiet_on | (refine ⟨_, fun _ _ => rfl, ?_⟩; go_big_quiet_on)) | (go_big_quiet_want; apply qf_load1 _ _ rfl _ _ rfl; (exact hC); rotate_left 1; (focus (intro _; simp [go_sem]; done)); rotate_right 1; assumption; assumption; (simp only [Act.put, List.setIfInBounds_toArray, List.set_cons_zero, List.set_cons_succ]; go_big_quiet_on)) | (go_big_quiet_want; apply qf_loadA _ _ rfl _ _ rfl (sz := 47); (exact hC); rotate_left 1; (focus (intro _; simp [go_sem]; done)); (focus (intro _; simp [go_sem]; done)); rotate_right 1; assumption; assumption; assumption; (simp only [Act.put, List.setIfInBounds_toArray, List.set_cons_zero, List.set_cons_succ]; go_big_quiet_on)) | (go_big_quiet_want; apply qf_loadA _ _ rfl _ _ rfl (sz := 12); (exact hC); rotate_left 1; (focus (intro _; simp [go_sem]; done)); (focus (intro _; simp [go_sem]; done)); rotate_right 1; assumption; assumption; assumption; (simp only [Act.put, List.setIfInBounds_toArray, List.set_cons_zero, List.set_cons_succ]; go_big_quiet_on)) | (go_big_quiet_want; apply qf_loadA _ _ rfl _ _ rfl (sz := 16); (exact hC); rotate_left 1; (focus (intro _; simp [go_sem]; done)); (focus (intro _; simp [go_sem]; done)); rotate_right 1; assumption; assumption; assumption; (simp only [Act.put, List.setIfInBounds_toArray, List.set_cons_zero, List.set_cons_succ]; go_big_quiet_on)) | (go_big_quiet_want; apply qf_loadA _ _ rfl _ _ rfl (sz := 32); (exact hC); rotate_left 1; (focus (intro _; simp [go_sem]; done)); (focus (intro _; simp [go_sem]; done)); rotate_right 1; assumption; assumption; assumption; (simp only [Act.put, List.setIfInBounds_toArray, List.set_cons_zero, List.set_cons_succ]; go_big_quiet_on)) | (go_big_quiet_want; apply qf_loadA _ _ rfl _ _ rfl (sz := 2); (exact hC); rotate_left 1; (focus (intro _; simp [go_sem]; done)); (focus (intro _; simp [go_sem]; done)); rotate_right 1; assumption; assumption; assumption; (simp only [Act.put, List.setIfInBounds_toArray, List.set_cons_zero, List.set_cons_succ]; go_big_quiet_on))); exact wpQuiet_nil rfl))
        (apply wpF_q rfl; focus (intro C hC hG; go_big_quiet_want; apply qf_conv; (focus rfl); (exact hC); (focus rfl); (exact Try.underlying24); (exact Try.underlying5); (exact Try.underlying9); (exact (fun w hb _ => HT11.out.below hb)); (simp only [Act.put, List.setIfInBounds_toArray, List.set_cons_zero, List.set_cons_succ]; go_big_quiet_on); exact wpQuiet_nil rfl))
        repeat (apply wpF_q rfl; focus (intro C hC hG; (first | go_big_quiet_skip | (go_big_quiet_want; go_big_quiet_op; first | go_big_quiet_on | (refine ⟨_, fun _ _ => rfl, ?_⟩; go_big_quiet_on)) | (go_big_quiet_want; apply qf_load1 _ _ rfl _ _ rfl; (exact hC); rotate_left 1; (focus (intro _; simp [go_sem]; done)); rotate_right 1; assumption; assumption; (simp only [Act.put, List.setIfInBounds_toArray, List.set_cons_zero, List.set_cons_succ]; go_big_quiet_on)) | (go_big_quiet_want; apply qf_loadA _ _ rfl _ _ rfl (sz := 47); (exact hC); rotate_left 1; (focus (intro _; simp [go_sem]; done)); (focus (intro _; simp [go_sem]; done)); rotate_right 1; assumption; assumption; assumption; (simp only [Act.put, List.setIfInBounds_toArray, List.set_cons_zero, List.set_cons_succ]; go_big_quiet_on)) | (go_big_quiet_want; apply qf_loadA _ _ rfl _ _ rfl (sz := 12); (exact hC); rotate_left 1; (focus (intro _; simp [go_sem]; done)); (focus (intro _; simp [go_sem]; done)); rotate_right 1; assumption; assumption; assumption; (simp only [Act.put, List.setIfInBounds_toArray, List.set_cons_zero, List.set_cons_succ]; go_big_quiet_on)) | (go_big_quiet_want; apply qf_loadA _ _ rfl _ _ rfl (sz := 16); (exact hC); rotate_left 1; (focus (intro _; simp [go_sem]; done)); (focus (intro _; simp [go_sem]; done)); rotate_right 1; assumption; assumption; assumption; (simp only [Act.put, List.setIfInBounds_toArray, List.set_cons_zero, List.set_cons_succ]; go_big_quiet_on)) | (go_big_quiet_want; apply qf_loadA _ _ rfl _ _ rfl (sz := 32); (exact hC); rotate_left 1; (focus (intro _; simp [go_sem]; done)); (focus (intro _; simp [go_sem]; done)); rotate_right 1; assumption; assumption; assumption; (simp only [Act.put, List.setIfInBounds_toArray, List.set_cons_zero, List.set_cons_succ]; go_big_quiet_on)) | (go_big_quiet_want; apply qf_loadA _ _ rfl _ _ rfl (sz := 2); (exact hC); rotate_left 1; (focus (intro _; simp [go_sem]; done)); (focus (intro _; simp [go_sem]; done)); rotate_right 1; assumption; assumption; assumption; (simp only [Act.put, List.setIfInBounds_toArray, List.set_cons_zero, List.set_cons_succ]; go_big_quiet_on))); exact wpQuiet_nil rfl))
        exact wpF_nil ⟨rfl, rfl⟩
      · intro ν' ν''
        rfl
      · intro ν' w6 hw6 _
        have H7 := Lib.hid (H7.out.below hw6)
        have H8 := Lib.hid (H8.out.below hw6)
        have H9 := Lib.hid (H9.out.below hw6)
        have H10 := Lib.hid (H10.out.below hw6)
        have hA8 := hA7.trans (hw6.mono hA7.size)
        clear hA7 hw6 HT9 HT11
        go_wp2_with fail
        go_loopg [12] l.length (fun g iv wr => ∃ i : Nat, g + i = l.length ∧ iv = .int .i64 (i : Int) ∧ Below w6.heap.size w6 wr)
        case atStart => exact ⟨0, by omega, rfl, Below.refl _ _⟩
        case round =>
          obtain ⟨i, hi, rfl, hbr⟩ := hrel
          have hi0 : (0 : Int) ≤ (i : Int) := by omega
          have hi3 : ((i : Int)).toNat = i := by omega
          by_cases c1 : i < l.length
          · have x1 : (i : Int) < (l.length : Int) := by omega
            by_cases c2 : i < q.length
            · have x2 : (i : Int) < (q.length : Int) := by omega
              have x3 : (i : Int) < (l.length : Int) + 16 := by omega
              have x4 : (i : Int) < (q.length : Int) + 16 := by omega
              have x5 : i < l.length + 16 := by omega
              have x6 : i < q.length + 16 := by omega
              obtain ⟨b7, o7, k7, e7, _, _, _, g7⟩ := H7.out.addr (by omega)
              simp only [Value.slice.injEq] at e7
              have e7' := e7.1
              subst e7'
              obtain ⟨b8, o8, k8, e8, _, _, _, g8⟩ := H8.out.addr (by omega)
              simp only [Value.slice.injEq] at e8
              have e8' := e8.1
              subst e8'
              clear e7 e8
              go_upto_region 11 with (fail)
              have hbd : Below w6.heap.size w6 wr.drew := hbr.drew
              have H7 := Lib.hid (H7.out.below hbd)
              have H8 := Lib.hid (H8.out.below hbd)
              have H9 := Lib.hid (H9.out.below hbd)
              have H10 := Lib.hid (H10.out.below hbd)
              have hx := HX.out i c1 c2
              clear hbr g7 g8
              refine wp_region_free 18 [] (fun _ _ _ => True) (by kernel_rfl) (by kernel_rfl) (by kernel_rfl) (fun _ _ _ _ _ _ => trivial) ?_
              simp only [List.take_succ_cons, List.take_zero, List.drop_succ_cons, List.drop_zero]
              apply Exists.intro
              apply Exists.intro
              refine ⟨?_, ?_, ?_⟩
              · intro ν'
                repeat (apply wpF_q rfl; focus (intro C hC hG; (first | go_big_quiet_skip | (go_big_quiet_want; go_big_quiet_op; first | go_big_quiet_on | (refine ⟨_, fun _ _ => rfl, ?_⟩; go_big_quiet_on)) | (go_big_quiet_want; apply qf_load1 _ _ rfl _ _ rfl; (exact hC); rotate_left 1; (focus (intro _; simp [go_sem]; done)); rotate_right 1; assumption; assumption; (simp only [Act.put, List.setIfInBounds_toArray, List.set_cons_zero, List.set_cons_succ]; go_big_quiet_on)) | (go_big_quiet_want; apply qf_loadA _ _ rfl _ _ rfl (sz := 47); (exact hC); rotate_left 1; (focus (intro _; simp [go_sem]; done)); (focus (intro _; simp [go_sem]; done)); rotate_right 1; assumption; assumption; assumption; (simp only [Act.put, List.setIfInBounds_toArray, List.set_cons_zero, List.set_cons_succ]; go_big_quiet_on)) | (go_big_quiet_want; apply qf_loadA _ _ rfl _ _ rfl (sz := 12); (exact hC); rotate_left 1; (focus (intro _; simp [go_sem]; done)); (focus (intro _; simp [go_sem]; done)); rotate_right 1; assumption; assumption; assumption; (simp only [Act.put, List.setIfInBounds_toArray, List.set_cons_zero, List.set_cons_succ]; go_big_quiet_on)) | (go_big_quiet_want; apply qf_loadA _ _ rfl _ _ rfl (sz := 16); (exact hC); rotate_left 1; (focus (intro _; simp [go_sem]; done)); (focus (intro _; simp [go_sem]; done)); rotate_right 1; assumption; assumption; assumption; (simp only [Act.put, List.setIfInBounds_toArray, List.set_cons_zero, List.set_cons_succ]; go_big_quiet_on)) | (go_big_quiet_want; apply qf_loadA _ _ rfl _ _ rfl (sz := 32); (exact hC); rotate_left 1; (focus (intro _; simp [go_sem]; done)); (focus (intro _; simp [go_sem]; done)); rotate_right 1; assumption; assumption; assumption; (simp only [Act.put, List.setIfInBounds_toArray, List.set_cons_zero, List.set_cons_succ]; go_big_quiet_on)) | (go_big_quiet_want; apply qf_loadA _ _ rfl _ _ rfl (sz := 2); (exact hC); rotate_left 1; (focus (intro _; simp [go_sem]; done)); (focus (intro _; simp [go_sem]; done)); rotate_right 1; assumption; assumption; assumption; (simp only [Act.put, List.setIfInBounds_toArray, List.set_cons_zero, List.set_cons_succ]; go_big_quiet_on))); exact wpQuiet_nil rfl))
                (apply wpF_q rfl; focus (intro C hC hG; go_big_quiet_want; apply qf_loadC; (focus rfl); (focus rfl); (exact hC); (focus (intro _; simp [go_sem]; done)); (exact (fun w hb => (H9.out.below hb).cell i (by have := HAL.out; omega))); (simp only [Act.put, List.setIfInBounds_toArray, List.set_cons_zero, List.set_cons_succ]; go_big_quiet_on); exact wpQuiet_nil rfl))
                repeat (apply wpF_q rfl; focus (intro C hC hG; (first | go_big_quiet_skip | (go_big_quiet_want; go_big_quiet_op; first | go_big_quiet_on | (refine ⟨_, fun _ _ => rfl, ?_⟩; go_big_quiet_on)) | (go_big_quiet_want; apply qf_load1 _ _ rfl _ _ rfl; (exact hC); rotate_left 1; (focus (intro _; simp [go_sem]; done)); rotate_right 1; assumption; assumption; (simp only [Act.put, List.setIfInBounds_toArray, List.set_cons_zero, List.set_cons_succ]; go_big_quiet_on)) | (go_big_quiet_want; apply qf_loadA _ _ rfl _ _ rfl (sz := 47); (exact hC); rotate_left 1; (focus (intro _; simp [go_sem]; done)); (focus (intro _; simp [go_sem]; done)); rotate_right 1; assumption; assumption; assumption; (simp only [Act.put, List.setIfInBounds_toArray, List.set_cons_zero, List.set_cons_succ]; go_big_quiet_on)) | (go_big_quiet_want; apply qf_loadA _ _ rfl _ _ rfl (sz := 12); (exact hC); rotate_left 1; (focus (intro _; simp [go_sem]; done)); (focus (intro _; simp [go_sem]; done)); rotate_right 1; assumption; assumption; assumption; (simp only [Act.put, List.setIfInBounds_toArray, List.set_cons_zero, List.set_cons_succ]; go_big_quiet_on)) | (go_big_quiet_want; apply qf_loadA _ _ rfl _ _ rfl (sz := 16); (exact hC); rotate_left 1; (focus (intro _; simp [go_sem]; done)); (focus (intro _; simp [go_sem]; done)); rotate_right 1; assumption; assumption; assumption; (simp only [Act.put, List.setIfInBounds_toArray, List.set_cons_zero, List.set_cons_succ]; go_big_quiet_on)) | (go_big_quiet_want; apply qf_loadA _ _ rfl _ _ rfl (sz := 32); (exact hC); rotate_left 1; (focus (intro _; simp [go_sem]; done)); (focus (intro _; simp [go_sem]; done)); rotate_right 1; assumption; assumption; assumption; (simp only [Act.put, List.setIfInBounds_toArray, List.set_cons_zero, List.set_cons_succ]; go_big_quiet_on)) | (go_big_quiet_want; apply qf_loadA _ _ rfl _ _ rfl (sz := 2); (exact hC); rotate_left 1; (focus (intro _; simp [go_sem]; done)); (focus (intro _; simp [go_sem]; done)); rotate_right 1; assumption; assumption; assumption; (simp only [Act.put, List.setIfInBounds_toArray, List.set_cons_zero, List.set_cons_succ]; go_big_quiet_on))); exact wpQuiet_nil rfl))
                (apply wpF_q rfl; focus (intro C hC hG; go_big_quiet_want; apply qf_loadC; (focus rfl); (focus rfl); (exact hC); (focus (intro _; simp [go_sem]; done)); (exact (fun w hb => (H10.out.below hb).cell i (by have := HDL.out; omega))); (simp only [Act.put, List.setIfInBounds_toArray, List.set_cons_zero, List.set_cons_succ]; go_big_quiet_on); exact wpQuiet_nil rfl))
                repeat (apply wpF_q rfl; focus (intro C hC hG; (first | go_big_quiet_skip | (go_big_quiet_want; go_big_quiet_op; first | go_big_quiet_on | (refine ⟨_, fun _ _ => rfl, ?_⟩; go_big_quiet_on)) | (go_big_quiet_want; apply qf_load1 _ _ rfl _ _ rfl; (exact hC); rotate_left 1; (focus (intro _; simp [go_sem]; done)); rotate_right 1; assumption; assumption; (simp only [Act.put, List.setIfInBounds_toArray, List.set_cons_zero, List.set_cons_succ]; go_big_quiet_on)) | (go_big_quiet_want; apply qf_loadA _ _ rfl _ _ rfl (sz := 47); (exact hC); rotate_left 1; (focus (intro _; simp [go_sem]; done)); (focus (intro _; simp [go_sem]; done)); rotate_right 1; assumption; assumption; assumption; (simp only [Act.put, List.setIfInBounds_toArray, List.set_cons_zero, List.set_cons_succ]; go_big_quiet_on)) | (go_big_quiet_want; apply qf_loadA _ _ rfl _ _ rfl (sz := 12); (exact hC); rotate_left 1; (focus (intro _; simp [go_sem]; done)); (focus (intro _; simp [go_sem]; done)); rotate_right 1; assumption; assumption; assumption; (simp only [Act.put, List.setIfInBounds_toArray, List.set_cons_zero, List.set_cons_succ]; go_big_quiet_on)) | (go_big_quiet_want; apply qf_loadA _ _ rfl _ _ rfl (sz := 16); (exact hC); rotate_left 1; (focus (intro _; simp [go_sem]; done)); (focus (intro _; simp [go_sem]; done)); rotate_right 1; assumption; assumption; assumption; (simp only [Act.put, List.setIfInBounds_toArray, List.set_cons_zero, List.set_cons_succ]; go_big_quiet_on)) | (go_big_quiet_want; apply qf_loadA _ _ rfl _ _ rfl (sz := 32); (exact hC); rotate_left 1; (focus (intro _; simp [go_sem]; done)); (focus (intro _; simp [go_sem]; done)); rotate_right 1; assumption; assumption; assumption; (simp only [Act.put, List.setIfInBounds_toArray, List.set_cons_zero, List.set_cons_succ]; go_big_quiet_on)) | (go_big_quiet_want; apply qf_loadA _ _ rfl _ _ rfl (sz := 2); (exact hC); rotate_left 1; (focus (intro _; simp [go_sem]; done)); (focus (intro _; simp [go_sem]; done)); rotate_right 1; assumption; assumption; assumption; (simp only [Act.put, List.setIfInBounds_toArray, List.set_cons_zero, List.set_cons_succ]; go_big_quiet_on))); exact wpQuiet_nil rfl))
                (apply wpF_q rfl; focus (intro C hC hG; go_big_quiet_want; apply qf_loadC; (focus rfl); (focus rfl); (exact hC); (focus (intro _; simp [go_sem]; done)); (exact (fun w hb => (H7.out.below hb).cell i c1)); (simp only [Act.put, List.setIfInBounds_toArray, List.set_cons_zero, List.set_cons_succ]; go_big_quiet_on); exact wpQuiet_nil rfl))
                repeat (apply wpF_q rfl; focus (intro C hC hG; (first | go_big_quiet_skip | (go_big_quiet_want; go_big_quiet_op; first | go_big_quiet_on | (refine ⟨_, fun _ _ => rfl, ?_⟩; go_big_quiet_on)) | (go_big_quiet_want; apply qf_load1 _ _ rfl _ _ rfl; (exact hC); rotate_left 1; (focus (intro _; simp [go_sem]; done)); rotate_right 1; assumption; assumption; (simp only [Act.put, List.setIfInBounds_toArray, List.set_cons_zero, List.set_cons_succ]; go_big_quiet_on)) | (go_big_quiet_want; apply qf_loadA _ _ rfl _ _ rfl (sz := 47); (exact hC); rotate_left 1; (focus (intro _; simp [go_sem]; done)); (focus (intro _; simp [go_sem]; done)); rotate_right 1; assumption; assumption; assumption; (simp only [Act.put, List.setIfInBounds_toArray, List.set_cons_zero, List.set_cons_succ]; go_big_quiet_on)) | (go_big_quiet_want; apply qf_loadA _ _ rfl _ _ rfl (sz := 12); (exact hC); rotate_left 1; (focus (intro _; simp [go_sem]; done)); (focus (intro _; simp [go_sem]; done)); rotate_right 1; assumption; assumption; assumption; (simp only [Act.put, List.setIfInBounds_toArray, List.set_cons_zero, List.set_cons_succ]; go_big_quiet_on)) | (go_big_quiet_want; apply qf_loadA _ _ rfl _ _ rfl (sz := 16); (exact hC); rotate_left 1; (focus (intro _; simp [go_sem]; done)); (focus (intro _; simp [go_sem]; done)); rotate_right 1; assumption; assumption; assumption; (simp only [Act.put, List.setIfInBounds_toArray, List.set_cons_zero, List.set_cons_succ]; go_big_quiet_on)) | (go_big_quiet_want; apply qf_loadA _ _ rfl _ _ rfl (sz := 32); (exact hC); rotate_left 1; (focus (intro _; simp [go_sem]; done)); (focus (intro _; simp [go_sem]; done)); rotate_right 1; assumption; assumption; assumption; (simp only [Act.put, List.setIfInBounds_toArray, List.set_cons_zero, List.set_cons_succ]; go_big_quiet_on)) | (go_big_quiet_want; apply qf_loadA _ _ rfl _ _ rfl (sz := 2); (exact hC); rotate_left 1; (focus (intro _; simp [go_sem]; done)); (focus (intro _; simp [go_sem]; done)); rotate_right 1; assumption; assumption; assumption; (simp only [Act.put, List.setIfInBounds_toArray, List.set_cons_zero, List.set_cons_succ]; go_big_quiet_on))); exact wpQuiet_nil rfl))
                (apply wpF_q rfl; focus (intro C hC hG; go_big_quiet_want; apply qf_loadC; (focus rfl); (focus rfl); (exact hC); (focus (intro _; simp [go_sem]; done)); (exact (fun w hb => (H8.out.below hb).cell i c2)); (simp only [Act.put, List.setIfInBounds_toArray, List.set_cons_zero, List.set_cons_succ]; go_big_quiet_on); exact wpQuiet_nil rfl))
                repeat (apply wpF_q rfl; focus (intro C hC hG; (first | go_big_quiet_skip | (go_big_quiet_want; go_big_quiet_op; first | go_big_quiet_on | (refine ⟨_, fun _ _ => rfl, ?_⟩; go_big_quiet_on)) | (go_big_quiet_want; apply qf_load1 _ _ rfl _ _ rfl; (exact hC); rotate_left 1; (focus (intro _; simp [go_sem]; done)); rotate_right 1; assumption; assumption; (simp only [Act.put, List.setIfInBounds_toArray, List.set_cons_zero, List.set_cons_succ]; go_big_quiet_on)) | (go_big_quiet_want; apply qf_loadA _ _ rfl _ _ rfl (sz := 47); (exact hC); rotate_left 1; (focus (intro _; simp [go_sem]; done)); (focus (intro _; simp [go_sem]; done)); rotate_right 1; assumption; assumption; assumption; (simp only [Act.put, List.setIfInBounds_toArray, List.set_cons_zero, List.set_cons_succ]; go_big_quiet_on)) | (go_big_quiet_want; apply qf_loadA _ _ rfl _ _ rfl (sz := 12); (exact hC); rotate_left 1; (focus (intro _; simp [go_sem]; done)); (focus (intro _; simp [go_sem]; done)); rotate_right 1; assumption; assumption; assumption; (simp only [Act.put, List.setIfInBounds_toArray, List.set_cons_zero, List.set_cons_succ]; go_big_quiet_on)) | (go_big_quiet_want; apply qf_loadA _ _ rfl _ _ rfl (sz := 16); (exact hC); rotate_left 1; (focus (intro _; simp [go_sem]; done)); (focus (intro _; simp [go_sem]; done)); rotate_right 1; assumption; assumption; assumption; (simp only [Act.put, List.setIfInBounds_toArray, List.set_cons_zero, List.set_cons_succ]; go_big_quiet_on)) | (go_big_quiet_want; apply qf_loadA _ _ rfl _ _ rfl (sz := 32); (exact hC); rotate_left 1; (focus (intro _; simp [go_sem]; done)); (focus (intro _; simp [go_sem]; done)); rotate_right 1; assumption; assumption; assumption; (simp only [Act.put, List.setIfInBounds_toArray, List.set_cons_zero, List.set_cons_succ]; go_big_quiet_on)) | (go_big_quiet_want; apply qf_loadA _ _ rfl _ _ rfl (sz := 2); (exact hC); rotate_left 1; (focus (intro _; simp [go_sem]; done)); (focus (intro _; simp [go_sem]; done)); rotate_right 1; assumption; assumption; assumption; (simp only [Act.put, List.setIfInBounds_toArray, List.set_cons_zero, List.set_cons_succ]; go_big_quiet_on))); exact wpQuiet_nil rfl))
                exact wpF_nil ⟨rfl, rfl⟩
              · intro ν' ν''
                rfl
              · intro ν' w7 hw7 _
                have hb7 : Below w6.heap.size w6 w7 := hbd.trans (hw7.mono hbd.size)
                clear hbd hw7 H7 H8 H9 H10
                go_wp2_with fail
                go_roundg (gk - 1)
                case measure => omega
                case rel => exact ⟨i + 1, by omega, by go_num, hb7⟩
            · have x2 : ¬ (i : Int) < (q.length : Int) := by omega
              go_wp2_with fail
              go_ret
              exact ⟨rfl, hA8.trans (hbr.mono hA8.size)⟩
          · have x1 : ¬ (i : Int) < (l.length : Int) := by omega
            go_wp2_with fail
            go_ret
            exact ⟨rfl, hA8.trans (hbr.mono hA8.size)⟩
end Go.Proofs.Ytjopgogaipkdbaa
