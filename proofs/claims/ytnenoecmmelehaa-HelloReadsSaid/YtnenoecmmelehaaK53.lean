/- Part of the proof: HelloReads. No conditions of its own. -/
import Derived.Below
import Derived.BigQuiet
import Derived.ChangeOld
import Derived.Deep.AppendLies
import Derived.Deep.CutBlock
import Derived.Deep.DeepCutAuto
import Derived.Deep.Draws
import Derived.Deep.LoopGhost
import Derived.Deep.Quiet
import Derived.Deep.QuietTactic
import Derived.Deep.RegionLaw
import Derived.Great.BuildSlice
import Derived.Great.FillDense
import Derived.Laws.AppendOwn
import Derived.Laws.AppendOwnNone
import Derived.Laws.BytesArg
import Derived.Laws.Concat
import Derived.Laws.MakeOwn
import Derived.Lib.AppendZerosOnto
import Derived.Lib.BufferWrite
import Derived.Lib.ConvBytes
import Derived.Lib.Hide
import Derived.Lib.SlBytesConst
import Derived.OpenShut
import Derived.ProofKit
import Derived.ShutString
import Derived.StillTail
import Derived.Stop.BytesEq
import Derived.Test.YtnenoecmmelehaaProg
import Derived.WalkKit
import Derived.WalkLawsBesides
import Derived.WalkSpells
import Derived.Test.YtnenoecmmelehaaK43
import Derived.Test.YtnenoecmmelehaaK45
import Derived.Test.YtnenoecmmelehaaK52
namespace Go.Proofs.Ytnenoecmmelehaa
open Go.RowKit
set_option linter.unusedVariables false
set_option linter.unusedSimpArgs false

theorem readBy_small (b : List UInt8) : SmallM (readBy parseP b).1 := by
  unfold readBy
  split
  · exact emptyM_small 0
  split
  · exact emptyM_small 0
  split
  · exact emptyM_small 0
  split
  · exact emptyM_small 0
  split
  · exact parseP_small _ _
  · exact emptyM_small 0
theorem SlB.keptB {w w' : World} {base g : Nat} {v : Value} {l : List UInt8} (h : SlT w v l ∧ ∀ ad, addrV v = some ad → base ≤ ad.block) (hg : w.grownBy w' (some g)) (hlt : g < base) : SlT w' v l := by
  have key : ∀ ad, addrV v = some ad → w'.heap[ad.block]? = w.heap[ad.block]? := fun ad had => by
    obtain ⟨cs, f, hf⟩ := h.1.2 ad had
    refine hg.block _ (Array.getElem?_eq_some_iff.1 hf).1 fun e => ?_
    have := h.2 ad had
    have := Option.some.inj e
    omega
  refine ⟨?_, fun ad had => by rw [key ad had]; exact h.1.2 ad had⟩
  obtain ⟨⟨a, cap, e, h1, h2, h3, h4⟩, _⟩ := h.1
  refine ⟨a, cap, e, h1, h2, h3, fun ad had => ⟨(h4 ad had).1, fun i hi => ?_⟩⟩
  have := key ad (by rw [e]; exact had)
  rw [show w'.cell? ⟨ad.block, ad.off + i, none⟩ = w.cell? ⟨ad.block, ad.off + i, none⟩ by simp [World.cell?, this]]
  exact (h4 ad had).2 i hi
theorem RowT.keptB {w w' : World} {base g : Nat} (hg : w.grownBy w' (some g)) (hlt : g < base) : ∀ {vs : List Value} {ls : List (List UInt8)}, RowT w vs ls → (∀ v, v ∈ vs → ∀ ad, addrV v = some ad → base ≤ ad.block) → RowT w' vs ls
  | [], [], _, _ => trivial
  | v :: vs, _ :: _, h, k => ⟨SlB.keptB ⟨h.1, k v (by simp)⟩ hg hlt, RowT.keptB hg hlt h.2 (fun u hu => k u (by simp [hu]))⟩
  | [], _ :: _, h, _ => h.elim
  | _ :: _, [], h, _ => h.elim
theorem MsgN.keptB {w w' : World} {base g : Nat} {C : Array Value} {m : MsgP} (h : MsgN w base C m) (hg : w.grownBy w' (some g)) (hlt : g < base) : MsgN w' base C m := by
  obtain ⟨v1, v2, v3, v4, v5, vc, vs, e, h1, h2, h3, h4, h5, h6⟩ := h
  exact ⟨v1, v2, v3, v4, v5, vc, vs, e, h1, h2, fun p hp => ⟨SlB.keptB (h3 p hp) hg hlt, (h3 p hp).2⟩, World.ownsRow.kept h4 hg (.inr fun e => by have := (World.ownsRow.lt h4 g e).1; omega), h5.keptB hg hlt h6, h6⟩
theorem RMsgT.keptB {w w' : World} {C cs : Array Value} {m : MsgP} {g : Nat} (h : RMsgT w C m) (hg : w.grownBy w' (some g)) (hr : Row w g 5 cs) : RMsgT w' C m := by
  obtain ⟨⟨a, c, e, hs, h1, h2⟩, h3⟩ := h
  rcases h3 with h3 | ⟨base, v, h4, h5⟩
  · refine ⟨⟨a, c, e, ?_, h1, h2⟩, .inl h3⟩
    obtain ⟨a', c', e', k1, k2, _⟩ := hs
    exact ⟨a', c', e', k1, k2, fun i hi => by rw [h3] at hi; cases hi⟩
  · have h6 := h5.keptT hg hr (by decide)
    refine ⟨⟨a, c, e, ?_, h1, h2⟩, .inr ⟨base, v, h4, h6⟩⟩
    rw [e, mD_70] at h4
    rw [Option.some.inj h4]
    exact h6.strs
structure HR (w : World) (base g3 g6 : Nat) (wr : World) (C D : Array Value) (m : MsgP) : Prop where
  r3 : Row wr g3 30 C
  r6 : Row wr g6 25 D
  n : MsgN wr base C m
  t : RMsgT wr D m
  bel : Below w.heap.size w wr
theorem HR.store {w wr : World} {base g3 g6 gb : Nat} {C D cs : Array Value} {m : MsgP} (h : HR w base g3 g6 wr C D m) (hr : Row wr gb 5 cs) (h1 : gb < base) (h2 : w.heap.size ≤ gb) (i : Nat) (v : Value) : HR w base g3 g6 (wr.setCell ⟨gb, i, none⟩ v) C D m := by
  have hne : ∀ {g : Nat} {t : TypeId} {c : Array Value}, Row wr g t c → t ≠ 5 → g ≠ gb := fun hr' ht e => by
    subst e
    have h1 := hr.heap
    rw [hr'.heap] at h1
    simp only [Option.some.injEq, Obj.cells.injEq] at h1
    exact ht h1.2.1
  exact ⟨h.r3.setOther _ _ (hne h.r3 (by decide)), h.r6.setOther _ _ (hne h.r6 (by decide)), h.n.keptB (grownBy_set _ _ _ _) h1, h.t.keptB (grownBy_set _ _ _ _) hr, h.bel.setCell (p := ⟨gb, i, none⟩) h2 v⟩
theorem HR.below {w wr w' : World} {base g3 g6 : Nat} {C D : Array Value} {m : MsgP} (h : HR w base g3 g6 wr C D m) (hb : Below wr.heap.size wr w') : HR w base g3 g6 w' C D m :=
  ⟨Row.below h.r3 hb h.r3.lt, Row.below h.r6 hb h.r6.lt, h.n.below hb, h.t.below hb, h.bel.trans (hb.mono h.bel.size)⟩
set_option maxRecDepth 100000 in
set_option maxHeartbeats 4000000 in
theorem hreads (vb : Value) (l : List UInt8) (w : World) (h : SlB w vb l) : Calls Try.prog 4 #[vb] w fun e w' => e = .returned (.bool true) ∧ Below w.heap.size w w' := by
  obtain ⟨a, cap, rfl, k1, k2, _⟩ := id h
  obtain ⟨k, hk⟩ : ∃ k, k = min l.length 12000 := ⟨_, rfl⟩
  have m1 := fun ts t w => run_min_nat l.length 12000 k hk _ 12000 rfl rfl ts t w
  have hk1 : k ≤ l.length := by omega
  have hk2 : k ≤ 12000 := by omega
  have x1 : (0 : Int) ≤ (k : Int) := by omega
  have x2 : (k : Int) ≤ (cap : Int) := by omega
  have HTK := Lib.hid (h.take k hk1)
  have hlk : (l.take k).length = k := by rw [List.length_take]; omega
  obtain ⟨L, hL⟩ : ∃ L, L = l.take k := ⟨_, rfl⟩
  rw [← hL] at HTK hlk
  have HLK := Lib.hid hlk
  clear h hk hk1 hL hlk
  have hB0 : Below w.heap.size w (w.alloc (.cells #[] 5)) := (Below.refl _ w).alloc (Nat.le_refl _) _
  have HB0 := Lib.hid hB0
  have HTK2 := Lib.hid (HTK.out.below hB0)
  clear hB0
  go_enter Try.func4, Try.ntmps4
  go_wp2_with (at_builtin; refine wpl_appendS rfl (.tmp 10) (.tmp 15) 27 rfl Try.underlying27 info_u8 w.heap.size _ [] rfl (Buf.empty _ _ _ rfl (Nat.le_refl _)) _ L rfl HTK2.out (by have := HLK.out; simp; omega) (by simp) ?_)
  intro v1 w1 hb1 hg1
  have hB1 : Below w.heap.size w w1 := HB0.out.grown hg1 (by simp) (fun k e => by simp [Value.ownBlock] at e; omega)
  have HBF := Lib.hid (show Buf 5 w1 w.heap.size v1 L from hb1)
  have HB1 := Lib.hid hB1
  obtain ⟨a1, c1, rfl, _⟩ := HBF.out.slb
  have HG1 := Lib.hid (fun (k : Nat) (e : Value.ownBlock (.slice a1 L.length c1) = some k) => World.ownsRow.lt HBF.out k e)
  clear hb1 hg1 HTK HTK2 HB0 hB1
  go_wp2_with fail
  refine (read_any _ _ _ HBF.out.slb (by have := HLK.out; omega)).mono ?_
  rintro e w2 ⟨C, rfl, hN, hB2⟩
  have HRD := Lib.hid (fun w' => rread_any L w' (by have := HLK.out; omega))
  have hsm := readBy_small L
  obtain ⟨r, hr⟩ : ∃ r, r = readBy parseP L := ⟨_, rfl⟩
  rw [← hr] at hN HRD hsm ⊢
  clear hr
  obtain ⟨m, n, er⟩ := r
  dsimp only at hN hsm ⊢
  have HSM := Lib.hid hsm
  obtain ⟨hzC, h1C, hoC⟩ := hN.size
  have HB2 := Lib.hid (HB1.out.trans (hB2.mono HB1.out.size))
  have HBF2 := Lib.hid (HBF.out.grow hB2)
  have HN := Lib.hid hN
  have hs12 := hB2.size
  clear hN hB2 HBF hsm
  go_upto_region 3 with (fail)
  obtain ⟨g3, hg3⟩ : ∃ g, g = w2.heap.size := ⟨_, rfl⟩
  have hBn : Below w2.heap.size w2 ((w2.alloc (.cells zH 30)).setRow w2.heap.size C) := bSetRow ((Below.refl _ _).alloc (Nat.le_refl _) _) (Nat.le_refl _) _
  refine gen_wp (fun w3 => Row w3 g3 30 C ∧ Buf 5 w3 w.heap.size (.slice a1 L.length c1) L ∧ MsgN w3 w1.heap.size C m ∧ Below w.heap.size w w3 ∧ w1.heap.size ≤ w3.heap.size) ⟨by rw [hg3]; exact (Row.new _ _ _).setRow C, HBF2.out.grow hBn, HN.out.below hBn, HB2.out.trans (hBn.mono HB2.out.size), Nat.le_trans hs12 hBn.size⟩ ?_
  rw [← hg3]
  clear hg3 hBn HB2 HBF2 HN
  rintro w3 ⟨hr3, hb3, hN, hB, hs13⟩
  have hcv := run_conv_slb (P := Try.prog) w3 27 _ 9 Try.underlying27 Try.underlying5 Try.underlying9 _ _ hb3.slb
  have HBF3 := Lib.hid hb3
  have HN := Lib.hid hN
  clear hb3 hN
  go_wp2_with fail
  refine (HRD.out w3).mono ?_
  rintro e w4 ⟨D, rfl, hT, hB4⟩
  obtain ⟨hzD, h1D, hoD⟩ := hT.1.size
  have hr3 := Row.below hr3 hB4 hr3.lt
  have HBF4 := Lib.hid (HBF3.out.grow hB4)
  have HN4 := Lib.hid (HN.out.below hB4)
  have HT := Lib.hid hT
  have hB := hB.trans (hB4.mono hB.size)
  clear hT hB4 HBF3 HN HRD hcv
  dsimp only
  go_upto_region 4 with (fail)
  obtain ⟨g6, hg6⟩ : ∃ g, g = w4.heap.size := ⟨_, rfl⟩
  have hBn : Below w4.heap.size w4 ((w4.alloc (.cells zMsg 25)).setRow w4.heap.size D) := bSetRow ((Below.refl _ _).alloc (Nat.le_refl _) _) (Nat.le_refl _) _
  refine gen_wp (fun w5 => HR w w1.heap.size g3 g6 w5 C D m ∧ Buf 5 w5 w.heap.size (.slice a1 L.length c1) L) ⟨⟨Row.below hr3 hBn hr3.lt, by rw [hg6]; exact (Row.new _ _ _).setRow D, HN4.out.below hBn, HT.out.below hBn, hB.trans (hBn.mono hB.size)⟩, HBF4.out.grow hBn⟩ ?_
  rw [← hg6]
  clear hg6 hBn HBF4 HN4 HT hr3 hB
  rintro w5 ⟨hR, hb5⟩
  have HB5 := Lib.hid hb5
  have HRR := Lib.hid hR
  have hr := hR.r3
  have hr6 := hR.r6
  have hrd := hr.drew
  have hr6d := hr6.drew
  clear hb5 hR
  refine wp_region_free 16 [44] (fun d v w' => ∃ F, v = .agg F ∧ RMsgAt w' F m) (by kernel_rfl) (by kernel_rfl) (by kernel_rfl) (fun d v w w' ⟨F, h1, h2⟩ hb => ⟨F, h1, h2.soft hb.soft⟩) ?h
  simp only [List.take_succ_cons, List.take_zero, List.drop_succ_cons, List.drop_zero]
  apply Exists.intro
  apply Exists.intro
  refine ⟨?_, ?_, ?_⟩
  · intro ν
    (apply wpF_q rfl; focus (intro C hC hG; go_big_quiet_want; apply qf_call; (exact hC); (exact hG); (exact (fun w' _ _ => hellos_any w')); (focus (intro w; simp [go_sem]; done)); (simp only [Act.put, lS]; go_big_quiet_on); exact wpQuiet_nil rfl))
    iterate 12 (apply wpF_q rfl; focus (intro C hC hG; (first | go_big_quiet_skip | (go_big_quiet_want; go_big_quiet_op; first | go_big_quiet_on | (refine ⟨_, fun _ _ => rfl, ?_⟩; go_big_quiet_on)) | (go_big_quiet_want; apply qf_load1 _ _ rfl _ _ rfl; (exact hC); rotate_left 1; (focus (intro _; simp [go_sem]; done)); rotate_right 1; assumption; assumption; (simp only [Act.put, lS]; go_big_quiet_on)) | (go_big_quiet_want; apply qf_loadA _ _ rfl _ _ rfl (sz := 32); (exact hC); rotate_left 1; (focus (intro _; simp [go_sem]; done)); (focus (intro _; simp [go_sem]; done)); rotate_right 1; assumption; assumption; assumption; (simp only [Act.put, lS]; go_big_quiet_on))); exact wpQuiet_nil rfl))
    (apply wpF_q rfl; focus (intro C hC hG; go_big_quiet_want; apply qf_loadM _ rfl _ rfl; (exact hC); assumption; assumption; (simp only [Act.put, lS]; go_big_quiet_on); exact wpQuiet_nil rfl))
    (apply wpF_free; (focus rfl); (focus rfl); (exact (fun w' hB' _ => (from_at (HRR.out.n.below ((Below.drew (Below.refl _ _)).trans hB')).at HSM.out.certs).mono fun e w'' ⟨F, h1, h2, h3⟩ => ⟨_, h1, fun d hd => by cases hd; exact ⟨F, rfl, h2⟩, h3⟩)); (focus (intro w; simp [go_sem]; done)); simp only [Act.put, vqF, pS])
    (apply wpF_q rfl; focus (intro C hC hG; go_big_quiet_want; apply qf_loadR _ rfl _ rfl; (exact hC); assumption; assumption; (simp only [Act.put, lS]; go_big_quiet_on); exact wpQuiet_nil rfl))
    exact wpF_nil ⟨rfl, rfl⟩
  · intro ν ν'; kernel_rfl
  intro ν w6 hB6 hDD
  have h44 : ∃ F, ν 44 = .agg F ∧ RMsgAt w6 F m := hDD 44 (by decide)
  obtain ⟨F, h44, hF⟩ := h44
  simp only [h44]
  have hBw : Below w5.heap.size w5 w6 := (Below.drew (Below.refl _ _)).trans hB6
  have HSA := Lib.hid (same_at hF (HRR.out.t.below hBw).1)
  have HRR6 := Lib.hid (HRR.out.below hBw)
  have HB6 := Lib.hid (HB5.out.grow hBw)
  clear hDD h44 hF hB6 hBw hrd hr6d hr hr6 HRR HB5
  go_wp2_with fail
  refine HSA.out.mono ?_
  rintro e w7 ⟨rfl, hB7⟩
  have HRR7 := Lib.hid (HRR6.out.below hB7)
  have HB7 := Lib.hid (HB6.out.grow hB7)
  clear hB7 HSA HRR6 HB6
  go_wp2_with fail
  have hL9 : (L.length : Int) ≤ 12000 := by have := HLK.out; omega
  have hlen := HLK.out
  have hopen : 0 < L.length → ∃ bb cur, a1 = some ⟨bb, 0, none⟩ ∧ w.heap.size ≤ bb ∧ bb < w1.heap.size ∧ Row w7 bb 5 cur ∧ ∀ j, 0 ≤ j → j < L.length → cur[j]? = some (B (gb L j)) := fun h0 => by
    obtain ⟨bb, cp, cur, e, hb1, hrow, _, _, _, hpre⟩ := HB7.out.open h0
    obtain ⟨rfl, _, rfl⟩ := Value.slice.inj e
    exact ⟨bb, cur, rfl, hb1, (HG1.out bb rfl).2, hrow, fun j _ hj => hpre.get j hj⟩
  have HO := Lib.hid hopen
  clear hopen hlen HB7 HG1
  go_loopg [9] L.length (fun g iv wr => ∃ (i : Nat), g + i = L.length ∧ iv = .int .i64 (i : Int) ∧ HR w w1.heap.size g3 g6 wr C D m ∧ (0 < L.length → ∃ bb cur, a1 = some ⟨bb, 0, none⟩ ∧ w.heap.size ≤ bb ∧ bb < w1.heap.size ∧ Row wr bb 5 cur ∧ ∀ j, i ≤ j → j < L.length → cur[j]? = some (B (gb L j))))
  case atStart => exact ⟨0, by omega, rfl, HRR7.out, HO.out⟩
  case round =>
    clear HO HRR7
    obtain ⟨i, hi, rfl, hR, hO⟩ := hrel
    by_cases h : i < L.length
    · obtain ⟨bb, cur, ha1, hb1, hb2, hrow, hcur⟩ := hO (by omega)
      have hrow := Lib.hid hrow
      have hcu := hcur i (Nat.le_refl _) h
      obtain ⟨x, hx⟩ : ∃ x, x = gb L i := ⟨_, rfl⟩
      rw [← hx] at hcu
      have hc : wr.cell? ⟨bb, i, none⟩ = some (B x) := by rw [hrow.out.cell]; exact hcu
      have hfz : wr.frozen? ⟨bb, i, none⟩ = false := hrow.out.frozen i
      have z0 : (0 : Int) ≤ (i : Int) := by omega
      have z1 : (i : Int) < (L.length : Int) := by omega
      have z3 : ((i : Int)).toNat = i := by omega
      have y2 : ((x.toNat : Nat) : Int) < 256 := by have := x.toNat_lt; omega
      have y3 : (0 : Int) ≤ ((x.toNat : Nat) : Int) := by omega
      have HRR := Lib.hid hR
      have HCU := Lib.hid hcur
      subst ha1
      clear hx hcu hR hcur hO
      go_wp2_with fail
      go_roundg (gk - 1)
      case measure => omega
      case rel => exact ⟨i + 1, by omega, by go_num, HRR.out.store hrow.out hb2 hb1 i _, fun _ => ⟨bb, _, rfl, hb1, hb2, hrow.out.set i _, fun j hj1 hj2 => by rw [Array.getElem?_setIfInBounds_ne (by omega)]; exact HCU.out j (by omega) hj2⟩⟩
    · obtain rfl : i = L.length := by omega
      have z1 : ¬ (L.length : Int) < (L.length : Int) := by omega
      have HRR := Lib.hid hR
      have hr := hR.r3
      have hr6 := hR.r6
      clear hR hO h
      go_upto_region 10 with (fail)
      have hrd := hr.drew
      have hr6d := hr6.drew
      refine wp_region_free 3 [62] (fun d v w' => ∃ F, v = .agg F ∧ RMsgAt w' F m) (by kernel_rfl) (by kernel_rfl) (by kernel_rfl) (fun d v w w' ⟨F, h1, h2⟩ hb => ⟨F, h1, h2.soft hb.soft⟩) ?h
      simp only [List.take_succ_cons, List.take_zero, List.drop_succ_cons, List.drop_zero]
      apply Exists.intro
      apply Exists.intro
      refine ⟨?_, ?_, ?_⟩
      · intro ν
        (apply wpF_q rfl; focus (intro C hC hG; go_big_quiet_want; apply qf_loadM _ rfl _ rfl; (exact hC); assumption; assumption; (simp only [Act.put, lS]; go_big_quiet_on); exact wpQuiet_nil rfl))
        (apply wpF_free; (focus rfl); (focus rfl); (exact (fun w' hB' _ => (from_at (HRR.out.n.below ((Below.drew (Below.refl _ _)).trans hB')).at HSM.out.certs).mono fun e w'' ⟨F, h1, h2, h3⟩ => ⟨_, h1, fun d hd => by cases hd; exact ⟨F, rfl, h2⟩, h3⟩)); (focus (intro w; simp [go_sem]; done)); simp only [Act.put, vqF, pS])
        (apply wpF_q rfl; focus (intro C hC hG; go_big_quiet_want; apply qf_loadR _ rfl _ rfl; (exact hC); assumption; assumption; (simp only [Act.put, lS]; go_big_quiet_on); exact wpQuiet_nil rfl))
        exact wpF_nil ⟨rfl, rfl⟩
      · intro ν ν'; kernel_rfl
      intro ν w8 hB8 hDD
      have h62 : ∃ F, ν 62 = .agg F ∧ RMsgAt w8 F m := hDD 62 (by decide)
      obtain ⟨F, h62, hF⟩ := h62
      simp only [h62]
      have hBw : Below wr.heap.size wr w8 := (Below.drew (Below.refl _ _)).trans hB8
      have HSA := Lib.hid (same_at hF (HRR.out.t.below hBw).1)
      have HBF := Lib.hid (HRR.out.bel.trans (hBw.mono HRR.out.bel.size))
      clear hDD h62 hF hB8 hBw hrd hr6d hr hr6 HRR
      go_wp2_with fail
      refine HSA.out.mono ?_
      rintro e w9 ⟨rfl, hB9⟩
      have hBe := HBF.out.trans (hB9.mono HBF.out.size)
      clear hB9 HSA HBF
      go_wp2_with fail
      go_ret
      exact ⟨rfl, hBe⟩
end Go.Proofs.Ytnenoecmmelehaa
