/- Part of the proof: HelloShort. No conditions of its own. -/
import Derived.Below
import Derived.BigQuiet
import Derived.ChangeOld
import Derived.Deep.AppendLies
import Derived.Deep.CutBlock
import Derived.Deep.DeepCutAuto
import Derived.Deep.Draws
import Derived.Deep.LoopGhost
import Derived.Deep.Quiet
import Derived.Deep.QuietTactic
import Derived.Deep.RegionLaw
import Derived.Great.BuildSlice
import Derived.Great.FillDense
import Derived.Laws.AppendOwn
import Derived.Laws.AppendOwnNone
import Derived.Laws.BytesArg
import Derived.Laws.Concat
import Derived.Laws.MakeOwn
import Derived.Lib.AppendZerosOnto
import Derived.Lib.BufferWrite
import Derived.Lib.ConvBytes
import Derived.Lib.Hide
import Derived.Lib.SlBytesConst
import Derived.OpenShut
import Derived.ProofKit
import Derived.ShutString
import Derived.StillTail
import Derived.Stop.BytesEq
import Derived.Test.YtnenoecmmelehaaProg
import Derived.WalkKit
import Derived.WalkLawsBesides
import Derived.WalkSpells
import Derived.Test.YtnenoecmmelehaaK43
import Derived.Test.YtnenoecmmelehaaK52
import Derived.Test.YtnenoecmmelehaaK54
namespace Go.Proofs.Ytnenoecmmelehaa
open Go.RowKit
set_option linter.unusedVariables false
set_option linter.unusedSimpArgs false

theorem short_write {m : MsgP} (hr : rightP m = true) (h32 : m.random.length = 32) (hm : m.mark.length = 32) : shortP (writeP m) = (writeP m).take (if m.kind = 1 ∧ m.psk = true then (writeP m).length - 35 else (writeP m).length) := by
  have h := read_write hr h32 hm []
  rw [List.append_nil] at h
  unfold shortP goodS
  rw [h]
  by_cases hk : m.kind = 1
  · cases hp : m.psk with
    | true => simp [hk, hp]
    | false => simp [hk, hp]
  · simp [hk]
theorem short_len {m : MsgP} (h32 : m.random.length = 32) (hk : m.kind = 1) : (35 : Int) ≤ ((writeP m).length : Int) := by
  have := write_len35 hk h32
  omega
set_option maxRecDepth 100000 in
set_option maxHeartbeats 4000000 in
theorem hshort (C : Array Value) (m : MsgP) (vo : Value) (lo : List UInt8) (w : World) (h : RMsgAt w C m) (ho : SlB w vo lo) : Calls Try.prog 8 #[.agg C, vo] w fun e w' => e = .returned (.bool true) ∧ Below w.heap.size w w' := by
  obtain ⟨hz, h1c, _⟩ := h.size
  obtain ⟨ao, capo, rfl, ko1, ko2, _⟩ := id ho
  obtain ⟨k, hk⟩ : ∃ k, k = min lo.length 300 := ⟨_, rfl⟩
  have m1 := fun ts t w => run_min_nat lo.length 300 k hk _ 300 rfl rfl ts t w
  have hk1 : k ≤ lo.length := by omega
  have x1 : (0 : Int) ≤ (k : Int) := by omega
  have x2 : (k : Int) ≤ (capo : Int) := by omega
  have HO := Lib.hid (ho.take k hk1)
  obtain ⟨L, hL⟩ : ∃ L, L = lo.take k := ⟨_, rfl⟩
  have hLk : L.length = k := by rw [hL, List.length_take]; omega
  have hk3 : k ≤ 300 := by omega
  rw [← hL] at HO
  have H := Lib.hid h
  have HLK := Lib.hid hLk
  clear h ho hk hL hk1 hLk
  go_enter Try.func8, Try.ntmps8
  go_wp2_with fail
  refine gen_wpC (fun w0 => Row w0 w.heap.size 25 C ∧ Below w.heap.size w w0) ⟨Row.new _ _ _, (Below.refl _ _).alloc (Nat.le_refl _) _⟩ ?_
  rintro w0 ⟨hr, hB⟩
  refine (tame_atT (H.out.below hB)).mono ?_
  rintro e w1 ⟨C2, rfl, h2, hB1⟩
  obtain ⟨hz2, h1c2, _⟩ := h2.1.size
  have ho2 := over_C hz hz2
  have hr := Row.below hr hB1 hr.lt
  have hB := hB.trans (hB1.mono hB.size)
  have H2 := Lib.hid h2
  have hlt := hr.lt
  clear h2 hB1 H
  go_wp2_with fail
  refine gen_wpC (fun w2 => Row w2 w.heap.size 25 C2 ∧ RMsgT w2 C2 (tameP m) ∧ Below w.heap.size w w2) ⟨hr.setRow C2, H2.out.keptR hr C2, bSetRow hB (Nat.le_refl _) _⟩ ?_
  clear hr hB hlt H2
  rintro w2 ⟨hr, h2, hB⟩
  refine (to_at h2.1 (tameP_small m)).mono ?_
  rintro e w3 ⟨D, rfl, hD, hB3⟩
  have hr := Row.below hr hB3 hr.lt
  have hB := hB.trans (hB3.mono hB.size)
  have HD := Lib.hid hD
  have f0 : C2[0]? = some (.int .i64 (tameP m).kind) ∧ C2[73]? = some (.bool (tameP m).psk) ∧ (tameP m).random.length = 32 ∧ (tameP m).mark.length = 32 := by obtain ⟨a', c', e, _, e1, e2⟩ := h2.1; rw [e]; exact ⟨mD_0, mD_73, e1, e2⟩
  clear hB3 hD h2
  go_wp2_with fail
  refine (write_at HD.out (tameP_small m)).mono ?_
  rintro e w4 ⟨v, rfl, hb, hB4⟩
  have hr := Row.below hr hB4 hr.lt
  have hB := hB.trans (hB4.mono hB.size)
  obtain ⟨n, hn⟩ : ∃ n : MsgP, n = tameP m := ⟨_, rfl⟩
  rw [← hn] at f0 hb ⊢
  have hout : outW n = if rightP n then writeP n else [] := rfl
  have herr : errW n = if rightP n then 0 else 2 := rfl
  have hsw := fun hr => short_write (m := n) hr f0.2.2.1 f0.2.2.2
  have hsl := short_len (m := n) f0.2.2.1
  have HBS := Lib.hid (fun hr => (show (writeP n).length ≤ 100000 from by have := body_small (m := n) hr f0.2.2.1 f0.2.2.2; rw [write_len]; omega))
  have hoL := outW_len n (by rw [hn]; exact tameP_small m) f0.2.2.1 f0.2.2.2
  obtain ⟨f0, f73, e32, _⟩ := f0
  have f0' : ∀ h : 0 < C2.size, C2[0] = .int .i64 n.kind := fun h => by
    rw [Array.getElem?_eq_getElem h] at f0
    exact Option.some.inj f0
  have f73' : ∀ h : 73 < C2.size, C2[73] = .bool n.psk := fun h => by
    rw [Array.getElem?_eq_getElem h] at f73
    exact Option.some.inj f73
  have HBF := Lib.hid hb
  have HO4 := Lib.hid (HO.out.below hB)
  obtain ⟨va, vc, rfl, _⟩ := hb.slb
  clear hb hB4 HD hn e32
  have HSW := Lib.hid hsw
  have HSL := Lib.hid hsl
  have HOUT := Lib.hid hout
  have HERR := Lib.hid herr
  obtain ⟨E, hE⟩ : ∃ E, E = errW n := ⟨_, rfl⟩
  obtain ⟨O, hO⟩ : ∃ O, O = outW n := ⟨_, rfl⟩
  rw [← hE] at HERR ⊢
  rw [← hO] at HOUT HBF hoL ⊢
  obtain ⟨kd, hkd⟩ : ∃ k, k = n.kind := ⟨_, rfl⟩
  obtain ⟨ps, hps⟩ : ∃ k, k = n.psk := ⟨_, rfl⟩
  rw [← hkd] at f0 f0'
  rw [← hps] at f73 f73'
  have HKP := Lib.hid (⟨hkd, hps⟩ : _ ∧ _)
  obtain ⟨rt, hrt⟩ : ∃ b, b = rightP n := ⟨_, rfl⟩
  have HRT := Lib.hid hrt
  rw [← hrt] at HOUT HERR
  obtain ⟨dd, hdd⟩ : ∃ d, d = (rt && decide (kd = 1) && ps) := ⟨_, rfl⟩
  have HDD := Lib.hid hdd
  have hO1 : (O.length : Int) ≤ 1000010 := by omega
  clear hsw hsl hout herr hE hO hkd hps hrt hdd
  go_upto_region 5 with (fail)
  go_cut [37] (fun t wr => t = .bool dd ∧ wr = w4)
  case first =>
    have hdd := HDD.out
    have herr := HERR.out
    cases rt with
    | false =>
      obtain rfl : E = 2 := herr
      obtain rfl : dd = false := by rw [hdd]; rfl
      clear hdd
      go_wp2_with fail
      go_meet
      case rel => exact ⟨rfl, rfl⟩
    | true =>
      obtain rfl : E = 0 := herr
      by_cases hk : kd = 1
      · subst hk
        obtain rfl : dd = ps := by rw [hdd]; simp
        clear hdd
        go_wp2_with fail
        go_meet
        case rel => exact ⟨rfl, rfl⟩
      · obtain rfl : dd = false := by rw [hdd, decide_eq_false hk]; simp
        have hkb : (kd == 1) = false := beq_false_of_ne hk
        clear hdd
        go_wp2_with fail
        go_meet
        case rel => exact ⟨rfl, rfl⟩
  case rest =>
  obtain ⟨rfl, hw⟩ := hcut
  obtain rfl := hw.symm
  clear hw
  have hq0 : dd = true → 35 ≤ O.length := fun e => by
    have h1 := HDD.out
    rw [e] at h1
    have h1 := h1.symm
    simp only [Bool.and_eq_true, decide_eq_true_eq] at h1
    have h2 := HOUT.out
    rw [h1.1.1, if_pos rfl] at h2
    have h3 := HSL.out (by rw [← HKP.out.1]; exact h1.1.2)
    rw [h2]
    omega
  obtain ⟨qn, hqn⟩ : ∃ q, q = if dd = true then O.length - 35 else O.length := ⟨_, rfl⟩
  have HQ0 := Lib.hid hq0
  have HQN := Lib.hid hqn
  clear hq0 hqn
  go_upto_if 37 with (fail)
  go_cut [7] (fun t wr => t = .int .i64 (qn : Int) ∧ wr = w4)
  case first =>
    have h1 := HQ0.out
    have h2 := HQN.out
    cases dd with
    | true =>
      have h1 := h1 rfl
      rw [if_pos rfl] at h2
      have z1 : (O.length : Int) - 35 = (qn : Int) := by omega
      clear h1 h2
      go_wp2_with fail
      go_meet
      case rel => exact ⟨rfl, rfl⟩
    | false =>
      rw [if_neg (by decide)] at h2
      obtain rfl := h2
      clear h1
      go_wp2_with fail
      go_meet
      case rel => exact ⟨rfl, rfl⟩
  case rest =>
  obtain ⟨rfl, hw⟩ := hcut
  obtain rfl := hw.symm
  clear hw
  have hcv := run_conv_slb (P := Try.prog) w4 27 _ 9 Try.underlying27 Try.underlying5 Try.underlying9 _ _ (show SlB w4 (.slice ao k capo) L from HO4.out)
  go_wp2_with fail
  refine (rread_any L w4 (by have := HLK.out; omega)).mono ?_
  rintro e w5 ⟨D2, rfl, hT, hB5⟩
  obtain ⟨hzD, h1D, hoD⟩ := hT.1.size
  have g0 : D2[0]? = some (.int .i64 (readBy parseP L).1.kind) ∧ D2[73]? = some (.bool (readBy parseP L).1.psk) := by obtain ⟨a', c', e, _⟩ := hT.1; rw [e]; exact ⟨mD_0, mD_73⟩
  have hgd : goodS L = (decide ((readBy parseP L).2.2 = 0) && decide ((readBy parseP L).2.1 = L.length) && decide ((readBy parseP L).1.kind = 1) && (readBy parseP L).1.psk) := rfl
  have h35 : goodS L = true → 35 ≤ L.length := fun hg => by
    rw [hgd] at hg
    simp only [Bool.and_eq_true, decide_eq_true_eq] at hg
    obtain ⟨h1, h2, h3, h4, h5⟩ := readBy_ok hg.1.1.1
    have := write_len35 hg.1.2 h4
    rw [h2, List.length_take] at this
    omega
  have hsp : shortP L = if goodS L then L.take (L.length - 35) else L := rfl
  obtain ⟨r, hrr⟩ : ∃ r, r = readBy parseP L := ⟨_, rfl⟩
  rw [← hrr] at g0 hgd ⊢
  obtain ⟨y, nn, er⟩ := r
  dsimp only at g0 hgd ⊢
  obtain ⟨g0, g73⟩ := g0
  obtain ⟨ky, hky⟩ : ∃ k, k = y.kind := ⟨_, rfl⟩
  obtain ⟨py, hpy⟩ : ∃ k, k = y.psk := ⟨_, rfl⟩
  rw [← hky] at g0 hgd
  rw [← hpy] at g73 hgd
  have g0' : ∀ h : 0 < D2.size, D2[0] = .int .i64 ky := fun h => by
    rw [Array.getElem?_eq_getElem h] at g0
    exact Option.some.inj g0
  have g73' : ∀ h : 73 < D2.size, D2[73] = .bool py := fun h => by
    rw [Array.getElem?_eq_getElem h] at g73
    exact Option.some.inj g73
  obtain ⟨gd, hgo⟩ : ∃ d, d = goodS L := ⟨_, rfl⟩
  obtain ⟨Y, hY⟩ : ∃ Y, Y = shortP L := ⟨_, rfl⟩
  rw [← hgo] at hgd h35 hsp
  rw [← hY] at hsp
  have HGD := Lib.hid hgd
  have H35 := Lib.hid h35
  have HSY := Lib.hid hsp
  have HY := Lib.hid hY
  have HBF5 := Lib.hid (HBF.out.slb.below hB5)
  have HO5 := Lib.hid (HO4.out.below hB5)
  have hB := hB.trans (hB5.mono hB.size)
  clear hT hB5 hgd h35 hsp hrr hky hpy hgo hY hcv HBF HO4 f0 f73 f0' f73' hr HO
  go_upto_region 8 with (fail)
  obtain ⟨g8, hg8⟩ : ∃ g, g = w5.heap.size := ⟨_, rfl⟩
  have hBn : Below w5.heap.size w5 ((w5.alloc (.cells zMsg 25)).setRow w5.heap.size D2) := bSetRow ((Below.refl _ _).alloc (Nat.le_refl _) _) (Nat.le_refl _) _
  refine gen_wp (fun w6 => Row w6 g8 25 D2 ∧ SlB w6 (.slice va O.length vc) O ∧ SlB w6 (.slice ao k capo) L ∧ Below w.heap.size w w6) ⟨by rw [hg8]; exact (Row.new _ _ _).setRow D2, HBF5.out.below hBn, HO5.out.below hBn, hB.trans (hBn.mono hB.size)⟩ ?_
  rw [← hg8]
  clear hg8 hBn HBF5 HO5 hB
  rintro w6 ⟨hr8, hb6, ho6, hB⟩
  have HB6 := Lib.hid hb6
  have HO6 := Lib.hid ho6
  have HBL := Lib.hid hB
  clear hb6 ho6 hB
  go_upto_region 9 with (fail)
  go_cut [64] (fun t wr => t = .bool gd ∧ wr = w6)
  case first =>
    have hg := HGD.out
    have hlk := HLK.out
    by_cases a1 : er = 0
    · subst a1
      by_cases a2 : nn = L.length
      · have b2 : ((nn : Int) == (k : Int)) = true := by rw [beq_iff_eq]; omega
        have b3 : decide ((nn : Int) = (k : Int)) = true := decide_eq_true (by omega)
        by_cases a3 : ky = 1
        · subst a3
          obtain rfl : gd = py := by rw [hg, decide_eq_true a2]; simp
          clear hg hlk a2
          go_wp2_with fail
          go_meet
          case rel => exact ⟨rfl, rfl⟩
        · obtain rfl : gd = false := by rw [hg, decide_eq_false a3]; simp
          have hkb : (ky == 1) = false := beq_false_of_ne a3
          clear hg hlk a2
          go_wp2_with fail
          go_meet
          case rel => exact ⟨rfl, rfl⟩
      · obtain rfl : gd = false := by rw [hg, decide_eq_false a2]; simp
        have b2 : ¬ (nn : Int) = (k : Int) := by omega
        have hkb : ((nn : Int) == (k : Int)) = false := beq_false_of_ne b2
        clear hg hlk a2
        go_wp2_with fail
        go_meet
        case rel => exact ⟨rfl, rfl⟩
    · obtain rfl : gd = false := by rw [hg, decide_eq_false a1]; simp
      have hkb : (er == 0) = false := beq_false_of_ne a1
      clear hg hlk
      go_wp2_with fail
      go_meet
      case rel => exact ⟨rfl, rfl⟩
  case rest =>
  obtain ⟨rfl, hw⟩ := hcut
  obtain rfl := hw.symm
  clear hw
  go_upto_if 64 with (fail)
  go_cut [11] (fun t wr => t = .slice ao Y.length capo ∧ wr = w6)
  case first =>
    have h1 := H35.out
    have h2 := HSY.out
    have hlk := HLK.out
    have hg := HGD.out
    cases gd with
    | true =>
      have h1 := h1 rfl
      rw [if_pos rfl] at h2
      have hg2 := hg.symm
      simp only [Bool.and_eq_true, decide_eq_true_eq] at hg2
      have hn := hg2.1.1.2
      have hyl : Y.length = k - 35 := by rw [h2, List.length_take]; omega
      have z1 : (0 : Int) ≤ (nn : Int) - 35 := by omega
      have z2 : (nn : Int) - 35 ≤ (capo : Int) := by omega
      have z3 : ((nn : Int) - 35).toNat = Y.length := by omega
      have z4 : (nn : Int) ≤ 300 := by omega
      have HYL := Lib.hid hyl
      clear h1 h2 hlk hg hg2 hn hyl
      go_wp2_with fail
      go_meet
      case rel => exact ⟨rfl, rfl⟩
    | false =>
      rw [if_neg (by decide)] at h2
      have hyl : Y.length = k := by rw [h2]; exact hlk
      have HYL := Lib.hid hyl
      clear h1 h2 hlk hg hyl
      go_wp2_with fail
      go_meet
      case rel => exact ⟨by rw [HYL.out], rfl⟩
  case rest =>
  obtain ⟨rfl, hw⟩ := hcut
  obtain rfl := hw.symm
  clear hw
  have HSH2 := Lib.hid (fun (w' : World) (hb' : Below w6.heap.size w6 w') => hshort_any (.slice ao k capo) L w' (HO6.out.below hb') (by have := HLK.out; omega))
  rw [← HY.out] at HSH2
  have HYB := Lib.hid (fun (w' : World) (hb' : Below w6.heap.size w6 w') => (show SlB w' (.slice ao Y.length capo) Y from by
    have h2 := HSY.out
    have hlk := HLK.out
    have ho := HO6.out.below hb'
    cases gd with
    | true =>
      rw [if_pos rfl] at h2
      have := ho.take (L.length - 35) (by omega)
      rw [← h2] at this
      have hl : Y.length = L.length - 35 := by rw [h2, List.length_take]; omega
      rw [hl]; exact this
    | false =>
      rw [if_neg (by decide)] at h2
      rw [h2, hlk]; exact ho))
  have hqle : qn ≤ O.length := by have := HQN.out; split at this <;> omega
  have hvc : (O.length : Int) ≤ (vc : Int) := by obtain ⟨_, _, e, h1, _⟩ := HB6.out; obtain ⟨_, _, rfl⟩ := Value.slice.inj e; omega
  have q1 : (0 : Int) ≤ (qn : Int) := by omega
  have q2 : (qn : Int) ≤ (vc : Int) := by omega
  have HTQ := Lib.hid (fun (w' : World) (hb' : Below w6.heap.size w6 w') => (HB6.out.below hb').take qn hqle)
  have hout := HOUT.out
  have herr := HERR.out
  have HDRW := Lib.hid (fun (w' : World) (hb' : Below w6.drew.heap.size w6.drew w') => ((Below.drew (Below.refl w6.heap.size w6)).trans hb'))
  cases rt with
  | true =>
    obtain rfl : E = 0 := herr
    have hO2 : O = writeP n := by rw [hout, if_pos rfl]
    have hX : shortP O = O.take qn := by
      have h1 := HSW.out HRT.out.symm
      have h2 := HQN.out
      have h3 := HDD.out
      have h4 := HKP.out
      rw [hO2, h1, h2, h3, hO2, h4.1, h4.2]
      congr 1
      by_cases e1 : n.kind = 1
      · cases e2 : n.psk <;> simp [e1]
      · simp [e1]
    have HSH1 := Lib.hid (fun (w' : World) (hb' : Below w6.heap.size w6 w') => hshort_any (.slice va O.length vc) O w' (HB6.out.below hb') (by rw [hO2]; have := HBS.out HRT.out.symm; omega))
    rw [hX] at HSH1
    obtain ⟨Z, hZ⟩ : ∃ Z, Z = O.take qn := ⟨_, rfl⟩
    rw [← hZ] at HSH1 HTQ
    clear hO2 hX hZ hout hqle hvc hoL
    go_upto_region 11 with (fail)
    refine wp_region_free 21 [75, 86] (fun d v w' => SlB w' v (if d = 75 then Z else Y)) (by kernel_rfl) (by kernel_rfl) (by kernel_rfl) (fun d v w w' h hb => h.soft hb.soft) ?h
    simp only [List.take_succ_cons, List.take_zero, List.drop_succ_cons, List.drop_zero]
    apply Exists.intro
    apply Exists.intro
    refine ⟨?_, ?_, ?_⟩
    · intro ν
      (apply wpF_q rfl; focus (intro C hC hG; go_big_quiet_want; apply qf_call; (exact hC); (exact hG); (exact (fun w' _ _ => hellos_any w')); (focus (intro w; simp [go_sem]; done)); (simp only [Act.put, lS]; go_big_quiet_on); exact wpQuiet_nil rfl))
      iterate 5 (apply wpF_q rfl; focus (intro C hC hG; (first | go_big_quiet_skip | (go_big_quiet_want; go_big_quiet_op; first | go_big_quiet_on | (refine ⟨_, fun _ _ => rfl, ?_⟩; go_big_quiet_on)) | (go_big_quiet_want; apply qf_load1 _ _ rfl _ _ rfl; (exact hC); rotate_left 1; (focus (intro _; simp [go_sem]; done)); rotate_right 1; assumption; assumption; (simp only [Act.put, lS]; go_big_quiet_on)) | (go_big_quiet_want; apply qf_loadA _ _ rfl _ _ rfl (sz := 32); (exact hC); rotate_left 1; (focus (intro _; simp [go_sem]; done)); (focus (intro _; simp [go_sem]; done)); rotate_right 1; assumption; assumption; assumption; (simp only [Act.put, lS]; go_big_quiet_on))); exact wpQuiet_nil rfl))
      (apply wpF_free; (focus rfl); (focus rfl); (exact (fun w' hB' _ => (HSH1.out w' (HDRW.out w' hB')).mono fun e w'' ⟨v, h1, h2, h3⟩ => ⟨v, h1, fun d hd => by cases hd; exact h2.slb, h3⟩)); (focus (intro w; simp [go_sem]; done)); simp only [Act.put, vqF, pS])
      (apply wpF_q rfl; focus (intro C hC hG; go_big_quiet_want; apply qf_conv; (focus rfl); (exact hC); (focus rfl); (exact Try.underlying27); (exact Try.underlying5); (exact Try.underlying9); (exact (fun w' _ hd => (show SlB w' (ν 75) Z from hd 75 (by simp) rfl))); (simp only [Act.put, lS]; go_big_quiet_on); exact wpQuiet_nil rfl))
      iterate 3 (apply wpF_q rfl; focus (intro C hC hG; (first | go_big_quiet_skip | (go_big_quiet_want; go_big_quiet_op; first | go_big_quiet_on | (refine ⟨_, fun _ _ => rfl, ?_⟩; go_big_quiet_on)) | (go_big_quiet_want; apply qf_load1 _ _ rfl _ _ rfl; (exact hC); rotate_left 1; (focus (intro _; simp [go_sem]; done)); rotate_right 1; assumption; assumption; (simp only [Act.put, lS]; go_big_quiet_on)) | (go_big_quiet_want; apply qf_loadA _ _ rfl _ _ rfl (sz := 32); (exact hC); rotate_left 1; (focus (intro _; simp [go_sem]; done)); (focus (intro _; simp [go_sem]; done)); rotate_right 1; assumption; assumption; assumption; (simp only [Act.put, lS]; go_big_quiet_on))); exact wpQuiet_nil rfl))
      (apply wpF_q rfl; focus (intro C hC hG; go_big_quiet_want; apply qf_conv; (focus rfl); (exact hC); (focus rfl); (exact Try.underlying27); (exact Try.underlying5); (exact Try.underlying9); (exact (fun w' hB' _ => HTQ.out w' (HDRW.out w' hB'))); (simp only [Act.put, lS]; go_big_quiet_on); exact wpQuiet_nil rfl))
      iterate 5 (apply wpF_q rfl; focus (intro C hC hG; (first | go_big_quiet_skip | (go_big_quiet_want; go_big_quiet_op; first | go_big_quiet_on | (refine ⟨_, fun _ _ => rfl, ?_⟩; go_big_quiet_on)) | (go_big_quiet_want; apply qf_load1 _ _ rfl _ _ rfl; (exact hC); rotate_left 1; (focus (intro _; simp [go_sem]; done)); rotate_right 1; assumption; assumption; (simp only [Act.put, lS]; go_big_quiet_on)) | (go_big_quiet_want; apply qf_loadA _ _ rfl _ _ rfl (sz := 32); (exact hC); rotate_left 1; (focus (intro _; simp [go_sem]; done)); (focus (intro _; simp [go_sem]; done)); rotate_right 1; assumption; assumption; assumption; (simp only [Act.put, lS]; go_big_quiet_on))); exact wpQuiet_nil rfl))
      (apply wpF_free; (focus rfl); (focus rfl); (exact (fun w' hB' _ => (HSH2.out w' (HDRW.out w' hB')).mono fun e w'' ⟨v, h1, h2, h3⟩ => ⟨v, h1, fun d hd => by cases hd; exact h2.slb, h3⟩)); (focus (intro w; simp [go_sem]; done)); simp only [Act.put, vqF, pS])
      (apply wpF_q rfl; focus (intro C hC hG; go_big_quiet_want; apply qf_conv; (focus rfl); (exact hC); (focus rfl); (exact Try.underlying27); (exact Try.underlying5); (exact Try.underlying9); (exact (fun w' _ hd => (show SlB w' (ν 86) Y from hd 86 (by simp) rfl))); (simp only [Act.put, lS]; go_big_quiet_on); exact wpQuiet_nil rfl))
      (apply wpF_q rfl; focus (intro C hC hG; (first | go_big_quiet_skip | (go_big_quiet_want; go_big_quiet_op; first | go_big_quiet_on | (refine ⟨_, fun _ _ => rfl, ?_⟩; go_big_quiet_on)) | (go_big_quiet_want; apply qf_load1 _ _ rfl _ _ rfl; (exact hC); rotate_left 1; (focus (intro _; simp [go_sem]; done)); rotate_right 1; assumption; assumption; (simp only [Act.put, lS]; go_big_quiet_on)) | (go_big_quiet_want; apply qf_loadA _ _ rfl _ _ rfl (sz := 32); (exact hC); rotate_left 1; (focus (intro _; simp [go_sem]; done)); (focus (intro _; simp [go_sem]; done)); rotate_right 1; assumption; assumption; assumption; (simp only [Act.put, lS]; go_big_quiet_on))); exact wpQuiet_nil rfl))
      (apply wpF_q rfl; focus (intro C hC hG; go_big_quiet_want; apply qf_conv; (focus rfl); (exact hC); (focus rfl); (exact Try.underlying27); (exact Try.underlying5); (exact Try.underlying9); (exact (fun w' hB' _ => HYB.out w' (HDRW.out w' hB'))); (simp only [Act.put, lS]; go_big_quiet_on); exact wpQuiet_nil rfl))
      exact wpF_nil ⟨rfl, rfl⟩
    · intro ν ν'; kernel_rfl
    intro ν w7 hB7 hDD
    have HBE := Lib.hid (HBL.out.trans ((HDRW.out w7 hB7).mono HBL.out.size))
    clear hDD hB7
    go_wp2_with fail
    go_ret
    exact ⟨rfl, HBE.out⟩
  | false =>
    obtain rfl : E = 2 := herr
    clear hout hqle hvc hoL
    go_upto_region 11 with (fail)
    refine wp_region_free 21 [86] (fun d v w' => SlB w' v Y) (by kernel_rfl) (by kernel_rfl) (by kernel_rfl) (fun d v w w' h hb => h.soft hb.soft) ?h
    simp only [List.take_succ_cons, List.take_zero, List.drop_succ_cons, List.drop_zero]
    apply Exists.intro
    apply Exists.intro
    refine ⟨?_, ?_, ?_⟩
    · intro ν
      (apply wpF_q rfl; focus (intro C hC hG; go_big_quiet_want; apply qf_call; (exact hC); (exact hG); (exact (fun w' _ _ => hellos_any w')); (focus (intro w; simp [go_sem]; done)); (simp only [Act.put, lS]; go_big_quiet_on); exact wpQuiet_nil rfl))
      iterate 16 (apply wpF_q rfl; focus (intro C hC hG; (first | go_big_quiet_skip | (go_big_quiet_want; go_big_quiet_op; first | go_big_quiet_on | (refine ⟨_, fun _ _ => rfl, ?_⟩; go_big_quiet_on)) | (go_big_quiet_want; apply qf_load1 _ _ rfl _ _ rfl; (exact hC); rotate_left 1; (focus (intro _; simp [go_sem]; done)); rotate_right 1; assumption; assumption; (simp only [Act.put, lS]; go_big_quiet_on)) | (go_big_quiet_want; apply qf_loadA _ _ rfl _ _ rfl (sz := 32); (exact hC); rotate_left 1; (focus (intro _; simp [go_sem]; done)); (focus (intro _; simp [go_sem]; done)); rotate_right 1; assumption; assumption; assumption; (simp only [Act.put, lS]; go_big_quiet_on))); exact wpQuiet_nil rfl))
      (apply wpF_free; (focus rfl); (focus rfl); (exact (fun w' hB' _ => (HSH2.out w' (HDRW.out w' hB')).mono fun e w'' ⟨v, h1, h2, h3⟩ => ⟨v, h1, fun d hd => by cases hd; exact h2.slb, h3⟩)); (focus (intro w; simp [go_sem]; done)); simp only [Act.put, vqF, pS])
      (apply wpF_q rfl; focus (intro C hC hG; go_big_quiet_want; apply qf_conv; (focus rfl); (exact hC); (focus rfl); (exact Try.underlying27); (exact Try.underlying5); (exact Try.underlying9); (exact (fun w' _ hd => (show SlB w' (ν 86) Y from hd 86 (by simp) rfl))); (simp only [Act.put, lS]; go_big_quiet_on); exact wpQuiet_nil rfl))
      (apply wpF_q rfl; focus (intro C hC hG; (first | go_big_quiet_skip | (go_big_quiet_want; go_big_quiet_op; first | go_big_quiet_on | (refine ⟨_, fun _ _ => rfl, ?_⟩; go_big_quiet_on)) | (go_big_quiet_want; apply qf_load1 _ _ rfl _ _ rfl; (exact hC); rotate_left 1; (focus (intro _; simp [go_sem]; done)); rotate_right 1; assumption; assumption; (simp only [Act.put, lS]; go_big_quiet_on)) | (go_big_quiet_want; apply qf_loadA _ _ rfl _ _ rfl (sz := 32); (exact hC); rotate_left 1; (focus (intro _; simp [go_sem]; done)); (focus (intro _; simp [go_sem]; done)); rotate_right 1; assumption; assumption; assumption; (simp only [Act.put, lS]; go_big_quiet_on))); exact wpQuiet_nil rfl))
      (apply wpF_q rfl; focus (intro C hC hG; go_big_quiet_want; apply qf_conv; (focus rfl); (exact hC); (focus rfl); (exact Try.underlying27); (exact Try.underlying5); (exact Try.underlying9); (exact (fun w' hB' _ => HYB.out w' (HDRW.out w' hB'))); (simp only [Act.put, lS]; go_big_quiet_on); exact wpQuiet_nil rfl))
      exact wpF_nil ⟨rfl, rfl⟩
    · intro ν ν'; kernel_rfl
    intro ν w7 hB7 hDD
    have HBE := Lib.hid (HBL.out.trans ((HDRW.out w7 hB7).mono HBL.out.size))
    clear hDD hB7
    go_wp2_with fail
    go_ret
    exact ⟨rfl, HBE.out⟩
end Go.Proofs.Ytnenoecmmelehaa
