/- Part of the proof: HReadC. No conditions of its own. -/
import Derived.Below
import Derived.BigQuiet
import Derived.ChangeOld
import Derived.Deep.AppendLies
import Derived.Deep.CutBlock
import Derived.Deep.DeepCutAuto
import Derived.Deep.Draws
import Derived.Deep.LoopGhost
import Derived.Deep.Quiet
import Derived.Deep.QuietTactic
import Derived.Deep.RegionLaw
import Derived.Great.BuildSlice
import Derived.Great.FillDense
import Derived.Laws.AppendOwn
import Derived.Laws.AppendOwnNone
import Derived.Laws.BytesArg
import Derived.Laws.Concat
import Derived.Laws.MakeOwn
import Derived.Lib.AppendZerosOnto
import Derived.Lib.BufferWrite
import Derived.Lib.ConvBytes
import Derived.Lib.Hide
import Derived.Lib.SlBytesConst
import Derived.OpenShut
import Derived.ProofKit
import Derived.ShutString
import Derived.StillTail
import Derived.Stop.BytesEq
import Derived.Test.YtnenoecmmelehaaProg
import Derived.WalkKit
import Derived.WalkLawsBesides
import Derived.WalkSpells
import Derived.Test.YtnenoecmmelehaaM31
namespace Go.Proofs.Ytnenoecmmelehaa
open Go.RowKit
set_option linter.unusedVariables false
set_option linter.unusedSimpArgs false
attribute [local go_sem] zH_one zH_over zH_size
set_option maxRecDepth 100000 in
set_option maxHeartbeats 4000000 in
theorem read_bad (vb : Value) (b : List UInt8) (w : World) (h : SlB w vb b) (hl : b.length ≤ 1000000) (h0 : 4 ≤ b.length) (hk : isKindP (gb b 0).toNat = true) (h1 : headN b ≤ 32768) (h2 : 4 + headN b ≤ b.length) (hcap : cap0 vb ≠ 4) (hrt : rightP (parseP ((gb b 0).toNat : Int) ((b.drop 4).take (headN b))) = true) (hwr : writeP (parseP ((gb b 0).toNat : Int) ((b.drop 4).take (headN b))) ≠ b.take (4 + headN b)) : Calls Try.prog 16 #[vb] w (ReadSt w (emptyM 0, 0, 2)) := by
  obtain ⟨g, o, cap, rfl, k1, k2, k3⟩ := read_upto vb b w h (by omega)
  have hkk := isKind_any ((gb b 0).toNat : Int)
  rw [kindP_eq, hk] at hkk
  have hn0 : headN b < 16777216 := by
    have := (gb b 1).toNat_lt
    have := (gb b 2).toNat_lt
    have := (gb b 3).toNat_lt
    unfold headN; omega
  have hor := head_or (gb b 1) (gb b 2) (gb b 3)
  have hor1 := head_or1 (gb b 1) (gb b 2)
  rw [show (gb b 1).toNat * 65536 + (gb b 2).toNat * 256 + (gb b 3).toNat = headN b from rfl] at hor
  have x1 : (0 : Int) < (b.length : Int) := by omega
  have x2 : ¬ (b.length : Int) < 4 := by omega
  have x3 : (1 : Int) < (b.length : Int) := by omega
  have x4 : (2 : Int) < (b.length : Int) := by omega
  have x5 : (3 : Int) < (b.length : Int) := by omega
  have x6 : (b.length : Int) ≤ 1000000 := by omega
  have HRT := Lib.hid hrt
  clear hrt
  have HWR := Lib.hid hwr
  clear hwr
  have K3 := Lib.hid k3
  have HKK := Lib.hid hkk
  clear k3 hkk
  go_enter Try.func16, Try.ntmps16
  go_upto_region 1 with (fail)
  refine gen_wp (fun w0 => Row w0 w.heap.size 30 zH ∧ Below w.heap.size w w0) ⟨Row.new w _ _, (Below.refl _ _).alloc (Nat.le_refl _) _⟩ ?_
  rintro w0 ⟨hr, hB⟩
  obtain ⟨x, hx⟩ : ∃ x, x = gb b 0 := ⟨_, rfl⟩
  obtain ⟨p, hp⟩ : ∃ x, x = gb b 1 := ⟨_, rfl⟩
  obtain ⟨q, hq⟩ : ∃ x, x = gb b 2 := ⟨_, rfl⟩
  obtain ⟨s, hs⟩ : ∃ x, x = gb b 3 := ⟨_, rfl⟩
  have HCL := Lib.hid (fun (w' : World) (hb' : Below w0.heap.size w0 w') => (K3.out w' (Below.trans hB (hb'.mono hB.size))).2)
  have hc := HCL.out w0 (Below.refl _ _) 0 (by omega)
  rw [Nat.add_zero] at hc
  have HSB := Lib.hid (fun (w' : World) (hb' : Below w0.heap.size w0 w') => (K3.out w' (Below.trans hB (hb'.mono hB.size))).1)
  have HC0 := Lib.hid (fun w' hb' => HCL.out w' hb' 0 (by omega))
  have HC1 := Lib.hid (fun w' hb' => HCL.out w' hb' 1 (by omega))
  have HC2 := Lib.hid (fun w' hb' => HCL.out w' hb' 2 (by omega))
  have HC3 := Lib.hid (fun w' hb' => HCL.out w' hb' 3 (by omega))
  rw [← hx] at hc HKK
  rw [← hp, ← hq] at hor hor1
  rw [← hs] at hor
  rw [← hx, Nat.add_zero] at HC0
  rw [← hp] at HC1
  rw [← hq] at HC2
  rw [← hs] at HC3
  obtain ⟨n, hn⟩ : ∃ n, n = headN b := ⟨_, rfl⟩
  have HN := Lib.hid hn
  rw [← hn] at hor hn0
  have y2 : ((x.toNat : Nat) : Int) < 256 := by have := x.toNat_lt; omega
  have y3 : (0 : Int) ≤ ((x.toNat : Nat) : Int) := by omega
  have y4 : ((p.toNat : Nat) : Int) < 256 := by have := p.toNat_lt; omega
  have y5 : (0 : Int) ≤ ((p.toNat : Nat) : Int) := by omega
  have y6 : ((q.toNat : Nat) : Int) < 256 := by have := q.toNat_lt; omega
  have y7 : (0 : Int) ≤ ((q.toNat : Nat) : Int) := by omega
  have y8 : ((s.toNat : Nat) : Int) < 256 := by have := s.toNat_lt; omega
  have y9 : (0 : Int) ≤ ((s.toNat : Nat) : Int) := by omega
  have HX := Lib.hid hx
  clear hx hp hq hs hn hk K3 HCL
  go_wp2_with fail
  refine (HKK.out w0).mono ?_
  rintro e w1 ⟨rfl, hw⟩
  obtain rfl : w0 = w1 := hw.symm
  clear hw
  go_upto_region 5 with (fail)
  have c1 : IntKind.i64.wrap ((p.toNat : Nat) : Int) = ((p.toNat : Nat) : Int) := by rw [IntKind.wrap_i64]; omega
  have c2 : IntKind.i64.wrap ((q.toNat : Nat) : Int) = ((q.toNat : Nat) : Int) := by rw [IntKind.wrap_i64]; omega
  have c3 : IntKind.i64.wrap ((s.toNat : Nat) : Int) = ((s.toNat : Nat) : Int) := by rw [IntKind.wrap_i64]; omega
  (refine wp_region_freeD 15 [] [] shp (phi _ []) (by kernel_rfl) (by kernel_rfl) (by kernel_rfl) (phi_stab _ _) (phi_shp _ _) shp_inh ?_; simp only [List.take_succ_cons, List.take_zero, List.drop_succ_cons, List.drop_zero]; apply Exists.intro; apply Exists.intro; refine ⟨?_, ?_, ?_⟩)
  · intro ν hν
    iterate 2 (apply wpF_q rfl; focus (intro C hC hG; (first | go_big_quiet_skip | (go_big_quiet_want; go_big_quiet_op; first | go_big_quiet_on | (refine ⟨_, fun _ _ => rfl, ?_⟩; go_big_quiet_on)) | (go_big_quiet_want; apply qf_load1 _ _ rfl _ _ rfl; (exact hC); rotate_left 1; (focus (intro _; simp [go_sem]; done)); rotate_right 1; assumption; assumption; (simp only [Act.put, lS]; go_big_quiet_on)) | (go_big_quiet_want; apply qf_loadA _ _ rfl _ _ rfl (sz := 32); (exact hC); rotate_left 1; (focus (intro _; simp [go_sem]; done)); (focus (intro _; simp [go_sem]; done)); rotate_right 1; assumption; assumption; assumption; (simp only [Act.put, lS]; go_big_quiet_on))); exact wpQuiet_nil rfl))
    (apply wpF_q rfl; focus (intro C hC hG; go_big_quiet_want; apply qf_loadC; (focus rfl); (focus rfl); (exact hC); (focus (intro _; simp [go_sem]; done)); (exact (fun w' hb' => HC1.out w' (Below.trans (Below.drew (Below.refl _ _)) hb'))); (simp only [Act.put, lS]; go_big_quiet_on); exact wpQuiet_nil rfl))
    iterate 4 (apply wpF_q rfl; focus (intro C hC hG; (first | go_big_quiet_skip | (go_big_quiet_want; go_big_quiet_op; first | go_big_quiet_on | (refine ⟨_, fun _ _ => rfl, ?_⟩; go_big_quiet_on)) | (go_big_quiet_want; apply qf_load1 _ _ rfl _ _ rfl; (exact hC); rotate_left 1; (focus (intro _; simp [go_sem]; done)); rotate_right 1; assumption; assumption; (simp only [Act.put, lS]; go_big_quiet_on)) | (go_big_quiet_want; apply qf_loadA _ _ rfl _ _ rfl (sz := 32); (exact hC); rotate_left 1; (focus (intro _; simp [go_sem]; done)); (focus (intro _; simp [go_sem]; done)); rotate_right 1; assumption; assumption; assumption; (simp only [Act.put, lS]; go_big_quiet_on))); exact wpQuiet_nil rfl))
    (apply wpF_q rfl; focus (intro C hC hG; go_big_quiet_want; apply qf_loadC; (focus rfl); (focus rfl); (exact hC); (focus (intro _; simp [go_sem]; done)); (exact (fun w' hb' => HC2.out w' (Below.trans (Below.drew (Below.refl _ _)) hb'))); (simp only [Act.put, lS]; go_big_quiet_on); exact wpQuiet_nil rfl))
    iterate 5 (apply wpF_q rfl; focus (intro C hC hG; (first | go_big_quiet_skip | (go_big_quiet_want; go_big_quiet_op; first | go_big_quiet_on | (refine ⟨_, fun _ _ => rfl, ?_⟩; go_big_quiet_on)) | (go_big_quiet_want; apply qf_load1 _ _ rfl _ _ rfl; (exact hC); rotate_left 1; (focus (intro _; simp [go_sem]; done)); rotate_right 1; assumption; assumption; (simp only [Act.put, lS]; go_big_quiet_on)) | (go_big_quiet_want; apply qf_loadA _ _ rfl _ _ rfl (sz := 32); (exact hC); rotate_left 1; (focus (intro _; simp [go_sem]; done)); (focus (intro _; simp [go_sem]; done)); rotate_right 1; assumption; assumption; assumption; (simp only [Act.put, lS]; go_big_quiet_on))); exact wpQuiet_nil rfl))
    (apply wpF_q rfl; focus (intro C hC hG; go_big_quiet_want; apply qf_loadC; (focus rfl); (focus rfl); (exact hC); (focus (intro _; simp [go_sem]; done)); (exact (fun w' hb' => HC3.out w' (Below.trans (Below.drew (Below.refl _ _)) hb'))); (simp only [Act.put, lS]; go_big_quiet_on); exact wpQuiet_nil rfl))
    (apply wpF_q rfl; focus (intro C hC hG; (first | go_big_quiet_skip | (go_big_quiet_want; go_big_quiet_op; first | go_big_quiet_on | (refine ⟨_, fun _ _ => rfl, ?_⟩; go_big_quiet_on)) | (go_big_quiet_want; apply qf_load1 _ _ rfl _ _ rfl; (exact hC); rotate_left 1; (focus (intro _; simp [go_sem]; done)); rotate_right 1; assumption; assumption; (simp only [Act.put, lS]; go_big_quiet_on)) | (go_big_quiet_want; apply qf_loadA _ _ rfl _ _ rfl (sz := 32); (exact hC); rotate_left 1; (focus (intro _; simp [go_sem]; done)); (focus (intro _; simp [go_sem]; done)); rotate_right 1; assumption; assumption; assumption; (simp only [Act.put, lS]; go_big_quiet_on))); exact wpQuiet_nil rfl))
    exact wpF_nil ⟨rfl, rfl⟩
  · intro ν ν'; kernel_rfl
  intro ν w1 hν hB1 hD
  have hBd : Below w0.heap.size w0 w1 := (Below.drew (Below.refl _ _)).trans (hB1.mono (Nat.le_refl _))
  have hr := Row.below hr hBd hr.lt
  have hB := hB.trans (hBd.mono hB.size)
  clear hD hν hB1 c1 c2 c3 HC1 HC2 HC3
  have h1' : n ≤ 32768 := HN.out ▸ h1
  have h2' : 4 + n ≤ b.length := HN.out ▸ h2
  have z1 : ¬ (32768 : Int) < (n : Int) := by omega
  have z2 : decide ((b.length : Int) - 4 < (n : Int)) = false := decide_eq_false (by omega)
  have z3 : (n : Int) ≤ 32768 := by omega
  have z4 : (0 : Int) ≤ (n : Int) := by omega
  have z5 : (4 : Int) + (n : Int) ≤ (cap : Int) := by omega
  have z6 : (0 : Int) ≤ (4 : Int) + (n : Int) := by omega
  have z7 : ((4 : Int) + (n : Int)).toNat = 4 + n := by omega
  have z8 : (4 : Int) ≤ (4 : Int) + (n : Int) := by omega
  have z9 : 4 ≤ 4 + n := by omega
  have hc4 : cap ≠ 4 := hcap
  have HSW := Lib.hid (fun (w' : World) (hb' : Below w1.heap.size w1 w') => whole_body (HSB.out w' (hBd.trans (hb'.mono hBd.size))) h2')
  have HC0' := Lib.hid (fun (w' : World) (hb' : Below w1.heap.size w1 w') => HC0.out w' (hBd.trans (hb'.mono hBd.size)))
  have hbody : ((b.drop 4).take n).length ≤ 1000000 := by rw [List.length_take]; omega
  obtain ⟨m, hm⟩ : ∃ m, m = parseP (x.toNat : Int) ((b.drop 4).take n) := ⟨_, rfl⟩
  have HPA := Lib.hid (fun (vq : Value) (w' : World) (h : SlB w' vq ((b.drop 4).take n)) => parse_any (x.toNat : Int) vq _ w' h hbody)
  rw [← hm] at HPA
  have HM := Lib.hid hm
  clear h1 h2 h1' h2' HSB HC0 hBd hm hbody
  have hBs := hB.size
  go_upto_region 11 with (fail)
  refine FT.wp_region_free 8 [65, 7] (fun d v w' => if d = 7 then ∃ g, v = .pointer (some ⟨g, 0, none⟩) ∧ w1.drew.heap.size ≤ g ∧ Row w' g 30 zH else ∃ C, v = .agg C ∧ MsgN w' w1.drew.heap.size C m) (by kernel_rfl) (by kernel_rfl) (by kernel_rfl) ?hst ?h
  case hst =>
    intro d v w w' h hb
    by_cases e : d = 7
    · rw [if_pos e] at h ⊢
      obtain ⟨g, h1, h2, h3⟩ := h
      exact ⟨g, h1, h2, Row.below h3 hb h3.lt⟩
    · rw [if_neg e] at h ⊢
      obtain ⟨C, h1, h2⟩ := h
      exact ⟨C, h1, h2.below hb⟩
  case h =>
  simp only [List.take_succ_cons, List.take_zero, List.drop_succ_cons, List.drop_zero]
  apply Exists.intro
  apply Exists.intro
  refine ⟨?_, ?_, ?_⟩
  · intro ν
    iterate 2 (apply FT.wpF_q rfl; focus (intro C hC hG; (first | go_big_quiet_skip | (go_big_quiet_want; go_big_quiet_op; first | go_big_quiet_on | (refine ⟨_, fun _ _ => rfl, ?_⟩; go_big_quiet_on)) | (go_big_quiet_want; apply FT.qf_load1 _ _ rfl _ _ rfl; (exact hC); rotate_left 1; (focus (intro _; simp [go_sem]; done)); rotate_right 1; assumption; assumption; (simp only [Act.put, lS]; go_big_quiet_on)) | (go_big_quiet_want; apply FT.qf_loadA _ _ rfl _ _ rfl (sz := 32); (exact hC); rotate_left 1; (focus (intro _; simp [go_sem]; done)); (focus (intro _; simp [go_sem]; done)); rotate_right 1; assumption; assumption; assumption; (simp only [Act.put, lS]; go_big_quiet_on))); exact wpQuiet_nil rfl))
    (apply FT.wpF_q rfl; focus (intro C hC hG; go_big_quiet_want; apply FT.qf_loadC; (focus rfl); (focus rfl); (exact hC); (focus (intro _; simp [go_sem]; done)); (exact (fun w' hb' => HC0'.out w' ((Below.drew (Below.refl _ _)).trans hb'))); (simp only [Act.put, lS]; go_big_quiet_on); exact wpQuiet_nil rfl))
    iterate 3 (apply FT.wpF_q rfl; focus (intro C hC hG; (first | go_big_quiet_skip | (go_big_quiet_want; go_big_quiet_op; first | go_big_quiet_on | (refine ⟨_, fun _ _ => rfl, ?_⟩; go_big_quiet_on)) | (go_big_quiet_want; apply FT.qf_load1 _ _ rfl _ _ rfl; (exact hC); rotate_left 1; (focus (intro _; simp [go_sem]; done)); rotate_right 1; assumption; assumption; (simp only [Act.put, lS]; go_big_quiet_on)) | (go_big_quiet_want; apply FT.qf_loadA _ _ rfl _ _ rfl (sz := 32); (exact hC); rotate_left 1; (focus (intro _; simp [go_sem]; done)); (focus (intro _; simp [go_sem]; done)); rotate_right 1; assumption; assumption; assumption; (simp only [Act.put, lS]; go_big_quiet_on))); exact wpQuiet_nil rfl))
    (apply FT.wpF_free; (focus rfl); (focus rfl); (exact (fun w' hb' _ => (HPA.out _ w' (HSW.out w' ((Below.drew (Below.refl _ _)).trans hb')).2).mono fun e w'' ⟨C, h1, h2, h3⟩ => ⟨_, h1, fun d hd => by cases hd; exact ⟨C, rfl, h2.low hb'.size⟩, h3⟩)); (focus (intro w; simp [go_sem]; done)); simp only [Act.put, FT.vqF, pS])
    apply FT.wpF_alloc rfl rfl
    · intro w' hb' _
      refine ⟨.pointer (some ⟨w'.heap.size, 0, none⟩), w'.alloc (.cells zH 30), ?_, ?_, (Below.refl _ w').alloc (Nat.le_refl _) _⟩
      · simp [go_sem]
      · intro d hd
        cases hd
        exact ⟨_, rfl, hb'.size, Row.new _ _ _⟩
    simp only [Act.put, FT.vqF, pS]
    exact FT.wpF_nil ⟨rfl, rfl⟩
  · intro ν ν'; kernel_rfl
  intro ν w2 hB2 hD
  have h65 : ∃ C, ν 65 = .agg C ∧ MsgN w2 w1.drew.heap.size C m := hD 65 (by decide)
  have h7 : ∃ g, ν 7 = .pointer (some ⟨g, 0, none⟩) ∧ w1.drew.heap.size ≤ g ∧ Row w2 g 30 zH := hD 7 (by decide)
  obtain ⟨C, h65, hN⟩ := h65
  obtain ⟨g7, h7, hg7, hr7⟩ := h7
  simp only [h65, h7]
  have hlt1 : w.heap.size < w1.drew.heap.size := hr.drew.lt
  have hr := Row.below hr.drew hB2 hr.lt
  have hBw : Below w1.heap.size w1 w2 := (Below.drew (Below.refl _ _)).trans hB2
  have hB := hB.trans (hBw.mono hB.size)
  have hlt := hr.lt
  have hne : w.heap.size ≠ g7 := by omega
  obtain ⟨hz, h1c, hoc⟩ := hN.size
  have HN2 := Lib.hid hN
  have HBW := Lib.hid hBw
  have HSM := Lib.hid (show SmallM m from by rw [HM.out]; exact parseP_small _ _)
  clear hD h65 h7 hB2 HPA HC0' hN hBw
  go_wp2_with fail
  refine gen_wpC (fun w3 => Row w3 w.heap.size 30 zH ∧ Row w3 g7 30 C ∧ MsgN w3 w.heap.size C m ∧ Below w.heap.size w w3 ∧ Below w1.heap.size w1 w3) ⟨hr.setRowOther _ _ (by omega), hr7.setRow C, (HN2.out.keptT (grownBy_setR _ _ _) hr7 (by decide) (by decide)).low (by omega), bSetRow hB (by omega) _, bSetRow HBW.out (Nat.le_trans (Nat.le_refl w1.heap.size) hg7) _⟩ ?_
  clear hr hr7 hB hlt HN2 HBW hlt1
  rintro w3 ⟨hr, hr7, hN, hB, hBw⟩
  have em : parseP ((gb b 0).toNat : Int) ((b.drop 4).take (headN b)) = m := by rw [HM.out, HN.out, HX.out]
  have hrt := HRT.out
  rw [em] at hrt
  refine (write_yes hN.at HSM.out hrt).mono ?_
  rintro e w4 ⟨v, rfl, hbuf, hB4⟩
  have hr := Row.below hr hB4 hr.lt
  have hr7 := Row.below hr7 hB4 hr7.lt
  have HN3 := Lib.hid (hN.below hB4)
  have hB := hB.trans (hB4.mono hB.size)
  have HEQ := Lib.hid (equal_any v _ (writeP m) (b.take (4 + n)) w4 hbuf.slb (HSW.out w4 (hBw.trans (hB4.mono hBw.size))).1)
  have HBf := Lib.hid hB
  have HEM := Lib.hid em
  obtain ⟨va, vcp, rfl, _⟩ := hbuf.slb
  clear hN hB4 hBw hbuf HSW hB em HM hrt
  go_wp2_with fail
  refine HEQ.out.mono ?_
  rintro e w5 ⟨rfl, hw5⟩
  obtain rfl : w4 = w5 := hw5.symm
  have hwr := HWR.out
  rw [HEM.out] at hwr
  have hq : (writeP m == b.take (4 + n)) = false := beq_false_of_ne (by rw [HN.out]; exact hwr)
  rw [hq]
  clear hq hwr hw5 HEQ
  go_wp2_with fail
  exact ret_row3 (.inl rfl) rfl w.heap.size _ _ 75 _ _ _ rfl (hr.setRow _) Try.underlying30 rfl (by kernel_rfl) zH_size rfl rfl ⟨zH, rfl, MsgN.empty _ _ 0, bSetRow HBf.out (Nat.le_refl _) _⟩
set_option maxRecDepth 100000 in
set_option maxHeartbeats 4000000 in
theorem read_no (vb : Value) (b : List UInt8) (w : World) (h : SlB w vb b) (hl : b.length ≤ 1000000) (h0 : 4 ≤ b.length) (hk : isKindP (gb b 0).toNat = true) (h1 : headN b ≤ 32768) (h2 : 4 + headN b ≤ b.length) (hcap : cap0 vb ≠ 4) (hrt : rightP (parseP ((gb b 0).toNat : Int) ((b.drop 4).take (headN b))) = false) : Calls Try.prog 16 #[vb] w (ReadSt w (emptyM 0, 0, 2)) := by
  obtain ⟨g, o, cap, rfl, k1, k2, k3⟩ := read_upto vb b w h (by omega)
  have hkk := isKind_any ((gb b 0).toNat : Int)
  rw [kindP_eq, hk] at hkk
  have hn0 : headN b < 16777216 := by
    have := (gb b 1).toNat_lt
    have := (gb b 2).toNat_lt
    have := (gb b 3).toNat_lt
    unfold headN; omega
  have hor := head_or (gb b 1) (gb b 2) (gb b 3)
  have hor1 := head_or1 (gb b 1) (gb b 2)
  rw [show (gb b 1).toNat * 65536 + (gb b 2).toNat * 256 + (gb b 3).toNat = headN b from rfl] at hor
  have x1 : (0 : Int) < (b.length : Int) := by omega
  have x2 : ¬ (b.length : Int) < 4 := by omega
  have x3 : (1 : Int) < (b.length : Int) := by omega
  have x4 : (2 : Int) < (b.length : Int) := by omega
  have x5 : (3 : Int) < (b.length : Int) := by omega
  have x6 : (b.length : Int) ≤ 1000000 := by omega
  have HRT := Lib.hid hrt
  clear hrt
  have K3 := Lib.hid k3
  have HKK := Lib.hid hkk
  clear k3 hkk
  go_enter Try.func16, Try.ntmps16
  go_upto_region 1 with (fail)
  refine gen_wp (fun w0 => Row w0 w.heap.size 30 zH ∧ Below w.heap.size w w0) ⟨Row.new w _ _, (Below.refl _ _).alloc (Nat.le_refl _) _⟩ ?_
  rintro w0 ⟨hr, hB⟩
  obtain ⟨x, hx⟩ : ∃ x, x = gb b 0 := ⟨_, rfl⟩
  obtain ⟨p, hp⟩ : ∃ x, x = gb b 1 := ⟨_, rfl⟩
  obtain ⟨q, hq⟩ : ∃ x, x = gb b 2 := ⟨_, rfl⟩
  obtain ⟨s, hs⟩ : ∃ x, x = gb b 3 := ⟨_, rfl⟩
  have HCL := Lib.hid (fun (w' : World) (hb' : Below w0.heap.size w0 w') => (K3.out w' (Below.trans hB (hb'.mono hB.size))).2)
  have hc := HCL.out w0 (Below.refl _ _) 0 (by omega)
  rw [Nat.add_zero] at hc
  have HSB := Lib.hid (fun (w' : World) (hb' : Below w0.heap.size w0 w') => (K3.out w' (Below.trans hB (hb'.mono hB.size))).1)
  have HC0 := Lib.hid (fun w' hb' => HCL.out w' hb' 0 (by omega))
  have HC1 := Lib.hid (fun w' hb' => HCL.out w' hb' 1 (by omega))
  have HC2 := Lib.hid (fun w' hb' => HCL.out w' hb' 2 (by omega))
  have HC3 := Lib.hid (fun w' hb' => HCL.out w' hb' 3 (by omega))
  rw [← hx] at hc HKK
  rw [← hp, ← hq] at hor hor1
  rw [← hs] at hor
  rw [← hx, Nat.add_zero] at HC0
  rw [← hp] at HC1
  rw [← hq] at HC2
  rw [← hs] at HC3
  obtain ⟨n, hn⟩ : ∃ n, n = headN b := ⟨_, rfl⟩
  have HN := Lib.hid hn
  rw [← hn] at hor hn0
  have y2 : ((x.toNat : Nat) : Int) < 256 := by have := x.toNat_lt; omega
  have y3 : (0 : Int) ≤ ((x.toNat : Nat) : Int) := by omega
  have y4 : ((p.toNat : Nat) : Int) < 256 := by have := p.toNat_lt; omega
  have y5 : (0 : Int) ≤ ((p.toNat : Nat) : Int) := by omega
  have y6 : ((q.toNat : Nat) : Int) < 256 := by have := q.toNat_lt; omega
  have y7 : (0 : Int) ≤ ((q.toNat : Nat) : Int) := by omega
  have y8 : ((s.toNat : Nat) : Int) < 256 := by have := s.toNat_lt; omega
  have y9 : (0 : Int) ≤ ((s.toNat : Nat) : Int) := by omega
  have HX := Lib.hid hx
  clear hx hp hq hs hn hk K3 HCL
  go_wp2_with fail
  refine (HKK.out w0).mono ?_
  rintro e w1 ⟨rfl, hw⟩
  obtain rfl : w0 = w1 := hw.symm
  clear hw
  go_upto_region 5 with (fail)
  have c1 : IntKind.i64.wrap ((p.toNat : Nat) : Int) = ((p.toNat : Nat) : Int) := by rw [IntKind.wrap_i64]; omega
  have c2 : IntKind.i64.wrap ((q.toNat : Nat) : Int) = ((q.toNat : Nat) : Int) := by rw [IntKind.wrap_i64]; omega
  have c3 : IntKind.i64.wrap ((s.toNat : Nat) : Int) = ((s.toNat : Nat) : Int) := by rw [IntKind.wrap_i64]; omega
  (refine wp_region_freeD 15 [] [] shp (phi _ []) (by kernel_rfl) (by kernel_rfl) (by kernel_rfl) (phi_stab _ _) (phi_shp _ _) shp_inh ?_; simp only [List.take_succ_cons, List.take_zero, List.drop_succ_cons, List.drop_zero]; apply Exists.intro; apply Exists.intro; refine ⟨?_, ?_, ?_⟩)
  · intro ν hν
    iterate 2 (apply wpF_q rfl; focus (intro C hC hG; (first | go_big_quiet_skip | (go_big_quiet_want; go_big_quiet_op; first | go_big_quiet_on | (refine ⟨_, fun _ _ => rfl, ?_⟩; go_big_quiet_on)) | (go_big_quiet_want; apply qf_load1 _ _ rfl _ _ rfl; (exact hC); rotate_left 1; (focus (intro _; simp [go_sem]; done)); rotate_right 1; assumption; assumption; (simp only [Act.put, lS]; go_big_quiet_on)) | (go_big_quiet_want; apply qf_loadA _ _ rfl _ _ rfl (sz := 32); (exact hC); rotate_left 1; (focus (intro _; simp [go_sem]; done)); (focus (intro _; simp [go_sem]; done)); rotate_right 1; assumption; assumption; assumption; (simp only [Act.put, lS]; go_big_quiet_on))); exact wpQuiet_nil rfl))
    (apply wpF_q rfl; focus (intro C hC hG; go_big_quiet_want; apply qf_loadC; (focus rfl); (focus rfl); (exact hC); (focus (intro _; simp [go_sem]; done)); (exact (fun w' hb' => HC1.out w' (Below.trans (Below.drew (Below.refl _ _)) hb'))); (simp only [Act.put, lS]; go_big_quiet_on); exact wpQuiet_nil rfl))
    iterate 4 (apply wpF_q rfl; focus (intro C hC hG; (first | go_big_quiet_skip | (go_big_quiet_want; go_big_quiet_op; first | go_big_quiet_on | (refine ⟨_, fun _ _ => rfl, ?_⟩; go_big_quiet_on)) | (go_big_quiet_want; apply qf_load1 _ _ rfl _ _ rfl; (exact hC); rotate_left 1; (focus (intro _; simp [go_sem]; done)); rotate_right 1; assumption; assumption; (simp only [Act.put, lS]; go_big_quiet_on)) | (go_big_quiet_want; apply qf_loadA _ _ rfl _ _ rfl (sz := 32); (exact hC); rotate_left 1; (focus (intro _; simp [go_sem]; done)); (focus (intro _; simp [go_sem]; done)); rotate_right 1; assumption; assumption; assumption; (simp only [Act.put, lS]; go_big_quiet_on))); exact wpQuiet_nil rfl))
    (apply wpF_q rfl; focus (intro C hC hG; go_big_quiet_want; apply qf_loadC; (focus rfl); (focus rfl); (exact hC); (focus (intro _; simp [go_sem]; done)); (exact (fun w' hb' => HC2.out w' (Below.trans (Below.drew (Below.refl _ _)) hb'))); (simp only [Act.put, lS]; go_big_quiet_on); exact wpQuiet_nil rfl))
    iterate 5 (apply wpF_q rfl; focus (intro C hC hG; (first | go_big_quiet_skip | (go_big_quiet_want; go_big_quiet_op; first | go_big_quiet_on | (refine ⟨_, fun _ _ => rfl, ?_⟩; go_big_quiet_on)) | (go_big_quiet_want; apply qf_load1 _ _ rfl _ _ rfl; (exact hC); rotate_left 1; (focus (intro _; simp [go_sem]; done)); rotate_right 1; assumption; assumption; (simp only [Act.put, lS]; go_big_quiet_on)) | (go_big_quiet_want; apply qf_loadA _ _ rfl _ _ rfl (sz := 32); (exact hC); rotate_left 1; (focus (intro _; simp [go_sem]; done)); (focus (intro _; simp [go_sem]; done)); rotate_right 1; assumption; assumption; assumption; (simp only [Act.put, lS]; go_big_quiet_on))); exact wpQuiet_nil rfl))
    (apply wpF_q rfl; focus (intro C hC hG; go_big_quiet_want; apply qf_loadC; (focus rfl); (focus rfl); (exact hC); (focus (intro _; simp [go_sem]; done)); (exact (fun w' hb' => HC3.out w' (Below.trans (Below.drew (Below.refl _ _)) hb'))); (simp only [Act.put, lS]; go_big_quiet_on); exact wpQuiet_nil rfl))
    (apply wpF_q rfl; focus (intro C hC hG; (first | go_big_quiet_skip | (go_big_quiet_want; go_big_quiet_op; first | go_big_quiet_on | (refine ⟨_, fun _ _ => rfl, ?_⟩; go_big_quiet_on)) | (go_big_quiet_want; apply qf_load1 _ _ rfl _ _ rfl; (exact hC); rotate_left 1; (focus (intro _; simp [go_sem]; done)); rotate_right 1; assumption; assumption; (simp only [Act.put, lS]; go_big_quiet_on)) | (go_big_quiet_want; apply qf_loadA _ _ rfl _ _ rfl (sz := 32); (exact hC); rotate_left 1; (focus (intro _; simp [go_sem]; done)); (focus (intro _; simp [go_sem]; done)); rotate_right 1; assumption; assumption; assumption; (simp only [Act.put, lS]; go_big_quiet_on))); exact wpQuiet_nil rfl))
    exact wpF_nil ⟨rfl, rfl⟩
  · intro ν ν'; kernel_rfl
  intro ν w1 hν hB1 hD
  have hBd : Below w0.heap.size w0 w1 := (Below.drew (Below.refl _ _)).trans (hB1.mono (Nat.le_refl _))
  have hr := Row.below hr hBd hr.lt
  have hB := hB.trans (hBd.mono hB.size)
  clear hD hν hB1 c1 c2 c3 HC1 HC2 HC3
  have h1' : n ≤ 32768 := HN.out ▸ h1
  have h2' : 4 + n ≤ b.length := HN.out ▸ h2
  have z1 : ¬ (32768 : Int) < (n : Int) := by omega
  have z2 : decide ((b.length : Int) - 4 < (n : Int)) = false := decide_eq_false (by omega)
  have z3 : (n : Int) ≤ 32768 := by omega
  have z4 : (0 : Int) ≤ (n : Int) := by omega
  have z5 : (4 : Int) + (n : Int) ≤ (cap : Int) := by omega
  have z6 : (0 : Int) ≤ (4 : Int) + (n : Int) := by omega
  have z7 : ((4 : Int) + (n : Int)).toNat = 4 + n := by omega
  have z8 : (4 : Int) ≤ (4 : Int) + (n : Int) := by omega
  have z9 : 4 ≤ 4 + n := by omega
  have hc4 : cap ≠ 4 := hcap
  have HSW := Lib.hid (fun (w' : World) (hb' : Below w1.heap.size w1 w') => whole_body (HSB.out w' (hBd.trans (hb'.mono hBd.size))) h2')
  have HC0' := Lib.hid (fun (w' : World) (hb' : Below w1.heap.size w1 w') => HC0.out w' (hBd.trans (hb'.mono hBd.size)))
  have hbody : ((b.drop 4).take n).length ≤ 1000000 := by rw [List.length_take]; omega
  obtain ⟨m, hm⟩ : ∃ m, m = parseP (x.toNat : Int) ((b.drop 4).take n) := ⟨_, rfl⟩
  have HPA := Lib.hid (fun (vq : Value) (w' : World) (h : SlB w' vq ((b.drop 4).take n)) => parse_any (x.toNat : Int) vq _ w' h hbody)
  rw [← hm] at HPA
  have HM := Lib.hid hm
  clear h1 h2 h1' h2' HSB HC0 hBd hm hbody
  have hBs := hB.size
  go_upto_region 11 with (fail)
  refine FT.wp_region_free 8 [65, 7] (fun d v w' => if d = 7 then ∃ g, v = .pointer (some ⟨g, 0, none⟩) ∧ w1.drew.heap.size ≤ g ∧ Row w' g 30 zH else ∃ C, v = .agg C ∧ MsgN w' w1.drew.heap.size C m) (by kernel_rfl) (by kernel_rfl) (by kernel_rfl) ?hst ?h
  case hst =>
    intro d v w w' h hb
    by_cases e : d = 7
    · rw [if_pos e] at h ⊢
      obtain ⟨g, h1, h2, h3⟩ := h
      exact ⟨g, h1, h2, Row.below h3 hb h3.lt⟩
    · rw [if_neg e] at h ⊢
      obtain ⟨C, h1, h2⟩ := h
      exact ⟨C, h1, h2.below hb⟩
  case h =>
  simp only [List.take_succ_cons, List.take_zero, List.drop_succ_cons, List.drop_zero]
  apply Exists.intro
  apply Exists.intro
  refine ⟨?_, ?_, ?_⟩
  · intro ν
    iterate 2 (apply FT.wpF_q rfl; focus (intro C hC hG; (first | go_big_quiet_skip | (go_big_quiet_want; go_big_quiet_op; first | go_big_quiet_on | (refine ⟨_, fun _ _ => rfl, ?_⟩; go_big_quiet_on)) | (go_big_quiet_want; apply FT.qf_load1 _ _ rfl _ _ rfl; (exact hC); rotate_left 1; (focus (intro _; simp [go_sem]; done)); rotate_right 1; assumption; assumption; (simp only [Act.put, lS]; go_big_quiet_on)) | (go_big_quiet_want; apply FT.qf_loadA _ _ rfl _ _ rfl (sz := 32); (exact hC); rotate_left 1; (focus (intro _; simp [go_sem]; done)); (focus (intro _; simp [go_sem]; done)); rotate_right 1; assumption; assumption; assumption; (simp only [Act.put, lS]; go_big_quiet_on))); exact wpQuiet_nil rfl))
    (apply FT.wpF_q rfl; focus (intro C hC hG; go_big_quiet_want; apply FT.qf_loadC; (focus rfl); (focus rfl); (exact hC); (focus (intro _; simp [go_sem]; done)); (exact (fun w' hb' => HC0'.out w' ((Below.drew (Below.refl _ _)).trans hb'))); (simp only [Act.put, lS]; go_big_quiet_on); exact wpQuiet_nil rfl))
    iterate 3 (apply FT.wpF_q rfl; focus (intro C hC hG; (first | go_big_quiet_skip | (go_big_quiet_want; go_big_quiet_op; first | go_big_quiet_on | (refine ⟨_, fun _ _ => rfl, ?_⟩; go_big_quiet_on)) | (go_big_quiet_want; apply FT.qf_load1 _ _ rfl _ _ rfl; (exact hC); rotate_left 1; (focus (intro _; simp [go_sem]; done)); rotate_right 1; assumption; assumption; (simp only [Act.put, lS]; go_big_quiet_on)) | (go_big_quiet_want; apply FT.qf_loadA _ _ rfl _ _ rfl (sz := 32); (exact hC); rotate_left 1; (focus (intro _; simp [go_sem]; done)); (focus (intro _; simp [go_sem]; done)); rotate_right 1; assumption; assumption; assumption; (simp only [Act.put, lS]; go_big_quiet_on))); exact wpQuiet_nil rfl))
    (apply FT.wpF_free; (focus rfl); (focus rfl); (exact (fun w' hb' _ => (HPA.out _ w' (HSW.out w' ((Below.drew (Below.refl _ _)).trans hb')).2).mono fun e w'' ⟨C, h1, h2, h3⟩ => ⟨_, h1, fun d hd => by cases hd; exact ⟨C, rfl, h2.low hb'.size⟩, h3⟩)); (focus (intro w; simp [go_sem]; done)); simp only [Act.put, FT.vqF, pS])
    apply FT.wpF_alloc rfl rfl
    · intro w' hb' _
      refine ⟨.pointer (some ⟨w'.heap.size, 0, none⟩), w'.alloc (.cells zH 30), ?_, ?_, (Below.refl _ w').alloc (Nat.le_refl _) _⟩
      · simp [go_sem]
      · intro d hd
        cases hd
        exact ⟨_, rfl, hb'.size, Row.new _ _ _⟩
    simp only [Act.put, FT.vqF, pS]
    exact FT.wpF_nil ⟨rfl, rfl⟩
  · intro ν ν'; kernel_rfl
  intro ν w2 hB2 hD
  have h65 : ∃ C, ν 65 = .agg C ∧ MsgN w2 w1.drew.heap.size C m := hD 65 (by decide)
  have h7 : ∃ g, ν 7 = .pointer (some ⟨g, 0, none⟩) ∧ w1.drew.heap.size ≤ g ∧ Row w2 g 30 zH := hD 7 (by decide)
  obtain ⟨C, h65, hN⟩ := h65
  obtain ⟨g7, h7, hg7, hr7⟩ := h7
  simp only [h65, h7]
  have hlt1 : w.heap.size < w1.drew.heap.size := hr.drew.lt
  have hr := Row.below hr.drew hB2 hr.lt
  have hBw : Below w1.heap.size w1 w2 := (Below.drew (Below.refl _ _)).trans hB2
  have hB := hB.trans (hBw.mono hB.size)
  have hlt := hr.lt
  have hne : w.heap.size ≠ g7 := by omega
  obtain ⟨hz, h1c, hoc⟩ := hN.size
  have HN2 := Lib.hid hN
  have HBW := Lib.hid hBw
  have HSM := Lib.hid (show SmallM m from by rw [HM.out]; exact parseP_small _ _)
  clear hD h65 h7 hB2 HPA HC0' hN hBw
  go_wp2_with fail
  refine gen_wpC (fun w3 => Row w3 w.heap.size 30 zH ∧ Row w3 g7 30 C ∧ MsgN w3 w.heap.size C m ∧ Below w.heap.size w w3 ∧ Below w1.heap.size w1 w3) ⟨hr.setRowOther _ _ (by omega), hr7.setRow C, (HN2.out.keptT (grownBy_setR _ _ _) hr7 (by decide) (by decide)).low (by omega), bSetRow hB (by omega) _, bSetRow HBW.out (Nat.le_trans (Nat.le_refl w1.heap.size) hg7) _⟩ ?_
  clear hr hr7 hB hlt HN2 HBW hlt1
  rintro w3 ⟨hr, hr7, hN, hB, hBw⟩
  have em : parseP ((gb b 0).toNat : Int) ((b.drop 4).take (headN b)) = m := by rw [HM.out, HN.out, HX.out]
  have hrt := HRT.out
  rw [em] at hrt
  refine (write_no hN.at HSM.out hrt).mono ?_
  rintro e w4 ⟨rfl, hB4⟩
  have hr := Row.below hr hB4 hr.lt
  have HBf := Lib.hid (hB.trans (hB4.mono hB.size))
  clear hN hB4 hBw HSW hB em HM hrt HRT
  go_wp2_with fail
  exact ret_row3 (.inl rfl) rfl w.heap.size _ _ 75 _ _ _ rfl (hr.setRow _) Try.underlying30 rfl (by kernel_rfl) zH_size rfl rfl ⟨zH, rfl, MsgN.empty _ _ 0, bSetRow HBf.out (Nat.le_refl _) _⟩
end Go.Proofs.Ytnenoecmmelehaa
