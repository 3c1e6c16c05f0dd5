/- Part of the proof: RecOpen, Bare, Const. No conditions of its own. -/
import Derived.ArgAppend
import Derived.Below
import Derived.BigQuiet
import Derived.BigRegion
import Derived.ChangeOld
import Derived.Deep.CutBlock
import Derived.Deep.DeepCutAuto
import Derived.Deep.Draws
import Derived.Deep.LoopGhost
import Derived.Deep.Quiet
import Derived.Deep.QuietTactic
import Derived.Deep.RegionHeld3
import Derived.Deep.RegionLaw
import Derived.Laws.AppendOwnNone
import Derived.Laws.Bits64
import Derived.Laws.BitsAllLaws
import Derived.Laws.BytesArg
import Derived.Laws.Concat
import Derived.Laws.CopyOwn
import Derived.Laws.MakeOwn
import Derived.Lib.AppendStr
import Derived.Lib.AppendZerosOnto
import Derived.Lib.Hide
import Derived.LoopIn
import Derived.LoopNIn
import Derived.Maps.AppendAt
import Derived.OpenShut
import Derived.OrdersIn
import Derived.OwnWalkIn
import Derived.ProofKit
import Derived.RangeFuncBound
import Derived.RangeFuncBox
import Derived.RangeFuncCalls
import Derived.RangeFuncLeaves
import Derived.RangeFuncNested
import Derived.Shelf.Abstract
import Derived.ShutString
import Derived.StillTail
import Derived.TacticsIn
import Derived.TacticsInMore
import Derived.Test.YtcfbiafedfkbhaaDoorProg
import Derived.WalkKit
import Derived.WalkSpells
import Derived.Test.YtcfbiafedfkbhaaDoorO22
import Derived.Test.YtcfbiafedfkbhaaDoorO24
import Derived.Test.YtcfbiafedfkbhaaDoorO25
import Derived.Test.YtcfbiafedfkbhaaDoorO31
import Derived.Test.YtcfbiafedfkbhaaDoorO27
import Derived.Test.YtcfbiafedfkbhaaDoorO28
import Derived.Lib.SlBytesConst
import Derived.Test.YtcfbiafedfkbhaaDoorChecked
import Derived.Test.YtcfbiafedfkbhaaDoorO03
namespace Go.Proofs.YtcfbiafedfkbhaaDoor
open Go.RowKit
set_option linter.unusedVariables false
set_option linter.unusedSimpArgs false

def sealW (sec : List UInt8) (n : Nat) (inn : List UInt8) : List UInt8 := sealB (expand (keyS sec)) (lastOf (keyS sec)) (hOf (keyS sec)) (nonS (ivS sec) n) inn (headS 23 (inn.length + 16))
theorem sealW_len (sec : List UInt8) (n : Nat) (inn : List UInt8) : (sealW sec n inn).length = inn.length + 16 := sealB_len _ _ _ _ _ _
theorem recS_eq (sec : List UInt8) (n : Nat) (inn : List UInt8) : recS sec n inn = headS 23 (inn.length + 16) ++ sealW sec n inn := rfl
theorem recS_len (sec : List UInt8) (n : Nat) (inn : List UInt8) : (recS sec n inn).length = 5 + (inn.length + 16) := by
  rw [recS_eq, List.length_append, sealW_len]; rfl
theorem recS_drop (sec : List UInt8) (n : Nat) (inn : List UInt8) : (recS sec n inn).drop 5 = sealW sec n inn := rfl
theorem oneR_rec (sec : List UInt8) (n : Nat) (inn : List UInt8) (h : inn.length ≤ 16385) : OneR (recS sec n inn) (inn.length + 16) := by
  refine ⟨recS_len sec n inn, by omega, (show kindB 23 = true from by decide), rfl, rfl, ?_⟩
  show (UInt8.ofNat ((inn.length + 16) / 256)).toNat * 256 + (UInt8.ofNat (inn.length + 16)).toNat = _
  rw [UInt8.toNat_ofNat', UInt8.toNat_ofNat']
  omega
theorem run_extract {P : Program} {o : Oper} {a : Act} (x : Operand) (i : Nat) {v u : Value} {vs : Array Value} (ho : o.op = .extract x i) (hx : a.eval x = v) (hv : v = .tuple vs) (hi : vs[i]? = some u) : ∀ w, (execOp a.eval o).run P w = .ok (.value u) w := fun w => by
  unfold execOp
  simp only [ho, hx, hv]
  simp [Instr.extract, hi]
theorem gopen_seal (p : Value) (K : List UInt8) (last : Nat) (h nonce inn bes : List UInt8) (vs vb : Value) (w : World) (hb : BoxAt 87 109 84 w p K last h) (hn : nonce.length = 12)
    (hl : SlB w vs (sealB K last h nonce inn bes)) (hil : inn.length ≤ 900000) (hbs : SlB w vb bes) (hbl : bes.length ≤ 1000000) :
    Calls Tryd.prog 35 #[p, .agg (AB nonce), vs, vb] w fun e w' => ∃ v', e = .returned (.tuple #[v', .int .i64 0]) ∧ Buf 5 w' w.heap.size v' inn ∧ Below w.heap.size w w' := by
  have hsl := sealB_len K last h nonce inn bes
  have e1 : (sealB K last h nonce inn bes).take ((sealB K last h nonce inn bes).length - 16) = turnF K last nonce inn := by
    rw [hsl, Nat.add_sub_cancel]
    unfold sealB
    exact List.take_left' (turnF_len _ _ _ _)
  have e2 : (sealB K last h nonce inn bes).drop ((sealB K last h nonce inn bes).length - 16) = tagF K last h nonce (turnF K last nonce inn) bes := by
    rw [hsl, Nat.add_sub_cancel]
    unfold sealB
    exact List.drop_left' (turnF_len _ _ _ _)
  refine (gopen_any p K last h nonce vs vb _ bes w hb hn hl (by omega) (by omega) hbs hbl).mono ?_
  rintro e w' ⟨h1, h2⟩
  rw [e1, e2, if_pos rfl, turnF_turnF] at h1
  obtain ⟨v', h3, h4⟩ := h1
  exact ⟨v', h3, h4, h2⟩
set_option maxRecDepth 100000 in
set_option maxHeartbeats 4000000 in
theorem ropen_ok (w : World) (g n k pad c : Nat) (sec l : List UInt8) (a : Option Addr) (h : HalfW w g sec n) (hS : SlB w (.slice a (recS sec n (innS k l pad)).length c) (recS sec n (innS k l pad))) (hk : 21 ≤ k ∧ k ≤ 23) (hp : l.length + pad ≤ 16384) (hn : n < 1000) :
    Calls Tryd.prog 11 #[.pointer (some ⟨g, 0, none⟩), .slice a (recS sec n (innS k l pad)).length c] w fun e w' =>
      ∃ v', e = .returned (.tuple #[.int .i64 (k : Int), v', .int .i64 0]) ∧ SlB w' v' l ∧ HalfW w' g sec (n + 1) ∧ w.grownBy w' (some g) := by
  obtain ⟨inn, hinn⟩ : ∃ i, i = innS k l pad := ⟨_, rfl⟩
  have hil : inn.length = l.length + 1 + pad := by rw [hinn]; exact innS_len k l pad
  rw [← hinn] at hS ⊢
  obtain ⟨R, hR⟩ : ∃ r, r = recS sec n inn := ⟨_, rfl⟩
  have hRl : R.length = 5 + (inn.length + 16) := by rw [hR]; exact recS_len sec n inn
  have h1 : OneR R (inn.length + 16) := by rw [hR]; exact oneR_rec sec n inn (by omega)
  rw [← hR] at hS ⊢
  have H1 := Lib.hid h1
  have HI := Lib.hid (⟨hinn, hil, hR, hRl⟩ : _ ∧ _ ∧ _ ∧ _)
  have HS := Lib.hid hS
  have HH := Lib.hid h
  have HP := Lib.hid (⟨hp, hk, hn⟩ : _ ∧ _ ∧ _)
  have h0 : gb R 0 = 23 := by rw [hR]; rfl
  obtain ⟨a', cap, e, s1, s2, s3, s4⟩ := id hS
  obtain ⟨rfl, _, rfl⟩ := Value.slice.inj e
  cases a with
  | none => exact absurd (s3 rfl) (by omega)
  | some ad =>
  obtain ⟨b, o, sp⟩ := ad
  obtain ⟨hsp, hcs⟩ := s4 _ rfl
  have hsp' : sp = none := hsp
  subst hsp'
  have HC0 := Lib.hid (show w.cell? ⟨b, o, none⟩ = some (.int .u8 23) by have := hcs 0 (by omega); rw [h0] at this; exact this)
  obtain ⟨M, hM⟩ : ∃ M, M = R.length := ⟨_, rfl⟩
  have m1 : (5 : Int) ≤ (M : Int) := by omega
  have m2 : (M : Int) ≤ 16500 := by omega
  have m3 : (M : Int) ≤ (c : Int) := by omega
  have m4 : (0 : Int) < (M : Int) := by omega
  have HM := Lib.hid (⟨hM, s1⟩ : _ ∧ _)
  have HAL := Lib.hid (alone_ok w (some ⟨b, o, none⟩) c (inn.length + 16) R hS h1)
  rw [← hM] at HAL ⊢
  have n3 : ¬ (1000 : Int) ≤ (n : Int) := by omega
  clear h1 hinn hil hR hRl hS h hp hk hn h0 e s1 s2 s3 s4 hcs hM
  go_enter Tryd.func11, Tryd.ntmps11
  go_upto_region 3 with (fail)
  go_wp2_with fail
  refine HAL.out.mono ?_
  rintro e w1 ⟨rfl, hB1⟩
  have HB1 := Lib.hid hB1
  have hc0 : w1.cell? ⟨b, o, none⟩ = some (.int .u8 23) := (hB1.cell (World.block_lt_of_cell? w ⟨b, o, none⟩ HC0.out)).trans HC0.out
  have HH1 := Lib.hid (HH.out.below hB1)
  obtain ⟨p, hr, hbx⟩ := HH1.out
  obtain ⟨xb, kp, rfl, hbx'⟩ := id hbx
  have hcn : w1.cell? ⟨g, 13, none⟩ = some (.int .i64 (n : Int)) := (hr.cell 13).trans (hfC_13 _ _ n (ivS_len sec))
  have HR := Lib.hid hr
  have HBX := Lib.hid hbx
  clear hB1 hr hbx hbx'
  go_upto_region 10 with (fail)
  have q1 : ¬ (c : Int) = 5 := by have := HM.out.2; have := HI.out.2.2.2; omega
  have q2 : (5 : Int) < (c : Int) := by have := HM.out.2; have := HI.out.2.2.2; omega
  obtain ⟨NC, hNC⟩ : ∃ x, x = nonS (ivS sec) n := ⟨_, rfl⟩
  have hNl : NC.length = 12 := by rw [hNC]; exact nonS_len _ _ (ivS_len sec)
  have HNC := Lib.hid (fun (w' : World) (hb : Below w1.drew.heap.size w1.drew w') => (show Calls Tryd.prog 33 #[.pointer (some ⟨g, 0, none⟩)] w' (fun e w'' => e = .returned (.agg (AB NC)) ∧ Below w'.heap.size w' w'') by rw [hNC]; exact nonce_any w' g n sec ((HH1.out.below (Below.refl _ _).drew).below hb) (Nat.le_of_lt HP.out.2.2)))
  have HSL := Lib.hid (show SlB w (.slice (some ⟨b, o + 5, none⟩) (M - 5) (c - 5)) (sealB (expand (keyS sec)) (lastOf (keyS sec)) (hOf (keyS sec)) NC inn (headS 23 (inn.length + 16))) by
    have h1 := HS.out.dropW (n := 5) (by have := HI.out.2.2.2; omega)
    rw [← HM.out.1] at h1
    have h2 : R.drop 5 = sealB (expand (keyS sec)) (lastOf (keyS sec)) (hOf (keyS sec)) NC inn (headS 23 (inn.length + 16)) := by rw [HI.out.2.2.1, recS_drop, hNC]; rfl
    rwa [h2] at h1)
  have HTL := Lib.hid (show SlB w (.slice (some ⟨b, o, none⟩) 5 c) (headS 23 (inn.length + 16)) by
    have h1 := HS.out.takeW (n := 5) (m := 5) (by have := HI.out.2.2.2; rw [List.length_take]; omega)
    have h2 : R.take 5 = headS 23 (inn.length + 16) := by rw [HI.out.2.2.1]; rfl
    rwa [h2] at h1)
  have HOP := Lib.hid (fun (w' : World) (hb : Below w1.drew.heap.size w1.drew w') => gopen_seal (.pointer (some ⟨xb, 0, none⟩)) (expand (keyS sec)) (lastOf (keyS sec)) (hOf (keyS sec)) NC inn (headS 23 (inn.length + 16)) (.slice (some ⟨b, o + 5, none⟩) (M - 5) (c - 5)) (.slice (some ⟨b, o, none⟩) 5 c) w' ((HBX.out.below (Below.refl _ _).drew).below hb) hNl (HSL.out.below (HB1.out.drew.trans (hb.mono HB1.out.size))) (by have := HI.out.2.1; have := HP.out.1; omega) (HTL.out.below (HB1.out.drew.trans (hb.mono HB1.out.size))) (Nat.le_of_ble_eq_true rfl))
  have hrd := HR.out.drew
  have c0 := hfC_0 (.pointer (some ⟨xb, 0, none⟩)) (ivS sec) n
  clear hc0 hcn hNC
  refine wp_region_freeD 15 [40] [29, 41, 42, 8, 9] (fun d v => v = .tuple #[tupG v 0, .int .i64 0]) (fun d v w' => v = .tuple #[tupG v 0, .int .i64 0] ∧ Buf 5 w' w1.heap.size (tupG v 0) inn) (by kernel_rfl) (by kernel_rfl) (by kernel_rfl) ?hst ?hpp ?hin ?h
  case hst =>
    intro d v w w' h hb
    exact ⟨h.1, ownsRow_low h.2 hb⟩
  case hpp =>
    intro d v w h
    exact h.1
  case hin =>
    intro d
    exact ⟨.tuple #[undef, .int .i64 0], rfl⟩
  case h =>
  simp only [List.take_succ_cons, List.take_zero, List.drop_succ_cons, List.drop_zero]
  apply Exists.intro
  apply Exists.intro
  refine ⟨?_, ?_, ?_⟩
  · intro ν hν
    have H40 := Lib.hid (show ν 40 = .tuple #[tupG (ν 40) 0, .int .i64 0] from hν 40)
    iterate 3 (apply wpF_q rfl; focus (intro C hC hG; (first | go_big_quiet_skip | (go_big_quiet_want; go_big_quiet_op; first | go_big_quiet_on | (refine ⟨_, fun _ _ => rfl, ?_⟩; go_big_quiet_on)) | (go_big_quiet_want; apply qf_load1 _ _ rfl _ _ rfl; (exact hC); rotate_left 1; (focus (intro _; simp [go_sem]; done)); rotate_right 1; assumption; assumption; (simp only [Act.put, lS]; go_big_quiet_on)) | (go_big_quiet_want; apply qf_loadA _ _ rfl _ _ rfl (sz := 32); (exact hC); rotate_left 1; (focus (intro _; simp [go_sem]; done)); (focus (intro _; simp [go_sem]; done)); rotate_right 1; assumption; assumption; assumption; (simp only [Act.put, lS]; go_big_quiet_on))); exact wpQuiet_nil rfl))
    (apply wpF_q rfl; focus (intro C hC hG; go_big_quiet_want; apply qf_loadC; (focus rfl); (focus rfl); (exact hC); (focus (intro _; simp [go_sem]; done)); (exact (fun w' hb => (Row.below hrd hb hrd.lt).cell 0 |>.trans c0)); (simp only [Act.put, lS]; go_big_quiet_on); exact wpQuiet_nil rfl))
    (apply wpF_q rfl; focus (intro C hC hG; (first | go_big_quiet_skip | (go_big_quiet_want; go_big_quiet_op; first | go_big_quiet_on | (refine ⟨_, fun _ _ => rfl, ?_⟩; go_big_quiet_on)) | (go_big_quiet_want; apply qf_load1 _ _ rfl _ _ rfl; (exact hC); rotate_left 1; (focus (intro _; simp [go_sem]; done)); rotate_right 1; assumption; assumption; (simp only [Act.put, lS]; go_big_quiet_on)) | (go_big_quiet_want; apply qf_loadA _ _ rfl _ _ rfl (sz := 32); (exact hC); rotate_left 1; (focus (intro _; simp [go_sem]; done)); (focus (intro _; simp [go_sem]; done)); rotate_right 1; assumption; assumption; assumption; (simp only [Act.put, lS]; go_big_quiet_on))); exact wpQuiet_nil rfl))
    (apply wpF_q rfl; focus (intro C hC hG; go_big_quiet_want; apply qf_call; (exact hC); (exact hG); (exact (fun w' hb _ => HNC.out w' hb)); (focus (intro w; simp [go_sem]; done)); (simp only [Act.put, lS]; go_big_quiet_on); exact wpQuiet_nil rfl))
    iterate 4 (apply wpF_q rfl; focus (intro C hC hG; (first | go_big_quiet_skip | (go_big_quiet_want; go_big_quiet_op; first | go_big_quiet_on | (refine ⟨_, fun _ _ => rfl, ?_⟩; go_big_quiet_on)) | (go_big_quiet_want; apply qf_load1 _ _ rfl _ _ rfl; (exact hC); rotate_left 1; (focus (intro _; simp [go_sem]; done)); rotate_right 1; assumption; assumption; (simp only [Act.put, lS]; go_big_quiet_on)) | (go_big_quiet_want; apply qf_loadA _ _ rfl _ _ rfl (sz := 32); (exact hC); rotate_left 1; (focus (intro _; simp [go_sem]; done)); (focus (intro _; simp [go_sem]; done)); rotate_right 1; assumption; assumption; assumption; (simp only [Act.put, lS]; go_big_quiet_on))); exact wpQuiet_nil rfl))
    (apply wpF_free; (focus rfl); (focus rfl); (exact (fun w' hb _ => (HOP.out w' hb).mono fun e w'' ⟨v', h1, h2, h3⟩ => ⟨_, h1, fun d hd => by cases hd; exact ⟨rfl, h2.low hb.size⟩, h3⟩)); (focus (intro w; simp [go_sem]; done)); simp only [Act.put, vqF, pS])
    (apply wpF_d; (focus rfl); (focus rfl); (exact fun _ => rfl); simp only [Act.put, lS])
    (apply wpF_d; (focus rfl); (focus rfl); (exact (run_extract _ _ rfl rfl H40.out rfl)); simp only [Act.put, lS])
    (apply wpF_d; (focus rfl); (focus rfl); (exact (run_extract _ _ rfl rfl H40.out rfl)); simp only [Act.put, lS])
    (apply wpF_d; (focus rfl); (focus rfl); (exact fun _ => rfl); simp only [Act.put, lS])
    exact wpF_nil ⟨rfl, rfl⟩
  · intro ν ν'
    kernel_rfl
  · intro ν w4 hν hw4 hf
    have h40 : ν 40 = .tuple #[tupG (ν 40) 0, .int .i64 0] ∧ Buf 5 w4 w1.heap.size (tupG (ν 40) 0) inn := hf 40 (by decide)
    obtain ⟨vt, hvt⟩ : ∃ v, v = ν 40 := ⟨_, rfl⟩
    rw [← hvt] at h40 ⊢
    obtain ⟨ht, hbuf⟩ := h40
    obtain ⟨u, hu⟩ : ∃ u, u = tupG vt 0 := ⟨_, rfl⟩
    rw [← hu] at ht hbuf ⊢
    subst ht
    obtain ⟨a8, c8, rfl, _⟩ := hbuf.slb
    have HBF := Lib.hid hbuf
    have HB4 := Lib.hid (HB1.out.drew.trans (hw4.mono HB1.out.size))
    have hr4 := HR.out.drew.below hw4 hrd.lt
    have hlt4 := hr4.lt
    have hcn4 : w4.cell? ⟨g, 13, none⟩ = some (.int .i64 (n : Int)) := (hr4.cell 13).trans (hfC_13 _ _ n (ivS_len sec))
    clear hvt hu hbuf hf hν hw4
    simp only [Act.eval, Array.getD_eq_getD_getElem?, List.getElem?_toArray, List.getElem?_cons_succ, List.getElem?_cons_zero, Option.getD_some, List.getElem_toArray, List.getElem_cons_succ, List.getElem_cons_zero]
    have n2 : (n : Int) < 1000 := by have := HP.out.2.2; omega
    have sn : (n : Int) + 1 = ((n + 1 : Nat) : Int) := by omega
    obtain ⟨n', hn'⟩ : ∃ m, m = n + 1 := ⟨_, rfl⟩
    rw [← hn'] at sn
    have HN' := Lib.hid hn'
    have HR4 := Lib.hid hr4
    have HH4 := Lib.hid (HH.out.below HB4.out)
    clear hn'
    go_upto_region 14 with (fail)
    obtain ⟨w5, hw5⟩ : ∃ W, W = w4.setCell ⟨g, 13, none⟩ (.int .i64 (n' : Int)) := ⟨_, rfl⟩
    rw [← hw5]
    have HR5 := Lib.hid (show Row w5 g 68 (hfC (.pointer (some ⟨xb, 0, none⟩)) (ivS sec) (n + 1)) by
      rw [hw5]
      have := HR4.out.set 13 (.int .i64 (n' : Int))
      rw [hfC_s13 _ _ _ _ (ivS_len sec)] at this
      rw [← HN'.out]
      exact this)
    have HH5 := Lib.hid (show HalfW w5 g sec (n + 1) by
      rw [hw5, ← HN'.out]
      exact HH4.out.next n')
    have HG5 := Lib.hid (show w.grownBy w5 (some g) by
      rw [hw5]
      exact (below_grown HB4.out (some g)).trans (grownBy_setW w4 g 13 _))
    have HS5 := Lib.hid (show OwnW w5 w1.heap.size (.slice a8 inn.length c8) inn by
      rw [hw5]
      refine (OwnW.of_buf HBF.out).congr fun j hj => heap_setCell_other w4 _ j _ (fun e => ?_)
      have := (OwnW.of_buf HBF.out).ge j hj
      have := HR.out.lt
      have e' : j = g := e
      omega)
    clear hw5 hcn4 hr4 hlt4
    go_wp2_with fail
    refine (trim_any w5 a8 c8 inn HS5.out.slb (by have := HI.out.2.1; have := HP.out.1; omega)).mono ?_
    rintro e w6 ⟨⟨m, rfl, hm, ht⟩, hw6⟩
    obtain rfl := hw6.symm
    obtain ⟨L, hL⟩ : ∃ L, L = l.length := ⟨_, rfl⟩
    have hiL : inn = (l ++ [UInt8.ofNat k]) ++ List.replicate pad 0 := by rw [HI.out.1]; rfl
    have hmL : m = L + 1 := by
      have h1 : trimS inn = l ++ [UInt8.ofNat k] := by rw [HI.out.1]; exact trimS_inn k l pad HP.out.2.1
      have h2 := congrArg List.length (h1.symm.trans ht)
      rw [List.length_take, List.length_append, ← hL] at h2
      simp at h2
      omega
    subst hmL
    have h16 : L ≤ 16384 := by have := HP.out.1; omega
    have hS6 := HS5.out.slb
    obtain ⟨a', cap, e, s1, s2, s3, s4⟩ := id hS6
    obtain ⟨rfl, _, rfl⟩ := Value.slice.inj e
    cases a8 with
    | none => exact absurd (s3 rfl) (by omega)
    | some ad =>
    obtain ⟨b8, o8, sp8⟩ := ad
    obtain ⟨hsp, hcs⟩ := s4 _ rfl
    have hsp' : sp8 = none := hsp
    subst hsp'
    have hkn : (UInt8.ofNat k).toNat = k := by rw [UInt8.toNat_ofNat', Nat.mod_eq_of_lt (by have := HP.out.2.1; omega)]
    have hcl : w5.cell? ⟨b8, o8 + L, none⟩ = some (.int .u8 (k : Int)) := by
      have h1 := hcs L (by omega)
      have h2 : gb inn L = UInt8.ofNat k := by
        rw [hiL, gb, List.append_assoc, List.getD_eq_getElem?_getD, List.getElem?_append_right (by omega), hL, Nat.sub_self]
        rfl
      rw [h2] at h1
      have h3 : B (UInt8.ofNat k) = .int .u8 (k : Int) := by rw [B, hkn]
      rwa [h3] at h1
    have hkb : kindB (k : Int) = true := by have := HP.out.2.1; unfold kindB; simp; omega
    have HKB := Lib.hid hkb
    have HTK := Lib.hid (show SlB w5 (.slice (some ⟨b8, o8, none⟩) L c8) l by
      have h1 := hS6.takeW (n := L) (m := L) (by rw [List.length_take]; omega)
      have h2 : inn.take L = l := by rw [hiL, hL, List.append_assoc]; exact List.take_left' rfl
      rwa [h2] at h1)
    have p1 : ((L + 1 : Nat) : Int) = (L : Int) + 1 := by omega
    have p2 : (L : Int) + 1 - 1 = (L : Int) := by omega
    have p3 : ¬ (L : Int) < 0 := by omega
    have p4 : (0 : Int) ≤ (L : Int) := by omega
    have p5 : (L : Int) < (L : Int) + 1 := by omega
    have p6 : ¬ (16384 : Int) < (L : Int) := by omega
    have p7 : (L : Int) ≤ (c8 : Int) := by have := HI.out.2.1; omega
    have p8 : (L : Int) ≤ 16384 := by omega
    have p9 : (k : Int) ≤ 23 := by have := HP.out.2.1; omega
    have HPK := Lib.hid (⟨hL, hm⟩ : _ ∧ _)
    clear hL hiL hm ht h16 hS6 e s1 s2 s3 s4 hcs hkn hkb
    go_upto_region 20 with (go_at_call 29; refine (isKind_any _ _).mono ?_; rintro e w' ⟨rfl, rfl⟩; rw [HKB.out])
    have hcd : w5.drew.cell? ⟨b8, o8 + L, none⟩ = some (.int .u8 (k : Int)) := ((Below.refl _ w5).drew.cell (World.block_lt_of_cell? w5 _ hcl)).trans hcl
    refine wp_region_qtail (fun w' => w' = _) 10 (by kernel_rfl) (by kernel_rfl) rfl ?_
    simp only [List.take_succ_cons, List.take_zero, List.drop_succ_cons, List.drop_zero]
    repeat (first | go_big_quiet_skip | (go_big_quiet_want; go_big_quiet_op; go_big_quiet_on))
    refine wpQuiet_nil ?_
    rintro _ rfl
    go_wp2_with fail
    refine bodyPost_ret (results_tmp3 rfl _ _ _) rfl ?_
    refine ⟨_, rfl, ?_, HH5.out.below (Below.refl _ w5).drew, HG5.out.trans (below_grown (Below.refl _ w5).drew (some g))⟩
    exact HTK.out.below (Below.refl _ w5).drew
end Go.Proofs.YtcfbiafedfkbhaaDoor

namespace Go.Proofs.YtcfbiafedfkbhaaDoor
open Go.RowKit
set_option linter.unusedVariables false
set_option linter.unusedSimpArgs false

def bareS (k : Nat) (l : List UInt8) : List UInt8 := headS k l.length ++ l
theorem bareS_len (k : Nat) (l : List UInt8) : (bareS k l).length = 5 + l.length := by unfold bareS; rw [List.length_append]; rfl
set_option maxRecDepth 100000 in
set_option maxHeartbeats 4000000 in
theorem bare_ok (w : World) (k : Nat) (l : List UInt8) (v : Value) (hS : SlB w v l) (hk : 21 ≤ k ∧ k ≤ 23) (hl : l.length ≤ 16384) :
    Calls Tryd.prog 21 #[.int .i64 (k : Int), v] w fun e w' => ∃ v', e = .returned (.tuple #[v', .int .i64 0]) ∧ OwnW w' w.heap.size v' (bareS k l) ∧ Below w.heap.size w w' := by
  obtain ⟨a, c, rfl, _⟩ := id hS
  have HS := Lib.hid hS
  have hkb : kindB (k : Int) = true := by unfold kindB; simp; omega
  have HKB := Lib.hid hkb
  have m1 : ¬ (16384 : Int) < (l.length : Int) := by omega
  have m2 : (l.length : Int) ≤ 16384 := by omega
  have HP := Lib.hid (⟨hk, hl⟩ : _ ∧ _)
  clear hS hkb hk hl
  go_enter Tryd.func21, Tryd.ntmps21
  go_upto_region 5 with (go_at_call 29; refine (isKind_any _ _).mono ?_; rintro e w' ⟨rfl, rfl⟩; rw [HKB.out])
  go_wp2_with fail
  refine (head_any w k l.length (by have := HP.out.1; omega) (by have := HP.out.2; omega)).mono ?_
  rintro e w1 ⟨rfl, hr1, hB1⟩
  have HO1 := Lib.hid (show OwnW w1 w.heap.size (.slice (some ⟨w.heap.size, 0, none⟩) 5 5) (headS k l.length) from OwnW.of_row (l := headS k l.length) hr1 (Nat.le_refl _) (Nat.le_of_ble_eq_true rfl))
  have HB1 := Lib.hid hB1
  have HS1 := Lib.hid (HS.out.below hB1)
  have hs1 : w.heap.size ≤ w1.heap.size := hB1.size
  clear hr1 hB1
  go_wp2_with (at_builtin; refine wpl_appW rfl (.tmp 17) (.tmp 18) rfl w.heap.size (.slice (some ⟨w.heap.size, 0, none⟩) 5 5) (headS k l.length) rfl HO1.out (.slice a l.length c) l rfl HS1.out (by have h1 : (headS k l.length).length = 5 := rfl; omega) hs1 ?_)
  intro v2 w2 ho2 hg2 _
  obtain ⟨a2, c2, rfl, _⟩ := ho2.slb
  have hB2 : Below w.heap.size w w2 := HB1.out.grown hg2 hs1 (fun j e => HO1.out.ge j e)
  have HO2 := Lib.hid ho2
  have HB2 := Lib.hid hB2
  clear ho2 hg2 hB2
  go_wp2_with fail
  go_ret2
  exact ⟨_, rfl, HO2.out, HB2.out⟩
end Go.Proofs.YtcfbiafedfkbhaaDoor

namespace Go.Proofs.YtcfbiafedfkbhaaDoor
open Go.RowKit

theorem conv_const (w : World) (C : Array Value) (n c : Nat) : (convert 23 23 (.slice (some ⟨w.heap.size, 0, none⟩) n c)).run Tryd.prog (w.alloc (.cells C 5)) = .ok (.slice (some ⟨w.heap.size, 0, none⟩) n c) (w.alloc (.cells C 5 (C.size, C.size + 1))) :=
  Lib.run_convert_bytes_const w 23 5 C n c Tryd.underlying23 Tryd.underlying5
theorem conv_const_at (w : World) (g : Nat) (hg : g = w.heap.size) (C : Array Value) (n c : Nat) : (convert 23 23 (.slice (some ⟨g, 0, none⟩) n c)).run Tryd.prog (w.alloc (.cells C 5)) = .ok (.slice (some ⟨g, 0, none⟩) n c) (w.alloc (.cells C 5 (C.size, C.size + 1))) := by
  subst hg
  exact conv_const w C n c
attribute [go_sem] conv_const_at
theorem SlB.marked (w : World) (e : TypeId) (fz : Nat × Nat) (l : List UInt8) (hl : l.length ≤ 1000000) : SlB (w.alloc (.cells (AB l) e fz)) (.slice (some ⟨w.heap.size, 0, none⟩) l.length l.length) l := by
  refine ⟨_, l.length, rfl, Nat.le_refl _, by unfold maxLen; omega, (fun h => by cases h), fun ad had => ?_⟩
  obtain rfl := Option.some.inj had
  refine ⟨rfl, fun i hi => ?_⟩
  unfold World.cell?
  rw [heap_alloc_new w (.cells (AB l) e fz)]
  simp [AB, hi, gb]
end Go.Proofs.YtcfbiafedfkbhaaDoor
