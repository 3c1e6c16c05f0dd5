/- Part of the proof: HelloWrites. No conditions of its own. -/
import Derived.Below
import Derived.BigQuiet
import Derived.ChangeOld
import Derived.Deep.AppendLies
import Derived.Deep.CutBlock
import Derived.Deep.DeepCutAuto
import Derived.Deep.Draws
import Derived.Deep.LoopGhost
import Derived.Deep.Quiet
import Derived.Deep.QuietTactic
import Derived.Deep.RegionLaw
import Derived.Great.BuildSlice
import Derived.Great.FillDense
import Derived.Laws.AppendOwn
import Derived.Laws.AppendOwnNone
import Derived.Laws.BytesArg
import Derived.Laws.Concat
import Derived.Laws.MakeOwn
import Derived.Lib.AppendZerosOnto
import Derived.Lib.BufferWrite
import Derived.Lib.ConvBytes
import Derived.Lib.Hide
import Derived.Lib.SlBytesConst
import Derived.OpenShut
import Derived.ProofKit
import Derived.ShutString
import Derived.StillTail
import Derived.Stop.BytesEq
import Derived.Test.YtnenoecmmelehaaProg
import Derived.WalkKit
import Derived.WalkLawsBesides
import Derived.WalkSpells
import Derived.Test.YtnenoecmmelehaaK43
import Derived.Test.YtnenoecmmelehaaK45
namespace Go.Proofs.Ytnenoecmmelehaa
open Go.RowKit
set_option linter.unusedVariables false
set_option linter.unusedSimpArgs false

theorem RMsgAt.sizeW {w : World} {C : Array Value} {m : MsgP} (h : RMsgAt w C m) : C.size = 75 ∧ allOne C = true ∧ over zMsg 0 C = C := by
  obtain ⟨a, c, rfl, _⟩ := h
  exact ⟨mD_sz, by rw [mD_one]; rfl, over_all _ _ (zMsg_size.trans mD_sz.symm)⟩
set_option maxRecDepth 100000 in
set_option maxHeartbeats 4000000 in
theorem hwrites (C : Array Value) (m : MsgP) (w : World) (h : RMsgAt w C m) : Calls Try.prog 3 #[.agg C] w fun e w' => e = .returned (.bool true) ∧ Below w.heap.size w w' := by
  obtain ⟨hz, h1c, _⟩ := h.sizeW
  have H := Lib.hid h
  clear h
  go_enter Try.func3, Try.ntmps3
  go_wp2_with fail
  refine gen_wpC (fun w0 => Row w0 w.heap.size 25 C ∧ Below w.heap.size w w0) ⟨Row.new _ _ _, (Below.refl _ _).alloc (Nat.le_refl _) _⟩ ?_
  rintro w0 ⟨hr, hB⟩
  refine (tame_atT (H.out.below hB)).mono ?_
  rintro e w1 ⟨C2, rfl, h2, hB1⟩
  obtain ⟨hz2, h1c2, _⟩ := h2.1.sizeW
  have ho2 := over_C hz hz2
  have hr := Row.below hr hB1 hr.lt
  have hB := hB.trans (hB1.mono hB.size)
  have H2 := Lib.hid h2
  have hlt := hr.lt
  clear h2 hB1 H
  go_wp2_with fail
  refine gen_wpC (fun w2 => Row w2 w.heap.size 25 C2 ∧ RMsgT w2 C2 (tameP m) ∧ Below w.heap.size w w2) ⟨hr.setRow C2, H2.out.keptR hr C2, bSetRow hB (Nat.le_refl _) _⟩ ?_
  clear hr hB hlt H2
  rintro w2 ⟨hr, h2, hB⟩
  refine (to_at h2.1 (tameP_small m)).mono ?_
  rintro e w3 ⟨D, rfl, hD, hB3⟩
  obtain ⟨hzD, h1D, hoD⟩ := hD.size
  have hr := Row.below hr hB3 hr.lt
  have h2 := h2.below hB3
  have hB := hB.trans (hB3.mono hB.size)
  have H2 := Lib.hid h2
  have HD := Lib.hid hD
  have hlt := hr.lt
  clear h2 hD hB3
  go_wp2_with fail
  have hBn : Below w3.heap.size w3 ((w3.alloc (.cells zH 30)).setRow w3.heap.size D) := bSetRow ((Below.refl _ _).alloc (Nat.le_refl _) _) (Nat.le_refl _) _
  obtain ⟨g3, hg3⟩ : ∃ g, g = w3.heap.size := ⟨_, rfl⟩
  refine gen_wpC (fun w4 => Row w4 w.heap.size 25 C2 ∧ Row w4 g3 30 D ∧ RMsgT w4 C2 (tameP m) ∧ MsgAt w4 D (tameP m) ∧ Below w.heap.size w w4) ⟨Row.below hr hBn hr.lt, by rw [hg3]; exact (Row.new _ _ _).setRow D, H2.out.below hBn, HD.out.below hBn, hB.trans (hBn.mono hB.size)⟩ ?_
  rw [← hg3]
  have hne : w.heap.size ≠ g3 := by omega
  clear hBn hr hB hlt H2 HD hg3
  rintro w4 ⟨hr, hr3, h2, hD, hB⟩
  refine (write_at hD (tameP_small m)).mono ?_
  rintro e w5 ⟨v, rfl, hb, hB5⟩
  have hr := Row.below hr hB5 hr.lt
  have hr3 := Row.below hr3 hB5 hr3.lt
  have hB := hB.trans (hB5.mono hB.size)
  have H2 := Lib.hid (h2.below hB5)
  have HD := Lib.hid (hD.below hB5)
  have HS := Lib.hid hb.slb
  obtain ⟨va, vc, rfl, _⟩ := hb.slb
  clear h2 hD hB5 hb
  go_wp2_with fail
  refine (refwrite_at H2.out.1 (tameP_small m)).mono ?_
  rintro e w6 ⟨rfl, hB6⟩
  have hr := Row.below hr hB6 hr.lt
  have hr3 := Row.below hr3 hB6 hr3.lt
  have hB := hB.trans (hB6.mono hB.size)
  have H2 := Lib.hid (H2.out.below hB6)
  have HD := Lib.hid (HD.out.below hB6)
  have HS := Lib.hid (HS.out.below hB6)
  obtain ⟨O, hO⟩ : ∃ O, O = outW (tameP m) := ⟨_, rfl⟩
  obtain ⟨E, hE⟩ : ∃ E, E = errW (tameP m) := ⟨_, rfl⟩
  rw [← hO] at HS
  rw [← hO, ← hE]
  clear hB6 hO hE
  go_upto_region 5 with (fail)
  have hrd := hr.drew
  have hr3d := hr3.drew
  refine wp_region_free 16 [36] (fun d v w' => ∃ F, v = .agg F ∧ RMsgAt w' F (tameP m)) (by kernel_rfl) (by kernel_rfl) (by kernel_rfl) (fun d v w w' ⟨F, h1, h2⟩ hb => ⟨F, h1, h2.soft hb.soft⟩) ?h
  simp only [List.take_succ_cons, List.take_zero, List.drop_succ_cons, List.drop_zero]
  apply Exists.intro
  apply Exists.intro
  refine ⟨?_, ?_, ?_⟩
  · intro ν
    (apply wpF_q rfl; focus (intro C hC hG; go_big_quiet_want; apply qf_call; (exact hC); (exact hG); (exact (fun w' _ _ => hellos_any w')); (focus (intro w; simp [go_sem]; done)); (simp only [Act.put, lS]; go_big_quiet_on); exact wpQuiet_nil rfl))
    iterate 2 (apply wpF_q rfl; focus (intro C hC hG; (first | go_big_quiet_skip | (go_big_quiet_want; go_big_quiet_op; first | go_big_quiet_on | (refine ⟨_, fun _ _ => rfl, ?_⟩; go_big_quiet_on)) | (go_big_quiet_want; apply qf_load1 _ _ rfl _ _ rfl; (exact hC); rotate_left 1; (focus (intro _; simp [go_sem]; done)); rotate_right 1; assumption; assumption; (simp only [Act.put, lS]; go_big_quiet_on)) | (go_big_quiet_want; apply qf_loadA _ _ rfl _ _ rfl (sz := 32); (exact hC); rotate_left 1; (focus (intro _; simp [go_sem]; done)); (focus (intro _; simp [go_sem]; done)); rotate_right 1; assumption; assumption; assumption; (simp only [Act.put, lS]; go_big_quiet_on))); exact wpQuiet_nil rfl))
    (apply wpF_q rfl; focus (intro C hC hG; go_big_quiet_want; apply qf_conv; (focus rfl); (exact hC); (focus rfl); (exact Try.underlying27); (exact Try.underlying5); (exact Try.underlying9); (exact (fun w' hB' _ => HS.out.below ((Below.drew (Below.refl _ _)).trans hB'))); (simp only [Act.put, lS]; go_big_quiet_on); exact wpQuiet_nil rfl))
    iterate 9 (apply wpF_q rfl; focus (intro C hC hG; (first | go_big_quiet_skip | (go_big_quiet_want; go_big_quiet_op; first | go_big_quiet_on | (refine ⟨_, fun _ _ => rfl, ?_⟩; go_big_quiet_on)) | (go_big_quiet_want; apply qf_load1 _ _ rfl _ _ rfl; (exact hC); rotate_left 1; (focus (intro _; simp [go_sem]; done)); rotate_right 1; assumption; assumption; (simp only [Act.put, lS]; go_big_quiet_on)) | (go_big_quiet_want; apply qf_loadA _ _ rfl _ _ rfl (sz := 32); (exact hC); rotate_left 1; (focus (intro _; simp [go_sem]; done)); (focus (intro _; simp [go_sem]; done)); rotate_right 1; assumption; assumption; assumption; (simp only [Act.put, lS]; go_big_quiet_on))); exact wpQuiet_nil rfl))
    (apply wpF_q rfl; focus (intro C hC hG; go_big_quiet_want; apply qf_loadM _ rfl _ rfl; (exact hC); assumption; assumption; (simp only [Act.put, lS]; go_big_quiet_on); exact wpQuiet_nil rfl))
    (apply wpF_free; (focus rfl); (focus rfl); (exact (fun w' hB' _ => (from_at (HD.out.below ((Below.drew (Below.refl _ _)).trans hB')) (tameP_small m).certs).mono fun e w'' ⟨F, h1, h2, h3⟩ => ⟨_, h1, fun d hd => by cases hd; exact ⟨F, rfl, h2⟩, h3⟩)); (focus (intro w; simp [go_sem]; done)); simp only [Act.put, vqF, pS])
    (apply wpF_q rfl; focus (intro C hC hG; go_big_quiet_want; apply qf_loadR _ rfl _ rfl; (exact hC); assumption; assumption; (simp only [Act.put, lS]; go_big_quiet_on); exact wpQuiet_nil rfl))
    exact wpF_nil ⟨rfl, rfl⟩
  · intro ν ν'; kernel_rfl
  intro ν w7 hB7 hDD
  have h36 : ∃ F, ν 36 = .agg F ∧ RMsgAt w7 F (tameP m) := hDD 36 (by decide)
  obtain ⟨F, h36, hF⟩ := h36
  simp only [h36]
  have hBw : Below w6.heap.size w6 w7 := (Below.drew (Below.refl _ _)).trans hB7
  have HSA := Lib.hid (same_at hF (H2.out.below hBw).1)
  have HBF := Lib.hid (hB.trans (hBw.mono hB.size))
  clear hDD h36 hF hB7 hBw hrd hr3d
  go_wp2_with fail
  refine HSA.out.mono ?_
  rintro e w8 ⟨rfl, hB8⟩
  have hBe := HBF.out.trans (hB8.mono HBF.out.size)
  clear hB8 HSA HBF
  go_wp2_with fail
  go_ret
  exact ⟨rfl, hBe⟩
end Go.Proofs.Ytnenoecmmelehaa
