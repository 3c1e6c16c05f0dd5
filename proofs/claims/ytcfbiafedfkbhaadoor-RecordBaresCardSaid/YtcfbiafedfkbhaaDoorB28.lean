/- Part of the proof: CutAny. No conditions of its own. -/
import Derived.ArgAppend
import Derived.Below
import Derived.BigQuiet
import Derived.BigRegion
import Derived.ChangeOld
import Derived.Deep.CutBlock
import Derived.Deep.DeepCutAuto
import Derived.Deep.Draws
import Derived.Deep.LoopGhost
import Derived.Deep.Quiet
import Derived.Deep.QuietTactic
import Derived.Deep.RegionHeld3
import Derived.Deep.RegionLaw
import Derived.Laws.AppendOwnNone
import Derived.Laws.Bits64
import Derived.Laws.BitsAllLaws
import Derived.Laws.BytesArg
import Derived.Laws.Concat
import Derived.Laws.CopyOwn
import Derived.Laws.MakeOwn
import Derived.Lib.AppendStr
import Derived.Lib.AppendZerosOnto
import Derived.Lib.Hide
import Derived.Lib.SlBytesConst
import Derived.LoopIn
import Derived.LoopNIn
import Derived.Maps.AppendAt
import Derived.OpenShut
import Derived.OrdersIn
import Derived.OwnWalkIn
import Derived.ProofKit
import Derived.RangeFuncBound
import Derived.RangeFuncBox
import Derived.RangeFuncCalls
import Derived.RangeFuncLeaves
import Derived.RangeFuncNested
import Derived.Shelf.Abstract
import Derived.ShutString
import Derived.StillTail
import Derived.TacticsIn
import Derived.TacticsInMore
import Derived.Test.YtcfbiafedfkbhaaDoorChecked
import Derived.Test.YtcfbiafedfkbhaaDoorProg
import Derived.WalkKit
import Derived.WalkSpells
import Derived.Test.YtcfbiafedfkbhaaDoorB25
import Derived.Test.YtcfbiafedfkbhaaDoorB27
namespace Go.Proofs.YtcfbiafedfkbhaaDoor
open Go.RowKit
set_option linter.unusedVariables false
set_option linter.unusedSimpArgs false

set_option maxRecDepth 100000 in
set_option maxHeartbeats 4000000 in
theorem alone_any (w : World) (a : Option Addr) (c : Nat) (l : List UInt8) (hS : SlB w (.slice a l.length c) l) (hl : l.length ≤ 1000000) :
    Calls Tryd.prog 34 #[.slice a l.length c] w fun e w' => e = .returned (.int .i64 (aloE l : Int)) ∧ Below w.heap.size w w' := by
  have HS := Lib.hid hS
  have HL := Lib.hid hl
  clear hS hl
  go_enter Tryd.func34, Tryd.ntmps34
  go_wp2_with fail
  refine (split_any w a c l HS.out HL.out).mono ?_
  rintro e w1 ⟨v1, v2, rfl, h1, h2, hB⟩
  obtain ⟨a1, c1, rfl, _⟩ := id h1
  obtain ⟨a2, c2, rfl, _⟩ := id h2
  obtain ⟨n2, hn2⟩ : ∃ n, n = (cutZ l).length := ⟨_, rfl⟩
  rw [← hn2]
  have HB := Lib.hid hB
  have HN := Lib.hid hn2
  by_cases h0 : cutE l = 0
  · have H0 := Lib.hid h0
    rw [h0]
    by_cases hz : 0 < n2
    · have z1 : (0 : Int) < (n2 : Int) := by omega
      have hE : aloE l = 2 := if_pos ⟨h0, fun e => by rw [e] at hn2; simp at hn2; omega⟩
      have HE := Lib.hid hE
      clear h1 h2 hB hn2 h0 hE hz
      go_wp2_with fail
      go_ret
      exact ⟨by rw [HE.out]; rfl, HB.out⟩
    · have z1 : ¬ (0 : Int) < (n2 : Int) := by omega
      have hE : aloE l = 0 := by
        unfold aloE
        rw [if_neg (fun h => h.2 (List.eq_nil_of_length_eq_zero (by omega)))]
        exact h0
      have HE := Lib.hid hE
      clear h1 h2 hB hn2 h0 hE hz
      go_wp2_with fail
      go_ret
      exact ⟨by rw [HE.out]; rfl, HB.out⟩
  · have hE : aloE l = cutE l := by unfold aloE; rw [if_neg (fun h => h0 h.1)]
    obtain ⟨k, hk⟩ : ∃ k, k = cutE l := ⟨_, rfl⟩
    rw [← hk] at h0 hE ⊢
    have z1 : ¬ (k : Int) = 0 := by omega
    have HE := Lib.hid hE
    clear h1 h2 hB hn2 h0 hE hk
    go_wp2_with fail
    go_ret
    exact ⟨by rw [HE.out]; rfl, HB.out⟩
set_option maxRecDepth 100000 in
set_option maxHeartbeats 4000000 in
theorem cut_any (w : World) (a : Option Addr) (c : Nat) (l : List UInt8) (hS : SlB w (.slice a l.length c) l) (hl : l.length ≤ 1000000) :
    Calls Tryd.prog 23 #[.slice a l.length c] w (SplitSt w l) := by
  have HS := Lib.hid hS
  have HL := Lib.hid hl
  clear hS hl
  go_enter Tryd.func23, Tryd.ntmps23
  go_wp2_with fail
  refine (split_any w a c l HS.out HL.out).mono ?_
  rintro e w1 ⟨v1, v2, rfl, h1, h2, hB⟩
  obtain ⟨a1, c1, rfl, _⟩ := id h1
  obtain ⟨a2, c2, rfl, _⟩ := id h2
  have HB := Lib.hid hB
  have H1 := Lib.hid h1
  have H2 := Lib.hid h2
  have HA := Lib.hid (show (cutA l).length ≤ 1000000 by
    unfold cutA
    split
    · rw [List.length_take]; have := HL.out; omega
    · simp)
  have HZ := Lib.hid (show (cutZ l).length ≤ 1000000 by
    unfold cutZ
    split
    · rw [List.length_drop]; have := HL.out; omega
    · simp)
  clear h1 h2 hB
  go_wp2_with fail
  refine (clone_any (.slice a1 (cutA l).length c1) (cutA l) w1 H1.out (by have := HA.out; omega)).mono ?_
  rintro e w2 ⟨v3, rfl, hb3, hB3⟩
  obtain ⟨a3, c3, rfl, _⟩ := hb3.slb
  have H23 := Lib.hid (H2.out.below hB3)
  have H3 := Lib.hid hb3.slb
  have HB3 := Lib.hid (HB.out.trans (hB3.mono HB.out.size))
  clear hb3 hB3
  go_wp2_with fail
  refine (clone_any (.slice a2 (cutZ l).length c2) (cutZ l) w2 H23.out (by have := HZ.out; omega)).mono ?_
  rintro e w4 ⟨v4, rfl, hb4, hB4⟩
  obtain ⟨a4, c4, rfl, _⟩ := hb4.slb
  have H34 := Lib.hid (H3.out.below hB4)
  have H4 := Lib.hid hb4.slb
  have HB4 := Lib.hid (HB3.out.trans (hB4.mono HB3.out.size))
  clear hb4 hB4
  go_wp2_with fail
  refine bodyPost_ret (results_tmp3 rfl _ _ _) rfl ?_
  exact ⟨.slice a3 (cutA l).length c3, .slice a4 (cutZ l).length c4, rfl, H34.out, H4.out, HB4.out⟩
def BodySt (w : World) (l : List UInt8) (e : Ending) (w' : World) : Prop :=
  ∃ v, e = .returned (.tuple #[.int .i64 (bodK l : Int), v, .int .i64 (bodE l : Int)]) ∧ SlB w' v (bodB l) ∧ Below w.heap.size w w'
theorem BodySt.no {w w' : World} {l : List UInt8} {k : Nat} (hk : bodE l = k) (h0 : k ≠ 0) (hb : Below w.heap.size w w') : BodySt w l (.returned (.tuple #[.int .i64 0, .slice none 0 0, .int .i64 (k : Int)])) w' := by
  have h1 : bodE l ≠ 0 := by rw [hk]; exact h0
  refine ⟨.slice none 0 0, ?_, ?_, hb⟩
  · rw [hk, bodK, if_neg h1]; rfl
  · rw [bodB, if_neg h1]; exact SlB.nilW _
theorem BodySt.ok {w w' : World} {l : List UInt8} {v : Value} {x : UInt8} (h0 : bodE l = 0) (hx : x = gb l 0) (h1 : SlB w' v (l.drop 5)) (hb : Below w.heap.size w w') : BodySt w l (.returned (.tuple #[.int .i64 (x.toNat : Int), v, .int .i64 0])) w' := by
  subst hx
  exact ⟨v, by rw [h0, bodK, if_pos h0]; rfl, by rw [bodB, if_pos h0]; exact h1, hb⟩
set_option maxRecDepth 100000 in
set_option maxHeartbeats 4000000 in
theorem body_at (w : World) (a : Option Addr) (c : Nat) (l : List UInt8) (hS : SlB w (.slice a l.length c) l) (hl : l.length ≤ 1000000) :
    Calls Tryd.prog 25 #[.slice a l.length c] w (BodySt w l) := by
  have HS := Lib.hid hS
  have HL := Lib.hid hl
  obtain ⟨m, hm⟩ : ∃ M, M = l.length := ⟨_, rfl⟩
  have HAL := Lib.hid (alone_any w a c l hS hl)
  rw [← hm] at HAL ⊢
  have m1 : (m : Int) ≤ 1000000 := by omega
  have m5 : (m : Int) ≤ (c : Int) := by obtain ⟨a', c', e, h1, _⟩ := hS; have := (Value.slice.inj e).2.2; omega
  have HM := Lib.hid hm
  clear hS hl hm
  go_enter Tryd.func25, Tryd.ntmps25
  go_wp2_with fail
  refine HAL.out.mono ?_
  rintro e w1 ⟨rfl, hB⟩
  have HB := Lib.hid hB
  clear hB
  by_cases h0 : aloE l = 0
  · have H0 := Lib.hid h0
    rw [h0]
    obtain ⟨hc0, hlen⟩ := aloE_inv h0
    have h5 : 5 ≤ m := by rw [HM.out]; omega
    by_cases hB : 16384 < m - 5
    · have z1 : (16384 : Int) < (m : Int) - 5 := by omega
      have HE := Lib.hid (show bodE l = 4 by unfold bodE; rw [if_neg (fun h => h h0), if_pos (by rw [← HM.out]; exact hB)])
      clear h0 hc0 hlen h5 hB
      go_wp2_with fail
      refine bodyPost_ret (results_tmp3 rfl _ _ _) rfl ?_
      exact BodySt.no HE.out (by decide) HB.out
    · have z1 : ¬ (16384 : Int) < (m : Int) - 5 := by omega
      have HE := Lib.hid (show bodE l = 0 by unfold bodE; rw [if_neg (fun h => h h0), if_neg (by rw [← HM.out]; exact hB)])
      have hS1 := HS.out.below HB.out
      obtain ⟨a', cap, e, s1, s2, s3, s4⟩ := id hS1
      obtain ⟨rfl, _, rfl⟩ := Value.slice.inj e
      cases a with
      | none => exact absurd (s3 rfl) (by have := HM.out; omega)
      | some ad =>
      obtain ⟨b, o, sp⟩ := ad
      obtain ⟨hsp, hcs⟩ := s4 _ rfl
      have hsp' : sp = none := hsp
      subst hsp'
      have hc : w1.drew.cell? ⟨b, o, none⟩ = some (B (gb l 0)) := hcs 0 (by have := HM.out; omega)
      obtain ⟨x, hx⟩ : ∃ x, x = gb l 0 := ⟨_, rfl⟩
      rw [← hx] at hc
      have HX := Lib.hid hx
      have t0 := x.toNat_lt
      have z2 : (0 : Int) < (m : Int) := by omega
      have z3 : (5 : Int) ≤ (m : Int) := by omega
      have HP := Lib.hid (⟨hlen, h5⟩ : _ ∧ _)
      have hml := HM.out
      have HC := Lib.hid (⟨hc, World.block_lt_of_cell? w1.drew _ hc⟩ : _ ∧ _)
      have HD := Lib.hid (show SlB w1.drew (.slice (some ⟨b, o + 5, none⟩) (m - 5) (c - 5)) (l.drop 5) by
        have h1 := hS1.dropW (n := 5) (by omega)
        rw [← hml] at h1
        exact h1.below (Below.refl _ w1).drew)
      have q1 : ¬ (c : Int) = 5 ∨ (c : Int) = 5 := by omega
      have HL5 := Lib.hid (show (l.drop 5).length ≤ 1000000 by rw [List.length_drop]; omega)
      clear h0 hc0 hlen h5 hB e s1 s2 s3 s4 hcs hx hS1 hml hc
      go_upto_region 6 with (fail)
      rcases q1 with q1 | q1
      · have q2 : (5 : Int) < (c : Int) := by omega
        refine wp_region_free 7 [21] (bufF 5 w1.drew.heap.size (fun _ => l.drop 5)) (by kernel_rfl) (by kernel_rfl) (by kernel_rfl) (bufF_stab _ _ _) ?_
        simp only [List.take_succ_cons, List.take_zero, List.drop_succ_cons, List.drop_zero]
        apply Exists.intro
        apply Exists.intro
        refine ⟨?_, ?_, ?_⟩
        · intro ν
          iterate 2 (apply wpF_q rfl; focus (intro C hC hG; (first | go_big_quiet_skip | (go_big_quiet_want; go_big_quiet_op; first | go_big_quiet_on | (refine ⟨_, fun _ _ => rfl, ?_⟩; go_big_quiet_on)) | (go_big_quiet_want; apply qf_load1 _ _ rfl _ _ rfl; (exact hC); rotate_left 1; (focus (intro _; simp [go_sem]; done)); rotate_right 1; assumption; assumption; (simp only [Act.put, lS]; go_big_quiet_on)) | (go_big_quiet_want; apply qf_loadA _ _ rfl _ _ rfl (sz := 32); (exact hC); rotate_left 1; (focus (intro _; simp [go_sem]; done)); (focus (intro _; simp [go_sem]; done)); rotate_right 1; assumption; assumption; assumption; (simp only [Act.put, lS]; go_big_quiet_on))); exact wpQuiet_nil rfl))
          (apply wpF_q rfl; focus (intro C hC hG; go_big_quiet_want; apply qf_loadC; (focus rfl); (focus rfl); (exact hC); (focus (intro _; simp [go_sem]; done)); (exact (fun w' hb => (hb.cell HC.out.2).trans HC.out.1)); (simp only [Act.put, lS]; go_big_quiet_on); exact wpQuiet_nil rfl))
          iterate 3 (apply wpF_q rfl; focus (intro C hC hG; (first | go_big_quiet_skip | (go_big_quiet_want; go_big_quiet_op; first | go_big_quiet_on | (refine ⟨_, fun _ _ => rfl, ?_⟩; go_big_quiet_on)) | (go_big_quiet_want; apply qf_load1 _ _ rfl _ _ rfl; (exact hC); rotate_left 1; (focus (intro _; simp [go_sem]; done)); rotate_right 1; assumption; assumption; (simp only [Act.put, lS]; go_big_quiet_on)) | (go_big_quiet_want; apply qf_loadA _ _ rfl _ _ rfl (sz := 32); (exact hC); rotate_left 1; (focus (intro _; simp [go_sem]; done)); (focus (intro _; simp [go_sem]; done)); rotate_right 1; assumption; assumption; assumption; (simp only [Act.put, lS]; go_big_quiet_on))); exact wpQuiet_nil rfl))
          (apply wpF_free; (focus rfl); (focus rfl); (exact (fun w' hb _ => bufX hb (Nat.le_refl _) rfl (clone_any (.slice (some ⟨b, o + 5, none⟩) (m - 5) (c - 5)) (l.drop 5) w' (HD.out.below hb) (by have := HL5.out; omega)))); (focus (intro w; simp [go_sem]; done)); simp only [Act.put, vqF, pS])
          exact wpF_nil ⟨rfl, rfl⟩
        · intro ν ν'
          kernel_rfl
        · intro ν w4 hw4 hf
          have h21 : SlB w4 (ν 21) (l.drop 5) := bufS (l := l.drop 5) (hf 21 (by decide)) rfl
          obtain ⟨v21, hv21⟩ : ∃ v, v = ν 21 := ⟨_, rfl⟩
          rw [← hv21] at h21 ⊢
          obtain ⟨a4, c4, rfl, _⟩ := id h21
          have H21 := Lib.hid h21
          have HB4 := Lib.hid (HB.out.drew.trans (hw4.mono HB.out.size))
          clear hv21 h21 hf hw4
          go_wp2_with fail
          refine bodyPost_ret (results_tmp3 rfl _ _ _) rfl ?_
          exact BodySt.ok (v := .slice a4 (l.drop 5).length c4) HE.out HX.out H21.out HB4.out
      · obtain rfl : c = 5 := by omega
        have HD := Lib.hid (show SlB w1.drew (.slice (some ⟨b, o, none⟩) (m - 5) 0) (l.drop 5) by
          have e1 : m - 5 = 0 := by omega
          have e2 : l.drop 5 = [] := List.drop_eq_nil_of_le (by have := HM.out; omega)
          rw [e1, e2]
          exact ⟨_, 0, rfl, Nat.le_refl _, Nat.zero_le _, fun _ => rfl, fun ad had => ⟨by obtain rfl := Option.some.inj had; rfl, fun i hi => absurd hi (Nat.not_lt_zero i)⟩⟩)
        refine wp_region_free 7 [21] (bufF 5 w1.drew.heap.size (fun _ => l.drop 5)) (by kernel_rfl) (by kernel_rfl) (by kernel_rfl) (bufF_stab _ _ _) ?_
        simp only [List.take_succ_cons, List.take_zero, List.drop_succ_cons, List.drop_zero]
        apply Exists.intro
        apply Exists.intro
        refine ⟨?_, ?_, ?_⟩
        · intro ν
          iterate 2 (apply wpF_q rfl; focus (intro C hC hG; (first | go_big_quiet_skip | (go_big_quiet_want; go_big_quiet_op; first | go_big_quiet_on | (refine ⟨_, fun _ _ => rfl, ?_⟩; go_big_quiet_on)) | (go_big_quiet_want; apply qf_load1 _ _ rfl _ _ rfl; (exact hC); rotate_left 1; (focus (intro _; simp [go_sem]; done)); rotate_right 1; assumption; assumption; (simp only [Act.put, lS]; go_big_quiet_on)) | (go_big_quiet_want; apply qf_loadA _ _ rfl _ _ rfl (sz := 32); (exact hC); rotate_left 1; (focus (intro _; simp [go_sem]; done)); (focus (intro _; simp [go_sem]; done)); rotate_right 1; assumption; assumption; assumption; (simp only [Act.put, lS]; go_big_quiet_on))); exact wpQuiet_nil rfl))
          (apply wpF_q rfl; focus (intro C hC hG; go_big_quiet_want; apply qf_loadC; (focus rfl); (focus rfl); (exact hC); (focus (intro _; simp [go_sem]; done)); (exact (fun w' hb => (hb.cell HC.out.2).trans HC.out.1)); (simp only [Act.put, lS]; go_big_quiet_on); exact wpQuiet_nil rfl))
          iterate 3 (apply wpF_q rfl; focus (intro C hC hG; (first | go_big_quiet_skip | (go_big_quiet_want; go_big_quiet_op; first | go_big_quiet_on | (refine ⟨_, fun _ _ => rfl, ?_⟩; go_big_quiet_on)) | (go_big_quiet_want; apply qf_load1 _ _ rfl _ _ rfl; (exact hC); rotate_left 1; (focus (intro _; simp [go_sem]; done)); rotate_right 1; assumption; assumption; (simp only [Act.put, lS]; go_big_quiet_on)) | (go_big_quiet_want; apply qf_loadA _ _ rfl _ _ rfl (sz := 32); (exact hC); rotate_left 1; (focus (intro _; simp [go_sem]; done)); (focus (intro _; simp [go_sem]; done)); rotate_right 1; assumption; assumption; assumption; (simp only [Act.put, lS]; go_big_quiet_on))); exact wpQuiet_nil rfl))
          (apply wpF_free; (focus rfl); (focus rfl); (exact (fun w' hb _ => bufX hb (Nat.le_refl _) rfl (clone_any (.slice (some ⟨b, o, none⟩) (m - 5) 0) (l.drop 5) w' (HD.out.below hb) (by have := HL5.out; omega)))); (focus (intro w; simp [go_sem]; done)); simp only [Act.put, vqF, pS])
          exact wpF_nil ⟨rfl, rfl⟩
        · intro ν ν'
          kernel_rfl
        · intro ν w4 hw4 hf
          have h21 : SlB w4 (ν 21) (l.drop 5) := bufS (l := l.drop 5) (hf 21 (by decide)) rfl
          obtain ⟨v21, hv21⟩ : ∃ v, v = ν 21 := ⟨_, rfl⟩
          rw [← hv21] at h21 ⊢
          obtain ⟨a4, c4, rfl, _⟩ := id h21
          have H21 := Lib.hid h21
          have HB4 := Lib.hid (HB.out.drew.trans (hw4.mono HB.out.size))
          clear hv21 h21 hf hw4
          go_wp2_with fail
          refine bodyPost_ret (results_tmp3 rfl _ _ _) rfl ?_
          exact BodySt.ok (v := .slice a4 (l.drop 5).length c4) HE.out HX.out H21.out HB4.out
  · obtain ⟨k, hk⟩ : ∃ k, k = aloE l := ⟨_, rfl⟩
    have HE := Lib.hid (show bodE l = k by unfold bodE; rw [if_pos h0, hk])
    rw [← hk] at h0 ⊢
    have z1 : ¬ (k : Int) = 0 := by omega
    have H0 := Lib.hid h0
    clear h0 hk
    go_wp2_with fail
    refine bodyPost_ret (results_tmp3 rfl _ _ _) rfl ?_
    exact BodySt.no HE.out H0.out HB.out
end Go.Proofs.YtcfbiafedfkbhaaDoor
