/- Part of the proof: HRefBodyG. No conditions of its own. -/
import Derived.Below
import Derived.BigQuiet
import Derived.ChangeOld
import Derived.Deep.CutBlock
import Derived.Deep.DeepCutAuto
import Derived.Deep.Draws
import Derived.Deep.LoopGhost
import Derived.Deep.Quiet
import Derived.Deep.QuietTactic
import Derived.Deep.RegionLaw
import Derived.Great.BuildSlice
import Derived.Great.FillDense
import Derived.Laws.AppendOwn
import Derived.Laws.AppendOwnNone
import Derived.Laws.BytesArg
import Derived.Laws.Concat
import Derived.Laws.MakeOwn
import Derived.Lib.AppendZerosOnto
import Derived.Lib.BufferWrite
import Derived.Lib.Hide
import Derived.Lib.SlBytesConst
import Derived.OpenShut
import Derived.ProofKit
import Derived.ShutString
import Derived.StillTail
import Derived.Stop.BytesEq
import Derived.Test.YtnenoecmmelehaaProg
import Derived.WalkKit
import Derived.WalkLawsBesides
import Derived.WalkSpells
import Derived.Test.YtnenoecmmelehaaK19
import Derived.Test.YtnenoecmmelehaaK22
import Derived.Test.YtnenoecmmelehaaK23
import Derived.Test.YtnenoecmmelehaaK24
import Derived.Test.YtnenoecmmelehaaK25
import Derived.Test.YtnenoecmmelehaaK26
import Derived.Test.YtnenoecmmelehaaK27
import Derived.Test.YtnenoecmmelehaaK28
import Derived.Test.YtnenoecmmelehaaK29
namespace Go.Proofs.Ytnenoecmmelehaa
open Go.RowKit
set_option linter.unusedVariables false
set_option linter.unusedSimpArgs false

set_option maxRecDepth 100000 in
set_option maxHeartbeats 4000000 in
theorem refbody_no (k : Int) (r mk : List UInt8) (v0 v1 v2 v3 v4 v5 v6 v7 v8 v9 : Value) (w : World) (o0 : v0.oneCell' = true) (o1 : v1.oneCell' = true) (o2 : v2.oneCell' = true) (o3 : v3.oneCell' = true) (o4 : v4.oneCell' = true) (o5 : v5.oneCell' = true) (o6 : v6.oneCell' = true) (o7 : v7.oneCell' = true) (o8 : v8.oneCell' = true) (o9 : v9.oneCell' = true) (h1 : k ≠ 1) (h2 : k ≠ 2) (h4 : k ≠ 4) (h8 : k ≠ 8) (h11 : k ≠ 11) (h13 : k ≠ 13) (h15 : k ≠ 15) (h20 : k ≠ 20) :
    Calls Try.prog 25 #[.agg (mD k r mk [v0, v1, v2, v3, v4, v5, v6, v7, v8, v9])] w fun e w' => e = .returned (.tuple #[S [], .bool false]) ∧ Below w.heap.size w w' := by
  have e1 : (k == 1) = false := by simpa using h1
  have e2 : (k == 2) = false := by simpa using h2
  have e4 : (k == 4) = false := by simpa using h4
  have e8 : (k == 8) = false := by simpa using h8
  have e11 : (k == 11) = false := by simpa using h11
  have e13 : (k == 13) = false := by simpa using h13
  have e15 : (k == 15) = false := by simpa using h15
  have e20 : (k == 20) = false := by simpa using h20
  clear h1 h2 h4 h8 h11 h13 h15 h20
  go_enter Try.func25, Try.ntmps25
  go_wp2_with fail
  go_ret2
  exact ⟨rfl, by (repeat (first | (with_reducible exact Below.refl _ _) | ((with_reducible first | refine bSetRow ?_ ?_ _ | refine Below.alloc ?_ ?_ _ | refine Below.setCell ?_ ?_ _); rotate_left 1; (focus (first | (simp; done) | (simp; omega)))) | (with_reducible refine Below.drew ?_)))⟩
def BodyE (m : MsgP) (e : Ending) : Prop := ∃ s, e = .returned (.tuple #[S s, .bool (rightP m)]) ∧ (rightP m = true → s = bodyP m)
theorem bodyE_yes {m : MsgP} {e : Ending} {s : List UInt8} (he : e = .returned (.tuple #[S s, .bool true])) (hr : rightP m = true) (hs : s = bodyP m) : BodyE m e := ⟨s, by rw [hr]; exact he, fun _ => hs⟩
theorem bodyE_no {m : MsgP} {e : Ending} (he : ∃ s, e = .returned (.tuple #[S s, .bool false])) (hr : rightP m = false) : BodyE m e := by
  obtain ⟨s, he⟩ := he
  exact ⟨s, by rw [hr]; exact he, fun h => by rw [hr] at h; cases h⟩
theorem bodyE_is {m : MsgP} {e : Ending} {s : List UInt8} {b : Bool} (he : e = .returned (.tuple #[S s, .bool b])) (hr : rightP m = b) (hs : s = bodyP m) : BodyE m e := ⟨s, by rw [hr]; exact he, fun _ => hs⟩
theorem refbody_any {m : MsgP} {C : Array Value} {w : World} (h : RMsgAt w C m) (hs : SmallM m) : Calls Try.prog 25 #[.agg C] w fun e w' => BodyE m e ∧ Below w.heap.size w w' := by
  obtain ⟨ac, cc, rfl, hp, hr, hm⟩ := h
  obtain ⟨s1, s2, s3, s4, s5, s6, s7⟩ := hs
  obtain ⟨k, r, mk, ses, sh, ti, no, sg, ce, life, age, psk, retry⟩ := m
  dsimp only at *
  have fr := fx_of hr
  have fm := fx_of hm
  have fz : fx zero32 = zero32 := fx_of rfl
  by_cases k8 : k = 8
  · subst k8
    refine (refbody_8 r mk ses sh ti no sg ac ce.length cc life age psk retry w).mono fun e w' ⟨he, hb⟩ => ⟨bodyE_is he ?_ rfl, hb⟩
    simp [rightP, bare_eq, fr, fm]
  by_cases k13 : k = 13
  · subst k13
    refine (refbody_13 r mk ses sh ti no sg ac ce.length cc life age psk retry w).mono fun e w' ⟨he, hb⟩ => ⟨bodyE_is he ?_ rfl, hb⟩
    simp [rightP, bare_eq, fr, fm]
  by_cases k20 : k = 20
  · subst k20
    refine (refbody_20 r mk ses sh ti no sg ac ce.length cc life age psk retry w).mono fun e w' ⟨he, hb⟩ => ⟨bodyE_is he ?_ ?_, hb⟩
    · simp [rightP, bare_eq, fr, fz]
    · rw [fm]; rfl
  by_cases k15 : k = 15
  · subst k15
    have hrp : rightP ⟨15, r, mk, ses, sh, ti, no, sg, ce, life, age, psk, retry⟩ = ((decide (1 ≤ sg.length) && decide (sg.length ≤ 100)) && bareB (fx r) (fx mk) (ses.length + sh.length + ti.length + no.length + ([] : List UInt8).length + ce.length) life age psk retry) := by
      simp [rightP, bare_eq, fr, fm]
    cases hb : bareB (fx r) (fx mk) (ses.length + sh.length + ti.length + no.length + ([] : List UInt8).length + ce.length) life age psk retry with
    | false =>
      rw [hb] at hrp
      exact (refbody_15a r mk ses sh ti no sg ac ce.length cc life age psk retry w hb (by omega)).mono fun e w' ⟨he, hb⟩ => ⟨bodyE_no he (by rw [hrp]; simp), hb⟩
    | true =>
      rw [hb] at hrp
      by_cases h1 : 1 ≤ sg.length
      · refine (refbody_15 r mk ses sh ti no sg ac ce.length cc life age psk retry w hb h1 (by omega)).mono fun e w' ⟨he, hb⟩ => ⟨bodyE_is he ?_ rfl, hb⟩
        rw [hrp]
        have : decide ((sg.length : Int) ≤ 100) = decide (sg.length ≤ 100) := natI sg.length 100
        rw [this]
        simp [h1]
      · exact (refbody_15b r mk ses sh ti no sg ac ce.length cc life age psk retry w hb h1 (by omega)).mono fun e w' ⟨he, hb⟩ => ⟨bodyE_no he (by rw [hrp]; simp [h1]), hb⟩
  by_cases k4 : k = 4
  · subst k4
    have hrp : rightP ⟨4, r, mk, ses, sh, ti, no, sg, ce, life, age, psk, retry⟩ = ((wideP life && wideP age && decide (1 ≤ no.length) && decide (no.length ≤ 8) && decide (1 ≤ ti.length) && decide (ti.length ≤ 1000)) && bareB (fx r) (fx mk) (ses.length + sh.length + ([] : List UInt8).length + ([] : List UInt8).length + sg.length + ce.length) 0 0 psk retry) := by
      simp [rightP, bare_eq, fr, fm]
    by_cases hc : bareB (fx r) (fx mk) (ses.length + sh.length + ([] : List UInt8).length + ([] : List UInt8).length + sg.length + ce.length) 0 0 psk retry = true ∧ wideP life = true ∧ wideP age = true ∧ 1 ≤ no.length ∧ no.length ≤ 8 ∧ 1 ≤ ti.length ∧ ti.length ≤ 1000
    · obtain ⟨hb, hl, ha, q1, q2, q3, q4⟩ := hc
      have hyes : rightP ⟨4, r, mk, ses, sh, ti, no, sg, ce, life, age, psk, retry⟩ = true := by rw [hrp, hb, hl, ha]; simp [q1, q2, q3, q4]
      obtain ⟨ln, rfl, hln⟩ := wide_nat hl
      obtain ⟨an, rfl, han⟩ := wide_nat ha
      refine (refbody_4 r mk ses sh ti no sg ac ce.length cc ln an psk retry w hb q1 q2 q3 q4 hln han).mono fun e w' ⟨he, hb⟩ => ⟨bodyE_yes he hyes ?_, hb⟩
      simp [bodyP]
    · have hno : rightP ⟨4, r, mk, ses, sh, ti, no, sg, ce, life, age, psk, retry⟩ = false := by
        rw [hrp, Bool.eq_false_iff]
        intro h
        simp only [Bool.and_eq_true, decide_eq_true_eq] at h
        exact hc ⟨h.2, h.1.1.1.1.1.1, h.1.1.1.1.1.2, h.1.1.1.1.2, h.1.1.1.2, h.1.1.2, h.1.2⟩
      exact (refbody_4n r mk ses sh ti no sg ac ce.length cc life age psk retry w hc).mono fun e w' ⟨he, hb⟩ => ⟨bodyE_no he hno, hb⟩
  by_cases k11 : k = 11
  · subst k11
    have hrp : rightP ⟨11, r, mk, ses, sh, ti, no, sg, ce, life, age, psk, retry⟩ = ((decide (ce.length ≤ 5) && ce.all goodC) && bareB (fx r) (fx mk) (ses.length + sh.length + ti.length + no.length + sg.length + 0) life age psk retry) := by
      have : (fun c : List UInt8 => decide (1 ≤ c.length) && decide (c.length ≤ 2048)) = goodC := rfl
      simp [rightP, bare_eq, fr, fm, this]
    cases hb : bareB (fx r) (fx mk) (ses.length + sh.length + ti.length + no.length + sg.length + 0) life age psk retry with
    | false =>
      rw [hb] at hrp
      exact (refbody_11a r mk ses sh ti no sg ac ce.length cc life age psk retry w hb).mono fun e w' ⟨he, hb⟩ => ⟨bodyE_no he (by rw [hrp]; simp), hb⟩
    | true =>
      rw [hb] at hrp
      by_cases h5 : ce.length ≤ 5
      · refine (refbody_11 r mk ses sh ti no sg ce ac cc life age psk retry w hb hp h5).mono fun e w' ⟨he, hb⟩ => ⟨?_, hb⟩
        rcases he with ⟨ha, he⟩ | ⟨ha, he⟩
        · exact bodyE_yes he (by rw [hrp, ha]; simp [h5]) rfl
        · exact bodyE_no he (by rw [hrp, ha]; simp)
      · exact (refbody_11b r mk ses sh ti no sg ac ce.length cc life age psk retry w hb (by omega)).mono fun e w' ⟨he, hb⟩ => ⟨bodyE_no he (by rw [hrp]; simp [h5]), hb⟩
  by_cases k1 : k = 1
  · subst k1
    cases psk with
    | true =>
      have hrp : rightP ⟨1, r, mk, ses, sh, ti, no, sg, ce, life, age, true, retry⟩ = ((decide (ses.length ≤ 32) && (decide (sh.length = 0) || decide (sh.length = 65)) && (decide (1 ≤ ti.length) && decide (ti.length ≤ 1000) && wideP age)) && bareB (fx zero32) (fx zero32) (([] : List UInt8).length + ([] : List UInt8).length + ([] : List UInt8).length + no.length + sg.length + ce.length) life 0 false retry) := by
        rw [fz]
        rw [Bool.eq_iff_iff]
        simp [rightP, bare_eq, nil_len]
      by_cases hc : bareB (fx zero32) (fx zero32) (([] : List UInt8).length + ([] : List UInt8).length + ([] : List UInt8).length + no.length + sg.length + ce.length) life 0 false retry = true ∧ ses.length ≤ 32 ∧ (sh.length = 0 ∨ sh.length = 65) ∧ 1 ≤ ti.length ∧ ti.length ≤ 1000 ∧ wideP age = true
      · obtain ⟨hb, q1, q2, q3, q4, q5⟩ := hc
        have hyes : rightP ⟨1, r, mk, ses, sh, ti, no, sg, ce, life, age, true, retry⟩ = true := by
          rw [hrp, hb, q5]
          simp only [Bool.and_eq_true, Bool.or_eq_true, decide_eq_true_eq]
          exact ⟨⟨⟨q1, q2⟩, ⟨q3, q4⟩, (by trivial)⟩, (by trivial)⟩
        obtain ⟨an, rfl, han⟩ := wide_nat q5
        rcases q2 with q2 | q2
        · obtain rfl := List.eq_nil_of_length_eq_zero q2
          refine (refbody_1nt r mk ses ti no sg ac ce.length cc life an retry w hb q1 q3 q4 han).mono fun e w' ⟨he, hb⟩ => ⟨bodyE_yes he hyes ?_, hb⟩
          rw [fr, fm]
          simp [bodyP, offersP]
        · have hne : sh ≠ [] := fun e => by subst e; simp at q2
          refine (refbody_1st r mk ses sh ti no sg ac ce.length cc life an retry w hb q1 q2 q3 q4 han).mono fun e w' ⟨he, hb⟩ => ⟨bodyE_yes he hyes ?_, hb⟩
          rw [fr, fm]
          simp [bodyP, offersP, hne]
      · have hno : rightP ⟨1, r, mk, ses, sh, ti, no, sg, ce, life, age, true, retry⟩ = false := by
          rw [hrp, Bool.eq_false_iff]
          intro h
          simp only [Bool.and_eq_true, Bool.or_eq_true, decide_eq_true_eq] at h
          exact hc ⟨h.2, h.1.1.1, h.1.1.2, h.1.2.1.1, h.1.2.1.2, h.1.2.2⟩
        exact (refbody_1not r mk ses sh ti no sg ac ce.length cc life age retry w hc).mono fun e w' ⟨he, hb⟩ => ⟨bodyE_no he hno, hb⟩
    | false =>
      have hrp : rightP ⟨1, r, mk, ses, sh, ti, no, sg, ce, life, age, false, retry⟩ = ((decide (ses.length ≤ 32) && (decide (sh.length = 0) || decide (sh.length = 65))) && bareB (fx zero32) (fx mk) (([] : List UInt8).length + ([] : List UInt8).length + ti.length + no.length + sg.length + ce.length) life age false retry) := by
        rw [fz, fm]
        rw [Bool.eq_iff_iff]
        simp [rightP, bare_eq, nil_len]
      by_cases hc : bareB (fx zero32) (fx mk) (([] : List UInt8).length + ([] : List UInt8).length + ti.length + no.length + sg.length + ce.length) life age false retry = true ∧ ses.length ≤ 32 ∧ (sh.length = 0 ∨ sh.length = 65)
      · obtain ⟨hb, q1, q2⟩ := hc
        have hyes : rightP ⟨1, r, mk, ses, sh, ti, no, sg, ce, life, age, false, retry⟩ = true := by
          rw [hrp, hb]
          simp only [Bool.and_eq_true, Bool.or_eq_true, decide_eq_true_eq]
          exact ⟨⟨q1, q2⟩, (by trivial)⟩
        obtain ⟨an, rfl⟩ : ∃ an : Nat, age = (an : Int) := ⟨0, by
          simp only [bareB, Bool.and_eq_true, decide_eq_true_eq] at hb
          exact hb.1.1.2⟩
        rcases q2 with q2 | q2
        · obtain rfl := List.eq_nil_of_length_eq_zero q2
          refine (refbody_1nf r mk ses ti no sg ac ce.length cc life an retry w hb q1).mono fun e w' ⟨he, hb⟩ => ⟨bodyE_yes he hyes ?_, hb⟩
          rw [fr]
          simp [bodyP, offersP]
        · have hne : sh ≠ [] := fun e => by subst e; simp at q2
          refine (refbody_1sf r mk ses sh ti no sg ac ce.length cc life an retry w hb q1 q2).mono fun e w' ⟨he, hb⟩ => ⟨bodyE_yes he hyes ?_, hb⟩
          rw [fr]
          simp [bodyP, offersP, hne]
      · have hno : rightP ⟨1, r, mk, ses, sh, ti, no, sg, ce, life, age, false, retry⟩ = false := by
          rw [hrp, Bool.eq_false_iff]
          intro h
          simp only [Bool.and_eq_true, Bool.or_eq_true, decide_eq_true_eq] at h
          exact hc ⟨h.2, h.1.1, h.1.2⟩
        exact (refbody_1nof r mk ses sh ti no sg ac ce.length cc life age retry w hc).mono fun e w' ⟨he, hb⟩ => ⟨bodyE_no he hno, hb⟩
  by_cases k2 : k = 2
  · subst k2
    have hrp : rightP ⟨2, r, mk, ses, sh, ti, no, sg, ce, life, age, psk, retry⟩ = (decide (ses.length ≤ 32) && (if retry then decide (sh.length = 0) && !psk && (fx r == zero32) else decide (sh.length = 65) && !(fx r == hAgain)) && bareB (fx zero32) (fx mk) (([] : List UInt8).length + ([] : List UInt8).length + ti.length + no.length + sg.length + ce.length) life age false false) := by
      rw [fz, fm, fr]
      rw [Bool.eq_iff_iff]
      cases retry <;> simp [rightP, bare_eq, bareB] <;> grind
    cases hb : bareB (fx zero32) (fx mk) (([] : List UInt8).length + ([] : List UInt8).length + ti.length + no.length + sg.length + ce.length) life age false false with
    | false =>
      rw [hb] at hrp
      exact (refbody_2a r mk ses sh ti no sg ac ce.length cc life age psk retry w hb).mono fun e w' ⟨he, hb⟩ => ⟨bodyE_no he (by rw [hrp]; simp), hb⟩
    | true =>
      rw [hb] at hrp
      by_cases q1 : ses.length ≤ 32
      · cases retry with
        | true =>
          rcases Nat.eq_zero_or_pos sh.length with h0 | h0
          · obtain rfl := List.eq_nil_of_length_eq_zero h0
            cases psk with
            | true => exact (refbody_2c2 r mk ses ti no sg ac ce.length cc life age w hb q1).mono fun e w' ⟨he, hb⟩ => ⟨bodyE_no he (by rw [hrp]; simp), hb⟩
            | false =>
              cases hz : (fx r == zero32) with
              | false => exact (refbody_2c3 r mk ses ti no sg ac ce.length cc life age w hb q1 hz).mono fun e w' ⟨he, hb⟩ => ⟨bodyE_no he (by rw [hrp, hz]; simp), hb⟩
              | true =>
                refine (refbody_2rf r mk ses ti no sg ac ce.length cc life age w hb q1 hz).mono fun e w' ⟨he, hb⟩ => ⟨bodyE_yes he (by rw [hrp, hz]; simp [q1]) ?_, hb⟩
                have e2 : vecB hGroup 2 = [0, 2] ++ hGroup := by decide
                simp [bodyP, answersP, e2]
          · exact (refbody_2c1 r mk ses sh ti no sg ac ce.length cc life age psk w hb q1 h0).mono fun e w' ⟨he, hb⟩ => ⟨bodyE_no he (by rw [hrp, show decide (sh.length = 0) = false from decide_eq_false (by omega)]; simp), hb⟩
        | false =>
          by_cases h65 : sh.length = 65
          · cases ha : (fx r == hAgain) with
            | true => exact (refbody_2d2 r mk ses sh ti no sg ac ce.length cc life age psk w hb q1 h65 ha).mono fun e w' ⟨he, hb⟩ => ⟨bodyE_no he (by rw [hrp, ha]; simp), hb⟩
            | false =>
              cases psk with
              | true =>
                refine (refbody_2nt r mk ses sh ti no sg ac ce.length cc life age w hb q1 h65 ha).mono fun e w' ⟨he, hb⟩ => ⟨bodyE_yes he (by rw [hrp, ha]; simp [q1, h65]) ?_, hb⟩
                rw [fr]
                simp [bodyP, answersP]
              | false =>
                refine (refbody_2nf r mk ses sh ti no sg ac ce.length cc life age w hb q1 h65 ha).mono fun e w' ⟨he, hb⟩ => ⟨bodyE_yes he (by rw [hrp, ha]; simp [q1, h65]) ?_, hb⟩
                rw [fr]
                simp [bodyP, answersP]
          · exact (refbody_2d1 r mk ses sh ti no sg ac ce.length cc life age psk w hb q1 h65).mono fun e w' ⟨he, hb⟩ => ⟨bodyE_no he (by rw [hrp]; simp [h65]), hb⟩
      · exact (refbody_2b r mk ses sh ti no sg ac ce.length cc life age psk retry w hb (by omega)).mono fun e w' ⟨he, hb⟩ => ⟨bodyE_no he (by rw [hrp]; simp [q1]), hb⟩
  · refine (refbody_no k r mk _ _ _ _ _ _ _ _ _ _ w rfl rfl rfl rfl rfl rfl rfl rfl rfl rfl k1 k2 k4 k8 k11 k13 k15 k20).mono fun e w' ⟨he, hb⟩ => ⟨bodyE_no ⟨[], he⟩ ?_, hb⟩
    unfold rightP
    dsimp only
    rw [if_neg k1, if_neg k2, if_neg k4, if_neg k11, if_neg k15, if_neg k20, if_neg (by omega)]
end Go.Proofs.Ytnenoecmmelehaa
