/- Part of the proof: HWrite. No conditions of its own. -/
import Derived.Below
import Derived.BigQuiet
import Derived.Deep.CutBlock
import Derived.Deep.DeepCutAuto
import Derived.Deep.Draws
import Derived.Deep.LoopGhost
import Derived.Deep.Quiet
import Derived.Deep.QuietTactic
import Derived.Deep.RegionLaw
import Derived.Great.BuildSlice
import Derived.Great.FillDense
import Derived.Laws.AppendOwn
import Derived.Laws.AppendOwnNone
import Derived.Laws.BytesArg
import Derived.Laws.Concat
import Derived.Laws.MakeOwn
import Derived.Lib.AppendZerosOnto
import Derived.Lib.Hide
import Derived.Lib.SlBytesConst
import Derived.StillTail
import Derived.Stop.BytesEq
import Derived.Test.YtnenoecmmelehaaProg
import Derived.WalkKit
import Derived.WalkLawsBesides
import Derived.WalkSpells
import Derived.Test.YtnenoecmmelehaaM16
import Derived.Test.YtnenoecmmelehaaM17
import Derived.Test.YtnenoecmmelehaaM18
namespace Go.Proofs.Ytnenoecmmelehaa
open Go.RowKit
set_option linter.unusedVariables false
set_option linter.unusedSimpArgs false

theorem wide_nat {n : Int} (h : wideP n = true) : ∃ k : Nat, n = (k : Int) ∧ k < 4294967296 := by
  simp only [wideP, Bool.and_eq_true, decide_eq_true_eq] at h
  exact ⟨n.toNat, by omega, by omega⟩
theorem right_kind {m : MsgP} (h : rightP m = true) : m.kind = 1 ∨ m.kind = 2 ∨ m.kind = 4 ∨ m.kind = 8 ∨ m.kind = 11 ∨ m.kind = 13 ∨ m.kind = 15 ∨ m.kind = 20 := by
  unfold rightP at h
  grind
theorem body_any {m : MsgP} {C : Array Value} {w : World} (h : MsgAt w C m) (hs : SmallM m) (hr : rightP m = true) :
    Calls Try.prog 24 #[.agg C] w fun e w' => ∃ v, e = .returned v ∧ SlB w' v (bodyP m) ∧ Below w.heap.size w w' := by
  have hkind := right_kind hr
  obtain ⟨v1, v2, v3, v4, v5, vc, rfl, h1, h2, h3, h4, h5, h6, hrl, hml⟩ := h
  obtain ⟨s1, s2, s3, s4, s5, s6, s7⟩ := hs
  obtain ⟨k, r, mk, ses, sh, ti, no, sg, ce, life, age, psk, retry⟩ := m
  dsimp only at *
  have fr := fx_of hrl
  have fm := fx_of hml
  rcases hkind with rfl | rfl | rfl | rfl | rfl | rfl | rfl | rfl
  · have hb : bodyP ⟨1, r, mk, ses, sh, ti, no, sg, ce, life, age, psk, retry⟩ = hVersion ++ (r ++ (vecB ses 1 ++ (hSuites ++ vecB (offersP ⟨1, r, mk, ses, sh, ti, no, sg, ce, life, age, psk, retry⟩) 2))) := rfl
    rw [hb]
    obtain ⟨a2, c2, rfl, _⟩ := id h2
    by_cases hp : psk = true
    · subst hp
      obtain ⟨an, rfl, han⟩ : ∃ k : Nat, age = (k : Int) ∧ k < 4294967296 := by
        refine wide_nat ?_
        unfold rightP at hr
        rw [if_pos rfl] at hr
        simp only [Bool.and_eq_true, Bool.not_true, Bool.false_or] at hr
        exact hr.1.2.2
      rcases Nat.eq_zero_or_pos sh.length with h0 | h0
      · obtain rfl := List.eq_nil_of_length_eq_zero h0
        refine (body_1nt r mk v1 v3 v4 v5 vc a2 c2 ses [] ti life an retry w h1 h3 s1 s2 s3 han).mono fun e w' ⟨v, he, hv, hb⟩ => ⟨v, he, ?_, hb⟩
        have e : [hVersion, fx r, vecB ses 1, hSuites, vecB ([hAble, hShare, vecB (vecB ([] : List UInt8) 2) 2] ++ [hModes, hPsk, vecB (vecB (vecB ti 2 ++ numB an 4) 2 ++ (hBinder ++ fx mk)) 2]).flatten 2].flatten = hVersion ++ (r ++ (vecB ses 1 ++ (hSuites ++ vecB (offersP ⟨1, r, mk, ses, [], ti, no, sg, ce, life, (an : Int), true, retry⟩) 2))) := by
          rw [fr, fm]
          simp [offersP]
        rw [← e]
        exact hv
      · refine (body_1st r mk v1 v3 v4 v5 vc a2 c2 ses sh ti life an retry w h1 h2 h0 h3 s1 s2 s3 han).mono fun e w' ⟨v, he, hv, hb⟩ => ⟨v, he, ?_, hb⟩
        have hne : sh ≠ [] := fun e => by subst e; simp at h0
        have e : [hVersion, fx r, vecB ses 1, hSuites, vecB ([hAble, hShare, vecB (vecB (hGroup ++ vecB sh 2) 2) 2] ++ [hModes, hPsk, vecB (vecB (vecB ti 2 ++ numB an 4) 2 ++ (hBinder ++ fx mk)) 2]).flatten 2].flatten = hVersion ++ (r ++ (vecB ses 1 ++ (hSuites ++ vecB (offersP ⟨1, r, mk, ses, sh, ti, no, sg, ce, life, (an : Int), true, retry⟩) 2))) := by
          rw [fr, fm]
          simp [offersP, hne]
        rw [← e]
        exact hv
    · have hp : psk = false := by simpa using hp
      subst hp
      have hage : age = 0 := by
        unfold rightP at hr
        rw [if_pos rfl] at hr
        simp only [Bool.and_eq_true, if_neg Bool.false_ne_true, bareP, beq_iff_eq] at hr
        grind
      subst hage
      rcases Nat.eq_zero_or_pos sh.length with h0 | h0
      · obtain rfl := List.eq_nil_of_length_eq_zero h0
        refine (body_1nf r mk v1 v3 v4 v5 vc a2 c2 ses [] ti life 0 retry w h1 h3 s1 s2 s3 (by decide)).mono fun e w' ⟨v, he, hv, hb⟩ => ⟨v, he, ?_, hb⟩
        have e : [hVersion, fx r, vecB ses 1, hSuites, vecB ([hAble, hShare, vecB (vecB ([] : List UInt8) 2) 2]).flatten 2].flatten = hVersion ++ (r ++ (vecB ses 1 ++ (hSuites ++ vecB (offersP ⟨1, r, mk, ses, [], ti, no, sg, ce, life, 0, false, retry⟩) 2))) := by
          rw [fr]
          simp [offersP]
        rw [← e]
        exact hv
      · refine (body_1sf r mk v1 v3 v4 v5 vc a2 c2 ses sh ti life 0 retry w h1 h2 h0 h3 s1 s2 s3 (by decide)).mono fun e w' ⟨v, he, hv, hb⟩ => ⟨v, he, ?_, hb⟩
        have hne : sh ≠ [] := fun e => by subst e; simp at h0
        have e : [hVersion, fx r, vecB ses 1, hSuites, vecB ([hAble, hShare, vecB (vecB (hGroup ++ vecB sh 2) 2) 2]).flatten 2].flatten = hVersion ++ (r ++ (vecB ses 1 ++ (hSuites ++ vecB (offersP ⟨1, r, mk, ses, sh, ti, no, sg, ce, life, 0, false, retry⟩) 2))) := by
          rw [fr]
          simp [offersP, hne]
        rw [← e]
        exact hv
  · have hb : bodyP ⟨2, r, mk, ses, sh, ti, no, sg, ce, life, age, psk, retry⟩ = hVersion ++ ((if retry then hAgain else r) ++ (vecB ses 1 ++ (hSuite ++ vecB (answersP ⟨2, r, mk, ses, sh, ti, no, sg, ce, life, age, psk, retry⟩) 2))) := rfl
    rw [hb]
    cases psk <;> cases retry
    · refine (body_2ff r mk v1 v3 v4 v5 vc v2 ses sh life age w h1 h2 s1 s2).mono fun e w' ⟨v, he, hv, hb⟩ => ⟨v, he, ?_, hb⟩
      rw [fr] at hv
      simpa [answersP] using hv
    · refine (body_2ft r mk v1 v3 v4 v5 vc v2 ses sh life age w h1 h2 s1 s2).mono fun e w' ⟨v, he, hv, hb⟩ => ⟨v, he, ?_, hb⟩
      simpa [answersP] using hv
    · refine (body_2tf r mk v1 v3 v4 v5 vc v2 ses sh life age w h1 h2 s1 s2).mono fun e w' ⟨v, he, hv, hb⟩ => ⟨v, he, ?_, hb⟩
      rw [fr] at hv
      simpa [answersP] using hv
    · refine (body_2tt r mk v1 v3 v4 v5 vc v2 ses sh life age w h1 h2 s1 s2).mono fun e w' ⟨v, he, hv, hb⟩ => ⟨v, he, ?_, hb⟩
      simpa [answersP] using hv
  · obtain ⟨hl, ha⟩ : wideP life = true ∧ wideP age = true := by
      unfold rightP at hr
      dsimp only at hr
      rw [if_neg (by decide), if_neg (by decide), if_pos rfl] at hr
      simp only [Bool.and_eq_true] at hr
      exact ⟨hr.1.1.1.1.1.1, hr.1.1.1.1.1.2⟩
    obtain ⟨ln, rfl, hln⟩ := wide_nat hl
    obtain ⟨an, rfl, han⟩ := wide_nat ha
    refine (body_4 r mk v1 v3 v4 v5 vc v2 ti no ln an psk retry w h3 h4 s3 s4 hln han).mono fun e w' ⟨v, he, hv, hb⟩ => ⟨v, he, ?_, hb⟩
    simpa [bodyP] using hv
  · exact body_8 r mk v1 v3 v4 v5 vc v2 life age psk retry w
  · obtain ⟨a6, c6, rfl⟩ : ∃ a c, vc = .slice a ce.length c := let ⟨a, c, e, _⟩ := h6; ⟨a, c, e⟩
    have hcs : ∀ c, c ∈ ce → c.length ≤ 50000 := by
      unfold rightP at hr
      dsimp only at hr
      rw [if_neg (by decide), if_neg (by decide), if_neg (by decide), if_pos rfl] at hr
      simp only [Bool.and_eq_true, List.all_eq_true, decide_eq_true_eq] at hr
      intro c hc
      have := (hr.1.2 c hc).2
      omega
    refine (body_11 r mk v1 v2 v3 v4 v5 a6 c6 ce life age psk retry w h6 s6 hcs).mono fun e w' ⟨v, he, hv, hb⟩ => ⟨v, he, ?_, hb⟩
    rw [certR_flat] at hv
    exact hv
  · exact body_13 r mk v1 v3 v4 v5 vc v2 life age psk retry w
  · exact body_15 r mk v1 v3 v4 v5 vc v2 sg life age psk retry w h5 s5
  · refine (body_20 r mk v1 v3 v4 v5 vc v2 life age psk retry w).mono fun e w' ⟨v, he, hv, hb⟩ => ⟨v, he, ?_, hb⟩
    rw [fm] at hv
    exact hv
end Go.Proofs.Ytnenoecmmelehaa
