/- Part of the proof: HSizes. No conditions of its own. -/
import Derived.Below
import Derived.BigQuiet
import Derived.ChangeOld
import Derived.Deep.CutBlock
import Derived.Deep.DeepCutAuto
import Derived.Deep.Draws
import Derived.Deep.LoopGhost
import Derived.Deep.Quiet
import Derived.Deep.QuietTactic
import Derived.Deep.RegionLaw
import Derived.Great.BuildSlice
import Derived.Great.FillDense
import Derived.Laws.AppendOwn
import Derived.Laws.AppendOwnNone
import Derived.Laws.BytesArg
import Derived.Laws.Concat
import Derived.Laws.MakeOwn
import Derived.Lib.AppendZerosOnto
import Derived.Lib.BufferWrite
import Derived.Lib.Hide
import Derived.Lib.SlBytesConst
import Derived.OpenShut
import Derived.ProofKit
import Derived.ShutString
import Derived.StillTail
import Derived.Stop.BytesEq
import Derived.Test.YtnenoecmmelehaaProg
import Derived.WalkKit
import Derived.WalkLawsBesides
import Derived.WalkSpells
import Derived.Test.YtnenoecmmelehaaM37
namespace Go.Proofs.Ytnenoecmmelehaa
open Go.RowKit
set_option linter.unusedVariables false
set_option linter.unusedSimpArgs false

def keepR (m : MsgP) : Bool := (decide (m.kind ≠ 1) && decide (m.kind ≠ 2)) || m.retry
def keepM (m : MsgP) : Bool := (decide (m.kind = 1) && !m.psk) || (decide (m.kind ≠ 1) && decide (m.kind ≠ 20))
def turnP (m : MsgP) (R M : List UInt8) : MsgP := { m with random := if keepR m then m.random else R, mark := if keepM m then m.mark else M }
theorem turn_same {m : MsgP} {R M : List UInt8} (h1 : keepR m = true) (h2 : keepM m = true) : turnP m R M = m := by
  unfold turnP
  rw [if_pos h1, if_pos h2]
theorem turn_right {m : MsgP} (R M : List UInt8) (hr : rightP m = true) : rightP (turnP m R M) = true ∨ (m.kind = 2 ∧ (turnP m R M).random = hAgain) := by
  rcases right_kinds hr with hk | hk | hk | hk | hk | hk | hk | hk
  · left
    have e : rightP (turnP m R M) = rightP m := by
      cases hp : m.psk with
      | true =>
        have h1 : keepM m = false := by simp [keepM, hk, hp]
        unfold turnP rightP
        simp only [h1, hk, hp, if_true]
      | false =>
        have h1 : keepM m = true := by simp [keepM, hk, hp]
        unfold turnP rightP
        simp only [h1, hk, hp, if_true]
    rw [e]; exact hr
  · cases ht : m.retry with
    | true =>
      left
      rw [turn_same (by simp [keepR, ht]) (by simp [keepM, hk])]
      exact hr
    | false =>
      have h1 : keepR m = false := by simp [keepR, hk, ht]
      have h2 : keepM m = true := by simp [keepM, hk]
      by_cases hR : R = hAgain
      · right
        exact ⟨hk, by unfold turnP; rw [h1]; exact hR⟩
      · left
        unfold rightP at hr ⊢
        rw [if_neg (by rw [hk]; decide), if_pos hk, ht] at hr
        have hk2 : (turnP m R M).kind = 2 := hk
        have ht2 : (turnP m R M).retry = false := ht
        rw [if_neg (by rw [hk2]; decide), if_pos hk2, ht2]
        simp only [Bool.false_eq_true, if_false, Bool.and_eq_true] at hr ⊢
        refine ⟨hr.1, ⟨hr.2.1.1, ?_⟩, ?_⟩
        · have : (turnP m R M).random = R := by unfold turnP; rw [h1]; rfl
          rw [this]
          simpa using hR
        · have := hr.2.2
          unfold turnP
          rw [h2]
          exact this
  · left; rw [turn_same (by simp [keepR, hk]) (by simp [keepM, hk])]; exact hr
  · left; rw [turn_same (by simp [keepR, hk]) (by simp [keepM, hk])]; exact hr
  · left; rw [turn_same (by simp [keepR, hk]) (by simp [keepM, hk])]; exact hr
  · left; rw [turn_same (by simp [keepR, hk]) (by simp [keepM, hk])]; exact hr
  · left; rw [turn_same (by simp [keepR, hk]) (by simp [keepM, hk])]; exact hr
  · left
    have h1 : keepR m = true := by simp [keepR, hk]
    have h2 : keepM m = false := by simp [keepM, hk]
    have e : rightP (turnP m R M) = rightP m := by
      unfold turnP rightP
      simp only [h1, h2, hk, if_true]
      rfl
    rw [e]; exact hr
theorem turn_len {m : MsgP} {R M : List UInt8} (h1 : m.random.length = 32) (h2 : m.mark.length = 32) (h3 : R.length = 32) (h4 : M.length = 32) : (turnP m R M).random.length = 32 ∧ (turnP m R M).mark.length = 32 := by
  unfold turnP
  exact ⟨by dsimp only; split <;> assumption, by dsimp only; split <;> assumption⟩
theorem body_len {m n : MsgP} (e : n = { m with random := n.random, mark := n.mark }) (h1 : m.random.length = 32) (h2 : m.mark.length = 32) (h3 : n.random.length = 32) (h4 : n.mark.length = 32) : (bodyP n).length = (bodyP m).length := by
  have k1 : n.kind = m.kind := by rw [e]
  have k2 : n.session = m.session := by rw [e]
  have k3 : n.share = m.share := by rw [e]
  have k4 : n.ticket = m.ticket := by rw [e]
  have k5 : n.nonce = m.nonce := by rw [e]
  have k6 : n.sig = m.sig := by rw [e]
  have k7 : n.certs = m.certs := by rw [e]
  have k8 : n.life = m.life := by rw [e]
  have k9 : n.age = m.age := by rw [e]
  have k10 : n.psk = m.psk := by rw [e]
  have k11 : n.retry = m.retry := by rw [e]
  unfold bodyP offersP answersP
  rw [k1, k2, k3, k4, k5, k6, k7, k8, k9, k10, k11]
  repeat' split
  all_goals simp only [List.length_append, vecB_len, numB_len, h1, h2, h3, h4, List.length_nil]
theorem write_turn {m : MsgP} {R M : List UInt8} (h1 : m.random.length = 32) (h2 : m.mark.length = 32) (h3 : R.length = 32) (h4 : M.length = 32) : (writeP (turnP m R M)).length = (writeP m).length := by
  have := turn_len h1 h2 h3 h4
  rw [write_len, write_len, body_len (n := turnP m R M) rfl h1 h2 this.1 this.2]
theorem write_sizes {m : MsgP} (h2 : m.mark.length = 32) : (m.kind = 8 → (writeP m).length = 6) ∧ (m.kind = 13 → (writeP m).length = 15) ∧ (m.kind = 20 → (writeP m).length = 36) ∧ (m.kind = 15 → (writeP m).length = 8 + m.sig.length) := by
  refine ⟨fun hk => ?_, fun hk => ?_, fun hk => ?_, fun hk => ?_⟩
  all_goals rw [write_len]; unfold bodyP; simp only [hk]
  · rfl
  · rfl
  · simp [h2]
  · simp only [show ¬ (15 : Int) = 1 from by decide, show ¬ (15 : Int) = 2 from by decide, show ¬ (15 : Int) = 4 from by decide, show ¬ (15 : Int) = 8 from by decide, show ¬ (15 : Int) = 11 from by decide, show ¬ (15 : Int) = 13 from by decide, if_false, if_true, List.length_append, vecB_len, hLE]
    omega
end Go.Proofs.Ytnenoecmmelehaa
