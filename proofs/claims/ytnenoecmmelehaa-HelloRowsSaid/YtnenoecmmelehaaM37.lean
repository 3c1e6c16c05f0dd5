/- Part of the proof: HLawE. No conditions of its own. -/
import Derived.Below
import Derived.BigQuiet
import Derived.ChangeOld
import Derived.Deep.CutBlock
import Derived.Deep.DeepCutAuto
import Derived.Deep.Draws
import Derived.Deep.LoopGhost
import Derived.Deep.Quiet
import Derived.Deep.QuietTactic
import Derived.Deep.RegionLaw
import Derived.Great.BuildSlice
import Derived.Great.FillDense
import Derived.Laws.AppendOwn
import Derived.Laws.AppendOwnNone
import Derived.Laws.BytesArg
import Derived.Laws.Concat
import Derived.Laws.MakeOwn
import Derived.Lib.AppendZerosOnto
import Derived.Lib.BufferWrite
import Derived.Lib.Hide
import Derived.Lib.SlBytesConst
import Derived.OpenShut
import Derived.ProofKit
import Derived.ShutString
import Derived.StillTail
import Derived.Stop.BytesEq
import Derived.Test.YtnenoecmmelehaaProg
import Derived.WalkKit
import Derived.WalkLawsBesides
import Derived.WalkSpells
import Derived.Test.YtnenoecmmelehaaM04
import Derived.Test.YtnenoecmmelehaaM09
import Derived.Test.YtnenoecmmelehaaM22
namespace Go.Proofs.Ytnenoecmmelehaa
open Go.RowKit
set_option linter.unusedVariables false
set_option linter.unusedSimpArgs false

theorem hLE : hVersion.length = 2 ∧ hSuites.length = 6 ∧ hSuite.length = 3 ∧ hAble.length = 23 ∧ hChosen.length = 6 ∧ hShare.length = 2 ∧ hGroup.length = 2 ∧ hModes.length = 6 ∧ hPsk.length = 2 ∧ hBinder.length = 3 ∧ hFirst.length = 4 ∧ hAsked.length = 11 ∧ hSigned.length = 2 ∧ hNone2.length = 2 ∧ hNone1.length = 1 ∧ hAgain.length = 32 := ⟨rfl, rfl, rfl, rfl, rfl, rfl, rfl, rfl, rfl, rfl, rfl, rfl, rfl, rfl, rfl, rfl⟩
theorem hNE2 : hNone2.length = 2 := rfl
theorem hAE : hAsked.length = 11 := rfl
theorem certs_small : ∀ (l : List (List UInt8)), (∀ c, c ∈ l → c.length ≤ 2048) → (certsP l).length ≤ l.length * 2053
  | [], _ => Nat.zero_le _
  | c :: l, h => by
    have ih := certs_small l fun d hd => h d (List.mem_cons_of_mem _ hd)
    have hc := h c (List.mem_cons_self ..)
    unfold certsP at ih ⊢
    simp only [List.flatMap_cons, List.length_append, vecB_len, hLE, List.length_cons]
    omega
theorem body_small {m : MsgP} (hr : rightP m = true) (h32 : m.random.length = 32) (hm : m.mark.length = 32) : (bodyP m).length ≤ 32768 := by
  rcases right_kinds hr with hk | hk | hk | hk | hk | hk | hk | hk
  · have h := is1 hr hk
    have h1 := h.ses
    have h2 : m.share.length ≤ 65 := by rcases h.sh with e | e <;> simp [e]
    have h3 : m.ticket.length ≤ 1000 := by
      cases e : m.psk with
      | true => exact (h.yes e).2.1
      | false => rw [(h.not e).1]; exact Nat.zero_le _
    unfold bodyP offersP
    rw [if_pos hk]
    split <;> split <;> simp only [List.length_append, vecB_len, numB_len, List.length_nil, hLE, h32, hm] <;> omega
  · have h := is2 hr hk
    have h1 := h.ses
    have h2 : m.share.length ≤ 65 := by
      cases e : m.retry with
      | true => rw [(h.yes e).1]; exact Nat.zero_le _
      | false => rw [(h.not e).1]; exact Nat.le_refl _
    unfold bodyP answersP
    rw [if_neg (by rw [hk]; decide), if_pos hk]
    split <;> split <;> simp only [List.length_append, vecB_len, numB_len, List.length_nil, hLE, h32] <;> omega
  · unfold rightP at hr
    rw [if_neg (by rw [hk]; decide), if_neg (by rw [hk]; decide), if_pos hk] at hr
    simp only [Bool.and_eq_true, decide_eq_true_eq] at hr
    obtain ⟨⟨⟨⟨⟨⟨w1, w2⟩, l1⟩, l2⟩, l3⟩, l4⟩, h2⟩ := hr
    unfold bodyP
    rw [if_neg (by rw [hk]; decide), if_neg (by rw [hk]; decide), if_pos hk]
    simp only [List.length_append, vecB_len, numB_len, hLE]
    omega
  · unfold bodyP
    rw [if_neg (by rw [hk]; decide), if_neg (by rw [hk]; decide), if_neg (by rw [hk]; decide), if_pos hk, hNE2]; omega
  · unfold rightP at hr
    rw [if_neg (by rw [hk]; decide), if_neg (by rw [hk]; decide), if_neg (by rw [hk]; decide), if_pos hk] at hr
    simp only [Bool.and_eq_true, List.all_eq_true, decide_eq_true_eq] at hr
    have := certs_small m.certs fun c hc => (hr.1.2 c hc).2
    have h5 := hr.1.1
    unfold bodyP
    rw [if_neg (by rw [hk]; decide), if_neg (by rw [hk]; decide), if_neg (by rw [hk]; decide), if_neg (by rw [hk]; decide), if_pos hk]
    simp only [List.length_append, vecB_len, hLE]
    omega
  · unfold bodyP
    rw [if_neg (by rw [hk]; decide), if_neg (by rw [hk]; decide), if_neg (by rw [hk]; decide), if_neg (by rw [hk]; decide), if_neg (by rw [hk]; decide), if_pos hk, hAE]; omega
  · unfold rightP at hr
    rw [if_neg (by rw [hk]; decide), if_neg (by rw [hk]; decide), if_neg (by rw [hk]; decide), if_neg (by rw [hk]; decide), if_pos hk] at hr
    simp only [Bool.and_eq_true, decide_eq_true_eq] at hr
    have h5 := hr.1.2
    unfold bodyP
    rw [if_neg (by rw [hk]; decide), if_neg (by rw [hk]; decide), if_neg (by rw [hk]; decide), if_neg (by rw [hk]; decide), if_neg (by rw [hk]; decide), if_neg (by rw [hk]; decide), if_pos hk]
    simp only [List.length_append, vecB_len, hLE]
    omega
  · unfold bodyP
    rw [if_neg (by rw [hk]; decide), if_neg (by rw [hk]; decide), if_neg (by rw [hk]; decide), if_neg (by rw [hk]; decide), if_neg (by rw [hk]; decide), if_neg (by rw [hk]; decide), if_neg (by rw [hk]; decide), hm]; omega
theorem write_len (m : MsgP) : (writeP m).length = 4 + (bodyP m).length := by
  unfold writeP
  simp only [List.length_append, vecB_len, List.length_cons, List.length_nil]
  omega
theorem write_head {m : MsgP} (hr : rightP m = true) (x : List UInt8) : ((gb (writeP m ++ x) 0).toNat : Int) = m.kind ∧ isKindP (gb (writeP m ++ x) 0).toNat = true := by
  have h0 : gb (writeP m ++ x) 0 = UInt8.ofNat m.kind.toNat := rfl
  rw [h0]
  rcases right_kinds hr with hk | hk | hk | hk | hk | hk | hk | hk <;> rw [hk] <;> exact ⟨by decide, by decide⟩
theorem head_num (n : Nat) (hn : n < 16777216) (k : UInt8) (x : List UInt8) : headN ([k] ++ (numB n 3 ++ x)) = n := by
  have e : headN ([k] ++ (numB n 3 ++ x)) = ((UInt8.ofNat (n / 2 ^ (8 * (3 - 1 - 0)))).toNat) * 65536 + ((UInt8.ofNat (n / 2 ^ (8 * (3 - 1 - 1)))).toNat) * 256 + (UInt8.ofNat (n / 2 ^ (8 * (3 - 1 - 2)))).toNat := rfl
  rw [e]
  simp only [UInt8.toNat_ofNat']
  omega
theorem write_split (m : MsgP) (x : List UInt8) : writeP m ++ x = [UInt8.ofNat m.kind.toNat] ++ (numB (bodyP m).length 3 ++ (bodyP m ++ x)) := by
  unfold writeP vecB
  simp only [List.append_assoc]
theorem read_write {m : MsgP} (hr : rightP m = true) (h32 : m.random.length = 32) (hm : m.mark.length = 32) (x : List UInt8) : readBy parseP (writeP m ++ x) = (m, (writeP m).length, 0) := by
  obtain ⟨k1, k2⟩ := write_head hr x
  have hs := body_small hr h32 hm
  have hh : headN (writeP m ++ x) = (bodyP m).length := by rw [write_split]; exact head_num _ (by omega) _ _
  have hl := write_len m
  have hl2 : (writeP m ++ x).length = 4 + (bodyP m).length + x.length := by rw [List.length_append, hl]
  have hd : ((writeP m ++ x).drop 4).take (bodyP m).length = bodyP m := by
    rw [write_split, ← List.append_assoc, drop_len (by simp [numB_len])]
    exact List.take_left' rfl
  have ht : (writeP m ++ x).take (4 + (bodyP m).length) = writeP m := by rw [← hl]; exact List.take_left' rfl
  unfold readBy
  rw [if_neg (fun e => by rw [k2] at e; cases e.2), if_neg (by omega), hh, if_neg (by omega), if_neg (by omega), k1, hd, (read_back hr h32 hm).1, ht, if_pos ⟨hr, rfl⟩, hl]
theorem read_short {m : MsgP} (hr : rightP m = true) (h32 : m.random.length = 32) (hm : m.mark.length = 32) (c : Nat) (hc : c < (writeP m).length) : readBy parseP ((writeP m).take c) = (emptyM 0, 0, 3) := by
  have hl := write_len m
  have hlc : ((writeP m).take c).length = c := by rw [List.length_take]; omega
  have hs := body_small hr h32 hm
  obtain ⟨k1, k2⟩ := write_head hr []
  rw [List.append_nil] at k1 k2
  have hg : ∀ i, i < c → gb ((writeP m).take c) i = gb (writeP m) i := fun i hi => by simp [gb, hi]
  unfold readBy
  rcases Nat.eq_zero_or_pos c with h0 | h0
  · rw [if_neg (by omega), if_pos (by omega)]
  rw [hg 0 h0, if_neg (fun e => by rw [k2] at e; cases e.2)]
  by_cases h4 : c < 4
  · rw [if_pos (by omega)]
  have hh : headN ((writeP m).take c) = (bodyP m).length := by
    have e : headN ((writeP m).take c) = headN (writeP m) := by
      unfold headN
      rw [hg 1 (by omega), hg 2 (by omega), hg 3 (by omega)]
    rw [e]
    have := write_split m []
    rw [List.append_nil] at this
    rw [this]
    exact head_num _ (by omega) _ _
  rw [if_neg (by omega), hh, if_neg (by omega), if_pos (by omega)]
end Go.Proofs.Ytnenoecmmelehaa
