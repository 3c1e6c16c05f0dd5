/- Part of the proof: HRightB, HRightC, HLawD. No conditions of its own. -/
import Derived.Below
import Derived.BigQuiet
import Derived.Deep.CutBlock
import Derived.Deep.DeepCutAuto
import Derived.Deep.Draws
import Derived.Deep.LoopGhost
import Derived.Deep.Quiet
import Derived.Deep.QuietTactic
import Derived.Deep.RegionLaw
import Derived.Laws.AppendOwn
import Derived.Laws.AppendOwnNone
import Derived.Laws.BytesArg
import Derived.Laws.Concat
import Derived.Laws.MakeOwn
import Derived.Lib.AppendZerosOnto
import Derived.Lib.Hide
import Derived.StillTail
import Derived.Stop.BytesEq
import Derived.Test.YtnenoecmmelehaaProg
import Derived.WalkKit
import Derived.WalkLawsBesides
import Derived.WalkSpells
import Derived.Test.YtnenoecmmelehaaK06
import Derived.Test.YtnenoecmmelehaaK07
import Derived.Test.YtnenoecmmelehaaK08
import Derived.Test.YtnenoecmmelehaaK04
namespace Go.Proofs.Ytnenoecmmelehaa
open Go.RowKit
set_option linter.unusedVariables false

set_option maxRecDepth 100000 in
set_option maxHeartbeats 4000000 in
theorem right_2f (r mk : List UInt8) (a1 a2 a3 a4 a5 a6 : Option Addr) (n1 n2 n3 n4 n5 n6 c1 c2 c3 c4 c5 c6 : Nat) (life age : Int) (psk : Bool) (w : World) (b1 : n1 ≤ 100000000) (b2 : n2 ≤ 100000000) (b3 : n3 ≤ 100000000) (b4 : n4 ≤ 100000000) (b5 : n5 ≤ 100000000) (b6 : n6 ≤ 100000000) :
    Calls Try.prog 22 #[.agg (mD 2 r mk [.slice a1 n1 c1, .slice a2 n2 c2, .slice a3 n3 c3, .slice a4 n4 c4, .slice a5 n5 c5, .slice a6 n6 c6, .int .i64 life, .int .i64 age, .bool psk, .bool false])] w fun e w' => e = .returned (.bool ((decide ((n1 : Int) ≤ 32) && (decide ((n2 : Int) = 65) && !(fx r == hAgain))) && bareB (fx zero32) (fx mk) (0 + 0 + n3 + n4 + n5 + n6) life age false false)) ∧ Below w.heap.size w w' := by
  have hbare : ∀ W : World, Calls Try.prog 37 #[.agg (mD 2 zero32 mk [.slice none 0 0, .slice none 0 0, .slice a3 n3 c3, .slice a4 n4 c4, .slice a5 n5 c5, .slice a6 n6 c6, .int .i64 life, .int .i64 age, .bool false, .bool false])] W fun e w' => e = .returned (.bool (bareB (fx zero32) (fx mk) (0 + 0 + n3 + n4 + n5 + n6) life age false false)) ∧ Below W.heap.size W w' := fun W => bareD _ _ _ _ _ _ _ _ _ _ _ _ _ _ _ _ _ _ _ _ _ _ _ _ _ W (by omega) (by omega) (by omega) (by omega) (by omega) (by omega)
  obtain ⟨bb, hbb⟩ : ∃ bb, bb = bareB (fx zero32) (fx mk) (0 + 0 + n3 + n4 + n5 + n6) life age false false := ⟨_, rfl⟩
  rw [← hbb] at hbare ⊢
  have HBARE := Lib.hid hbare
  clear hbare hbb b1 b2 b3 b4 b5 b6
  have hcv : (convert 27 9 (.slice (some ⟨w.heap.size, 1, none⟩) 32 32)).run Try.prog (w.alloc (.cells (mD 2 r mk [.slice a1 n1 c1, .slice a2 n2 c2, .slice a3 n3 c3, .slice a4 n4 c4, .slice a5 n5 c5, .slice a6 n6 c6, .int .i64 life, .int .i64 age, .bool psk, .bool false]) 30)) = .ok (S (fx r)) (w.alloc (.cells (mD 2 r mk [.slice a1 n1 c1, .slice a2 n2 c2, .slice a3 n3 c3, .slice a4 n4 c4, .slice a5 n5 c5, .slice a6 n6 c6, .int .i64 life, .int .i64 age, .bool psk, .bool false]) 30)) := run_conv_slb _ _ _ _ Try.underlying27 Try.underlying5 Try.underlying9 _ _ (SlB.rand (Row.new w _ _))
  go_enter Try.func22, Try.ntmps22
  go_wp2_with (first | (go_at_call 37; refine (HBARE.out _).mono ?_; rintro e w1 ⟨rfl, hB⟩) | (go_at_call 33; refine (within_any _ _ _ _).mono ?_; rintro e w1 ⟨rfl, rfl⟩) | (go_at_call 34; refine (wide_any _ _).mono ?_; rintro e w1 ⟨rfl, rfl⟩))
  all_goals go_ret
  all_goals refine ⟨congrArg (fun b => Ending.returned (Value.bool b)) ?_, by first | (refine Below.trans ?_ (hB.mono (by simp)); (repeat (first | (with_reducible exact Below.refl _ _) | ((with_reducible first | refine bSetRow ?_ ?_ _ | refine Below.alloc ?_ ?_ _ | refine Below.setCell ?_ ?_ _); rotate_left 1; (focus (first | (simp; done) | (simp; omega)))) | (with_reducible refine Below.drew ?_)))) | (repeat (first | (with_reducible exact Below.refl _ _) | ((with_reducible first | refine bSetRow ?_ ?_ _ | refine Below.alloc ?_ ?_ _ | refine Below.setCell ?_ ?_ _); rotate_left 1; (focus (first | (simp; done) | (simp; omega)))) | (with_reducible refine Below.drew ?_)))⟩
  all_goals first | rfl | (clear HBARE; simp_all [hAgain]; done) | (clear HBARE; grind [hAgain])
set_option maxRecDepth 100000 in
set_option maxHeartbeats 4000000 in
theorem right_11 (r mk : List UInt8) (a1 a2 a3 a4 a5 a6 : Option Addr) (n1 n2 n3 n4 n5 n6 c1 c2 c3 c4 c5 c6 : Nat) (life age : Int) (psk : Bool) (retry : Bool) (w : World) (b1 : n1 ≤ 100000000) (b2 : n2 ≤ 100000000) (b3 : n3 ≤ 100000000) (b4 : n4 ≤ 100000000) (b5 : n5 ≤ 100000000) (b6 : n6 ≤ 100000000) (parts : List (List UInt8)) (hp : PartsAt w (.slice a6 n6 c6) parts) :
    Calls Try.prog 22 #[.agg (mD 11 r mk [.slice a1 n1 c1, .slice a2 n2 c2, .slice a3 n3 c3, .slice a4 n4 c4, .slice a5 n5 c5, .slice a6 n6 c6, .int .i64 life, .int .i64 age, .bool psk, .bool retry])] w fun e w' => e = .returned (.bool ((decide ((n6 : Int) ≤ 5) && !parts.any badC) && bareB (fx r) (fx mk) (n1 + n2 + n3 + n4 + n5 + 0) life age psk retry)) ∧ Below w.heap.size w w' := by
  have hbare : ∀ W : World, Calls Try.prog 37 #[.agg (mD 11 r mk [.slice a1 n1 c1, .slice a2 n2 c2, .slice a3 n3 c3, .slice a4 n4 c4, .slice a5 n5 c5, .slice none 0 0, .int .i64 life, .int .i64 age, .bool psk, .bool retry])] W fun e w' => e = .returned (.bool (bareB (fx r) (fx mk) (n1 + n2 + n3 + n4 + n5 + 0) life age psk retry)) ∧ Below W.heap.size W w' := fun W => bareD _ _ _ _ _ _ _ _ _ _ _ _ _ _ _ _ _ _ _ _ _ _ _ _ _ W (by omega) (by omega) (by omega) (by omega) (by omega) (by omega)
  obtain ⟨bb, hbb⟩ : ∃ bb, bb = bareB (fx r) (fx mk) (n1 + n2 + n3 + n4 + n5 + 0) life age psk retry := ⟨_, rfl⟩
  rw [← hbb] at hbare ⊢
  have HBARE := Lib.hid hbare
  clear hbare hbb b1 b2 b3 b4 b5 b6
  have hcon0 : ∀ W, Below w.heap.size w W → Calls Try.prog 35 #[.slice a6 n6 c6, .func (.func 36) #[] #[]] W fun e w' => e = .returned (.bool (parts.any badC)) ∧ w' = W := fun W hW => contains_any _ parts W (hp.below hW)
  obtain ⟨bc, hbc⟩ : ∃ bc, bc = parts.any badC := ⟨_, rfl⟩
  rw [← hbc] at hcon0 ⊢
  have HCON := Lib.hid hcon0
  clear hcon0 hbc hp
  go_enter Try.func22, Try.ntmps22
  go_wp2_with (first | (go_at_call 37; refine (HBARE.out _).mono ?_; rintro e w1 ⟨rfl, hB⟩) | (go_at_call 33; refine (within_any _ _ _ _).mono ?_; rintro e w1 ⟨rfl, rfl⟩) | (go_at_call 34; refine (wide_any _ _).mono ?_; rintro e w1 ⟨rfl, rfl⟩) | (go_at_call 35; refine (HCON.out _ (by (repeat (first | (with_reducible exact Below.refl _ _) | ((with_reducible first | refine bSetRow ?_ ?_ _ | refine Below.alloc ?_ ?_ _ | refine Below.setCell ?_ ?_ _); rotate_left 1; (focus (first | (simp; done) | (simp; omega)))) | (with_reducible refine Below.drew ?_))))).mono ?_; rintro e w1 ⟨rfl, rfl⟩))
  all_goals go_ret
  all_goals refine ⟨congrArg (fun b => Ending.returned (Value.bool b)) ?_, by first | (refine Below.trans ?_ (hB.mono (by simp)); (repeat (first | (with_reducible exact Below.refl _ _) | ((with_reducible first | refine bSetRow ?_ ?_ _ | refine Below.alloc ?_ ?_ _ | refine Below.setCell ?_ ?_ _); rotate_left 1; (focus (first | (simp; done) | (simp; omega)))) | (with_reducible refine Below.drew ?_)))) | (repeat (first | (with_reducible exact Below.refl _ _) | ((with_reducible first | refine bSetRow ?_ ?_ _ | refine Below.alloc ?_ ?_ _ | refine Below.setCell ?_ ?_ _); rotate_left 1; (focus (first | (simp; done) | (simp; omega)))) | (with_reducible refine Below.drew ?_)))⟩
  all_goals first | rfl | (clear HBARE HCON; simp_all; done) | (clear HBARE HCON; grind)
set_option maxRecDepth 100000 in
set_option maxHeartbeats 4000000 in
theorem right_no (k : Int) (r mk : List UInt8) (l : List Value) (w : World) (h1 : k ≠ 1) (h2 : k ≠ 2) (h4 : k ≠ 4) (h8 : k ≠ 8) (h11 : k ≠ 11) (h13 : k ≠ 13) (h15 : k ≠ 15) (h20 : k ≠ 20) :
    Calls Try.prog 22 #[.agg (mD k r mk l)] w fun e w' => e = .returned (.bool false) ∧ Below w.heap.size w w' := by
  have e1 : (k == 1) = false := by simpa using h1
  have e2 : (k == 2) = false := by simpa using h2
  have e4 : (k == 4) = false := by simpa using h4
  have e8 : (k == 8) = false := by simpa using h8
  have e11 : (k == 11) = false := by simpa using h11
  have e13 : (k == 13) = false := by simpa using h13
  have e15 : (k == 15) = false := by simpa using h15
  have e20 : (k == 20) = false := by simpa using h20
  clear h1 h2 h4 h8 h11 h13 h15 h20
  go_enter Try.func22, Try.ntmps22
  go_wp2_with fail
  go_ret
  exact ⟨rfl, by (repeat (first | (with_reducible exact Below.refl _ _) | ((with_reducible first | refine bSetRow ?_ ?_ _ | refine Below.alloc ?_ ?_ _ | refine Below.setCell ?_ ?_ _); rotate_left 1; (focus (first | (simp; done) | (simp; omega)))) | (with_reducible refine Below.drew ?_)))⟩
end Go.Proofs.Ytnenoecmmelehaa

namespace Go.Proofs.Ytnenoecmmelehaa
open Go.RowKit

def MsgAt (w : World) (C : Array Value) (m : MsgP) : Prop :=
  ∃ v1 v2 v3 v4 v5 vc, C = mD m.kind m.random m.mark [v1, v2, v3, v4, v5, vc, .int .i64 m.life, .int .i64 m.age, .bool m.psk, .bool m.retry] ∧
    SlB w v1 m.session ∧ SlB w v2 m.share ∧ SlB w v3 m.ticket ∧ SlB w v4 m.nonce ∧ SlB w v5 m.sig ∧ PartsAt w vc m.certs ∧ m.random.length = 32 ∧ m.mark.length = 32
theorem MsgAt.below {w w' : World} {C : Array Value} {m : MsgP} (h : MsgAt w C m) (hb : Below w.heap.size w w') : MsgAt w' C m := by
  obtain ⟨v1, v2, v3, v4, v5, vc, e, h1, h2, h3, h4, h5, h6, h7⟩ := h
  exact ⟨v1, v2, v3, v4, v5, vc, e, h1.below hb, h2.below hb, h3.below hb, h4.below hb, h5.below hb, h6.below hb, h7⟩
structure SmallM (m : MsgP) : Prop where
  session : m.session.length ≤ 100000
  share : m.share.length ≤ 100000
  ticket : m.ticket.length ≤ 100000
  nonce : m.nonce.length ≤ 100000
  sig : m.sig.length ≤ 100000
  certs : m.certs.length ≤ 10
  cert : ∀ c, c ∈ m.certs → c.length ≤ 100000
theorem nil_len {α : Type} [BEq α] [LawfulBEq α] (l : List α) : (l == []) = decide (l.length = 0) := by
  cases l <;> simp
theorem bare_eq (m : MsgP) : bareP m = bareB m.random m.mark (m.session.length + m.share.length + m.ticket.length + m.nonce.length + m.sig.length + m.certs.length) m.life m.age m.psk m.retry := by
  have hc : m.certs.isEmpty = decide (m.certs.length = 0) := by cases m.certs <;> simp
  unfold bareP bareB
  rw [hc]
  simp only [nil_len]
  rw [Bool.eq_iff_iff]
  simp only [Bool.and_eq_true, decide_eq_true_eq, beq_iff_eq, Nat.add_eq_zero_iff]
theorem natI (n k : Nat) : decide ((n : Int) ≤ (k : Int)) = decide (n ≤ k) := by rw [decide_eq_decide]; omega
theorem any_bad (l : List (List UInt8)) : (!l.any badC) = l.all fun c => decide (1 ≤ c.length) && decide (c.length ≤ 2048) := by
  induction l with
  | nil => rfl
  | cons c l ih => simp only [List.any_cons, List.all_cons, Bool.not_or, ih]; simp [badC]
theorem right_any {m : MsgP} {C : Array Value} {w : World} (h : MsgAt w C m) (hs : SmallM m) :
    Calls Try.prog 22 #[.agg C] w fun e w' => e = .returned (.bool (rightP m)) ∧ Below w.heap.size w w' := by
  obtain ⟨v1, v2, v3, v4, v5, vc, rfl, h1, h2, h3, h4, h5, h6, hr, hm⟩ := h
  obtain ⟨s1, s2, s3, s4, s5, s6, _⟩ := hs
  obtain ⟨k, r, mk, ses, sh, ti, no, sg, ce, life, age, psk, retry⟩ := m
  dsimp only at *
  obtain ⟨a1, c1, rfl, _⟩ := h1
  obtain ⟨a2, c2, rfl, _⟩ := h2
  obtain ⟨a3, c3, rfl, _⟩ := h3
  obtain ⟨a4, c4, rfl, _⟩ := h4
  obtain ⟨a5, c5, rfl, _⟩ := h5
  obtain ⟨a6, c6, rfl⟩ : ∃ a c, vc = .slice a ce.length c := let ⟨a, c, e, _⟩ := h6; ⟨a, c, e⟩
  have fr := fx_of hr
  have fm := fx_of hm
  have fz : fx zero32 = zero32 := fx_of rfl
  unfold rightP
  simp only [bare_eq, nil_len]
  by_cases k1 : k = 1
  · subst k1
    cases psk with
    | true =>
      refine (right_1t r mk a1 a2 a3 a4 a5 a6 _ _ _ _ _ _ c1 c2 c3 c4 c5 c6 life age retry w (by omega) (by omega) (by omega) (by omega) (by omega) (by omega)).mono fun e w' ⟨he, hb⟩ => ⟨he.trans (congrArg (fun b => Ending.returned (Value.bool b)) ?_), hb⟩
      simp only [fz]
      rw [Bool.eq_iff_iff]
      simp
      grind
    | false =>
      refine (right_1f r mk a1 a2 a3 a4 a5 a6 _ _ _ _ _ _ c1 c2 c3 c4 c5 c6 life age retry w (by omega) (by omega) (by omega) (by omega) (by omega) (by omega)).mono fun e w' ⟨he, hb⟩ => ⟨he.trans (congrArg (fun b => Ending.returned (Value.bool b)) ?_), hb⟩
      simp only [fz, fm]
      rw [Bool.eq_iff_iff]
      simp
      grind
  · by_cases k2 : k = 2
    · subst k2
      cases retry with
      | true =>
        refine (right_2t r mk a1 a2 a3 a4 a5 a6 _ _ _ _ _ _ c1 c2 c3 c4 c5 c6 life age psk w (by omega) (by omega) (by omega) (by omega) (by omega) (by omega)).mono fun e w' ⟨he, hb⟩ => ⟨he.trans (congrArg (fun b => Ending.returned (Value.bool b)) ?_), hb⟩
        simp only [fr, fm]
        rw [Bool.eq_iff_iff]
        simp
        omega
      | false =>
        refine (right_2f r mk a1 a2 a3 a4 a5 a6 _ _ _ _ _ _ c1 c2 c3 c4 c5 c6 life age psk w (by omega) (by omega) (by omega) (by omega) (by omega) (by omega)).mono fun e w' ⟨he, hb⟩ => ⟨he.trans (congrArg (fun b => Ending.returned (Value.bool b)) ?_), hb⟩
        simp only [fr, fm, fz]
        rw [Bool.eq_iff_iff]
        simp
        grind
    · by_cases k4 : k = 4
      · subst k4
        refine (right_4 r mk a1 a2 a3 a4 a5 a6 _ _ _ _ _ _ c1 c2 c3 c4 c5 c6 life age psk retry w (by omega) (by omega) (by omega) (by omega) (by omega) (by omega)).mono fun e w' ⟨he, hb⟩ => ⟨he.trans (congrArg (fun b => Ending.returned (Value.bool b)) ?_), hb⟩
        simp only [fr, fm]
        rw [Bool.eq_iff_iff]
        simp
        grind
      · by_cases k11 : k = 11
        · subst k11
          refine (right_11 r mk a1 a2 a3 a4 a5 a6 _ _ _ _ _ _ c1 c2 c3 c4 c5 c6 life age psk retry w (by omega) (by omega) (by omega) (by omega) (by omega) (by omega) ce h6).mono fun e w' ⟨he, hb⟩ => ⟨he.trans (congrArg (fun b => Ending.returned (Value.bool b)) ?_), hb⟩
          simp only [fr, fm, any_bad]
          rw [Bool.eq_iff_iff]
          simp
          grind
        · by_cases k15 : k = 15
          · subst k15
            refine (right_15 r mk a1 a2 a3 a4 a5 a6 _ _ _ _ _ _ c1 c2 c3 c4 c5 c6 life age psk retry w (by omega) (by omega) (by omega) (by omega) (by omega) (by omega)).mono fun e w' ⟨he, hb⟩ => ⟨he.trans (congrArg (fun b => Ending.returned (Value.bool b)) ?_), hb⟩
            simp only [fr, fm]
            rw [Bool.eq_iff_iff]
            simp
            grind
          · by_cases k20 : k = 20
            · subst k20
              refine (right_20 r mk a1 a2 a3 a4 a5 a6 _ _ _ _ _ _ c1 c2 c3 c4 c5 c6 life age psk retry w (by omega) (by omega) (by omega) (by omega) (by omega) (by omega)).mono fun e w' ⟨he, hb⟩ => ⟨he.trans (congrArg (fun b => Ending.returned (Value.bool b)) ?_), hb⟩
              simp only [fr, fz]
              rfl
            · by_cases k8 : k = 8
              · subst k8
                refine (right_8 r mk a1 a2 a3 a4 a5 a6 _ _ _ _ _ _ c1 c2 c3 c4 c5 c6 life age psk retry w (by omega) (by omega) (by omega) (by omega) (by omega) (by omega)).mono fun e w' ⟨he, hb⟩ => ⟨he.trans (congrArg (fun b => Ending.returned (Value.bool b)) ?_), hb⟩
                simp only [fr, fm]
                rfl
              · by_cases k13 : k = 13
                · subst k13
                  refine (right_13 r mk a1 a2 a3 a4 a5 a6 _ _ _ _ _ _ c1 c2 c3 c4 c5 c6 life age psk retry w (by omega) (by omega) (by omega) (by omega) (by omega) (by omega)).mono fun e w' ⟨he, hb⟩ => ⟨he.trans (congrArg (fun b => Ending.returned (Value.bool b)) ?_), hb⟩
                  simp only [fr, fm]
                  rfl
                · refine (right_no k r mk _ w k1 k2 k4 k8 k11 k13 k15 k20).mono fun e w' ⟨he, hb⟩ => ⟨he.trans (congrArg (fun b => Ending.returned (Value.bool b)) ?_), hb⟩
                  rw [if_neg k1, if_neg k2, if_neg k4, if_neg k11, if_neg k15, if_neg k20, if_neg (by omega)]
end Go.Proofs.Ytnenoecmmelehaa

namespace Go.Proofs.Ytnenoecmmelehaa
open Go.RowKit
set_option linter.unusedVariables false
set_option linter.unusedSimpArgs false

def isKindP (x : Nat) : Bool := x == 1 || x == 2 || x == 4 || x == 8 || x == 11 || x == 13 || x == 15 || x == 20
def headN (b : List UInt8) : Nat := (gb b 1).toNat * 65536 + (gb b 2).toNat * 256 + (gb b 3).toNat
def readBy (F : Int → List UInt8 → MsgP) (b : List UInt8) : MsgP × Nat × Int :=
  if 0 < b.length ∧ isKindP (gb b 0).toNat = false then (emptyM 0, 0, 2)
  else if b.length < 4 then (emptyM 0, 0, 3)
  else if 32768 < headN b then (emptyM 0, 0, 4)
  else if b.length < 4 + headN b then (emptyM 0, 0, 3)
  else if rightP (F (gb b 0).toNat ((b.drop 4).take (headN b))) = true ∧ writeP (F (gb b 0).toNat ((b.drop 4).take (headN b))) = b.take (4 + headN b) then (F (gb b 0).toNat ((b.drop 4).take (headN b)), 4 + headN b, 0)
  else (emptyM 0, 0, 2)
theorem zero32_len : zero32.length = 32 := rfl
theorem parseP_form (k : Int) (b : List UInt8) : (parseP k b).kind = k ∧ (parseP k b).random.length = 32 ∧ (parseP k b).mark.length = 32 := by
  have e : ∀ x : List UInt8, (takeV 32 x).length = 32 := takeV_len 32
  have e2 : ∀ (x : List UInt8) (p : Nat), (atP x p 32).length = 32 := fun x p => takeV_len _ _
  unfold parseP
  split
  · subst k; unfold parse1; split <;> simp only [emptyM, e, e2, zero32_len, and_self]
  split
  · subst k; unfold parse2; split <;> simp only [emptyM, e, e2, zero32_len, and_self]
  split
  · subst k; unfold parse4; simp only [emptyM, e, e2, zero32_len, and_self]
  split
  · subst k; unfold parse11; simp only [emptyM, e, e2, zero32_len, and_self]
  split
  · subst k; unfold parse15; simp only [emptyM, e, e2, zero32_len, and_self]
  split
  · subst k; unfold parse20; simp only [emptyM, e, e2, zero32_len, and_self]
  · simp only [emptyM, e, e2, zero32_len, and_self]
theorem atP_len (b : List UInt8) (p n : Nat) : (atP b p n).length = n := takeV_len _ _
theorem guessP_form (k : Int) (b : List UInt8) : (guessP k b).kind = k ∧ (guessP k b).random.length = 32 ∧ (guessP k b).mark.length = 32 := by
  have e : ∀ x : List UInt8, (takeV 32 x).length = 32 := takeV_len 32
  have e2 : ∀ (x : List UInt8) (p : Nat), (atP x p 32).length = 32 := fun x p => takeV_len _ _
  unfold guessP
  split
  · subst k; unfold guess1; split <;> simp only [emptyM, e, e2, zero32_len, and_self]
  split
  · subst k; unfold guess2; split <;> simp only [emptyM, e, e2, zero32_len, and_self]
  split
  · subst k; unfold guess4; simp only [emptyM, e, e2, zero32_len, and_self]
  split
  · subst k; unfold guess11; simp only [emptyM, e, e2, zero32_len, and_self]
  split
  · subst k; unfold guess15; simp only [emptyM, e, e2, zero32_len, and_self]
  split
  · subst k; unfold guess20; simp only [emptyM, e, e2, zero32_len, and_self]
  · simp only [emptyM, e, e2, zero32_len, and_self]
theorem write_body {m : MsgP} {b : List UInt8} {n : Nat} (h : writeP m = b.take (4 + n)) (hl : ¬ b.length < 4 + n) : bodyP m = (b.drop 4).take n := by
  have := congrArg (List.drop 4) h
  unfold writeP at this
  rw [List.drop_take, Nat.add_sub_cancel_left] at this
  rw [← this]
  unfold vecB
  rw [← List.append_assoc, drop_len (by simp [numB_len])]
theorem readBy_eq (b : List UInt8) : readBy parseP b = readBy guessP b := by
  unfold readBy
  split
  · rfl
  split
  · rfl
  split
  · rfl
  split
  · rfl
  rename_i h4
  obtain ⟨k, hk⟩ : ∃ k : Int, k = ((gb b 0).toNat : Int) := ⟨_, rfl⟩
  obtain ⟨q, hq⟩ : ∃ q, q = (b.drop 4).take (headN b) := ⟨_, rfl⟩
  rw [← hk, ← hq]
  by_cases hp : rightP (parseP k q) = true ∧ writeP (parseP k q) = b.take (4 + headN b)
  · obtain ⟨e1, e2, e3⟩ := parseP_form k q
    have hb := write_body hp.2 h4
    rw [← hq] at hb
    have := (read_back hp.1 e2 e3).2
    rw [e1, hb] at this
    rw [this]
  · rw [if_neg hp]
    by_cases hg : rightP (guessP k q) = true ∧ writeP (guessP k q) = b.take (4 + headN b)
    · exfalso
      obtain ⟨e1, e2, e3⟩ := guessP_form k q
      have hb := write_body hg.2 h4
      rw [← hq] at hb
      have := (read_back hg.1 e2 e3).1
      rw [e1, hb] at this
      rw [this] at hp
      exact hp hg
    · rw [if_neg hg]
theorem certsL_small : ∀ (n : Nat) (l : List UInt8) (bad : Bool), (certsL n l bad).length ≤ n ∧ ∀ c, c ∈ certsL n l bad → c.length ≤ 2048
  | 0, l, bad => ⟨Nat.le_refl _, fun c h => by cases h⟩
  | n + 1, l, bad => by
    unfold certsL
    split
    · have ih := certsL_small n (takeR 2 (cvR 3 2048 l)) ((bad || cvB 3 2048 l) || shortB 2 (cvR 3 2048 l))
      refine ⟨by simp only [List.length_cons]; omega, fun c hc => ?_⟩
      rcases List.mem_cons.1 hc with rfl | hc
      · exact cvV_len _ _ _
      · exact ih.2 c hc
    · exact ⟨Nat.zero_le _, fun c h => by cases h⟩
theorem certsG_small (b : List UInt8) : ∀ (n p : Nat), (certsG b n p).length ≤ n ∧ ∀ c, c ∈ certsG b n p → c.length ≤ 2048
  | 0, p => ⟨Nat.le_refl _, fun c h => by cases h⟩
  | n + 1, p => by
    unfold certsG
    split
    · have ih := certsG_small b n (p + 3 + min (getP b p 3) 2048 + 2)
      refine ⟨by simp only [List.length_cons]; omega, fun c hc => ?_⟩
      rcases List.mem_cons.1 hc with rfl | hc
      · rw [atP_len]; omega
      · exact ih.2 c hc
    · exact ⟨Nat.zero_le _, fun c h => by cases h⟩
theorem emptyM_small (k : Int) : SmallM (emptyM k) := ⟨Nat.zero_le _, Nat.zero_le _, Nat.zero_le _, Nat.zero_le _, Nat.zero_le _, Nat.zero_le _, fun c h => by cases h⟩
theorem parseP_small (k : Int) (b : List UInt8) : SmallM (parseP k b) := by
  have cv : ∀ s m l, m ≤ 100000 → (cvV s m l).length ≤ 100000 := fun s m l h => Nat.le_trans (cvV_len s m l) h
  have cv1 := fun l => cv 1 32 l (by decide)
  have cv2 := fun l => cv 2 65 l (by decide)
  have hs : (p_share b).length ≤ 100000 := by
    have := cv 2 69 (p_l3 35 b) (by decide)
    unfold p_share; split
    · rw [List.length_drop]; omega
    · exact Nat.zero_le _
  have hc := certsL_small 6 (takeR 4 b) (shortB 4 b)
  have hc1 : (certsL 6 (takeR 4 b) (shortB 4 b)).length ≤ 10 := by omega
  have hc2 : ∀ c, c ∈ certsL 6 (takeR 4 b) (shortB 4 b) → c.length ≤ 100000 := fun c h => Nat.le_trans (hc.2 c h) (by decide)
  have n0 : ([] : List UInt8).length ≤ 100000 := Nat.zero_le _
  have n1 : ([] : List (List UInt8)).length ≤ 10 := Nat.zero_le _
  have nc : ∀ c : List UInt8, c ∈ ([] : List (List UInt8)) → c.length ≤ 100000 := fun c h => by cases h
  unfold parseP
  split
  · unfold parse1; split <;> (refine ⟨?_, ?_, ?_, ?_, ?_, ?_, ?_⟩ <;> dsimp only [emptyM] <;> first | with_reducible assumption | (with_reducible apply cv; omega))
  split
  · unfold parse2; split <;> (refine ⟨?_, ?_, ?_, ?_, ?_, ?_, ?_⟩ <;> dsimp only [emptyM] <;> first | with_reducible assumption | (with_reducible apply cv; omega))
  split
  · unfold parse4; (refine ⟨?_, ?_, ?_, ?_, ?_, ?_, ?_⟩ <;> dsimp only [emptyM] <;> first | with_reducible assumption | (with_reducible apply cv; omega))
  split
  · unfold parse11; (refine ⟨?_, ?_, ?_, ?_, ?_, ?_, ?_⟩ <;> dsimp only [emptyM] <;> first | with_reducible assumption | (with_reducible apply cv; omega))
  split
  · unfold parse15; (refine ⟨?_, ?_, ?_, ?_, ?_, ?_, ?_⟩ <;> dsimp only [emptyM] <;> first | with_reducible assumption | (with_reducible apply cv; omega))
  split
  · unfold parse20; (refine ⟨?_, ?_, ?_, ?_, ?_, ?_, ?_⟩ <;> dsimp only [emptyM] <;> first | with_reducible assumption | (with_reducible apply cv; omega))
  · exact emptyM_small k
theorem guessP_small (k : Int) (b : List UInt8) : SmallM (guessP k b) := by
  have cv : ∀ p n, n ≤ 100000 → (atP b p n).length ≤ 100000 := fun p n h => by rw [atP_len]; exact h
  have hn : g_n b ≤ 100000 := Nat.le_trans (Nat.min_le_right _ _) (by decide)
  have ht : g_t b ≤ 100000 := Nat.le_trans (Nat.min_le_right _ _) (by decide)
  have h4 : g_4 b ≤ 100000 := Nat.le_trans (Nat.min_le_right _ _) (by decide)
  have hs : (g_share b).length ≤ 100000 := by
    unfold g_share; split
    · exact cv _ _ (by decide)
    · exact Nat.zero_le _
  have hc := certsG_small b 6 4
  have hc1 : (certsG b 6 4).length ≤ 10 := by omega
  have hc2 : ∀ c, c ∈ certsG b 6 4 → c.length ≤ 100000 := fun c h => Nat.le_trans (hc.2 c h) (by decide)
  have n0 : ([] : List UInt8).length ≤ 100000 := Nat.zero_le _
  have n1 : ([] : List (List UInt8)).length ≤ 10 := Nat.zero_le _
  have nc : ∀ c : List UInt8, c ∈ ([] : List (List UInt8)) → c.length ≤ 100000 := fun c h => by cases h
  unfold guessP
  split
  · unfold guess1; split <;> (refine ⟨?_, ?_, ?_, ?_, ?_, ?_, ?_⟩ <;> dsimp only [emptyM] <;> first | with_reducible assumption | (with_reducible apply cv; omega))
  split
  · unfold guess2; split <;> (refine ⟨?_, ?_, ?_, ?_, ?_, ?_, ?_⟩ <;> dsimp only [emptyM] <;> first | with_reducible assumption | (with_reducible apply cv; omega))
  split
  · unfold guess4; (refine ⟨?_, ?_, ?_, ?_, ?_, ?_, ?_⟩ <;> dsimp only [emptyM] <;> first | with_reducible assumption | (with_reducible apply cv; omega))
  split
  · unfold guess11; (refine ⟨?_, ?_, ?_, ?_, ?_, ?_, ?_⟩ <;> dsimp only [emptyM] <;> first | with_reducible assumption | (with_reducible apply cv; omega))
  split
  · unfold guess15; (refine ⟨?_, ?_, ?_, ?_, ?_, ?_, ?_⟩ <;> dsimp only [emptyM] <;> first | with_reducible assumption | (with_reducible apply cv; omega))
  split
  · unfold guess20; (refine ⟨?_, ?_, ?_, ?_, ?_, ?_, ?_⟩ <;> dsimp only [emptyM] <;> first | with_reducible assumption | (with_reducible apply cv; omega))
  · exact emptyM_small k
end Go.Proofs.Ytnenoecmmelehaa
