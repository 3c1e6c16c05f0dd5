/- Part of the proof: HRightB, HRightC, HLawD, HFunc. No conditions of its own. -/
import Derived.Below
import Derived.BigQuiet
import Derived.Deep.CutBlock
import Derived.Deep.DeepCutAuto
import Derived.Deep.Draws
import Derived.Deep.LoopGhost
import Derived.Deep.Quiet
import Derived.Deep.QuietTactic
import Derived.Deep.RegionLaw
import Derived.Laws.AppendOwn
import Derived.Laws.AppendOwnNone
import Derived.Laws.BytesArg
import Derived.Laws.Concat
import Derived.Laws.MakeOwn
import Derived.Lib.AppendZerosOnto
import Derived.Lib.Hide
import Derived.StillTail
import Derived.Stop.BytesEq
import Derived.Test.YtnenoecmmelehaaProg
import Derived.WalkKit
import Derived.WalkLawsBesides
import Derived.WalkSpells
import Derived.Test.YtnenoecmmelehaaM04
import Derived.Test.YtnenoecmmelehaaM06
import Derived.Test.YtnenoecmmelehaaM07
import Derived.Test.YtnenoecmmelehaaM08
import Derived.Test.YtnenoecmmelehaaM02
namespace Go.Proofs.Ytnenoecmmelehaa
open Go.RowKit
set_option linter.unusedVariables false

set_option maxRecDepth 100000 in
set_option maxHeartbeats 4000000 in
theorem right_2f (r mk : List UInt8) (a1 a2 a3 a4 a5 a6 : Option Addr) (n1 n2 n3 n4 n5 n6 c1 c2 c3 c4 c5 c6 : Nat) (life age : Int) (psk : Bool) (w : World) (b1 : n1 ≤ 100000000) (b2 : n2 ≤ 100000000) (b3 : n3 ≤ 100000000) (b4 : n4 ≤ 100000000) (b5 : n5 ≤ 100000000) (b6 : n6 ≤ 100000000) :
    Calls Try.prog 22 #[.agg (mD 2 r mk [.slice a1 n1 c1, .slice a2 n2 c2, .slice a3 n3 c3, .slice a4 n4 c4, .slice a5 n5 c5, .slice a6 n6 c6, .int .i64 life, .int .i64 age, .bool psk, .bool false])] w fun e w' => e = .returned (.bool ((decide ((n1 : Int) ≤ 32) && (decide ((n2 : Int) = 65) && !(fx r == hAgain))) && bareB (fx zero32) (fx mk) (0 + 0 + n3 + n4 + n5 + n6) life age false false)) ∧ Below w.heap.size w w' := by
  have hbare : ∀ W : World, Calls Try.prog 37 #[.agg (mD 2 zero32 mk [.slice none 0 0, .slice none 0 0, .slice a3 n3 c3, .slice a4 n4 c4, .slice a5 n5 c5, .slice a6 n6 c6, .int .i64 life, .int .i64 age, .bool false, .bool false])] W fun e w' => e = .returned (.bool (bareB (fx zero32) (fx mk) (0 + 0 + n3 + n4 + n5 + n6) life age false false)) ∧ Below W.heap.size W w' := fun W => bareD _ _ _ _ _ _ _ _ _ _ _ _ _ _ _ _ _ _ _ _ _ _ _ _ _ W (by omega) (by omega) (by omega) (by omega) (by omega) (by omega)
  obtain ⟨bb, hbb⟩ : ∃ bb, bb = bareB (fx zero32) (fx mk) (0 + 0 + n3 + n4 + n5 + n6) life age false false := ⟨_, rfl⟩
  rw [← hbb] at hbare ⊢
  have HBARE := Lib.hid hbare
  clear hbare hbb b1 b2 b3 b4 b5 b6
  have hcv : (convert 27 9 (.slice (some ⟨w.heap.size, 1, none⟩) 32 32)).run Try.prog (w.alloc (.cells (mD 2 r mk [.slice a1 n1 c1, .slice a2 n2 c2, .slice a3 n3 c3, .slice a4 n4 c4, .slice a5 n5 c5, .slice a6 n6 c6, .int .i64 life, .int .i64 age, .bool psk, .bool false]) 30)) = .ok (S (fx r)) (w.alloc (.cells (mD 2 r mk [.slice a1 n1 c1, .slice a2 n2 c2, .slice a3 n3 c3, .slice a4 n4 c4, .slice a5 n5 c5, .slice a6 n6 c6, .int .i64 life, .int .i64 age, .bool psk, .bool false]) 30)) := run_conv_slb _ _ _ _ Try.underlying27 Try.underlying5 Try.underlying9 _ _ (SlB.rand (Row.new w _ _))
  go_enter Try.func22, Try.ntmps22
  go_wp2_with (first | (go_at_call 37; refine (HBARE.out _).mono ?_; rintro e w1 ⟨rfl, hB⟩) | (go_at_call 33; refine (within_any _ _ _ _).mono ?_; rintro e w1 ⟨rfl, rfl⟩) | (go_at_call 34; refine (wide_any _ _).mono ?_; rintro e w1 ⟨rfl, rfl⟩))
  all_goals go_ret
  all_goals refine ⟨congrArg (fun b => Ending.returned (Value.bool b)) ?_, by first | (refine Below.trans ?_ (hB.mono (by simp)); (repeat (first | (with_reducible exact Below.refl _ _) | ((with_reducible first | refine bSetRow ?_ ?_ _ | refine Below.alloc ?_ ?_ _ | refine Below.setCell ?_ ?_ _); rotate_left 1; (focus (first | (simp; done) | (simp; omega)))) | (with_reducible refine Below.drew ?_)))) | (repeat (first | (with_reducible exact Below.refl _ _) | ((with_reducible first | refine bSetRow ?_ ?_ _ | refine Below.alloc ?_ ?_ _ | refine Below.setCell ?_ ?_ _); rotate_left 1; (focus (first | (simp; done) | (simp; omega)))) | (with_reducible refine Below.drew ?_)))⟩
  all_goals first | rfl | (clear HBARE; simp_all [hAgain]; done) | (clear HBARE; grind [hAgain])
set_option maxRecDepth 100000 in
set_option maxHeartbeats 4000000 in
theorem right_11 (r mk : List UInt8) (a1 a2 a3 a4 a5 a6 : Option Addr) (n1 n2 n3 n4 n5 n6 c1 c2 c3 c4 c5 c6 : Nat) (life age : Int) (psk : Bool) (retry : Bool) (w : World) (b1 : n1 ≤ 100000000) (b2 : n2 ≤ 100000000) (b3 : n3 ≤ 100000000) (b4 : n4 ≤ 100000000) (b5 : n5 ≤ 100000000) (b6 : n6 ≤ 100000000) (parts : List (List UInt8)) (hp : PartsAt w (.slice a6 n6 c6) parts) :
    Calls Try.prog 22 #[.agg (mD 11 r mk [.slice a1 n1 c1, .slice a2 n2 c2, .slice a3 n3 c3, .slice a4 n4 c4, .slice a5 n5 c5, .slice a6 n6 c6, .int .i64 life, .int .i64 age, .bool psk, .bool retry])] w fun e w' => e = .returned (.bool ((decide ((n6 : Int) ≤ 5) && !parts.any badC) && bareB (fx r) (fx mk) (n1 + n2 + n3 + n4 + n5 + 0) life age psk retry)) ∧ Below w.heap.size w w' := by
  have hbare : ∀ W : World, Calls Try.prog 37 #[.agg (mD 11 r mk [.slice a1 n1 c1, .slice a2 n2 c2, .slice a3 n3 c3, .slice a4 n4 c4, .slice a5 n5 c5, .slice none 0 0, .int .i64 life, .int .i64 age, .bool psk, .bool retry])] W fun e w' => e = .returned (.bool (bareB (fx r) (fx mk) (n1 + n2 + n3 + n4 + n5 + 0) life age psk retry)) ∧ Below W.heap.size W w' := fun W => bareD _ _ _ _ _ _ _ _ _ _ _ _ _ _ _ _ _ _ _ _ _ _ _ _ _ W (by omega) (by omega) (by omega) (by omega) (by omega) (by omega)
  obtain ⟨bb, hbb⟩ : ∃ bb, bb = bareB (fx r) (fx mk) (n1 + n2 + n3 + n4 + n5 + 0) life age psk retry := ⟨_, rfl⟩
  rw [← hbb] at hbare ⊢
  have HBARE := Lib.hid hbare
  clear hbare hbb b1 b2 b3 b4 b5 b6
  have hcon0 : ∀ W, Below w.heap.size w W → Calls Try.prog 35 #[.slice a6 n6 c6, .func (.func 36) #[] #[]] W fun e w' => e = .returned (.bool (parts.any badC)) ∧ w' = W := fun W hW => contains_any _ parts W (hp.below hW)
  obtain ⟨bc, hbc⟩ : ∃ bc, bc = parts.any badC := ⟨_, rfl⟩
  rw [← hbc] at hcon0 ⊢
  have HCON := Lib.hid hcon0
  clear hcon0 hbc hp
  go_enter Try.func22, Try.ntmps22
  go_wp2_with (first | (go_at_call 37; refine (HBARE.out _).mono ?_; rintro e w1 ⟨rfl, hB⟩) | (go_at_call 33; refine (within_any _ _ _ _).mono ?_; rintro e w1 ⟨rfl, rfl⟩) | (go_at_call 34; refine (wide_any _ _).mono ?_; rintro e w1 ⟨rfl, rfl⟩) | (go_at_call 35; refine (HCON.out _ (by (repeat (first | (with_reducible exact Below.refl _ _) | ((with_reducible first | refine bSetRow ?_ ?_ _ | refine Below.alloc ?_ ?_ _ | refine Below.setCell ?_ ?_ _); rotate_left 1; (focus (first | (simp; done) | (simp; omega)))) | (with_reducible refine Below.drew ?_))))).mono ?_; rintro e w1 ⟨rfl, rfl⟩))
  all_goals go_ret
  all_goals refine ⟨congrArg (fun b => Ending.returned (Value.bool b)) ?_, by first | (refine Below.trans ?_ (hB.mono (by simp)); (repeat (first | (with_reducible exact Below.refl _ _) | ((with_reducible first | refine bSetRow ?_ ?_ _ | refine Below.alloc ?_ ?_ _ | refine Below.setCell ?_ ?_ _); rotate_left 1; (focus (first | (simp; done) | (simp; omega)))) | (with_reducible refine Below.drew ?_)))) | (repeat (first | (with_reducible exact Below.refl _ _) | ((with_reducible first | refine bSetRow ?_ ?_ _ | refine Below.alloc ?_ ?_ _ | refine Below.setCell ?_ ?_ _); rotate_left 1; (focus (first | (simp; done) | (simp; omega)))) | (with_reducible refine Below.drew ?_)))⟩
  all_goals first | rfl | (clear HBARE HCON; simp_all; done) | (clear HBARE HCON; grind)
set_option maxRecDepth 100000 in
set_option maxHeartbeats 4000000 in
theorem right_no (k : Int) (r mk : List UInt8) (l : List Value) (w : World) (h1 : k ≠ 1) (h2 : k ≠ 2) (h4 : k ≠ 4) (h8 : k ≠ 8) (h11 : k ≠ 11) (h13 : k ≠ 13) (h15 : k ≠ 15) (h20 : k ≠ 20) :
    Calls Try.prog 22 #[.agg (mD k r mk l)] w fun e w' => e = .returned (.bool false) ∧ Below w.heap.size w w' := by
  have e1 : (k == 1) = false := by simpa using h1
  have e2 : (k == 2) = false := by simpa using h2
  have e4 : (k == 4) = false := by simpa using h4
  have e8 : (k == 8) = false := by simpa using h8
  have e11 : (k == 11) = false := by simpa using h11
  have e13 : (k == 13) = false := by simpa using h13
  have e15 : (k == 15) = false := by simpa using h15
  have e20 : (k == 20) = false := by simpa using h20
  clear h1 h2 h4 h8 h11 h13 h15 h20
  go_enter Try.func22, Try.ntmps22
  go_wp2_with fail
  go_ret
  exact ⟨rfl, by (repeat (first | (with_reducible exact Below.refl _ _) | ((with_reducible first | refine bSetRow ?_ ?_ _ | refine Below.alloc ?_ ?_ _ | refine Below.setCell ?_ ?_ _); rotate_left 1; (focus (first | (simp; done) | (simp; omega)))) | (with_reducible refine Below.drew ?_)))⟩
end Go.Proofs.Ytnenoecmmelehaa

namespace Go.Proofs.Ytnenoecmmelehaa
open Go.RowKit

def MsgAt (w : World) (C : Array Value) (m : MsgP) : Prop :=
  ∃ v1 v2 v3 v4 v5 vc, C = mD m.kind m.random m.mark [v1, v2, v3, v4, v5, vc, .int .i64 m.life, .int .i64 m.age, .bool m.psk, .bool m.retry] ∧
    SlB w v1 m.session ∧ SlB w v2 m.share ∧ SlB w v3 m.ticket ∧ SlB w v4 m.nonce ∧ SlB w v5 m.sig ∧ PartsAt w vc m.certs ∧ m.random.length = 32 ∧ m.mark.length = 32
theorem MsgAt.below {w w' : World} {C : Array Value} {m : MsgP} (h : MsgAt w C m) (hb : Below w.heap.size w w') : MsgAt w' C m := by
  obtain ⟨v1, v2, v3, v4, v5, vc, e, h1, h2, h3, h4, h5, h6, h7⟩ := h
  exact ⟨v1, v2, v3, v4, v5, vc, e, h1.below hb, h2.below hb, h3.below hb, h4.below hb, h5.below hb, h6.below hb, h7⟩
structure SmallM (m : MsgP) : Prop where
  session : m.session.length ≤ 100000
  share : m.share.length ≤ 100000
  ticket : m.ticket.length ≤ 100000
  nonce : m.nonce.length ≤ 100000
  sig : m.sig.length ≤ 100000
  certs : m.certs.length ≤ 10
  cert : ∀ c, c ∈ m.certs → c.length ≤ 100000
theorem nil_len {α : Type} [BEq α] [LawfulBEq α] (l : List α) : (l == []) = decide (l.length = 0) := by
  cases l <;> simp
theorem bare_eq (m : MsgP) : bareP m = bareB m.random m.mark (m.session.length + m.share.length + m.ticket.length + m.nonce.length + m.sig.length + m.certs.length) m.life m.age m.psk m.retry := by
  have hc : m.certs.isEmpty = decide (m.certs.length = 0) := by cases m.certs <;> simp
  unfold bareP bareB
  rw [hc]
  simp only [nil_len]
  rw [Bool.eq_iff_iff]
  simp only [Bool.and_eq_true, decide_eq_true_eq, beq_iff_eq, Nat.add_eq_zero_iff]
theorem any_bad (l : List (List UInt8)) : (!l.any badC) = l.all fun c => decide (1 ≤ c.length) && decide (c.length ≤ 2048) := by
  induction l with
  | nil => rfl
  | cons c l ih => simp only [List.any_cons, List.all_cons, Bool.not_or, ih]; simp [badC]
theorem right_any {m : MsgP} {C : Array Value} {w : World} (h : MsgAt w C m) (hs : SmallM m) :
    Calls Try.prog 22 #[.agg C] w fun e w' => e = .returned (.bool (rightP m)) ∧ Below w.heap.size w w' := by
  obtain ⟨v1, v2, v3, v4, v5, vc, rfl, h1, h2, h3, h4, h5, h6, hr, hm⟩ := h
  obtain ⟨s1, s2, s3, s4, s5, s6, _⟩ := hs
  obtain ⟨k, r, mk, ses, sh, ti, no, sg, ce, life, age, psk, retry⟩ := m
  dsimp only at *
  obtain ⟨a1, c1, rfl, _⟩ := h1
  obtain ⟨a2, c2, rfl, _⟩ := h2
  obtain ⟨a3, c3, rfl, _⟩ := h3
  obtain ⟨a4, c4, rfl, _⟩ := h4
  obtain ⟨a5, c5, rfl, _⟩ := h5
  obtain ⟨a6, c6, rfl⟩ : ∃ a c, vc = .slice a ce.length c := let ⟨a, c, e, _⟩ := h6; ⟨a, c, e⟩
  have fr := fx_of hr
  have fm := fx_of hm
  have fz : fx zero32 = zero32 := fx_of rfl
  unfold rightP
  simp only [bare_eq, nil_len]
  by_cases k1 : k = 1
  · subst k1
    cases psk with
    | true =>
      refine (right_1t r mk a1 a2 a3 a4 a5 a6 _ _ _ _ _ _ c1 c2 c3 c4 c5 c6 life age retry w (by omega) (by omega) (by omega) (by omega) (by omega) (by omega)).mono fun e w' ⟨he, hb⟩ => ⟨he.trans (congrArg (fun b => Ending.returned (Value.bool b)) ?_), hb⟩
      simp only [fz]
      rw [Bool.eq_iff_iff]
      simp
      grind
    | false =>
      refine (right_1f r mk a1 a2 a3 a4 a5 a6 _ _ _ _ _ _ c1 c2 c3 c4 c5 c6 life age retry w (by omega) (by omega) (by omega) (by omega) (by omega) (by omega)).mono fun e w' ⟨he, hb⟩ => ⟨he.trans (congrArg (fun b => Ending.returned (Value.bool b)) ?_), hb⟩
      simp only [fz, fm]
      rw [Bool.eq_iff_iff]
      simp
      grind
  · by_cases k2 : k = 2
    · subst k2
      cases retry with
      | true =>
        refine (right_2t r mk a1 a2 a3 a4 a5 a6 _ _ _ _ _ _ c1 c2 c3 c4 c5 c6 life age psk w (by omega) (by omega) (by omega) (by omega) (by omega) (by omega)).mono fun e w' ⟨he, hb⟩ => ⟨he.trans (congrArg (fun b => Ending.returned (Value.bool b)) ?_), hb⟩
        simp only [fr, fm]
        rw [Bool.eq_iff_iff]
        simp
        omega
      | false =>
        refine (right_2f r mk a1 a2 a3 a4 a5 a6 _ _ _ _ _ _ c1 c2 c3 c4 c5 c6 life age psk w (by omega) (by omega) (by omega) (by omega) (by omega) (by omega)).mono fun e w' ⟨he, hb⟩ => ⟨he.trans (congrArg (fun b => Ending.returned (Value.bool b)) ?_), hb⟩
        simp only [fr, fm, fz]
        rw [Bool.eq_iff_iff]
        simp
        grind
    · by_cases k4 : k = 4
      · subst k4
        refine (right_4 r mk a1 a2 a3 a4 a5 a6 _ _ _ _ _ _ c1 c2 c3 c4 c5 c6 life age psk retry w (by omega) (by omega) (by omega) (by omega) (by omega) (by omega)).mono fun e w' ⟨he, hb⟩ => ⟨he.trans (congrArg (fun b => Ending.returned (Value.bool b)) ?_), hb⟩
        simp only [fr, fm]
        rw [Bool.eq_iff_iff]
        simp
        grind
      · by_cases k11 : k = 11
        · subst k11
          refine (right_11 r mk a1 a2 a3 a4 a5 a6 _ _ _ _ _ _ c1 c2 c3 c4 c5 c6 life age psk retry w (by omega) (by omega) (by omega) (by omega) (by omega) (by omega) ce h6).mono fun e w' ⟨he, hb⟩ => ⟨he.trans (congrArg (fun b => Ending.returned (Value.bool b)) ?_), hb⟩
          simp only [fr, fm, any_bad]
          rw [Bool.eq_iff_iff]
          simp
          grind
        · by_cases k15 : k = 15
          · subst k15
            refine (right_15 r mk a1 a2 a3 a4 a5 a6 _ _ _ _ _ _ c1 c2 c3 c4 c5 c6 life age psk retry w (by omega) (by omega) (by omega) (by omega) (by omega) (by omega)).mono fun e w' ⟨he, hb⟩ => ⟨he.trans (congrArg (fun b => Ending.returned (Value.bool b)) ?_), hb⟩
            simp only [fr, fm]
            rw [Bool.eq_iff_iff]
            simp
            grind
          · by_cases k20 : k = 20
            · subst k20
              refine (right_20 r mk a1 a2 a3 a4 a5 a6 _ _ _ _ _ _ c1 c2 c3 c4 c5 c6 life age psk retry w (by omega) (by omega) (by omega) (by omega) (by omega) (by omega)).mono fun e w' ⟨he, hb⟩ => ⟨he.trans (congrArg (fun b => Ending.returned (Value.bool b)) ?_), hb⟩
              simp only [fr, fz]
              rfl
            · by_cases k8 : k = 8
              · subst k8
                refine (right_8 r mk a1 a2 a3 a4 a5 a6 _ _ _ _ _ _ c1 c2 c3 c4 c5 c6 life age psk retry w (by omega) (by omega) (by omega) (by omega) (by omega) (by omega)).mono fun e w' ⟨he, hb⟩ => ⟨he.trans (congrArg (fun b => Ending.returned (Value.bool b)) ?_), hb⟩
                simp only [fr, fm]
                rfl
              · by_cases k13 : k = 13
                · subst k13
                  refine (right_13 r mk a1 a2 a3 a4 a5 a6 _ _ _ _ _ _ c1 c2 c3 c4 c5 c6 life age psk retry w (by omega) (by omega) (by omega) (by omega) (by omega) (by omega)).mono fun e w' ⟨he, hb⟩ => ⟨he.trans (congrArg (fun b => Ending.returned (Value.bool b)) ?_), hb⟩
                  simp only [fr, fm]
                  rfl
                · refine (right_no k r mk _ w k1 k2 k4 k8 k11 k13 k15 k20).mono fun e w' ⟨he, hb⟩ => ⟨he.trans (congrArg (fun b => Ending.returned (Value.bool b)) ?_), hb⟩
                  rw [if_neg k1, if_neg k2, if_neg k4, if_neg k11, if_neg k15, if_neg k20, if_neg (by omega)]
end Go.Proofs.Ytnenoecmmelehaa

namespace Go.Proofs.Ytnenoecmmelehaa
open Go.RowKit
set_option linter.unusedVariables false
set_option linter.unusedSimpArgs false

def isKindP (x : Nat) : Bool := x == 1 || x == 2 || x == 4 || x == 8 || x == 11 || x == 13 || x == 15 || x == 20
def headN (b : List UInt8) : Nat := (gb b 1).toNat * 65536 + (gb b 2).toNat * 256 + (gb b 3).toNat
def readBy (F : Int → List UInt8 → MsgP) (b : List UInt8) : MsgP × Nat × Int :=
  if 0 < b.length ∧ isKindP (gb b 0).toNat = false then (emptyM 0, 0, 2)
  else if b.length < 4 then (emptyM 0, 0, 3)
  else if 32768 < headN b then (emptyM 0, 0, 4)
  else if b.length < 4 + headN b then (emptyM 0, 0, 3)
  else if rightP (F (gb b 0).toNat ((b.drop 4).take (headN b))) = true ∧ writeP (F (gb b 0).toNat ((b.drop 4).take (headN b))) = b.take (4 + headN b) then (F (gb b 0).toNat ((b.drop 4).take (headN b)), 4 + headN b, 0)
  else (emptyM 0, 0, 2)
theorem certsL_small : ∀ (n : Nat) (l : List UInt8) (bad : Bool), (certsL n l bad).length ≤ n ∧ ∀ c, c ∈ certsL n l bad → c.length ≤ 2048
  | 0, l, bad => ⟨Nat.le_refl _, fun c h => by cases h⟩
  | n + 1, l, bad => by
    unfold certsL
    split
    · have ih := certsL_small n (takeR 2 (cvR 3 2048 l)) ((bad || cvB 3 2048 l) || shortB 2 (cvR 3 2048 l))
      refine ⟨by simp only [List.length_cons]; omega, fun c hc => ?_⟩
      rcases List.mem_cons.1 hc with rfl | hc
      · exact cvV_len _ _ _
      · exact ih.2 c hc
    · exact ⟨Nat.zero_le _, fun c h => by cases h⟩
theorem emptyM_small (k : Int) : SmallM (emptyM k) := ⟨Nat.zero_le _, Nat.zero_le _, Nat.zero_le _, Nat.zero_le _, Nat.zero_le _, Nat.zero_le _, fun c h => by cases h⟩
theorem parseP_small (k : Int) (b : List UInt8) : SmallM (parseP k b) := by
  have cv : ∀ s m l, m ≤ 100000 → (cvV s m l).length ≤ 100000 := fun s m l h => Nat.le_trans (cvV_len s m l) h
  have cv1 := fun l => cv 1 32 l (by decide)
  have cv2 := fun l => cv 2 65 l (by decide)
  have hs : (p_share b).length ≤ 100000 := by
    have := cv 2 69 (p_l3 35 b) (by decide)
    unfold p_share; split
    · rw [List.length_drop]; omega
    · exact Nat.zero_le _
  have hc := certsL_small 6 (takeR 4 b) (shortB 4 b)
  have hc1 : (certsL 6 (takeR 4 b) (shortB 4 b)).length ≤ 10 := by omega
  have hc2 : ∀ c, c ∈ certsL 6 (takeR 4 b) (shortB 4 b) → c.length ≤ 100000 := fun c h => Nat.le_trans (hc.2 c h) (by decide)
  have n0 : ([] : List UInt8).length ≤ 100000 := Nat.zero_le _
  have n1 : ([] : List (List UInt8)).length ≤ 10 := Nat.zero_le _
  have nc : ∀ c : List UInt8, c ∈ ([] : List (List UInt8)) → c.length ≤ 100000 := fun c h => by cases h
  unfold parseP
  split
  · unfold parse1; split <;> (refine ⟨?_, ?_, ?_, ?_, ?_, ?_, ?_⟩ <;> dsimp only [emptyM] <;> first | with_reducible assumption | (with_reducible apply cv; omega))
  split
  · unfold parse2; split <;> (refine ⟨?_, ?_, ?_, ?_, ?_, ?_, ?_⟩ <;> dsimp only [emptyM] <;> first | with_reducible assumption | (with_reducible apply cv; omega))
  split
  · unfold parse4; (refine ⟨?_, ?_, ?_, ?_, ?_, ?_, ?_⟩ <;> dsimp only [emptyM] <;> first | with_reducible assumption | (with_reducible apply cv; omega))
  split
  · unfold parse11; (refine ⟨?_, ?_, ?_, ?_, ?_, ?_, ?_⟩ <;> dsimp only [emptyM] <;> first | with_reducible assumption | (with_reducible apply cv; omega))
  split
  · unfold parse15; (refine ⟨?_, ?_, ?_, ?_, ?_, ?_, ?_⟩ <;> dsimp only [emptyM] <;> first | with_reducible assumption | (with_reducible apply cv; omega))
  split
  · unfold parse20; (refine ⟨?_, ?_, ?_, ?_, ?_, ?_, ?_⟩ <;> dsimp only [emptyM] <;> first | with_reducible assumption | (with_reducible apply cv; omega))
  · exact emptyM_small k
end Go.Proofs.Ytnenoecmmelehaa

namespace Go.Proofs.Ytnenoecmmelehaa
open Go.RowKit

def StrsAt (w : World) (vp : Value) (parts : List (List UInt8)) : Prop :=
  ∃ a cap, vp = .slice a parts.length cap ∧ parts.length ≤ cap ∧ cap ≤ maxLen ∧ ∀ i, i < parts.length → ∃ g o, a = some ⟨g, o, none⟩ ∧ w.cell? ⟨g, o + i, none⟩ = some (S (parts.getD i []))
theorem StrsAt.below {w w' : World} {vp : Value} {parts : List (List UInt8)} (h : StrsAt w vp parts) (hb : Below w.heap.size w w') : StrsAt w' vp parts := by
  obtain ⟨a, cap, e, h1, h2, h3⟩ := h
  refine ⟨a, cap, e, h1, h2, fun i hi => ?_⟩
  obtain ⟨g, o, e1, e2⟩ := h3 i hi
  exact ⟨g, o, e1, (hb.cell (World.block_lt_of_cell? w _ e2)).trans e2⟩
def StrB (w : World) (base : Nat) (v : Value) (parts : List (List UInt8)) : Prop := w.ownsRow base 9 1 v parts.length (parts.map S)
theorem StrB.strs {w : World} {base : Nat} {v : Value} {parts : List (List UInt8)} (h : StrB w base v parts) : StrsAt w v parts := by
  rcases h.2 with ⟨rfl, h0⟩ | ⟨g, cap, cur, rfl, _, hh, h1, h2, h3, h4⟩
  · exact ⟨none, 0, by rw [h0], by omega, Nat.zero_le _, fun j hj => by omega⟩
  · refine ⟨some ⟨g, 0, none⟩, cap, rfl, h1, h2, fun j hj => ?_⟩
    have hrow : Row w g 9 cur := .of_heap hh
    refine ⟨g, 0, rfl, ?_⟩
    rw [Nat.zero_add, hrow.cell, ← Array.getElem?_toList]
    have : (cur.toList.take (parts.length * 1))[j]? = (parts.map S)[j]? := by rw [h4]
    rw [List.getElem?_take, if_pos (by omega)] at this
    rw [this]
    simp [hj]
theorem info_any {P : Program} {e : TypeId} {z : Value} {sz by' : Nat} (h : (P.info? e).map (fun i => (i.zero, i.size, i.bytes)) = some (some z, sz, by')) : ∃ i, P.info? e = some i ∧ i.zero = some z ∧ i.size = sz ∧ i.bytes = by' := by
  cases hi : P.info? e with
  | none => rw [hi] at h; cases h
  | some i =>
    rw [hi] at h
    simp only [Option.map_some, Option.some.injEq, Prod.mk.injEq] at h
    exact ⟨i, rfl, h.1, h.2.1, h.2.2⟩
def cutP (l : List (List UInt8)) (k : Nat) : List (List UInt8) := (l.take k).map (List.take 2100)
theorem cutP_step (l : List (List UInt8)) (k : Nat) (h : k < l.length) : (cutP l k).map S ++ [S ((l.getD k []).take 2100)] = (cutP l (k + 1)).map S := by
  unfold cutP
  rw [List.take_succ_eq_append_getElem h, List.map_append, List.map_append]
  simp only [List.map_cons, List.map_nil, List.getD_eq_getElem?_getD, List.getElem?_eq_getElem h, Option.getD_some]
theorem cutP_len (l : List (List UInt8)) (k : Nat) (h : k ≤ l.length) : (cutP l k).length = k := by simp [cutP, h]
def strV (l : List (List UInt8)) : List Value := l.map S
set_option maxRecDepth 100000 in
set_option maxHeartbeats 4000000 in
theorem func1_any (vp : Value) (l : List (List UInt8)) (w : World) (hp : StrsAt w vp l) : Calls Try.prog 20 #[vp] w fun e w' => ∃ v', e = .returned v' ∧ StrB w' w.heap.size v' (cutP l 6) ∧ Below w.heap.size w w' := by
  obtain ⟨pa, pcap, rfl, hpc, hpm, hpe⟩ := hp
  have HPE := Lib.hid hpe
  clear hpe
  go_enter Try.func20, Try.ntmps20
  go_wp2_with fail
  go_loopg [3, 4] 6 (fun g v iv wr => ∃ k : Nat, g + k = 6 ∧ iv = .int .i64 (k : Int) ∧ k ≤ l.length ∧ wr.ownsRow w.heap.size 9 1 v k (strV (cutP l k)) ∧ Below w.heap.size w wr)
  case atStart => exact ⟨0, by omega, rfl, Nat.zero_le _, World.ownsRow_nil w w.heap.size 9 1, Below.refl _ w⟩
  case round =>
    obtain ⟨k, hk, rfl, hkl, hrow, hB⟩ := hrel
    have fin : (k = 6 ∨ k = l.length) → StrB wr w.heap.size u3 (cutP l 6) := fun h => by
      have e : cutP l k = cutP l 6 := by
        rcases h with rfl | rfl
        · rfl
        · unfold cutP
          rw [List.take_length, List.take_of_length_le (by omega)]
      unfold StrB
      rw [← e, cutP_len l k hkl]
      exact hrow
    by_cases h1 : k < l.length
    · have x1 : (k : Int) < (l.length : Int) := by omega
      by_cases h2 : k < 6
      · have x2 : (k : Int) < 6 := by omega
        obtain ⟨g, o, ha, hc⟩ := HPE.out k h1
        subst ha
        have x0 : (0 : Int) ≤ (k : Int) := by omega
        have x3 : ((k : Int)).toNat = k := by omega
        have hc2 := (hB.cell (World.block_lt_of_cell? w _ hc)).trans hc
        have hst : strV (cutP l k) ++ [S ((l.getD k []).take 2100)] = strV (cutP l (k + 1)) := cutP_step l k h1
        obtain ⟨q, hq⟩ : ∃ q, q = l.getD k [] := ⟨_, rfl⟩
        rw [← hq] at hst hc2
        have HST := Lib.hid hst
        have HROW := Lib.hid hrow
        have HB := Lib.hid hB
        clear hc hst hq hrow hB fin
        go_wp2_with fail
        refine (short_any q _).mono ?_
        rintro e w2 ⟨rfl, rfl⟩
        obtain ⟨x, hx⟩ : ∃ x, x = q.take 2100 := ⟨_, rfl⟩
        rw [← hx]
        have HX := Lib.hid hx
        obtain ⟨i9, hi9, hz0, hz1, hz2⟩ := info_any info_str
        have hcell : ∀ j y, [S x][j]? = some y → (w2.alloc (.cells #[S x] 9)).cell? ((⟨w2.heap.size, 0, none⟩ : Addr).add j) = some y := fun j y hj => by
          have hj1 : j < 1 := by simpa using (List.getElem?_eq_some_iff.1 hj).1
          obtain rfl : j = 0 := by omega
          rw [Addr.add_lit, (Row.new w2 9 #[S x]).cell]
          simpa using hj
        have hone : ∀ y ∈ [S x], y.oneCell' = true := fun y hy => by
          obtain rfl : y = S x := by simpa using hy
          rfl
        have hr2 : (w2.alloc (.cells #[S x] 9)).ownsRow w.heap.size 9 1 u3 k (strV (cutP l k)) := World.ownsRow.alloc HROW.out _
        have hB2 : Below w.heap.size w (w2.alloc (.cells #[S x] 9)) := HB.out.alloc HB.out.size _
        have hmx : k + 1 ≤ maxLen := by unfold maxLen; omega
        have HCELL := Lib.hid hcell
        have HONE := Lib.hid hone
        have HI9 := Lib.hid hi9
        have HZ0 := Lib.hid hz0
        have HZ1 := Lib.hid hz1
        have HZ2 := Lib.hid hz2
        have HR2 := Lib.hid hr2
        have HB2 := Lib.hid hB2
        have HMX := Lib.hid hmx
        clear hcell hone hi9 hz0 hz1 hz2 hr2 hB2 hmx hx
        go_wp2_with (at_builtin; refine wpList_append_own _ rfl (.tmp 15) (.tmp 21) 23 rfl w.heap.size 9 i9 (.string ⟨#[]⟩) 1 16 Try.underlying23 HI9.out HZ0.out HZ1.out HZ2.out rfl (by decide) _ k _ rfl HR2.out ⟨w2.heap.size, 0, none⟩ 1 1 [S x] rfl rfl HCELL.out HONE.out HMX.out (by omega) HB2.out.size ?_)
        intro v' w' hown hg _
        rw [HX.out, HST.out] at hown
        have hB6 : Below w.heap.size w w' := HB2.out.grown hg HB2.out.size (fun j e => (World.ownsRow.lt HR2.out j e).1)
        have HOWN := Lib.hid hown
        clear hown hg
        go_wp2_with fail
        go_roundg (gk - 1)
        case measure => omega
        case rel => exact ⟨k + 1, by omega, by go_num, by omega, HOWN.out, hB6⟩
      · have x2 : ¬ (k : Int) < 6 := by omega
        have HF := Lib.hid (fin (.inl (by omega)))
        clear fin hrow
        go_wp2_with fail
        go_ret
        exact ⟨_, rfl, HF.out, hB⟩
    · have x1 : ¬ (k : Int) < (l.length : Int) := by omega
      have HF := Lib.hid (fin (.inr (by omega)))
      clear fin hrow
      go_wp2_with fail
      go_ret
      exact ⟨_, rfl, HF.out, hB⟩
end Go.Proofs.Ytnenoecmmelehaa
