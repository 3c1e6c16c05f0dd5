/- Part of the proof: HRight. No conditions of its own. -/
import Derived.Below
import Derived.BigQuiet
import Derived.Deep.CutBlock
import Derived.Deep.DeepCutAuto
import Derived.Deep.Draws
import Derived.Deep.LoopGhost
import Derived.Deep.Quiet
import Derived.Deep.QuietTactic
import Derived.Deep.RegionLaw
import Derived.Laws.AppendOwn
import Derived.Laws.AppendOwnNone
import Derived.Laws.BytesArg
import Derived.Laws.Concat
import Derived.Laws.MakeOwn
import Derived.Lib.AppendZerosOnto
import Derived.Lib.Hide
import Derived.StillTail
import Derived.Stop.BytesEq
import Derived.Test.YtnenoecmmelehaaProg
import Derived.WalkKit
import Derived.WalkLawsBesides
import Derived.WalkSpells
import Derived.Test.YtnenoecmmelehaaM05
import Derived.Test.YtnenoecmmelehaaM07
namespace Go.Proofs.Ytnenoecmmelehaa
open Go.RowKit
set_option linter.unusedVariables false

/-! by mk_right.py -/
set_option maxRecDepth 100000 in
set_option maxHeartbeats 4000000 in
theorem right_20 (r mk : List UInt8) (a1 a2 a3 a4 a5 a6 : Option Addr) (n1 n2 n3 n4 n5 n6 c1 c2 c3 c4 c5 c6 : Nat) (life age : Int) (psk : Bool) (retry : Bool) (w : World) (b1 : n1 ≤ 100000000) (b2 : n2 ≤ 100000000) (b3 : n3 ≤ 100000000) (b4 : n4 ≤ 100000000) (b5 : n5 ≤ 100000000) (b6 : n6 ≤ 100000000) :
    Calls Try.prog 22 #[.agg (mD 20 r mk [.slice a1 n1 c1, .slice a2 n2 c2, .slice a3 n3 c3, .slice a4 n4 c4, .slice a5 n5 c5, .slice a6 n6 c6, .int .i64 life, .int .i64 age, .bool psk, .bool retry])] w fun e w' => e = .returned (.bool (bareB (fx r) (fx zero32) (n1 + n2 + n3 + n4 + n5 + n6) life age psk retry)) ∧ Below w.heap.size w w' := by
  have hbare : ∀ W : World, Calls Try.prog 37 #[.agg (mD 20 r zero32 [.slice a1 n1 c1, .slice a2 n2 c2, .slice a3 n3 c3, .slice a4 n4 c4, .slice a5 n5 c5, .slice a6 n6 c6, .int .i64 life, .int .i64 age, .bool psk, .bool retry])] W fun e w' => e = .returned (.bool (bareB (fx r) (fx zero32) (n1 + n2 + n3 + n4 + n5 + n6) life age psk retry)) ∧ Below W.heap.size W w' := fun W => bareD _ _ _ _ _ _ _ _ _ _ _ _ _ _ _ _ _ _ _ _ _ _ _ _ _ W (by omega) (by omega) (by omega) (by omega) (by omega) (by omega)
  obtain ⟨bb, hbb⟩ : ∃ bb, bb = bareB (fx r) (fx zero32) (n1 + n2 + n3 + n4 + n5 + n6) life age psk retry := ⟨_, rfl⟩
  rw [← hbb] at hbare ⊢
  have HBARE := Lib.hid hbare
  clear hbare hbb b1 b2 b3 b4 b5 b6
  go_enter Try.func22, Try.ntmps22
  go_wp2_with (first | (go_at_call 37; refine (HBARE.out _).mono ?_; rintro e w1 ⟨rfl, hB⟩) | (go_at_call 33; refine (within_any _ _ _ _).mono ?_; rintro e w1 ⟨rfl, rfl⟩) | (go_at_call 34; refine (wide_any _ _).mono ?_; rintro e w1 ⟨rfl, rfl⟩))
  all_goals go_ret
  all_goals refine ⟨congrArg (fun b => Ending.returned (Value.bool b)) ?_, by first | (refine Below.trans ?_ (hB.mono (by simp)); (repeat (first | (with_reducible exact Below.refl _ _) | ((with_reducible first | refine bSetRow ?_ ?_ _ | refine Below.alloc ?_ ?_ _ | refine Below.setCell ?_ ?_ _); rotate_left 1; (focus (first | (simp; done) | (simp; omega)))) | (with_reducible refine Below.drew ?_)))) | (repeat (first | (with_reducible exact Below.refl _ _) | ((with_reducible first | refine bSetRow ?_ ?_ _ | refine Below.alloc ?_ ?_ _ | refine Below.setCell ?_ ?_ _); rotate_left 1; (focus (first | (simp; done) | (simp; omega)))) | (with_reducible refine Below.drew ?_)))⟩
  all_goals first | rfl | (clear HBARE; simp_all; done) | grind
set_option maxRecDepth 100000 in
set_option maxHeartbeats 4000000 in
theorem right_8 (r mk : List UInt8) (a1 a2 a3 a4 a5 a6 : Option Addr) (n1 n2 n3 n4 n5 n6 c1 c2 c3 c4 c5 c6 : Nat) (life age : Int) (psk : Bool) (retry : Bool) (w : World) (b1 : n1 ≤ 100000000) (b2 : n2 ≤ 100000000) (b3 : n3 ≤ 100000000) (b4 : n4 ≤ 100000000) (b5 : n5 ≤ 100000000) (b6 : n6 ≤ 100000000) :
    Calls Try.prog 22 #[.agg (mD 8 r mk [.slice a1 n1 c1, .slice a2 n2 c2, .slice a3 n3 c3, .slice a4 n4 c4, .slice a5 n5 c5, .slice a6 n6 c6, .int .i64 life, .int .i64 age, .bool psk, .bool retry])] w fun e w' => e = .returned (.bool (bareB (fx r) (fx mk) (n1 + n2 + n3 + n4 + n5 + n6) life age psk retry)) ∧ Below w.heap.size w w' := by
  have hbare : ∀ W : World, Calls Try.prog 37 #[.agg (mD 8 r mk [.slice a1 n1 c1, .slice a2 n2 c2, .slice a3 n3 c3, .slice a4 n4 c4, .slice a5 n5 c5, .slice a6 n6 c6, .int .i64 life, .int .i64 age, .bool psk, .bool retry])] W fun e w' => e = .returned (.bool (bareB (fx r) (fx mk) (n1 + n2 + n3 + n4 + n5 + n6) life age psk retry)) ∧ Below W.heap.size W w' := fun W => bareD _ _ _ _ _ _ _ _ _ _ _ _ _ _ _ _ _ _ _ _ _ _ _ _ _ W (by omega) (by omega) (by omega) (by omega) (by omega) (by omega)
  obtain ⟨bb, hbb⟩ : ∃ bb, bb = bareB (fx r) (fx mk) (n1 + n2 + n3 + n4 + n5 + n6) life age psk retry := ⟨_, rfl⟩
  rw [← hbb] at hbare ⊢
  have HBARE := Lib.hid hbare
  clear hbare hbb b1 b2 b3 b4 b5 b6
  go_enter Try.func22, Try.ntmps22
  go_wp2_with (first | (go_at_call 37; refine (HBARE.out _).mono ?_; rintro e w1 ⟨rfl, hB⟩) | (go_at_call 33; refine (within_any _ _ _ _).mono ?_; rintro e w1 ⟨rfl, rfl⟩) | (go_at_call 34; refine (wide_any _ _).mono ?_; rintro e w1 ⟨rfl, rfl⟩))
  all_goals go_ret
  all_goals refine ⟨congrArg (fun b => Ending.returned (Value.bool b)) ?_, by first | (refine Below.trans ?_ (hB.mono (by simp)); (repeat (first | (with_reducible exact Below.refl _ _) | ((with_reducible first | refine bSetRow ?_ ?_ _ | refine Below.alloc ?_ ?_ _ | refine Below.setCell ?_ ?_ _); rotate_left 1; (focus (first | (simp; done) | (simp; omega)))) | (with_reducible refine Below.drew ?_)))) | (repeat (first | (with_reducible exact Below.refl _ _) | ((with_reducible first | refine bSetRow ?_ ?_ _ | refine Below.alloc ?_ ?_ _ | refine Below.setCell ?_ ?_ _); rotate_left 1; (focus (first | (simp; done) | (simp; omega)))) | (with_reducible refine Below.drew ?_)))⟩
  all_goals first | rfl | (clear HBARE; simp_all; done) | grind
set_option maxRecDepth 100000 in
set_option maxHeartbeats 4000000 in
theorem right_13 (r mk : List UInt8) (a1 a2 a3 a4 a5 a6 : Option Addr) (n1 n2 n3 n4 n5 n6 c1 c2 c3 c4 c5 c6 : Nat) (life age : Int) (psk : Bool) (retry : Bool) (w : World) (b1 : n1 ≤ 100000000) (b2 : n2 ≤ 100000000) (b3 : n3 ≤ 100000000) (b4 : n4 ≤ 100000000) (b5 : n5 ≤ 100000000) (b6 : n6 ≤ 100000000) :
    Calls Try.prog 22 #[.agg (mD 13 r mk [.slice a1 n1 c1, .slice a2 n2 c2, .slice a3 n3 c3, .slice a4 n4 c4, .slice a5 n5 c5, .slice a6 n6 c6, .int .i64 life, .int .i64 age, .bool psk, .bool retry])] w fun e w' => e = .returned (.bool (bareB (fx r) (fx mk) (n1 + n2 + n3 + n4 + n5 + n6) life age psk retry)) ∧ Below w.heap.size w w' := by
  have hbare : ∀ W : World, Calls Try.prog 37 #[.agg (mD 13 r mk [.slice a1 n1 c1, .slice a2 n2 c2, .slice a3 n3 c3, .slice a4 n4 c4, .slice a5 n5 c5, .slice a6 n6 c6, .int .i64 life, .int .i64 age, .bool psk, .bool retry])] W fun e w' => e = .returned (.bool (bareB (fx r) (fx mk) (n1 + n2 + n3 + n4 + n5 + n6) life age psk retry)) ∧ Below W.heap.size W w' := fun W => bareD _ _ _ _ _ _ _ _ _ _ _ _ _ _ _ _ _ _ _ _ _ _ _ _ _ W (by omega) (by omega) (by omega) (by omega) (by omega) (by omega)
  obtain ⟨bb, hbb⟩ : ∃ bb, bb = bareB (fx r) (fx mk) (n1 + n2 + n3 + n4 + n5 + n6) life age psk retry := ⟨_, rfl⟩
  rw [← hbb] at hbare ⊢
  have HBARE := Lib.hid hbare
  clear hbare hbb b1 b2 b3 b4 b5 b6
  go_enter Try.func22, Try.ntmps22
  go_wp2_with (first | (go_at_call 37; refine (HBARE.out _).mono ?_; rintro e w1 ⟨rfl, hB⟩) | (go_at_call 33; refine (within_any _ _ _ _).mono ?_; rintro e w1 ⟨rfl, rfl⟩) | (go_at_call 34; refine (wide_any _ _).mono ?_; rintro e w1 ⟨rfl, rfl⟩))
  all_goals go_ret
  all_goals refine ⟨congrArg (fun b => Ending.returned (Value.bool b)) ?_, by first | (refine Below.trans ?_ (hB.mono (by simp)); (repeat (first | (with_reducible exact Below.refl _ _) | ((with_reducible first | refine bSetRow ?_ ?_ _ | refine Below.alloc ?_ ?_ _ | refine Below.setCell ?_ ?_ _); rotate_left 1; (focus (first | (simp; done) | (simp; omega)))) | (with_reducible refine Below.drew ?_)))) | (repeat (first | (with_reducible exact Below.refl _ _) | ((with_reducible first | refine bSetRow ?_ ?_ _ | refine Below.alloc ?_ ?_ _ | refine Below.setCell ?_ ?_ _); rotate_left 1; (focus (first | (simp; done) | (simp; omega)))) | (with_reducible refine Below.drew ?_)))⟩
  all_goals first | rfl | (clear HBARE; simp_all; done) | grind
set_option maxRecDepth 100000 in
set_option maxHeartbeats 4000000 in
theorem right_15 (r mk : List UInt8) (a1 a2 a3 a4 a5 a6 : Option Addr) (n1 n2 n3 n4 n5 n6 c1 c2 c3 c4 c5 c6 : Nat) (life age : Int) (psk : Bool) (retry : Bool) (w : World) (b1 : n1 ≤ 100000000) (b2 : n2 ≤ 100000000) (b3 : n3 ≤ 100000000) (b4 : n4 ≤ 100000000) (b5 : n5 ≤ 100000000) (b6 : n6 ≤ 100000000) :
    Calls Try.prog 22 #[.agg (mD 15 r mk [.slice a1 n1 c1, .slice a2 n2 c2, .slice a3 n3 c3, .slice a4 n4 c4, .slice a5 n5 c5, .slice a6 n6 c6, .int .i64 life, .int .i64 age, .bool psk, .bool retry])] w fun e w' => e = .returned (.bool ((decide (1 ≤ (n5 : Int)) && decide ((n5 : Int) ≤ 100)) && bareB (fx r) (fx mk) (n1 + n2 + n3 + n4 + 0 + n6) life age psk retry)) ∧ Below w.heap.size w w' := by
  have hbare : ∀ W : World, Calls Try.prog 37 #[.agg (mD 15 r mk [.slice a1 n1 c1, .slice a2 n2 c2, .slice a3 n3 c3, .slice a4 n4 c4, .slice none 0 0, .slice a6 n6 c6, .int .i64 life, .int .i64 age, .bool psk, .bool retry])] W fun e w' => e = .returned (.bool (bareB (fx r) (fx mk) (n1 + n2 + n3 + n4 + 0 + n6) life age psk retry)) ∧ Below W.heap.size W w' := fun W => bareD _ _ _ _ _ _ _ _ _ _ _ _ _ _ _ _ _ _ _ _ _ _ _ _ _ W (by omega) (by omega) (by omega) (by omega) (by omega) (by omega)
  obtain ⟨bb, hbb⟩ : ∃ bb, bb = bareB (fx r) (fx mk) (n1 + n2 + n3 + n4 + 0 + n6) life age psk retry := ⟨_, rfl⟩
  rw [← hbb] at hbare ⊢
  have HBARE := Lib.hid hbare
  clear hbare hbb b1 b2 b3 b4 b5 b6
  go_enter Try.func22, Try.ntmps22
  go_wp2_with (first | (go_at_call 37; refine (HBARE.out _).mono ?_; rintro e w1 ⟨rfl, hB⟩) | (go_at_call 33; refine (within_any _ _ _ _).mono ?_; rintro e w1 ⟨rfl, rfl⟩) | (go_at_call 34; refine (wide_any _ _).mono ?_; rintro e w1 ⟨rfl, rfl⟩))
  all_goals go_ret
  all_goals refine ⟨congrArg (fun b => Ending.returned (Value.bool b)) ?_, by first | (refine Below.trans ?_ (hB.mono (by simp)); (repeat (first | (with_reducible exact Below.refl _ _) | ((with_reducible first | refine bSetRow ?_ ?_ _ | refine Below.alloc ?_ ?_ _ | refine Below.setCell ?_ ?_ _); rotate_left 1; (focus (first | (simp; done) | (simp; omega)))) | (with_reducible refine Below.drew ?_)))) | (repeat (first | (with_reducible exact Below.refl _ _) | ((with_reducible first | refine bSetRow ?_ ?_ _ | refine Below.alloc ?_ ?_ _ | refine Below.setCell ?_ ?_ _); rotate_left 1; (focus (first | (simp; done) | (simp; omega)))) | (with_reducible refine Below.drew ?_)))⟩
  all_goals first | rfl | (clear HBARE; simp_all; done) | grind
set_option maxRecDepth 100000 in
set_option maxHeartbeats 4000000 in
theorem right_4 (r mk : List UInt8) (a1 a2 a3 a4 a5 a6 : Option Addr) (n1 n2 n3 n4 n5 n6 c1 c2 c3 c4 c5 c6 : Nat) (life age : Int) (psk : Bool) (retry : Bool) (w : World) (b1 : n1 ≤ 100000000) (b2 : n2 ≤ 100000000) (b3 : n3 ≤ 100000000) (b4 : n4 ≤ 100000000) (b5 : n5 ≤ 100000000) (b6 : n6 ≤ 100000000) :
    Calls Try.prog 22 #[.agg (mD 4 r mk [.slice a1 n1 c1, .slice a2 n2 c2, .slice a3 n3 c3, .slice a4 n4 c4, .slice a5 n5 c5, .slice a6 n6 c6, .int .i64 life, .int .i64 age, .bool psk, .bool retry])] w fun e w' => e = .returned (.bool ((wideP life && wideP age && (decide (1 ≤ (n4 : Int)) && decide ((n4 : Int) ≤ 8)) && (decide (1 ≤ (n3 : Int)) && decide ((n3 : Int) ≤ 1000))) && bareB (fx r) (fx mk) (n1 + n2 + 0 + 0 + n5 + n6) 0 0 psk retry)) ∧ Below w.heap.size w w' := by
  have hbare : ∀ W : World, Calls Try.prog 37 #[.agg (mD 4 r mk [.slice a1 n1 c1, .slice a2 n2 c2, .slice none 0 0, .slice none 0 0, .slice a5 n5 c5, .slice a6 n6 c6, .int .i64 0, .int .i64 0, .bool psk, .bool retry])] W fun e w' => e = .returned (.bool (bareB (fx r) (fx mk) (n1 + n2 + 0 + 0 + n5 + n6) 0 0 psk retry)) ∧ Below W.heap.size W w' := fun W => bareD _ _ _ _ _ _ _ _ _ _ _ _ _ _ _ _ _ _ _ _ _ _ _ _ _ W (by omega) (by omega) (by omega) (by omega) (by omega) (by omega)
  obtain ⟨bb, hbb⟩ : ∃ bb, bb = bareB (fx r) (fx mk) (n1 + n2 + 0 + 0 + n5 + n6) 0 0 psk retry := ⟨_, rfl⟩
  rw [← hbb] at hbare ⊢
  have HBARE := Lib.hid hbare
  clear hbare hbb b1 b2 b3 b4 b5 b6
  go_enter Try.func22, Try.ntmps22
  go_wp2_with (first | (go_at_call 37; refine (HBARE.out _).mono ?_; rintro e w1 ⟨rfl, hB⟩) | (go_at_call 33; refine (within_any _ _ _ _).mono ?_; rintro e w1 ⟨rfl, rfl⟩) | (go_at_call 34; refine (wide_any _ _).mono ?_; rintro e w1 ⟨rfl, rfl⟩))
  all_goals go_ret
  all_goals refine ⟨congrArg (fun b => Ending.returned (Value.bool b)) ?_, by first | (refine Below.trans ?_ (hB.mono (by simp)); (repeat (first | (with_reducible exact Below.refl _ _) | ((with_reducible first | refine bSetRow ?_ ?_ _ | refine Below.alloc ?_ ?_ _ | refine Below.setCell ?_ ?_ _); rotate_left 1; (focus (first | (simp; done) | (simp; omega)))) | (with_reducible refine Below.drew ?_)))) | (repeat (first | (with_reducible exact Below.refl _ _) | ((with_reducible first | refine bSetRow ?_ ?_ _ | refine Below.alloc ?_ ?_ _ | refine Below.setCell ?_ ?_ _); rotate_left 1; (focus (first | (simp; done) | (simp; omega)))) | (with_reducible refine Below.drew ?_)))⟩
  all_goals first | rfl | (clear HBARE; simp_all; done) | grind
set_option maxRecDepth 100000 in
set_option maxHeartbeats 4000000 in
theorem right_1t (r mk : List UInt8) (a1 a2 a3 a4 a5 a6 : Option Addr) (n1 n2 n3 n4 n5 n6 c1 c2 c3 c4 c5 c6 : Nat) (life age : Int) (retry : Bool) (w : World) (b1 : n1 ≤ 100000000) (b2 : n2 ≤ 100000000) (b3 : n3 ≤ 100000000) (b4 : n4 ≤ 100000000) (b5 : n5 ≤ 100000000) (b6 : n6 ≤ 100000000) :
    Calls Try.prog 22 #[.agg (mD 1 r mk [.slice a1 n1 c1, .slice a2 n2 c2, .slice a3 n3 c3, .slice a4 n4 c4, .slice a5 n5 c5, .slice a6 n6 c6, .int .i64 life, .int .i64 age, .bool true, .bool retry])] w fun e w' => e = .returned (.bool ((decide ((n1 : Int) ≤ 32) && (decide ((n2 : Int) = 0) || decide ((n2 : Int) = 65)) && ((decide (1 ≤ (n3 : Int)) && decide ((n3 : Int) ≤ 1000)) && wideP age)) && bareB (fx zero32) (fx zero32) (0 + 0 + 0 + n4 + n5 + n6) life 0 false retry)) ∧ Below w.heap.size w w' := by
  have hbare : ∀ W : World, Calls Try.prog 37 #[.agg (mD 1 zero32 zero32 [.slice none 0 0, .slice none 0 0, .slice none 0 0, .slice a4 n4 c4, .slice a5 n5 c5, .slice a6 n6 c6, .int .i64 life, .int .i64 0, .bool false, .bool retry])] W fun e w' => e = .returned (.bool (bareB (fx zero32) (fx zero32) (0 + 0 + 0 + n4 + n5 + n6) life 0 false retry)) ∧ Below W.heap.size W w' := fun W => bareD _ _ _ _ _ _ _ _ _ _ _ _ _ _ _ _ _ _ _ _ _ _ _ _ _ W (by omega) (by omega) (by omega) (by omega) (by omega) (by omega)
  obtain ⟨bb, hbb⟩ : ∃ bb, bb = bareB (fx zero32) (fx zero32) (0 + 0 + 0 + n4 + n5 + n6) life 0 false retry := ⟨_, rfl⟩
  rw [← hbb] at hbare ⊢
  have HBARE := Lib.hid hbare
  clear hbare hbb b1 b2 b3 b4 b5 b6
  go_enter Try.func22, Try.ntmps22
  go_wp2_with (first | (go_at_call 37; refine (HBARE.out _).mono ?_; rintro e w1 ⟨rfl, hB⟩) | (go_at_call 33; refine (within_any _ _ _ _).mono ?_; rintro e w1 ⟨rfl, rfl⟩) | (go_at_call 34; refine (wide_any _ _).mono ?_; rintro e w1 ⟨rfl, rfl⟩))
  all_goals go_ret
  all_goals refine ⟨congrArg (fun b => Ending.returned (Value.bool b)) ?_, by first | (refine Below.trans ?_ (hB.mono (by simp)); (repeat (first | (with_reducible exact Below.refl _ _) | ((with_reducible first | refine bSetRow ?_ ?_ _ | refine Below.alloc ?_ ?_ _ | refine Below.setCell ?_ ?_ _); rotate_left 1; (focus (first | (simp; done) | (simp; omega)))) | (with_reducible refine Below.drew ?_)))) | (repeat (first | (with_reducible exact Below.refl _ _) | ((with_reducible first | refine bSetRow ?_ ?_ _ | refine Below.alloc ?_ ?_ _ | refine Below.setCell ?_ ?_ _); rotate_left 1; (focus (first | (simp; done) | (simp; omega)))) | (with_reducible refine Below.drew ?_)))⟩
  all_goals first | rfl | (clear HBARE; simp_all; done) | grind
set_option maxRecDepth 100000 in
set_option maxHeartbeats 4000000 in
theorem right_1f (r mk : List UInt8) (a1 a2 a3 a4 a5 a6 : Option Addr) (n1 n2 n3 n4 n5 n6 c1 c2 c3 c4 c5 c6 : Nat) (life age : Int) (retry : Bool) (w : World) (b1 : n1 ≤ 100000000) (b2 : n2 ≤ 100000000) (b3 : n3 ≤ 100000000) (b4 : n4 ≤ 100000000) (b5 : n5 ≤ 100000000) (b6 : n6 ≤ 100000000) :
    Calls Try.prog 22 #[.agg (mD 1 r mk [.slice a1 n1 c1, .slice a2 n2 c2, .slice a3 n3 c3, .slice a4 n4 c4, .slice a5 n5 c5, .slice a6 n6 c6, .int .i64 life, .int .i64 age, .bool false, .bool retry])] w fun e w' => e = .returned (.bool ((decide ((n1 : Int) ≤ 32) && (decide ((n2 : Int) = 0) || decide ((n2 : Int) = 65))) && bareB (fx zero32) (fx mk) (0 + 0 + n3 + n4 + n5 + n6) life age false retry)) ∧ Below w.heap.size w w' := by
  have hbare : ∀ W : World, Calls Try.prog 37 #[.agg (mD 1 zero32 mk [.slice none 0 0, .slice none 0 0, .slice a3 n3 c3, .slice a4 n4 c4, .slice a5 n5 c5, .slice a6 n6 c6, .int .i64 life, .int .i64 age, .bool false, .bool retry])] W fun e w' => e = .returned (.bool (bareB (fx zero32) (fx mk) (0 + 0 + n3 + n4 + n5 + n6) life age false retry)) ∧ Below W.heap.size W w' := fun W => bareD _ _ _ _ _ _ _ _ _ _ _ _ _ _ _ _ _ _ _ _ _ _ _ _ _ W (by omega) (by omega) (by omega) (by omega) (by omega) (by omega)
  obtain ⟨bb, hbb⟩ : ∃ bb, bb = bareB (fx zero32) (fx mk) (0 + 0 + n3 + n4 + n5 + n6) life age false retry := ⟨_, rfl⟩
  rw [← hbb] at hbare ⊢
  have HBARE := Lib.hid hbare
  clear hbare hbb b1 b2 b3 b4 b5 b6
  go_enter Try.func22, Try.ntmps22
  go_wp2_with (first | (go_at_call 37; refine (HBARE.out _).mono ?_; rintro e w1 ⟨rfl, hB⟩) | (go_at_call 33; refine (within_any _ _ _ _).mono ?_; rintro e w1 ⟨rfl, rfl⟩) | (go_at_call 34; refine (wide_any _ _).mono ?_; rintro e w1 ⟨rfl, rfl⟩))
  all_goals go_ret
  all_goals refine ⟨congrArg (fun b => Ending.returned (Value.bool b)) ?_, by first | (refine Below.trans ?_ (hB.mono (by simp)); (repeat (first | (with_reducible exact Below.refl _ _) | ((with_reducible first | refine bSetRow ?_ ?_ _ | refine Below.alloc ?_ ?_ _ | refine Below.setCell ?_ ?_ _); rotate_left 1; (focus (first | (simp; done) | (simp; omega)))) | (with_reducible refine Below.drew ?_)))) | (repeat (first | (with_reducible exact Below.refl _ _) | ((with_reducible first | refine bSetRow ?_ ?_ _ | refine Below.alloc ?_ ?_ _ | refine Below.setCell ?_ ?_ _); rotate_left 1; (focus (first | (simp; done) | (simp; omega)))) | (with_reducible refine Below.drew ?_)))⟩
  all_goals first | rfl | (clear HBARE; simp_all; done) | grind
set_option maxRecDepth 100000 in
set_option maxHeartbeats 4000000 in
theorem right_2t (r mk : List UInt8) (a1 a2 a3 a4 a5 a6 : Option Addr) (n1 n2 n3 n4 n5 n6 c1 c2 c3 c4 c5 c6 : Nat) (life age : Int) (psk : Bool) (w : World) (b1 : n1 ≤ 100000000) (b2 : n2 ≤ 100000000) (b3 : n3 ≤ 100000000) (b4 : n4 ≤ 100000000) (b5 : n5 ≤ 100000000) (b6 : n6 ≤ 100000000) :
    Calls Try.prog 22 #[.agg (mD 2 r mk [.slice a1 n1 c1, .slice a2 n2 c2, .slice a3 n3 c3, .slice a4 n4 c4, .slice a5 n5 c5, .slice a6 n6 c6, .int .i64 life, .int .i64 age, .bool psk, .bool true])] w fun e w' => e = .returned (.bool (decide ((n1 : Int) ≤ 32) && bareB (fx r) (fx mk) (0 + n2 + n3 + n4 + n5 + n6) life age psk false)) ∧ Below w.heap.size w w' := by
  have hbare : ∀ W : World, Calls Try.prog 37 #[.agg (mD 2 r mk [.slice none 0 0, .slice a2 n2 c2, .slice a3 n3 c3, .slice a4 n4 c4, .slice a5 n5 c5, .slice a6 n6 c6, .int .i64 life, .int .i64 age, .bool psk, .bool false])] W fun e w' => e = .returned (.bool (bareB (fx r) (fx mk) (0 + n2 + n3 + n4 + n5 + n6) life age psk false)) ∧ Below W.heap.size W w' := fun W => bareD _ _ _ _ _ _ _ _ _ _ _ _ _ _ _ _ _ _ _ _ _ _ _ _ _ W (by omega) (by omega) (by omega) (by omega) (by omega) (by omega)
  obtain ⟨bb, hbb⟩ : ∃ bb, bb = bareB (fx r) (fx mk) (0 + n2 + n3 + n4 + n5 + n6) life age psk false := ⟨_, rfl⟩
  rw [← hbb] at hbare ⊢
  have HBARE := Lib.hid hbare
  clear hbare hbb b1 b2 b3 b4 b5 b6
  go_enter Try.func22, Try.ntmps22
  go_wp2_with (first | (go_at_call 37; refine (HBARE.out _).mono ?_; rintro e w1 ⟨rfl, hB⟩) | (go_at_call 33; refine (within_any _ _ _ _).mono ?_; rintro e w1 ⟨rfl, rfl⟩) | (go_at_call 34; refine (wide_any _ _).mono ?_; rintro e w1 ⟨rfl, rfl⟩))
  all_goals go_ret
  all_goals refine ⟨congrArg (fun b => Ending.returned (Value.bool b)) ?_, by first | (refine Below.trans ?_ (hB.mono (by simp)); (repeat (first | (with_reducible exact Below.refl _ _) | ((with_reducible first | refine bSetRow ?_ ?_ _ | refine Below.alloc ?_ ?_ _ | refine Below.setCell ?_ ?_ _); rotate_left 1; (focus (first | (simp; done) | (simp; omega)))) | (with_reducible refine Below.drew ?_)))) | (repeat (first | (with_reducible exact Below.refl _ _) | ((with_reducible first | refine bSetRow ?_ ?_ _ | refine Below.alloc ?_ ?_ _ | refine Below.setCell ?_ ?_ _); rotate_left 1; (focus (first | (simp; done) | (simp; omega)))) | (with_reducible refine Below.drew ?_)))⟩
  all_goals first | rfl | (clear HBARE; simp_all; done) | grind
end Go.Proofs.Ytnenoecmmelehaa
