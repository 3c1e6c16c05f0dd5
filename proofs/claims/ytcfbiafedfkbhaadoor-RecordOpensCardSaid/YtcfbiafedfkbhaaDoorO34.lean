/- Part of the proof: CutAny. No conditions of its own. -/
import Derived.ArgAppend
import Derived.Below
import Derived.BigQuiet
import Derived.BigRegion
import Derived.ChangeOld
import Derived.Deep.CutBlock
import Derived.Deep.DeepCutAuto
import Derived.Deep.Draws
import Derived.Deep.LoopGhost
import Derived.Deep.Quiet
import Derived.Deep.QuietTactic
import Derived.Deep.RegionHeld3
import Derived.Deep.RegionLaw
import Derived.Laws.AppendOwnNone
import Derived.Laws.Bits64
import Derived.Laws.BitsAllLaws
import Derived.Laws.BytesArg
import Derived.Laws.Concat
import Derived.Laws.CopyOwn
import Derived.Laws.MakeOwn
import Derived.Lib.AppendStr
import Derived.Lib.AppendZerosOnto
import Derived.Lib.Hide
import Derived.Lib.SlBytesConst
import Derived.LoopIn
import Derived.LoopNIn
import Derived.Maps.AppendAt
import Derived.OpenShut
import Derived.OrdersIn
import Derived.OwnWalkIn
import Derived.ProofKit
import Derived.RangeFuncBound
import Derived.RangeFuncBox
import Derived.RangeFuncCalls
import Derived.RangeFuncLeaves
import Derived.RangeFuncNested
import Derived.Shelf.Abstract
import Derived.ShutString
import Derived.StillTail
import Derived.TacticsIn
import Derived.TacticsInMore
import Derived.Test.YtcfbiafedfkbhaaDoorChecked
import Derived.Test.YtcfbiafedfkbhaaDoorProg
import Derived.WalkKit
import Derived.WalkSpells
import Derived.Test.YtcfbiafedfkbhaaDoorO33
namespace Go.Proofs.YtcfbiafedfkbhaaDoor
open Go.RowKit
set_option linter.unusedVariables false
set_option linter.unusedSimpArgs false

set_option maxRecDepth 100000 in
set_option maxHeartbeats 4000000 in
theorem alone_any (w : World) (a : Option Addr) (c : Nat) (l : List UInt8) (hS : SlB w (.slice a l.length c) l) (hl : l.length ≤ 1000000) :
    Calls Tryd.prog 34 #[.slice a l.length c] w fun e w' => e = .returned (.int .i64 (aloE l : Int)) ∧ Below w.heap.size w w' := by
  have HS := Lib.hid hS
  have HL := Lib.hid hl
  clear hS hl
  go_enter Tryd.func34, Tryd.ntmps34
  go_wp2_with fail
  refine (split_any w a c l HS.out HL.out).mono ?_
  rintro e w1 ⟨v1, v2, rfl, h1, h2, hB⟩
  obtain ⟨a1, c1, rfl, _⟩ := id h1
  obtain ⟨a2, c2, rfl, _⟩ := id h2
  obtain ⟨n2, hn2⟩ : ∃ n, n = (cutZ l).length := ⟨_, rfl⟩
  rw [← hn2]
  have HB := Lib.hid hB
  have HN := Lib.hid hn2
  by_cases h0 : cutE l = 0
  · have H0 := Lib.hid h0
    rw [h0]
    by_cases hz : 0 < n2
    · have z1 : (0 : Int) < (n2 : Int) := by omega
      have hE : aloE l = 2 := if_pos ⟨h0, fun e => by rw [e] at hn2; simp at hn2; omega⟩
      have HE := Lib.hid hE
      clear h1 h2 hB hn2 h0 hE hz
      go_wp2_with fail
      go_ret
      exact ⟨by rw [HE.out]; rfl, HB.out⟩
    · have z1 : ¬ (0 : Int) < (n2 : Int) := by omega
      have hE : aloE l = 0 := by
        unfold aloE
        rw [if_neg (fun h => h.2 (List.eq_nil_of_length_eq_zero (by omega)))]
        exact h0
      have HE := Lib.hid hE
      clear h1 h2 hB hn2 h0 hE hz
      go_wp2_with fail
      go_ret
      exact ⟨by rw [HE.out]; rfl, HB.out⟩
  · have hE : aloE l = cutE l := by unfold aloE; rw [if_neg (fun h => h0 h.1)]
    obtain ⟨k, hk⟩ : ∃ k, k = cutE l := ⟨_, rfl⟩
    rw [← hk] at h0 hE ⊢
    have z1 : ¬ (k : Int) = 0 := by omega
    have HE := Lib.hid hE
    clear h1 h2 hB hn2 h0 hE hk
    go_wp2_with fail
    go_ret
    exact ⟨by rw [HE.out]; rfl, HB.out⟩
def BodySt (w : World) (l : List UInt8) (e : Ending) (w' : World) : Prop :=
  ∃ v, e = .returned (.tuple #[.int .i64 (bodK l : Int), v, .int .i64 (bodE l : Int)]) ∧ SlB w' v (bodB l) ∧ Below w.heap.size w w'
theorem BodySt.no {w w' : World} {l : List UInt8} {k : Nat} (hk : bodE l = k) (h0 : k ≠ 0) (hb : Below w.heap.size w w') : BodySt w l (.returned (.tuple #[.int .i64 0, .slice none 0 0, .int .i64 (k : Int)])) w' := by
  have h1 : bodE l ≠ 0 := by rw [hk]; exact h0
  refine ⟨.slice none 0 0, ?_, ?_, hb⟩
  · rw [hk, bodK, if_neg h1]; rfl
  · rw [bodB, if_neg h1]; exact SlB.nilW _
theorem BodySt.ok {w w' : World} {l : List UInt8} {v : Value} {x : UInt8} (h0 : bodE l = 0) (hx : x = gb l 0) (h1 : SlB w' v (l.drop 5)) (hb : Below w.heap.size w w') : BodySt w l (.returned (.tuple #[.int .i64 (x.toNat : Int), v, .int .i64 0])) w' := by
  subst hx
  exact ⟨v, by rw [h0, bodK, if_pos h0]; rfl, by rw [bodB, if_pos h0]; exact h1, hb⟩
end Go.Proofs.YtcfbiafedfkbhaaDoor
