/- Part of the proof: ServerAgainF,LaidS. No conditions of its own. -/
import Derived.JoinedOf
import Derived.Test.YtjpfhhndjpdmoaaGreatDoorS49
namespace Go.Proofs.YtjpfhhndjpdmoaaGreatDoor.serverAgainDone
open Go.ChangeShapes Go.WideShapes Go.RowKit
set_option maxHeartbeats 4000000 in
theorem facts : joinedFacts Tryz.prog 7 Tryz.f7 Rows.serverAgainSpec Rows.serverAgainRow = true:=by
 unfold joinedFacts
 simp only [Bool.and_eq_true]
 and_intros
 all_goals as_aux_lemma=>kernel_rfl
end Go.Proofs.YtjpfhhndjpdmoaaGreatDoor.serverAgainDone

namespace Go.Proofs.YtjpfhhndjpdmoaaGreatDoor
open Go.RowKit
set_option linter.unusedVariables false

theorem sines_nums : (Rows.laid_tollgate_old_sines : DataW Unit) = .agg ((sinesS.map fun x=>(x.toNat : Int)).map fun z=>.lit (.int .u32 z)):=by kernel_rfl
theorem turns_nums : (Rows.laid_tollgate_old_turns : DataW Unit) = .agg ((turnsN.map fun (q:Nat)=>(q:Int)).map fun z=>.lit (.int .i64 z)):=by kernel_rfl
theorem old_laid {W:World} {l:List (String × DataW Unit)} (h:laidMetH Tryz.prog l W)
  (m1:("tollgate/old.sines",Rows.laid_tollgate_old_sines) ∈ l) (m2:("tollgate/old.turns",Rows.laid_tollgate_old_turns) ∈ l) : OldW W:=by
 refine ⟨?_,?_⟩
 ·obtain ⟨t,ht⟩:=laid_nums h m1 (by kernel_rfl) sines_nums (show _ = some 4 by kernel_rfl) (show _ = some 276 by kernel_rfl) Tryz.underlying276 Tryz.underlying210 (by kernel_rfl) (by kernel_rfl) (by decide)
  exact ⟨t,by rw [List.map_map] at ht; exact ht⟩
 ·obtain ⟨t,ht⟩:=laid_nums h m2 (by kernel_rfl) turns_nums (show _ = some 5 by kernel_rfl) (show _ = some 278 by kernel_rfl) Tryz.underlying278 Tryz.underlying3 (by kernel_rfl) (by kernel_rfl) (by decide)
  exact ⟨t,by rw [List.map_map] at ht; exact ht⟩
end Go.Proofs.YtjpfhhndjpdmoaaGreatDoor
