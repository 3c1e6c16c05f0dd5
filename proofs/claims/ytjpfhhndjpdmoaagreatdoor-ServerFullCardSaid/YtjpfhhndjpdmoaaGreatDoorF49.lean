/- Part of the proof: ServerFullF,LaidS,LaidE. No conditions of its own. -/
import Derived.JoinedOf
import Derived.Test.YtjpfhhndjpdmoaaGreatDoorF48
namespace Go.Proofs.YtjpfhhndjpdmoaaGreatDoor.serverFullDone
open Go.ChangeShapes Go.WideShapes Go.RowKit
set_option maxHeartbeats 4000000 in
theorem facts : joinedFacts Tryz.prog 9 Tryz.f9 Rows.serverFullSpec Rows.serverFullRow = true:=by
 unfold joinedFacts
 simp only [Bool.and_eq_true]
 and_intros
 all_goals as_aux_lemma=>kernel_rfl
end Go.Proofs.YtjpfhhndjpdmoaaGreatDoor.serverFullDone

namespace Go.Proofs.YtjpfhhndjpdmoaaGreatDoor
open Go.RowKit
set_option linter.unusedVariables false

theorem sines_nums : (Rows.laid_tollgate_old_sines : DataW Unit) = .agg ((sinesS.map fun x=>(x.toNat : Int)).map fun z=>.lit (.int .u32 z)):=by kernel_rfl
theorem turns_nums : (Rows.laid_tollgate_old_turns : DataW Unit) = .agg ((turnsN.map fun (q:Nat)=>(q:Int)).map fun z=>.lit (.int .i64 z)):=by kernel_rfl
theorem old_laid {W:World} {l:List (String × DataW Unit)} (h:laidMetH Tryz.prog l W)
  (m1:("tollgate/old.sines",Rows.laid_tollgate_old_sines) ∈ l) (m2:("tollgate/old.turns",Rows.laid_tollgate_old_turns) ∈ l) : OldW W:=by
 refine ⟨?_,?_⟩
 ·obtain ⟨t,ht⟩:=laid_nums h m1 (by kernel_rfl) sines_nums (show _ = some 4 by kernel_rfl) (show _ = some 276 by kernel_rfl) Tryz.underlying276 Tryz.underlying210 (by kernel_rfl) (by kernel_rfl) (by decide)
  exact ⟨t,by rw [List.map_map] at ht; exact ht⟩
 ·obtain ⟨t,ht⟩:=laid_nums h m2 (by kernel_rfl) turns_nums (show _ = some 5 by kernel_rfl) (show _ = some 278 by kernel_rfl) Tryz.underlying278 Tryz.underlying3 (by kernel_rfl) (by kernel_rfl) (by decide)
  exact ⟨t,by rw [List.map_map] at ht; exact ht⟩
end Go.Proofs.YtjpfhhndjpdmoaaGreatDoor

namespace Go.Proofs.YtjpfhhndjpdmoaaGreatDoor
open Go.RowKit
set_option linter.unusedVariables false

theorem err_name : ((List.range Tryz.prog.types.size).all fun t=>!Tryz.prog.rowNamed t [101,114,114,111,114] || t == 108) = true:=by kernel_rfl
theorem err_laid {W:World} {l:List (String × DataW Unit)} (h:laidMetH Tryz.prog l W) (m:("errors.errorType",Rows.laid_errors_errorType) ∈ l) : ErrW W:=by
 have h1:=(laidMetH_iff.1 h).2 _ (List.mem_filter.2 ⟨m,by kernel_rfl⟩)
 have hf : (Rows.laid_errors_errorType : DataW Unit).funcsIn? = none:=by kernel_rfl
 simp only [hf] at h1
 obtain ⟨name,u,ty,e1,e2,e3,e4,e5⟩:=h1
 have n1 : (Rows.laid_errors_errorType : DataW Unit).handleName? = some [101,114,114,111,114]:=by kernel_rfl
 rw [n1] at e1; cases e1
 have n2 : (Tryz.prog.cutTypes.find? (·.1 == "internal/reflectlite.rtype")).map (·.2) = some 228:=by kernel_rfl
 rw [n2] at e2; cases e2
 have h3:=List.all_eq_true.1 err_name ty (List.mem_range.2 e3)
 rw [e4] at h3
 obtain rfl : ty = 108:=by simpa using h3
 have hg : Tryz.prog.globalNamed "errors.errorType" = some 0:=by kernel_rfl
 have hs : Tryz.prog.globals.size = 13:=by kernel_rfl
 simp only [World.var?,hg,Option.bind_some] at e5
 unfold ErrW
 unfold typeHandle at e5
 rw [hs] at e5
 split at e5
 ·rename_i cs t f hh
  simp only [Option.some.injEq] at e5
  subst e5
  simp [World.cell?,hh]
 ·cases e5
end Go.Proofs.YtjpfhhndjpdmoaaGreatDoor
