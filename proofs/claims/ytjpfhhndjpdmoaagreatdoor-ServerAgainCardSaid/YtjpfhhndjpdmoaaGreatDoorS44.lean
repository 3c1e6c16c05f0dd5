/- Part of the proof: AgR5,AgR6. No conditions of its own. -/
import Derived.Test.YtjpfhhndjpdmoaaGreatDoorS41
namespace Go.Proofs.YtjpfhhndjpdmoaaGreatDoor
set_option maxRecDepth 100000
theorem ag_pre5 (t:TypeId) : agPre t 5 = true:=by kernel_rfl
theorem ag_preb5 : agPre1 5 = true:=by kernel_rfl
theorem ag_rnd5 (t:TypeId) : agUp 15 (agRnd t 5) = true:=by kernel_rfl
end Go.Proofs.YtjpfhhndjpdmoaaGreatDoor

namespace Go.Proofs.YtjpfhhndjpdmoaaGreatDoor
set_option maxRecDepth 100000
theorem ag_pre6 (t:TypeId) : agPre t 6 = true:=by kernel_rfl
theorem ag_preb6 : agPre1 6 = true:=by kernel_rfl
theorem ag_rnd6 (t:TypeId) : agUp 15 (agRnd t 6) = true:=by kernel_rfl
end Go.Proofs.YtjpfhhndjpdmoaaGreatDoor
