/- Part of the proof: AgR3,AgR4. No conditions of its own. -/
import Derived.Test.YtjpfhhndjpdmoaaGreatDoorS41
namespace Go.Proofs.YtjpfhhndjpdmoaaGreatDoor
set_option maxRecDepth 100000
theorem ag_pre3 (t:TypeId) : agPre t 3 = true:=by kernel_rfl
theorem ag_preb3 : agPre1 3 = true:=by kernel_rfl
theorem ag_rnd3 (t:TypeId) : agUp 15 (agRnd t 3) = true:=by kernel_rfl
end Go.Proofs.YtjpfhhndjpdmoaaGreatDoor

namespace Go.Proofs.YtjpfhhndjpdmoaaGreatDoor
set_option maxRecDepth 100000
theorem ag_pre4 (t:TypeId) : agPre t 4 = true:=by kernel_rfl
theorem ag_preb4 : agPre1 4 = true:=by kernel_rfl
theorem ag_rnd4 (t:TypeId) : agUp 15 (agRnd t 4) = true:=by kernel_rfl
end Go.Proofs.YtjpfhhndjpdmoaaGreatDoor
