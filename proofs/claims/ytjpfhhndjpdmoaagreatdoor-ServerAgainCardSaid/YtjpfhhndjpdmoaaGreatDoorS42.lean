/- Part of the proof: AgR1,AgR2. No conditions of its own. -/
import Derived.Test.YtjpfhhndjpdmoaaGreatDoorS41
namespace Go.Proofs.YtjpfhhndjpdmoaaGreatDoor
set_option maxRecDepth 100000
theorem ag_pre1 (t:TypeId) : agPre t 1 = true:=by kernel_rfl
theorem ag_preb1 : agPre1 1 = true:=by kernel_rfl
theorem ag_rnd1 (t:TypeId) : agUp 15 (agRnd t 1) = true:=by kernel_rfl
end Go.Proofs.YtjpfhhndjpdmoaaGreatDoor

namespace Go.Proofs.YtjpfhhndjpdmoaaGreatDoor
set_option maxRecDepth 100000
theorem ag_pre2 (t:TypeId) : agPre t 2 = true:=by kernel_rfl
theorem ag_preb2 : agPre1 2 = true:=by kernel_rfl
theorem ag_rnd2 (t:TypeId) : agUp 15 (agRnd t 2) = true:=by kernel_rfl
end Go.Proofs.YtjpfhhndjpdmoaaGreatDoor
