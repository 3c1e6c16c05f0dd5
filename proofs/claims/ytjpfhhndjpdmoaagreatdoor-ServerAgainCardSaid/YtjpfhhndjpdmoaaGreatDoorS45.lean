/- Part of the proof: AgR7,AgR8. No conditions of its own. -/
import Derived.Test.YtjpfhhndjpdmoaaGreatDoorS41
namespace Go.Proofs.YtjpfhhndjpdmoaaGreatDoor
set_option maxRecDepth 100000
theorem ag_pre7 (t:TypeId) : agPre t 7 = true:=by kernel_rfl
theorem ag_preb7 : agPre1 7 = true:=by kernel_rfl
theorem ag_rnd7 (t:TypeId) : agUp 15 (agRnd t 7) = true:=by kernel_rfl
end Go.Proofs.YtjpfhhndjpdmoaaGreatDoor

namespace Go.Proofs.YtjpfhhndjpdmoaaGreatDoor
set_option maxRecDepth 100000
theorem ag_pre8 (t:TypeId) : agPre t 8 = true:=by kernel_rfl
theorem ag_preb8 : agPre1 8 = true:=by kernel_rfl
theorem ag_rnd8 (t:TypeId) : agUp 15 (agRnd t 8) = true:=by kernel_rfl
end Go.Proofs.YtjpfhhndjpdmoaaGreatDoor
