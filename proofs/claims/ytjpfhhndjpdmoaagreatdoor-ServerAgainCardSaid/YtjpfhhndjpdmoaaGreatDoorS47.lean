/- Part of the proof: AgE4,AgE5,AgE6. No conditions of its own. -/
import Derived.Test.YtjpfhhndjpdmoaaGreatDoorS41
namespace Go.Proofs.YtjpfhhndjpdmoaaGreatDoor
set_option maxRecDepth 100000
theorem ag_ext4 : agUp 16 (agExt 4) = true:=by kernel_rfl
theorem ag_end4 (t:TypeId) : agUp 16 (agEnd t 4) = true:=by kernel_rfl
end Go.Proofs.YtjpfhhndjpdmoaaGreatDoor

namespace Go.Proofs.YtjpfhhndjpdmoaaGreatDoor
set_option maxRecDepth 100000
theorem ag_ext5 : agUp 16 (agExt 5) = true:=by kernel_rfl
theorem ag_end5 (t:TypeId) : agUp 16 (agEnd t 5) = true:=by kernel_rfl
end Go.Proofs.YtjpfhhndjpdmoaaGreatDoor

namespace Go.Proofs.YtjpfhhndjpdmoaaGreatDoor
set_option maxRecDepth 100000
theorem ag_ext6 : agUp 16 (agExt 6) = true:=by kernel_rfl
theorem ag_end6 (t:TypeId) : agUp 16 (agEnd t 6) = true:=by kernel_rfl
end Go.Proofs.YtjpfhhndjpdmoaaGreatDoor
