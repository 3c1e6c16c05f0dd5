/- Part of the proof: AgE1,AgE2,AgE3. No conditions of its own. -/
import Derived.Test.YtjpfhhndjpdmoaaGreatDoorS41
namespace Go.Proofs.YtjpfhhndjpdmoaaGreatDoor
set_option maxRecDepth 100000
theorem ag_ext1 : agUp 16 (agExt 1) = true:=by kernel_rfl
theorem ag_end1 (t:TypeId) : agUp 16 (agEnd t 1) = true:=by kernel_rfl
end Go.Proofs.YtjpfhhndjpdmoaaGreatDoor

namespace Go.Proofs.YtjpfhhndjpdmoaaGreatDoor
set_option maxRecDepth 100000
theorem ag_ext2 : agUp 16 (agExt 2) = true:=by kernel_rfl
theorem ag_end2 (t:TypeId) : agUp 16 (agEnd t 2) = true:=by kernel_rfl
end Go.Proofs.YtjpfhhndjpdmoaaGreatDoor

namespace Go.Proofs.YtjpfhhndjpdmoaaGreatDoor
set_option maxRecDepth 100000
theorem ag_ext3 : agUp 16 (agExt 3) = true:=by kernel_rfl
theorem ag_end3 (t:TypeId) : agUp 16 (agEnd t 3) = true:=by kernel_rfl
end Go.Proofs.YtjpfhhndjpdmoaaGreatDoor
