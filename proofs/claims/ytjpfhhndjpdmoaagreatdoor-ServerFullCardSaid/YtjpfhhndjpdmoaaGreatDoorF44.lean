/- Part of the proof: FuN14,FuN15. No conditions of its own. -/
import Derived.Test.YtjpfhhndjpdmoaaGreatDoorF37
namespace Go.Proofs.YtjpfhhndjpdmoaaGreatDoor
set_option maxRecDepth 100000
theorem fu_b14 (t:TypeId) : fuAll2 t 14 = true:=by kernel_rfl
theorem fu_c14 (t:TypeId) : fuAll3 t 14 = true:=by kernel_rfl
theorem fu_d14 : agUp 20 (fuAll4 14) = true:=by kernel_rfl
theorem fu_e14 : agUp 19 (fuAll5 14) = true:=by kernel_rfl
end Go.Proofs.YtjpfhhndjpdmoaaGreatDoor

namespace Go.Proofs.YtjpfhhndjpdmoaaGreatDoor
set_option maxRecDepth 100000
theorem fu_b15 (t:TypeId) : fuAll2 t 15 = true:=by kernel_rfl
theorem fu_c15 (t:TypeId) : fuAll3 t 15 = true:=by kernel_rfl
theorem fu_d15 : agUp 20 (fuAll4 15) = true:=by kernel_rfl
theorem fu_e15 : agUp 19 (fuAll5 15) = true:=by kernel_rfl
end Go.Proofs.YtjpfhhndjpdmoaaGreatDoor
