/- Part of the proof: FuN16,FuN17. No conditions of its own. -/
import Derived.Test.YtjpfhhndjpdmoaaGreatDoorF37
namespace Go.Proofs.YtjpfhhndjpdmoaaGreatDoor
set_option maxRecDepth 100000
theorem fu_b16 (t:TypeId) : fuAll2 t 16 = true:=by kernel_rfl
theorem fu_c16 (t:TypeId) : fuAll3 t 16 = true:=by kernel_rfl
theorem fu_d16 : agUp 20 (fuAll4 16) = true:=by kernel_rfl
theorem fu_e16 : agUp 19 (fuAll5 16) = true:=by kernel_rfl
end Go.Proofs.YtjpfhhndjpdmoaaGreatDoor

namespace Go.Proofs.YtjpfhhndjpdmoaaGreatDoor
set_option maxRecDepth 100000
theorem fu_b17 (t:TypeId) : fuAll2 t 17 = true:=by kernel_rfl
theorem fu_c17 (t:TypeId) : fuAll3 t 17 = true:=by kernel_rfl
theorem fu_d17 : agUp 20 (fuAll4 17) = true:=by kernel_rfl
theorem fu_e17 : agUp 19 (fuAll5 17) = true:=by kernel_rfl
end Go.Proofs.YtjpfhhndjpdmoaaGreatDoor
