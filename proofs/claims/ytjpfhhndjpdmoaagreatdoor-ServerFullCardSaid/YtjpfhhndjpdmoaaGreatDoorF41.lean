/- Part of the proof: FuN7,FuN8,FuN9. No conditions of its own. -/
import Derived.Test.YtjpfhhndjpdmoaaGreatDoorF37
namespace Go.Proofs.YtjpfhhndjpdmoaaGreatDoor
set_option maxRecDepth 100000
theorem fu_b7 (t:TypeId) : fuAll2 t 7 = true:=by kernel_rfl
theorem fu_c7 (t:TypeId) : fuAll3 t 7 = true:=by kernel_rfl
theorem fu_d7 : agUp 20 (fuAll4 7) = true:=by kernel_rfl
theorem fu_e7 : agUp 19 (fuAll5 7) = true:=by kernel_rfl
end Go.Proofs.YtjpfhhndjpdmoaaGreatDoor

namespace Go.Proofs.YtjpfhhndjpdmoaaGreatDoor
set_option maxRecDepth 100000
theorem fu_b8 (t:TypeId) : fuAll2 t 8 = true:=by kernel_rfl
theorem fu_c8 (t:TypeId) : fuAll3 t 8 = true:=by kernel_rfl
theorem fu_d8 : agUp 20 (fuAll4 8) = true:=by kernel_rfl
theorem fu_e8 : agUp 19 (fuAll5 8) = true:=by kernel_rfl
end Go.Proofs.YtjpfhhndjpdmoaaGreatDoor

namespace Go.Proofs.YtjpfhhndjpdmoaaGreatDoor
set_option maxRecDepth 100000
theorem fu_b9 (t:TypeId) : fuAll2 t 9 = true:=by kernel_rfl
theorem fu_c9 (t:TypeId) : fuAll3 t 9 = true:=by kernel_rfl
theorem fu_d9 : agUp 20 (fuAll4 9) = true:=by kernel_rfl
theorem fu_e9 : agUp 19 (fuAll5 9) = true:=by kernel_rfl
end Go.Proofs.YtjpfhhndjpdmoaaGreatDoor
