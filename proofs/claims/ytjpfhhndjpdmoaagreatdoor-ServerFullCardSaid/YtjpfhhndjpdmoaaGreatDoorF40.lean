/- Part of the proof: FuN4,FuN5,FuN6. No conditions of its own. -/
import Derived.Test.YtjpfhhndjpdmoaaGreatDoorF37
namespace Go.Proofs.YtjpfhhndjpdmoaaGreatDoor
set_option maxRecDepth 100000
theorem fu_b4 (t:TypeId) : fuAll2 t 4 = true:=by kernel_rfl
theorem fu_c4 (t:TypeId) : fuAll3 t 4 = true:=by kernel_rfl
theorem fu_d4 : agUp 20 (fuAll4 4) = true:=by kernel_rfl
theorem fu_e4 : agUp 19 (fuAll5 4) = true:=by kernel_rfl
end Go.Proofs.YtjpfhhndjpdmoaaGreatDoor

namespace Go.Proofs.YtjpfhhndjpdmoaaGreatDoor
set_option maxRecDepth 100000
theorem fu_b5 (t:TypeId) : fuAll2 t 5 = true:=by kernel_rfl
theorem fu_c5 (t:TypeId) : fuAll3 t 5 = true:=by kernel_rfl
theorem fu_d5 : agUp 20 (fuAll4 5) = true:=by kernel_rfl
theorem fu_e5 : agUp 19 (fuAll5 5) = true:=by kernel_rfl
end Go.Proofs.YtjpfhhndjpdmoaaGreatDoor

namespace Go.Proofs.YtjpfhhndjpdmoaaGreatDoor
set_option maxRecDepth 100000
theorem fu_b6 (t:TypeId) : fuAll2 t 6 = true:=by kernel_rfl
theorem fu_c6 (t:TypeId) : fuAll3 t 6 = true:=by kernel_rfl
theorem fu_d6 : agUp 20 (fuAll4 6) = true:=by kernel_rfl
theorem fu_e6 : agUp 19 (fuAll5 6) = true:=by kernel_rfl
end Go.Proofs.YtjpfhhndjpdmoaaGreatDoor
