/- Part of the proof: FuN1,FuN2,FuN3. No conditions of its own. -/
import Derived.Test.YtjpfhhndjpdmoaaGreatDoorF37
namespace Go.Proofs.YtjpfhhndjpdmoaaGreatDoor
set_option maxRecDepth 100000
theorem fu_b1 (t:TypeId) : fuAll2 t 1 = true:=by kernel_rfl
theorem fu_c1 (t:TypeId) : fuAll3 t 1 = true:=by kernel_rfl
theorem fu_d1 : agUp 20 (fuAll4 1) = true:=by kernel_rfl
theorem fu_e1 : agUp 19 (fuAll5 1) = true:=by kernel_rfl
end Go.Proofs.YtjpfhhndjpdmoaaGreatDoor

namespace Go.Proofs.YtjpfhhndjpdmoaaGreatDoor
set_option maxRecDepth 100000
theorem fu_b2 (t:TypeId) : fuAll2 t 2 = true:=by kernel_rfl
theorem fu_c2 (t:TypeId) : fuAll3 t 2 = true:=by kernel_rfl
theorem fu_d2 : agUp 20 (fuAll4 2) = true:=by kernel_rfl
theorem fu_e2 : agUp 19 (fuAll5 2) = true:=by kernel_rfl
end Go.Proofs.YtjpfhhndjpdmoaaGreatDoor

namespace Go.Proofs.YtjpfhhndjpdmoaaGreatDoor
set_option maxRecDepth 100000
theorem fu_b3 (t:TypeId) : fuAll2 t 3 = true:=by kernel_rfl
theorem fu_c3 (t:TypeId) : fuAll3 t 3 = true:=by kernel_rfl
theorem fu_d3 : agUp 20 (fuAll4 3) = true:=by kernel_rfl
theorem fu_e3 : agUp 19 (fuAll5 3) = true:=by kernel_rfl
end Go.Proofs.YtjpfhhndjpdmoaaGreatDoor
