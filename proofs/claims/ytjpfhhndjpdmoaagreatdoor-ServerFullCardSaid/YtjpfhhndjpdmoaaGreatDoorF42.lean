/- Part of the proof: FuN10,FuN11. No conditions of its own. -/
import Derived.Test.YtjpfhhndjpdmoaaGreatDoorF37
namespace Go.Proofs.YtjpfhhndjpdmoaaGreatDoor
set_option maxRecDepth 100000
theorem fu_b10 (t:TypeId) : fuAll2 t 10 = true:=by kernel_rfl
theorem fu_c10 (t:TypeId) : fuAll3 t 10 = true:=by kernel_rfl
theorem fu_d10 : agUp 20 (fuAll4 10) = true:=by kernel_rfl
theorem fu_e10 : agUp 19 (fuAll5 10) = true:=by kernel_rfl
end Go.Proofs.YtjpfhhndjpdmoaaGreatDoor

namespace Go.Proofs.YtjpfhhndjpdmoaaGreatDoor
set_option maxRecDepth 100000
theorem fu_b11 (t:TypeId) : fuAll2 t 11 = true:=by kernel_rfl
theorem fu_c11 (t:TypeId) : fuAll3 t 11 = true:=by kernel_rfl
theorem fu_d11 : agUp 20 (fuAll4 11) = true:=by kernel_rfl
theorem fu_e11 : agUp 19 (fuAll5 11) = true:=by kernel_rfl
end Go.Proofs.YtjpfhhndjpdmoaaGreatDoor
