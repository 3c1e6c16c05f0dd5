/- Part of the proof: FuN12,FuN13. No conditions of its own. -/
import Derived.Test.YtjpfhhndjpdmoaaGreatDoorF37
namespace Go.Proofs.YtjpfhhndjpdmoaaGreatDoor
set_option maxRecDepth 100000
theorem fu_b12 (t:TypeId) : fuAll2 t 12 = true:=by kernel_rfl
theorem fu_c12 (t:TypeId) : fuAll3 t 12 = true:=by kernel_rfl
theorem fu_d12 : agUp 20 (fuAll4 12) = true:=by kernel_rfl
theorem fu_e12 : agUp 19 (fuAll5 12) = true:=by kernel_rfl
end Go.Proofs.YtjpfhhndjpdmoaaGreatDoor

namespace Go.Proofs.YtjpfhhndjpdmoaaGreatDoor
set_option maxRecDepth 100000
theorem fu_b13 (t:TypeId) : fuAll2 t 13 = true:=by kernel_rfl
theorem fu_c13 (t:TypeId) : fuAll3 t 13 = true:=by kernel_rfl
theorem fu_d13 : agUp 20 (fuAll4 13) = true:=by kernel_rfl
theorem fu_e13 : agUp 19 (fuAll5 13) = true:=by kernel_rfl
end Go.Proofs.YtjpfhhndjpdmoaaGreatDoor
