/- Part of the proof: FuN20. No conditions of its own. -/
import Derived.Test.YtjpfhhndjpdmoaaGreatDoorF37
namespace Go.Proofs.YtjpfhhndjpdmoaaGreatDoor
set_option maxRecDepth 100000
theorem fu_b20 (t:TypeId) : fuAll2 t 20 = true:=by kernel_rfl
theorem fu_c20 (t:TypeId) : fuAll3 t 20 = true:=by kernel_rfl
theorem fu_d20 : agUp 20 (fuAll4 20) = true:=by kernel_rfl
theorem fu_e20 : agUp 19 (fuAll5 20) = true:=by kernel_rfl
end Go.Proofs.YtjpfhhndjpdmoaaGreatDoor
