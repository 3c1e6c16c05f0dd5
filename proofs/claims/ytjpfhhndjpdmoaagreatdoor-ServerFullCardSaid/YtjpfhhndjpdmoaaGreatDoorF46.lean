/- Part of the proof: FuN18,FuN19. No conditions of its own. -/
import Derived.Test.YtjpfhhndjpdmoaaGreatDoorF37
namespace Go.Proofs.YtjpfhhndjpdmoaaGreatDoor
set_option maxRecDepth 100000
theorem fu_b18 (t:TypeId) : fuAll2 t 18 = true:=by kernel_rfl
theorem fu_c18 (t:TypeId) : fuAll3 t 18 = true:=by kernel_rfl
theorem fu_d18 : agUp 20 (fuAll4 18) = true:=by kernel_rfl
theorem fu_e18 : agUp 19 (fuAll5 18) = true:=by kernel_rfl
end Go.Proofs.YtjpfhhndjpdmoaaGreatDoor

namespace Go.Proofs.YtjpfhhndjpdmoaaGreatDoor
set_option maxRecDepth 100000
theorem fu_b19 (t:TypeId) : fuAll2 t 19 = true:=by kernel_rfl
theorem fu_c19 (t:TypeId) : fuAll3 t 19 = true:=by kernel_rfl
theorem fu_d19 : agUp 20 (fuAll4 19) = true:=by kernel_rfl
theorem fu_e19 : agUp 19 (fuAll5 19) = true:=by kernel_rfl
end Go.Proofs.YtjpfhhndjpdmoaaGreatDoor
