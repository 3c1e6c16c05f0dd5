/- Part of the proof: AgE7,AgE8. No conditions of its own. -/
import Derived.Test.YtjpfhhndjpdmoaaGreatDoorS41
namespace Go.Proofs.YtjpfhhndjpdmoaaGreatDoor
set_option maxRecDepth 100000
theorem ag_ext7 : agUp 16 (agExt 7) = true:=by kernel_rfl
theorem ag_end7 (t:TypeId) : agUp 16 (agEnd t 7) = true:=by kernel_rfl
end Go.Proofs.YtjpfhhndjpdmoaaGreatDoor

namespace Go.Proofs.YtjpfhhndjpdmoaaGreatDoor
set_option maxRecDepth 100000
theorem ag_preC (t1 t2 t3 t4 t5 t6 t7:TypeId) : agPreC t1 t2 t3 t4 t5 t6 t7 = true:=by kernel_rfl
theorem ag_ext8 : agUp 16 (agExt 8) = true:=by kernel_rfl
theorem ag_end8 (t:TypeId) : agUp 16 (agEnd t 8) = true:=by kernel_rfl
end Go.Proofs.YtjpfhhndjpdmoaaGreatDoor
