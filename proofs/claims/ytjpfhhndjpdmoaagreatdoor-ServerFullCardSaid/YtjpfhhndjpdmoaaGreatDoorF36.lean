/- Part of the proof: Sf8,Sf9,Sf10. No conditions of its own. -/
import Derived.Test.YtjpfhhndjpdmoaaGreatDoorF33
namespace Go.Proofs.YtjpfhhndjpdmoaaGreatDoor
theorem frL_0 : (runAt frL (0 * 7) 7).all stRun = true:=by kernel_rfl
end Go.Proofs.YtjpfhhndjpdmoaaGreatDoor

namespace Go.Proofs.YtjpfhhndjpdmoaaGreatDoor
theorem frL_1 : (runAt frL (1 * 7) 7).all stRun = true:=by kernel_rfl
end Go.Proofs.YtjpfhhndjpdmoaaGreatDoor

namespace Go.Proofs.YtjpfhhndjpdmoaaGreatDoor
theorem frL_2 : (runAt frL (2 * 7) 7).all stRun = true:=by kernel_rfl
end Go.Proofs.YtjpfhhndjpdmoaaGreatDoor
