/- Part of the proof: Sf5,Sf6,Sf7. No conditions of its own. -/
import Derived.Test.YtjpfhhndjpdmoaaGreatDoorF33
namespace Go.Proofs.YtjpfhhndjpdmoaaGreatDoor
theorem foL_1 : (runAt foL (1 * 7) 7).all stRun = true:=by kernel_rfl
end Go.Proofs.YtjpfhhndjpdmoaaGreatDoor

namespace Go.Proofs.YtjpfhhndjpdmoaaGreatDoor
theorem foL_2 : (runAt foL (2 * 7) 7).all stRun = true:=by kernel_rfl
end Go.Proofs.YtjpfhhndjpdmoaaGreatDoor

namespace Go.Proofs.YtjpfhhndjpdmoaaGreatDoor
theorem foL_3 : (runAt foL (3 * 7) 7).all stRun = true:=by kernel_rfl
end Go.Proofs.YtjpfhhndjpdmoaaGreatDoor
