/- Part of the proof: Sf2,Sf3,Sf4. No conditions of its own. -/
import Derived.Test.YtjpfhhndjpdmoaaGreatDoorF33
namespace Go.Proofs.YtjpfhhndjpdmoaaGreatDoor
theorem fkL_2 : (runAt fkL (2 * 7) 7).all stRun = true:=by kernel_rfl
end Go.Proofs.YtjpfhhndjpdmoaaGreatDoor

namespace Go.Proofs.YtjpfhhndjpdmoaaGreatDoor
theorem fkL_3 : (runAt fkL (3 * 7) 7).all stRun = true:=by kernel_rfl
end Go.Proofs.YtjpfhhndjpdmoaaGreatDoor

namespace Go.Proofs.YtjpfhhndjpdmoaaGreatDoor
theorem foL_0 : (runAt foL (0 * 7) 7).all stRun = true:=by kernel_rfl
end Go.Proofs.YtjpfhhndjpdmoaaGreatDoor
