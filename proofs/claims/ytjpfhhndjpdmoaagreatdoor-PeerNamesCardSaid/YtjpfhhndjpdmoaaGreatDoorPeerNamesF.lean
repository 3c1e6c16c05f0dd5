/- Part of the proof: PeerNamesF. No conditions of its own. -/
import Derived.Test.YtjpfhhndjpdmoaaGreatDoorRows
import Derived.WalkKit
import Derived.JoinedOf
namespace Go.Proofs.YtjpfhhndjpdmoaaGreatDoor.peerNamesDone
open Go.ChangeShapes Go.WideShapes Go.RowKit
set_option maxHeartbeats 4000000 in
theorem facts : joinedFacts Tryz.prog 3 Tryz.f3 Rows.peerNamesSpec Rows.peerNamesRow = true := by
  unfold joinedFacts
  simp only [Bool.and_eq_true]
  and_intros
  all_goals as_aux_lemma => kernel_rfl
end Go.Proofs.YtjpfhhndjpdmoaaGreatDoor.peerNamesDone
