/- Part of the proof: PeerEndsF. No conditions of its own. -/
import Derived.JoinedOf
import Derived.Test.YtjpfhhndjpdmoaaGreatDoorRows
import Derived.WalkKit
namespace Go.Proofs.YtjpfhhndjpdmoaaGreatDoor.peerEndsDone
open Go.ChangeShapes Go.WideShapes Go.RowKit
set_option maxHeartbeats 4000000 in
theorem facts : joinedFacts Tryz.prog 6 Tryz.f6 Rows.peerEndsSpec Rows.peerEndsRow = true := by
  unfold joinedFacts
  simp only [Bool.and_eq_true]
  and_intros
  all_goals as_aux_lemma => kernel_rfl
end Go.Proofs.YtjpfhhndjpdmoaaGreatDoor.peerEndsDone
