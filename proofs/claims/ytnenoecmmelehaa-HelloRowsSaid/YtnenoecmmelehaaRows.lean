/-
  No cell of these rows narrows 'for every input' (looked for: loops, veiled, ifaces, maps, wideKeys, modest, calm, conditions, laid).
  DERIVED. THE GIVEN ROWS OF THIS SEAT. 6 by the template 'for every input the law returns true; each argument reads behind the call as it read before'; 0 by the template 'total and deterministic' (their statements: YtnenoecmmelehaaTotals.lean).
  GIVEN WITH THE SEED: the statements are not yours to turn. If you find one false, say at which input.
  Laid BY PROGRAM, IN A SANDBOX (cutbox-rows.mjs): the forced cells as the released guide's own fill.sh prints them over the translation 4ce74d89a7650d2c… (all of the seat's roots in one cut). By AI agents, Wed Nov 11 2026. No macro, syntax, notation, axiom, sorry.
-/
import Derived.Test.YtnenoecmmelehaaChecked
import GoSem.Claim
import GoSem.ClaimJoined
import GoSem.ClaimMapViews
import Derived.JoinedTies
import Derived.KernelRfl
namespace Go.Proofs.Ytnenoecmmelehaa
/- THE CELL 'sum', in the pinned program and in every row, IS THE sha256 OF THE DUMP (.gsa) THAT YtnenoecmmelehaaProg.lean LOADS. Nothing in Lean hashes anything: it is a label: what it is worth is what the hold of that sum in a sandbox is worth. -/
noncomputable def Try.pinned : Pinned := { name := "ytnenoecmmelehaa", sum := "4ce74d89a7650d2c31aefe891c4d447b246da2ecd2b8c6d9629404ad1732d84c", checked := Try.checked }
namespace Rows
def none {H : Type} : Left H := { results := [], args := [] }

/-- 'tollgatelaw13.HelloWrites': WHATEVER THE INPUT: true; the input reads as it did. -/
def helloWritesSpec : ChangeSpec := { name := "helloWrites", fn := fun _ => fun
  | [d] => { results := [.lit (.bool true)], args := [d] }
  | _ => none }
def helloWritesRow : OpenClaim := { program := "ytnenoecmmelehaa", sum := "4ce74d89a7650d2c31aefe891c4d447b246da2ecd2b8c6d9629404ad1732d84c", func := "tollgate/tollgatelaw13.HelloWrites", spec := "helloWrites", unfollowed := true, recurses := true, apart := false }
def HelloWritesSaid : Prop := helloWritesRow.holds Try.pinned (OpenSpec.ofChange helloWritesSpec)

/-- ITS FALSE NEIGHBOUR: 'it returns false'. Refute it at one input. -/
def helloWritesWrong : ChangeSpec := { name := "helloWrites", fn := fun _ => fun
  | [d] => { results := [.lit (.bool false)], args := [d] }
  | _ => none }
def HelloWritesWrongFalsely : Prop := helloWritesRow.holds Try.pinned (OpenSpec.ofChange helloWritesWrong)

/-- 'tollgatelaw13.HelloReads': WHATEVER THE INPUT: true; the input reads as it did. -/
def helloReadsSpec : ChangeSpec := { name := "helloReads", fn := fun _ => fun
  | [d] => { results := [.lit (.bool true)], args := [d] }
  | _ => none }
def helloReadsRow : OpenClaim := { program := "ytnenoecmmelehaa", sum := "4ce74d89a7650d2c31aefe891c4d447b246da2ecd2b8c6d9629404ad1732d84c", func := "tollgate/tollgatelaw13.HelloReads", spec := "helloReads", unfollowed := true, recurses := true, apart := false }
def HelloReadsSaid : Prop := helloReadsRow.holds Try.pinned (OpenSpec.ofChange helloReadsSpec)

/-- ITS FALSE NEIGHBOUR: 'it returns false'. Refute it at one input. -/
def helloReadsWrong : ChangeSpec := { name := "helloReads", fn := fun _ => fun
  | [d] => { results := [.lit (.bool false)], args := [d] }
  | _ => none }
def HelloReadsWrongFalsely : Prop := helloReadsRow.holds Try.pinned (OpenSpec.ofChange helloReadsWrong)

/-- 'tollgatelaw13.HelloBack': WHATEVER THE INPUT: true; the input reads as it did. -/
def helloBackSpec : ChangeSpec := { name := "helloBack", fn := fun _ => fun
  | [d1, d2, d3] => { results := [.lit (.bool true)], args := [d1, d2, d3] }
  | _ => none }
def helloBackRow : OpenClaim := { program := "ytnenoecmmelehaa", sum := "4ce74d89a7650d2c31aefe891c4d447b246da2ecd2b8c6d9629404ad1732d84c", func := "tollgate/tollgatelaw13.HelloBack", spec := "helloBack", unfollowed := true, recurses := true, apart := false }
def HelloBackSaid : Prop := helloBackRow.holds Try.pinned (OpenSpec.ofChange helloBackSpec)

/-- ITS FALSE NEIGHBOUR: 'it returns false'. Refute it at one input. -/
def helloBackWrong : ChangeSpec := { name := "helloBack", fn := fun _ => fun
  | [d1, d2, d3] => { results := [.lit (.bool false)], args := [d1, d2, d3] }
  | _ => none }
def HelloBackWrongFalsely : Prop := helloBackRow.holds Try.pinned (OpenSpec.ofChange helloBackWrong)

/-- 'tollgatelaw13.HelloRows': WHATEVER THE INPUT: true; the input reads as it did. -/
def helloRowsSpec : ChangeSpec := { name := "helloRows", fn := fun _ => fun
  | [d] => { results := [.lit (.bool true)], args := [d] }
  | _ => none }
def helloRowsRow : OpenClaim := { program := "ytnenoecmmelehaa", sum := "4ce74d89a7650d2c31aefe891c4d447b246da2ecd2b8c6d9629404ad1732d84c", func := "tollgate/tollgatelaw13.HelloRows", spec := "helloRows", unfollowed := true, recurses := true, apart := false }
def HelloRowsSaid : Prop := helloRowsRow.holds Try.pinned (OpenSpec.ofChange helloRowsSpec)

/-- ITS FALSE NEIGHBOUR: 'it returns false'. Refute it at one input. -/
def helloRowsWrong : ChangeSpec := { name := "helloRows", fn := fun _ => fun
  | [d] => { results := [.lit (.bool false)], args := [d] }
  | _ => none }
def HelloRowsWrongFalsely : Prop := helloRowsRow.holds Try.pinned (OpenSpec.ofChange helloRowsWrong)

/-- 'tollgatelaw13.HelloSizes': WHATEVER THE INPUT: true; the input reads as it did. -/
def helloSizesSpec : ChangeSpec := { name := "helloSizes", fn := fun _ => fun
  | [d1, d2] => { results := [.lit (.bool true)], args := [d1, d2] }
  | _ => none }
def helloSizesRow : OpenClaim := { program := "ytnenoecmmelehaa", sum := "4ce74d89a7650d2c31aefe891c4d447b246da2ecd2b8c6d9629404ad1732d84c", func := "tollgate/tollgatelaw13.HelloSizes", spec := "helloSizes", unfollowed := true, recurses := true, apart := false }
def HelloSizesSaid : Prop := helloSizesRow.holds Try.pinned (OpenSpec.ofChange helloSizesSpec)

/-- ITS FALSE NEIGHBOUR: 'it returns false'. Refute it at one input. -/
def helloSizesWrong : ChangeSpec := { name := "helloSizes", fn := fun _ => fun
  | [d1, d2] => { results := [.lit (.bool false)], args := [d1, d2] }
  | _ => none }
def HelloSizesWrongFalsely : Prop := helloSizesRow.holds Try.pinned (OpenSpec.ofChange helloSizesWrong)

/-- 'tollgatelaw13.HelloShort': WHATEVER THE INPUT: true; the input reads as it did. -/
def helloShortSpec : ChangeSpec := { name := "helloShort", fn := fun _ => fun
  | [d1, d2] => { results := [.lit (.bool true)], args := [d1, d2] }
  | _ => none }
def helloShortRow : OpenClaim := { program := "ytnenoecmmelehaa", sum := "4ce74d89a7650d2c31aefe891c4d447b246da2ecd2b8c6d9629404ad1732d84c", func := "tollgate/tollgatelaw13.HelloShort", spec := "helloShort", unfollowed := true, recurses := true, apart := false }
def HelloShortSaid : Prop := helloShortRow.holds Try.pinned (OpenSpec.ofChange helloShortSpec)

/-- ITS FALSE NEIGHBOUR: 'it returns false'. Refute it at one input. -/
def helloShortWrong : ChangeSpec := { name := "helloShort", fn := fun _ => fun
  | [d1, d2] => { results := [.lit (.bool false)], args := [d1, d2] }
  | _ => none }
def HelloShortWrongFalsely : Prop := helloShortRow.holds Try.pinned (OpenSpec.ofChange helloShortWrong)

/- THE SECOND FORM. 'bulk': how many values and letters a reading holds, each counted each time it is reached (what is shared counts as often as it is met; a slice's spare places count too). A statement '..UptoSaid' is the law's where the arguments, and the package variables that the reading takes, are together of bulk at most 1048576: NARROWER than '..Said'. Prove '..Said' where nothing that the law and all that it calls make is longer than what came in: it says more and counts as full. Else prove '..UptoSaid'. A law counts once. -/
mutual
def uptoBulk {H : Type} : DataW H → Nat
  | .lit (.string bytes) => bytes.length + 1
  | .lit _ => 1
  | .nil => 1
  | .ptr d => uptoBulk d + 1
  | .slice elems spare => uptoBulkAll elems + uptoBulkAll spare + 1
  | .agg parts => uptoBulkAll parts + 1
  | .iface _ d => uptoBulk d + 1
  | .map entries => uptoBulkEntries entries + 1
  | .held _ => 1
def uptoBulkAll {H : Type} : List (DataW H) → Nat
  | [] => 0
  | d :: r => uptoBulk d + uptoBulkAll r
def uptoBulkEntries {H : Type} : List (Lit × DataW H) → Nat
  | [] => 0
  | x :: r => uptoBulkEntry x + uptoBulkEntries r
def uptoBulkEntry {H : Type} : Lit × DataW H → Nat
  | (.string bytes, d) => bytes.length + uptoBulk d + 1
  | (_, d) => uptoBulk d + 1
 end
def uptoSmall : (H : Type) → List (DataW H) → Bool := fun _ ds => decide (uptoBulkAll ds ≤ 1048576)
def OpenSpec.upto (s : _root_.Go.ChangeSpec) : _root_.Go.OpenSpec := { _root_.Go.OpenSpec.ofChange s with cond := some uptoSmall }

/-- 'tollgatelaw13.HelloWrites', WHERE WHAT IT READS IS OF BULK AT MOST 1048576: true; the input reads as it did. -/
def helloWritesUptoRow : OpenClaim := { program := "ytnenoecmmelehaa", sum := "4ce74d89a7650d2c31aefe891c4d447b246da2ecd2b8c6d9629404ad1732d84c", func := "tollgate/tollgatelaw13.HelloWrites", spec := "helloWrites", unfollowed := true, recurses := true, apart := false, narrowed := true }
def HelloWritesUptoSaid : Prop := helloWritesUptoRow.holds Try.pinned (OpenSpec.upto helloWritesSpec)

/-- 'tollgatelaw13.HelloReads', WHERE WHAT IT READS IS OF BULK AT MOST 1048576: true; the input reads as it did. -/
def helloReadsUptoRow : OpenClaim := { program := "ytnenoecmmelehaa", sum := "4ce74d89a7650d2c31aefe891c4d447b246da2ecd2b8c6d9629404ad1732d84c", func := "tollgate/tollgatelaw13.HelloReads", spec := "helloReads", unfollowed := true, recurses := true, apart := false, narrowed := true }
def HelloReadsUptoSaid : Prop := helloReadsUptoRow.holds Try.pinned (OpenSpec.upto helloReadsSpec)

/-- 'tollgatelaw13.HelloBack', WHERE WHAT IT READS IS OF BULK AT MOST 1048576: true; the input reads as it did. -/
def helloBackUptoRow : OpenClaim := { program := "ytnenoecmmelehaa", sum := "4ce74d89a7650d2c31aefe891c4d447b246da2ecd2b8c6d9629404ad1732d84c", func := "tollgate/tollgatelaw13.HelloBack", spec := "helloBack", unfollowed := true, recurses := true, apart := false, narrowed := true }
def HelloBackUptoSaid : Prop := helloBackUptoRow.holds Try.pinned (OpenSpec.upto helloBackSpec)

/-- 'tollgatelaw13.HelloRows', WHERE WHAT IT READS IS OF BULK AT MOST 1048576: true; the input reads as it did. -/
def helloRowsUptoRow : OpenClaim := { program := "ytnenoecmmelehaa", sum := "4ce74d89a7650d2c31aefe891c4d447b246da2ecd2b8c6d9629404ad1732d84c", func := "tollgate/tollgatelaw13.HelloRows", spec := "helloRows", unfollowed := true, recurses := true, apart := false, narrowed := true }
def HelloRowsUptoSaid : Prop := helloRowsUptoRow.holds Try.pinned (OpenSpec.upto helloRowsSpec)

/-- 'tollgatelaw13.HelloSizes', WHERE WHAT IT READS IS OF BULK AT MOST 1048576: true; the input reads as it did. -/
def helloSizesUptoRow : OpenClaim := { program := "ytnenoecmmelehaa", sum := "4ce74d89a7650d2c31aefe891c4d447b246da2ecd2b8c6d9629404ad1732d84c", func := "tollgate/tollgatelaw13.HelloSizes", spec := "helloSizes", unfollowed := true, recurses := true, apart := false, narrowed := true }
def HelloSizesUptoSaid : Prop := helloSizesUptoRow.holds Try.pinned (OpenSpec.upto helloSizesSpec)

/-- 'tollgatelaw13.HelloShort', WHERE WHAT IT READS IS OF BULK AT MOST 1048576: true; the input reads as it did. -/
def helloShortUptoRow : OpenClaim := { program := "ytnenoecmmelehaa", sum := "4ce74d89a7650d2c31aefe891c4d447b246da2ecd2b8c6d9629404ad1732d84c", func := "tollgate/tollgatelaw13.HelloShort", spec := "helloShort", unfollowed := true, recurses := true, apart := false, narrowed := true }
def HelloShortUptoSaid : Prop := helloShortUptoRow.holds Try.pinned (OpenSpec.upto helloShortSpec)

end Rows
end Go.Proofs.Ytnenoecmmelehaa
