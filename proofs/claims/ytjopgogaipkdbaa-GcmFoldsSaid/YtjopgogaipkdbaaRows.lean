/-
  No cell of these rows narrows 'for every input' (looked for: loops, veiled, ifaces, maps, wideKeys, modest, calm, conditions, laid).
  DERIVED. THE GIVEN ROWS OF THIS SEAT. 11 by the template 'for every input the law returns true; each argument reads behind the call as it read before'; 0 by the template 'total and deterministic' (their statements: YtjopgogaipkdbaaTotals.lean).
  GIVEN WITH THE SEED: the statements are not yours to turn. If you find one false, say at which input.
  Laid BY PROGRAM, IN A SANDBOX (cutbox-rows.mjs): the forced cells as the released guide's own fill.sh prints them over the translation 5897b99a0390f817… (all of the seat's roots in one cut). By AI agents, Wed Nov 11 2026. No macro, syntax, notation, axiom, sorry.
-/
import Derived.Test.YtjopgogaipkdbaaChecked
import GoSem.Claim
import GoSem.ClaimJoined
import GoSem.ClaimMapViews
import Derived.JoinedTies
import Derived.KernelRfl
namespace Go.Proofs.Ytjopgogaipkdbaa
/- THE CELL 'sum', in the pinned program and in every row, IS THE sha256 OF THE DUMP (.gsa) THAT YtjopgogaipkdbaaProg.lean LOADS. Nothing in Lean hashes anything: it is a label: what it is worth is what the hold of that sum in a sandbox is worth. -/
noncomputable def Try.pinned : Pinned := { name := "ytjopgogaipkdbaa", sum := "5897b99a0390f8179c40b77cbbaf2137c22a554524918d97adef2f4f201b16d1", checked := Try.checked }
namespace Rows
def none {H : Type} : Left H := { results := [], args := [] }

/-- 'tollgatelaw04.BlockSeals': WHATEVER THE INPUT: true; the input reads as it did. -/
def blockSealsSpec : ChangeSpec := { name := "blockSeals", fn := fun _ => fun
  | [d1, d2, d3] => { results := [.lit (.bool true)], args := [d1, d2, d3] }
  | _ => none }
def blockSealsRow : OpenClaim := { program := "ytjopgogaipkdbaa", sum := "5897b99a0390f8179c40b77cbbaf2137c22a554524918d97adef2f4f201b16d1", func := "tollgate/tollgatelaw04.BlockSeals", spec := "blockSeals", apart := false }
def BlockSealsSaid : Prop := blockSealsRow.holds Try.pinned (OpenSpec.ofChange blockSealsSpec)

/-- ITS FALSE NEIGHBOUR: 'it returns false'. Refute it at one input. -/
def blockSealsWrong : ChangeSpec := { name := "blockSeals", fn := fun _ => fun
  | [d1, d2, d3] => { results := [.lit (.bool false)], args := [d1, d2, d3] }
  | _ => none }
def BlockSealsWrongFalsely : Prop := blockSealsRow.holds Try.pinned (OpenSpec.ofChange blockSealsWrong)

/-- 'tollgatelaw04.BlockKeys': WHATEVER THE INPUT: true; the input reads as it did. -/
def blockKeysSpec : ChangeSpec := { name := "blockKeys", fn := fun _ => fun
  | [d1, d2] => { results := [.lit (.bool true)], args := [d1, d2] }
  | _ => none }
def blockKeysRow : OpenClaim := { program := "ytjopgogaipkdbaa", sum := "5897b99a0390f8179c40b77cbbaf2137c22a554524918d97adef2f4f201b16d1", func := "tollgate/tollgatelaw04.BlockKeys", spec := "blockKeys", apart := false }
def BlockKeysSaid : Prop := blockKeysRow.holds Try.pinned (OpenSpec.ofChange blockKeysSpec)

/-- ITS FALSE NEIGHBOUR: 'it returns false'. Refute it at one input. -/
def blockKeysWrong : ChangeSpec := { name := "blockKeys", fn := fun _ => fun
  | [d1, d2] => { results := [.lit (.bool false)], args := [d1, d2] }
  | _ => none }
def BlockKeysWrongFalsely : Prop := blockKeysRow.holds Try.pinned (OpenSpec.ofChange blockKeysWrong)

/-- 'tollgatelaw04.BlockApart': WHATEVER THE INPUT: true; the input reads as it did. -/
def blockApartSpec : ChangeSpec := { name := "blockApart", fn := fun _ => fun
  | [d1, d2, d3] => { results := [.lit (.bool true)], args := [d1, d2, d3] }
  | _ => none }
def blockApartRow : OpenClaim := { program := "ytjopgogaipkdbaa", sum := "5897b99a0390f8179c40b77cbbaf2137c22a554524918d97adef2f4f201b16d1", func := "tollgate/tollgatelaw04.BlockApart", spec := "blockApart", apart := false }
def BlockApartSaid : Prop := blockApartRow.holds Try.pinned (OpenSpec.ofChange blockApartSpec)

/-- ITS FALSE NEIGHBOUR: 'it returns false'. Refute it at one input. -/
def blockApartWrong : ChangeSpec := { name := "blockApart", fn := fun _ => fun
  | [d1, d2, d3] => { results := [.lit (.bool false)], args := [d1, d2, d3] }
  | _ => none }
def BlockApartWrongFalsely : Prop := blockApartRow.holds Try.pinned (OpenSpec.ofChange blockApartWrong)

/-- 'tollgatelaw04.BlockRounds': WHATEVER THE INPUT: true; the input reads as it did. -/
def blockRoundsSpec : ChangeSpec := { name := "blockRounds", fn := fun _ => fun
  | [d1, d2, d3] => { results := [.lit (.bool true)], args := [d1, d2, d3] }
  | _ => none }
def blockRoundsRow : OpenClaim := { program := "ytjopgogaipkdbaa", sum := "5897b99a0390f8179c40b77cbbaf2137c22a554524918d97adef2f4f201b16d1", func := "tollgate/tollgatelaw04.BlockRounds", spec := "blockRounds", apart := false }
def BlockRoundsSaid : Prop := blockRoundsRow.holds Try.pinned (OpenSpec.ofChange blockRoundsSpec)

/-- ITS FALSE NEIGHBOUR: 'it returns false'. Refute it at one input. -/
def blockRoundsWrong : ChangeSpec := { name := "blockRounds", fn := fun _ => fun
  | [d1, d2, d3] => { results := [.lit (.bool false)], args := [d1, d2, d3] }
  | _ => none }
def BlockRoundsWrongFalsely : Prop := blockRoundsRow.holds Try.pinned (OpenSpec.ofChange blockRoundsWrong)

/-- 'tollgatelaw05.GcmFolds': WHATEVER THE INPUT: true; the input reads as it did. -/
def gcmFoldsSpec : ChangeSpec := { name := "gcmFolds", fn := fun _ => fun
  | [d1, d2] => { results := [.lit (.bool true)], args := [d1, d2] }
  | _ => none }
def gcmFoldsRow : OpenClaim := { program := "ytjopgogaipkdbaa", sum := "5897b99a0390f8179c40b77cbbaf2137c22a554524918d97adef2f4f201b16d1", func := "tollgate/tollgatelaw05.GcmFolds", spec := "gcmFolds", unfollowed := true, recurses := true, apart := false }
def GcmFoldsSaid : Prop := gcmFoldsRow.holds Try.pinned (OpenSpec.ofChange gcmFoldsSpec)

/-- ITS FALSE NEIGHBOUR: 'it returns false'. Refute it at one input. -/
def gcmFoldsWrong : ChangeSpec := { name := "gcmFolds", fn := fun _ => fun
  | [d1, d2] => { results := [.lit (.bool false)], args := [d1, d2] }
  | _ => none }
def GcmFoldsWrongFalsely : Prop := gcmFoldsRow.holds Try.pinned (OpenSpec.ofChange gcmFoldsWrong)

/-- 'tollgatelaw05.GcmSizes': WHATEVER THE INPUT: true; the input reads as it did. -/
def gcmSizesSpec : ChangeSpec := { name := "gcmSizes", fn := fun _ => fun
  | [d] => { results := [.lit (.bool true)], args := [d] }
  | _ => none }
def gcmSizesRow : OpenClaim := { program := "ytjopgogaipkdbaa", sum := "5897b99a0390f8179c40b77cbbaf2137c22a554524918d97adef2f4f201b16d1", func := "tollgate/tollgatelaw05.GcmSizes", spec := "gcmSizes", unfollowed := true, recurses := true, apart := false }
def GcmSizesSaid : Prop := gcmSizesRow.holds Try.pinned (OpenSpec.ofChange gcmSizesSpec)

/-- ITS FALSE NEIGHBOUR: 'it returns false'. Refute it at one input. -/
def gcmSizesWrong : ChangeSpec := { name := "gcmSizes", fn := fun _ => fun
  | [d] => { results := [.lit (.bool false)], args := [d] }
  | _ => none }
def GcmSizesWrongFalsely : Prop := gcmSizesRow.holds Try.pinned (OpenSpec.ofChange gcmSizesWrong)

/-- 'tollgatelaw05.GcmStreams': WHATEVER THE INPUT: true; the input reads as it did. -/
def gcmStreamsSpec : ChangeSpec := { name := "gcmStreams", fn := fun _ => fun
  | [d1, d2] => { results := [.lit (.bool true)], args := [d1, d2] }
  | _ => none }
def gcmStreamsRow : OpenClaim := { program := "ytjopgogaipkdbaa", sum := "5897b99a0390f8179c40b77cbbaf2137c22a554524918d97adef2f4f201b16d1", func := "tollgate/tollgatelaw05.GcmStreams", spec := "gcmStreams", unfollowed := true, recurses := true, apart := false }
def GcmStreamsSaid : Prop := gcmStreamsRow.holds Try.pinned (OpenSpec.ofChange gcmStreamsSpec)

/-- ITS FALSE NEIGHBOUR: 'it returns false'. Refute it at one input. -/
def gcmStreamsWrong : ChangeSpec := { name := "gcmStreams", fn := fun _ => fun
  | [d1, d2] => { results := [.lit (.bool false)], args := [d1, d2] }
  | _ => none }
def GcmStreamsWrongFalsely : Prop := gcmStreamsRow.holds Try.pinned (OpenSpec.ofChange gcmStreamsWrong)

/-- 'tollgatelaw05.GcmProducts': WHATEVER THE INPUT: true; the input reads as it did. -/
def gcmProductsSpec : ChangeSpec := { name := "gcmProducts", fn := fun _ => fun
  | [d1, d2, d3] => { results := [.lit (.bool true)], args := [d1, d2, d3] }
  | _ => none }
def gcmProductsRow : OpenClaim := { program := "ytjopgogaipkdbaa", sum := "5897b99a0390f8179c40b77cbbaf2137c22a554524918d97adef2f4f201b16d1", func := "tollgate/tollgatelaw05.GcmProducts", spec := "gcmProducts", unfollowed := true, recurses := true, apart := false }
def GcmProductsSaid : Prop := gcmProductsRow.holds Try.pinned (OpenSpec.ofChange gcmProductsSpec)

/-- ITS FALSE NEIGHBOUR: 'it returns false'. Refute it at one input. -/
def gcmProductsWrong : ChangeSpec := { name := "gcmProducts", fn := fun _ => fun
  | [d1, d2, d3] => { results := [.lit (.bool false)], args := [d1, d2, d3] }
  | _ => none }
def GcmProductsWrongFalsely : Prop := gcmProductsRow.holds Try.pinned (OpenSpec.ofChange gcmProductsWrong)

/-- 'tollgatelaw05.GcmSeals': WHATEVER THE INPUT: true; the input reads as it did. -/
def gcmSealsSpec : ChangeSpec := { name := "gcmSeals", fn := fun _ => fun
  | [d] => { results := [.lit (.bool true)], args := [d] }
  | _ => none }
def gcmSealsRow : OpenClaim := { program := "ytjopgogaipkdbaa", sum := "5897b99a0390f8179c40b77cbbaf2137c22a554524918d97adef2f4f201b16d1", func := "tollgate/tollgatelaw05.GcmSeals", spec := "gcmSeals", unfollowed := true, recurses := true, apart := false }
def GcmSealsSaid : Prop := gcmSealsRow.holds Try.pinned (OpenSpec.ofChange gcmSealsSpec)

/-- ITS FALSE NEIGHBOUR: 'it returns false'. Refute it at one input. -/
def gcmSealsWrong : ChangeSpec := { name := "gcmSeals", fn := fun _ => fun
  | [d] => { results := [.lit (.bool false)], args := [d] }
  | _ => none }
def GcmSealsWrongFalsely : Prop := gcmSealsRow.holds Try.pinned (OpenSpec.ofChange gcmSealsWrong)

/-- 'tollgatelaw05.GcmOpens': WHATEVER THE INPUT: true; the input reads as it did. -/
def gcmOpensSpec : ChangeSpec := { name := "gcmOpens", fn := fun _ => fun
  | [d1, d2] => { results := [.lit (.bool true)], args := [d1, d2] }
  | _ => none }
def gcmOpensRow : OpenClaim := { program := "ytjopgogaipkdbaa", sum := "5897b99a0390f8179c40b77cbbaf2137c22a554524918d97adef2f4f201b16d1", func := "tollgate/tollgatelaw05.GcmOpens", spec := "gcmOpens", unfollowed := true, recurses := true, apart := false }
def GcmOpensSaid : Prop := gcmOpensRow.holds Try.pinned (OpenSpec.ofChange gcmOpensSpec)

/-- ITS FALSE NEIGHBOUR: 'it returns false'. Refute it at one input. -/
def gcmOpensWrong : ChangeSpec := { name := "gcmOpens", fn := fun _ => fun
  | [d1, d2] => { results := [.lit (.bool false)], args := [d1, d2] }
  | _ => none }
def GcmOpensWrongFalsely : Prop := gcmOpensRow.holds Try.pinned (OpenSpec.ofChange gcmOpensWrong)

/-- 'tollgatelaw05.GcmBent': WHATEVER THE INPUT: true; the input reads as it did. -/
def gcmBentSpec : ChangeSpec := { name := "gcmBent", fn := fun _ => fun
  | [d1, d2, d3] => { results := [.lit (.bool true)], args := [d1, d2, d3] }
  | _ => none }
def gcmBentRow : OpenClaim := { program := "ytjopgogaipkdbaa", sum := "5897b99a0390f8179c40b77cbbaf2137c22a554524918d97adef2f4f201b16d1", func := "tollgate/tollgatelaw05.GcmBent", spec := "gcmBent", unfollowed := true, recurses := true, apart := false }
def GcmBentSaid : Prop := gcmBentRow.holds Try.pinned (OpenSpec.ofChange gcmBentSpec)

/-- ITS FALSE NEIGHBOUR: 'it returns false'. Refute it at one input. -/
def gcmBentWrong : ChangeSpec := { name := "gcmBent", fn := fun _ => fun
  | [d1, d2, d3] => { results := [.lit (.bool false)], args := [d1, d2, d3] }
  | _ => none }
def GcmBentWrongFalsely : Prop := gcmBentRow.holds Try.pinned (OpenSpec.ofChange gcmBentWrong)

/- THE SECOND FORM. 'bulk': how many values and letters a reading holds, each counted each time it is reached (what is shared counts as often as it is met; a slice's spare places count too). A statement '..UptoSaid' is the law's where the arguments, and the package variables that the reading takes, are together of bulk at most 1048576: NARROWER than '..Said'. Prove '..Said' where nothing that the law and all that it calls make is longer than what came in: it says more and counts as full. Else prove '..UptoSaid'. A law counts once. -/
mutual
def uptoBulk {H : Type} : DataW H → Nat
  | .lit (.string bytes) => bytes.length + 1
  | .lit _ => 1
  | .nil => 1
  | .ptr d => uptoBulk d + 1
  | .slice elems spare => uptoBulkAll elems + uptoBulkAll spare + 1
  | .agg parts => uptoBulkAll parts + 1
  | .iface _ d => uptoBulk d + 1
  | .map entries => uptoBulkEntries entries + 1
  | .held _ => 1
def uptoBulkAll {H : Type} : List (DataW H) → Nat
  | [] => 0
  | d :: r => uptoBulk d + uptoBulkAll r
def uptoBulkEntries {H : Type} : List (Lit × DataW H) → Nat
  | [] => 0
  | x :: r => uptoBulkEntry x + uptoBulkEntries r
def uptoBulkEntry {H : Type} : Lit × DataW H → Nat
  | (.string bytes, d) => bytes.length + uptoBulk d + 1
  | (_, d) => uptoBulk d + 1
 end
def uptoSmall : (H : Type) → List (DataW H) → Bool := fun _ ds => decide (uptoBulkAll ds ≤ 1048576)
def OpenSpec.upto (s : _root_.Go.ChangeSpec) : _root_.Go.OpenSpec := { _root_.Go.OpenSpec.ofChange s with cond := some uptoSmall }

/-- 'tollgatelaw04.BlockSeals', WHERE WHAT IT READS IS OF BULK AT MOST 1048576: true; the input reads as it did. -/
def blockSealsUptoRow : OpenClaim := { program := "ytjopgogaipkdbaa", sum := "5897b99a0390f8179c40b77cbbaf2137c22a554524918d97adef2f4f201b16d1", func := "tollgate/tollgatelaw04.BlockSeals", spec := "blockSeals", apart := false, narrowed := true }
def BlockSealsUptoSaid : Prop := blockSealsUptoRow.holds Try.pinned (OpenSpec.upto blockSealsSpec)

/-- 'tollgatelaw04.BlockKeys', WHERE WHAT IT READS IS OF BULK AT MOST 1048576: true; the input reads as it did. -/
def blockKeysUptoRow : OpenClaim := { program := "ytjopgogaipkdbaa", sum := "5897b99a0390f8179c40b77cbbaf2137c22a554524918d97adef2f4f201b16d1", func := "tollgate/tollgatelaw04.BlockKeys", spec := "blockKeys", apart := false, narrowed := true }
def BlockKeysUptoSaid : Prop := blockKeysUptoRow.holds Try.pinned (OpenSpec.upto blockKeysSpec)

/-- 'tollgatelaw04.BlockApart', WHERE WHAT IT READS IS OF BULK AT MOST 1048576: true; the input reads as it did. -/
def blockApartUptoRow : OpenClaim := { program := "ytjopgogaipkdbaa", sum := "5897b99a0390f8179c40b77cbbaf2137c22a554524918d97adef2f4f201b16d1", func := "tollgate/tollgatelaw04.BlockApart", spec := "blockApart", apart := false, narrowed := true }
def BlockApartUptoSaid : Prop := blockApartUptoRow.holds Try.pinned (OpenSpec.upto blockApartSpec)

/-- 'tollgatelaw04.BlockRounds', WHERE WHAT IT READS IS OF BULK AT MOST 1048576: true; the input reads as it did. -/
def blockRoundsUptoRow : OpenClaim := { program := "ytjopgogaipkdbaa", sum := "5897b99a0390f8179c40b77cbbaf2137c22a554524918d97adef2f4f201b16d1", func := "tollgate/tollgatelaw04.BlockRounds", spec := "blockRounds", apart := false, narrowed := true }
def BlockRoundsUptoSaid : Prop := blockRoundsUptoRow.holds Try.pinned (OpenSpec.upto blockRoundsSpec)

/-- 'tollgatelaw05.GcmFolds', WHERE WHAT IT READS IS OF BULK AT MOST 1048576: true; the input reads as it did. -/
def gcmFoldsUptoRow : OpenClaim := { program := "ytjopgogaipkdbaa", sum := "5897b99a0390f8179c40b77cbbaf2137c22a554524918d97adef2f4f201b16d1", func := "tollgate/tollgatelaw05.GcmFolds", spec := "gcmFolds", unfollowed := true, recurses := true, apart := false, narrowed := true }
def GcmFoldsUptoSaid : Prop := gcmFoldsUptoRow.holds Try.pinned (OpenSpec.upto gcmFoldsSpec)

/-- 'tollgatelaw05.GcmSizes', WHERE WHAT IT READS IS OF BULK AT MOST 1048576: true; the input reads as it did. -/
def gcmSizesUptoRow : OpenClaim := { program := "ytjopgogaipkdbaa", sum := "5897b99a0390f8179c40b77cbbaf2137c22a554524918d97adef2f4f201b16d1", func := "tollgate/tollgatelaw05.GcmSizes", spec := "gcmSizes", unfollowed := true, recurses := true, apart := false, narrowed := true }
def GcmSizesUptoSaid : Prop := gcmSizesUptoRow.holds Try.pinned (OpenSpec.upto gcmSizesSpec)

/-- 'tollgatelaw05.GcmStreams', WHERE WHAT IT READS IS OF BULK AT MOST 1048576: true; the input reads as it did. -/
def gcmStreamsUptoRow : OpenClaim := { program := "ytjopgogaipkdbaa", sum := "5897b99a0390f8179c40b77cbbaf2137c22a554524918d97adef2f4f201b16d1", func := "tollgate/tollgatelaw05.GcmStreams", spec := "gcmStreams", unfollowed := true, recurses := true, apart := false, narrowed := true }
def GcmStreamsUptoSaid : Prop := gcmStreamsUptoRow.holds Try.pinned (OpenSpec.upto gcmStreamsSpec)

/-- 'tollgatelaw05.GcmProducts', WHERE WHAT IT READS IS OF BULK AT MOST 1048576: true; the input reads as it did. -/
def gcmProductsUptoRow : OpenClaim := { program := "ytjopgogaipkdbaa", sum := "5897b99a0390f8179c40b77cbbaf2137c22a554524918d97adef2f4f201b16d1", func := "tollgate/tollgatelaw05.GcmProducts", spec := "gcmProducts", unfollowed := true, recurses := true, apart := false, narrowed := true }
def GcmProductsUptoSaid : Prop := gcmProductsUptoRow.holds Try.pinned (OpenSpec.upto gcmProductsSpec)

/-- 'tollgatelaw05.GcmSeals', WHERE WHAT IT READS IS OF BULK AT MOST 1048576: true; the input reads as it did. -/
def gcmSealsUptoRow : OpenClaim := { program := "ytjopgogaipkdbaa", sum := "5897b99a0390f8179c40b77cbbaf2137c22a554524918d97adef2f4f201b16d1", func := "tollgate/tollgatelaw05.GcmSeals", spec := "gcmSeals", unfollowed := true, recurses := true, apart := false, narrowed := true }
def GcmSealsUptoSaid : Prop := gcmSealsUptoRow.holds Try.pinned (OpenSpec.upto gcmSealsSpec)

/-- 'tollgatelaw05.GcmOpens', WHERE WHAT IT READS IS OF BULK AT MOST 1048576: true; the input reads as it did. -/
def gcmOpensUptoRow : OpenClaim := { program := "ytjopgogaipkdbaa", sum := "5897b99a0390f8179c40b77cbbaf2137c22a554524918d97adef2f4f201b16d1", func := "tollgate/tollgatelaw05.GcmOpens", spec := "gcmOpens", unfollowed := true, recurses := true, apart := false, narrowed := true }
def GcmOpensUptoSaid : Prop := gcmOpensUptoRow.holds Try.pinned (OpenSpec.upto gcmOpensSpec)

/-- 'tollgatelaw05.GcmBent', WHERE WHAT IT READS IS OF BULK AT MOST 1048576: true; the input reads as it did. -/
def gcmBentUptoRow : OpenClaim := { program := "ytjopgogaipkdbaa", sum := "5897b99a0390f8179c40b77cbbaf2137c22a554524918d97adef2f4f201b16d1", func := "tollgate/tollgatelaw05.GcmBent", spec := "gcmBent", unfollowed := true, recurses := true, apart := false, narrowed := true }
def GcmBentUptoSaid : Prop := gcmBentUptoRow.holds Try.pinned (OpenSpec.upto gcmBentSpec)

end Rows
end Go.Proofs.Ytjopgogaipkdbaa
