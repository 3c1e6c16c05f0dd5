/-
  DERIVED. GIVEN WITH THE SEED: THE PROGRAM's TIES (one call each: nine closed facts by the kernel) AND EACH ROW's TIE, after the 31st guide's Derived/Test/Toyas{Tie, Card}.lean. No idea stands in it: it is a product of the set-up. Laid BY PROGRAM, IN A SANDBOX (cutbox-door.mjs). By AI agents, Wed Nov 11 2026. No macro, syntax, notation, axiom, sorry.
-/
import Derived.Test.YtjpfhhndjpdmoaaGreatDoorRows
import Derived.LaidByTextLater
import Derived.SevenTiedAt
import Derived.LaidSub
import Derived.LaidOnce
namespace Go.Proofs.YtjpfhhndjpdmoaaGreatDoor
open Go
set_option maxRecDepth 100000
theorem seatTie1 : Tryz.prog.laidByTextLater [("tollgate/hash.start", Rows.laid_tollgate_hash_start), ("tollgate/hash.rounds", Rows.laid_tollgate_hash_rounds), ("tollgate/curve.prime", Rows.laid_tollgate_curve_prime), ("tollgate/curve.order", Rows.laid_tollgate_curve_order), ("tollgate/curve.coeff", Rows.laid_tollgate_curve_coeff), ("tollgate/curve.baseX", Rows.laid_tollgate_curve_baseX), ("tollgate/curve.baseY", Rows.laid_tollgate_curve_baseY), ("unicode/utf8.acceptRanges", Rows.laid_unicode_utf8_acceptRanges), ("errors.errorType", Rows.laid_errors_errorType), ("tollgate/old.sines", Rows.laid_tollgate_old_sines), ("tollgate/old.turns", Rows.laid_tollgate_old_turns)] [.data, .data, .data, .wider, .data, .wider, .wider, .data, .handle, .data, .data] true :=
  Program.laidByTextLater_by_one 71 8 65 (by kernel_rfl) (by kernel_rfl) (by kernel_rfl) (by kernel_rfl) (by kernel_rfl) (by kernel_rfl) (fun _ _ => by kernel_rfl)
theorem pin_laid_unicode_utf8_first : Tryz.pinned.checked.prog.pinnedFits "unicode/utf8.first" = true := by kernel_rfl
theorem noOwnUnsafe : Tryz.pinned.checked.prog.headLifts.contains "ownunsafe" = false := by kernel_rfl
theorem fits1 : Tryz.pinned.checked.prog.listedFits [("tollgate/hash.start", Rows.laid_tollgate_hash_start), ("tollgate/hash.rounds", Rows.laid_tollgate_hash_rounds), ("tollgate/curve.prime", Rows.laid_tollgate_curve_prime), ("tollgate/curve.order", Rows.laid_tollgate_curve_order), ("tollgate/curve.coeff", Rows.laid_tollgate_curve_coeff), ("tollgate/curve.baseX", Rows.laid_tollgate_curve_baseX), ("tollgate/curve.baseY", Rows.laid_tollgate_curve_baseY), ("unicode/utf8.acceptRanges", Rows.laid_unicode_utf8_acceptRanges), ("errors.errorType", Rows.laid_errors_errorType), ("unicode/utf8.first", Rows.laid_unicode_utf8_first)] = true := by
  unfold Program.listedFits
  rw [noOwnUnsafe]
  kernel_rfl
theorem tie : Tryz.prog.laidByTextLater [("tollgate/hash.start", Rows.laid_tollgate_hash_start), ("tollgate/hash.rounds", Rows.laid_tollgate_hash_rounds), ("tollgate/curve.prime", Rows.laid_tollgate_curve_prime), ("tollgate/curve.order", Rows.laid_tollgate_curve_order), ("tollgate/curve.coeff", Rows.laid_tollgate_curve_coeff), ("tollgate/curve.baseX", Rows.laid_tollgate_curve_baseX), ("tollgate/curve.baseY", Rows.laid_tollgate_curve_baseY), ("unicode/utf8.acceptRanges", Rows.laid_unicode_utf8_acceptRanges), ("errors.errorType", Rows.laid_errors_errorType)] [.data, .data, .data, .wider, .data, .wider, .wider, .data, .handle] true :=
  Program.laidByTextLater.sub seatTie1 ["tollgate/hash.start", "tollgate/hash.rounds", "tollgate/curve.prime", "tollgate/curve.order", "tollgate/curve.coeff", "tollgate/curve.baseX", "tollgate/curve.baseY", "unicode/utf8.acceptRanges", "errors.errorType"] (by kernel_rfl) (by kernel_rfl)
theorem peerNames_row_tie : Rows.peerNamesRow.laidByTextAt .later Tryz.pinned [.data, .data, .data, .wider, .data, .wider, .wider, .data, .handle, .pinned] true :=
  OpenClaim.laidByTextAt_pinned rfl rfl tie rfl rfl rfl rfl (fun y hy _e => by
    simp only [Rows.peerNamesRow, List.zip_cons_cons, List.zip_nil_right, List.mem_cons, List.mem_nil_iff, or_false] at hy
    rcases hy with rfl | rfl | rfl | rfl | rfl | rfl | rfl | rfl | rfl | rfl
    · cases _e
    · cases _e
    · cases _e
    · cases _e
    · cases _e
    · cases _e
    · cases _e
    · cases _e
    · cases _e
    · exact ⟨pin_laid_unicode_utf8_first, by kernel_rfl⟩) fits1
theorem peerNaks_row_tie : Rows.peerNaksRow.laidByTextAt .later Tryz.pinned [.data, .data, .data, .wider, .data, .wider, .wider, .data, .handle, .pinned] true :=
  OpenClaim.laidByTextAt_pinned rfl rfl tie rfl rfl rfl rfl (fun y hy _e => by
    simp only [Rows.peerNaksRow, List.zip_cons_cons, List.zip_nil_right, List.mem_cons, List.mem_nil_iff, or_false] at hy
    rcases hy with rfl | rfl | rfl | rfl | rfl | rfl | rfl | rfl | rfl | rfl
    · cases _e
    · cases _e
    · cases _e
    · cases _e
    · cases _e
    · cases _e
    · cases _e
    · cases _e
    · cases _e
    · exact ⟨pin_laid_unicode_utf8_first, by kernel_rfl⟩) fits1
theorem peerWaits_row_tie : Rows.peerWaitsRow.laidByTextAt .later Tryz.pinned [.data, .data, .data, .wider, .data, .wider, .wider, .data, .handle, .pinned] true :=
  OpenClaim.laidByTextAt_pinned rfl rfl tie rfl rfl rfl rfl (fun y hy _e => by
    simp only [Rows.peerWaitsRow, List.zip_cons_cons, List.zip_nil_right, List.mem_cons, List.mem_nil_iff, or_false] at hy
    rcases hy with rfl | rfl | rfl | rfl | rfl | rfl | rfl | rfl | rfl | rfl
    · cases _e
    · cases _e
    · cases _e
    · cases _e
    · cases _e
    · cases _e
    · cases _e
    · cases _e
    · cases _e
    · exact ⟨pin_laid_unicode_utf8_first, by kernel_rfl⟩) fits1
theorem peerEnds_row_tie : Rows.peerEndsRow.laidByTextAt .later Tryz.pinned [.data, .data, .data, .wider, .data, .wider, .wider, .data, .handle, .pinned] true :=
  OpenClaim.laidByTextAt_pinned rfl rfl tie rfl rfl rfl rfl (fun y hy _e => by
    simp only [Rows.peerEndsRow, List.zip_cons_cons, List.zip_nil_right, List.mem_cons, List.mem_nil_iff, or_false] at hy
    rcases hy with rfl | rfl | rfl | rfl | rfl | rfl | rfl | rfl | rfl | rfl
    · cases _e
    · cases _e
    · cases _e
    · cases _e
    · cases _e
    · cases _e
    · cases _e
    · cases _e
    · cases _e
    · exact ⟨pin_laid_unicode_utf8_first, by kernel_rfl⟩) fits1
theorem fits2 : Tryz.pinned.checked.prog.listedFits [("tollgate/hash.start", Rows.laid_tollgate_hash_start), ("tollgate/hash.rounds", Rows.laid_tollgate_hash_rounds), ("tollgate/curve.prime", Rows.laid_tollgate_curve_prime), ("tollgate/curve.order", Rows.laid_tollgate_curve_order), ("tollgate/curve.coeff", Rows.laid_tollgate_curve_coeff), ("tollgate/curve.baseX", Rows.laid_tollgate_curve_baseX), ("tollgate/curve.baseY", Rows.laid_tollgate_curve_baseY), ("unicode/utf8.acceptRanges", Rows.laid_unicode_utf8_acceptRanges), ("errors.errorType", Rows.laid_errors_errorType), ("tollgate/old.sines", Rows.laid_tollgate_old_sines), ("tollgate/old.turns", Rows.laid_tollgate_old_turns), ("unicode/utf8.first", Rows.laid_unicode_utf8_first)] = true := by
  unfold Program.listedFits
  rw [noOwnUnsafe]
  kernel_rfl
theorem tie2 : Tryz.prog.laidByTextLater [("tollgate/hash.start", Rows.laid_tollgate_hash_start), ("tollgate/hash.rounds", Rows.laid_tollgate_hash_rounds), ("tollgate/curve.prime", Rows.laid_tollgate_curve_prime), ("tollgate/curve.order", Rows.laid_tollgate_curve_order), ("tollgate/curve.coeff", Rows.laid_tollgate_curve_coeff), ("tollgate/curve.baseX", Rows.laid_tollgate_curve_baseX), ("tollgate/curve.baseY", Rows.laid_tollgate_curve_baseY), ("unicode/utf8.acceptRanges", Rows.laid_unicode_utf8_acceptRanges), ("errors.errorType", Rows.laid_errors_errorType), ("tollgate/old.sines", Rows.laid_tollgate_old_sines), ("tollgate/old.turns", Rows.laid_tollgate_old_turns)] [.data, .data, .data, .wider, .data, .wider, .wider, .data, .handle, .data, .data] true :=
  Program.laidByTextLater.sub seatTie1 ["tollgate/hash.start", "tollgate/hash.rounds", "tollgate/curve.prime", "tollgate/curve.order", "tollgate/curve.coeff", "tollgate/curve.baseX", "tollgate/curve.baseY", "unicode/utf8.acceptRanges", "errors.errorType", "tollgate/old.sines", "tollgate/old.turns"] (by kernel_rfl) (by kernel_rfl)
theorem serverAgain_row_tie : Rows.serverAgainRow.laidByTextAt .later Tryz.pinned [.data, .data, .data, .wider, .data, .wider, .wider, .data, .handle, .data, .data, .pinned] true :=
  OpenClaim.laidByTextAt_pinned rfl rfl tie2 rfl rfl rfl rfl (fun y hy _e => by
    simp only [Rows.serverAgainRow, List.zip_cons_cons, List.zip_nil_right, List.mem_cons, List.mem_nil_iff, or_false] at hy
    rcases hy with rfl | rfl | rfl | rfl | rfl | rfl | rfl | rfl | rfl | rfl | rfl | rfl
    · cases _e
    · cases _e
    · cases _e
    · cases _e
    · cases _e
    · cases _e
    · cases _e
    · cases _e
    · cases _e
    · cases _e
    · cases _e
    · exact ⟨pin_laid_unicode_utf8_first, by kernel_rfl⟩) fits2
theorem serverNaks_row_tie : Rows.serverNaksRow.laidByTextAt .later Tryz.pinned [.data, .data, .data, .wider, .data, .wider, .wider, .data, .handle, .data, .data, .pinned] true :=
  OpenClaim.laidByTextAt_pinned rfl rfl tie2 rfl rfl rfl rfl (fun y hy _e => by
    simp only [Rows.serverNaksRow, List.zip_cons_cons, List.zip_nil_right, List.mem_cons, List.mem_nil_iff, or_false] at hy
    rcases hy with rfl | rfl | rfl | rfl | rfl | rfl | rfl | rfl | rfl | rfl | rfl | rfl
    · cases _e
    · cases _e
    · cases _e
    · cases _e
    · cases _e
    · cases _e
    · cases _e
    · cases _e
    · cases _e
    · cases _e
    · cases _e
    · exact ⟨pin_laid_unicode_utf8_first, by kernel_rfl⟩) fits2
theorem serverFull_row_tie : Rows.serverFullRow.laidByTextAt .later Tryz.pinned [.data, .data, .data, .wider, .data, .wider, .wider, .data, .handle, .data, .data, .pinned] true :=
  OpenClaim.laidByTextAt_pinned rfl rfl tie2 rfl rfl rfl rfl (fun y hy _e => by
    simp only [Rows.serverFullRow, List.zip_cons_cons, List.zip_nil_right, List.mem_cons, List.mem_nil_iff, or_false] at hy
    rcases hy with rfl | rfl | rfl | rfl | rfl | rfl | rfl | rfl | rfl | rfl | rfl | rfl
    · cases _e
    · cases _e
    · cases _e
    · cases _e
    · cases _e
    · cases _e
    · cases _e
    · cases _e
    · cases _e
    · cases _e
    · cases _e
    · exact ⟨pin_laid_unicode_utf8_first, by kernel_rfl⟩) fits2
theorem peerNamesUpto_row_tie : Rows.peerNamesUptoRow.laidByTextAt .later Tryz.pinned [.data, .data, .data, .wider, .data, .wider, .wider, .data, .handle, .pinned] true :=
  OpenClaim.laidByTextAt_pinned rfl rfl tie rfl rfl rfl rfl (fun y hy _e => by
    simp only [Rows.peerNamesUptoRow, List.zip_cons_cons, List.zip_nil_right, List.mem_cons, List.mem_nil_iff, or_false] at hy
    rcases hy with rfl | rfl | rfl | rfl | rfl | rfl | rfl | rfl | rfl | rfl
    · cases _e
    · cases _e
    · cases _e
    · cases _e
    · cases _e
    · cases _e
    · cases _e
    · cases _e
    · cases _e
    · exact ⟨pin_laid_unicode_utf8_first, by kernel_rfl⟩) fits1
theorem peerNaksUpto_row_tie : Rows.peerNaksUptoRow.laidByTextAt .later Tryz.pinned [.data, .data, .data, .wider, .data, .wider, .wider, .data, .handle, .pinned] true :=
  OpenClaim.laidByTextAt_pinned rfl rfl tie rfl rfl rfl rfl (fun y hy _e => by
    simp only [Rows.peerNaksUptoRow, List.zip_cons_cons, List.zip_nil_right, List.mem_cons, List.mem_nil_iff, or_false] at hy
    rcases hy with rfl | rfl | rfl | rfl | rfl | rfl | rfl | rfl | rfl | rfl
    · cases _e
    · cases _e
    · cases _e
    · cases _e
    · cases _e
    · cases _e
    · cases _e
    · cases _e
    · cases _e
    · exact ⟨pin_laid_unicode_utf8_first, by kernel_rfl⟩) fits1
theorem peerWaitsUpto_row_tie : Rows.peerWaitsUptoRow.laidByTextAt .later Tryz.pinned [.data, .data, .data, .wider, .data, .wider, .wider, .data, .handle, .pinned] true :=
  OpenClaim.laidByTextAt_pinned rfl rfl tie rfl rfl rfl rfl (fun y hy _e => by
    simp only [Rows.peerWaitsUptoRow, List.zip_cons_cons, List.zip_nil_right, List.mem_cons, List.mem_nil_iff, or_false] at hy
    rcases hy with rfl | rfl | rfl | rfl | rfl | rfl | rfl | rfl | rfl | rfl
    · cases _e
    · cases _e
    · cases _e
    · cases _e
    · cases _e
    · cases _e
    · cases _e
    · cases _e
    · cases _e
    · exact ⟨pin_laid_unicode_utf8_first, by kernel_rfl⟩) fits1
theorem peerEndsUpto_row_tie : Rows.peerEndsUptoRow.laidByTextAt .later Tryz.pinned [.data, .data, .data, .wider, .data, .wider, .wider, .data, .handle, .pinned] true :=
  OpenClaim.laidByTextAt_pinned rfl rfl tie rfl rfl rfl rfl (fun y hy _e => by
    simp only [Rows.peerEndsUptoRow, List.zip_cons_cons, List.zip_nil_right, List.mem_cons, List.mem_nil_iff, or_false] at hy
    rcases hy with rfl | rfl | rfl | rfl | rfl | rfl | rfl | rfl | rfl | rfl
    · cases _e
    · cases _e
    · cases _e
    · cases _e
    · cases _e
    · cases _e
    · cases _e
    · cases _e
    · cases _e
    · exact ⟨pin_laid_unicode_utf8_first, by kernel_rfl⟩) fits1
theorem serverAgainUpto_row_tie : Rows.serverAgainUptoRow.laidByTextAt .later Tryz.pinned [.data, .data, .data, .wider, .data, .wider, .wider, .data, .handle, .data, .data, .pinned] true :=
  OpenClaim.laidByTextAt_pinned rfl rfl tie2 rfl rfl rfl rfl (fun y hy _e => by
    simp only [Rows.serverAgainUptoRow, List.zip_cons_cons, List.zip_nil_right, List.mem_cons, List.mem_nil_iff, or_false] at hy
    rcases hy with rfl | rfl | rfl | rfl | rfl | rfl | rfl | rfl | rfl | rfl | rfl | rfl
    · cases _e
    · cases _e
    · cases _e
    · cases _e
    · cases _e
    · cases _e
    · cases _e
    · cases _e
    · cases _e
    · cases _e
    · cases _e
    · exact ⟨pin_laid_unicode_utf8_first, by kernel_rfl⟩) fits2
theorem serverNaksUpto_row_tie : Rows.serverNaksUptoRow.laidByTextAt .later Tryz.pinned [.data, .data, .data, .wider, .data, .wider, .wider, .data, .handle, .data, .data, .pinned] true :=
  OpenClaim.laidByTextAt_pinned rfl rfl tie2 rfl rfl rfl rfl (fun y hy _e => by
    simp only [Rows.serverNaksUptoRow, List.zip_cons_cons, List.zip_nil_right, List.mem_cons, List.mem_nil_iff, or_false] at hy
    rcases hy with rfl | rfl | rfl | rfl | rfl | rfl | rfl | rfl | rfl | rfl | rfl | rfl
    · cases _e
    · cases _e
    · cases _e
    · cases _e
    · cases _e
    · cases _e
    · cases _e
    · cases _e
    · cases _e
    · cases _e
    · cases _e
    · exact ⟨pin_laid_unicode_utf8_first, by kernel_rfl⟩) fits2
theorem serverFullUpto_row_tie : Rows.serverFullUptoRow.laidByTextAt .later Tryz.pinned [.data, .data, .data, .wider, .data, .wider, .wider, .data, .handle, .data, .data, .pinned] true :=
  OpenClaim.laidByTextAt_pinned rfl rfl tie2 rfl rfl rfl rfl (fun y hy _e => by
    simp only [Rows.serverFullUptoRow, List.zip_cons_cons, List.zip_nil_right, List.mem_cons, List.mem_nil_iff, or_false] at hy
    rcases hy with rfl | rfl | rfl | rfl | rfl | rfl | rfl | rfl | rfl | rfl | rfl | rfl
    · cases _e
    · cases _e
    · cases _e
    · cases _e
    · cases _e
    · cases _e
    · cases _e
    · cases _e
    · cases _e
    · cases _e
    · cases _e
    · exact ⟨pin_laid_unicode_utf8_first, by kernel_rfl⟩) fits2
end Go.Proofs.YtjpfhhndjpdmoaaGreatDoor
