/- Part of the proof: HGuessG, HRRead, HRReadB. No conditions of its own. -/
import Derived.Below
import Derived.BigQuiet
import Derived.ChangeOld
import Derived.Deep.AppendLies
import Derived.Deep.CutBlock
import Derived.Deep.DeepCutAuto
import Derived.Deep.Draws
import Derived.Deep.LoopGhost
import Derived.Deep.Quiet
import Derived.Deep.QuietTactic
import Derived.Deep.RegionLaw
import Derived.Great.BuildSlice
import Derived.Great.FillDense
import Derived.Laws.AppendOwn
import Derived.Laws.AppendOwnNone
import Derived.Laws.BytesArg
import Derived.Laws.Concat
import Derived.Laws.MakeOwn
import Derived.Lib.AppendZerosOnto
import Derived.Lib.BufferWrite
import Derived.Lib.ConvBytes
import Derived.Lib.Hide
import Derived.Lib.SlBytesConst
import Derived.OpenShut
import Derived.ProofKit
import Derived.ShutString
import Derived.StillTail
import Derived.Stop.BytesEq
import Derived.Test.YtnenoecmmelehaaProg
import Derived.WalkKit
import Derived.WalkLawsBesides
import Derived.WalkSpells
import Derived.Test.YtnenoecmmelehaaK40
import Derived.Test.YtnenoecmmelehaaK47
import Derived.Test.YtnenoecmmelehaaK48
import Derived.Test.YtnenoecmmelehaaK49
import Derived.Test.YtnenoecmmelehaaK50
import Derived.Test.YtnenoecmmelehaaK45
namespace Go.Proofs.Ytnenoecmmelehaa
open Go.RowKit
set_option linter.unusedVariables false

theorem guessP_e {k : Int} (b : List UInt8) (h1 : k ≠ 1) (h2 : k ≠ 2) (h4 : k ≠ 4) (h11 : k ≠ 11) (h15 : k ≠ 15) (h20 : k ≠ 20) : guessP k b = emptyM k := by
  unfold guessP; rw [if_neg h1, if_neg h2, if_neg h4, if_neg h11, if_neg h15, if_neg h20]
theorem to_T {k : Int} {b : List UInt8} {w : World} {m : MsgP} (h : Calls Try.prog 31 #[.int .i64 k, S b] w fun e w' => ∃ C, e = .returned (.agg C) ∧ RMsgAt w' C m ∧ Below w.heap.size w w') (hc : m.certs = []) :
    Calls Try.prog 31 #[.int .i64 k, S b] w fun e w' => ∃ C, e = .returned (.agg C) ∧ RMsgT w' C m ∧ Below w.heap.size w w' := by
  refine h.mono ?_
  rintro e w' ⟨C, h1, h2, h3⟩
  exact ⟨C, h1, ⟨h2, .inl hc⟩, h3⟩
theorem guess_any (k : Int) (b : List UInt8) (w : World) (hl : b.length ≤ 1000000) :
    Calls Try.prog 31 #[.int .i64 k, S b] w fun e w' => ∃ C, e = .returned (.agg C) ∧ RMsgT w' C (guessP k b) ∧ Below w.heap.size w w' := by
  by_cases h1 : k = 1
  · subst h1
    rw [guessP_1]
    by_cases hs : 0 < getP b (g_p b - 2) 2 <;> by_cases hq : g_q b < b.length
    · have := to_T (guess_w1sp b w hl hs hq) rfl
      rwa [show guess1 b = _ by unfold guess1 g_share; rw [if_pos hq, if_pos hs]]
    · have := to_T (guess_w1sn b w hl hs hq) rfl
      rwa [show guess1 b = _ by unfold guess1 g_share; rw [if_neg hq, if_pos hs]]
    · have := to_T (guess_w1np b w hl hs hq) rfl
      rwa [show guess1 b = _ by unfold guess1 g_share; rw [if_pos hq, if_neg hs]]
    · have := to_T (guess_w1nn b w hl hs hq) rfl
      rwa [show guess1 b = _ by unfold guess1 g_share; rw [if_neg hq, if_neg hs]]
  by_cases h2 : k = 2
  · subst h2
    rw [guessP_2]
    by_cases ha : atP b 2 32 = hAgain
    · have := to_T (guess_w2a b w hl ha) rfl
      rwa [show guess2 b = _ by unfold guess2; rw [if_pos ha]]
    · by_cases hq : 50 + g_n b + 69 < b.length
      · have := to_T (guess_w2p b w hl ha hq) rfl
        rwa [show guess2 b = _ by unfold guess2; rw [if_neg ha, decide_eq_true hq]]
      · have := to_T (guess_w2n b w hl ha hq) rfl
        rwa [show guess2 b = _ by unfold guess2; rw [if_neg ha, decide_eq_false hq]]
  by_cases h4 : k = 4
  · subst h4; rw [guessP_4]; exact to_T (guess_w4 b w hl) rfl
  by_cases h11 : k = 11
  · subst h11; rw [guessP_11]; exact guess_w11 b w hl
  by_cases h15 : k = 15
  · subst h15; rw [guessP_15]; exact to_T (guess_w15 b w hl) rfl
  by_cases h20 : k = 20
  · subst h20; rw [guessP_20]; exact to_T (guess_w20 b w hl) rfl
  rw [guessP_e b h1 h2 h4 h11 h15 h20]
  exact to_T (guess_e k b w hl h1 h2 h4 h11 h15 h20) rfl
theorem headN_eq (b : List UInt8) (h : 4 ≤ b.length) : getP b 1 3 = headN b := by
  match b, h with
  | x :: p :: q :: s :: r, _ =>
    unfold getP atP takeV headN
    rw [if_neg (by simp)]
    show valP [p, q, s] = _
    simp only [valP, List.foldl_cons, List.foldl_nil, gb, List.getD_cons_succ, List.getD_cons_zero]
    show ((0 * 256 + p.toNat) * 256 + q.toNat) * 256 + s.toNat = p.toNat * 65536 + q.toNat * 256 + s.toNat
    omega
end Go.Proofs.Ytnenoecmmelehaa

namespace Go.Proofs.Ytnenoecmmelehaa
open Go.RowKit
set_option linter.unusedVariables false
set_option linter.unusedSimpArgs false

theorem zMsg_one : allOne zMsg = true := by kernel_rfl
theorem zMsg_over : over zMsg 0 zMsg = zMsg := over_all _ _ rfl
attribute [local go_sem] zMsg_one zMsg_over zMsg_size ext_S
def RReadSt (w : World) (r : MsgP × Nat × Int) (e : Ending) (w' : World) : Prop := ∃ C, e = .returned (.tuple #[.agg C, .int .i64 (r.2.1 : Int), .int .i64 r.2.2]) ∧ RMsgT w' C r.1 ∧ Below w.heap.size w w'
theorem RMsgT.empty (w : World) : RMsgT w zMsg (emptyM 0) := ⟨⟨none, 0, by unfold zMsg; exact mD_of rfl rfl, strs_nil w, rfl, rfl⟩, .inl rfl⟩
set_option maxRecDepth 100000 in
set_option maxHeartbeats 4000000 in
theorem rread_nil (b : List UInt8) (w : World) (hl : b.length ≤ 1000000) (h0 : b.length = 0) : Calls Try.prog 17 #[S b] w (RReadSt w (emptyM 0, 0, 3)) := by
  obtain rfl : b = [] := List.eq_nil_of_length_eq_zero h0
  go_enter Try.func17, Try.ntmps17
  go_upto_region 1 with (fail)
  refine gen_wp (fun w0 => Row w0 w.heap.size 25 zMsg ∧ Below w.heap.size w w0) ⟨Row.new w _ _, (Below.refl _ _).alloc (Nat.le_refl _) _⟩ ?_
  rintro w0 ⟨hr, hB⟩
  go_wp2_with fail
  exact ret_row3 (.inl rfl) rfl w.heap.size _ _ 75 _ _ _ rfl (hr.setRow _) Try.underlying25 rfl (by kernel_rfl) zMsg_size rfl rfl ⟨zMsg, rfl, RMsgT.empty _, bSetRow hB (Nat.le_refl _) _⟩
set_option maxRecDepth 100000 in
set_option maxHeartbeats 4000000 in
theorem rread_form (b : List UInt8) (w : World) (hl : b.length ≤ 1000000) (h0 : 0 < b.length) (hk : isKindP (gb b 0).toNat = false) : Calls Try.prog 17 #[S b] w (RReadSt w (emptyM 0, 0, 2)) := by
  obtain ⟨x, hx⟩ : ∃ x, x = gb b 0 := ⟨_, rfl⟩
  have hgx : gb b 0 = x := hx.symm
  have HX := Lib.hid hx
  rw [← hx] at hk
  clear hx
  have hne : b ≠ [] := by rintro rfl; simp at h0
  have hne2 : (b == []) = false := beq_false_of_ne hne
  have x1 : (0 : Int) < (b.length : Int) := by omega
  have x0 : 0 < b.length := by omega
  go_enter Try.func17, Try.ntmps17
  go_upto_region 1 with (fail)
  refine gen_wp (fun w0 => Row w0 w.heap.size 25 zMsg ∧ Below w.heap.size w w0) ⟨Row.new w _ _, (Below.refl _ _).alloc (Nat.le_refl _) _⟩ ?_
  rintro w0 ⟨hr, hB⟩
  unfold isKindP at hk
  simp only [Bool.or_eq_false_iff, beq_eq_false_iff_ne] at hk
  obtain ⟨⟨⟨⟨⟨⟨⟨k1, k2⟩, k3⟩, k4⟩, k5⟩, k6⟩, k7⟩, k8⟩ := hk
  have y1 : ¬ ((x.toNat : Nat) : Int) = 1 := by omega
  have y2 : ¬ ((x.toNat : Nat) : Int) = 2 := by omega
  have y3 : ¬ ((x.toNat : Nat) : Int) = 4 := by omega
  have y4 : ¬ ((x.toNat : Nat) : Int) = 8 := by omega
  have y5 : ¬ ((x.toNat : Nat) : Int) = 11 := by omega
  have y6 : ¬ ((x.toNat : Nat) : Int) = 13 := by omega
  have y7 : ¬ ((x.toNat : Nat) : Int) = 15 := by omega
  have y8 : ¬ ((x.toNat : Nat) : Int) = 20 := by omega
  clear k1 k2 k3 k4 k5 k6 k7 k8
  go_wp2_with fail
  exact ret_row3 (.inl rfl) rfl w.heap.size _ _ 75 _ _ _ rfl (hr.setRow _) Try.underlying25 rfl (by kernel_rfl) zMsg_size rfl rfl ⟨zMsg, rfl, RMsgT.empty _, bSetRow hB (Nat.le_refl _) _⟩
set_option maxRecDepth 100000 in
set_option maxHeartbeats 4000000 in
theorem rread_tail (b : List UInt8) (w : World) (hl : b.length ≤ 1000000) (h0 : 0 < b.length) (hk : isKindP (gb b 0).toNat = true) (h4 : b.length < 4) : Calls Try.prog 17 #[S b] w (RReadSt w (emptyM 0, 0, 3)) := by
  obtain ⟨x, hx⟩ : ∃ x, x = gb b 0 := ⟨_, rfl⟩
  have hgx : gb b 0 = x := hx.symm
  have HX := Lib.hid hx
  rw [← hx] at hk
  clear hx
  have hne : b ≠ [] := by rintro rfl; simp at h0
  have hne2 : (b == []) = false := beq_false_of_ne hne
  have x1 : (0 : Int) < (b.length : Int) := by omega
  have x0 : 0 < b.length := by omega
  have x2 : (b.length : Int) < 4 := by omega
  go_enter Try.func17, Try.ntmps17
  go_upto_region 1 with (fail)
  refine gen_wp (fun w0 => Row w0 w.heap.size 25 zMsg ∧ Below w.heap.size w w0) ⟨Row.new w _ _, (Below.refl _ _).alloc (Nat.le_refl _) _⟩ ?_
  rintro w0 ⟨hr, hB⟩
  go_upto_block 0 with (fail)
  go_cut [] (fun wr => wr = w0)
  case first =>
    unfold isKindP at hk
    simp only [Bool.or_eq_true, beq_iff_eq] at hk
    have hk8 : ((x.toNat : Nat) : Int) = 1 ∨ ((x.toNat : Nat) : Int) = 2 ∨ ((x.toNat : Nat) : Int) = 4 ∨ ((x.toNat : Nat) : Int) = 8 ∨ ((x.toNat : Nat) : Int) = 11 ∨ ((x.toNat : Nat) : Int) = 13 ∨ ((x.toNat : Nat) : Int) = 15 ∨ ((x.toNat : Nat) : Int) = 20 := by omega
    clear hk
    rcases hk8 with y | y | y | y | y | y | y | y
    all_goals
      go_wp2_with fail
      go_meet
      case rel => rfl
  case rest =>
  subst hcut
  clear hne hne2 hk
  go_wp2_with fail
  exact ret_row3 (.inl rfl) rfl w.heap.size _ _ 75 _ _ _ rfl (hr.setRow _) Try.underlying25 rfl (by kernel_rfl) zMsg_size rfl rfl ⟨zMsg, rfl, RMsgT.empty _, bSetRow hB (Nat.le_refl _) _⟩
end Go.Proofs.Ytnenoecmmelehaa

namespace Go.Proofs.Ytnenoecmmelehaa
open Go.RowKit
set_option linter.unusedVariables false
set_option linter.unusedSimpArgs false
attribute [local go_sem] zMsg_one zMsg_over zMsg_size ext_S ext0_S
theorem RMsgAt.size {w : World} {C : Array Value} {m : MsgP} (h : RMsgAt w C m) : C.size = 75 ∧ allOne C = true ∧ over zMsg 0 C = C := by
  obtain ⟨a, c, rfl, _⟩ := h
  exact ⟨mD_sz, by rw [mD_one]; rfl, over_all _ _ (zMsg_size.trans mD_sz.symm)⟩
set_option maxRecDepth 100000 in
set_option maxHeartbeats 4000000 in
theorem rread_big (b : List UInt8) (w : World) (hl : b.length ≤ 1000000) (h0 : 4 ≤ b.length) (hk : isKindP (gb b 0).toNat = true) (hb : 32768 < headN b) : Calls Try.prog 17 #[S b] w (RReadSt w (emptyM 0, 0, 4)) := by
  obtain ⟨x, hx⟩ : ∃ x, x = gb b 0 := ⟨_, rfl⟩
  have hgx : gb b 0 = x := hx.symm
  have HX := Lib.hid hx
  rw [← hx] at hk
  clear hx
  have hne : b ≠ [] := by rintro rfl; simp at h0
  have hne2 : (b == []) = false := beq_false_of_ne hne
  have x1 : (0 : Int) < (b.length : Int) := by omega
  have x0 : 0 < b.length := by omega
  have x2 : ¬ (b.length : Int) < 4 := by omega
  have x3 : (b.length : Int) ≤ 1000000 := by omega
  have HG := Lib.hid (fun w' => get_any b 1 3 w' hl (by decide) (by decide))
  rw [headN_eq b h0] at HG
  have hn0 : headN b < 16777216 := by
    have := (gb b 1).toNat_lt
    have := (gb b 2).toNat_lt
    have := (gb b 3).toNat_lt
    unfold headN; omega
  obtain ⟨n, hn⟩ : ∃ n, n = headN b := ⟨_, rfl⟩
  have HN := Lib.hid hn
  rw [← hn] at HG hn0
  have H0 := Lib.hid h0
  clear hn h0
  go_enter Try.func17, Try.ntmps17
  go_upto_region 1 with (fail)
  refine gen_wp (fun w0 => Row w0 w.heap.size 25 zMsg ∧ Below w.heap.size w w0) ⟨Row.new w _ _, (Below.refl _ _).alloc (Nat.le_refl _) _⟩ ?_
  rintro w0 ⟨hr, hB⟩
  go_upto_block 0 with (fail)
  go_cut [] (fun wr => wr = w0)
  case first =>
    unfold isKindP at hk
    simp only [Bool.or_eq_true, beq_iff_eq] at hk
    have hk8 : ((x.toNat : Nat) : Int) = 1 ∨ ((x.toNat : Nat) : Int) = 2 ∨ ((x.toNat : Nat) : Int) = 4 ∨ ((x.toNat : Nat) : Int) = 8 ∨ ((x.toNat : Nat) : Int) = 11 ∨ ((x.toNat : Nat) : Int) = 13 ∨ ((x.toNat : Nat) : Int) = 15 ∨ ((x.toNat : Nat) : Int) = 20 := by omega
    clear hk
    rcases hk8 with y | y | y | y | y | y | y | y
    all_goals
      go_wp2_with fail
      go_meet
      case rel => rfl
  case rest =>
  subst hcut
  clear hne hne2 hk
  go_wp2_with fail
  refine (HG.out _).mono ?_
  rintro e w1 ⟨rfl, hB1⟩
  have hr := Row.below hr hB1 hr.lt
  have hB := hB.trans (hB1.mono hB.size)
  clear hB1 HG
  have x4 : (0 : Int) ≤ (n : Int) := by omega
  clear hn0
  have hb' : 32768 < n := HN.out ▸ hb
  have z1 : (32768 : Int) < (n : Int) := by omega
  clear hb hb'
  go_wp2_with fail
  exact ret_row3 (.inl rfl) rfl w.heap.size _ _ 75 _ _ _ rfl (hr.setRow _) Try.underlying25 rfl (by kernel_rfl) zMsg_size rfl rfl ⟨zMsg, rfl, RMsgT.empty _, bSetRow hB (Nat.le_refl _) _⟩
set_option maxRecDepth 100000 in
set_option maxHeartbeats 4000000 in
theorem rread_more (b : List UInt8) (w : World) (hl : b.length ≤ 1000000) (h0 : 4 ≤ b.length) (hk : isKindP (gb b 0).toNat = true) (h1 : headN b ≤ 32768) (h2 : b.length < 4 + headN b) : Calls Try.prog 17 #[S b] w (RReadSt w (emptyM 0, 0, 3)) := by
  obtain ⟨x, hx⟩ : ∃ x, x = gb b 0 := ⟨_, rfl⟩
  have hgx : gb b 0 = x := hx.symm
  have HX := Lib.hid hx
  rw [← hx] at hk
  clear hx
  have hne : b ≠ [] := by rintro rfl; simp at h0
  have hne2 : (b == []) = false := beq_false_of_ne hne
  have x1 : (0 : Int) < (b.length : Int) := by omega
  have x0 : 0 < b.length := by omega
  have x2 : ¬ (b.length : Int) < 4 := by omega
  have x3 : (b.length : Int) ≤ 1000000 := by omega
  have HG := Lib.hid (fun w' => get_any b 1 3 w' hl (by decide) (by decide))
  rw [headN_eq b h0] at HG
  have hn0 : headN b < 16777216 := by
    have := (gb b 1).toNat_lt
    have := (gb b 2).toNat_lt
    have := (gb b 3).toNat_lt
    unfold headN; omega
  obtain ⟨n, hn⟩ : ∃ n, n = headN b := ⟨_, rfl⟩
  have HN := Lib.hid hn
  rw [← hn] at HG hn0
  have H0 := Lib.hid h0
  clear hn h0
  go_enter Try.func17, Try.ntmps17
  go_upto_region 1 with (fail)
  refine gen_wp (fun w0 => Row w0 w.heap.size 25 zMsg ∧ Below w.heap.size w w0) ⟨Row.new w _ _, (Below.refl _ _).alloc (Nat.le_refl _) _⟩ ?_
  rintro w0 ⟨hr, hB⟩
  go_upto_block 0 with (fail)
  go_cut [] (fun wr => wr = w0)
  case first =>
    unfold isKindP at hk
    simp only [Bool.or_eq_true, beq_iff_eq] at hk
    have hk8 : ((x.toNat : Nat) : Int) = 1 ∨ ((x.toNat : Nat) : Int) = 2 ∨ ((x.toNat : Nat) : Int) = 4 ∨ ((x.toNat : Nat) : Int) = 8 ∨ ((x.toNat : Nat) : Int) = 11 ∨ ((x.toNat : Nat) : Int) = 13 ∨ ((x.toNat : Nat) : Int) = 15 ∨ ((x.toNat : Nat) : Int) = 20 := by omega
    clear hk
    rcases hk8 with y | y | y | y | y | y | y | y
    all_goals
      go_wp2_with fail
      go_meet
      case rel => rfl
  case rest =>
  subst hcut
  clear hne hne2 hk
  go_wp2_with fail
  refine (HG.out _).mono ?_
  rintro e w1 ⟨rfl, hB1⟩
  have hr := Row.below hr hB1 hr.lt
  have hB := hB.trans (hB1.mono hB.size)
  clear hB1 HG
  have x4 : (0 : Int) ≤ (n : Int) := by omega
  clear hn0
  have h1' : n ≤ 32768 := HN.out ▸ h1
  have h2' : b.length < 4 + n := HN.out ▸ h2
  have z1 : ¬ (32768 : Int) < (n : Int) := by omega
  have z2 : (b.length : Int) - 4 < (n : Int) := by omega
  have z3 : (n : Int) ≤ 32768 := by omega
  clear h1 h2 h1' h2'
  go_wp2_with fail
  exact ret_row3 (.inl rfl) rfl w.heap.size _ _ 75 _ _ _ rfl (hr.setRow _) Try.underlying25 rfl (by kernel_rfl) zMsg_size rfl rfl ⟨zMsg, rfl, RMsgT.empty _, bSetRow hB (Nat.le_refl _) _⟩
set_option maxRecDepth 100000 in
set_option maxHeartbeats 4000000 in
theorem rread_yes (b : List UInt8) (w : World) (hl : b.length ≤ 1000000) (h0 : 4 ≤ b.length) (hk : isKindP (gb b 0).toNat = true) (h1 : headN b ≤ 32768) (h2 : 4 + headN b ≤ b.length) (hrt : rightP (guessP ((gb b 0).toNat : Int) ((b.drop 4).take (headN b))) = true) (hwr : writeP (guessP ((gb b 0).toNat : Int) ((b.drop 4).take (headN b))) = b.take (4 + headN b)) : Calls Try.prog 17 #[S b] w (RReadSt w ((guessP ((gb b 0).toNat : Int) ((b.drop 4).take (headN b))), 4 + headN b, 0)) := by
  have HRT := Lib.hid hrt
  clear hrt
  have HWR := Lib.hid hwr
  clear hwr
  obtain ⟨x, hx⟩ : ∃ x, x = gb b 0 := ⟨_, rfl⟩
  have hgx : gb b 0 = x := hx.symm
  have HX := Lib.hid hx
  rw [← hx] at hk
  clear hx
  have hne : b ≠ [] := by rintro rfl; simp at h0
  have hne2 : (b == []) = false := beq_false_of_ne hne
  have x1 : (0 : Int) < (b.length : Int) := by omega
  have x0 : 0 < b.length := by omega
  have x2 : ¬ (b.length : Int) < 4 := by omega
  have x3 : (b.length : Int) ≤ 1000000 := by omega
  have HG := Lib.hid (fun w' => get_any b 1 3 w' hl (by decide) (by decide))
  rw [headN_eq b h0] at HG
  have hn0 : headN b < 16777216 := by
    have := (gb b 1).toNat_lt
    have := (gb b 2).toNat_lt
    have := (gb b 3).toNat_lt
    unfold headN; omega
  obtain ⟨n, hn⟩ : ∃ n, n = headN b := ⟨_, rfl⟩
  have HN := Lib.hid hn
  rw [← hn] at HG hn0
  have H0 := Lib.hid h0
  clear hn h0
  have h1' : n ≤ 32768 := HN.out ▸ h1
  have h2' : 4 + n ≤ b.length := HN.out ▸ h2
  obtain ⟨m, hm⟩ : ∃ m, m = guessP (x.toNat : Int) ((b.drop 4).take n) := ⟨_, rfl⟩
  have HGU := Lib.hid (fun w' => guess_any (x.toNat : Int) ((b.drop 4).take n) w' (by rw [List.length_take]; omega))
  rw [← hm] at HGU
  have HM := Lib.hid hm
  have HSM := Lib.hid (show SmallM m from by rw [HM.out]; exact guessP_small _ _)
  clear h1 h2 hm
  go_enter Try.func17, Try.ntmps17
  go_upto_region 1 with (fail)
  refine gen_wp (fun w0 => Row w0 w.heap.size 25 zMsg ∧ Below w.heap.size w w0) ⟨Row.new w _ _, (Below.refl _ _).alloc (Nat.le_refl _) _⟩ ?_
  rintro w0 ⟨hr, hB⟩
  go_upto_block 0 with (fail)
  go_cut [] (fun wr => wr = w0)
  case first =>
    unfold isKindP at hk
    simp only [Bool.or_eq_true, beq_iff_eq] at hk
    have hk8 : ((x.toNat : Nat) : Int) = 1 ∨ ((x.toNat : Nat) : Int) = 2 ∨ ((x.toNat : Nat) : Int) = 4 ∨ ((x.toNat : Nat) : Int) = 8 ∨ ((x.toNat : Nat) : Int) = 11 ∨ ((x.toNat : Nat) : Int) = 13 ∨ ((x.toNat : Nat) : Int) = 15 ∨ ((x.toNat : Nat) : Int) = 20 := by omega
    clear hk
    rcases hk8 with y | y | y | y | y | y | y | y
    all_goals
      go_wp2_with fail
      go_meet
      case rel => rfl
  case rest =>
  subst hcut
  clear hne hne2 hk
  go_wp2_with fail
  refine (HG.out _).mono ?_
  rintro e w1 ⟨rfl, hB1⟩
  have hr := Row.below hr hB1 hr.lt
  have hB := hB.trans (hB1.mono hB.size)
  clear hB1 HG
  have x4 : (0 : Int) ≤ (n : Int) := by omega
  clear hn0
  have z1 : ¬ (32768 : Int) < (n : Int) := by omega
  have z2 : ¬ (b.length : Int) - 4 < (n : Int) := by omega
  have z3 : (n : Int) ≤ 32768 := by omega
  have z5 : (4 : Int) + (n : Int) ≤ (b.length : Int) := by omega
  have z6 : (0 : Int) ≤ (4 : Int) + (n : Int) := by omega
  have z7 : ((4 : Int) + (n : Int)).toNat = 4 + n := by omega
  have z8 : (4 : Int) ≤ (4 : Int) + (n : Int) := by omega
  have z9 : 4 + n - 4 = n := by omega
  clear h1' h2'
  have c1 : IntKind.i64.wrap ((4 : Int) + (n : Int)) = (4 : Int) + (n : Int) := by rw [IntKind.wrap_i64]; omega
  have c2 : IntKind.i64.wrap ((x.toNat : Nat) : Int) = ((x.toNat : Nat) : Int) := by have := x.toNat_lt; rw [IntKind.wrap_i64]; omega
  have y2 : ((x.toNat : Nat) : Int) < 256 := by have := x.toNat_lt; omega
  have y3 : (0 : Int) ≤ ((x.toNat : Nat) : Int) := by omega
  go_upto_region 19 with (fail)
  refine FT.wp_region_free 9 [45, 6] (fun d v w' => if d = 6 then ∃ g, v = .pointer (some ⟨g, 0, none⟩) ∧ w1.drew.heap.size ≤ g ∧ Row w' g 25 zMsg else ∃ C, v = .agg C ∧ RMsgT w' C m) (by kernel_rfl) (by kernel_rfl) (by kernel_rfl) ?hst ?h
  case hst =>
    intro d v w w' h hb
    by_cases e : d = 6
    · rw [if_pos e] at h ⊢
      obtain ⟨g, h1, h2, h3⟩ := h
      exact ⟨g, h1, h2, Row.below h3 hb h3.lt⟩
    · rw [if_neg e] at h ⊢
      obtain ⟨C, h1, h2⟩ := h
      exact ⟨C, h1, h2.below hb⟩
  case h =>
  simp only [List.take_succ_cons, List.take_zero, List.drop_succ_cons, List.drop_zero]
  apply Exists.intro
  apply Exists.intro
  refine ⟨?_, ?_, ?_⟩
  · intro ν
    iterate 7 (apply FT.wpF_q rfl; focus (intro C hC hG; (first | go_big_quiet_skip | (go_big_quiet_want; go_big_quiet_op; first | go_big_quiet_on | (refine ⟨_, fun _ _ => rfl, ?_⟩; go_big_quiet_on)) | (go_big_quiet_want; apply FT.qf_load1 _ _ rfl _ _ rfl; (exact hC); rotate_left 1; (focus (intro _; simp [go_sem]; done)); rotate_right 1; assumption; assumption; (simp only [Act.put, lS]; go_big_quiet_on)) | (go_big_quiet_want; apply FT.qf_loadA _ _ rfl _ _ rfl (sz := 32); (exact hC); rotate_left 1; (focus (intro _; simp [go_sem]; done)); (focus (intro _; simp [go_sem]; done)); rotate_right 1; assumption; assumption; assumption; (simp only [Act.put, lS]; go_big_quiet_on))); exact wpQuiet_nil rfl))
    (apply FT.wpF_free; (focus rfl); (focus rfl); (exact (fun w' hb' _ => (HGU.out w').mono fun e w'' ⟨C, h1, h2, h3⟩ => ⟨_, h1, fun d hd => by cases hd; exact ⟨C, rfl, h2⟩, h3⟩)); (focus (intro w; simp [go_sem]; done)); simp only [Act.put, FT.vqF, pS])
    apply FT.wpF_alloc rfl rfl
    · intro w' hb' _
      refine ⟨.pointer (some ⟨w'.heap.size, 0, none⟩), w'.alloc (.cells zMsg 25), ?_, ?_, (Below.refl _ w').alloc (Nat.le_refl _) _⟩
      · simp [go_sem]
      · intro d hd
        cases hd
        exact ⟨_, rfl, hb'.size, Row.new _ _ _⟩
    simp only [Act.put, FT.vqF, pS]
    exact FT.wpF_nil ⟨rfl, rfl⟩
  · intro ν ν'; kernel_rfl
  intro ν w2 hB2 hD
  have h45 : ∃ C, ν 45 = .agg C ∧ RMsgT w2 C m := hD 45 (by decide)
  have h6 : ∃ g, ν 6 = .pointer (some ⟨g, 0, none⟩) ∧ w1.drew.heap.size ≤ g ∧ Row w2 g 25 zMsg := hD 6 (by decide)
  obtain ⟨C, h45, hN⟩ := h45
  obtain ⟨g7, h6, hg7, hr7⟩ := h6
  simp only [h45, h6]
  have hlt1 : w.heap.size < w1.drew.heap.size := hr.drew.lt
  have hr := Row.below hr.drew hB2 hr.lt
  have hBw : Below w1.heap.size w1 w2 := (Below.drew (Below.refl _ _)).trans hB2
  have hB := hB.trans (hBw.mono hB.size)
  have hlt := hr.lt
  have hne7 : w.heap.size ≠ g7 := by omega
  obtain ⟨hz, h1c, hoc⟩ := hN.1.size
  have HN2 := Lib.hid hN
  clear hD h45 h6 hB2 HGU hBw hN c1 c2
  go_wp2_with fail
  refine gen_wpC (fun w3 => Row w3 w.heap.size 25 zMsg ∧ Row w3 g7 25 C ∧ RMsgT w3 C m ∧ Below w.heap.size w w3) ⟨hr.setRowOther _ _ (by omega), hr7.setRow C, HN2.out.keptR hr7 C, bSetRow hB (by omega) _⟩ ?_
  clear hr hr7 hB hlt HN2 hlt1
  rintro w3 ⟨hr, hr7, hN, hB⟩
  have em : guessP ((gb b 0).toNat : Int) ((b.drop 4).take (headN b)) = m := by rw [HM.out, HN.out, HX.out]
  have hrt := HRT.out
  rw [em] at hrt
  refine (refwrite_yes hN.1 HSM.out hrt).mono ?_
  rintro e w4 ⟨rfl, hB4⟩
  have hr := Row.below hr hB4 hr.lt
  have hr7 := Row.below hr7 hB4 hr7.lt
  have HN3 := Lib.hid (hN.below hB4)
  have hB := hB.trans (hB4.mono hB.size)
  have hwr := HWR.out
  rw [em] at hwr
  have HEM := Lib.hid em
  obtain ⟨W, hW⟩ : ∃ W, W = writeP m := ⟨_, rfl⟩
  rw [← hW] at hwr ⊢
  have hq : (W == b.take (4 + n)) = true := by rw [beq_iff_eq, hwr, HN.out]
  clear hW hwr hB4 hN em HM hrt
  go_wp2_with fail
  exact ret_row3 (.inl rfl) rfl w.heap.size _ _ 75 _ _ _ rfl (hr.setRow C) Try.underlying25 rfl (by kernel_rfl) hz rfl rfl ⟨C, by show Ending.returned (Value.tuple #[.agg C, .int .i64 ((4 : Int) + (n : Int)), .int .i64 0]) = Ending.returned (Value.tuple #[.agg C, .int .i64 ((4 + headN b : Nat) : Int), .int .i64 0]); rw [show ((4 + headN b : Nat) : Int) = (4 : Int) + (n : Int) by have := HN.out; omega], by rw [HEM.out]; exact HN3.out.keptR hr C, bSetRow hB (Nat.le_refl _) _⟩
end Go.Proofs.Ytnenoecmmelehaa
