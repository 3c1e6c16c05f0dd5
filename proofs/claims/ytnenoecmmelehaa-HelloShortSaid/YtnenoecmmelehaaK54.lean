/- Part of the proof: HShort, HLawE. No conditions of its own. -/
import Derived.Below
import Derived.BigQuiet
import Derived.ChangeOld
import Derived.Deep.AppendLies
import Derived.Deep.CutBlock
import Derived.Deep.DeepCutAuto
import Derived.Deep.Draws
import Derived.Deep.LoopGhost
import Derived.Deep.Quiet
import Derived.Deep.QuietTactic
import Derived.Deep.RegionLaw
import Derived.Great.BuildSlice
import Derived.Great.FillDense
import Derived.Laws.AppendOwn
import Derived.Laws.AppendOwnNone
import Derived.Laws.BytesArg
import Derived.Laws.Concat
import Derived.Laws.MakeOwn
import Derived.Lib.AppendZerosOnto
import Derived.Lib.BufferWrite
import Derived.Lib.ConvBytes
import Derived.Lib.Hide
import Derived.Lib.SlBytesConst
import Derived.OpenShut
import Derived.ProofKit
import Derived.ShutString
import Derived.StillTail
import Derived.Stop.BytesEq
import Derived.Test.YtnenoecmmelehaaProg
import Derived.WalkKit
import Derived.WalkLawsBesides
import Derived.WalkSpells
import Derived.Test.YtnenoecmmelehaaK43
import Derived.Test.YtnenoecmmelehaaK45
import Derived.Test.YtnenoecmmelehaaK09
import Derived.Test.YtnenoecmmelehaaK29
namespace Go.Proofs.Ytnenoecmmelehaa
open Go.RowKit
set_option linter.unusedVariables false
set_option linter.unusedSimpArgs false

theorem readBy_ok {b : List UInt8} (h : (readBy parseP b).2.2 = 0) : rightP (readBy parseP b).1 = true ∧ writeP (readBy parseP b).1 = b.take (readBy parseP b).2.1 ∧ (readBy parseP b).2.1 ≤ b.length ∧ (readBy parseP b).1.random.length = 32 ∧ (readBy parseP b).1.mark.length = 32 := by
  unfold readBy at h ⊢
  split
  · rename_i h1; rw [if_pos h1] at h; cases h
  rename_i h1
  rw [if_neg h1] at h
  split
  · rename_i h2; rw [if_pos h2] at h; cases h
  rename_i h2
  rw [if_neg h2] at h
  split
  · rename_i h3; rw [if_pos h3] at h; cases h
  rename_i h3
  rw [if_neg h3] at h
  split
  · rename_i h4; rw [if_pos h4] at h; cases h
  rename_i h4
  rw [if_neg h4] at h
  split
  · rename_i h5
    obtain ⟨_, e2, e3⟩ := parseP_form ((gb b 0).toNat : Int) ((b.drop 4).take (headN b))
    exact ⟨h5.1, h5.2, by show 4 + headN b ≤ _; omega, e2, e3⟩
  · rename_i h5; rw [if_neg h5] at h; cases h
theorem write_len35 {m : MsgP} (hk : m.kind = 1) (h32 : m.random.length = 32) : 35 ≤ (writeP m).length := by
  unfold writeP bodyP
  rw [if_pos hk]
  simp only [List.length_append, vecB_len, List.length_cons, List.length_nil, h32]
  have : hVersion.length = 2 := rfl
  omega
def goodS (b : List UInt8) : Bool := decide ((readBy parseP b).2.2 = 0) && decide ((readBy parseP b).2.1 = b.length) && decide ((readBy parseP b).1.kind = 1) && (readBy parseP b).1.psk
def shortP (b : List UInt8) : List UInt8 := if goodS b then b.take (b.length - 35) else b
set_option maxRecDepth 100000 in
set_option maxHeartbeats 4000000 in
theorem hshort_any (vb : Value) (b : List UInt8) (w : World) (h : SlB w vb b) (hl : b.length ≤ 1000000) : Calls Try.prog 19 #[vb] w fun e w' => ∃ v, e = .returned v ∧ Buf 5 w' w.heap.size v (shortP b) ∧ Below w.heap.size w w' := by
  obtain ⟨a, cap, rfl, k1, k2, _⟩ := id h
  have HR := Lib.hid (read_any _ b w h hl)
  have HS := Lib.hid h
  have hx : (b.length : Int) ≤ 1000000 := by omega
  have hsp : shortP b = if goodS b then b.take (b.length - 35) else b := rfl
  have hgd : goodS b = (decide ((readBy parseP b).2.2 = 0) && decide ((readBy parseP b).2.1 = b.length) && decide ((readBy parseP b).1.kind = 1) && (readBy parseP b).1.psk) := rfl
  have h35 : goodS b = true → 35 ≤ b.length := fun hg => by
    rw [hgd] at hg
    simp only [Bool.and_eq_true, decide_eq_true_eq] at hg
    obtain ⟨h1, h2, h3, h4, h5⟩ := readBy_ok hg.1.1.1
    have := write_len35 hg.1.2 h4
    rw [h2, List.length_take] at this
    omega
  obtain ⟨r, hr⟩ : ∃ r, r = readBy parseP b := ⟨_, rfl⟩
  rw [← hr] at HR hgd
  clear hr h
  obtain ⟨m, n, er⟩ := r
  dsimp only at hgd
  obtain ⟨d, hd⟩ : ∃ d, d = goodS b := ⟨_, rfl⟩
  rw [← hd] at hgd h35 hsp
  obtain ⟨X, hX⟩ : ∃ X, X = shortP b := ⟨_, rfl⟩
  rw [← hX] at hsp ⊢
  have HSP := Lib.hid hsp
  clear hd hsp hX
  go_enter Try.func19, Try.ntmps19
  go_wp2_with fail
  refine HR.out.mono ?_
  rintro e w1 ⟨C, rfl, hN, hB⟩
  dsimp only at hN ⊢
  obtain ⟨hz, h1c, hoc⟩ := hN.size
  have f0 : C[0]? = some (.int .i64 m.kind) ∧ C[73]? = some (.bool m.psk) := by obtain ⟨v1, v2, v3, v4, v5, vc, vs, e, _⟩ := hN; rw [e]; exact ⟨mD_0, mD_73⟩
  obtain ⟨f0, f73⟩ := f0
  have f0' : ∀ h : 0 < C.size, C[0] = .int .i64 m.kind := fun h => by
    rw [Array.getElem?_eq_getElem h] at f0
    exact Option.some.inj f0
  have f73' : ∀ h : 73 < C.size, C[73] = .bool m.psk := fun h => by
    rw [Array.getElem?_eq_getElem h] at f73
    exact Option.some.inj f73
  have HS1 := Lib.hid (HS.out.below hB)
  have HB := Lib.hid hB
  obtain ⟨kd, hkd⟩ : ∃ k, k = m.kind := ⟨_, rfl⟩
  obtain ⟨ps, hps⟩ : ∃ k, k = m.psk := ⟨_, rfl⟩
  rw [← hkd] at f0 f0' hgd
  rw [← hps] at f73 f73' hgd
  clear hN HR HS hB hkd hps
  go_upto_region 2 with (fail)
  have hBn : Below w1.heap.size w1 ((w1.alloc (.cells zH 30)).setRow w1.heap.size C) := bSetRow ((Below.refl _ _).alloc (Nat.le_refl _) _) (Nat.le_refl _) _
  obtain ⟨g3, hg3⟩ : ∃ g, g = w1.heap.size := ⟨_, rfl⟩
  refine gen_wp (fun w2 => Row w2 g3 30 C ∧ SlB w2 (.slice a b.length cap) b ∧ Below w.heap.size w w2) ⟨by rw [hg3]; exact (Row.new _ _ _).setRow C, HS1.out.below hBn, HB.out.trans (hBn.mono HB.out.size)⟩ ?_
  rw [← hg3]
  clear hBn hg3 HS1 HB
  rintro w2 ⟨hr3, hs2, hB⟩
  have HS2 := Lib.hid hs2
  have HB2 := Lib.hid hB
  clear hs2 hB
  have fin : ∀ (v : Value) (l : List UInt8), SlB w2 v l → l.length ≤ 1000000 → Calls Try.prog 32 #[v] w2 fun e w' => ∃ v, e = .returned v ∧ Buf 5 w' w.heap.size v l ∧ Below w.heap.size w w' := fun v l hv hl' => (clone_any v l w2 hv (by omega)).mono fun e w' ⟨v', h1, h2, h3⟩ => ⟨v', h1, h2.low HB2.out.size, HB2.out.trans (h3.mono HB2.out.size)⟩
  have FIN := Lib.hid fin
  clear fin
  cases d with
  | true =>
    have h35 := h35 rfl
    have hg2 := hgd.symm
    clear hgd
    simp only [Bool.and_eq_true, decide_eq_true_eq] at hg2
    obtain ⟨⟨⟨rfl, rfl⟩, rfl⟩, rfl⟩ := hg2
    have z1 : (0 : Int) ≤ (b.length : Int) - 35 := by omega
    have z2 : (b.length : Int) - 35 ≤ (cap : Int) := by omega
    have z3 : ((b.length : Int) - 35).toNat = b.length - 35 := by omega
    have HSF := Lib.hid (FIN.out _ _ (HS2.out.take (b.length - 35) (by omega)) (by rw [List.length_take]; omega))
    have hsp := HSP.out
    rw [if_pos rfl] at hsp
    rw [← hsp] at HSF
    clear hsp
    clear h35
    go_wp2_with fail
    refine HSF.out.mono ?_
    rintro e w3 ⟨v, rfl, hb, hBe⟩
    have Hb := Lib.hid hb
    have HBe := Lib.hid hBe
    clear hb hBe HSF
    go_wp2_with fail
    go_ret
    exact ⟨_, rfl, Hb.out, HBe.out⟩
  | false =>
    have HSF := Lib.hid (FIN.out _ _ HS2.out hl)
    have hsp := HSP.out
    rw [if_neg (by decide)] at hsp
    have HXB := Lib.hid hsp
    clear hsp
    have hg2 := hgd.symm
    clear h35 hgd
    have way : ¬ er = 0 ∨ (er = 0 ∧ ¬ (n : Int) = (b.length : Int)) ∨ (er = 0 ∧ (n : Int) = (b.length : Int) ∧ ¬ kd = 1) ∨ (er = 0 ∧ (n : Int) = (b.length : Int) ∧ kd = 1 ∧ ps = false) := by
      by_cases a1 : er = 0
      · by_cases a2 : n = b.length
        · by_cases a3 : kd = 1
          · refine .inr (.inr (.inr ⟨a1, by omega, a3, ?_⟩))
            rw [decide_eq_true a1, decide_eq_true a2, decide_eq_true a3] at hg2
            simpa using hg2
          · exact .inr (.inr (.inl ⟨a1, by omega, a3⟩))
        · exact .inr (.inl ⟨a1, by omega⟩)
      · exact .inl a1
    clear hg2
    rcases way with a1 | ⟨a1, a2⟩ | ⟨a1, a2, a3⟩ | ⟨a1, a2, a3, a4⟩
    all_goals
      go_wp2_with fail
      refine HSF.out.mono ?_
      rintro e w3 ⟨v, rfl, hb, hBe⟩
      have Hb := Lib.hid hb
      have HBe := Lib.hid hBe
      clear hb hBe HSF
      go_wp2_with fail
      go_ret
      exact ⟨_, rfl, by rw [HXB.out]; exact Hb.out, HBe.out⟩
end Go.Proofs.Ytnenoecmmelehaa

namespace Go.Proofs.Ytnenoecmmelehaa
open Go.RowKit
set_option linter.unusedVariables false
set_option linter.unusedSimpArgs false

theorem hLE : hVersion.length = 2 ∧ hSuites.length = 6 ∧ hSuite.length = 3 ∧ hAble.length = 23 ∧ hChosen.length = 6 ∧ hShare.length = 2 ∧ hGroup.length = 2 ∧ hModes.length = 6 ∧ hPsk.length = 2 ∧ hBinder.length = 3 ∧ hFirst.length = 4 ∧ hAsked.length = 11 ∧ hSigned.length = 2 ∧ hNone2.length = 2 ∧ hNone1.length = 1 ∧ hAgain.length = 32 := ⟨rfl, rfl, rfl, rfl, rfl, rfl, rfl, rfl, rfl, rfl, rfl, rfl, rfl, rfl, rfl, rfl⟩
theorem hNE2 : hNone2.length = 2 := rfl
theorem hAE : hAsked.length = 11 := rfl
theorem certs_small : ∀ (l : List (List UInt8)), (∀ c, c ∈ l → c.length ≤ 2048) → (certsP l).length ≤ l.length * 2053
  | [], _ => Nat.zero_le _
  | c :: l, h => by
    have ih := certs_small l fun d hd => h d (List.mem_cons_of_mem _ hd)
    have hc := h c (List.mem_cons_self ..)
    unfold certsP at ih ⊢
    simp only [List.flatMap_cons, List.length_append, vecB_len, hLE, List.length_cons]
    omega
theorem body_small {m : MsgP} (hr : rightP m = true) (h32 : m.random.length = 32) (hm : m.mark.length = 32) : (bodyP m).length ≤ 32768 := by
  rcases right_kinds hr with hk | hk | hk | hk | hk | hk | hk | hk
  · have h := is1 hr hk
    have h1 := h.ses
    have h2 : m.share.length ≤ 65 := by rcases h.sh with e | e <;> simp [e]
    have h3 : m.ticket.length ≤ 1000 := by
      cases e : m.psk with
      | true => exact (h.yes e).2.1
      | false => rw [(h.not e).1]; exact Nat.zero_le _
    unfold bodyP offersP
    rw [if_pos hk]
    split <;> split <;> simp only [List.length_append, vecB_len, numB_len, List.length_nil, hLE, h32, hm] <;> omega
  · have h := is2 hr hk
    have h1 := h.ses
    have h2 : m.share.length ≤ 65 := by
      cases e : m.retry with
      | true => rw [(h.yes e).1]; exact Nat.zero_le _
      | false => rw [(h.not e).1]; exact Nat.le_refl _
    unfold bodyP answersP
    rw [if_neg (by rw [hk]; decide), if_pos hk]
    split <;> split <;> simp only [List.length_append, vecB_len, numB_len, List.length_nil, hLE, h32] <;> omega
  · unfold rightP at hr
    rw [if_neg (by rw [hk]; decide), if_neg (by rw [hk]; decide), if_pos hk] at hr
    simp only [Bool.and_eq_true, decide_eq_true_eq] at hr
    obtain ⟨⟨⟨⟨⟨⟨w1, w2⟩, l1⟩, l2⟩, l3⟩, l4⟩, h2⟩ := hr
    unfold bodyP
    rw [if_neg (by rw [hk]; decide), if_neg (by rw [hk]; decide), if_pos hk]
    simp only [List.length_append, vecB_len, numB_len, hLE]
    omega
  · unfold bodyP
    rw [if_neg (by rw [hk]; decide), if_neg (by rw [hk]; decide), if_neg (by rw [hk]; decide), if_pos hk, hNE2]; omega
  · unfold rightP at hr
    rw [if_neg (by rw [hk]; decide), if_neg (by rw [hk]; decide), if_neg (by rw [hk]; decide), if_pos hk] at hr
    simp only [Bool.and_eq_true, List.all_eq_true, decide_eq_true_eq] at hr
    have := certs_small m.certs fun c hc => (hr.1.2 c hc).2
    have h5 := hr.1.1
    unfold bodyP
    rw [if_neg (by rw [hk]; decide), if_neg (by rw [hk]; decide), if_neg (by rw [hk]; decide), if_neg (by rw [hk]; decide), if_pos hk]
    simp only [List.length_append, vecB_len, hLE]
    omega
  · unfold bodyP
    rw [if_neg (by rw [hk]; decide), if_neg (by rw [hk]; decide), if_neg (by rw [hk]; decide), if_neg (by rw [hk]; decide), if_neg (by rw [hk]; decide), if_pos hk, hAE]; omega
  · unfold rightP at hr
    rw [if_neg (by rw [hk]; decide), if_neg (by rw [hk]; decide), if_neg (by rw [hk]; decide), if_neg (by rw [hk]; decide), if_pos hk] at hr
    simp only [Bool.and_eq_true, decide_eq_true_eq] at hr
    have h5 := hr.1.2
    unfold bodyP
    rw [if_neg (by rw [hk]; decide), if_neg (by rw [hk]; decide), if_neg (by rw [hk]; decide), if_neg (by rw [hk]; decide), if_neg (by rw [hk]; decide), if_neg (by rw [hk]; decide), if_pos hk]
    simp only [List.length_append, vecB_len, hLE]
    omega
  · unfold bodyP
    rw [if_neg (by rw [hk]; decide), if_neg (by rw [hk]; decide), if_neg (by rw [hk]; decide), if_neg (by rw [hk]; decide), if_neg (by rw [hk]; decide), if_neg (by rw [hk]; decide), if_neg (by rw [hk]; decide), hm]; omega
theorem write_len (m : MsgP) : (writeP m).length = 4 + (bodyP m).length := by
  unfold writeP
  simp only [List.length_append, vecB_len, List.length_cons, List.length_nil]
  omega
theorem write_head {m : MsgP} (hr : rightP m = true) (x : List UInt8) : ((gb (writeP m ++ x) 0).toNat : Int) = m.kind ∧ isKindP (gb (writeP m ++ x) 0).toNat = true := by
  have h0 : gb (writeP m ++ x) 0 = UInt8.ofNat m.kind.toNat := rfl
  rw [h0]
  rcases right_kinds hr with hk | hk | hk | hk | hk | hk | hk | hk <;> rw [hk] <;> exact ⟨by decide, by decide⟩
theorem head_num (n : Nat) (hn : n < 16777216) (k : UInt8) (x : List UInt8) : headN ([k] ++ (numB n 3 ++ x)) = n := by
  have e : headN ([k] ++ (numB n 3 ++ x)) = ((UInt8.ofNat (n / 2 ^ (8 * (3 - 1 - 0)))).toNat) * 65536 + ((UInt8.ofNat (n / 2 ^ (8 * (3 - 1 - 1)))).toNat) * 256 + (UInt8.ofNat (n / 2 ^ (8 * (3 - 1 - 2)))).toNat := rfl
  rw [e]
  simp only [UInt8.toNat_ofNat']
  omega
theorem write_split (m : MsgP) (x : List UInt8) : writeP m ++ x = [UInt8.ofNat m.kind.toNat] ++ (numB (bodyP m).length 3 ++ (bodyP m ++ x)) := by
  unfold writeP vecB
  simp only [List.append_assoc]
theorem read_write {m : MsgP} (hr : rightP m = true) (h32 : m.random.length = 32) (hm : m.mark.length = 32) (x : List UInt8) : readBy parseP (writeP m ++ x) = (m, (writeP m).length, 0) := by
  obtain ⟨k1, k2⟩ := write_head hr x
  have hs := body_small hr h32 hm
  have hh : headN (writeP m ++ x) = (bodyP m).length := by rw [write_split]; exact head_num _ (by omega) _ _
  have hl := write_len m
  have hl2 : (writeP m ++ x).length = 4 + (bodyP m).length + x.length := by rw [List.length_append, hl]
  have hd : ((writeP m ++ x).drop 4).take (bodyP m).length = bodyP m := by
    rw [write_split, ← List.append_assoc, drop_len (by simp [numB_len])]
    exact List.take_left' rfl
  have ht : (writeP m ++ x).take (4 + (bodyP m).length) = writeP m := by rw [← hl]; exact List.take_left' rfl
  unfold readBy
  rw [if_neg (fun e => by rw [k2] at e; cases e.2), if_neg (by omega), hh, if_neg (by omega), if_neg (by omega), k1, hd, (read_back hr h32 hm).1, ht, if_pos ⟨hr, rfl⟩, hl]
end Go.Proofs.Ytnenoecmmelehaa
