/- Part of the proof: Repeat. No conditions of its own. -/
import Derived.ArgAppend
import Derived.BigQuiet
import Derived.Deep.CutBlock
import Derived.Deep.DeepCutAuto
import Derived.Deep.Draws
import Derived.Deep.LoopGhost
import Derived.Deep.Quiet
import Derived.Deep.QuietTactic
import Derived.Deep.RegionLaw
import Derived.Laws.AppendOwnNone
import Derived.Laws.Bits64b
import Derived.Laws.BitsAllLaws
import Derived.Laws.BytesArg
import Derived.Laws.CopyOwn
import Derived.Lib.AppendStr
import Derived.Lib.Hide
import Derived.Lib.MakeNoZero
import Derived.Maps.AppendAt
import Derived.Shelf.Bits.Mul64
import Derived.Shelf.Spec.BitsCarry
import Derived.StillTail
import Derived.Stop.BytesEq
import Derived.Test.YtjpfhhndjpdmoaaGreatDoorProg
import Derived.Test.YtjpfhhndjpdmoaaGreatDoorRows
import Derived.WalkKit
import Derived.Test.YtjpfhhndjpdmoaaGreatDoorK23
import Derived.Test.YtjpfhhndjpdmoaaGreatDoorK34
namespace Go.Proofs.YtjpfhhndjpdmoaaGreatDoor
open Go.RowKit
set_option linter.unusedVariables false
set_option linter.unusedSimpArgs false
set_option maxRecDepth 100000 in
set_option maxHeartbeats 4000000 in
theorem mulU_one (n : Nat) (hn : n < 18446744073709551616) (w : World) :
    Calls Tryz.prog 184 #[.int .u64 1, .int .u64 (n : Int)] w fun e w' => e = .returned (.tuple #[.int .u64 0, .int .u64 (n : Int)]) ∧ w = w' := by
  have h := fun W => mul64_any 1 n (by decide) hn W
  rw [Nat.one_mul, Nat.div_eq_of_lt hn, Nat.mod_eq_of_lt hn] at h
  have HM := Lib.hid h
  clear h
  go_enter Tryz.func184, Tryz.ntmps184
  go_wp2_with fail
  refine (HM.out _).mono ?_
  rintro e w' ⟨rfl, rfl⟩
  go_wp2_with fail
  go_ret2
  exact ⟨rfl, rfl⟩
theorem run_mnz (n : Nat) (hn : n ≤ 1000) (w : World) : ∃ cs : Array Value, (callFunc 185 #[.int .i64 (n : Int)]).run Tryz.prog w = .ok (.value (.slice (some ⟨w.heap.size, 0, none⟩) n cs.size)) (w.drew.drew.alloc (.cells cs 5)) ∧ n ≤ cs.size ∧ cs.size ≤ maxLen := by
  obtain ⟨cs, hrun, h1, h2⟩ := Lib.run_makeNoZero (P := Tryz.prog) w #[3] 22 5 Tryz.underlying22 n (by omega)
  refine ⟨cs, ?_, h1, h2 (by unfold maxLen; omega)⟩
  rw [run_callFunc_extern Tryz.func185 (by kernel_rfl) (by kernel_rfl) (by kernel_rfl) (e := Extern.BytealgMakeNoZero.makeNoZero #[3] #[22]) (by kernel_rfl), hrun]
  rfl
theorem wp_copyB {o : Oper} {a : Act} {w : World} {K : Act → World → Prop} {Q : Exit → Act → World → Prop} (hgd : o.guard = none) (d s : Operand) (dT sT : TypeId)
    (ho : o.op = .call { callee := .builtin .copy, args := #[d, s], argTypes := #[dT, sT] }) (elem : TypeId) (hu : Tryz.prog.underlying dT = some (.slice elem)) (hsz : (Tryz.prog.info? elem).map (·.size) = some 1)
    (dp sp : Option Addr) (dLen dCap sLen sCap : Nat) (hd : a.eval d = .slice dp dLen dCap) (hs : a.eval s = .slice sp sLen sCap)
    (g off : Nat) (cur : List Value) (t : TypeId) (hg : w.heap[g]? = some (.cells cur.toArray t (0, 0))) (cs : List Value) (hn : cs.length = Nat.min sLen dLen)
    (hpos : 0 < cs.length → dp = some ⟨g, off, none⟩ ∧ ∃ ad, sp = some ad ∧ ∀ j v, cs[j]? = some v → w.cell? (ad.add j) = some v)
    (hfit : off + cs.length ≤ cur.length) (h1 : ∀ v ∈ cs, v.oneCell' = true) (B : Nat) (w0 : World) (hb : Below B w0 w) (hBg : B ≤ g)
    (h : ∀ w', Hid (w'.heap[g]? = some (.cells (splice cur off cs).toArray t (0, 0))) → Below B w0 w' → K (a.put o.dst (goInt cs.length)) w') : o.wp Tryz.prog a w K Q := by
  have := step_copy_splice (P := Tryz.prog) (ops := #[]) (E := True) (Q := Q) hgd d s dT sT ho elem hu hsz dp sp dLen dCap sLen sCap hd hs g off cur t hg cs hn hpos hfit h1 B w0 hb hBg h
  rwa [if_pos (by simp [Region.wanted, hgd])] at this
theorem rep_splice {x : UInt8} {cur : List Value} {j k : Nat} (h : j + (List.replicate k (B x)).length ≤ cur.length) (hc : ∀ i, i < j → cur[i]? = some (B x)) : ∀ i, i < j + k → (splice cur j (List.replicate k (B x)))[i]? = some (B x) := by
  rw [List.length_replicate] at h
  intro i hi
  unfold splice
  rw [List.getElem?_append]
  split
  · rename_i h1
    rw [List.length_take] at h1
    rw [List.getElem?_take, if_pos (by omega)]
    exact hc i (by omega)
  · rename_i h1
    rw [List.length_take] at h1 ⊢
    rw [List.getElem?_append_left (by rw [List.length_replicate]; omega), List.getElem?_replicate, if_pos (by omega)]
theorem SlB.at0 {w w1 : World} {b o c n : Nat} {x : UInt8} (h : SlB w (.slice (some ⟨b, o, none⟩) n c) [x]) (hb : Below w.heap.size w w1) : w1.cell? ⟨b, o + 0, none⟩ = some (B x) := by
  obtain ⟨a2, c2, hv, _, _, _, h4⟩ := h.below hb
  simp only [Value.slice.injEq] at hv
  exact (h4 _ hv.1.symm).2 0 Nat.one_pos
def RpS (x : UInt8) (g C j : Nat) (w : World) : Prop := ∃ cur : List Value, w.heap[g]? = some (.cells cur.toArray 5 (0, 0)) ∧ cur.length = C ∧ ∀ i, i < j → cur[i]? = some (B x)
set_option maxRecDepth 100000 in
set_option maxHeartbeats 4000000 in
theorem repeat_any (w : World) (vb : Value) (x : UInt8) (n : Nat) (hb : SlB w vb [x]) (h1 : 1 ≤ n) (hn : n ≤ 1000) :
    Calls Tryz.prog 144 #[vb, .int .i64 (n : Int)] w fun e w' => ∃ v, e = .returned v ∧ OwnW w' w.heap.size v (List.replicate n x) ∧ Below w.heap.size w w' := by
  obtain ⟨b0, o0, c, rfl, _, _, _, hcell⟩ := hb.addr Nat.one_pos
  have n0 : ¬ (n : Int) < 0 := by omega
  have n1 : ((n : Int) == 0) = false := by simp; omega
  have n2 : (0 : Int) ≤ (n : Int) := by omega
  have n3 : (n : Int) ≤ 1000 := by omega
  have n4 : ¬ (9223372036854775807 : Int) < (n : Int) := by omega
  have n5 : ¬ (8192 : Int) < (n : Int) := by omega
  have HB := Lib.hid hb
  have HN := Lib.hid (⟨h1, hn⟩ : _ ∧ _)
  obtain ⟨cs, hmk, hc1, hc2⟩ := run_mnz n hn w
  obtain ⟨C, hC⟩ : ∃ C, C = cs.size := ⟨_, rfl⟩
  rw [← hC] at hmk hc1 hc2
  have c1 : (n : Int) ≤ (C : Int) := by omega
  have HC := Lib.hid (⟨hC, hc1, hc2⟩ : _ ∧ _ ∧ _)
  obtain ⟨W1, hW1⟩ : ∃ W, W = w.drew.drew.alloc (.cells cs 5) := ⟨_, rfl⟩
  rw [← hW1] at hmk
  have HW := Lib.hid (show W1.heap[w.heap.size]? = some (.cells cs.toList.toArray 5 (0, 0)) ∧ Below w.heap.size w W1 by
    rw [hW1]
    exact ⟨by rw [Array.toArray_toList]; exact heap_alloc_new w.drew.drew _, ((Below.refl _ w).drew.drew).alloc (Nat.le_refl _) _⟩)
  clear hb h1 hn hC hc1 hc2 hW1
  go_enter Tryz.func144, Tryz.ntmps144
  go_wp2_with fail
  refine (mulU_one n (by have := HN.out; omega) _).mono ?_
  rintro e w' ⟨rfl, rfl⟩
  go_upto_region 17 with (fail)
  have HS := Lib.hid (show cs.toList.length = C from by have := HC.out.1; simp [this])
  have K2 := Lib.hid (show [B x].length = Nat.min 1 n from by have := HN.out.1; show 1 = min 1 n; omega)
  have K3 := Lib.hid (show 0 < [B x].length → (some ⟨w.heap.size, 0, none⟩ : Option Addr) = some ⟨w.heap.size, 0, none⟩ ∧ ∃ ad, (some ⟨b0, o0, none⟩ : Option Addr) = some ad ∧ ∀ j v, [B x][j]? = some v → W1.cell? (ad.add j) = some v from fun _ => ⟨rfl, ⟨b0, o0, none⟩, rfl, fun j v hj => by
      have hj0 : j = 0 := by
        rcases Nat.eq_zero_or_pos j with h | h
        · exact h
        · rw [List.getElem?_eq_none (by simp; omega)] at hj; cases hj
      subst hj0
      have e : v = B x := by simpa using hj.symm
      rw [e, Addr.add_lit]
      exact HB.out.at0 HW.out.2⟩)
  have K4 := Lib.hid (show 0 + [B x].length ≤ cs.toList.length from by have := HC.out; have := HS.out; have := HN.out; show 0 + 1 ≤ _; omega)
  have K5 := Lib.hid (show ∀ v ∈ [B x], v.oneCell' = true from by intro v hv; rw [List.mem_singleton.1 hv]; rfl)
  go_wp2_with (refine wpList_copy_splice rfl (.tmp 58) (.tmp 59) 22 22 rfl 5 Tryz.underlying22 (by kernel_rfl) (some ⟨w.heap.size, 0, none⟩) (some ⟨b0, o0, none⟩) n n 1 c rfl rfl w.heap.size 0 cs.toList 5 HW.out.1 [B x] K2.out K3.out K4.out K5.out w.heap.size w HW.out.2 (Nat.le_refl _) ?_)
  intro W2 hW2 hb2
  have HR := Lib.hid (show RpS x w.heap.size C 1 W2 ∧ Below w.heap.size w W2 from ⟨⟨_, hW2.out, by rw [length_splice _ _ _ K4.out]; exact HS.out, fun i hi => by
    obtain rfl : i = 0 := by omega
    simp [splice]⟩, hb2⟩)
  clear K2 K3 K4 K5
  clear hW2 hb2 hmk
  go_wp2_with fail
  go_loopg [10] n (fun gk t10 wr => ∃ j : Nat, gk + j = n + 1 ∧ (1 ≤ j ∧ j ≤ n) ∧ t10 = .int .i64 (j : Int) ∧ RpS x w.heap.size C j wr ∧ Below w.heap.size w wr)
  case atStart => exact ⟨1, by have := HN.out; omega, ⟨Nat.le_refl _, HN.out.1⟩, rfl, HR.out.1, HR.out.2⟩
  case round =>
    clear HR
    obtain ⟨j, hj, hj1, rfl, hR, hB⟩ := hrel
    by_cases hlt : j < n
    · have j1 : (j : Int) < (n : Int) := by omega
      have j2 : ¬ (n : Int) < (j : Int) := by omega
      have j0 : (0 : Int) ≤ (j : Int) := by omega
      have j3 : (j : Int) ≤ (n : Int) := by omega
      obtain ⟨k, hk⟩ : ∃ k, k = Nat.min j (n - j) := ⟨_, rfl⟩
      have hnj : ¬ n = j := by omega
      have hkj : k ≤ j := by rw [hk]; exact Nat.min_le_left _ _
      have r2 : IntKind.i64.wrap ((j : Int) + (k : Int)) = (j : Int) + (k : Int) := IntWalk.i64_in _ (by omega)
      have HJ := Lib.hid (⟨hj, hj1, hlt, hj, hk⟩ : _ ∧ _ ∧ _ ∧ _ ∧ _)
      have HR := Lib.hid hR
      have HB2 := Lib.hid hB
      clear hj hj1 hlt hk hR hB hkj
      go_upto_region 20 with (fail)
      obtain ⟨cur, hcur, hcl, hcx⟩ := HR.out
      have HX := Lib.hid (show wr.drew.heap[w.heap.size]? = some (.cells cur.toArray 5 (0, 0)) ∧ cur.length = C ∧ (∀ i, i < j → cur[i]? = some (B x)) ∧ Below w.heap.size w wr.drew from ⟨hcur, hcl, hcx, HB2.out.drew⟩)
      have K2 := Lib.hid (show (List.replicate k (B x)).length = Nat.min j (n - j) from by rw [List.length_replicate]; exact HJ.out.2.2.2.2)
      have K3 := Lib.hid (show 0 < (List.replicate k (B x)).length → (some ⟨w.heap.size, j, none⟩ : Option Addr) = some ⟨w.heap.size, j, none⟩ ∧ ∃ ad, (some ⟨w.heap.size, 0, none⟩ : Option Addr) = some ad ∧ ∀ i v, (List.replicate k (B x))[i]? = some v → wr.drew.cell? (ad.add i) = some v from fun _ => ⟨rfl, ⟨w.heap.size, 0, none⟩, rfl, fun i v hi => by
        have hik : i < k := by have := (List.getElem?_eq_some_iff.1 hi).1; simpa using this
        have hkj : k ≤ j := by rw [HJ.out.2.2.2.2]; exact Nat.min_le_left _ _
        rw [List.getElem?_replicate, if_pos hik] at hi
        rw [Addr.add_lit, (Row.of_heap HX.out.1).cell, Nat.zero_add, ← hi]
        simpa using HX.out.2.2.1 i (by omega)⟩)
      have K4 := Lib.hid (show j + (List.replicate k (B x)).length ≤ cur.length from by
        rw [List.length_replicate]
        have h1 := HJ.out
        have h2 : k ≤ n - j := by rw [h1.2.2.2.2]; exact Nat.min_le_right _ _
        have h3 := HX.out.2.1
        have h4 := HC.out
        omega)
      have K5 := Lib.hid (show ∀ v ∈ List.replicate k (B x), v.oneCell' = true from by intro v hv; rw [List.eq_of_mem_replicate hv]; rfl)
      clear hcur hcl hcx HR HB2
      go_region_law (first
        | (refine wp_copyB (by rfl) (.tmp 70) (.tmp 73) 22 22 (by rfl) 5 Tryz.underlying22 (by kernel_rfl) (some ⟨w.heap.size, j, none⟩) (some ⟨w.heap.size, 0, none⟩) (n - j) (n - j) j n (by kernel_rfl) (by kernel_rfl) w.heap.size j cur 5 HX.out.1 (List.replicate k (B x)) K2.out K3.out K4.out K5.out w.heap.size w HX.out.2.2.2 (Nat.le_refl _) ?_
           intro W7 hW7 hb7
           have HW7 := Lib.hid (show RpS x w.heap.size C (j + k) W7 ∧ Below w.heap.size w W7 from ⟨⟨_, hW7.out, by rw [length_splice _ _ _ K4.out]; exact HX.out.2.1, rep_splice K4.out HX.out.2.2.1⟩, hb7⟩)
           clear hW7 hb7)
        | fail)
      all_goals
        go_wp2_with fail
        go_roundg (gk - k)
        case measure =>
          obtain ⟨a1, a2, a3, _, a5⟩ := HJ.out
          have h2 : k = min j (n - j) := a5
          omega
        case rel =>
          obtain ⟨a1, a2, a3, _, a5⟩ := HJ.out
          have h2 : k = min j (n - j) := a5
          exact ⟨j + k, by omega, by omega, by first | rfl | (simp; done) | go_num, HW7.out.1, HW7.out.2⟩
    · obtain rfl : j = n := by omega
      have j1 : ¬ (j : Int) < (j : Int) := by omega
      have HR := Lib.hid hR
      have HB2 := Lib.hid hB
      clear hj hj1 hlt hR hB
      go_wp2_with fail
      go_ret
      refine ⟨.slice (some ⟨w.heap.size, 0, none⟩) j j, rfl, ?_, HB2.out⟩
      obtain ⟨cur, h1, h2, h3⟩ := HR.out
      refine .inr ⟨w.heap.size, 0, j, cur.toArray, by rw [List.length_replicate], Nat.le_refl _, Row.of_heap h1, by rw [List.length_replicate]; exact Nat.le_refl _, by have := HC.out; rw [List.size_toArray, h2]; omega, by have := HN.out; unfold maxLen; omega, fun i hi => ?_⟩
      rw [List.length_replicate] at hi
      have e : gb (List.replicate j x) i = x := by unfold gb; rw [List.getD_eq_getElem?_getD, List.getElem?_replicate, if_pos hi]; rfl
      rw [e, Nat.zero_add]
      simpa using h3 i hi
end Go.Proofs.YtjpfhhndjpdmoaaGreatDoor
