/- Part of the proof: HKit, HNum, HConcat, HVec, HMsg. No conditions of its own. -/
import Derived.Below
import Derived.BigQuiet
import Derived.Deep.CutBlock
import Derived.Deep.DeepCutAuto
import Derived.Deep.LoopGhost
import Derived.Deep.Quiet
import Derived.Deep.QuietTactic
import Derived.Deep.RegionLaw
import Derived.Laws.AppendOwn
import Derived.Laws.AppendOwnNone
import Derived.Laws.Concat
import Derived.Laws.MakeOwn
import Derived.Lib.Hide
import Derived.StillTail
import Derived.Test.YtnenoecmmelehaaProg
import Derived.WalkKit
import Derived.WalkLawsBesides
import Derived.WalkSpells
import Derived.Test.YtnenoecmmelehaaM02
import Derived.Deep.Draws
import Derived.Laws.BytesArg
import Derived.Test.YtnenoecmmelehaaM04
import Derived.Lib.AppendZerosOnto
import Derived.Stop.BytesEq
namespace Go.Proofs.Ytnenoecmmelehaa
open Go.RowKit

theorem info_u8 : (Try.prog.info? 5).map (fun i => (i.zero, i.size, i.bytes)) = some (some (.int .u8 0), 1, 1) := by kernel_rfl
theorem info_str : (Try.prog.info? 9).map (fun i => (i.zero, i.size, i.bytes)) = some (some (.string ⟨#[]⟩), 1, 16) := by kernel_rfl
theorem info_sl : (Try.prog.info? 27).map (fun i => (i.zero, i.size, i.bytes)) = some (some (.slice none 0 0), 1, 24) := by kernel_rfl
theorem made_bytes (n : Nat) : madeCells (Value.int .u8 0).cells (n * 1) = AB (List.replicate n 0) := by
  apply Array.ext (by simp [size_madeCells, AB])
  intro i h1 h2
  simp [madeCells, AB, Value.cells]
  rw [Nat.mod_one]
  rfl
theorem make_bytes (w : World) (n : Nat) (hn : n ≤ 1000000) : (Instr.makeSlice 27 (.int .i64 (n : Int)) (.int .i64 (n : Int))).run Try.prog w = .ok (.slice (some ⟨w.heap.size, 0, none⟩) n n) (w.alloc (.cells (AB (List.replicate n 0)) 5)) := by
  obtain ⟨i0, hi, hz0, hz1, hz2⟩ := info_parts info_u8
  have := run_make (P := Try.prog) w 27 5 i0 (.int .u8 0) Try.underlying27 hi hz0 .i64 .i64 (n : Int) (n : Int) (by omega) (by omega) (by rw [hz2]; omega) (by omega)
  rw [this, hz1]
  simp only [Int.toNat_natCast, made_bytes]
end Go.Proofs.Ytnenoecmmelehaa

namespace Go.Proofs.Ytnenoecmmelehaa
open Go.RowKit

def numP (n s r : Nat) : List UInt8 := tab r fun i => UInt8.ofNat (n / 2 ^ (8 * (s - 1 - i)))
def numQ (n s r : Nat) : List UInt8 := tab s fun i => if i < r then UInt8.ofNat (n / 2 ^ (8 * (s - 1 - i))) else 0
theorem numQ_len (n s r : Nat) : (numQ n s r).length = s := tab_length _ _
theorem numQ_zero (n s : Nat) : numQ n s 0 = List.replicate s 0 := by
  have : numQ n s 0 = tab s fun _ => 0 := tab_congr fun i _ => by rw [if_neg (by omega)]
  rw [this, tab, List.map_const', List.length_range]
theorem numQ_all (n s : Nat) : numQ n s s = numB n s := tab_congr fun i hi => by rw [if_pos hi]
theorem numQ_step (n s r : Nat) : (numQ n s r).set r (UInt8.ofNat (n / 2 ^ (8 * (s - 1 - r)))) = numQ n s (r + 1) := by
  unfold numQ
  rw [tab_set]
  apply tab_congr
  intro i _
  by_cases h : i = r
  · subst h; rw [if_pos rfl, if_pos (by omega)]
  · rw [if_neg h]
    by_cases h2 : i < r
    · rw [if_pos h2, if_pos (by omega)]
    · rw [if_neg h2, if_neg (by omega)]
theorem u8wrap_nat (m : Nat) : IntKind.u8.wrap (m : Int) = ((UInt8.ofNat m).toNat : Int) := by
  rw [UInt8.toNat_ofNat']
  rw [IntKind.wrap_u8]
  omega
theorem num_facts (n s r d e : Nat) (hd : d = s - 1 - r) (he : e = 8 * d) (hr : r < s) (hs : s ≤ 4) : IntKind.i64.wrap ((s : Int) - 1) = (s : Int) - 1 ∧ IntKind.i64.wrap ((s : Int) - 1 - (r : Int)) = (d : Int) ∧ (s : Int) - 1 - (r : Int) = (d : Int) ∧ IntKind.i64.wrap (8 * (d : Int)) = (e : Int) ∧ 8 * (d : Int) = (e : Int) ∧ (0 : Int) ≤ (e : Int) ∧ (e : Int) ≤ 24 ∧ ((e : Int)).toNat = e ∧ IntKind.u8.wrap ((n : Int) / 2 ^ e) = ((UInt8.ofNat (n / 2 ^ e)).toNat : Int) := by
  refine ⟨?_, ?_, by omega, ?_, by omega, by omega, by omega, by omega, ?_⟩
  · rw [IntKind.wrap_i64]; omega
  · rw [IntKind.wrap_i64]; omega
  · rw [IntKind.wrap_i64]; omega
  · rw [← u8wrap_nat]
    simp
set_option maxRecDepth 100000 in
set_option maxHeartbeats 2000000 in
theorem num_any (n s : Nat) (w : World) (hn : n < 4294967296) (hs : s ≤ 4) : Calls Try.prog 39 #[.int .i64 (n : Int), .int .i64 (s : Int)] w fun e w' => ∃ v', e = .returned v' ∧ Buf 5 w' w.heap.size v' (numB n s) ∧ Below w.heap.size w w' := by
  have n1 : (0 : Int) ≤ (n : Int) := by omega
  have hmk := make_bytes w s (by omega)
  have ncap : (s : Int) ≤ 4 := by omega
  go_enter Try.func39, Try.ntmps39
  go_wp2_with fail
  obtain ⟨w0, hw0⟩ : ∃ w0, w0 = w.alloc (.cells (AB (List.replicate s 0)) 5) := ⟨_, rfl⟩
  rw [← hw0]
  have hr0 : Row w0 w.heap.size 5 (AB (numQ n s 0)) := by rw [hw0, numQ_zero]; exact Row.new _ _ _
  have hB0 : Below w.heap.size w w0 := by rw [hw0]; exact (Below.refl _ w).alloc (Nat.le_refl _) _
  clear hw0 hmk
  go_loopg [6, 11] s (fun g u iv wr => ∃ r : Nat, g + r = s ∧ iv = .int .i64 (r : Int) ∧ Row wr w.heap.size 5 (AB (numQ n s r)) ∧ Below w.heap.size w wr)
  case atStart => exact ⟨0, by omega, rfl, hr0, hB0⟩
  case round =>
    clear hr0 hB0
    obtain ⟨r, hr, rfl, hrow, hB⟩ := hrel
    by_cases h : r < s
    · obtain ⟨d, hd⟩ : ∃ d, d = s - 1 - r := ⟨_, rfl⟩
      obtain ⟨e, he⟩ : ∃ e, e = 8 * d := ⟨_, rfl⟩
      obtain ⟨f1, f2, f3, f4, f5, f6, f7, f8, f9⟩ := num_facts n s r d e hd he h hs
      obtain ⟨x, hx⟩ : ∃ x, x = UInt8.ofNat (n / 2 ^ e) := ⟨_, rfl⟩
      rw [← hx] at f9
      have hst : (numQ n s r).set r x = numQ n s (r + 1) := by rw [hx, he, hd]; exact numQ_step n s r
      have hql := numQ_len n s r
      obtain ⟨L, hL⟩ : ∃ L, L = numQ n s r := ⟨_, rfl⟩
      rw [← hL] at hst hql hrow
      have hsz := (AB_size L).trans hql
      have c1 : (r : Int) < (s : Int) := by omega
      have c2 : (0 : Int) ≤ (r : Int) := by omega
      have HST := Lib.hid hst
      have HROW := Lib.hid (hrow.setByte r x)
      have HB := Lib.hid (hB.setCell (p := ⟨w.heap.size, r, none⟩) (Nat.le_refl _) (B x))
      clear hL hst hx he hd hql hB
      go_wp2_with fail
      go_roundg (gk - 1)
      case measure => omega
      case rel => exact ⟨r + 1, by omega, by go_num, HST.out ▸ HROW.out, HB.out⟩
    · obtain rfl : r = s := by omega
      rw [numQ_all] at hrow
      have hbuf : Buf 5 wr w.heap.size (.slice (some ⟨w.heap.size, 0, none⟩) r r) (numB n r) := by
        have := Buf.mk' (base := w.heap.size) (cap := r) hrow (l := numB n r) (by unfold Pre AB; rw [List.toList_toArray, ← List.length_map (f := B), List.take_length]) (by rw [numB_len]; exact Nat.le_refl _) (by unfold maxLen; omega) ((AB_size _).trans (numB_len n r)) (Nat.le_refl _)
        rwa [numB_len] at this
      have HBF := Lib.hid hbuf
      clear hrow hbuf
      go_wp2_with fail
      go_ret
      exact ⟨_, rfl, HBF.out, hB⟩
end Go.Proofs.Ytnenoecmmelehaa

namespace Go.Proofs.Ytnenoecmmelehaa
open Go.RowKit

def PartsAt (w : World) (vp : Value) (parts : List (List UInt8)) : Prop :=
  ∃ a cap, vp = .slice a parts.length cap ∧ parts.length ≤ cap ∧ cap ≤ maxLen ∧ ∀ i, i < parts.length → ∃ g o v, a = some ⟨g, o, none⟩ ∧ w.cell? ⟨g, o + i, none⟩ = some v ∧ SlB w v (parts.getD i [])
theorem PartsAt.below {w w' : World} {vp : Value} {parts : List (List UInt8)} (h : PartsAt w vp parts) (hb : Below w.heap.size w w') : PartsAt w' vp parts := by
  obtain ⟨a, cap, e, h1, h2, h3⟩ := h
  refine ⟨a, cap, e, h1, h2, fun i hi => ?_⟩
  obtain ⟨g, o, v, e1, e2, e3⟩ := h3 i hi
  exact ⟨g, o, v, e1, (hb.cell (World.block_lt_of_cell? w _ e2)).trans e2, e3.below hb⟩
theorem Buf.low {e : TypeId} {w : World} {b b' : Nat} {v : Value} {l : List UInt8} (h : Buf e w b v l) (hb : b' ≤ b) : Buf e w b' v l :=
  ⟨h.1, h.2.imp id fun ⟨g, cap, cur, hv, hg, hh, h1⟩ => ⟨g, cap, cur, hv, Nat.le_trans hb hg, hh, h1⟩⟩
theorem Buf.grow {e : TypeId} {w w' : World} {base : Nat} {v : Value} {l : List UInt8} (h : Buf e w base v l) (hb : Below w.heap.size w w') : Buf e w' base v l :=
  ⟨h.1, h.2.imp id fun ⟨g, cap, cur, hv, hg, hh, h1⟩ => ⟨g, cap, cur, hv, hg, (hb.block g (Array.getElem?_eq_some_iff.1 hh).1).trans hh, h1⟩⟩
theorem wpl_run {P : Program} {ops : Array Oper} {rest : List Oper} {o : Oper} {a : Act} {w w' : World} {Q : Exit → Act → World → Prop} (hgd : o.guard = none) (s x : Operand) (t tx : TypeId) (ho : o.op = .call { callee := .builtin .append, args := #[s, x], argTypes := #[t, tx] })
    {v u v' : Value} (hs : a.eval s = v) (hx : a.eval x = u) (hr : ∀ ty, (Builtin.append_ #[t, tx] ty #[v, u]).run P w = .ok v' w') (h : wpList P ops Q rest (a.put o.dst v') w') : wpList P ops Q (o :: rest) a w :=
  wpList_plain hgd fun _ hK => by
    unfold Oper.wp execOp
    simp only [ho, resolve, invoke, builtin, Sem.run_bind, Sem.run_pure, Result.andThen_ok, List.map_toArray, List.map_cons, List.map_nil, hs, hx, hr]
    exact hK _ _ h
def lenN (parts : List (List UInt8)) (k : Nat) : Nat := ((parts.take k).flatten).length
theorem lenN_step (parts : List (List UInt8)) (k : Nat) (h : k < parts.length) : lenN parts (k + 1) = lenN parts k + (parts.getD k []).length := by
  unfold lenN
  rw [List.take_succ_eq_append_getElem h, List.flatten_append, List.length_append]
  simp [h]
theorem lenN_le (parts : List (List UInt8)) (k : Nat) : lenN parts k ≤ parts.flatten.length := by
  unfold lenN
  have := congrArg List.length (congrArg List.flatten (List.take_append_drop k parts))
  rw [List.flatten_append, List.length_append] at this
  omega
set_option maxRecDepth 100000 in
set_option maxHeartbeats 2000000 in
theorem grow_nil (n : Nat) (w : World) (hn : n ≤ 1000000) : Calls Try.prog 52 #[.slice none 0 0, .int .i64 (n : Int)] w fun e w' => ∃ v', e = .returned v' ∧ Buf 5 w' w.heap.size v' [] ∧ Below w.heap.size w w' := by
  have n1 : (0 : Int) ≤ (n : Int) := by omega
  have n4 : ¬ (n : Int) < 0 := by omega
  have n2 : IntKind.i64.wrap (n : Int) = (n : Int) := by rw [IntKind.wrap_i64]; omega
  rcases Nat.eq_zero_or_pos n with h | h
  · subst h
    go_enter Try.func52, Try.ntmps52
    go_wp2_with fail
    go_ret
    exact ⟨_, rfl, by simpa [Buf] using World.ownsRow_nil w w.heap.size 5 1, Below.refl _ w⟩
  · have n3 : (0 : Int) < (n : Int) := by omega
    obtain ⟨i0, hi, hz0, hz1, hz2⟩ := info_parts info_u8
    have hrz : ∀ ty, (Builtin.append_ #[27, 3] ty #[.slice none 0 0, .int .i64 (n : Int)]).run Try.prog w = .ok (.slice (some ⟨w.heap.size, 0, none⟩) (0 + n) (grownCap w (0 + n) 0 5)) (w.drew.alloc (.cells (([] : List Value).toArray ++ Builtin.zeroCells (Value.int .u8 0).cells n ++ Builtin.zeroCells (Value.int .u8 0).cells (grownCap w (0 + n) 0 5 - (0 + n))) 5)) := fun ty =>
      Lib.run_append_grow_zeros w _ _ ty _ i0 (.int .u8 0) .i64 .i64 Try.underlying27 Try.underlying3 hi hz0 none 0 0 [] (run_firstCells_none w.drew i0.size 0 0 0) n h (by omega) (by omega) (by omega) (by rw [hz2]; omega) (growslice_fits (by omega) (by rw [hz2]; omega))
    have hge := grownCap_ge w (0 + n) 0 5
    have hle := grownCap_le_maxLen w (0 + n) 0 5 (by unfold maxLen; omega)
    rw [Nat.zero_add] at hge hle
    simp only [Nat.zero_add] at hrz
    obtain ⟨G, hG⟩ : ∃ G, G = grownCap w n 0 5 := ⟨_, rfl⟩
    rw [← hG] at hrz hge hle
    obtain ⟨CS, hCS⟩ : ∃ CS, CS = ([] : List Value).toArray ++ Builtin.zeroCells (Value.int .u8 0).cells n ++ Builtin.zeroCells (Value.int .u8 0).cells (G - n) := ⟨_, rfl⟩
    rw [← hCS] at hrz
    have hcs : CS.size = G := by rw [hCS]; simp [Builtin.zeroCells, Value.cells]; omega
    have hbuf : Buf 5 (w.drew.alloc (.cells CS 5)) w.heap.size (.slice (some ⟨w.heap.size, 0, none⟩) 0 G) [] :=
      ⟨by simp, .inr ⟨w.heap.size, G, CS, rfl, Nat.le_refl _, heap_alloc_new w.drew _, Nat.zero_le _, hle, by simpa using hcs, by simp⟩⟩
    have hB : Below w.heap.size w (w.drew.alloc (.cells CS 5)) := (Below.refl _ w).drew.alloc (Nat.le_refl _) _
    have hg1 : (0 : Int) ≤ (G : Int) := by omega
    have HBF := Lib.hid hbuf
    have HB := Lib.hid hB
    have HRZ := Lib.hid hrz
    clear hCS hcs hbuf hB hG hge hle hi hz0 hz1 hz2 hrz
    go_enter Try.func52, Try.ntmps52
    go_wp2_with (at_builtin; refine wpl_run rfl (.tmp 20) (.tmp 21) 27 3 rfl rfl rfl HRZ.out ?_)
    go_wp2_with fail
    go_ret
    exact ⟨_, rfl, HBF.out, HB.out⟩
set_option maxRecDepth 100000 in
set_option maxHeartbeats 4000000 in
theorem concat_any (vp : Value) (parts : List (List UInt8)) (w : World) (hp : PartsAt w vp parts) (hl : parts.flatten.length ≤ 1000000) (hpl : parts.length ≤ 1000000) : Calls Try.prog 38 #[vp] w fun e w' => ∃ v', e = .returned v' ∧ Buf 5 w' w.heap.size v' parts.flatten ∧ Below w.heap.size w w' := by
  have HP := Lib.hid hp
  obtain ⟨pa, pcap, rfl, hpc, hpm, hpe⟩ := hp
  have HPE := Lib.hid hpe
  clear hpe
  have HLE := Lib.hid (fun k => Nat.le_trans (lenN_le parts k) hl)
  go_enter Try.func38, Try.ntmps38
  go_wp2_with fail
  go_loopg [3, 5, 11] parts.length (fun g sv u iv wr => ∃ k : Nat, g + k = parts.length ∧ iv = .int .i64 (k : Int) ∧ sv = .int .i64 (lenN parts k : Int) ∧ w = wr)
  case atStart => exact ⟨0, by omega, rfl, rfl, rfl⟩
  case round =>
    obtain ⟨k, hk, rfl, rfl, rfl⟩ := hrel
    by_cases h : k < parts.length
    · obtain ⟨g, o, v, ha, hc, hs⟩ := HPE.out k h
      obtain ⟨a', c', rfl⟩ : ∃ a c, v = .slice a (parts.getD k []).length c := let ⟨a, c, h, _⟩ := hs; ⟨a, c, h⟩
      subst ha
      have x0 : (0 : Int) ≤ (k : Int) := by omega
      have x1 : (k : Int) < (parts.length : Int) := by omega
      have x3 : ((k : Int)).toNat = k := by omega
      have hst := lenN_step parts k h
      have hle := HLE.out (k + 1)
      obtain ⟨N, hN⟩ : ∃ N, N = lenN parts k := ⟨_, rfl⟩
      obtain ⟨M, hM⟩ : ∃ M, M = (parts.getD k []).length := ⟨_, rfl⟩
      rw [← hN] at hst ⊢
      rw [← hM] at hst hc
      have x4 : IntKind.i64.wrap ((N : Int) + (M : Int)) = (N : Int) + (M : Int) := by rw [IntKind.wrap_i64]; omega
      have x5 : ¬ ((N : Int) + (M : Int)) < 0 := by omega
      have x6 : ((N : Int) + (M : Int)) = ((lenN parts (k + 1) : Nat) : Int) := by omega
      have X6 := Lib.hid x6
      clear hst hle hN hM x6 hs
      go_wp2_with fail
      go_roundg (gk - 1)
      case measure => omega
      case rel => exact ⟨k + 1, by omega, by go_num, by rw [← X6.out], rfl⟩
    · obtain rfl : k = parts.length := by omega
      have x1 : ¬ (parts.length : Int) < (parts.length : Int) := by omega
      have hT : lenN parts parts.length ≤ 1000000 := HLE.out _
      obtain ⟨T, hTe⟩ : ∃ T, T = lenN parts parts.length := ⟨_, rfl⟩
      rw [← hTe] at hT ⊢
      clear hTe
      go_wp2_with fail
      refine (grow_nil T w hT).mono ?_
      rintro e w1 ⟨v6, rfl, hb6, hB1⟩
      have HB6 := Lib.hid (show Buf 5 w1 w.heap.size v6 (parts.take 0).flatten from hb6)
      clear hb6
      go_wp2_with fail
      go_loopg [6, 8, 27] parts.length (fun g v u iv w2 => ∃ k : Nat, g + k = parts.length ∧ iv = .int .i64 (k : Int) ∧ Buf 5 w2 w.heap.size v (parts.take k).flatten ∧ Below w.heap.size w w2)
      case atStart => exact ⟨0, by omega, rfl, HB6.out, hB1⟩
      case round =>
        clear HB6 hB1
        obtain ⟨k, hk, rfl, hb6, hB1⟩ := hrel
        by_cases h : k < parts.length
        · obtain ⟨g, o, v, ha, hc, hs⟩ := HPE.out k h
          subst ha
          have x0 : (0 : Int) ≤ (k : Int) := by omega
          have x1 : (k : Int) < (parts.length : Int) := by omega
          have x3 : ((k : Int)).toNat = k := by omega
          have hc2 := (hB1.cell (World.block_lt_of_cell? w _ hc)).trans hc
          have hs2 := hs.below hB1
          have hst : (parts.take k).flatten ++ parts.getD k [] = (parts.take (k + 1)).flatten := by
            rw [List.take_succ_eq_append_getElem h, List.flatten_append]
            simp [h]
          have hle := HLE.out (k + 1)
          have hle2 : (parts.take k).flatten.length + (parts.getD k []).length ≤ 1000000 := by
            unfold lenN at hle
            rw [← hst, List.length_append] at hle
            exact hle
          obtain ⟨A, hA⟩ : ∃ A, A = (parts.take k).flatten := ⟨_, rfl⟩
          obtain ⟨M, hM⟩ : ∃ M, M = parts.getD k [] := ⟨_, rfl⟩
          rw [← hA, ← hM] at hst hle2
          rw [← hA] at hb6
          rw [← hM] at hs2
          have HST := Lib.hid hst
          have HS2 := Lib.hid hs2
          have HBU := Lib.hid hb6
          have HB2 := Lib.hid hB1
          have HLB := Lib.hid (show A.length + M.length ≤ 140737488355328 by omega)
          clear hst hs2 hb6 hA hM hle hle2 hs hc
          go_wp2_with (at_builtin; refine wpl_appendS rfl (.tmp 31) (.tmp 32) 27 rfl Try.underlying27 info_u8 w.heap.size _ A rfl HBU.out _ M rfl HS2.out HLB.out HB2.out.size ?_)
          intro v' w3 hb3 hg3
          rw [HST.out] at hb3
          have hB3 : Below w.heap.size w w3 := HB2.out.grown hg3 HB2.out.size (fun j e => (HBU.out.lt j e).1)
          have HB3 := Lib.hid hb3
          clear hb3 hg3
          go_wp2_with fail
          go_roundg (gk - 1)
          case measure => omega
          case rel => exact ⟨k + 1, by omega, by go_num, HB3.out, hB3⟩
        · obtain rfl : k = parts.length := by omega
          rw [List.take_length] at hb6
          have HB3 := Lib.hid hb6
          clear hb6
          go_wp2_with fail
          go_ret
          exact ⟨_, rfl, HB3.out, hB1⟩
end Go.Proofs.Ytnenoecmmelehaa

namespace Go.Proofs.Ytnenoecmmelehaa
open Go.RowKit

set_option maxRecDepth 100000 in
set_option maxHeartbeats 2000000 in
theorem vec_any (s : Nat) (vp : Value) (parts : List (List UInt8)) (w : World) (hs : s ≤ 4) (hp : PartsAt w vp parts) (hl : parts.flatten.length ≤ 1000000) (hpl : parts.length ≤ 1000000) :
    Calls Try.prog 23 #[.int .i64 (s : Int), vp] w fun e w' => ∃ v', e = .returned v' ∧ Buf 5 w' w.heap.size v' (vecB parts.flatten s) ∧ Below w.heap.size w w' := by
  have HC := Lib.hid (concat_any vp parts w hp hl hpl)
  obtain ⟨L, hL⟩ : ∃ L, L = parts.flatten := ⟨_, rfl⟩
  rw [← hL] at HC hl ⊢
  clear hL hp hpl
  go_enter Try.func23, Try.ntmps23
  go_wp2_with fail
  refine HC.out.mono ?_
  rintro e w1 ⟨v5, rfl, hb5, hB1⟩
  obtain ⟨a5, c5, rfl⟩ : ∃ a c, v5 = .slice a L.length c := let ⟨a, c, h, _⟩ := hb5.slb; ⟨a, c, h⟩
  have H5 := Lib.hid hb5.slb
  have HN := Lib.hid (num_any L.length s w1 (by omega) hs)
  have HFIN := Lib.hid (show numB L.length s ++ L = vecB L s from rfl)
  have hnl := numB_len L.length s
  obtain ⟨N, hN⟩ : ∃ N, N = numB L.length s := ⟨_, rfl⟩
  rw [← hN] at HN HFIN hnl
  have HLB := Lib.hid (show N.length + L.length ≤ 140737488355328 by omega)
  clear hN hb5 hl hnl
  go_wp2_with fail
  refine HN.out.mono ?_
  rintro e w2 ⟨v11, rfl, hb11, hB2⟩
  have H5b := Lib.hid (H5.out.below hB2)
  have hB3 := hB1.trans (hB2.mono hB1.size)
  have HB3 := Lib.hid hB3
  have H11 := Lib.hid (show Buf 5 w2 w.heap.size v11 N from hb11.low hB1.size)
  clear hb11 hB2 hB1 hB3
  go_wp2_with (at_builtin; refine wpl_appendS rfl (.tmp 11) (.tmp 12) 27 rfl Try.underlying27 info_u8 w.heap.size _ N rfl H11.out _ L rfl H5b.out HLB.out HB3.out.size ?_)
  intro v' w3 hb3 hg3
  rw [HFIN.out] at hb3
  have hB4 : Below w.heap.size w w3 := HB3.out.grown hg3 HB3.out.size (fun j e => (H11.out.lt j e).1)
  have HB4 := Lib.hid hb3
  clear hb3 hg3
  go_wp2_with fail
  go_ret
  exact ⟨_, rfl, HB4.out, hB4⟩
set_option maxRecDepth 100000 in
theorem within_any (n a b : Int) (w : World) : Calls Try.prog 33 #[.int .i64 n, .int .i64 a, .int .i64 b] w fun e w' => e = .returned (.bool (decide (a ≤ n) && decide (n ≤ b))) ∧ w' = w := by
  by_cases h1 : a ≤ n
  · by_cases h2 : n ≤ b
    · go_enter Try.func33, Try.ntmps33
      go_wp2_with fail
      go_ret
      exact ⟨by simp [h1, h2], rfl⟩
    · go_enter Try.func33, Try.ntmps33
      go_wp2_with fail
      go_ret
      exact ⟨by simp; omega, rfl⟩
  · go_enter Try.func33, Try.ntmps33
    go_wp2_with fail
    go_ret
    exact ⟨by simp; omega, rfl⟩
set_option maxRecDepth 100000 in
theorem wide_any (n : Int) (w : World) : Calls Try.prog 34 #[.int .i64 n] w fun e w' => e = .returned (.bool (wideP n)) ∧ w' = w := by
  have e : decide (n ≤ 4294967295) = decide (n < 4294967296) := by rw [decide_eq_decide]; omega
  have hw := within_any n 0 4294967295 w
  rw [e] at hw
  have HW := Lib.hid (show Calls Try.prog 33 #[.int .i64 n, .int .i64 0, .int .i64 4294967295] w fun e w' => e = .returned (.bool (wideP n)) ∧ w' = w from hw)
  clear hw e
  go_enter Try.func34, Try.ntmps34
  go_wp2_with fail
  refine HW.out.mono ?_
  rintro e w1 ⟨rfl, rfl⟩
  go_wp2_with fail
  go_ret
  exact ⟨rfl, rfl⟩
end Go.Proofs.Ytnenoecmmelehaa

namespace Go.Proofs.Ytnenoecmmelehaa
open Go.RowKit

def rmC (m : MsgP) (vc : Value) : Array Value :=
  ([Value.int .i64 m.kind] ++ (m.random.map B ++ (m.mark.map B ++ [S m.session, S m.share, S m.ticket, S m.nonce, S m.sig, vc, .int .i64 m.life, .int .i64 m.age, .bool m.psk, .bool m.retry]))).toArray
def hmC (m : MsgP) (v1 v2 v3 v4 v5 vc : Value) : Array Value :=
  ([Value.int .i64 m.kind] ++ (m.random.map B ++ (m.mark.map B ++ [v1, v2, v3, v4, v5, vc, .int .i64 m.life, .int .i64 m.age, .bool m.psk, .bool m.retry]))).toArray
def mC (k : Int) (r mk : List UInt8) (l : List Value) : Array Value := ([Value.int .i64 k] ++ (r.map B ++ (mk.map B ++ l))).toArray
section
variable {k : Int} {r mk : List UInt8} {l : List Value} (hr : r.length = 32) (hm : mk.length = 32)
include hr hm in
theorem mC_get (i : Nat) : (mC k r mk l)[65 + i]? = l[i]? := by
  have e1 : ([Value.int .i64 k] ++ (r.map B ++ (mk.map B ++ l)))[65 + i]? = l[i]? := by
    rw [List.getElem?_append_right (by simp; omega), List.getElem?_append_right (by simp; omega), List.getElem?_append_right (by simp; omega)]
    simp [hr, hm]
    congr 1
    omega
  simpa [mC] using e1
theorem mC_kind : (mC k r mk l)[0]? = some (.int .i64 k) := by simp [mC]
include hr hm in
theorem mC_size : (mC k r mk l).size = 65 + l.length := by simp [mC, hr, hm]; omega
include hr in
theorem mC_random : sub (mC k r mk l) 1 32 = AB r := by
  apply Array.ext'
  simp [sub, mC, AB, hr]
include hr hm in
theorem mC_mark : sub (mC k r mk l) 33 32 = AB mk := by
  apply Array.ext'
  simp [sub, mC, AB, hr, hm]
end
theorem zero32_lit : AB zero32 = #[.int .u8 0, .int .u8 0, .int .u8 0, .int .u8 0, .int .u8 0, .int .u8 0, .int .u8 0, .int .u8 0, .int .u8 0, .int .u8 0, .int .u8 0, .int .u8 0, .int .u8 0, .int .u8 0, .int .u8 0, .int .u8 0, .int .u8 0, .int .u8 0, .int .u8 0, .int .u8 0, .int .u8 0, .int .u8 0, .int .u8 0, .int .u8 0, .int .u8 0, .int .u8 0, .int .u8 0, .int .u8 0, .int .u8 0, .int .u8 0, .int .u8 0, .int .u8 0] := by kernel_rfl
theorem equal32 (xs ys : List UInt8) (hx : xs.length = 32) (hy : ys.length = 32) (w : World) : (Op.equalIn 10000 22 (.agg (AB xs)) (.agg (AB ys))).run Try.prog w = .ok (xs == ys) w :=
  run_equalIn_bytes w 9998 22 5 32 Try.underlying22 Try.underlying5 (fun _ => by kernel_rfl) xs ys hx hy
end Go.Proofs.Ytnenoecmmelehaa
