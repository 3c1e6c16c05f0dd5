/- Part of the proof: HReadE, HHellos. No conditions of its own. -/
import Derived.Below
import Derived.BigQuiet
import Derived.ChangeOld
import Derived.Deep.AppendLies
import Derived.Deep.CutBlock
import Derived.Deep.DeepCutAuto
import Derived.Deep.Draws
import Derived.Deep.LoopGhost
import Derived.Deep.Quiet
import Derived.Deep.QuietTactic
import Derived.Deep.RegionLaw
import Derived.Great.BuildSlice
import Derived.Great.FillDense
import Derived.Laws.AppendOwn
import Derived.Laws.AppendOwnNone
import Derived.Laws.BytesArg
import Derived.Laws.Concat
import Derived.Laws.MakeOwn
import Derived.Lib.AppendZerosOnto
import Derived.Lib.BufferWrite
import Derived.Lib.ConvBytes
import Derived.Lib.Hide
import Derived.Lib.SlBytesConst
import Derived.OpenShut
import Derived.ProofKit
import Derived.ShutString
import Derived.StillTail
import Derived.Stop.BytesEq
import Derived.Test.YtnenoecmmelehaaProg
import Derived.WalkKit
import Derived.WalkLawsBesides
import Derived.WalkSpells
import Derived.Test.YtnenoecmmelehaaM32
import Derived.Test.YtnenoecmmelehaaM33
import Derived.Test.YtnenoecmmelehaaM22
namespace Go.Proofs.Ytnenoecmmelehaa
open Go.RowKit
set_option linter.unusedVariables false

theorem read_any (vb : Value) (b : List UInt8) (w : World) (h : SlB w vb b) (hl : b.length ≤ 1000000) : Calls Try.prog 16 #[vb] w (ReadSt w (readBy parseP b)) := by
  unfold readBy
  rcases Nat.eq_zero_or_pos b.length with h0 | h0
  · rw [if_neg (by omega), if_pos (by omega)]
    exact read_nil vb b w h h0
  cases hk : isKindP (gb b 0).toNat with
  | false =>
    rw [if_pos ⟨h0, rfl⟩]
    exact read_form vb b w h h0 hk
  | true =>
    rw [if_neg (fun e => by cases e.2)]
    by_cases h4 : b.length < 4
    · rw [if_pos h4]
      exact read_tail vb b w h h0 hk h4
    rw [if_neg h4]
    have h4' : 4 ≤ b.length := by omega
    by_cases h1 : 32768 < headN b
    · rw [if_pos h1]
      exact read_big vb b w h hl h4' hk h1
    rw [if_neg h1]
    by_cases h2 : b.length < 4 + headN b
    · rw [if_pos h2]
      exact read_more vb b w h hl h4' hk (by omega) h2
    rw [if_neg h2]
    have h1' : headN b ≤ 32768 := by omega
    have h2' : 4 + headN b ≤ b.length := by omega
    cases hrt : rightP (parseP ((gb b 0).toNat : Int) ((b.drop 4).take (headN b))) with
    | false =>
      rw [if_neg (fun e => by cases e.1)]
      by_cases hc : cap0 vb = 4
      · exact read_no4 vb b w h hl h4' hk h1' h2' hc hrt
      · exact read_no vb b w h hl h4' hk h1' h2' hc hrt
    | true =>
      by_cases hwr : writeP (parseP ((gb b 0).toNat : Int) ((b.drop 4).take (headN b))) = b.take (4 + headN b)
      · rw [if_pos ⟨rfl, hwr⟩]
        by_cases hc : cap0 vb = 4
        · exact read_yes4 vb b w h hl h4' hk h1' h2' hc hrt hwr
        · exact read_yes vb b w h hl h4' hk h1' h2' hc hrt hwr
      · rw [if_neg (fun e => hwr e.2)]
        by_cases hc : cap0 vb = 4
        · exact read_bad4 vb b w h hl h4' hk h1' h2' hc hrt hwr
        · exact read_bad vb b w h hl h4' hk h1' h2' hc hrt hwr
end Go.Proofs.Ytnenoecmmelehaa

namespace Go.Proofs.Ytnenoecmmelehaa
open Go.RowKit
set_option linter.unusedVariables false
set_option linter.unusedSimpArgs false

theorem run_append_keep (w : World) (base : Nat) (v : Value) (l : List UInt8) (hb : Buf 5 w base v l) (hl : 0 < l.length) (vx : Value) (m : List UInt8) (hS : SlB w vx m) (hm : 0 < m.length) (hlen : l.length + m.length ≤ 1000000) (hbase : base ≤ w.heap.size) (ty : TypeId) :
    ∃ v' w', (Builtin.append_ #[27, 27] ty #[v, vx]).run Try.prog w = .ok v' w' ∧ Buf 5 w' base v' (l ++ m) ∧ SlB w' v l ∧ Below base w w' := by
  obtain ⟨i, hi, hz, hs1, hb1⟩ := info_any info_u8
  obtain ⟨by', oy, cy, rfl, _, _, _, hc⟩ := hS.addr hm
  have hnews : ∀ j u, (m.map B)[j]? = some u → w.cell? ((⟨by', oy, none⟩ : Addr).add j) = some u := fun j u hj => by
    have hj' : j < m.length := by simpa using (List.getElem?_eq_some_iff.1 hj).1
    rw [Addr.add_lit, hc j hj']
    simpa [gb, hj'] using hj
  have h1 : ∀ u ∈ m.map B, u.oneCell' = true := fun u hu => by obtain ⟨y, _, rfl⟩ := List.mem_map.1 hu; rfl
  obtain ⟨v', w', hr, k1, k2, _, _⟩ := run_append_own_at (P := Try.prog) w base 27 ty 5 i _ 1 1 Try.underlying27 hi hz hs1 hb1 rfl (by decide) v l.length (l.map B) hb ⟨by', oy, none⟩ m.length cy (m.map B) (by simp) hnews h1 (by unfold maxLen; omega) (by omega) hbase
  have hB' : Buf 5 w' base v' (l ++ m) := by simpa [Buf] using k1
  have hbel : Below base w w' := (Below.refl base w).grown k2 hbase (fun k e => (World.ownsRow.lt hb k e).1)
  refine ⟨v', w', hr, hB', ?_, hbel⟩
  have hsl := hb.slb
  obtain ⟨g, cap, cur, rfl, hg, hrow, c1, c2, c3, c4⟩ := hb.open hl
  by_cases hroom : l.length + m.length ≤ cap
  · have := run_append_room_cells (P := Try.prog) (w := w) 27 ty 5 i Try.underlying27 hi g 0 l.length cap ⟨by', oy, none⟩ m.length cy (m.map B) (by simp [hs1]) hnews h1 hroom (fun j hj => by
        rw [hrow.cell, hs1, Array.getElem?_eq_getElem (by simp at hj; omega)]; rfl) (fun j hj => by rw [hs1]; exact hrow.frozen _)
    rw [this] at hr
    injection hr with e1 e2
    subst e1
    have hs' := hB'.slb
    have := SlB.take (m := l.length) hs' (by omega)
    rwa [List.take_left'] at this
    rfl
  · have hbd : Builtin.nextslicecap (l.length + m.length) cap * i.bytes ≤ 281474976710656 := by
      rw [hb1, Nat.mul_one]
      exact Nat.le_trans (nextslicecap_le (by omega)) (by omega)
    have hcl : ∀ i, i < l.length → w.cell? ⟨g, 0 + i, none⟩ = some (B (gb l i)) := by
      obtain ⟨a', cap', hv, _, _, _, h4⟩ := hsl
      simp only [Value.slice.injEq] at hv
      exact fun i hi => (h4 _ hv.1.symm).2 i hi
    have := run_append_grow (P := Try.prog) (w := w) 27 ty 5 i _ Try.underlying27 hi hz ⟨g, 0, none⟩ l.length cap (l.map B) (by simp [hs1]) (fun j v hj => by
      have hj' : j < l.length := by simpa using (List.getElem?_eq_some_iff.1 hj).1
      rw [Addr.add_lit, hcl j hj']
      simpa [gb, hj'] using hj) ⟨by', oy, none⟩ m.length cy (m.map B) (by simp [hs1]) hnews (by omega) (by omega) hbd
    rw [this] at hr
    injection hr with e1 e2
    subst e2
    exact hsl.below ((Below.refl _ w).drew.alloc (Nat.le_refl _) _)
theorem wpl_appendK {w : World} {ops : Array Oper} {rest : List Oper} {o : Oper} {a : Act} {Q : Exit → Act → World → Prop} (hgd : o.guard = none) (s x : Operand)
    (ho : o.op = .call { callee := .builtin .append, args := #[s, x], argTypes := #[27, 27] })
    (base : Nat) (v : Value) (l : List UInt8) (hs : a.eval s = v) (hb : Buf 5 w base v l) (hl : 0 < l.length) (vx : Value) (m : List UInt8) (hx : a.eval x = vx) (hS : SlB w vx m) (hm : 0 < m.length)
    (hlen : l.length + m.length ≤ 1000000) (hbase : base ≤ w.heap.size)
    (h : ∀ v' w', Buf 5 w' base v' (l ++ m) → SlB w' v l → Below base w w' → wpList Try.prog ops Q rest (a.put o.dst v') w') : wpList Try.prog ops Q (o :: rest) a w :=
  wpList_plain hgd fun _ hK => by
    obtain ⟨v', w', hr, h1, h2, h3⟩ := run_append_keep w base v l hb hl vx m hS hm hlen hbase o.type
    unfold Oper.wp execOp
    simp only [ho, resolve, invoke, builtin, Sem.run_bind, Sem.run_pure, Result.andThen_ok, List.map_toArray, List.map_cons, List.map_nil, hs, hx, hr]
    exact hK _ _ (h v' w' h1 h2 h3)
theorem zH_s0 (k : Int) : zH.setIfInBounds 0 (.int .i64 k) = mD k zero32 zero32 [.slice none 0 0, .slice none 0 0, .slice none 0 0, .slice none 0 0, .slice none 0 0, .slice none 0 0, .int .i64 0, .int .i64 0, .bool false, .bool false] := by
  unfold zH
  exact mD_s0 k
theorem right8 : rightP (emptyM 8) = true := by decide
theorem write8 : writeP (emptyM 8) = [8, 0, 0, 2, 0, 0] := by decide
theorem read8 : readBy parseP ([8, 0, 0, 2, 0, 0] ++ [9]) = (emptyM 8, 6, 0) := by
  have hp : parseP ((gb ([8, 0, 0, 2, 0, 0] ++ [9]) 0).toNat : Int) ((([8, 0, 0, 2, 0, 0] ++ [9] : List UInt8).drop 4).take (headN ([8, 0, 0, 2, 0, 0] ++ [9]))) = emptyM 8 := parseP_8 _
  unfold readBy
  rw [if_neg (by decide), if_neg (by decide), if_neg (by decide), if_neg (by decide), hp, if_pos ⟨right8, by rw [write8]; decide⟩]
  rfl
attribute [local go_sem] zH_s0 zH_one zH_over zH_size
set_option maxRecDepth 100000 in
set_option maxHeartbeats 4000000 in
theorem hellos_any (w : World) : Calls Try.prog 13 #[] w fun e w' => e = .returned (.bool true) ∧ Below w.heap.size w w' := by
  go_enter Try.func13, Try.ntmps13
  go_wp2_with fail
  refine (write_yes (MsgN.empty w w.heap.size 8).at (emptyM_small 8) right8).mono ?_
  rw [write8]
  rintro e w1 ⟨v, rfl, hb, hB⟩
  have HB := Lib.hid hb
  have HBL := Lib.hid hB
  obtain ⟨g, cap, cur, rfl, _⟩ := hb.open (by decide)
  have hsz := hB.size
  clear hb hB
  have HS9 := Lib.hid (show SlB (w1.alloc (.cells #[.int .u8 9] 5)) (.slice (some ⟨w1.heap.size, 0, none⟩) 1 1) [9] from SlB.of_row (l := [9]) (Row.new w1 _ _) rfl (by unfold maxLen; decide))
  have HB2 := Lib.hid (HB.out.grow ((Below.refl _ w1).alloc (Nat.le_refl _) (.cells #[.int .u8 9] 5)))
  have hbs : w.heap.size ≤ (w1.alloc (.cells #[.int .u8 9] 5)).heap.size := by simp; omega
  have HBS := Lib.hid hbs
  clear hbs
  go_wp2_with (at_builtin; refine wpl_appendK rfl (.tmp 12) (.tmp 13) rfl w.heap.size _ [8, 0, 0, 2, 0, 0] rfl HB2.out (by decide) _ [9] rfl HS9.out (by decide) (by decide) HBS.out ?_)
  intro v' w2 hb2 hs2 hB2
  have hBw := (HBL.out.trans (((Below.refl _ w1).alloc (Nat.le_refl _) _).mono hsz)).trans hB2
  have hr := read_any v' ([8, 0, 0, 2, 0, 0] ++ [9]) w2 hb2.slb (by decide)
  rw [read8] at hr
  have HR := Lib.hid hr
  have HS2 := Lib.hid hs2
  have HBW := Lib.hid hBw
  clear hr hs2 hBw hb2 hB2 HS9 HB2 HBS HB HBL hsz
  go_wp2_with fail
  refine HR.out.mono ?_
  rintro e w3 ⟨C, rfl, hN, hB3⟩
  obtain ⟨hz, h1c, hoc⟩ := hN.size
  have f0 : C[0]? = some (.int .i64 8) := by obtain ⟨v1, v2, v3, v4, v5, vc, vs, e, _⟩ := hN; rw [e]; exact mD_0
  have f0' : ∀ h : 0 < C.size, C[0] = .int .i64 8 := fun h => by
    rw [Array.getElem?_eq_getElem h] at f0
    exact Option.some.inj f0
  have hBw := HBW.out.trans (hB3.mono HBW.out.size)
  have HS3 := Lib.hid (HS2.out.below hB3)
  have HBW3 := Lib.hid hBw
  clear hN HR HS2 HBW hB3 hBw
  go_upto_region 3 with (fail)
  refine gen_wp (fun w4 => Row w4 w3.heap.size 30 C ∧ SlB w4 (.slice (some ⟨g, 0, none⟩) 6 cap) [8, 0, 0, 2, 0, 0] ∧ Below w.heap.size w w4) ⟨(Row.new _ _ _).setRow C, HS3.out.below (bSetRow ((Below.refl _ _).alloc (Nat.le_refl _) _) (Nat.le_refl _) _), bSetRow (HBW3.out.alloc HBW3.out.size _) HBW3.out.size _⟩ ?_
  rintro w4 ⟨hr4, hs4, hB4⟩
  have hcv := run_conv_slb (P := Try.prog) w4 27 _ 9 Try.underlying27 Try.underlying5 Try.underlying9 _ _ hs4
  clear hs4 HS3 HBW3
  go_wp2_with fail
  go_ret
  exact ⟨rfl, hB4⟩
end Go.Proofs.Ytnenoecmmelehaa
