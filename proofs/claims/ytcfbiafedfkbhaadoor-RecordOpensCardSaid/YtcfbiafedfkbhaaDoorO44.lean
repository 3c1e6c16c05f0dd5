/- Part of the proof: LineB, OpensKit, RecordPads, RecordSeals. No conditions of its own. -/
import Derived.ArgAppend
import Derived.Below
import Derived.BigQuiet
import Derived.BigRegion
import Derived.ChangeOld
import Derived.Deep.AppendSrc
import Derived.Deep.CutBlock
import Derived.Deep.DeepCutAuto
import Derived.Deep.Draws
import Derived.Deep.LoopGhost
import Derived.Deep.MidRow
import Derived.Deep.Quiet
import Derived.Deep.QuietTactic
import Derived.Deep.RegionHeld3
import Derived.Deep.RegionLaw
import Derived.Deep.Upon
import Derived.Laws.AppendOwnNone
import Derived.Laws.Bits64
import Derived.Laws.BitsAllLaws
import Derived.Laws.BytesArg
import Derived.Laws.Concat
import Derived.Laws.CopyOwn
import Derived.Laws.MakeOwn
import Derived.Lib.AppendStr
import Derived.Lib.AppendZerosOnto
import Derived.Lib.BufferMore
import Derived.Lib.ConvBytes
import Derived.Lib.Hide
import Derived.Lib.SlBytesConst
import Derived.LoopIn
import Derived.LoopNIn
import Derived.Maps.AppendAt
import Derived.OpenShut
import Derived.OrdersIn
import Derived.OwnWalkIn
import Derived.ProofKit
import Derived.RangeFuncBound
import Derived.RangeFuncBox
import Derived.RangeFuncCalls
import Derived.RangeFuncLeaves
import Derived.RangeFuncNested
import Derived.Shelf.Abstract
import Derived.ShutString
import Derived.StillTail
import Derived.TacticsIn
import Derived.TacticsInMore
import Derived.Test.YtcfbiafedfkbhaaDoorChecked
import Derived.Test.YtcfbiafedfkbhaaDoorProg
import Derived.WalkKit
import Derived.WalkSpells
import Derived.Test.YtcfbiafedfkbhaaDoorO27
import Derived.Test.YtcfbiafedfkbhaaDoorO40
import Derived.Test.YtcfbiafedfkbhaaDoorO43
import Derived.Lib.BufferWrite
import Derived.Lib.SlBuf
import Derived.Test.YtcfbiafedfkbhaaDoorO34
import Derived.Test.YtcfbiafedfkbhaaDoorO41
import Derived.Test.YtcfbiafedfkbhaaDoorO24
import Derived.Test.YtcfbiafedfkbhaaDoorO28
import Derived.Test.YtcfbiafedfkbhaaDoorO32
namespace Go.Proofs.YtcfbiafedfkbhaaDoor
open Go.RowKit
set_option linter.unusedVariables false
set_option linter.unusedSimpArgs false

def PB (w : World) (v : Value) (l : List UInt8) : Prop := ∃ a c, v = .slice a l.length c ∧ l.length ≤ c ∧ c ≤ maxLen ∧ (a = none → c = 0) ∧ (0 < l.length → SlB w v l)
theorem PB.below {w w' : World} {v : Value} {l : List UInt8} (h : PB w v l) (hb : Below w.heap.size w w') : PB w' v l := by
  obtain ⟨a, c, h1, h2, h3, h4, h5⟩ := h
  exact ⟨a, c, h1, h2, h3, h4, fun h => (h5 h).below hb⟩
theorem PB.take {w : World} {a : Option Addr} {n c : Nat} {l : List UInt8} (h : PB w (.slice a n c) l) (m : Nat) (hm : m ≤ n) : PB w (.slice a m c) (l.take m) := by
  obtain ⟨a', c', h1, h2, h3, h4, h5⟩ := h
  simp only [Value.slice.injEq] at h1
  obtain ⟨rfl, hn, rfl⟩ := h1
  have hl : (l.take m).length = m := by simp; omega
  exact ⟨a, c, by rw [hl], by omega, h3, h4, fun h => (h5 (by omega)).take m hm⟩
section
variable {H : Type} {enc : TypeId × Value → H} {P : Program} {w : World} {held : Bool}
theorem part_cell {t e : TypeId} {vp : Value} {fuel : Nat} {y : DataW H × List MemPlace} (ht : P.underlying t = some (.slice e)) (he : P.underlying e = some (.int .u8)) (hc : P.cellsOf e = 1)
    (hf : DataW.trod enc P w 0 (fun _ => true) held fuel t [vp] = some y) : ∃ l : List UInt8, l.length ≤ maxLen ∧ PB w vp l := by
  rcases Go.ChangeShapes.open_ints ht he hc hf with ⟨hcs, _⟩ | ⟨x, len, cap, zs, hcs, _, hl, hm, hz, _, hcell, hwz⟩
  · simp at hcs
    subst hcs
    exact ⟨[], Nat.zero_le _, none, 0, rfl, Nat.le_refl _, Nat.zero_le _, fun _ => rfl, fun h => absurd h (by decide)⟩
  · simp at hcs
    subst hcs
    rw [if_pos rfl] at hz
    have hzs : ∀ i, i < cap → zs.getD i 0 = ((UInt8.ofNat (zs.getD i 0).toNat).toNat : Int) := by
      intro i hi
      have hmem : zs.getD i 0 ∈ zs := by
        rw [List.getD_eq_getElem?_getD, List.getElem?_eq_getElem (by omega)]
        exact List.getElem_mem _
      obtain ⟨y, hy⟩ := wf_byte (hwz _ hmem)
      rw [hy]
      simp
    have hlen : ((zs.take len).map fun k => UInt8.ofNat k.toNat).length = len := by simp; omega
    refine ⟨(zs.take len).map fun k => UInt8.ofNat k.toNat, by rw [hlen]; omega, some x, cap, by rw [hlen], by omega, hm, (fun h => by cases h), fun h0 => ?_⟩
    have hs : x.spot = none := by
      have h1 := hcell 0 (by omega)
      cases hx : x.spot with
      | none => rfl
      | some s =>
        exfalso
        have : w.cell? x = none := by
          unfold World.cell?
          cases hh : w.heap[x.block]? with
          | none => rfl
          | some o => cases o <;> simp [hx]
        rw [show x.add 0 = x from rfl, this] at h1
        cases h1
    refine ⟨some x, cap, by rw [hlen], by omega, hm, (fun h => by cases h), fun ad had => ?_⟩
    obtain rfl := Option.some.inj had
    refine ⟨hs, fun i hi => ?_⟩
    have hi' : i < len := by omega
    have h1 := hcell i (by omega)
    obtain ⟨b, o, s⟩ := x
    simp only at hs
    subst hs
    rw [Addr.add_lit] at h1
    rw [h1, hzs i (by omega)]
    simp [gb, hi', show i < zs.length by omega]
def LinesIn (w : World) (v : Value) (ls : List Ln) : Prop :=
  ∃ a cap, v = .slice a ls.length cap ∧ ls.length ≤ cap ∧ cap ≤ maxLen ∧ ∀ i l, ls[i]? = some l → ∃ b o vb, a = some ⟨b, o, none⟩ ∧ w.rangeAt b (o + i * 3) [.int .i64 l.kind, vb, .int .i64 l.pad] ∧ PB w vb l.bytes
theorem PB.shape {w : World} {v : Value} {l : List UInt8} (h : PB w v l) : ∃ a c, v = .slice a l.length c ∧ l.length ≤ c := by
  obtain ⟨a, c, e, h1, _⟩ := h
  exact ⟨a, c, e, h1⟩
theorem line_cells {fuel : Nat} {L : List Value} {y : DataW H × List MemPlace} (hL : L.length = 3) (hf : DataW.trod enc Tryd.prog w 0 (fun _ => true) held fuel 41 L = some y) :
    ∃ l : Ln, ∃ vb, L = [.int .i64 l.kind, vb, .int .i64 l.pad] ∧ PB w vb l.bytes := by
  obtain ⟨x0, x1, x2, rfl⟩ : ∃ x0 x1 x2, L = [x0, x1, x2] := by
    match L, hL with
    | [a, b, c], _ => exact ⟨a, b, c, rfl⟩
  obtain ⟨xs, n, _, hx, hl, hlen, hfs⟩ := DataW.trod_struct Tryd.underlying41 hf
  have ei : Tryd.prog.cellsOf 3 = 1 := by kernel_rfl
  have es : Tryd.prog.cellsOf 23 = 1 := by kernel_rfl
  have e1 : Tryd.prog.cellsOf 5 = 1 := by kernel_rfl
  have hl3 : xs.length = 3 := hlen
  have gx : ∀ i, i < 3 → ∃ y, xs[i]? = some y := fun i hi => ⟨_, List.getElem?_eq_getElem (by omega)⟩
  have f0 := hfs 0 _ rfl
  have f1 := hfs 1 _ rfl
  have f2 := hfs 2 _ rfl
  simp only [List.getElem_toArray, List.getElem_cons_zero, List.getElem_cons_succ, ei, es, List.drop_zero] at f0 f1 f2
  obtain ⟨y0, g0⟩ := gx 0 (by omega)
  obtain ⟨y1, g1⟩ := gx 1 (by omega)
  obtain ⟨y2, g2⟩ := gx 2 (by omega)
  rw [g0] at f0
  rw [g1] at f1
  rw [g2] at f2
  obtain ⟨k, c0, _⟩ := DataW.trod_int Tryd.underlying3 f0
  obtain ⟨p, c2, _⟩ := DataW.trod_int Tryd.underlying3 f2
  obtain ⟨q, _, hq⟩ := part_cell (vp := x1) Tryd.underlying23 Tryd.underlying5 e1 f1
  obtain rfl : x0 = .int .i64 k := by simpa using c0
  obtain rfl : x2 = .int .i64 p := by simpa using c2
  exact ⟨⟨k, q, p⟩, x1, rfl, hq⟩
theorem cells?_all {w : World} {base : Nat} {a : Addr} {n : Nat} {cs : List Value} (h : w.cells? base a n = some cs) : cs.length = n ∧ ∀ j u, cs[j]? = some u → w.cell? (a.add j) = some u := by
  obtain ⟨_, h2, h3⟩ := World.cells?_some h
  refine ⟨h2, fun j u hj => ?_⟩
  have hl := (List.getElem?_eq_some_iff.1 hj).1
  rw [← hj]
  exact h3 j (by omega)
set_option maxRecDepth 100000 in
theorem open_lines {r : Reach} {b0 : Nat} {v : Value} {d : DataW H} {ps : List MemPlace} (hval : Value.okWide Tryd.prog w r b0 34 v) (hd : DataW.Trod enc Tryd.prog w 0 (fun _ => true) held 34 v d ps) : ∃ ls, LinesIn w v ls := by
  have ht := Tryd.underlying34
  obtain ⟨a, len, cap, rfl⟩ := Go.WideShapes.okWide_slice ht hval
  obtain ⟨fuel, hf⟩ := hd
  have e3 : Tryd.prog.cellsOf 41 = 3 := by kernel_rfl
  rcases DataW.trod_slice ht hf with ⟨hcs, _⟩ | ⟨x, l, c, elems, rest, n, _, hcs, _, _, hl, hm, hlen, hel, _, _⟩
  · simp [Value.cells] at hcs
    obtain ⟨rfl, rfl, rfl⟩ := hcs
    exact ⟨[], none, 0, rfl, Nat.le_refl _, Nat.zero_le _, fun i m hi => by cases hi⟩
  · simp [Value.cells] at hcs
    obtain ⟨rfl, rfl, rfl⟩ := hcs
    have hs : x.spot = none := by
      simp only [Value.okWide, ht, Cell.okWide, Cell.ok] at hval
      exact hval.2.2.2.1
    obtain ⟨b, o, sp⟩ := x
    simp only at hs
    subst hs
    have each : ∀ i, ∃ m : Ln, i < len → ∃ vb, w.rangeAt b (o + i * 3) [.int .i64 m.kind, vb, .int .i64 m.pad] ∧ PB w vb m.bytes := fun i => by
      by_cases hi : i < len
      · have h1 := hel i hi
        rw [List.getElem?_eq_getElem (by omega), e3, Option.bind_eq_some_iff] at h1
        obtain ⟨cs', hcs, hy⟩ := h1
        obtain ⟨h2, h3⟩ := cells?_all hcs
        obtain ⟨m, vb, rfl, hp⟩ := line_cells h2 hy
        refine ⟨m, fun _ => ⟨vb, fun j u hj => ?_, hp⟩⟩
        have := h3 j u hj
        rw [Addr.add_lit, Addr.add_lit] at this
        exact this
      · exact ⟨⟨0, [], 0⟩, fun h => absurd h hi⟩
    obtain ⟨f, hf⟩ := Classical.axiomOfChoice each
    have hpl : ((List.range len).map f).length = len := by simp
    refine ⟨(List.range len).map f, some ⟨b, o, none⟩, cap, by rw [hpl], by omega, hm, fun i m hi => ?_⟩
    have hil : i < len := by have := (List.getElem?_eq_some_iff.1 hi).1; omega
    obtain ⟨vb, h1, h2⟩ := hf i hil
    have : f i = m := by simpa [hil] using hi
    subst this
    exact ⟨b, o, vb, rfl, h1, h2⟩
end
end Go.Proofs.YtcfbiafedfkbhaaDoor

namespace Go.Proofs.YtcfbiafedfkbhaaDoor
open Go.RowKit
set_option linter.unusedVariables false
set_option linter.unusedSimpArgs false

theorem run_conv_pb (w : World) (v : Value) (l : List UInt8) (h : PB w v l) : (convert 23 9 v).run Tryd.prog w = .ok (S l) w := by
  obtain ⟨a, c, rfl, h1, h2, h3, h4⟩ := h
  rcases Nat.eq_zero_or_pos l.length with h0 | h0
  · obtain rfl := List.eq_nil_of_length_eq_zero h0
    cases a with
    | none => exact run_convert_bytes_nil w 23 5 Tryd.underlying23 Tryd.underlying5 _ _ 9 Tryd.underlying9
    | some ad =>
      have hl : (loadCells ad 0).run Tryd.prog w = .ok (([] : List Int).map (Value.int .u8)).toArray w := run_loadCells_list (P := Tryd.prog) w ad [] (fun j v hj => by simp at hj)
      rw [show ([] : List UInt8).length = 0 from rfl, run_convert_bytes_string w 23 9 5 _ 0 c Tryd.underlying23 Tryd.underlying5 Tryd.underlying9, run_bytesToString w _ 0 c [] hl]
      rfl
  · exact run_conv_slb (P := Tryd.prog) w 23 5 9 Tryd.underlying23 Tryd.underlying5 Tryd.underlying9 _ l (h4 h0)
def livS (sec : List UInt8) (n : Nat) : List UInt8 := (ivS sec).set 11 (xr (gb (ivS sec) 11) (UInt8.ofNat n))
theorem livS_len (sec : List UInt8) (n : Nat) : (livS sec n).length = 12 := by unfold livS; rw [List.length_set]; exact ivS_len sec
theorem info_u8C : (Tryd.prog.info? 5).map (·.size) = some 1 := by kernel_rfl
theorem copy12 (w : World) (g : Nat) (Z : Array Value) (iv : List UInt8) (hr : Row w g 50 Z) (hZ : Z.size = 12) (hl : iv.length = 12) (ty : TypeId) :
    (Builtin.copy_ #[23, 9] ty #[.slice (some ⟨g, 0, none⟩) 12 12, S iv]).run Tryd.prog w = .ok (.int .i64 12) (w.setRow g (AB iv)) := by
  have hs : (⟨iv.toArray⟩ : ByteArray).size = 12 := by show iv.toArray.size = 12; simpa using hl
  have := Lib.run_copy_row_string (P := Tryd.prog) w 23 9 ty 5 g 0 12 12 ⟨iv.toArray⟩ Z 50 Tryd.underlying23 info_u8C hr.heap (by omega) (by omega)
  rw [this, hs]
  have e : ∀ X : List Value, (Z.toList.take 0 ++ X ++ Z.toList.drop (0 + 12)).toArray = X.toArray := fun X => by
    rw [List.take_zero, List.nil_append, List.drop_eq_nil_of_le (by simp [hZ]), List.append_nil]
  rw [e]
  rfl
set_option maxRecDepth 100000 in
set_option maxHeartbeats 4000000 in
theorem liv_any (w : World) (g n : Nat) (t : TypeId) (sec : List UInt8) (hr : Row w g t (rhC sec n)) (hk : sec.length = 32) (hn : n ≤ 1000) :
    Calls Tryd.prog 19 #[.pointer (some ⟨g, 0, none⟩)] w fun e w' => e = .returned (.agg (AB (livS sec n))) ∧ Below w.heap.size w w' := by
  have HR := Lib.hid hr
  have HLT := Lib.hid hr.lt
  have c0 : ∀ o : Obj, (w.alloc o).cell? ⟨g, 0, none⟩ = some (S sec) := fun o => ((hr.alloc o).cell 0)
  have HI := Lib.hid (fun W => rlab_iv W sec hk)
  have m1 : (n : Int) ≤ 1000 := by omega
  have m2 : (0 : Int) ≤ (n : Int) := by omega
  have hla : livS sec n = (ivS sec).set 11 (xr (gb (ivS sec) 11) (UInt8.ofNat n)) := rfl
  obtain ⟨iv, hiv⟩ : ∃ iv, iv = ivS sec := ⟨_, rfl⟩
  have hil : iv.length = 12 := by rw [hiv]; exact ivS_len sec
  obtain ⟨R, hRR⟩ : ∃ R, R = livS sec n := ⟨_, rfl⟩
  rw [← hiv] at HI hla
  rw [← hRR] at hla ⊢
  have v8 := u8wr n (n : Int) rfl
  obtain ⟨x, hx⟩ : ∃ x, x = UInt8.ofNat n := ⟨_, rfl⟩
  obtain ⟨y, hy⟩ : ∃ y, y = gb iv 11 := ⟨_, rfl⟩
  rw [← hx] at v8 hla
  rw [← hy] at hla
  have HF := Lib.hid (⟨hil, hla, hy⟩ : _ ∧ _ ∧ _)
  clear hr hiv hx hy hla hRR hil
  go_enter Tryd.func19, Tryd.ntmps19
  go_wp2_with fail
  refine (HI.out _).mono ?_
  rintro e w1 ⟨rfl, hB1⟩
  have hs1 : w.heap.size + 1 ≤ w1.heap.size := by have := hB1.size; simpa using this
  have HR2 := Lib.hid (show RowN w1 w.heap.size 50 12 from by
    obtain ⟨z, hz, hzs⟩ := RowN.newAt w w.heap.size 50 #[.int .u8 0, .int .u8 0, .int .u8 0, .int .u8 0, .int .u8 0, .int .u8 0, .int .u8 0, .int .u8 0, .int .u8 0, .int .u8 0, .int .u8 0, .int .u8 0] rfl
    exact ⟨z, hz.below hB1 hz.lt, hzs⟩)
  have HB1 := Lib.hid (((Below.refl _ w).alloc (Nat.le_refl _) _).trans (hB1.mono (by simp)))
  have HG5 := Lib.hid hs1
  clear hB1 hs1
  have hcp := copy12 (w1.alloc (.cells #[.int .u8 0, .int .u8 0, .int .u8 0, .int .u8 0, .int .u8 0, .int .u8 0, .int .u8 0, .int .u8 0, .int .u8 0, .int .u8 0, .int .u8 0, .int .u8 0] 50)) w1.heap.size _ iv (Row.newAt _ _ _ _ rfl) rfl HF.out.1 3
  go_upto_region 4 with (fail)
  obtain ⟨w2, hw2⟩ : ∃ W, W = (w1.alloc (.cells #[.int .u8 0, .int .u8 0, .int .u8 0, .int .u8 0, .int .u8 0, .int .u8 0, .int .u8 0, .int .u8 0, .int .u8 0, .int .u8 0, .int .u8 0, .int .u8 0] 50)).setRow w1.heap.size (AB iv) := ⟨_, rfl⟩
  rw [← hw2]
  have hr5 : Row w2 w1.heap.size 50 (AB iv) := by rw [hw2]; exact (Row.newAt _ _ _ _ rfl).setRow _
  have HS2 := Lib.hid (show RowN w2 w.heap.size 50 12 ∧ Below w.heap.size w w2 from ⟨by rw [hw2]; exact (HR2.out.alloc _).setRowOther _ _ (by have := HG5.out; omega), by rw [hw2]; exact bSetRow (HB1.out.alloc HB1.out.size _) (by have := HG5.out; omega) _⟩)
  clear hw2 hcp c0
  have cX : w2.drew.cell? ⟨w1.heap.size, 11, none⟩ = some (B y) := by rw [hr5.drew.cell, HF.out.2.2]; exact AB_get iv 11 (by have := HF.out.1; omega)
  have c13 : w2.drew.cell? ⟨g, 1, none⟩ = some (.int .i64 (n : Int)) := by rw [(HR.out.below HS2.out.2 HLT.out).drew.cell]; rfl
  have hr5' := hr5.drew
  have hlt5 := hr5.lt
  have hil := HF.out.1
  refine wp_region_qtail (fun w' => w' = _) 9 (by kernel_rfl) (by kernel_rfl) rfl ?_
  simp only [List.take_succ_cons, List.take_zero, List.drop_succ_cons, List.drop_zero]
  repeat (first | go_big_quiet_skip | (go_big_quiet_want; go_big_quiet_op; go_big_quiet_on))
  refine wpQuiet_nil ?_
  rintro _ rfl
  clear cX c13
  have hRl : R.length = 12 := by rw [HF.out.2.1, List.length_set]; exact HF.out.1
  have hXs := (AB_size R).trans hRl
  have hsX := sub_all (AB R) 12 hXs
  obtain ⟨z, hz, hzs⟩ := HS2.out.1
  have hov : over z 0 (AB R) = AB R := over_all _ _ (hzs.trans hXs.symm)
  go_upto_region 5 with (fail)
  obtain ⟨w3, hw3⟩ : ∃ W, W = (w2.setCell ⟨w1.heap.size, 11, none⟩ (B (xr y x))).drew := ⟨_, rfl⟩
  rw [← hw3]
  have hr6 : Row w3 w1.heap.size 50 (AB R) := by rw [hw3, HF.out.2.1]; exact hr5'.setByte 11 _
  have hz3 : Row w3 w.heap.size 50 z := by rw [hw3]; exact (hz.setOther _ _ (by have := HG5.out; simp; omega)).drew
  have hB3 : Below w.heap.size w w3 := by rw [hw3]; exact (HS2.out.2.setCell (by have := HG5.out; simp; omega) _).drew
  have hlt6 := hr6.lt
  clear hw3 hr5 hr5' hlt5 hz
  go_wp2_with fail
  exact ret_row (.inl rfl) rfl w.heap.size _ _ 12 _ rfl (hz3.setRow _) Tryd.underlying50 rfl (by kernel_rfl) hXs ⟨rfl, bSetRow hB3 (Nat.le_refl _) _⟩
def StrR (w : World) (base : Nat) (v : Value) (ps : List (List UInt8)) : Prop := w.ownsRow base 9 1 v ps.length (ps.map S)
theorem StrR.nil (w : World) (base : Nat) : StrR w base (.slice none 0 0) [] := World.ownsRow_nil _ _ _ _
theorem StrR.below {w w' : World} {base : Nat} {v : Value} {ps : List (List UInt8)} (h : StrR w base v ps) (hb : Below w.heap.size w w') : StrR w' base v ps :=
  ⟨h.1, h.2.imp id fun ⟨g, cap, cur, hv, hg, hh, h1⟩ => ⟨g, cap, cur, hv, hg, (hb.block g (Array.getElem?_eq_some_iff.1 hh).1).trans hh, h1⟩⟩
theorem StrR.kept {w w' : World} {base : Nat} {v : Value} {ps : List (List UInt8)} (h : StrR w base v ps) {g : Nat} {t : TypeId} {cs : Array Value} (hg : w.grownBy w' (some g)) (hr : Row w g t cs) (h1 : t ≠ 9) : StrR w' base v ps :=
  World.ownsRow.kept h hg (.inr (ownsRow_ne h hr h1))
theorem info_strR : (Tryd.prog.info? 9).map (fun i => (i.zero, i.size, i.bytes)) = some (some (.string ⟨#[]⟩), 1, 16) := by kernel_rfl
theorem run_appStrR (w : World) (base : Nat) (v : Value) (ps : List (List UInt8)) (h : StrR w base v ps) (b : Nat) (p : List UInt8) (hc : w.cell? ⟨b, 0, none⟩ = some (S p)) (hlen : ps.length ≤ 1000) (hbase : base ≤ w.heap.size) (ty : TypeId) :
    ∃ v' w', (Builtin.append_ #[46, 46] ty #[v, .slice (some ⟨b, 0, none⟩) 1 1]).run Tryd.prog w = .ok v' w' ∧ StrR w' base v' (ps ++ [p]) ∧ w.grownBy w' v.ownBlock := by
  obtain ⟨i, hi, hz0, hz1, hz2⟩ := info_parts info_strR
  obtain ⟨v', w', hr, k1, k2, _⟩ := run_append_own (P := Tryd.prog) w base 46 ty 9 i (.string ⟨#[]⟩) 1 16 Tryd.underlying46 hi hz0 hz1 hz2 rfl (by decide) v ps.length (ps.map S) h ⟨b, 0, none⟩ 1 1 [S p] (by simp)
    (fun j u hj => by
      match j, hj with
      | 0, hj =>
        obtain rfl : S p = u := by simpa using hj
        exact hc
      | j + 1, hj => simp at hj) (fun u hu => by obtain rfl := List.mem_singleton.1 hu; rfl) (by unfold maxLen; omega) (by omega) hbase
  refine ⟨v', w', hr, ?_, k2⟩
  unfold StrR
  rw [List.length_append, List.map_append]
  exact k1
theorem wp_appStrR {o : Oper} {a : Act} {w : World} {K : Act → World → Prop} {Q : Exit → Act → World → Prop} (s x : Operand)
    (ho : o.op = .call { callee := .builtin .append, args := #[s, x], argTypes := #[46, 46] })
    (base : Nat) (v : Value) (ps : List (List UInt8)) (hs : a.eval s = v) (h : StrR w base v ps) (b : Nat) (p : List UInt8) (hx : a.eval x = .slice (some ⟨b, 0, none⟩) 1 1) (hc : w.cell? ⟨b, 0, none⟩ = some (S p)) (hlen : ps.length ≤ 1000) (hbase : base ≤ w.heap.size)
    (hK : ∀ v' w', StrR w' base v' (ps ++ [p]) → w.grownBy w' v.ownBlock → K (a.put o.dst v') w') : o.wp Tryd.prog a w K Q := by
  obtain ⟨v', w', hr, h1, h2⟩ := run_appStrR w base v ps h b p hc hlen hbase o.type
  unfold Oper.wp execOp
  simp only [ho, resolve, invoke, builtin, Sem.run_bind, Sem.run_pure, Result.andThen_ok, List.map_toArray, List.map_cons, List.map_nil, hs, hx, hr]
  exact hK v' w' h1 h2
theorem wpl_appStrR {w : World} {ops : Array Oper} {rest : List Oper} {o : Oper} {a : Act} {Q : Exit → Act → World → Prop} (hgd : o.guard = none) (s x : Operand)
    (ho : o.op = .call { callee := .builtin .append, args := #[s, x], argTypes := #[46, 46] })
    (base : Nat) (v : Value) (ps : List (List UInt8)) (hs : a.eval s = v) (h : StrR w base v ps) (b : Nat) (p : List UInt8) (hx : a.eval x = .slice (some ⟨b, 0, none⟩) 1 1) (hc : w.cell? ⟨b, 0, none⟩ = some (S p)) (hlen : ps.length ≤ 1000) (hbase : base ≤ w.heap.size)
    (hK : ∀ v' w', StrR w' base v' (ps ++ [p]) → w.grownBy w' v.ownBlock → wpList Tryd.prog ops Q rest (a.put o.dst v') w') : wpList Tryd.prog ops Q (o :: rest) a w :=
  wpList_plain hgd fun _ hk => wp_appStrR s x ho base v ps hs h b p hx hc hlen hbase fun v' w' h1 h2 => hk _ _ (hK v' w' h1 h2)
end Go.Proofs.YtcfbiafedfkbhaaDoor

namespace Go.Proofs.YtcfbiafedfkbhaaDoor
open Go.RowKit
set_option linter.unusedVariables false
set_option linter.unusedSimpArgs false

def NumS (w : World) (v : Value) (zs : List Int) : Prop :=
  ∃ a c, v = .slice a zs.length c ∧ zs.length ≤ c ∧ c ≤ maxLen ∧ (a = none → c = 0) ∧ ∀ ad, a = some ad → ad.spot = none ∧ ∀ i, i < zs.length → w.cell? ⟨ad.block, ad.off + i, none⟩ = some (.int .i64 (zs.getD i 0))
theorem NumS.below {w w' : World} {v : Value} {zs : List Int} (h : NumS w v zs) (hb : Below w.heap.size w w') : NumS w' v zs := by
  obtain ⟨a, c, e, h1, h2, h3, h4⟩ := h
  exact ⟨a, c, e, h1, h2, h3, fun ad had => ⟨(h4 ad had).1, fun i hi => by
    have := (h4 ad had).2 i hi
    exact (hb.cell (World.block_lt_of_cell? w _ this)).trans this⟩⟩
theorem HalfW.row {w : World} {g n : Nat} {sec : List UInt8} (h : HalfW w g sec n) : ∃ cs, Row w g 68 cs := let ⟨_, h, _⟩ := h; ⟨_, h⟩
def halfF (B : Nat) (sec : List UInt8) (d : Tmp) (v : Value) (w : World) : Prop := ∃ g, v = .pointer (some ⟨g, 0, none⟩) ∧ B ≤ g ∧ HalfW w g sec 0
end Go.Proofs.YtcfbiafedfkbhaaDoor

namespace Go.Proofs.YtcfbiafedfkbhaaDoor
open Go.RowKit
set_option linter.unusedVariables false
set_option linter.unusedSimpArgs false

structure S3 (w wr : World) (g1 g2 gm r : Nat) (sec : List UInt8) : Prop where
  h1 : HalfW wr g1 sec r
  h2 : HalfW wr g2 sec r
  m : Row wr gm 39 (rhC sec r)
  bel : Below w.heap.size w wr
theorem HalfW.rne {w : World} {g gm n : Nat} {sec : List UInt8} {cs : Array Value} (h : HalfW w g sec n) (hr : Row w gm 39 cs) : gm ≠ g := by
  obtain ⟨ds, hd⟩ := h.row
  exact hd.neT hr (by decide)
theorem HalfW.otherM {w w' : World} {g gm n : Nat} {sec : List UInt8} {cs : Array Value} (h : HalfW w g sec n) (hr : Row w gm 39 cs) (hg : w.grownBy w' (some gm)) : HalfW w' g sec n := by
  obtain ⟨p, h1, h2⟩ := h
  refine ⟨p, (row_congr (hg.block g h1.lt (fun e => (h1.neT hr (by decide)) (Option.some.inj e).symm))).trans h1, ?_⟩
  obtain ⟨xb, kp, e1, e2, ⟨kb, kk, cap, cur, k1, k2, k3, k4⟩, e4⟩ := h2
  have ex : ∀ (k : Nat) (t : TypeId) (ds : Array Value), Row w k t ds → t ≠ 39 → Row w' k t ds := fun k t ds h ht => (row_congr (hg.block k h.lt (fun e => hr.neT h ht (Option.some.inj e)))).trans h
  exact ⟨xb, kp, e1, ex _ _ _ e2 (by decide), ⟨kb, kk, cap, cur, k1, ex _ _ _ k2 (by decide), ex _ _ _ k3 (by decide), k4⟩, e4⟩
theorem rowM_other {w w' : World} {g gm n : Nat} {sec : List UInt8} {cs : Array Value} (h : HalfW w g sec n) (hr : Row w gm 39 cs) (hg : w.grownBy w' (some g)) : Row w' gm 39 cs :=
  (row_congr (hg.block gm hr.lt (fun e => h.rne hr (Option.some.inj e)))).trans hr
theorem S3.below {w wr w' : World} {g1 g2 gm r : Nat} {sec : List UInt8} (k : S3 w wr g1 g2 gm r sec) (hb : Below wr.heap.size wr w') : S3 w w' g1 g2 gm r sec :=
  ⟨k.h1.below hb, k.h2.below hb, k.m.below hb k.m.lt, k.bel.trans (hb.mono k.bel.size)⟩
theorem rangeAt_below {w w' : World} {g o : Nat} {cs : List Value} (h : w.rangeAt g o cs) (hb : Below w.heap.size w w') : w'.rangeAt g o cs := fun j v hj => by
  have := h j v hj
  exact (hb.cell (World.block_lt_of_cell? w _ this)).trans this
structure LnSt (w wr : World) (g1 g2 gm r1 r2 r3 : Nat) (sec : List UInt8) (g14 : Nat) (k p : Int) (vb v15 : Value) (l : List UInt8) : Prop where
  h1 : HalfW wr g1 sec r1
  h2 : HalfW wr g2 sec r2
  m : Row wr gm 39 (rhC sec r3)
  bel : Below w.heap.size w wr
  row : Row wr g14 41 #[.int .i64 k, vb, .int .i64 p]
  own : OwnW wr w.heap.size v15 l
theorem OwnW.lowW {w : World} {B0 B1 : Nat} {v : Value} {l : List UInt8} (h : OwnW w B1 v l) (hb : B0 ≤ B1) : OwnW w B0 v l :=
  h.imp id fun ⟨b, o, cap, cur, e, h0, rest⟩ => ⟨b, o, cap, cur, e, Nat.le_trans hb h0, rest⟩
theorem OwnW.otherR {w w' : World} {B0 g : Nat} {v : Value} {l : List UInt8} {t : TypeId} {cs : Array Value} (h : OwnW w B0 v l) (hr : Row w g t cs) (ht : t ≠ 5) (hg : w.grownBy w' (some g)) : OwnW w' B0 v l :=
  h.congr fun k e => by
    rcases h.row with h0 | ⟨b, ds, h0, _, hb⟩
    · rw [h0] at e; cases e
    · rw [h0] at e
      obtain rfl := Option.some.inj e
      exact hg.block b hb.lt (fun e2 => hr.neT hb (fun e3 => ht e3.symm) (Option.some.inj e2))
section
variable {w wr w' : World} {g1 g2 gm r1 r2 r3 g14 : Nat} {sec l : List UInt8} {k p : Int} {vb v15 : Value}
theorem LnSt.below (h : LnSt w wr g1 g2 gm r1 r2 r3 sec g14 k p vb v15 l) (hb : Below wr.heap.size wr w') : LnSt w w' g1 g2 gm r1 r2 r3 sec g14 k p vb v15 l :=
  ⟨h.h1.below hb, h.h2.below hb, h.m.below hb h.m.lt, h.bel.trans (hb.mono h.bel.size), h.row.below hb h.row.lt, h.own.below hb⟩
theorem LnSt.grownM (h : LnSt w wr g1 g2 gm r1 r2 r3 sec g14 k p vb v15 l) (hg : wr.grownBy w' (some gm)) {n : Nat} (hn : Row w' gm 39 (rhC sec n)) (hle : w.heap.size ≤ gm) : LnSt w w' g1 g2 gm r1 r2 n sec g14 k p vb v15 l :=
  ⟨h.h1.otherM h.m hg, h.h2.otherM h.m hg, hn, h.bel.grown hg h.bel.size (fun j e => by obtain rfl := Option.some.inj e; exact hle),
    (row_congr (hg.block _ h.row.lt (fun e => h.m.neT h.row (by decide) (Option.some.inj e)))).trans h.row, h.own.otherR h.m (by decide) hg⟩
end
end Go.Proofs.YtcfbiafedfkbhaaDoor
