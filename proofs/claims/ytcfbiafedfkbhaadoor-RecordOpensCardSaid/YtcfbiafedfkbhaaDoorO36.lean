/- Part of the proof: OwnM, RTurn. No conditions of its own. -/
import Derived.ArgAppend
import Derived.Below
import Derived.BigQuiet
import Derived.BigRegion
import Derived.ChangeOld
import Derived.Deep.CutBlock
import Derived.Deep.DeepCutAuto
import Derived.Deep.Draws
import Derived.Deep.LoopGhost
import Derived.Deep.Quiet
import Derived.Deep.QuietTactic
import Derived.Deep.RegionHeld3
import Derived.Deep.RegionLaw
import Derived.Laws.AppendOwnNone
import Derived.Laws.Bits64
import Derived.Laws.BitsAllLaws
import Derived.Laws.BytesArg
import Derived.Laws.CopyOwn
import Derived.Laws.MakeOwn
import Derived.Lib.AppendStr
import Derived.Lib.AppendZerosOnto
import Derived.Lib.BufferMore
import Derived.Lib.ConvBytes
import Derived.Lib.Hide
import Derived.LoopIn
import Derived.LoopNIn
import Derived.Maps.AppendAt
import Derived.OpenShut
import Derived.OrdersIn
import Derived.OwnWalkIn
import Derived.ProofKit
import Derived.RangeFuncBound
import Derived.RangeFuncBox
import Derived.RangeFuncCalls
import Derived.RangeFuncLeaves
import Derived.RangeFuncNested
import Derived.Shelf.Abstract
import Derived.ShutString
import Derived.StillTail
import Derived.TacticsIn
import Derived.TacticsInMore
import Derived.Test.YtcfbiafedfkbhaaDoorProg
import Derived.WalkKit
import Derived.WalkSpells
import Derived.Test.YtcfbiafedfkbhaaDoorO08
import Derived.Test.YtcfbiafedfkbhaaDoorO13
import Derived.Test.YtcfbiafedfkbhaaDoorO16
import Derived.Test.YtcfbiafedfkbhaaDoorO06
namespace Go.Proofs.YtcfbiafedfkbhaaDoor
open Go.RowKit
set_option linter.unusedVariables false

def OwnM (w : World) (B0 : Nat) (v : Value) (l : List UInt8) : Prop :=
  ∃ b cap cur fz, v = .slice (some ⟨b, 0, none⟩) l.length cap ∧ B0 ≤ b ∧ w.heap[b]? = some (.cells cur 5 fz) ∧ (fz.2 ≤ fz.1 ∨ cur.size ≤ fz.1) ∧ l.length ≤ cap ∧ cap ≤ cur.size ∧ cap ≤ maxLen ∧ ∀ i, i < l.length → cur[i]? = some (B (gb l i))
theorem cell_rowF {w : World} {b j : Nat} {cs : Array Value} {t : TypeId} {fz : Nat × Nat} (h : w.heap[b]? = some (.cells cs t fz)) : w.cell? ⟨b, j, none⟩ = cs[j]? := by
  simp [World.cell?, h]
theorem frozen_rowF {w : World} {b j : Nat} {cs : Array Value} {t : TypeId} {fz : Nat × Nat} (h : w.heap[b]? = some (.cells cs t fz)) (hf : fz.2 ≤ fz.1 ∨ cs.size ≤ fz.1) (hj : j < cs.size) : w.frozen? ⟨b, j, none⟩ = false := by
  obtain ⟨lo, hi⟩ := fz
  simp only [World.frozen?, h, Bool.and_eq_false_iff, decide_eq_false_iff_not]
  simp only at hf
  omega
theorem OwnM.slb {w : World} {B0 : Nat} {v : Value} {l : List UInt8} (h : OwnM w B0 v l) : SlB w v l := by
  obtain ⟨b, cap, cur, fz, rfl, _, hr, _, h1, h2, h3, h4⟩ := h
  refine ⟨_, cap, rfl, h1, h3, (fun h => by cases h), fun ad had => ?_⟩
  obtain rfl := Option.some.inj had
  exact ⟨rfl, fun i hi => by rw [Nat.zero_add, cell_rowF hr]; exact h4 i hi⟩
theorem OwnM.ge {w : World} {B0 : Nat} {v : Value} {l : List UInt8} (h : OwnM w B0 v l) : ∀ k, v.ownBlock = some k → B0 ≤ k := fun k e => by
  obtain ⟨b, cap, cur, fz, rfl, hb, _⟩ := h
  obtain rfl := Option.some.inj e
  exact hb
theorem OwnM.congr {w w' : World} {B0 : Nat} {v : Value} {l : List UInt8} (h : OwnM w B0 v l) (hk : ∀ k, v.ownBlock = some k → w'.heap[k]? = w.heap[k]?) : OwnM w' B0 v l := by
  obtain ⟨b, cap, cur, fz, rfl, hb, hr, rest⟩ := h
  exact ⟨b, cap, cur, fz, rfl, hb, (hk b rfl).trans hr, rest⟩
theorem OwnM.lt {w : World} {B0 : Nat} {v : Value} {l : List UInt8} (h : OwnM w B0 v l) : ∀ k, v.ownBlock = some k → k < w.heap.size := fun k e => by
  obtain ⟨b, cap, cur, fz, rfl, hb, hr, rest⟩ := h
  obtain rfl := Option.some.inj e
  exact (Array.getElem?_eq_some_iff.1 hr).1
theorem OwnM.below {w w' : World} {B0 : Nat} {v : Value} {l : List UInt8} (h : OwnM w B0 v l) (hb : Below w.heap.size w w') : OwnM w' B0 v l :=
  h.congr fun k hk => hb.block k (h.lt k hk)
theorem rowF_setCells {b : Nat} {t : TypeId} {fz : Nat × Nat} : ∀ (vs : List Value) (o : Nat) (w : World) (cur : Array Value), w.heap[b]? = some (.cells cur t fz) → o + vs.length ≤ cur.size →
    ∃ cur', (w.setCells b o vs).heap[b]? = some (.cells cur' t fz) ∧ cur'.size = cur.size ∧ (∀ i, i < o → cur'[i]? = cur[i]?) ∧ ∀ j u, vs[j]? = some u → cur'[o + j]? = some u
  | [], o, w, cur, hr, _ => ⟨cur, hr, rfl, fun _ _ => rfl, fun j u h => by cases h⟩
  | v :: vs, o, w, cur, hr, hl => by
    simp only [List.length_cons] at hl
    obtain ⟨cur', h1, h2, h3, h4⟩ := rowF_setCells vs (o + 1) (w.setCell ⟨b, o, none⟩ v) (cur.setIfInBounds o v) (Lib.heap_setCell_same hr v) (by simp; omega)
    refine ⟨cur', h1, by rw [h2]; simp, fun i hi => ?_, fun j u hj => ?_⟩
    · rw [h3 i (by omega), Array.getElem?_setIfInBounds_ne (by omega)]
    · match j, hj with
      | 0, hj =>
        obtain rfl : v = u := by simpa using hj
        rw [Nat.add_zero, h3 o (by omega)]
        simp [show o < cur.size by omega]
      | j + 1, hj =>
        have := h4 j u (by simpa using hj)
        rw [show o + (j + 1) = o + 1 + j by omega]
        exact this
theorem run_appM (w : World) (B0 : Nat) (v : Value) (l : List UInt8) (h : OwnM w B0 v l) (vx : Value) (m : List UInt8) (hS : SlB w vx m) (hm0 : 0 < m.length) (hlen : l.length + m.length ≤ 1000000000) (hbase : B0 ≤ w.heap.size) (ty : TypeId) :
    ∃ v' w', (Builtin.append_ #[23, 23] ty #[v, vx]).run Tryd.prog w = .ok v' w' ∧ OwnM w' B0 v' (l ++ m) ∧ w.grownBy w' v.ownBlock := by
  obtain ⟨i, hi, hz, hs1, hb1⟩ := info_parts info_u8S
  have hB : ∀ (l : List UInt8) u, u ∈ l.map B → u.oneCell' = true := fun l u hu => by obtain ⟨y, _, rfl⟩ := List.mem_map.1 hu; rfl
  obtain ⟨ad, capx, rfl, k1, k2, k3, k4⟩ := hS
  have hsrc : ∀ (w' : World), w' = w → ∀ (ax : Addr), ad = some ax → ∀ j u, (m.map B)[j]? = some u → w'.cell? (ax.add j) = some u := fun w' hw ax e j u hj => by
    subst hw
    obtain ⟨hsp, hc⟩ := k4 ax e
    obtain ⟨b', o', sp⟩ := ax
    simp only at hsp
    subst hsp
    have hj' : j < m.length := by simpa using (List.getElem?_eq_some_iff.1 hj).1
    rw [Addr.add_lit, hc j hj']
    simpa [gb, hj'] using hj
  obtain ⟨b, cap, cur, fz, rfl, hb, hr, hfz, h1, h2, h3, h4⟩ := h
  cases ad with
  | none => exact absurd (k3 rfl) (by omega)
  | some ax =>
    by_cases hroom : l.length + m.length ≤ cap
    · have hrun := run_append_room_cells (P := Tryd.prog) (w := w) 23 ty 5 i Tryd.underlying23 hi b 0 l.length cap ax m.length capx (m.map B) (by simp [hs1]) (hsrc w rfl ax rfl) (hB m) hroom (fun j hj => by
        simp only [List.length_map] at hj
        rw [cell_rowF hr, hs1, Array.getElem?_eq_getElem (by omega)]; rfl) (fun j hj => by
        simp only [List.length_map] at hj
        exact frozen_rowF hr hfz (by rw [hs1]; omega))
      rw [hs1, Nat.mul_one] at hrun
      obtain ⟨cur', c1, c2, c3, c4⟩ := rowF_setCells (m.map B) (0 + l.length) w cur hr (by simp; omega)
      refine ⟨_, _, hrun, ⟨b, cap, cur', fz, by rw [List.length_append], hb, c1, by rw [c2]; exact hfz, by rw [List.length_append]; exact hroom, by rw [c2]; exact h2, h3, fun j hj => ?_⟩, grownBy_setCells w b _ _⟩
      rw [List.length_append] at hj
      by_cases hjl : j < l.length
      · rw [c3 _ (by omega), h4 j hjl, show gb (l ++ m) j = gb l j by simp [gb, List.getElem?_append_left hjl]]
      · have := c4 (j - l.length) (B (gb m (j - l.length))) (by simp [gb, show j - l.length < m.length by omega])
        rw [show 0 + l.length + (j - l.length) = j by omega] at this
        rw [this]
        simp [gb, List.getElem?_append_right (show l.length ≤ j by omega)]
    · have hold : ∀ j u, (l.map B)[j]? = some u → w.cell? ((⟨b, 0, none⟩ : Addr).add j) = some u := fun j u hj => by
        have hj' : j < l.length := by simpa using (List.getElem?_eq_some_iff.1 hj).1
        rw [Addr.add_lit, Nat.zero_add, cell_rowF hr, h4 j hj']
        simpa [gb, hj'] using hj
      have hbd : Builtin.nextslicecap (l.length + m.length) cap * i.bytes ≤ 281474976710656 := by
        rw [hb1, Nat.mul_one]
        exact Nat.le_trans (nextslicecap_le (by omega)) (by omega)
      have hrun := run_append_grow (P := Tryd.prog) (w := w) 23 ty 5 i _ Tryd.underlying23 hi hz ⟨b, 0, none⟩ l.length cap (l.map B) (by simp [hs1]) hold ax m.length capx (m.map B) (by simp [hs1]) (hsrc w rfl ax rfl) (by omega) (by omega) hbd
      have hge := grownCap_ge w (l.length + m.length) cap 5
      have hcm := grownCap_le_maxLen w (l.length + m.length) cap 5 (by unfold maxLen; omega)
      refine ⟨_, _, hrun, ⟨w.heap.size, _, _, (0, 0), by rw [List.length_append], hbase, Row.heap (Row.newAt w.drew _ _ _ rfl), .inl (Nat.le_refl _), by rw [List.length_append]; exact hge, ?_, hcm, fun j hj => ?_⟩, ⟨rfl, rfl, rfl, by simp, fun k hk _ => Below.heap_alloc w.drew _ k hk⟩⟩
      · simp only [Array.size_append, List.size_toArray, List.length_map, size_zeroCells]
        show _ ≤ _ + _ + _ * 1
        omega
      · rw [List.length_append] at hj
        rw [Array.getElem?_append_left (by simp; omega)]
        have e : (List.map B l).toArray ++ (List.map B m).toArray = ((l ++ m).map B).toArray := by rw [List.map_append]; simp
        rw [e, List.getElem?_toArray, List.getElem?_map, List.getElem?_eq_getElem (by rw [List.length_append]; exact hj)]
        simp [gb, hj]
theorem wpl_appM {w : World} {ops : Array Oper} {rest : List Oper} {o : Oper} {a : Act} {Q : Exit → Act → World → Prop} (hgd : o.guard = none) (s x : Operand)
    (ho : o.op = .call { callee := .builtin .append, args := #[s, x], argTypes := #[23, 23] })
    (B0 : Nat) (v : Value) (l : List UInt8) (hs : a.eval s = v) (h : OwnM w B0 v l) (vx : Value) (m : List UInt8) (hx : a.eval x = vx) (hS : SlB w vx m) (hm0 : 0 < m.length) (hlen : l.length + m.length ≤ 1000000000) (hbase : B0 ≤ w.heap.size)
    (hK : ∀ v' w', OwnM w' B0 v' (l ++ m) → w.grownBy w' v.ownBlock → wpList Tryd.prog ops Q rest (a.put o.dst v') w') : wpList Tryd.prog ops Q (o :: rest) a w :=
  wpList_plain hgd fun _ hk => by
    obtain ⟨v', w', hr, h1, h2⟩ := run_appM w B0 v l h vx m hS hm0 hlen hbase o.type
    unfold Oper.wp execOp
    simp only [ho, resolve, invoke, builtin, Sem.run_bind, Sem.run_pure, Result.andThen_ok, List.map_toArray, List.map_cons, List.map_nil, hs, hx, hr]
    exact hk _ _ (hK v' w' h1 h2)
theorem conv_str (w : World) (l : List UInt8) (hl : l.length ≤ 1000000) : ∃ v w', (convert 9 23 (S l)).run Tryd.prog w = .ok v w' ∧ OwnM w' w.heap.size v l ∧ Below w.heap.size w w' := by
  have hr := Lib.run_convert_string_bytes (P := Tryd.prog) w 9 23 5 ⟨l.toArray⟩ Tryd.underlying9 Tryd.underlying23 Tryd.underlying5
  have hsz : (⟨l.toArray⟩ : ByteArray).size = l.length := by simp [ByteArray.size]
  rw [hsz] at hr
  have hge := grownCap_ge w l.length 0 5
  have hcm := grownCap_le_maxLen w l.length 0 5 (by unfold maxLen; omega)
  have hcs : (Lib.bytesCells w 5 ⟨l.toArray⟩).size = grownCap w l.length 0 5 := by
    unfold Lib.bytesCells
    rw [hsz]
    simp
    omega
  refine ⟨_, _, hr, ⟨w.heap.size, _, _, _, rfl, Nat.le_refl _, Lib.bytesWorld_at_new w _ _, .inr (by rw [hcs]; exact Nat.le_refl _), hge, by rw [hcs]; exact Nat.le_refl _, hcm, fun i hi => ?_⟩, ⟨rfl, rfl, rfl, by rw [Lib.bytesWorld_size]; omega, fun k hk => Lib.bytesWorld_at_old w _ _ k hk⟩⟩
  unfold Lib.bytesCells
  rw [Array.getElem?_append_left (by simp; omega)]
  simp [hi, gb]
end Go.Proofs.YtcfbiafedfkbhaaDoor

namespace Go.Proofs.YtcfbiafedfkbhaaDoor
open Go.RowKit
set_option linter.unusedVariables false
set_option linter.unusedSimpArgs false

theorem rr_bits2 (n : Nat) (x : UInt32) (a b : Int) (ha : a = 2 ^ (32 - n)) (hb : b = 2 ^ n) : Value.int .u32 (bits .or .u32 ((x.toNat : Int) / b) ((x.toNat : Int) * a % 4294967296)) = D (rr n x) := by
  unfold rr D
  rw [← dw_or, sl_nat, srW_nat, IntKind.wrap_u32', ha, hb]
theorem u32_ext (x y : UInt32) (h : ∀ i, x.toNat.testBit i = y.toNat.testBit i) : x = y := UInt32.toNat_inj.1 (Nat.eq_of_testBit_eq h)
theorem tb_xw (a b : UInt32) (i : Nat) : (xw a b).toNat.testBit i = ((a.toNat.testBit i) ^^ (b.toNat.testBit i)) := by rw [xw, UInt32.toNat_xor, Nat.testBit_xor]
theorem tb_nw (a b : UInt32) (i : Nat) : (nw a b).toNat.testBit i = ((a.toNat.testBit i) && (b.toNat.testBit i)) := by rw [nw, UInt32.toNat_and, Nat.testBit_and]
theorem tb_ow (a b : UInt32) (i : Nat) : (ow a b).toNat.testBit i = ((a.toNat.testBit i) || (b.toNat.testBit i)) := by rw [ow, UInt32.toNat_or, Nat.testBit_or]
theorem cw_toNat (a : UInt32) : (cw a).toNat = 4294967295 - a.toNat := by
  unfold cw
  rw [UInt32.toNat_not]
  rfl
theorem tb_cw (a : UInt32) (i : Nat) : (cw a).toNat.testBit i = (decide (i < 32) && !(a.toNat.testBit i)) := by
  rw [cw_toNat]
  have h := a.toNat_lt
  have := Nat.testBit_two_pow_sub_succ (n := 32) h i
  rw [show (2 : Nat) ^ 32 - (a.toNat + 1) = 4294967295 - a.toNat by omega] at this
  exact this
theorem tb_big (a : UInt32) (i : Nat) (h : ¬ i < 32) : a.toNat.testBit i = false := Nat.testBit_lt_two_pow (Nat.lt_of_lt_of_le a.toNat_lt (Nat.pow_le_pow_right (by decide) (show 32 ≤ i by omega)))
theorem ch_doc (e f g : UInt32) : xw (nw e f) (nw (cw e) g) = chS e f g := by
  apply u32_ext
  intro i
  unfold chS
  rw [tb_xw, tb_nw, tb_nw, tb_cw, tb_xw, tb_nw, tb_xw]
  by_cases h : i < 32
  · simp only [h, decide_true, Bool.true_and]
    cases e.toNat.testBit i <;> cases f.toNat.testBit i <;> cases g.toNat.testBit i <;> rfl
  · rw [tb_big e i h, tb_big f i h, tb_big g i h]
    simp [h]
theorem maj_doc (a b c : UInt32) : xw (xw (nw a b) (nw a c)) (nw b c) = maS a b c := by
  apply u32_ext
  intro i
  unfold maS
  rw [tb_xw, tb_xw, tb_nw, tb_nw, tb_nw, tb_ow, tb_nw, tb_nw, tb_ow]
  cases a.toNat.testBit i <;> cases b.toNat.testBit i <;> cases c.toNat.testBit i <;> rfl
theorem mix_doc (u v s t : UInt32) : aw (aw (aw u s) v) t = aw (aw (aw u v) s) t := by
  unfold aw
  rw [UInt32.add_assoc u s v, UInt32.add_comm s v, ← UInt32.add_assoc]
set_option maxRecDepth 100000 in
theorem rturn_7 (x : UInt32) (w : World) : Calls Tryd.prog 88 #[D x, .int .i64 7] w fun e w' => e = .returned (D (rr 7 x)) ∧ Below w.heap.size w w' := by
  obtain ⟨h1, h2⟩ := d_lt x
  go_enter Tryd.func88, Tryd.ntmps88
  go_upto_region 1 with (fail)
  refine wp_region_qtail (fun w' => w' = _) 8 (by kernel_rfl) (by kernel_rfl) rfl ?_
  simp only [List.take_succ_cons, List.take_zero, List.drop_succ_cons, List.drop_zero]
  repeat (first | go_big_quiet_skip | (go_big_quiet_want; go_big_quiet_op; go_big_quiet_on))
  refine wpQuiet_nil ?_
  rintro _ rfl
  go_wp2_with fail
  go_ret
  refine ⟨?_, (Below.refl _ _).drew⟩
  rw [← rr_bits2 7 x 33554432 128 rfl rfl]
  rfl
set_option maxRecDepth 100000 in
theorem rturn_18 (x : UInt32) (w : World) : Calls Tryd.prog 88 #[D x, .int .i64 18] w fun e w' => e = .returned (D (rr 18 x)) ∧ Below w.heap.size w w' := by
  obtain ⟨h1, h2⟩ := d_lt x
  go_enter Tryd.func88, Tryd.ntmps88
  go_upto_region 1 with (fail)
  refine wp_region_qtail (fun w' => w' = _) 8 (by kernel_rfl) (by kernel_rfl) rfl ?_
  simp only [List.take_succ_cons, List.take_zero, List.drop_succ_cons, List.drop_zero]
  repeat (first | go_big_quiet_skip | (go_big_quiet_want; go_big_quiet_op; go_big_quiet_on))
  refine wpQuiet_nil ?_
  rintro _ rfl
  go_wp2_with fail
  go_ret
  refine ⟨?_, (Below.refl _ _).drew⟩
  rw [← rr_bits2 18 x 16384 262144 rfl rfl]
  rfl
set_option maxRecDepth 100000 in
theorem rturn_17 (x : UInt32) (w : World) : Calls Tryd.prog 88 #[D x, .int .i64 17] w fun e w' => e = .returned (D (rr 17 x)) ∧ Below w.heap.size w w' := by
  obtain ⟨h1, h2⟩ := d_lt x
  go_enter Tryd.func88, Tryd.ntmps88
  go_upto_region 1 with (fail)
  refine wp_region_qtail (fun w' => w' = _) 8 (by kernel_rfl) (by kernel_rfl) rfl ?_
  simp only [List.take_succ_cons, List.take_zero, List.drop_succ_cons, List.drop_zero]
  repeat (first | go_big_quiet_skip | (go_big_quiet_want; go_big_quiet_op; go_big_quiet_on))
  refine wpQuiet_nil ?_
  rintro _ rfl
  go_wp2_with fail
  go_ret
  refine ⟨?_, (Below.refl _ _).drew⟩
  rw [← rr_bits2 17 x 32768 131072 rfl rfl]
  rfl
set_option maxRecDepth 100000 in
theorem rturn_19 (x : UInt32) (w : World) : Calls Tryd.prog 88 #[D x, .int .i64 19] w fun e w' => e = .returned (D (rr 19 x)) ∧ Below w.heap.size w w' := by
  obtain ⟨h1, h2⟩ := d_lt x
  go_enter Tryd.func88, Tryd.ntmps88
  go_upto_region 1 with (fail)
  refine wp_region_qtail (fun w' => w' = _) 8 (by kernel_rfl) (by kernel_rfl) rfl ?_
  simp only [List.take_succ_cons, List.take_zero, List.drop_succ_cons, List.drop_zero]
  repeat (first | go_big_quiet_skip | (go_big_quiet_want; go_big_quiet_op; go_big_quiet_on))
  refine wpQuiet_nil ?_
  rintro _ rfl
  go_wp2_with fail
  go_ret
  refine ⟨?_, (Below.refl _ _).drew⟩
  rw [← rr_bits2 19 x 8192 524288 rfl rfl]
  rfl
set_option maxRecDepth 100000 in
theorem rturn_6 (x : UInt32) (w : World) : Calls Tryd.prog 88 #[D x, .int .i64 6] w fun e w' => e = .returned (D (rr 6 x)) ∧ Below w.heap.size w w' := by
  obtain ⟨h1, h2⟩ := d_lt x
  go_enter Tryd.func88, Tryd.ntmps88
  go_upto_region 1 with (fail)
  refine wp_region_qtail (fun w' => w' = _) 8 (by kernel_rfl) (by kernel_rfl) rfl ?_
  simp only [List.take_succ_cons, List.take_zero, List.drop_succ_cons, List.drop_zero]
  repeat (first | go_big_quiet_skip | (go_big_quiet_want; go_big_quiet_op; go_big_quiet_on))
  refine wpQuiet_nil ?_
  rintro _ rfl
  go_wp2_with fail
  go_ret
  refine ⟨?_, (Below.refl _ _).drew⟩
  rw [← rr_bits2 6 x 67108864 64 rfl rfl]
  rfl
set_option maxRecDepth 100000 in
theorem rturn_11 (x : UInt32) (w : World) : Calls Tryd.prog 88 #[D x, .int .i64 11] w fun e w' => e = .returned (D (rr 11 x)) ∧ Below w.heap.size w w' := by
  obtain ⟨h1, h2⟩ := d_lt x
  go_enter Tryd.func88, Tryd.ntmps88
  go_upto_region 1 with (fail)
  refine wp_region_qtail (fun w' => w' = _) 8 (by kernel_rfl) (by kernel_rfl) rfl ?_
  simp only [List.take_succ_cons, List.take_zero, List.drop_succ_cons, List.drop_zero]
  repeat (first | go_big_quiet_skip | (go_big_quiet_want; go_big_quiet_op; go_big_quiet_on))
  refine wpQuiet_nil ?_
  rintro _ rfl
  go_wp2_with fail
  go_ret
  refine ⟨?_, (Below.refl _ _).drew⟩
  rw [← rr_bits2 11 x 2097152 2048 rfl rfl]
  rfl
set_option maxRecDepth 100000 in
theorem rturn_25 (x : UInt32) (w : World) : Calls Tryd.prog 88 #[D x, .int .i64 25] w fun e w' => e = .returned (D (rr 25 x)) ∧ Below w.heap.size w w' := by
  obtain ⟨h1, h2⟩ := d_lt x
  go_enter Tryd.func88, Tryd.ntmps88
  go_upto_region 1 with (fail)
  refine wp_region_qtail (fun w' => w' = _) 8 (by kernel_rfl) (by kernel_rfl) rfl ?_
  simp only [List.take_succ_cons, List.take_zero, List.drop_succ_cons, List.drop_zero]
  repeat (first | go_big_quiet_skip | (go_big_quiet_want; go_big_quiet_op; go_big_quiet_on))
  refine wpQuiet_nil ?_
  rintro _ rfl
  go_wp2_with fail
  go_ret
  refine ⟨?_, (Below.refl _ _).drew⟩
  rw [← rr_bits2 25 x 128 33554432 rfl rfl]
  rfl
set_option maxRecDepth 100000 in
theorem rturn_2 (x : UInt32) (w : World) : Calls Tryd.prog 88 #[D x, .int .i64 2] w fun e w' => e = .returned (D (rr 2 x)) ∧ Below w.heap.size w w' := by
  obtain ⟨h1, h2⟩ := d_lt x
  go_enter Tryd.func88, Tryd.ntmps88
  go_upto_region 1 with (fail)
  refine wp_region_qtail (fun w' => w' = _) 8 (by kernel_rfl) (by kernel_rfl) rfl ?_
  simp only [List.take_succ_cons, List.take_zero, List.drop_succ_cons, List.drop_zero]
  repeat (first | go_big_quiet_skip | (go_big_quiet_want; go_big_quiet_op; go_big_quiet_on))
  refine wpQuiet_nil ?_
  rintro _ rfl
  go_wp2_with fail
  go_ret
  refine ⟨?_, (Below.refl _ _).drew⟩
  rw [← rr_bits2 2 x 1073741824 4 rfl rfl]
  rfl
set_option maxRecDepth 100000 in
theorem rturn_13 (x : UInt32) (w : World) : Calls Tryd.prog 88 #[D x, .int .i64 13] w fun e w' => e = .returned (D (rr 13 x)) ∧ Below w.heap.size w w' := by
  obtain ⟨h1, h2⟩ := d_lt x
  go_enter Tryd.func88, Tryd.ntmps88
  go_upto_region 1 with (fail)
  refine wp_region_qtail (fun w' => w' = _) 8 (by kernel_rfl) (by kernel_rfl) rfl ?_
  simp only [List.take_succ_cons, List.take_zero, List.drop_succ_cons, List.drop_zero]
  repeat (first | go_big_quiet_skip | (go_big_quiet_want; go_big_quiet_op; go_big_quiet_on))
  refine wpQuiet_nil ?_
  rintro _ rfl
  go_wp2_with fail
  go_ret
  refine ⟨?_, (Below.refl _ _).drew⟩
  rw [← rr_bits2 13 x 524288 8192 rfl rfl]
  rfl
set_option maxRecDepth 100000 in
theorem rturn_22 (x : UInt32) (w : World) : Calls Tryd.prog 88 #[D x, .int .i64 22] w fun e w' => e = .returned (D (rr 22 x)) ∧ Below w.heap.size w w' := by
  obtain ⟨h1, h2⟩ := d_lt x
  go_enter Tryd.func88, Tryd.ntmps88
  go_upto_region 1 with (fail)
  refine wp_region_qtail (fun w' => w' = _) 8 (by kernel_rfl) (by kernel_rfl) rfl ?_
  simp only [List.take_succ_cons, List.take_zero, List.drop_succ_cons, List.drop_zero]
  repeat (first | go_big_quiet_skip | (go_big_quiet_want; go_big_quiet_op; go_big_quiet_on))
  refine wpQuiet_nil ?_
  rintro _ rfl
  go_wp2_with fail
  go_ret
  refine ⟨?_, (Below.refl _ _).drew⟩
  rw [← rr_bits2 22 x 1024 4194304 rfl rfl]
  rfl
end Go.Proofs.YtcfbiafedfkbhaaDoor
