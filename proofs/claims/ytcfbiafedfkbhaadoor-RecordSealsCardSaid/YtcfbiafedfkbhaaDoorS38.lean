/- Part of the proof: Line, LineB, RecordPads. No conditions of its own. -/
import Derived.ArgAppend
import Derived.Below
import Derived.BigQuiet
import Derived.BigRegion
import Derived.ChangeOld
import Derived.Deep.AppendSrc
import Derived.Deep.CutBlock
import Derived.Deep.DeepCutAuto
import Derived.Deep.Draws
import Derived.Deep.LoopGhost
import Derived.Deep.MidRow
import Derived.Deep.Quiet
import Derived.Deep.QuietTactic
import Derived.Deep.RegionHeld3
import Derived.Deep.RegionLaw
import Derived.Deep.Upon
import Derived.Laws.AppendOwnNone
import Derived.Laws.Bits64
import Derived.Laws.BitsAllLaws
import Derived.Laws.BytesArg
import Derived.Laws.Concat
import Derived.Laws.CopyOwn
import Derived.Laws.MakeOwn
import Derived.Lib.AppendStr
import Derived.Lib.AppendZerosOnto
import Derived.Lib.BufferMore
import Derived.Lib.ConvBytes
import Derived.Lib.Hide
import Derived.Lib.SlBytesConst
import Derived.LoopIn
import Derived.LoopNIn
import Derived.Maps.AppendAt
import Derived.OpenShut
import Derived.OrdersIn
import Derived.OwnWalkIn
import Derived.ProofKit
import Derived.RangeFuncBound
import Derived.RangeFuncBox
import Derived.RangeFuncCalls
import Derived.RangeFuncLeaves
import Derived.RangeFuncNested
import Derived.Shelf.Abstract
import Derived.ShutString
import Derived.StillTail
import Derived.TacticsIn
import Derived.TacticsInMore
import Derived.Test.YtcfbiafedfkbhaaDoorChecked
import Derived.Test.YtcfbiafedfkbhaaDoorProg
import Derived.WalkKit
import Derived.WalkSpells
import Derived.Test.YtcfbiafedfkbhaaDoorS37
import Derived.Test.YtcfbiafedfkbhaaDoorS27
import Derived.Test.YtcfbiafedfkbhaaDoorS30
import Derived.Test.YtcfbiafedfkbhaaDoorS31
import Derived.Test.YtcfbiafedfkbhaaDoorS35
namespace Go.Proofs.YtcfbiafedfkbhaaDoor
open Go.RowKit
set_option linter.unusedVariables false
set_option linter.unusedSimpArgs false

def sealE (k pad : Int) (n : Nat) : Nat := if kindB k = false then 1 else if pad < 0 then 1 else if 16384 < (n : Int) + pad then 4 else 0
def sealX (sec : List UInt8) (n : Nat) (k pad : Int) (l : List UInt8) : List UInt8 := if sealE k pad l.length = 0 then recS sec n (innS k.toNat l pad.toNat) else []
def sealD (k pad : Int) (n : Nat) : Nat := if sealE k pad n = 0 then 1 else 0
theorem sealE_inv {k pad : Int} {n : Nat} (h : sealE k pad n = 0) : k = (k.toNat : Int) ∧ (21 ≤ k.toNat ∧ k.toNat ≤ 23) ∧ pad = (pad.toNat : Int) ∧ n + pad.toNat ≤ 16384 := by
  unfold sealE at h
  split at h
  · omega
  · next h1 =>
    split at h
    · omega
    · next h2 =>
      split at h
      · omega
      · next h3 =>
        have h4 : kindB k = true := by simpa using h1
        unfold kindB at h4
        simp at h4
        omega
set_option maxRecDepth 100000 in
theorem cseal_kind (w : World) (g : Nat) (k pad : Int) (v : Value) (hk : kindB k = false) :
    Calls Tryd.prog 9 #[.pointer (some ⟨g, 0, none⟩), .int .i64 k, v, .int .i64 pad] w fun e w' => e = .returned (.tuple #[.slice none 0 0, .int .i64 1]) ∧ w' = w := by
  have HKB := Lib.hid hk
  clear hk
  go_enter Tryd.func9, Tryd.ntmps9
  go_wp2_with (go_at_call 29; refine (isKind_any _ _).mono ?_; rintro e w' ⟨rfl, rfl⟩; rw [HKB.out])
  go_ret2
  exact ⟨rfl, rfl⟩
set_option maxRecDepth 100000 in
theorem cseal_neg (w : World) (g : Nat) (k pad : Int) (v : Value) (hk : kindB k = true) (hp : pad < 0) :
    Calls Tryd.prog 9 #[.pointer (some ⟨g, 0, none⟩), .int .i64 k, v, .int .i64 pad] w fun e w' => e = .returned (.tuple #[.slice none 0 0, .int .i64 1]) ∧ w' = w := by
  have HKB := Lib.hid hk
  clear hk
  go_enter Tryd.func9, Tryd.ntmps9
  go_wp2_with (go_at_call 29; refine (isKind_any _ _).mono ?_; rintro e w' ⟨rfl, rfl⟩; rw [HKB.out])
  go_ret2
  exact ⟨rfl, rfl⟩
set_option maxRecDepth 100000 in
theorem cseal_nil (w : World) : Calls Tryd.prog 9 #[.pointer none, .int .i64 22, .slice none 0 0, .int .i64 0] w fun e w' => e = .returned (.tuple #[.slice none 0 0, .int .i64 1]) ∧ w' = w := by
  go_enter Tryd.func9, Tryd.ntmps9
  go_wp2_with fail
  go_ret2
  exact ⟨rfl, rfl⟩
set_option maxRecDepth 100000 in
theorem copen_nil (w : World) (v : Value) : Calls Tryd.prog 11 #[.pointer none, v] w fun e w' => e = .returned (.tuple #[.int .i64 0, .slice none 0 0, .int .i64 1]) ∧ w' = w := by
  go_enter Tryd.func11, Tryd.ntmps11
  go_wp2_with fail
  go_ret3
  exact ⟨rfl, rfl⟩
theorem cseal_any (w : World) (g n c : Nat) (k pad : Int) (sec l : List UInt8) (a : Option Addr) (h : HalfW w g sec n) (hS : SlB w (.slice a l.length c) l) (hl : l.length ≤ 1000) (hn : n < 1000) :
    Calls Tryd.prog 9 #[.pointer (some ⟨g, 0, none⟩), .int .i64 k, .slice a l.length c, .int .i64 pad] w fun e w' =>
      ∃ a' c', e = .returned (.tuple #[.slice a' (sealX sec n k pad l).length c', .int .i64 (sealE k pad l.length : Int)]) ∧ OwnW w' w.heap.size (.slice a' (sealX sec n k pad l).length c') (sealX sec n k pad l) ∧ HalfW w' g sec (n + sealD k pad l.length) ∧ w.grownBy w' (some g) := by
  by_cases h1 : kindB k = false
  · have he : sealE k pad l.length = 1 := by unfold sealE; rw [if_pos h1]
    refine (cseal_kind w g k pad _ h1).mono ?_
    rintro e w' ⟨rfl, hw⟩
    obtain rfl := hw.symm
    rw [show sealX sec n k pad l = [] by unfold sealX; rw [he]; rfl, show sealD k pad l.length = 0 by unfold sealD; rw [he]; rfl, he]
    exact ⟨none, 0, rfl, OwnW.nil _ _, h, World.grownBy.refl _ _⟩
  · have hk : kindB k = true := by simpa using h1
    by_cases h2 : pad < 0
    · have he : sealE k pad l.length = 1 := by unfold sealE; rw [if_neg h1, if_pos h2]
      refine (cseal_neg w g k pad _ hk h2).mono ?_
      rintro e w' ⟨rfl, hw⟩
      obtain rfl := hw.symm
      rw [show sealX sec n k pad l = [] by unfold sealX; rw [he]; rfl, show sealD k pad l.length = 0 by unfold sealD; rw [he]; rfl, he]
      exact ⟨none, 0, rfl, OwnW.nil _ _, h, World.grownBy.refl _ _⟩
    · have hkk : k = (k.toNat : Int) ∧ 21 ≤ k.toNat ∧ k.toNat ≤ 23 := by
        unfold kindB at hk
        simp at hk
        omega
      obtain ⟨ek, hk1⟩ := hkk
      obtain ⟨p, rfl⟩ : ∃ p : Nat, pad = (p : Int) := ⟨pad.toNat, by omega⟩
      by_cases h3 : 16384 < (l.length : Int) + (p : Int)
      · have he : sealE k (p : Int) l.length = 4 := by unfold sealE; rw [if_neg h1, if_neg h2, if_pos h3]
        have := recSeal_big w g k.toNat p l.length c a hk1 (by omega) (by omega)
        rw [← ek] at this
        refine this.mono ?_
        rintro e w' ⟨rfl, hw⟩
        obtain rfl := hw.symm
        rw [show sealX sec n k p l = [] by unfold sealX; rw [he]; rfl, show sealD k p l.length = 0 by unfold sealD; rw [he]; rfl, he]
        exact ⟨none, 0, rfl, OwnW.nil _ _, h, World.grownBy.refl _ _⟩
      · have he : sealE k (p : Int) l.length = 0 := by unfold sealE; rw [if_neg h1, if_neg h2, if_neg h3]
        have := recSeal_any w g n k.toNat p sec l _ h hS hk1 (by omega) hn
        rw [← ek] at this
        refine this.mono ?_
        rintro e w' ⟨v', rfl, ho, hH, hg⟩
        obtain ⟨a', c', rfl, _⟩ := ho.slb
        rw [show sealX sec n k p l = recS sec n (innS k.toNat l p) by unfold sealX; rw [he]; rfl, show sealD k p l.length = 1 by unfold sealD; rw [he]; rfl, he]
        exact ⟨a', c', rfl, ho, hH, hg⟩
theorem rrs_any (w : World) (g n : Nat) (k pad : Int) (sec l : List UInt8) (hr : Row w g 39 (rhC sec n)) (hs : sec.length = 32) (hl : l.length ≤ 1000) (hn : n < 1000) :
    Calls Tryd.prog 15 #[.pointer (some ⟨g, 0, none⟩), .int .i64 k, S l, .int .i64 pad] w fun e w' =>
      e = .returned (.tuple #[S (sealX sec n k pad l), .int .i64 (sealE k pad l.length : Int)]) ∧ Row w' g 39 (rhC sec (n + sealD k pad l.length)) ∧ w.grownBy w' (some g) := by
  by_cases h1 : kindB k = false
  · have he : sealE k pad l.length = 1 := by unfold sealE; rw [if_pos h1]
    refine (rrs_kind w _ k pad l h1).mono ?_
    rintro e w' ⟨rfl, hw⟩
    obtain rfl := hw.symm
    rw [show sealX sec n k pad l = [] by unfold sealX; rw [he]; rfl, show sealD k pad l.length = 0 by unfold sealD; rw [he]; rfl, he]
    exact ⟨rfl, hr, World.grownBy.refl _ _⟩
  · have hk : kindB k = true := by simpa using h1
    by_cases h2 : pad < 0
    · have he : sealE k pad l.length = 1 := by unfold sealE; rw [if_neg h1, if_pos h2]
      refine (rrs_neg w _ k pad l hk h2).mono ?_
      rintro e w' ⟨rfl, hw⟩
      obtain rfl := hw.symm
      rw [show sealX sec n k pad l = [] by unfold sealX; rw [he]; rfl, show sealD k pad l.length = 0 by unfold sealD; rw [he]; rfl, he]
      exact ⟨rfl, hr, World.grownBy.refl _ _⟩
    · have hkk : k = (k.toNat : Int) ∧ 21 ≤ k.toNat ∧ k.toNat ≤ 23 := by
        unfold kindB at hk
        simp at hk
        omega
      obtain ⟨ek, hk1⟩ := hkk
      obtain ⟨p, rfl⟩ : ∃ p : Nat, pad = (p : Int) := ⟨pad.toNat, by omega⟩
      by_cases h3 : 16384 < (l.length : Int) + (p : Int)
      · have he : sealE k (p : Int) l.length = 4 := by unfold sealE; rw [if_neg h1, if_neg h2, if_pos h3]
        refine (rrs_big w _ k p l hk (by omega) hl h3).mono ?_
        rintro e w' ⟨rfl, hw⟩
        obtain rfl := hw.symm
        rw [show sealX sec n k p l = [] by unfold sealX; rw [he]; rfl, show sealD k p l.length = 0 by unfold sealD; rw [he]; rfl, he]
        exact ⟨rfl, hr, World.grownBy.refl _ _⟩
      · have he : sealE k (p : Int) l.length = 0 := by unfold sealE; rw [if_neg h1, if_neg h2, if_neg h3]
        have := rrs_ok w g n k.toNat p sec l hr hs hk1 (by omega) hn
        rw [← ek] at this
        refine this.mono ?_
        rintro e w' ⟨rfl, hH, hg⟩
        rw [show sealX sec n k p l = recS sec n (innS k.toNat l p) by unfold sealX; rw [he]; rfl, show sealD k p l.length = 1 by unfold sealD; rw [he]; rfl, he]
        exact ⟨rfl, hH, hg⟩
structure Ln where
  kind : Int
  bytes : List UInt8
  pad : Int
def lnC (k : Int) (v : Value) (p : Int) : Array Value := #[.int .i64 k, v, .int .i64 p]
def padI (p : Int) : Int := if 200 < p ∧ p < 16000 then 200 else p
set_option maxRecDepth 100000 in
theorem lpad_any (w : World) (k p : Int) (v : Value) : Calls Tryd.prog 14 #[.agg #[.int .i64 k, v, .int .i64 p]] w fun e w' => e = .returned (.int .i64 (padI p)) ∧ Below w.heap.size w w' := by
  by_cases h1 : 200 < p
  · by_cases h2 : p < 16000
    · have H := Lib.hid (show padI p = 200 by unfold padI; rw [if_pos ⟨h1, h2⟩])
      go_enter Tryd.func14, Tryd.ntmps14
      go_wp2_with fail
      go_ret
      exact ⟨by rw [H.out]; rfl, (Below.refl _ _).alloc (Nat.le_refl _) _⟩
    · have H := Lib.hid (show padI p = p by unfold padI; rw [if_neg (fun h => h2 h.2)])
      go_enter Tryd.func14, Tryd.ntmps14
      go_wp2_with fail
      go_ret
      exact ⟨by rw [H.out]; rfl, (Below.refl _ _).alloc (Nat.le_refl _) _⟩
  · have H := Lib.hid (show padI p = p by unfold padI; rw [if_neg (fun h => h1 h.1)])
    go_enter Tryd.func14, Tryd.ntmps14
    go_wp2_with fail
    go_ret
    exact ⟨by rw [H.out]; rfl, (Below.refl _ _).alloc (Nat.le_refl _) _⟩
end Go.Proofs.YtcfbiafedfkbhaaDoor

namespace Go.Proofs.YtcfbiafedfkbhaaDoor
open Go.RowKit
set_option linter.unusedVariables false
set_option linter.unusedSimpArgs false

def PB (w : World) (v : Value) (l : List UInt8) : Prop := ∃ a c, v = .slice a l.length c ∧ l.length ≤ c ∧ c ≤ maxLen ∧ (a = none → c = 0) ∧ (0 < l.length → SlB w v l)
theorem PB.below {w w' : World} {v : Value} {l : List UInt8} (h : PB w v l) (hb : Below w.heap.size w w') : PB w' v l := by
  obtain ⟨a, c, h1, h2, h3, h4, h5⟩ := h
  exact ⟨a, c, h1, h2, h3, h4, fun h => (h5 h).below hb⟩
theorem PB.take {w : World} {a : Option Addr} {n c : Nat} {l : List UInt8} (h : PB w (.slice a n c) l) (m : Nat) (hm : m ≤ n) : PB w (.slice a m c) (l.take m) := by
  obtain ⟨a', c', h1, h2, h3, h4, h5⟩ := h
  simp only [Value.slice.injEq] at h1
  obtain ⟨rfl, hn, rfl⟩ := h1
  have hl : (l.take m).length = m := by simp; omega
  exact ⟨a, c, by rw [hl], by omega, h3, h4, fun h => (h5 (by omega)).take m hm⟩
theorem run_appendFresh {P : Program} (w : World) {t ty e : TypeId} (ht : P.underlying t = some (.slice e)) (hinf : (P.info? e).map (fun i => (i.zero, i.size, i.bytes)) = some (some (.int .u8 0), 1, 1)) (base g : Nat) (hg : base ≤ g) (hr : Row w g e #[])
    (x : Value) (m : List UInt8) (hx : PB w x m) (hm : m.length ≤ 140737488355328) (hb : base ≤ w.heap.size) :
    ∃ v' w', (Builtin.append_ #[t, t] ty #[.slice (some ⟨g, 0, none⟩) 0 0, x]).run P w = .ok v' w' ∧ Buf e w' base v' m ∧ Below w.heap.size w w' := by
  obtain ⟨i0, hi, hz0, hz1, hz2⟩ := info_parts hinf
  have hbuf : Buf e w base (.slice (some ⟨g, 0, none⟩) 0 0) [] := ⟨by simp, .inr ⟨g, 0, #[], rfl, hg, hr.heap, Nat.le_refl _, Nat.zero_le _, by simp, by simp⟩⟩
  obtain ⟨a, c, rfl, h1, h2, h3, h4⟩ := hx
  rcases Nat.eq_zero_or_pos m.length with h0 | h0
  · obtain rfl : m = [] := List.eq_nil_of_length_eq_zero h0
    refine ⟨_, w, ?_, hbuf, Below.refl _ w⟩
    refine run_append_nothing (P := P) w t t ty e i0 ht hi (some ⟨g, 0, none⟩) 0 0 (Nat.le_refl _) _ ?_
    cases a with
    | none => exact Src.ofNil w ht c
    | some a => exact Src.ofSlice w ht a 0 c [] (by simp) (fun _ _ h => by cases h) (fun _ h => by cases h)
  · obtain ⟨b, o, c', e', hc1, hc2, hc3, hc⟩ := (h4 h0).addr h0
    simp only [Value.slice.injEq] at e'
    obtain ⟨rfl, _, rfl⟩ := e'
    have hcell : ∀ j u, (m.map B)[j]? = some u → w.cell? ((⟨b, o, none⟩ : Addr).add j) = some u := fun j u hj => by
      have hj' : j < m.length := by simpa using (List.getElem?_eq_some_iff.1 hj).1
      rw [Addr.add_lit, hc j hj']
      simpa [gb, hj'] using hj
    have hone : ∀ u ∈ m.map B, u.oneCell' = true := fun u hu => by
      obtain ⟨y, _, rfl⟩ := List.mem_map.1 hu
      rfl
    obtain ⟨v', w', hrun, hown, _, _⟩ := run_append_own (P := P) w base t ty e i0 (.int .u8 0) 1 1 ht hi hz0 hz1 hz2 rfl (by decide) _ 0 [] hbuf ⟨b, o, none⟩ m.length c (m.map B) (by simp) hcell hone (by unfold maxLen; omega) (by omega) hb
    have hgrow := run_append_grow (P := P) w t ty e i0 (.int .u8 0) ht hi hz0 ⟨g, 0, none⟩ 0 0 [] (by simp) (fun _ _ h => by cases h) ⟨b, o, none⟩ m.length c (m.map B) (by rw [hz1]; simp) hcell (by omega) (by omega) (by rw [Nat.zero_add, nextslicecap_zero h0, hz2]; omega)
    rw [hrun] at hgrow
    simp only [Result.ok.injEq] at hgrow
    refine ⟨v', w', hrun, by simpa [Buf] using hown, ?_⟩
    rw [hgrow.2]
    exact ((Below.refl _ w).drew).alloc (Nat.le_refl _) _
theorem exec_append {P : Program} {o : Oper} {a : Act} {s x : Operand} {t : TypeId} {v u v' : Value} {w w' : World} (ho : o.op = .call { callee := .builtin .append, args := #[s, x], argTypes := #[t, t] }) (hs : a.eval s = v) (hx : a.eval x = u)
    (hr : (Builtin.append_ #[t, t] o.type #[v, u]).run P w = .ok v' w') : (execOp a.eval o).run P w = .ok (.value v') w' := by
  unfold execOp
  simp only [ho, resolve, invoke, builtin, Sem.run_bind, Sem.run_pure, Result.andThen_ok, List.map_toArray, List.map_cons, List.map_nil, hs, hx, hr]
theorem wpl_appF {w : World} {ops : Array Oper} {rest : List Oper} {o : Oper} {a : Act} {Q : Exit → Act → World → Prop} (hgd : o.guard = none) (s x : Operand)
    (ho : o.op = .call { callee := .builtin .append, args := #[s, x], argTypes := #[23, 23] })
    (B0 g : Nat) (hs : a.eval s = .slice (some ⟨g, 0, none⟩) 0 0) (hg : B0 ≤ g) (hr : Row w g 5 #[]) (vx : Value) (m : List UInt8) (hx : a.eval x = vx) (hp : PB w vx m) (hm : m.length ≤ 1000000) (hb : B0 ≤ w.heap.size)
    (hK : ∀ v' w', OwnW w' B0 v' m → Below w.heap.size w w' → wpList Tryd.prog ops Q rest (a.put o.dst v') w') : wpList Tryd.prog ops Q (o :: rest) a w :=
  wpList_plain hgd fun _ hk => by
    obtain ⟨v', w', h1, h2, h3⟩ := run_appendFresh (P := Tryd.prog) w (t := 23) (ty := o.type) (e := 5) Tryd.underlying23 info_u8S B0 g hg hr vx m hp (by omega) hb
    have hrun := exec_append (P := Tryd.prog) ho hs hx h1
    unfold Oper.wp
    rw [hrun]
    exact hk _ _ (hK v' w' (OwnW.of_buf h2) h3)
section
variable {H : Type} {enc : TypeId × Value → H} {P : Program} {w : World} {held : Bool}
theorem part_cell {t e : TypeId} {vp : Value} {fuel : Nat} {y : DataW H × List MemPlace} (ht : P.underlying t = some (.slice e)) (he : P.underlying e = some (.int .u8)) (hc : P.cellsOf e = 1)
    (hf : DataW.trod enc P w 0 (fun _ => true) held fuel t [vp] = some y) : ∃ l : List UInt8, l.length ≤ maxLen ∧ PB w vp l := by
  rcases Go.ChangeShapes.open_ints ht he hc hf with ⟨hcs, _⟩ | ⟨x, len, cap, zs, hcs, _, hl, hm, hz, _, hcell, hwz⟩
  · simp at hcs
    subst hcs
    exact ⟨[], Nat.zero_le _, none, 0, rfl, Nat.le_refl _, Nat.zero_le _, fun _ => rfl, fun h => absurd h (by decide)⟩
  · simp at hcs
    subst hcs
    rw [if_pos rfl] at hz
    have hzs : ∀ i, i < cap → zs.getD i 0 = ((UInt8.ofNat (zs.getD i 0).toNat).toNat : Int) := by
      intro i hi
      have hmem : zs.getD i 0 ∈ zs := by
        rw [List.getD_eq_getElem?_getD, List.getElem?_eq_getElem (by omega)]
        exact List.getElem_mem _
      obtain ⟨y, hy⟩ := wf_byte (hwz _ hmem)
      rw [hy]
      simp
    have hlen : ((zs.take len).map fun k => UInt8.ofNat k.toNat).length = len := by simp; omega
    refine ⟨(zs.take len).map fun k => UInt8.ofNat k.toNat, by rw [hlen]; omega, some x, cap, by rw [hlen], by omega, hm, (fun h => by cases h), fun h0 => ?_⟩
    have hs : x.spot = none := by
      have h1 := hcell 0 (by omega)
      cases hx : x.spot with
      | none => rfl
      | some s =>
        exfalso
        have : w.cell? x = none := by
          unfold World.cell?
          cases hh : w.heap[x.block]? with
          | none => rfl
          | some o => cases o <;> simp [hx]
        rw [show x.add 0 = x from rfl, this] at h1
        cases h1
    refine ⟨some x, cap, by rw [hlen], by omega, hm, (fun h => by cases h), fun ad had => ?_⟩
    obtain rfl := Option.some.inj had
    refine ⟨hs, fun i hi => ?_⟩
    have hi' : i < len := by omega
    have h1 := hcell i (by omega)
    obtain ⟨b, o, s⟩ := x
    simp only at hs
    subst hs
    rw [Addr.add_lit] at h1
    rw [h1, hzs i (by omega)]
    simp [gb, hi', show i < zs.length by omega]
def LinesIn (w : World) (v : Value) (ls : List Ln) : Prop :=
  ∃ a cap, v = .slice a ls.length cap ∧ ls.length ≤ cap ∧ cap ≤ maxLen ∧ ∀ i l, ls[i]? = some l → ∃ b o vb, a = some ⟨b, o, none⟩ ∧ w.rangeAt b (o + i * 3) [.int .i64 l.kind, vb, .int .i64 l.pad] ∧ PB w vb l.bytes
theorem PB.shape {w : World} {v : Value} {l : List UInt8} (h : PB w v l) : ∃ a c, v = .slice a l.length c ∧ l.length ≤ c := by
  obtain ⟨a, c, e, h1, _⟩ := h
  exact ⟨a, c, e, h1⟩
theorem line_cells {fuel : Nat} {L : List Value} {y : DataW H × List MemPlace} (hL : L.length = 3) (hf : DataW.trod enc Tryd.prog w 0 (fun _ => true) held fuel 41 L = some y) :
    ∃ l : Ln, ∃ vb, L = [.int .i64 l.kind, vb, .int .i64 l.pad] ∧ PB w vb l.bytes := by
  obtain ⟨x0, x1, x2, rfl⟩ : ∃ x0 x1 x2, L = [x0, x1, x2] := by
    match L, hL with
    | [a, b, c], _ => exact ⟨a, b, c, rfl⟩
  obtain ⟨xs, n, _, hx, hl, hlen, hfs⟩ := DataW.trod_struct Tryd.underlying41 hf
  have ei : Tryd.prog.cellsOf 3 = 1 := by kernel_rfl
  have es : Tryd.prog.cellsOf 23 = 1 := by kernel_rfl
  have e1 : Tryd.prog.cellsOf 5 = 1 := by kernel_rfl
  have hl3 : xs.length = 3 := hlen
  have gx : ∀ i, i < 3 → ∃ y, xs[i]? = some y := fun i hi => ⟨_, List.getElem?_eq_getElem (by omega)⟩
  have f0 := hfs 0 _ rfl
  have f1 := hfs 1 _ rfl
  have f2 := hfs 2 _ rfl
  simp only [List.getElem_toArray, List.getElem_cons_zero, List.getElem_cons_succ, ei, es, List.drop_zero] at f0 f1 f2
  obtain ⟨y0, g0⟩ := gx 0 (by omega)
  obtain ⟨y1, g1⟩ := gx 1 (by omega)
  obtain ⟨y2, g2⟩ := gx 2 (by omega)
  rw [g0] at f0
  rw [g1] at f1
  rw [g2] at f2
  obtain ⟨k, c0, _⟩ := DataW.trod_int Tryd.underlying3 f0
  obtain ⟨p, c2, _⟩ := DataW.trod_int Tryd.underlying3 f2
  obtain ⟨q, _, hq⟩ := part_cell (vp := x1) Tryd.underlying23 Tryd.underlying5 e1 f1
  obtain rfl : x0 = .int .i64 k := by simpa using c0
  obtain rfl : x2 = .int .i64 p := by simpa using c2
  exact ⟨⟨k, q, p⟩, x1, rfl, hq⟩
theorem cells?_all {w : World} {base : Nat} {a : Addr} {n : Nat} {cs : List Value} (h : w.cells? base a n = some cs) : cs.length = n ∧ ∀ j u, cs[j]? = some u → w.cell? (a.add j) = some u := by
  obtain ⟨_, h2, h3⟩ := World.cells?_some h
  refine ⟨h2, fun j u hj => ?_⟩
  have hl := (List.getElem?_eq_some_iff.1 hj).1
  rw [← hj]
  exact h3 j (by omega)
set_option maxRecDepth 100000 in
theorem open_lines {r : Reach} {b0 : Nat} {v : Value} {d : DataW H} {ps : List MemPlace} (hval : Value.okWide Tryd.prog w r b0 34 v) (hd : DataW.Trod enc Tryd.prog w 0 (fun _ => true) held 34 v d ps) : ∃ ls, LinesIn w v ls := by
  have ht := Tryd.underlying34
  obtain ⟨a, len, cap, rfl⟩ := Go.WideShapes.okWide_slice ht hval
  obtain ⟨fuel, hf⟩ := hd
  have e3 : Tryd.prog.cellsOf 41 = 3 := by kernel_rfl
  rcases DataW.trod_slice ht hf with ⟨hcs, _⟩ | ⟨x, l, c, elems, rest, n, _, hcs, _, _, hl, hm, hlen, hel, _, _⟩
  · simp [Value.cells] at hcs
    obtain ⟨rfl, rfl, rfl⟩ := hcs
    exact ⟨[], none, 0, rfl, Nat.le_refl _, Nat.zero_le _, fun i m hi => by cases hi⟩
  · simp [Value.cells] at hcs
    obtain ⟨rfl, rfl, rfl⟩ := hcs
    have hs : x.spot = none := by
      simp only [Value.okWide, ht, Cell.okWide, Cell.ok] at hval
      exact hval.2.2.2.1
    obtain ⟨b, o, sp⟩ := x
    simp only at hs
    subst hs
    have each : ∀ i, ∃ m : Ln, i < len → ∃ vb, w.rangeAt b (o + i * 3) [.int .i64 m.kind, vb, .int .i64 m.pad] ∧ PB w vb m.bytes := fun i => by
      by_cases hi : i < len
      · have h1 := hel i hi
        rw [List.getElem?_eq_getElem (by omega), e3, Option.bind_eq_some_iff] at h1
        obtain ⟨cs', hcs, hy⟩ := h1
        obtain ⟨h2, h3⟩ := cells?_all hcs
        obtain ⟨m, vb, rfl, hp⟩ := line_cells h2 hy
        refine ⟨m, fun _ => ⟨vb, fun j u hj => ?_, hp⟩⟩
        have := h3 j u hj
        rw [Addr.add_lit, Addr.add_lit] at this
        exact this
      · exact ⟨⟨0, [], 0⟩, fun h => absurd h hi⟩
    obtain ⟨f, hf⟩ := Classical.axiomOfChoice each
    have hpl : ((List.range len).map f).length = len := by simp
    refine ⟨(List.range len).map f, some ⟨b, o, none⟩, cap, by rw [hpl], by omega, hm, fun i m hi => ?_⟩
    have hil : i < len := by have := (List.getElem?_eq_some_iff.1 hi).1; omega
    obtain ⟨vb, h1, h2⟩ := hf i hil
    have : f i = m := by simpa [hil] using hi
    subst this
    exact ⟨b, o, vb, rfl, h1, h2⟩
end
end Go.Proofs.YtcfbiafedfkbhaaDoor

namespace Go.Proofs.YtcfbiafedfkbhaaDoor
open Go.RowKit
set_option linter.unusedVariables false
set_option linter.unusedSimpArgs false

def NumS (w : World) (v : Value) (zs : List Int) : Prop :=
  ∃ a c, v = .slice a zs.length c ∧ zs.length ≤ c ∧ c ≤ maxLen ∧ (a = none → c = 0) ∧ ∀ ad, a = some ad → ad.spot = none ∧ ∀ i, i < zs.length → w.cell? ⟨ad.block, ad.off + i, none⟩ = some (.int .i64 (zs.getD i 0))
theorem NumS.below {w w' : World} {v : Value} {zs : List Int} (h : NumS w v zs) (hb : Below w.heap.size w w') : NumS w' v zs := by
  obtain ⟨a, c, e, h1, h2, h3, h4⟩ := h
  exact ⟨a, c, e, h1, h2, h3, fun ad had => ⟨(h4 ad had).1, fun i hi => by
    have := (h4 ad had).2 i hi
    exact (hb.cell (World.block_lt_of_cell? w _ this)).trans this⟩⟩
theorem HalfW.other {w w' : World} {g1 g2 n : Nat} {sec : List UInt8} {cs : Array Value} (h : HalfW w g2 sec n) (hr : Row w g1 68 cs) (hg : w.grownBy w' (some g1)) (hne : g2 ≠ g1) : HalfW w' g2 sec n := by
  obtain ⟨p, h1, h2⟩ := h
  exact ⟨p, (row_congr (hg.block g2 h1.lt (fun e => hne (Option.some.inj e)))).trans h1, h2.self hr hg⟩
theorem HalfW.row {w : World} {g n : Nat} {sec : List UInt8} (h : HalfW w g sec n) : ∃ cs, Row w g 68 cs := let ⟨_, h, _⟩ := h; ⟨_, h⟩
def halfF (B : Nat) (sec : List UInt8) (d : Tmp) (v : Value) (w : World) : Prop := ∃ g, v = .pointer (some ⟨g, 0, none⟩) ∧ B ≤ g ∧ HalfW w g sec 0
theorem halfF_stab (B : Nat) (sec : List UInt8) : StabP (halfF B sec) := by
  intro d v w w' ⟨g, h1, h2, h3⟩ hb
  exact ⟨g, h1, h2, h3.below hb⟩
end Go.Proofs.YtcfbiafedfkbhaaDoor
