/- Part of the proof: RefMac, RecSeal. No conditions of its own. -/
import Derived.ArgAppend
import Derived.Below
import Derived.BigQuiet
import Derived.BigRegion
import Derived.ChangeOld
import Derived.Deep.CutBlock
import Derived.Deep.DeepCutAuto
import Derived.Deep.Draws
import Derived.Deep.LoopGhost
import Derived.Deep.Quiet
import Derived.Deep.QuietTactic
import Derived.Deep.RegionHeld3
import Derived.Deep.RegionLaw
import Derived.Laws.AppendOwnNone
import Derived.Laws.Bits64
import Derived.Laws.BitsAllLaws
import Derived.Laws.BytesArg
import Derived.Laws.CopyOwn
import Derived.Laws.MakeOwn
import Derived.Lib.AppendStr
import Derived.Lib.AppendZerosOnto
import Derived.Lib.BufferMore
import Derived.Lib.ConvBytes
import Derived.Lib.Hide
import Derived.LoopIn
import Derived.LoopNIn
import Derived.Maps.AppendAt
import Derived.OpenShut
import Derived.OrdersIn
import Derived.OwnWalkIn
import Derived.ProofKit
import Derived.RangeFuncBound
import Derived.RangeFuncBox
import Derived.RangeFuncCalls
import Derived.RangeFuncLeaves
import Derived.RangeFuncNested
import Derived.Shelf.Abstract
import Derived.ShutString
import Derived.StillTail
import Derived.TacticsIn
import Derived.TacticsInMore
import Derived.Test.YtcfbiafedfkbhaaDoorProg
import Derived.WalkKit
import Derived.WalkSpells
import Derived.Test.YtcfbiafedfkbhaaDoorS12
import Derived.Test.YtcfbiafedfkbhaaDoorS26
import Derived.Test.YtcfbiafedfkbhaaDoorS22
import Derived.Test.YtcfbiafedfkbhaaDoorS23
namespace Go.Proofs.YtcfbiafedfkbhaaDoor
open Go.RowKit
set_option linter.unusedVariables false
set_option linter.unusedSimpArgs false

structure OfSt (w wr : World) (v1 v2 : Value) (l m : List UInt8) : Prop where
  o1 : OwnW wr w.heap.size v1 l
  o2 : OwnW wr w.heap.size v2 m
  ap : ∀ k, v1.ownBlock = some k → v2.ownBlock ≠ some k
  bel : Below w.heap.size w wr
theorem OfSt.swap {w wr : World} {v1 v2 : Value} {l m : List UInt8} (k : OfSt w wr v1 v2 l m) : OfSt w wr v2 v1 m l := ⟨k.o2, k.o1, fun b h1 h2 => k.ap b h2 h1, k.bel⟩
theorem OwnW.ltA {w : World} {B0 : Nat} {v : Value} {l : List UInt8} (h : OwnW w B0 v l) : ∀ k, v.ownBlock = some k → k < w.heap.size ∧ B0 ≤ k := fun k e => by
  rcases h.row with h | ⟨b', _, h, hb, hr⟩
  · rw [h] at e; cases e
  · rw [h] at e; obtain rfl := Option.some.inj e; exact ⟨hr.lt, hb⟩
theorem OfSt.step {w wr w1 : World} {v1 v2 v' : Value} {l m l' : List UInt8} {o : Obj} (k : OfSt w wr v1 v2 l m) (ho : OwnW w1 w.heap.size v' l') (hg : (wr.alloc o).grownBy w1 v1.ownBlock)
    (he : v'.ownBlock = v1.ownBlock ∨ v'.ownBlock = some (wr.heap.size + 1)) : OfSt w w1 v' v2 l' m := by
  have h2 : ∀ b, v2.ownBlock = some b → b < wr.heap.size := fun b e => (k.o2.ltA b e).1
  refine ⟨ho, k.o2.congr fun b hb => ?_, fun b e1 e2 => ?_, (k.bel.alloc k.bel.size o).grown hg (by have := k.bel.size; simp; omega) (fun b e => (k.o1.ltA b e).2)⟩
  · have hlt := h2 b hb
    rw [hg.block b (by simp; omega) (fun e => k.ap b e.symm hb)]
    exact ((Below.refl _ wr).alloc (Nat.le_refl _) o).block b hlt
  · rcases he with he | he
    · rw [he] at e1; exact k.ap b e1 e2
    · rw [he] at e1
      obtain rfl := Option.some.inj e1
      have := h2 _ e2
      omega
theorem padK_get (key : List UInt8) (x : UInt8) (i : Nat) (hk : key.length ≤ 64) (hi : i < 64) : (padK key x).take (i + 1) = (padK key x).take i ++ [xr (if i < key.length then gb key i else 0) x] := by
  have hl := padK_len key x hk
  rw [List.take_add_one, List.getElem?_eq_getElem (by omega)]
  congr 1
  simp only [Option.toList_some, List.cons.injEq, and_true]
  unfold padK
  rw [List.getElem_map, List.getElem_append]
  split
  · next h => simp [gb, h]
  · next h => simp
set_option maxRecDepth 100000 in
set_option maxHeartbeats 8000000 in
theorem rof_any (w : World) (key t : List UInt8) (hk : key.length ≤ 64) (ht : t.length ≤ 900000) :
    Calls Tryd.prog 53 #[S key, S t] w fun e w' => e = .returned (S (macS key t)) ∧ Below w.heap.size w w' := by
  have k1 : ¬ (64 : Int) < (key.length : Int) := by omega
  have HK := Lib.hid hk
  have HT := Lib.hid ht
  clear hk ht
  go_enter Tryd.func53, Tryd.ntmps53
  go_wp2_with fail
  clear k1
  go_loopg [5, 6, 7] 64 (fun gk t5 t6 t7 wx => ∃ (i : Nat) (a b : Option Addr) (c d : Nat) (l m : List UInt8), gk + i = 64 ∧ t7 = .int .i64 (i : Int) ∧ t5 = .slice a l.length c ∧ t6 = .slice b m.length d ∧ l = (padK key 0x36).take i ∧ m = (padK key 0x5c).take i ∧ OfSt w wx (.slice a l.length c) (.slice b m.length d) l m)
  case atStart => exact ⟨0, none, none, 0, 0, [], [], by omega, rfl, rfl, rfl, rfl, rfl, OwnW.nil _ _, OwnW.nil _ _, (fun k h => by cases h), Below.refl _ _⟩
  case round =>
    obtain ⟨i, a, b, c, d, l, m, hi, rfl, rfl, rfl, hl, hm, hO⟩ := hrel
    by_cases h64 : i < 64
    · have i1 : (i : Int) < 64 := by omega
      have i0 : (0 : Int) ≤ (i : Int) := by omega
      have hll : l.length ≤ 64 := by rw [hl, List.length_take]; omega
      have hml : m.length ≤ 64 := by rw [hm, List.length_take]; omega
      obtain ⟨q, hq⟩ : ∃ q, q = (if i < key.length then gb key i else 0) := ⟨_, rfl⟩
      have HST := Lib.hid (show l ++ [xr q 0x36] = (padK key 0x36).take (i + 1) ∧ m ++ [xr q 0x5c] = (padK key 0x5c).take (i + 1) from ⟨by rw [hl, hq, padK_get _ _ _ HK.out h64], by rw [hm, hq, padK_get _ _ _ HK.out h64]⟩)
      have HO := Lib.hid hO
      have HI := Lib.hid (⟨hi, h64, hll, hml⟩ : _ ∧ _ ∧ _ ∧ _)
      have HQ := Lib.hid hq
      clear hO hi h64 hl hm hll hml hq
      obtain ⟨cb, hcb⟩ : ∃ c, decide ((i : Int) < (key.length : Int)) = c := ⟨_, rfl⟩
      go_upto_if 21 with (fail)
      go_cut [8] (fun t8 wx => t8 = B q ∧ wx = wr)
      case first =>
        cases cb with
        | true =>
          have n1 : (i : Int) < (key.length : Int) := of_decide_eq_true hcb
          have hgq : gb key i = q := by rw [HQ.out, if_pos (by omega)]
          clear hcb
          go_wp2_with fail
          go_meet
          case rel => exact ⟨by rw [← hgq]; try rfl, rfl⟩
        | false =>
          have n1 : ¬ (i : Int) < (key.length : Int) := of_decide_eq_false hcb
          have hgq : q = 0 := by rw [HQ.out, if_neg (by omega)]
          clear hcb
          go_wp2_with fail
          go_meet
          case rel => exact ⟨by rw [hgq]; try rfl, rfl⟩
      case rest =>
        obtain ⟨rfl, hw⟩ := hcut
        obtain rfl := hw.symm
        have hx1 : bits .xor .u8 (q.toNat : Int) 54 = ((xr q 0x36).toNat : Int) := bx8 q 0x36
        have hx2 : bits .xor .u8 (q.toNat : Int) 92 = ((xr q 0x5c).toNat : Int) := bx8 q 0x5c
        go_wp2_with (at_builtin; refine wpl_appW rfl (.tmp 25) (.tmp 28) rfl w.heap.size _ l rfl (HO.out.o1.below ((Below.refl _ _).alloc (Nat.le_refl _) _)) (.slice (some ⟨wr.heap.size, 0, none⟩) 1 1) [xr q 0x36] rfl (Row.slW (l := [xr q 0x36]) (t := 5) (Row.new wr _ _) (by simp)) (by have := HI.out; simp; omega) (by have := HO.out.bel.size; simp; omega) ?_)
        intro v5 w5 ho5 hg5 he5
        have HO5 := Lib.hid (HO.out.step ho5 hg5 he5)
        obtain ⟨a5, c5, rfl, _⟩ := ho5.slb
        clear ho5 hg5 he5
        go_wp2_with (at_builtin; refine wpl_appW rfl (.tmp 30) (.tmp 33) rfl w.heap.size _ m rfl (HO5.out.o2.below ((Below.refl _ _).alloc (Nat.le_refl _) _)) (.slice (some ⟨w5.heap.size, 0, none⟩) 1 1) [xr q 0x5c] rfl (Row.slW (l := [xr q 0x5c]) (t := 5) (Row.new w5 _ _) (by simp)) (by have := HI.out; simp; omega) (by have := HO5.out.bel.size; simp; omega) ?_)
        intro v6 w6 ho6 hg6 he6
        have HO6 := Lib.hid ((HO5.out.swap.step ho6 hg6 he6).swap)
        obtain ⟨a6, c6, rfl, _⟩ := ho6.slb
        clear ho6 hg6 he6
        go_wp2_with fail
        go_roundg (gk - 1)
        case measure => have := HI.out; omega
        case rel => exact ⟨i + 1, a5, a6, c5, c6, l ++ [xr q 0x36], m ++ [xr q 0x5c], by have := HI.out; omega, by go_num, by simp, by simp, HST.out.1, HST.out.2, HO6.out⟩
    · obtain rfl : i = 64 := by omega
      have i1 : ¬ ((64 : Nat) : Int) < 64 := by omega
      have hl6 : l = padK key 0x36 := by rw [hl, List.take_of_length_le (by rw [padK_len _ _ HK.out]; omega)]
      have hm6 : m = padK key 0x5c := by rw [hm, List.take_of_length_le (by rw [padK_len _ _ HK.out]; omega)]
      have hll : l.length = 64 := by rw [hl6, padK_len _ _ HK.out]
      have hml : m.length = 64 := by rw [hm6, padK_len _ _ HK.out]
      obtain ⟨z, hz⟩ : ∃ z, z = shaS (l ++ t) := ⟨_, rfl⟩
      have hzl : z.length = 32 := by rw [hz]; exact shaS_len _
      have HRES := Lib.hid (show shaS (m ++ z) = macS key t by rw [hz, hl6, hm6]; rfl)
      have hadd1 := add_W l t (by have := HT.out; omega)
      have hadd2 := add_W m z (by omega)
      have HS1 := Lib.hid (fun w' => show Calls Tryd.prog 72 #[S (l ++ t)] w' (fun e w'' => e = .returned (S z) ∧ Below w'.heap.size w' w'') by rw [hz]; exact rsum_any w' (l ++ t) (by have := HT.out; rw [List.length_append]; omega))
      have HS2 := Lib.hid (fun w' => show Calls Tryd.prog 72 #[S (m ++ z)] w' (fun e w'' => e = .returned (S (shaS (m ++ z))) ∧ Below w'.heap.size w' w'') from rsum_any w' (m ++ z) (by rw [List.length_append]; omega))
      have HO := Lib.hid hO
      clear hO hl hm hl6 hm6 hz hi h64
      go_upto_region 11 with (fail)
      refine wp_region_qtail (Below wr.drew.heap.size wr.drew) 7 (by kernel_rfl) (by kernel_rfl) (Below.refl _ _) ?_
      simp only [List.take_succ_cons, List.take_zero, List.drop_succ_cons, List.drop_zero]
      (first | go_big_quiet_skip | (go_big_quiet_want; go_big_quiet_op; first | go_big_quiet_on | (refine ⟨_, fun _ _ => rfl, ?_⟩; go_big_quiet_on)) | (go_big_quiet_want; apply qb_load1 _ _ rfl _ _ rfl; rotate_left 2; (focus (intro _; simp [go_sem]; done)); rotate_right 2; assumption; assumption; assumption; (simp only [Act.put, lS]; go_big_quiet_on)) | (go_big_quiet_want; apply qb_loadA _ _ rfl _ _ rfl (sz := 16); rotate_left 2; (focus (intro _; simp [go_sem]; done)); (focus (intro _; simp [go_sem]; done)); rotate_right 2; assumption; assumption; assumption; assumption; (simp only [Act.put, lS]; go_big_quiet_on)))
      go_big_quiet_want
      refine qb_conv 23 9 _ rfl 5 Tryd.underlying23 Tryd.underlying5 Tryd.underlying9 _ rfl m (fun w' h => HO.out.o2.slb.below ((Below.refl _ _).drew.trans h)) ?_
      (simp only [Act.put, lS]; go_big_quiet_on)
      (first | go_big_quiet_skip | (go_big_quiet_want; go_big_quiet_op; first | go_big_quiet_on | (refine ⟨_, fun _ _ => rfl, ?_⟩; go_big_quiet_on)) | (go_big_quiet_want; apply qb_load1 _ _ rfl _ _ rfl; rotate_left 2; (focus (intro _; simp [go_sem]; done)); rotate_right 2; assumption; assumption; assumption; (simp only [Act.put, lS]; go_big_quiet_on)) | (go_big_quiet_want; apply qb_loadA _ _ rfl _ _ rfl (sz := 16); rotate_left 2; (focus (intro _; simp [go_sem]; done)); (focus (intro _; simp [go_sem]; done)); rotate_right 2; assumption; assumption; assumption; assumption; (simp only [Act.put, lS]; go_big_quiet_on)))
      go_big_quiet_want
      refine qb_conv 23 9 _ rfl 5 Tryd.underlying23 Tryd.underlying5 Tryd.underlying9 _ rfl l (fun w' h => HO.out.o1.slb.below ((Below.refl _ _).drew.trans h)) ?_
      (simp only [Act.put, lS]; go_big_quiet_on)
      iterate 2 (first | go_big_quiet_skip | (go_big_quiet_want; go_big_quiet_op; first | go_big_quiet_on | (refine ⟨_, fun _ _ => rfl, ?_⟩; go_big_quiet_on)) | (go_big_quiet_want; apply qb_load1 _ _ rfl _ _ rfl; rotate_left 2; (focus (intro _; simp [go_sem]; done)); rotate_right 2; assumption; assumption; assumption; (simp only [Act.put, lS]; go_big_quiet_on)) | (go_big_quiet_want; apply qb_loadA _ _ rfl _ _ rfl (sz := 16); rotate_left 2; (focus (intro _; simp [go_sem]; done)); (focus (intro _; simp [go_sem]; done)); rotate_right 2; assumption; assumption; assumption; assumption; (simp only [Act.put, lS]; go_big_quiet_on)))
      (go_big_quiet_want; refine qb_call _ _ ?_ _ (fun w' _ => HS1.out w') (Nat.le_refl _) ?_; (focus (intro w; simp [go_sem]; done)); (simp only [Act.put, lS]; go_big_quiet_on))
      refine wpQuiet_nil ?_
      intro w7 hB7
      have HB7 := Lib.hid (HO.out.bel.drew.trans (hB7.mono HO.out.bel.size))
      clear hB7
      go_wp2_with fail
      refine (HS2.out _).mono ?_
      rintro e w8 ⟨rfl, hB8⟩
      rw [HRES.out]
      have HB8 := Lib.hid (HB7.out.trans (hB8.mono HB7.out.size))
      clear hB8
      go_wp2_with fail
      go_ret
      exact ⟨rfl, HB8.out⟩
end Go.Proofs.YtcfbiafedfkbhaaDoor

namespace Go.Proofs.YtcfbiafedfkbhaaDoor
open Go.RowKit
set_option linter.unusedVariables false
set_option linter.unusedSimpArgs false

def innS (k : Nat) (l : List UInt8) (pad : Nat) : List UInt8 := l ++ [UInt8.ofNat k] ++ List.replicate pad 0
def recS (sec : List UInt8) (n : Nat) (inn : List UInt8) : List UInt8 :=
  headS 23 (inn.length + 16) ++ sealB (expand (keyS sec)) (lastOf (keyS sec)) (hOf (keyS sec)) (nonS (ivS sec) n) inn (headS 23 (inn.length + 16))
theorem innS_len (k : Nat) (l : List UInt8) (pad : Nat) : (innS k l pad).length = l.length + 1 + pad := by unfold innS; simp; omega
theorem wpl_appZ {w : World} {ops : Array Oper} {rest : List Oper} {o : Oper} {a : Act} {Q : Exit → Act → World → Prop} (hgd : o.guard = none) (s x : Operand)
    (ho : o.op = .call { callee := .builtin .append, args := #[s, x], argTypes := #[23, 3] })
    (B0 : Nat) (v : Value) (l : List UInt8) (hs : a.eval s = v) (h : OwnW w B0 v l) (hl : 0 < l.length) (k : Nat) (hx : a.eval x = .int .i64 (k : Int)) (hlen : l.length + k ≤ 1000000) (hbase : B0 ≤ w.heap.size)
    (hK : ∀ v' w', OwnW w' B0 v' (l ++ List.replicate k 0) → w.grownBy w' v.ownBlock → wpList Tryd.prog ops Q rest (a.put o.dst v') w') : wpList Tryd.prog ops Q (o :: rest) a w :=
  wpList_plain hgd fun _ hk => by
    obtain ⟨v', w', hr, h1, h2⟩ := run_appZ w B0 v l h hl k hlen hbase o.type
    unfold Oper.wp execOp
    simp only [ho, resolve, invoke, builtin, Sem.run_bind, Sem.run_pure, Result.andThen_ok, List.map_toArray, List.map_cons, List.map_nil, hs, hx, hr]
    exact hk _ _ (hK v' w' h1 h2)
theorem Row.neT {w : World} {g k : Nat} {t u : TypeId} {cs ds : Array Value} (h : Row w g t cs) (h' : Row w k u ds) (ht : u ≠ t) : k ≠ g := fun e => by
  have h1 := h.heap
  rw [← e, h'.heap] at h1
  simp only [Option.some.injEq, Obj.cells.injEq] at h1
  exact ht h1.2.1
theorem BoxAt.self {w w' : World} {g : Nat} {cs : Array Value} {p : Value} {W h : List UInt8} {last : Nat} (b : BoxAt 87 109 84 w p W last h) (hr : Row w g 68 cs) (hg : w.grownBy w' (some g)) : BoxAt 87 109 84 w' p W last h := by
  obtain ⟨xb, kp, e1, e2, ⟨kb, kk, cap, cur, k1, k2, k3, k4⟩, e4⟩ := b
  have ex : ∀ (k : Nat) (t : TypeId) (ds : Array Value), Row w k t ds → t ≠ 68 → Row w' k t ds := fun k t ds h ht => (row_congr (hg.block k h.lt (fun e => hr.neT h ht (Option.some.inj e)))).trans h
  exact ⟨xb, kp, e1, ex _ _ _ e2 (by decide), ⟨kb, kk, cap, cur, k1, ex _ _ _ k2 (by decide), ex _ _ _ k3 (by decide), k4⟩, e4⟩
theorem HalfW.below {w w' : World} {g n : Nat} {sec : List UInt8} (h : HalfW w g sec n) (hb : Below w.heap.size w w') : HalfW w' g sec n := by
  obtain ⟨p, h1, h2⟩ := h
  exact ⟨p, h1.below hb h1.lt, h2.below hb⟩
theorem HalfW.lt {w : World} {g n : Nat} {sec : List UInt8} (h : HalfW w g sec n) : g < w.heap.size := let ⟨_, h1, _⟩ := h; h1.lt
theorem hfC_s13 (p : Value) (iv : List UInt8) (n m : Nat) (h : iv.length = 12) : (hfC p iv n).setIfInBounds 13 (.int .i64 (m : Int)) = hfC p iv m := by
  unfold hfC
  apply Array.toList_inj.1
  rw [Array.toList_setIfInBounds]
  show (p :: (iv.map B ++ [.int .i64 (n : Int)])).set 13 _ = p :: (iv.map B ++ [.int .i64 (m : Int)])
  rw [List.set_cons_succ, List.set_append_right _ _ (by rw [List.length_map, h]; decide), List.length_map, h]
  rfl
theorem HalfW.next {w : World} {g n : Nat} {sec : List UInt8} (h : HalfW w g sec n) (m : Nat) : HalfW (w.setCell ⟨g, 13, none⟩ (.int .i64 (m : Int))) g sec m := by
  obtain ⟨p, h1, h2⟩ := h
  refine ⟨p, by have := h1.set 13 (.int .i64 (m : Int)); rwa [hfC_s13 _ _ _ _ (ivS_len sec)] at this, h2.self h1 (grownBy_setW w g 13 _)⟩
theorem below_grown {w w' : World} (h : Below w.heap.size w w') (r : Option Nat) : w.grownBy w' r := ⟨h.os, h.tape, h.output, h.size, fun k hk _ => h.block k hk⟩
theorem OwnW.of_row {w : World} {B0 b : Nat} {l : List UInt8} (h : Row w b 5 (AB l)) (hb : B0 ≤ b) (hl : l.length ≤ 1000000) : OwnW w B0 (.slice (some ⟨b, 0, none⟩) l.length l.length) l :=
  .inr ⟨b, 0, l.length, AB l, rfl, hb, h, Nat.le_refl _, by rw [AB_size]; omega, by unfold maxLen; omega, fun i hi => by rw [Nat.zero_add]; exact AB_get l i hi⟩
theorem OwnW.ge {w : World} {B0 : Nat} {v : Value} {l : List UInt8} (h : OwnW w B0 v l) : ∀ k, v.ownBlock = some k → B0 ≤ k := fun k e => by
  rcases h.row with e1 | ⟨b, cs, e1, hb1, _⟩
  · rw [e1] at e; cases e
  · rw [e1] at e; obtain rfl := Option.some.inj e; exact hb1
set_option maxRecDepth 100000 in
set_option maxHeartbeats 4000000 in
theorem recSeal_any (w : World) (g n k pad : Nat) (sec l : List UInt8) (v : Value) (h : HalfW w g sec n) (hS : SlB w v l) (hk : 21 ≤ k ∧ k ≤ 23) (hp : l.length + pad ≤ 16384) (hn : n < 1000) :
    Calls Tryd.prog 9 #[.pointer (some ⟨g, 0, none⟩), .int .i64 (k : Int), v, .int .i64 (pad : Int)] w fun e w' =>
      ∃ v', e = .returned (.tuple #[v', .int .i64 0]) ∧ OwnW w' w.heap.size v' (recS sec n (innS k l pad)) ∧ HalfW w' g sec (n + 1) ∧ w.grownBy w' (some g) := by
  obtain ⟨a, c, rfl, _⟩ := id hS
  obtain ⟨p, hr, hbx⟩ := id h
  obtain ⟨xb, kp, rfl, hbx'⟩ := id hbx
  clear hbx'
  have HH := Lib.hid h
  have HS := Lib.hid hS
  have hlt := hr.lt
  have hcn : w.cell? ⟨g, 13, none⟩ = some (.int .i64 (n : Int)) := (hr.cell 13).trans (hfC_13 _ _ n (ivS_len sec))
  have hkb : kindB (k : Int) = true := by unfold kindB; simp; omega
  have HKB := Lib.hid hkb
  have m1 : ¬ (pad : Int) < 0 := by omega
  have m2 : ¬ ((16384 : Int) - (l.length : Int)) < (pad : Int) := by omega
  have m3 : ¬ (1000 : Int) ≤ (n : Int) := by omega
  have m4 : (l.length : Int) ≤ 16384 := by omega
  have u1 := u8wr k (k : Int) rfl
  obtain ⟨x, hx⟩ : ∃ x, x = UInt8.ofNat k := ⟨_, rfl⟩
  rw [← hx] at u1
  have HX := Lib.hid hx
  have HP := Lib.hid (⟨hp, hk, hn⟩ : _ ∧ _ ∧ _)
  clear h hS hbx hkb hx hp hk hn
  go_enter Tryd.func9, Tryd.ntmps9
  go_upto_region 7 with (go_at_call 29; refine (isKind_any _ _).mono ?_; rintro e w' ⟨rfl, rfl⟩; rw [HKB.out])
  clear m1 m2 m3
  have HR := Lib.hid hr
  clear hr hcn
  go_wp2_with fail
  refine (clone_any (.slice a l.length c) l w HS.out (by omega)).mono ?_
  rintro e w1 ⟨v1, rfl, hb1, hB1⟩
  obtain ⟨a1, c1, rfl, _⟩ := hb1.slb
  have HB1 := Lib.hid (⟨OwnW.of_buf hb1, hB1⟩ : _ ∧ _)
  clear hb1 hB1
  have HO1 := Lib.hid (HB1.out.1.below ((Below.refl _ w1).alloc (Nat.le_refl _) (.cells #[.int .u8 (x.toNat : Int)] 5)))
  have HSX := Lib.hid (Row.slW (l := [x]) (t := 5) (Row.new w1 _ _) (by simp))
  have hs1 : w.heap.size ≤ w1.heap.size := HB1.out.2.size
  go_wp2_with (at_builtin; refine wpl_appW rfl (.tmp 38) (.tmp 41) rfl w.heap.size (.slice a1 l.length c1) l rfl HO1.out (.slice (some ⟨w1.heap.size, 0, none⟩) 1 1) [x] rfl HSX.out (by simp; omega) (by simp; omega) ?_)
  intro v2 w2 ho2 hg2 _
  obtain ⟨a2, c2, rfl, _⟩ := ho2.slb
  have hB2 : Below w.heap.size w w2 := (HB1.out.2.alloc HB1.out.2.size (.cells #[.int .u8 (x.toNat : Int)] 5)).grown hg2 (by simp; omega) (fun j e => HB1.out.1.ge j e)
  obtain ⟨L2, hL2⟩ : ∃ L, L = l ++ [x] := ⟨_, rfl⟩
  have h2l : L2.length = l.length + 1 := by rw [hL2]; simp
  rw [← hL2] at ho2 ⊢
  have hs2 : w.heap.size ≤ w2.heap.size := hB2.size
  have HO2 := Lib.hid ho2
  have HB2 := Lib.hid hB2
  have HL2 := Lib.hid (⟨hL2, h2l⟩ : _ ∧ _)
  clear ho2 hg2 hB2 hL2 h2l hs1 HO1 HSX
  go_wp2_with (at_builtin; refine wpl_appZ rfl (.tmp 42) (.tmp 43) rfl w.heap.size (.slice a2 L2.length c2) L2 rfl HO2.out (by rw [HL2.out.2]; omega) pad rfl (by have := HP.out.1; rw [HL2.out.2]; omega) hs2 ?_)
  intro v3 w3 ho3 hg3
  obtain ⟨a3, c3, rfl, _⟩ := ho3.slb
  have hB3 : Below w.heap.size w w3 := HB2.out.grown hg3 hs2 (fun j e => HO2.out.ge j e)
  obtain ⟨L3, hL3⟩ : ∃ L, L = L2 ++ List.replicate pad 0 := ⟨_, rfl⟩
  rw [← hL3] at ho3 ⊢
  have hI : L3 = innS k l pad := by rw [hL3, HL2.out.1, innS, ← HX.out]
  have h3l : L3.length ≤ 16385 := by rw [hI, innS_len]; have := HP.out.1; omega
  obtain ⟨N, hN⟩ : ∃ N, N = L3.length + 16 := ⟨_, rfl⟩
  have sN : (L3.length : Int) + 16 = (N : Int) := by omega
  have n1 : (L3.length : Int) ≤ 16385 := by omega
  have hs3 : w.heap.size ≤ w3.heap.size := hB3.size
  have HO3 := Lib.hid ho3
  have HB3 := Lib.hid hB3
  have HI := Lib.hid (⟨hI, hN, h3l⟩ : _ ∧ _ ∧ _)
  clear ho3 hg3 hB3 hL3 hI hN h3l hs2
  go_wp2_with fail
  refine (head_any w3 23 N (by decide) (by have := HI.out.2; omega)).mono ?_
  rintro e w4 ⟨rfl, hr4, hB4⟩
  have HR4 := Lib.hid hr4
  have HB4 := Lib.hid (HB3.out.trans (hB4.mono hs3))
  have HO4 := Lib.hid (HO3.out.below hB4)
  have hs4 : w3.heap.size < w4.heap.size := hr4.lt
  have HH4 := Lib.hid (HH.out.below HB4.out)
  have hrg := HR.out.below HB4.out hlt
  have hg4 := hrg.lt
  have hc0 : (hfC (.pointer (some ⟨xb, 0, none⟩)) (ivS sec) n)[0]? = some (.pointer (some ⟨xb, 0, none⟩)) := rfl
  have HNC := Lib.hid (fun (w' : World) (hw' : Below w4.heap.size w4 w') => nonce_any w' g n sec (HH4.out.below hw') (Nat.le_of_lt HP.out.2.2))
  obtain ⟨NC, hNC⟩ : ∃ x, x = nonS (ivS sec) n := ⟨_, rfl⟩
  rw [← hNC] at HNC
  have HNCl := Lib.hid (⟨hNC, by rw [hNC]; exact nonS_len _ _ (ivS_len sec)⟩ : _ ∧ NC.length = 12)
  clear hr4 hB4 hNC
  go_wp2_with fail
  refine wp_region_qtail (Below w4.heap.size w4) 8 (by kernel_rfl) (by kernel_rfl) (Below.refl _ _).drew ?_
  simp only [List.take_succ_cons, List.take_zero, List.drop_succ_cons, List.drop_zero]
  iterate 5 (first | go_big_quiet_skip | (go_big_quiet_want; go_big_quiet_op; first | go_big_quiet_on | (refine ⟨_, fun _ _ => rfl, ?_⟩; go_big_quiet_on)) | (go_big_quiet_want; apply qb_load1 _ _ rfl _ _ rfl; rotate_left 2; (focus (intro _; simp [go_sem]; done)); rotate_right 2; assumption; assumption; assumption; (simp only [Act.put, lS]; go_big_quiet_on)) | (go_big_quiet_want; apply qb_loadA _ _ rfl _ _ rfl (sz := 16); rotate_left 2; (focus (intro _; simp [go_sem]; done)); (focus (intro _; simp [go_sem]; done)); rotate_right 2; assumption; assumption; assumption; assumption; (simp only [Act.put, lS]; go_big_quiet_on)))
  (go_big_quiet_want; refine qb_call _ _ ?_ _ (fun w' hw' => HNC.out w' hw') (Nat.le_refl _) ?_; (focus (intro w; simp [go_sem]; done)); (simp only [Act.put, lS]; go_big_quiet_on))
  iterate 2 (first | go_big_quiet_skip | (go_big_quiet_want; go_big_quiet_op; first | go_big_quiet_on | (refine ⟨_, fun _ _ => rfl, ?_⟩; go_big_quiet_on)) | (go_big_quiet_want; apply qb_load1 _ _ rfl _ _ rfl; rotate_left 2; (focus (intro _; simp [go_sem]; done)); rotate_right 2; assumption; assumption; assumption; (simp only [Act.put, lS]; go_big_quiet_on)) | (go_big_quiet_want; apply qb_loadA _ _ rfl _ _ rfl (sz := 16); rotate_left 2; (focus (intro _; simp [go_sem]; done)); (focus (intro _; simp [go_sem]; done)); rotate_right 2; assumption; assumption; assumption; assumption; (simp only [Act.put, lS]; go_big_quiet_on)))
  refine wpQuiet_nil ?_
  intro w5 hw5
  have HB5 := Lib.hid (HB4.out.trans (hw5.mono (Nat.le_trans hs3 (Nat.le_of_lt hs4))))
  have HO5 := Lib.hid (HO4.out.below hw5)
  have HR5 := Lib.hid (HR4.out.below hw5 hs4)
  have HH5 := Lib.hid (HH4.out.below hw5)
  have hrg5 := hrg.below hw5 hg4
  have hg5 := hrg5.lt
  obtain ⟨p5, hp5, hbx5⟩ := HH5.out
  have hp5' : p5 = .pointer (some ⟨xb, 0, none⟩) := by
    have h1 := hp5.cell 0
    rw [hrg5.cell, hc0, hfC_0] at h1
    exact (Option.some.inj h1).symm
  subst hp5'
  have HBX5 := Lib.hid hbx5
  have hs5 := hw5.size
  have HT5 := Lib.hid (show SlB w5 (.slice (some ⟨w3.heap.size, 0, none⟩) 5 5) (headS 23 N) from HR5.out.slW (l := headS 23 N) (Nat.le_of_ble_eq_true rfl))
  clear hrg hg4 hw5 hp5 hbx5 HNC
  go_wp2_with fail
  refine (gseal_any _ (expand (keyS sec)) (lastOf (keyS sec)) (hOf (keyS sec)) NC (.slice a3 L3.length c3) (.slice (some ⟨w3.heap.size, 0, none⟩) 5 5) L3 (headS 23 N) w5 HBX5.out HNCl.out.2 HO5.out.slb (by have := HI.out.2.2; omega) HT5.out (Nat.le_of_ble_eq_true rfl)).mono ?_
  rintro e w6 ⟨v6, rfl, hb6, hB6⟩
  obtain ⟨a6, c6, rfl, _⟩ := hb6.slb
  obtain ⟨T, hT⟩ : ∃ T, T = sealB (expand (keyS sec)) (lastOf (keyS sec)) (hOf (keyS sec)) NC L3 (headS 23 N) := ⟨_, rfl⟩
  have hTl : T.length = L3.length + 16 := by rw [hT]; exact sealB_len _ _ _ _ _ _
  rw [← hT] at hb6 ⊢
  have HT := Lib.hid (⟨hT, hTl⟩ : _ ∧ _)
  have HB6 := Lib.hid (HB5.out.trans (hB6.mono (Nat.le_trans hs3 (Nat.le_trans (Nat.le_of_lt hs4) hs5))))
  have HO6 := Lib.hid (OwnW.of_buf hb6)
  have hrg6 := hrg5.below hB6 hg5
  have HR6 := Lib.hid (HR5.out.below hB6 HR5.out.lt)
  have hg6 := hrg6.lt
  have hcn : w6.cell? ⟨g, 13, none⟩ = some (.int .i64 (n : Int)) := (hrg6.cell 13).trans (hfC_13 _ _ n (ivS_len sec))
  have n2 : (n : Int) < 1000 := by have := HP.out.2.2; omega
  have sn : (n : Int) + 1 = ((n + 1 : Nat) : Int) := by omega
  obtain ⟨n', hn'⟩ : ∃ m, m = n + 1 := ⟨_, rfl⟩
  rw [← hn'] at sn
  have HN' := Lib.hid hn'
  have hgw : g < w3.heap.size := by omega
  have HG3 := Lib.hid (⟨hgw, hs5, hg5⟩ : _ ∧ _ ∧ _)
  clear hb6 hB6 hT hTl hrg5 hn' hg5 hs5
  go_upto_region 11 with (fail)
  obtain ⟨w7, hw7⟩ : ∃ W, W = w6.setCell ⟨g, 13, none⟩ (.int .i64 (n' : Int)) := ⟨_, rfl⟩
  rw [← hw7]
  have hne : g ≠ w3.heap.size := Nat.ne_of_lt HG3.out.1
  have HR7 := Lib.hid (show Row w7 g 68 (hfC (.pointer (some ⟨xb, 0, none⟩)) (ivS sec) (n + 1)) by
    rw [hw7]
    have := hrg6.set 13 (.int .i64 (n' : Int))
    rw [hfC_s13 _ _ _ _ (ivS_len sec)] at this
    rw [← HN'.out]
    exact this)
  have HO7 := Lib.hid (show OwnW w7 w5.heap.size (.slice a6 T.length c6) T by
    rw [hw7]
    refine HO6.out.congr fun j hj => heap_setCell_other w6 _ j _ (fun e => ?_)
    have := HO6.out.ge j hj
    have := HG3.out.2.2
    have e' : j = g := e
    omega)
  have HT7 := Lib.hid (show OwnW w7 w.heap.size (.slice (some ⟨w3.heap.size, 0, none⟩) 5 5) (headS 23 N) by
    rw [hw7]
    exact OwnW.of_row (l := headS 23 N) (HR6.out.setOther _ _ (fun e => hne e.symm)) hs3 (Nat.le_of_ble_eq_true rfl))
  have HG7 := Lib.hid (show w.grownBy w7 (some g) by
    rw [hw7]
    exact (below_grown HB6.out (some g)).trans (grownBy_setW w6 g 13 _))
  have hs7 : w.heap.size ≤ w7.heap.size := HG7.out.size
  clear hw7 hcn hrg6 hg6 hne
  go_wp2_with (at_builtin; refine wpl_appW rfl (.tmp 65) (.tmp 66) rfl w.heap.size (.slice (some ⟨w3.heap.size, 0, none⟩) 5 5) (headS 23 N) rfl HT7.out (.slice a6 T.length c6) T rfl HO7.out.slb (by have h1 : (headS 23 N).length = 5 := rfl; have := HT.out.2; have := HI.out.2.2; omega) hs7 ?_)
  intro v8 w8 ho8 hg8 _
  obtain ⟨a8, c8, rfl, _⟩ := ho8.slb
  have HO8 := Lib.hid ho8
  have HG8 := Lib.hid (HG7.out.andThen hg8 (fun j e => .inl (HT7.out.ge j e)))
  have HR8 := Lib.hid (show Row w8 g 68 (hfC (.pointer (some ⟨xb, 0, none⟩)) (ivS sec) (n + 1)) from (row_congr (hg8.block g HR7.out.lt (fun e => by
    have e' : g = w3.heap.size := Option.some.inj e
    have := HG3.out.1
    omega))).trans HR7.out)
  clear ho8 hg8
  go_wp2_with fail
  go_ret2
  refine ⟨.slice a8 (headS 23 N ++ T).length c8, by rfl, ?_, ?_, HG8.out⟩
  · have e : headS 23 N ++ T = recS sec n (innS k l pad) := by rw [recS, ← HI.out.1, ← HI.out.2.1, ← HNCl.out.1, ← HT.out.1]
    rw [← e]
    exact HO8.out
  · obtain ⟨p0, hp0, hb0⟩ := HH.out
    have e0 : p0 = .pointer (some ⟨xb, 0, none⟩) := by
      have h1 := hp0.cell 0
      rw [HR.out.cell, hc0, hfC_0] at h1
      exact (Option.some.inj h1).symm
    subst e0
    exact ⟨_, HR8.out, hb0.self hp0 HG8.out⟩
end Go.Proofs.YtcfbiafedfkbhaaDoor
