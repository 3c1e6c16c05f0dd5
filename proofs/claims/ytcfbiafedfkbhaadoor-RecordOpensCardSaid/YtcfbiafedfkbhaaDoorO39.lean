/- Part of the proof: RefMac. No conditions of its own. -/
import Derived.ArgAppend
import Derived.Below
import Derived.BigQuiet
import Derived.BigRegion
import Derived.ChangeOld
import Derived.Deep.CutBlock
import Derived.Deep.DeepCutAuto
import Derived.Deep.Draws
import Derived.Deep.LoopGhost
import Derived.Deep.Quiet
import Derived.Deep.QuietTactic
import Derived.Deep.RegionHeld3
import Derived.Deep.RegionLaw
import Derived.Laws.AppendOwnNone
import Derived.Laws.Bits64
import Derived.Laws.BitsAllLaws
import Derived.Laws.BytesArg
import Derived.Laws.CopyOwn
import Derived.Laws.MakeOwn
import Derived.Lib.AppendStr
import Derived.Lib.AppendZerosOnto
import Derived.Lib.BufferMore
import Derived.Lib.ConvBytes
import Derived.Lib.Hide
import Derived.LoopIn
import Derived.LoopNIn
import Derived.Maps.AppendAt
import Derived.OpenShut
import Derived.OrdersIn
import Derived.OwnWalkIn
import Derived.ProofKit
import Derived.RangeFuncBound
import Derived.RangeFuncBox
import Derived.RangeFuncCalls
import Derived.RangeFuncLeaves
import Derived.RangeFuncNested
import Derived.Shelf.Abstract
import Derived.ShutString
import Derived.StillTail
import Derived.TacticsIn
import Derived.TacticsInMore
import Derived.Test.YtcfbiafedfkbhaaDoorProg
import Derived.WalkKit
import Derived.WalkSpells
import Derived.Test.YtcfbiafedfkbhaaDoorO12
import Derived.Test.YtcfbiafedfkbhaaDoorO38
namespace Go.Proofs.YtcfbiafedfkbhaaDoor
open Go.RowKit
set_option linter.unusedVariables false
set_option linter.unusedSimpArgs false

structure OfSt (w wr : World) (v1 v2 : Value) (l m : List UInt8) : Prop where
  o1 : OwnW wr w.heap.size v1 l
  o2 : OwnW wr w.heap.size v2 m
  ap : ∀ k, v1.ownBlock = some k → v2.ownBlock ≠ some k
  bel : Below w.heap.size w wr
theorem OfSt.swap {w wr : World} {v1 v2 : Value} {l m : List UInt8} (k : OfSt w wr v1 v2 l m) : OfSt w wr v2 v1 m l := ⟨k.o2, k.o1, fun b h1 h2 => k.ap b h2 h1, k.bel⟩
theorem OwnW.ltA {w : World} {B0 : Nat} {v : Value} {l : List UInt8} (h : OwnW w B0 v l) : ∀ k, v.ownBlock = some k → k < w.heap.size ∧ B0 ≤ k := fun k e => by
  rcases h.row with h | ⟨b', _, h, hb, hr⟩
  · rw [h] at e; cases e
  · rw [h] at e; obtain rfl := Option.some.inj e; exact ⟨hr.lt, hb⟩
theorem OfSt.step {w wr w1 : World} {v1 v2 v' : Value} {l m l' : List UInt8} {o : Obj} (k : OfSt w wr v1 v2 l m) (ho : OwnW w1 w.heap.size v' l') (hg : (wr.alloc o).grownBy w1 v1.ownBlock)
    (he : v'.ownBlock = v1.ownBlock ∨ v'.ownBlock = some (wr.heap.size + 1)) : OfSt w w1 v' v2 l' m := by
  have h2 : ∀ b, v2.ownBlock = some b → b < wr.heap.size := fun b e => (k.o2.ltA b e).1
  refine ⟨ho, k.o2.congr fun b hb => ?_, fun b e1 e2 => ?_, (k.bel.alloc k.bel.size o).grown hg (by have := k.bel.size; simp; omega) (fun b e => (k.o1.ltA b e).2)⟩
  · have hlt := h2 b hb
    rw [hg.block b (by simp; omega) (fun e => k.ap b e.symm hb)]
    exact ((Below.refl _ wr).alloc (Nat.le_refl _) o).block b hlt
  · rcases he with he | he
    · rw [he] at e1; exact k.ap b e1 e2
    · rw [he] at e1
      obtain rfl := Option.some.inj e1
      have := h2 _ e2
      omega
theorem padK_get (key : List UInt8) (x : UInt8) (i : Nat) (hk : key.length ≤ 64) (hi : i < 64) : (padK key x).take (i + 1) = (padK key x).take i ++ [xr (if i < key.length then gb key i else 0) x] := by
  have hl := padK_len key x hk
  rw [List.take_add_one, List.getElem?_eq_getElem (by omega)]
  congr 1
  simp only [Option.toList_some, List.cons.injEq, and_true]
  unfold padK
  rw [List.getElem_map, List.getElem_append]
  split
  · next h => simp [gb, h]
  · next h => simp
set_option maxRecDepth 100000 in
set_option maxHeartbeats 8000000 in
theorem rof_any (w : World) (key t : List UInt8) (hk : key.length ≤ 64) (ht : t.length ≤ 900000) :
    Calls Tryd.prog 53 #[S key, S t] w fun e w' => e = .returned (S (macS key t)) ∧ Below w.heap.size w w' := by
  have k1 : ¬ (64 : Int) < (key.length : Int) := by omega
  have HK := Lib.hid hk
  have HT := Lib.hid ht
  clear hk ht
  go_enter Tryd.func53, Tryd.ntmps53
  go_wp2_with fail
  clear k1
  go_loopg [5, 6, 7] 64 (fun gk t5 t6 t7 wx => ∃ (i : Nat) (a b : Option Addr) (c d : Nat) (l m : List UInt8), gk + i = 64 ∧ t7 = .int .i64 (i : Int) ∧ t5 = .slice a l.length c ∧ t6 = .slice b m.length d ∧ l = (padK key 0x36).take i ∧ m = (padK key 0x5c).take i ∧ OfSt w wx (.slice a l.length c) (.slice b m.length d) l m)
  case atStart => exact ⟨0, none, none, 0, 0, [], [], by omega, rfl, rfl, rfl, rfl, rfl, OwnW.nil _ _, OwnW.nil _ _, (fun k h => by cases h), Below.refl _ _⟩
  case round =>
    obtain ⟨i, a, b, c, d, l, m, hi, rfl, rfl, rfl, hl, hm, hO⟩ := hrel
    by_cases h64 : i < 64
    · have i1 : (i : Int) < 64 := by omega
      have i0 : (0 : Int) ≤ (i : Int) := by omega
      have hll : l.length ≤ 64 := by rw [hl, List.length_take]; omega
      have hml : m.length ≤ 64 := by rw [hm, List.length_take]; omega
      obtain ⟨q, hq⟩ : ∃ q, q = (if i < key.length then gb key i else 0) := ⟨_, rfl⟩
      have HST := Lib.hid (show l ++ [xr q 0x36] = (padK key 0x36).take (i + 1) ∧ m ++ [xr q 0x5c] = (padK key 0x5c).take (i + 1) from ⟨by rw [hl, hq, padK_get _ _ _ HK.out h64], by rw [hm, hq, padK_get _ _ _ HK.out h64]⟩)
      have HO := Lib.hid hO
      have HI := Lib.hid (⟨hi, h64, hll, hml⟩ : _ ∧ _ ∧ _ ∧ _)
      have HQ := Lib.hid hq
      clear hO hi h64 hl hm hll hml hq
      obtain ⟨cb, hcb⟩ : ∃ c, decide ((i : Int) < (key.length : Int)) = c := ⟨_, rfl⟩
      go_upto_if 21 with (fail)
      go_cut [8] (fun t8 wx => t8 = B q ∧ wx = wr)
      case first =>
        cases cb with
        | true =>
          have n1 : (i : Int) < (key.length : Int) := of_decide_eq_true hcb
          have hgq : gb key i = q := by rw [HQ.out, if_pos (by omega)]
          clear hcb
          go_wp2_with fail
          go_meet
          case rel => exact ⟨by rw [← hgq]; try rfl, rfl⟩
        | false =>
          have n1 : ¬ (i : Int) < (key.length : Int) := of_decide_eq_false hcb
          have hgq : q = 0 := by rw [HQ.out, if_neg (by omega)]
          clear hcb
          go_wp2_with fail
          go_meet
          case rel => exact ⟨by rw [hgq]; try rfl, rfl⟩
      case rest =>
        obtain ⟨rfl, hw⟩ := hcut
        obtain rfl := hw.symm
        have hx1 : bits .xor .u8 (q.toNat : Int) 54 = ((xr q 0x36).toNat : Int) := bx8 q 0x36
        have hx2 : bits .xor .u8 (q.toNat : Int) 92 = ((xr q 0x5c).toNat : Int) := bx8 q 0x5c
        go_wp2_with (at_builtin; refine wpl_appW rfl (.tmp 25) (.tmp 28) rfl w.heap.size _ l rfl (HO.out.o1.below ((Below.refl _ _).alloc (Nat.le_refl _) _)) (.slice (some ⟨wr.heap.size, 0, none⟩) 1 1) [xr q 0x36] rfl (Row.slW (l := [xr q 0x36]) (t := 5) (Row.new wr _ _) (by simp)) (by have := HI.out; simp; omega) (by have := HO.out.bel.size; simp; omega) ?_)
        intro v5 w5 ho5 hg5 he5
        have HO5 := Lib.hid (HO.out.step ho5 hg5 he5)
        obtain ⟨a5, c5, rfl, _⟩ := ho5.slb
        clear ho5 hg5 he5
        go_wp2_with (at_builtin; refine wpl_appW rfl (.tmp 30) (.tmp 33) rfl w.heap.size _ m rfl (HO5.out.o2.below ((Below.refl _ _).alloc (Nat.le_refl _) _)) (.slice (some ⟨w5.heap.size, 0, none⟩) 1 1) [xr q 0x5c] rfl (Row.slW (l := [xr q 0x5c]) (t := 5) (Row.new w5 _ _) (by simp)) (by have := HI.out; simp; omega) (by have := HO5.out.bel.size; simp; omega) ?_)
        intro v6 w6 ho6 hg6 he6
        have HO6 := Lib.hid ((HO5.out.swap.step ho6 hg6 he6).swap)
        obtain ⟨a6, c6, rfl, _⟩ := ho6.slb
        clear ho6 hg6 he6
        go_wp2_with fail
        go_roundg (gk - 1)
        case measure => have := HI.out; omega
        case rel => exact ⟨i + 1, a5, a6, c5, c6, l ++ [xr q 0x36], m ++ [xr q 0x5c], by have := HI.out; omega, by go_num, by simp, by simp, HST.out.1, HST.out.2, HO6.out⟩
    · obtain rfl : i = 64 := by omega
      have i1 : ¬ ((64 : Nat) : Int) < 64 := by omega
      have hl6 : l = padK key 0x36 := by rw [hl, List.take_of_length_le (by rw [padK_len _ _ HK.out]; omega)]
      have hm6 : m = padK key 0x5c := by rw [hm, List.take_of_length_le (by rw [padK_len _ _ HK.out]; omega)]
      have hll : l.length = 64 := by rw [hl6, padK_len _ _ HK.out]
      have hml : m.length = 64 := by rw [hm6, padK_len _ _ HK.out]
      obtain ⟨z, hz⟩ : ∃ z, z = shaS (l ++ t) := ⟨_, rfl⟩
      have hzl : z.length = 32 := by rw [hz]; exact shaS_len _
      have HRES := Lib.hid (show shaS (m ++ z) = macS key t by rw [hz, hl6, hm6]; rfl)
      have hadd1 := add_W l t (by have := HT.out; omega)
      have hadd2 := add_W m z (by omega)
      have HS1 := Lib.hid (fun w' => show Calls Tryd.prog 72 #[S (l ++ t)] w' (fun e w'' => e = .returned (S z) ∧ Below w'.heap.size w' w'') by rw [hz]; exact rsum_any w' (l ++ t) (by have := HT.out; rw [List.length_append]; omega))
      have HS2 := Lib.hid (fun w' => show Calls Tryd.prog 72 #[S (m ++ z)] w' (fun e w'' => e = .returned (S (shaS (m ++ z))) ∧ Below w'.heap.size w' w'') from rsum_any w' (m ++ z) (by rw [List.length_append]; omega))
      have HO := Lib.hid hO
      clear hO hl hm hl6 hm6 hz hi h64
      go_upto_region 11 with (fail)
      refine wp_region_qtail (Below wr.drew.heap.size wr.drew) 7 (by kernel_rfl) (by kernel_rfl) (Below.refl _ _) ?_
      simp only [List.take_succ_cons, List.take_zero, List.drop_succ_cons, List.drop_zero]
      (first | go_big_quiet_skip | (go_big_quiet_want; go_big_quiet_op; first | go_big_quiet_on | (refine ⟨_, fun _ _ => rfl, ?_⟩; go_big_quiet_on)) | (go_big_quiet_want; apply qb_load1 _ _ rfl _ _ rfl; rotate_left 2; (focus (intro _; simp [go_sem]; done)); rotate_right 2; assumption; assumption; assumption; (simp only [Act.put, lS]; go_big_quiet_on)) | (go_big_quiet_want; apply qb_loadA _ _ rfl _ _ rfl (sz := 16); rotate_left 2; (focus (intro _; simp [go_sem]; done)); (focus (intro _; simp [go_sem]; done)); rotate_right 2; assumption; assumption; assumption; assumption; (simp only [Act.put, lS]; go_big_quiet_on)))
      go_big_quiet_want
      refine qb_conv 23 9 _ rfl 5 Tryd.underlying23 Tryd.underlying5 Tryd.underlying9 _ rfl m (fun w' h => HO.out.o2.slb.below ((Below.refl _ _).drew.trans h)) ?_
      (simp only [Act.put, lS]; go_big_quiet_on)
      (first | go_big_quiet_skip | (go_big_quiet_want; go_big_quiet_op; first | go_big_quiet_on | (refine ⟨_, fun _ _ => rfl, ?_⟩; go_big_quiet_on)) | (go_big_quiet_want; apply qb_load1 _ _ rfl _ _ rfl; rotate_left 2; (focus (intro _; simp [go_sem]; done)); rotate_right 2; assumption; assumption; assumption; (simp only [Act.put, lS]; go_big_quiet_on)) | (go_big_quiet_want; apply qb_loadA _ _ rfl _ _ rfl (sz := 16); rotate_left 2; (focus (intro _; simp [go_sem]; done)); (focus (intro _; simp [go_sem]; done)); rotate_right 2; assumption; assumption; assumption; assumption; (simp only [Act.put, lS]; go_big_quiet_on)))
      go_big_quiet_want
      refine qb_conv 23 9 _ rfl 5 Tryd.underlying23 Tryd.underlying5 Tryd.underlying9 _ rfl l (fun w' h => HO.out.o1.slb.below ((Below.refl _ _).drew.trans h)) ?_
      (simp only [Act.put, lS]; go_big_quiet_on)
      iterate 2 (first | go_big_quiet_skip | (go_big_quiet_want; go_big_quiet_op; first | go_big_quiet_on | (refine ⟨_, fun _ _ => rfl, ?_⟩; go_big_quiet_on)) | (go_big_quiet_want; apply qb_load1 _ _ rfl _ _ rfl; rotate_left 2; (focus (intro _; simp [go_sem]; done)); rotate_right 2; assumption; assumption; assumption; (simp only [Act.put, lS]; go_big_quiet_on)) | (go_big_quiet_want; apply qb_loadA _ _ rfl _ _ rfl (sz := 16); rotate_left 2; (focus (intro _; simp [go_sem]; done)); (focus (intro _; simp [go_sem]; done)); rotate_right 2; assumption; assumption; assumption; assumption; (simp only [Act.put, lS]; go_big_quiet_on)))
      (go_big_quiet_want; refine qb_call _ _ ?_ _ (fun w' _ => HS1.out w') (Nat.le_refl _) ?_; (focus (intro w; simp [go_sem]; done)); (simp only [Act.put, lS]; go_big_quiet_on))
      refine wpQuiet_nil ?_
      intro w7 hB7
      have HB7 := Lib.hid (HO.out.bel.drew.trans (hB7.mono HO.out.bel.size))
      clear hB7
      go_wp2_with fail
      refine (HS2.out _).mono ?_
      rintro e w8 ⟨rfl, hB8⟩
      rw [HRES.out]
      have HB8 := Lib.hid (HB7.out.trans (hB8.mono HB7.out.size))
      clear hB8
      go_wp2_with fail
      go_ret
      exact ⟨rfl, HB8.out⟩
end Go.Proofs.YtcfbiafedfkbhaaDoor
