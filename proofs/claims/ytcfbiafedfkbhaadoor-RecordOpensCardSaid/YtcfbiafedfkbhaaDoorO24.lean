/- Part of the proof: RecSeal, Trim. No conditions of its own. -/
import Derived.ArgAppend
import Derived.Below
import Derived.BigQuiet
import Derived.BigRegion
import Derived.ChangeOld
import Derived.Deep.CutBlock
import Derived.Deep.DeepCutAuto
import Derived.Deep.Draws
import Derived.Deep.LoopGhost
import Derived.Deep.Quiet
import Derived.Deep.QuietTactic
import Derived.Deep.RegionHeld3
import Derived.Deep.RegionLaw
import Derived.Laws.AppendOwnNone
import Derived.Laws.Bits64
import Derived.Laws.BitsAllLaws
import Derived.Laws.BytesArg
import Derived.Laws.CopyOwn
import Derived.Laws.MakeOwn
import Derived.Lib.AppendStr
import Derived.Lib.AppendZerosOnto
import Derived.Lib.Hide
import Derived.LoopIn
import Derived.LoopNIn
import Derived.Maps.AppendAt
import Derived.OpenShut
import Derived.OrdersIn
import Derived.OwnWalkIn
import Derived.ProofKit
import Derived.RangeFuncBound
import Derived.RangeFuncBox
import Derived.RangeFuncCalls
import Derived.RangeFuncLeaves
import Derived.RangeFuncNested
import Derived.Shelf.Abstract
import Derived.ShutString
import Derived.StillTail
import Derived.TacticsIn
import Derived.TacticsInMore
import Derived.Test.YtcfbiafedfkbhaaDoorProg
import Derived.WalkKit
import Derived.WalkSpells
import Derived.Test.YtcfbiafedfkbhaaDoorO22
import Derived.Test.YtcfbiafedfkbhaaDoorO23
namespace Go.Proofs.YtcfbiafedfkbhaaDoor
open Go.RowKit
set_option linter.unusedVariables false
set_option linter.unusedSimpArgs false

def innS (k : Nat) (l : List UInt8) (pad : Nat) : List UInt8 := l ++ [UInt8.ofNat k] ++ List.replicate pad 0
def recS (sec : List UInt8) (n : Nat) (inn : List UInt8) : List UInt8 :=
  headS 23 (inn.length + 16) ++ sealB (expand (keyS sec)) (lastOf (keyS sec)) (hOf (keyS sec)) (nonS (ivS sec) n) inn (headS 23 (inn.length + 16))
theorem innS_len (k : Nat) (l : List UInt8) (pad : Nat) : (innS k l pad).length = l.length + 1 + pad := by unfold innS; simp; omega
theorem wpl_appZ {w : World} {ops : Array Oper} {rest : List Oper} {o : Oper} {a : Act} {Q : Exit → Act → World → Prop} (hgd : o.guard = none) (s x : Operand)
    (ho : o.op = .call { callee := .builtin .append, args := #[s, x], argTypes := #[23, 3] })
    (B0 : Nat) (v : Value) (l : List UInt8) (hs : a.eval s = v) (h : OwnW w B0 v l) (hl : 0 < l.length) (k : Nat) (hx : a.eval x = .int .i64 (k : Int)) (hlen : l.length + k ≤ 1000000) (hbase : B0 ≤ w.heap.size)
    (hK : ∀ v' w', OwnW w' B0 v' (l ++ List.replicate k 0) → w.grownBy w' v.ownBlock → wpList Tryd.prog ops Q rest (a.put o.dst v') w') : wpList Tryd.prog ops Q (o :: rest) a w :=
  wpList_plain hgd fun _ hk => by
    obtain ⟨v', w', hr, h1, h2⟩ := run_appZ w B0 v l h hl k hlen hbase o.type
    unfold Oper.wp execOp
    simp only [ho, resolve, invoke, builtin, Sem.run_bind, Sem.run_pure, Result.andThen_ok, List.map_toArray, List.map_cons, List.map_nil, hs, hx, hr]
    exact hk _ _ (hK v' w' h1 h2)
theorem Row.neT {w : World} {g k : Nat} {t u : TypeId} {cs ds : Array Value} (h : Row w g t cs) (h' : Row w k u ds) (ht : u ≠ t) : k ≠ g := fun e => by
  have h1 := h.heap
  rw [← e, h'.heap] at h1
  simp only [Option.some.injEq, Obj.cells.injEq] at h1
  exact ht h1.2.1
theorem BoxAt.self {w w' : World} {g : Nat} {cs : Array Value} {p : Value} {W h : List UInt8} {last : Nat} (b : BoxAt 87 109 84 w p W last h) (hr : Row w g 68 cs) (hg : w.grownBy w' (some g)) : BoxAt 87 109 84 w' p W last h := by
  obtain ⟨xb, kp, e1, e2, ⟨kb, kk, cap, cur, k1, k2, k3, k4⟩, e4⟩ := b
  have ex : ∀ (k : Nat) (t : TypeId) (ds : Array Value), Row w k t ds → t ≠ 68 → Row w' k t ds := fun k t ds h ht => (row_congr (hg.block k h.lt (fun e => hr.neT h ht (Option.some.inj e)))).trans h
  exact ⟨xb, kp, e1, ex _ _ _ e2 (by decide), ⟨kb, kk, cap, cur, k1, ex _ _ _ k2 (by decide), ex _ _ _ k3 (by decide), k4⟩, e4⟩
theorem HalfW.below {w w' : World} {g n : Nat} {sec : List UInt8} (h : HalfW w g sec n) (hb : Below w.heap.size w w') : HalfW w' g sec n := by
  obtain ⟨p, h1, h2⟩ := h
  exact ⟨p, h1.below hb h1.lt, h2.below hb⟩
theorem HalfW.lt {w : World} {g n : Nat} {sec : List UInt8} (h : HalfW w g sec n) : g < w.heap.size := let ⟨_, h1, _⟩ := h; h1.lt
theorem hfC_s13 (p : Value) (iv : List UInt8) (n m : Nat) (h : iv.length = 12) : (hfC p iv n).setIfInBounds 13 (.int .i64 (m : Int)) = hfC p iv m := by
  unfold hfC
  apply Array.toList_inj.1
  rw [Array.toList_setIfInBounds]
  show (p :: (iv.map B ++ [.int .i64 (n : Int)])).set 13 _ = p :: (iv.map B ++ [.int .i64 (m : Int)])
  rw [List.set_cons_succ, List.set_append_right _ _ (by rw [List.length_map, h]; decide), List.length_map, h]
  rfl
theorem HalfW.next {w : World} {g n : Nat} {sec : List UInt8} (h : HalfW w g sec n) (m : Nat) : HalfW (w.setCell ⟨g, 13, none⟩ (.int .i64 (m : Int))) g sec m := by
  obtain ⟨p, h1, h2⟩ := h
  refine ⟨p, by have := h1.set 13 (.int .i64 (m : Int)); rwa [hfC_s13 _ _ _ _ (ivS_len sec)] at this, h2.self h1 (grownBy_setW w g 13 _)⟩
theorem below_grown {w w' : World} (h : Below w.heap.size w w') (r : Option Nat) : w.grownBy w' r := ⟨h.os, h.tape, h.output, h.size, fun k hk _ => h.block k hk⟩
theorem OwnW.of_row {w : World} {B0 b : Nat} {l : List UInt8} (h : Row w b 5 (AB l)) (hb : B0 ≤ b) (hl : l.length ≤ 1000000) : OwnW w B0 (.slice (some ⟨b, 0, none⟩) l.length l.length) l :=
  .inr ⟨b, 0, l.length, AB l, rfl, hb, h, Nat.le_refl _, by rw [AB_size]; omega, by unfold maxLen; omega, fun i hi => by rw [Nat.zero_add]; exact AB_get l i hi⟩
theorem OwnW.ge {w : World} {B0 : Nat} {v : Value} {l : List UInt8} (h : OwnW w B0 v l) : ∀ k, v.ownBlock = some k → B0 ≤ k := fun k e => by
  rcases h.row with e1 | ⟨b, cs, e1, hb1, _⟩
  · rw [e1] at e; cases e
  · rw [e1] at e; obtain rfl := Option.some.inj e; exact hb1
set_option maxRecDepth 100000 in
set_option maxHeartbeats 4000000 in
theorem recSeal_any (w : World) (g n k pad : Nat) (sec l : List UInt8) (v : Value) (h : HalfW w g sec n) (hS : SlB w v l) (hk : 21 ≤ k ∧ k ≤ 23) (hp : l.length + pad ≤ 16384) (hn : n < 1000) :
    Calls Tryd.prog 9 #[.pointer (some ⟨g, 0, none⟩), .int .i64 (k : Int), v, .int .i64 (pad : Int)] w fun e w' =>
      ∃ v', e = .returned (.tuple #[v', .int .i64 0]) ∧ OwnW w' w.heap.size v' (recS sec n (innS k l pad)) ∧ HalfW w' g sec (n + 1) ∧ w.grownBy w' (some g) := by
  obtain ⟨a, c, rfl, _⟩ := id hS
  obtain ⟨p, hr, hbx⟩ := id h
  obtain ⟨xb, kp, rfl, hbx'⟩ := id hbx
  clear hbx'
  have HH := Lib.hid h
  have HS := Lib.hid hS
  have hlt := hr.lt
  have hcn : w.cell? ⟨g, 13, none⟩ = some (.int .i64 (n : Int)) := (hr.cell 13).trans (hfC_13 _ _ n (ivS_len sec))
  have hkb : kindB (k : Int) = true := by unfold kindB; simp; omega
  have HKB := Lib.hid hkb
  have m1 : ¬ (pad : Int) < 0 := by omega
  have m2 : ¬ ((16384 : Int) - (l.length : Int)) < (pad : Int) := by omega
  have m3 : ¬ (1000 : Int) ≤ (n : Int) := by omega
  have m4 : (l.length : Int) ≤ 16384 := by omega
  have u1 := u8wr k (k : Int) rfl
  obtain ⟨x, hx⟩ : ∃ x, x = UInt8.ofNat k := ⟨_, rfl⟩
  rw [← hx] at u1
  have HX := Lib.hid hx
  have HP := Lib.hid (⟨hp, hk, hn⟩ : _ ∧ _ ∧ _)
  clear h hS hbx hkb hx hp hk hn
  go_enter Tryd.func9, Tryd.ntmps9
  go_upto_region 7 with (go_at_call 29; refine (isKind_any _ _).mono ?_; rintro e w' ⟨rfl, rfl⟩; rw [HKB.out])
  clear m1 m2 m3
  have HR := Lib.hid hr
  clear hr hcn
  go_wp2_with fail
  refine (clone_any (.slice a l.length c) l w HS.out (by omega)).mono ?_
  rintro e w1 ⟨v1, rfl, hb1, hB1⟩
  obtain ⟨a1, c1, rfl, _⟩ := hb1.slb
  have HB1 := Lib.hid (⟨OwnW.of_buf hb1, hB1⟩ : _ ∧ _)
  clear hb1 hB1
  have HO1 := Lib.hid (HB1.out.1.below ((Below.refl _ w1).alloc (Nat.le_refl _) (.cells #[.int .u8 (x.toNat : Int)] 5)))
  have HSX := Lib.hid (Row.slW (l := [x]) (t := 5) (Row.new w1 _ _) (by simp))
  have hs1 : w.heap.size ≤ w1.heap.size := HB1.out.2.size
  go_wp2_with (at_builtin; refine wpl_appW rfl (.tmp 38) (.tmp 41) rfl w.heap.size (.slice a1 l.length c1) l rfl HO1.out (.slice (some ⟨w1.heap.size, 0, none⟩) 1 1) [x] rfl HSX.out (by simp; omega) (by simp; omega) ?_)
  intro v2 w2 ho2 hg2 _
  obtain ⟨a2, c2, rfl, _⟩ := ho2.slb
  have hB2 : Below w.heap.size w w2 := (HB1.out.2.alloc HB1.out.2.size (.cells #[.int .u8 (x.toNat : Int)] 5)).grown hg2 (by simp; omega) (fun j e => HB1.out.1.ge j e)
  obtain ⟨L2, hL2⟩ : ∃ L, L = l ++ [x] := ⟨_, rfl⟩
  have h2l : L2.length = l.length + 1 := by rw [hL2]; simp
  rw [← hL2] at ho2 ⊢
  have hs2 : w.heap.size ≤ w2.heap.size := hB2.size
  have HO2 := Lib.hid ho2
  have HB2 := Lib.hid hB2
  have HL2 := Lib.hid (⟨hL2, h2l⟩ : _ ∧ _)
  clear ho2 hg2 hB2 hL2 h2l hs1 HO1 HSX
  go_wp2_with (at_builtin; refine wpl_appZ rfl (.tmp 42) (.tmp 43) rfl w.heap.size (.slice a2 L2.length c2) L2 rfl HO2.out (by rw [HL2.out.2]; omega) pad rfl (by have := HP.out.1; rw [HL2.out.2]; omega) hs2 ?_)
  intro v3 w3 ho3 hg3
  obtain ⟨a3, c3, rfl, _⟩ := ho3.slb
  have hB3 : Below w.heap.size w w3 := HB2.out.grown hg3 hs2 (fun j e => HO2.out.ge j e)
  obtain ⟨L3, hL3⟩ : ∃ L, L = L2 ++ List.replicate pad 0 := ⟨_, rfl⟩
  rw [← hL3] at ho3 ⊢
  have hI : L3 = innS k l pad := by rw [hL3, HL2.out.1, innS, ← HX.out]
  have h3l : L3.length ≤ 16385 := by rw [hI, innS_len]; have := HP.out.1; omega
  obtain ⟨N, hN⟩ : ∃ N, N = L3.length + 16 := ⟨_, rfl⟩
  have sN : (L3.length : Int) + 16 = (N : Int) := by omega
  have n1 : (L3.length : Int) ≤ 16385 := by omega
  have hs3 : w.heap.size ≤ w3.heap.size := hB3.size
  have HO3 := Lib.hid ho3
  have HB3 := Lib.hid hB3
  have HI := Lib.hid (⟨hI, hN, h3l⟩ : _ ∧ _ ∧ _)
  clear ho3 hg3 hB3 hL3 hI hN h3l hs2
  go_wp2_with fail
  refine (head_any w3 23 N (by decide) (by have := HI.out.2; omega)).mono ?_
  rintro e w4 ⟨rfl, hr4, hB4⟩
  have HR4 := Lib.hid hr4
  have HB4 := Lib.hid (HB3.out.trans (hB4.mono hs3))
  have HO4 := Lib.hid (HO3.out.below hB4)
  have hs4 : w3.heap.size < w4.heap.size := hr4.lt
  have HH4 := Lib.hid (HH.out.below HB4.out)
  have hrg := HR.out.below HB4.out hlt
  have hg4 := hrg.lt
  have hc0 : (hfC (.pointer (some ⟨xb, 0, none⟩)) (ivS sec) n)[0]? = some (.pointer (some ⟨xb, 0, none⟩)) := rfl
  have HNC := Lib.hid (fun (w' : World) (hw' : Below w4.heap.size w4 w') => nonce_any w' g n sec (HH4.out.below hw') (Nat.le_of_lt HP.out.2.2))
  obtain ⟨NC, hNC⟩ : ∃ x, x = nonS (ivS sec) n := ⟨_, rfl⟩
  rw [← hNC] at HNC
  have HNCl := Lib.hid (⟨hNC, by rw [hNC]; exact nonS_len _ _ (ivS_len sec)⟩ : _ ∧ NC.length = 12)
  clear hr4 hB4 hNC
  go_wp2_with fail
  refine wp_region_qtail (Below w4.heap.size w4) 8 (by kernel_rfl) (by kernel_rfl) (Below.refl _ _).drew ?_
  simp only [List.take_succ_cons, List.take_zero, List.drop_succ_cons, List.drop_zero]
  iterate 5 (first | go_big_quiet_skip | (go_big_quiet_want; go_big_quiet_op; first | go_big_quiet_on | (refine ⟨_, fun _ _ => rfl, ?_⟩; go_big_quiet_on)) | (go_big_quiet_want; apply qb_load1 _ _ rfl _ _ rfl; rotate_left 2; (focus (intro _; simp [go_sem]; done)); rotate_right 2; assumption; assumption; assumption; (simp only [Act.put, lS]; go_big_quiet_on)) | (go_big_quiet_want; apply qb_loadA _ _ rfl _ _ rfl (sz := 16); rotate_left 2; (focus (intro _; simp [go_sem]; done)); (focus (intro _; simp [go_sem]; done)); rotate_right 2; assumption; assumption; assumption; assumption; (simp only [Act.put, lS]; go_big_quiet_on)))
  (go_big_quiet_want; refine qb_call _ _ ?_ _ (fun w' hw' => HNC.out w' hw') (Nat.le_refl _) ?_; (focus (intro w; simp [go_sem]; done)); (simp only [Act.put, lS]; go_big_quiet_on))
  iterate 2 (first | go_big_quiet_skip | (go_big_quiet_want; go_big_quiet_op; first | go_big_quiet_on | (refine ⟨_, fun _ _ => rfl, ?_⟩; go_big_quiet_on)) | (go_big_quiet_want; apply qb_load1 _ _ rfl _ _ rfl; rotate_left 2; (focus (intro _; simp [go_sem]; done)); rotate_right 2; assumption; assumption; assumption; (simp only [Act.put, lS]; go_big_quiet_on)) | (go_big_quiet_want; apply qb_loadA _ _ rfl _ _ rfl (sz := 16); rotate_left 2; (focus (intro _; simp [go_sem]; done)); (focus (intro _; simp [go_sem]; done)); rotate_right 2; assumption; assumption; assumption; assumption; (simp only [Act.put, lS]; go_big_quiet_on)))
  refine wpQuiet_nil ?_
  intro w5 hw5
  have HB5 := Lib.hid (HB4.out.trans (hw5.mono (Nat.le_trans hs3 (Nat.le_of_lt hs4))))
  have HO5 := Lib.hid (HO4.out.below hw5)
  have HR5 := Lib.hid (HR4.out.below hw5 hs4)
  have HH5 := Lib.hid (HH4.out.below hw5)
  have hrg5 := hrg.below hw5 hg4
  have hg5 := hrg5.lt
  obtain ⟨p5, hp5, hbx5⟩ := HH5.out
  have hp5' : p5 = .pointer (some ⟨xb, 0, none⟩) := by
    have h1 := hp5.cell 0
    rw [hrg5.cell, hc0, hfC_0] at h1
    exact (Option.some.inj h1).symm
  subst hp5'
  have HBX5 := Lib.hid hbx5
  have hs5 := hw5.size
  have HT5 := Lib.hid (show SlB w5 (.slice (some ⟨w3.heap.size, 0, none⟩) 5 5) (headS 23 N) from HR5.out.slW (l := headS 23 N) (Nat.le_of_ble_eq_true rfl))
  clear hrg hg4 hw5 hp5 hbx5 HNC
  go_wp2_with fail
  refine (gseal_any _ (expand (keyS sec)) (lastOf (keyS sec)) (hOf (keyS sec)) NC (.slice a3 L3.length c3) (.slice (some ⟨w3.heap.size, 0, none⟩) 5 5) L3 (headS 23 N) w5 HBX5.out HNCl.out.2 HO5.out.slb (by have := HI.out.2.2; omega) HT5.out (Nat.le_of_ble_eq_true rfl)).mono ?_
  rintro e w6 ⟨v6, rfl, hb6, hB6⟩
  obtain ⟨a6, c6, rfl, _⟩ := hb6.slb
  obtain ⟨T, hT⟩ : ∃ T, T = sealB (expand (keyS sec)) (lastOf (keyS sec)) (hOf (keyS sec)) NC L3 (headS 23 N) := ⟨_, rfl⟩
  have hTl : T.length = L3.length + 16 := by rw [hT]; exact sealB_len _ _ _ _ _ _
  rw [← hT] at hb6 ⊢
  have HT := Lib.hid (⟨hT, hTl⟩ : _ ∧ _)
  have HB6 := Lib.hid (HB5.out.trans (hB6.mono (Nat.le_trans hs3 (Nat.le_trans (Nat.le_of_lt hs4) hs5))))
  have HO6 := Lib.hid (OwnW.of_buf hb6)
  have hrg6 := hrg5.below hB6 hg5
  have HR6 := Lib.hid (HR5.out.below hB6 HR5.out.lt)
  have hg6 := hrg6.lt
  have hcn : w6.cell? ⟨g, 13, none⟩ = some (.int .i64 (n : Int)) := (hrg6.cell 13).trans (hfC_13 _ _ n (ivS_len sec))
  have n2 : (n : Int) < 1000 := by have := HP.out.2.2; omega
  have sn : (n : Int) + 1 = ((n + 1 : Nat) : Int) := by omega
  obtain ⟨n', hn'⟩ : ∃ m, m = n + 1 := ⟨_, rfl⟩
  rw [← hn'] at sn
  have HN' := Lib.hid hn'
  have hgw : g < w3.heap.size := by omega
  have HG3 := Lib.hid (⟨hgw, hs5, hg5⟩ : _ ∧ _ ∧ _)
  clear hb6 hB6 hT hTl hrg5 hn' hg5 hs5
  go_upto_region 11 with (fail)
  obtain ⟨w7, hw7⟩ : ∃ W, W = w6.setCell ⟨g, 13, none⟩ (.int .i64 (n' : Int)) := ⟨_, rfl⟩
  rw [← hw7]
  have hne : g ≠ w3.heap.size := Nat.ne_of_lt HG3.out.1
  have HR7 := Lib.hid (show Row w7 g 68 (hfC (.pointer (some ⟨xb, 0, none⟩)) (ivS sec) (n + 1)) by
    rw [hw7]
    have := hrg6.set 13 (.int .i64 (n' : Int))
    rw [hfC_s13 _ _ _ _ (ivS_len sec)] at this
    rw [← HN'.out]
    exact this)
  have HO7 := Lib.hid (show OwnW w7 w5.heap.size (.slice a6 T.length c6) T by
    rw [hw7]
    refine HO6.out.congr fun j hj => heap_setCell_other w6 _ j _ (fun e => ?_)
    have := HO6.out.ge j hj
    have := HG3.out.2.2
    have e' : j = g := e
    omega)
  have HT7 := Lib.hid (show OwnW w7 w.heap.size (.slice (some ⟨w3.heap.size, 0, none⟩) 5 5) (headS 23 N) by
    rw [hw7]
    exact OwnW.of_row (l := headS 23 N) (HR6.out.setOther _ _ (fun e => hne e.symm)) hs3 (Nat.le_of_ble_eq_true rfl))
  have HG7 := Lib.hid (show w.grownBy w7 (some g) by
    rw [hw7]
    exact (below_grown HB6.out (some g)).trans (grownBy_setW w6 g 13 _))
  have hs7 : w.heap.size ≤ w7.heap.size := HG7.out.size
  clear hw7 hcn hrg6 hg6 hne
  go_wp2_with (at_builtin; refine wpl_appW rfl (.tmp 65) (.tmp 66) rfl w.heap.size (.slice (some ⟨w3.heap.size, 0, none⟩) 5 5) (headS 23 N) rfl HT7.out (.slice a6 T.length c6) T rfl HO7.out.slb (by have h1 : (headS 23 N).length = 5 := rfl; have := HT.out.2; have := HI.out.2.2; omega) hs7 ?_)
  intro v8 w8 ho8 hg8 _
  obtain ⟨a8, c8, rfl, _⟩ := ho8.slb
  have HO8 := Lib.hid ho8
  have HG8 := Lib.hid (HG7.out.andThen hg8 (fun j e => .inl (HT7.out.ge j e)))
  have HR8 := Lib.hid (show Row w8 g 68 (hfC (.pointer (some ⟨xb, 0, none⟩)) (ivS sec) (n + 1)) from (row_congr (hg8.block g HR7.out.lt (fun e => by
    have e' : g = w3.heap.size := Option.some.inj e
    have := HG3.out.1
    omega))).trans HR7.out)
  clear ho8 hg8
  go_wp2_with fail
  go_ret2
  refine ⟨.slice a8 (headS 23 N ++ T).length c8, by rfl, ?_, ?_, HG8.out⟩
  · have e : headS 23 N ++ T = recS sec n (innS k l pad) := by rw [recS, ← HI.out.1, ← HI.out.2.1, ← HNCl.out.1, ← HT.out.1]
    rw [← e]
    exact HO8.out
  · obtain ⟨p0, hp0, hb0⟩ := HH.out
    have e0 : p0 = .pointer (some ⟨xb, 0, none⟩) := by
      have h1 := hp0.cell 0
      rw [HR.out.cell, hc0, hfC_0] at h1
      exact (Option.some.inj h1).symm
    subst e0
    exact ⟨_, HR8.out, hb0.self hp0 HG8.out⟩
end Go.Proofs.YtcfbiafedfkbhaaDoor

namespace Go.Proofs.YtcfbiafedfkbhaaDoor
open Go.RowKit
set_option linter.unusedVariables false
set_option linter.unusedSimpArgs false

def trimS (l : List UInt8) : List UInt8 := (l.reverse.dropWhile (· == 0)).reverse
theorem trimS_snoc (l : List UInt8) (x : UInt8) : trimS (l ++ [x]) = if x = 0 then trimS l else l ++ [x] := by
  unfold trimS
  rw [List.reverse_append]
  simp only [List.reverse_cons, List.reverse_nil, List.nil_append, List.cons_append, List.dropWhile_cons]
  by_cases h : x = 0
  · simp [h]
  · simp [h]
theorem trimS_zeros (l : List UInt8) : ∀ n, trimS (l ++ List.replicate n 0) = trimS l
  | 0 => by simp
  | n + 1 => by rw [List.replicate_succ', ← List.append_assoc, trimS_snoc, if_pos rfl, trimS_zeros l n]
theorem trimS_inn (k : Nat) (l : List UInt8) (pad : Nat) (hk : 21 ≤ k ∧ k ≤ 23) : trimS (innS k l pad) = l ++ [UInt8.ofNat k] := by
  rw [innS, trimS_zeros, trimS_snoc, if_neg]
  intro e
  have h1 := congrArg UInt8.toNat e
  rw [UInt8.toNat_ofNat', Nat.mod_eq_of_lt (by omega)] at h1
  have h2 : (0 : UInt8).toNat = 0 := rfl
  omega
theorem take_snoc (l : List UInt8) (m : Nat) (h : m < l.length) : l.take (m + 1) = l.take m ++ [gb l m] := by
  rw [List.take_add_one, List.getElem?_eq_getElem h]; simp [gb, h]
set_option maxRecDepth 100000 in
set_option maxHeartbeats 4000000 in
theorem trimByte_any (w : World) (a : Option Addr) (c : Nat) (l : List UInt8) (hS : SlB w (.slice a l.length c) l) (hl : l.length ≤ 1000000) :
    Calls Tryd.prog 49 #[.slice a l.length c, .int .u8 0] w fun e w' => (∃ m, e = .returned (.slice a m c) ∧ m ≤ l.length ∧ trimS l = l.take m) ∧ w' = w := by
  have HS := Lib.hid hS
  have HL := Lib.hid hl
  obtain ⟨a', cap, e, h1, h2, h3, h4⟩ := hS
  obtain ⟨rfl, _, rfl⟩ := Value.slice.inj e
  have HC := Lib.hid h4
  have HN := Lib.hid (⟨h1, h3⟩ : _ ∧ _)
  clear e h1 h2 h3 h4 hl
  go_enter Tryd.func49, Tryd.ntmps49
  go_upto_region 1 with (fail)
  go_loopg [0] l.length (fun gk t0 wx => ∃ m : Nat, gk = m ∧ m ≤ l.length ∧ t0 = .slice a m c ∧ trimS l = trimS (l.take m) ∧ w = wx)
  case atStart => exact ⟨l.length, rfl, Nat.le_refl _, rfl, by rw [List.take_length], rfl⟩
  case round =>
    obtain ⟨m, hgk, hm, rfl, ht, hw⟩ := hrel
    subst hw
    cases m with
    | zero =>
      go_wp2_with fail
      go_ret
      exact ⟨⟨0, rfl, Nat.zero_le _, by rw [ht]; rfl⟩, rfl⟩
    | succ q =>
      cases a with
      | none => exact absurd (HN.out.2 rfl) (by have := HN.out.1; omega)
      | some ad =>
        obtain ⟨b, o, sp⟩ := ad
        obtain ⟨hsp, hcs⟩ := HC.out _ rfl
        have hsp' : sp = none := hsp
        subst hsp'
        have hc : w.cell? ⟨b, o + q, none⟩ = some (B (gb l q)) := hcs q (by omega)
        have hl := HL.out
        have hst := trimS_snoc (l.take q) (gb l q)
        rw [← take_snoc l q (by omega)] at hst
        obtain ⟨M, hM⟩ : ∃ M, M = q + 1 := ⟨_, rfl⟩
        rw [← hM] at hm ht hgk hst ⊢
        have c1 : (0 : Int) < (M : Int) := by omega
        have c2 : (M : Int) - 1 = (q : Int) := by omega
        have c3 : (0 : Int) ≤ (q : Int) := by omega
        have c4 : (q : Int) < (M : Int) := by omega
        have c5 : (q : Int) ≤ (c : Int) := by have := HN.out.1; omega
        have c6 : (M : Int) ≤ 1000001 := by omega
        have c7 : q ≤ c := by have := HN.out.1; omega
        have c8 : q < M := by omega
        have HM := Lib.hid (⟨hM, hm, hgk⟩ : _ ∧ _ ∧ _)
        by_cases h0 : gb l q = 0
        · rw [if_pos h0] at hst
          rw [h0] at hc
          have HT := Lib.hid (ht.trans hst)
          clear hst ht hM hcs h0 hm hgk
          go_wp2_with fail
          go_roundg q
          case measure => have := HM.out; omega
          case rel => exact ⟨q, rfl, by have := HM.out; omega, rfl, HT.out, rfl⟩
        · rw [if_neg h0] at hst
          obtain ⟨y, hy⟩ : ∃ y, y = gb l q := ⟨_, rfl⟩
          rw [← hy] at hc h0
          have hx : ¬ (y.toNat : Int) = 0 := fun e => h0 (UInt8.toNat_inj.1 (by have h2 : (0 : UInt8).toNat = 0 := rfl; omega))
          have HT := Lib.hid (ht.trans hst)
          clear hst ht hM hcs h0 hy hm hgk
          go_wp2_with fail
          go_ret
          exact ⟨⟨M, rfl, HM.out.2.1, HT.out⟩, rfl⟩
set_option maxRecDepth 100000 in
set_option maxHeartbeats 4000000 in
theorem trim_any (w : World) (a : Option Addr) (c : Nat) (l : List UInt8) (hS : SlB w (.slice a l.length c) l) (hl : l.length ≤ 1000000) :
    Calls Tryd.prog 36 #[.slice a l.length c, .string ⟨#[0]⟩] w fun e w' => (∃ m, e = .returned (.slice a m c) ∧ m ≤ l.length ∧ trimS l = l.take m) ∧ w' = w := by
  have HS := Lib.hid hS
  have HL := Lib.hid hl
  clear hS hl
  by_cases h0 : l.length = 0
  · obtain rfl : l = [] := List.eq_nil_of_length_eq_zero h0
    clear h0
    go_enter Tryd.func36, Tryd.ntmps36
    go_wp2_with fail
    go_ret
    exact ⟨⟨0, rfl, Nat.le_refl _, rfl⟩, rfl⟩
  · obtain ⟨N, hN⟩ : ∃ N, N = l.length := ⟨_, rfl⟩
    have c1 : ¬ (N : Int) = 0 := by omega
    have c2 : ((N : Int) == 0) = false := by rw [beq_eq_false_iff_ne]; omega
    rw [← hN] at HS ⊢
    have HN := Lib.hid hN
    clear h0 hN
    go_enter Tryd.func36, Tryd.ntmps36
    go_wp2_with fail
    refine (show Calls Tryd.prog 49 #[.slice a N c, .int .u8 0] w (fun e w' => (∃ m, e = .returned (.slice a m c) ∧ m ≤ N ∧ trimS l = l.take m) ∧ w' = w) by rw [HN.out] at HS ⊢; exact trimByte_any w a c l HS.out HL.out).mono ?_
    rintro e w' ⟨⟨m, rfl, hm, ht⟩, rfl⟩
    have H := Lib.hid (⟨hm, ht⟩ : _ ∧ _)
    clear hm ht
    go_wp2_with fail
    go_ret
    exact ⟨⟨m, rfl, H.out.1, H.out.2⟩, rfl⟩
end Go.Proofs.YtcfbiafedfkbhaaDoor
