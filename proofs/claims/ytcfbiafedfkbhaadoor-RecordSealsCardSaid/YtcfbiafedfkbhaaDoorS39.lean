/- Part of the proof: RecordSeals. No conditions of its own. -/
import Derived.ArgAppend
import Derived.Below
import Derived.BigQuiet
import Derived.BigRegion
import Derived.ChangeOld
import Derived.Deep.AppendSrc
import Derived.Deep.CutBlock
import Derived.Deep.DeepCutAuto
import Derived.Deep.Draws
import Derived.Deep.LoopGhost
import Derived.Deep.MidRow
import Derived.Deep.Quiet
import Derived.Deep.QuietTactic
import Derived.Deep.RegionHeld3
import Derived.Deep.RegionLaw
import Derived.Deep.Upon
import Derived.Laws.AppendOwnNone
import Derived.Laws.Bits64
import Derived.Laws.BitsAllLaws
import Derived.Laws.BytesArg
import Derived.Laws.Concat
import Derived.Laws.CopyOwn
import Derived.Laws.MakeOwn
import Derived.Lib.AppendStr
import Derived.Lib.AppendZerosOnto
import Derived.Lib.BufferMore
import Derived.Lib.ConvBytes
import Derived.Lib.Hide
import Derived.Lib.SlBytesConst
import Derived.LoopIn
import Derived.LoopNIn
import Derived.Maps.AppendAt
import Derived.OpenShut
import Derived.OrdersIn
import Derived.OwnWalkIn
import Derived.ProofKit
import Derived.RangeFuncBound
import Derived.RangeFuncBox
import Derived.RangeFuncCalls
import Derived.RangeFuncLeaves
import Derived.RangeFuncNested
import Derived.Shelf.Abstract
import Derived.ShutString
import Derived.StillTail
import Derived.TacticsIn
import Derived.TacticsInMore
import Derived.Test.YtcfbiafedfkbhaaDoorChecked
import Derived.Test.YtcfbiafedfkbhaaDoorProg
import Derived.WalkKit
import Derived.WalkSpells
import Derived.Test.YtcfbiafedfkbhaaDoorS36
import Derived.Test.YtcfbiafedfkbhaaDoorS38
namespace Go.Proofs.YtcfbiafedfkbhaaDoor
open Go.RowKit
set_option linter.unusedVariables false
set_option linter.unusedSimpArgs false

structure S3 (w wr : World) (g1 g2 gm r : Nat) (sec : List UInt8) : Prop where
  h1 : HalfW wr g1 sec r
  h2 : HalfW wr g2 sec r
  m : Row wr gm 39 (rhC sec r)
  bel : Below w.heap.size w wr
theorem HalfW.rne {w : World} {g gm n : Nat} {sec : List UInt8} {cs : Array Value} (h : HalfW w g sec n) (hr : Row w gm 39 cs) : gm ≠ g := by
  obtain ⟨ds, hd⟩ := h.row
  exact hd.neT hr (by decide)
theorem HalfW.otherM {w w' : World} {g gm n : Nat} {sec : List UInt8} {cs : Array Value} (h : HalfW w g sec n) (hr : Row w gm 39 cs) (hg : w.grownBy w' (some gm)) : HalfW w' g sec n := by
  obtain ⟨p, h1, h2⟩ := h
  refine ⟨p, (row_congr (hg.block g h1.lt (fun e => (h1.neT hr (by decide)) (Option.some.inj e).symm))).trans h1, ?_⟩
  obtain ⟨xb, kp, e1, e2, ⟨kb, kk, cap, cur, k1, k2, k3, k4⟩, e4⟩ := h2
  have ex : ∀ (k : Nat) (t : TypeId) (ds : Array Value), Row w k t ds → t ≠ 39 → Row w' k t ds := fun k t ds h ht => (row_congr (hg.block k h.lt (fun e => hr.neT h ht (Option.some.inj e)))).trans h
  exact ⟨xb, kp, e1, ex _ _ _ e2 (by decide), ⟨kb, kk, cap, cur, k1, ex _ _ _ k2 (by decide), ex _ _ _ k3 (by decide), k4⟩, e4⟩
theorem rowM_other {w w' : World} {g gm n : Nat} {sec : List UInt8} {cs : Array Value} (h : HalfW w g sec n) (hr : Row w gm 39 cs) (hg : w.grownBy w' (some g)) : Row w' gm 39 cs :=
  (row_congr (hg.block gm hr.lt (fun e => h.rne hr (Option.some.inj e)))).trans hr
theorem S3.below {w wr w' : World} {g1 g2 gm r : Nat} {sec : List UInt8} (k : S3 w wr g1 g2 gm r sec) (hb : Below wr.heap.size wr w') : S3 w w' g1 g2 gm r sec :=
  ⟨k.h1.below hb, k.h2.below hb, k.m.below hb k.m.lt, k.bel.trans (hb.mono k.bel.size)⟩
theorem rangeAt_below {w w' : World} {g o : Nat} {cs : List Value} (h : w.rangeAt g o cs) (hb : Below w.heap.size w w') : w'.rangeAt g o cs := fun j v hj => by
  have := h j v hj
  exact (hb.cell (World.block_lt_of_cell? w _ this)).trans this
theorem line_info : (Tryd.prog.info? 41).map (·.size) = some 3 := by kernel_rfl
structure LnSt (w wr : World) (g1 g2 gm r1 r2 r3 : Nat) (sec : List UInt8) (g14 : Nat) (k p : Int) (vb v15 : Value) (l : List UInt8) : Prop where
  h1 : HalfW wr g1 sec r1
  h2 : HalfW wr g2 sec r2
  m : Row wr gm 39 (rhC sec r3)
  bel : Below w.heap.size w wr
  row : Row wr g14 41 #[.int .i64 k, vb, .int .i64 p]
  own : OwnW wr w.heap.size v15 l
theorem OwnW.lowW {w : World} {B0 B1 : Nat} {v : Value} {l : List UInt8} (h : OwnW w B1 v l) (hb : B0 ≤ B1) : OwnW w B0 v l :=
  h.imp id fun ⟨b, o, cap, cur, e, h0, rest⟩ => ⟨b, o, cap, cur, e, Nat.le_trans hb h0, rest⟩
theorem OwnW.otherR {w w' : World} {B0 g : Nat} {v : Value} {l : List UInt8} {t : TypeId} {cs : Array Value} (h : OwnW w B0 v l) (hr : Row w g t cs) (ht : t ≠ 5) (hg : w.grownBy w' (some g)) : OwnW w' B0 v l :=
  h.congr fun k e => by
    rcases h.row with h0 | ⟨b, ds, h0, _, hb⟩
    · rw [h0] at e; cases e
    · rw [h0] at e
      obtain rfl := Option.some.inj e
      exact hg.block b hb.lt (fun e2 => hr.neT hb (fun e3 => ht e3.symm) (Option.some.inj e2))
section
variable {w wr w' : World} {g1 g2 gm r1 r2 r3 g14 : Nat} {sec l : List UInt8} {k p : Int} {vb v15 : Value}
theorem LnSt.below (h : LnSt w wr g1 g2 gm r1 r2 r3 sec g14 k p vb v15 l) (hb : Below wr.heap.size wr w') : LnSt w w' g1 g2 gm r1 r2 r3 sec g14 k p vb v15 l :=
  ⟨h.h1.below hb, h.h2.below hb, h.m.below hb h.m.lt, h.bel.trans (hb.mono h.bel.size), h.row.below hb h.row.lt, h.own.below hb⟩
theorem LnSt.grown1 (h : LnSt w wr g1 g2 gm r1 r2 r3 sec g14 k p vb v15 l) (hg : wr.grownBy w' (some g1)) {n : Nat} (hn : HalfW w' g1 sec n) (hne : g2 ≠ g1) (hle : w.heap.size ≤ g1) : LnSt w w' g1 g2 gm n r2 r3 sec g14 k p vb v15 l := by
  obtain ⟨cs, hr⟩ := h.h1.row
  exact ⟨hn, h.h2.other hr hg hne, rowM_other h.h1 h.m hg, h.bel.grown hg h.bel.size (fun j e => by obtain rfl := Option.some.inj e; exact hle),
    (row_congr (hg.block _ h.row.lt (fun e => hr.neT h.row (by decide) (Option.some.inj e)))).trans h.row, h.own.otherR hr (by decide) hg⟩
theorem LnSt.grown2 (h : LnSt w wr g1 g2 gm r1 r2 r3 sec g14 k p vb v15 l) (hg : wr.grownBy w' (some g2)) {n : Nat} (hn : HalfW w' g2 sec n) (hne : g1 ≠ g2) (hle : w.heap.size ≤ g2) : LnSt w w' g1 g2 gm r1 n r3 sec g14 k p vb v15 l := by
  obtain ⟨cs, hr⟩ := h.h2.row
  exact ⟨h.h1.other hr hg hne, hn, rowM_other h.h2 h.m hg, h.bel.grown hg h.bel.size (fun j e => by obtain rfl := Option.some.inj e; exact hle),
    (row_congr (hg.block _ h.row.lt (fun e => hr.neT h.row (by decide) (Option.some.inj e)))).trans h.row, h.own.otherR hr (by decide) hg⟩
theorem LnSt.grownM (h : LnSt w wr g1 g2 gm r1 r2 r3 sec g14 k p vb v15 l) (hg : wr.grownBy w' (some gm)) {n : Nat} (hn : Row w' gm 39 (rhC sec n)) (hle : w.heap.size ≤ gm) : LnSt w w' g1 g2 gm r1 r2 n sec g14 k p vb v15 l :=
  ⟨h.h1.otherM h.m hg, h.h2.otherM h.m hg, hn, h.bel.grown hg h.bel.size (fun j e => by obtain rfl := Option.some.inj e; exact hle),
    (row_congr (hg.block _ h.row.lt (fun e => h.m.neT h.row (by decide) (Option.some.inj e)))).trans h.row, h.own.otherR h.m (by decide) hg⟩
end
set_option maxRecDepth 100000 in
set_option maxHeartbeats 4000000 in
theorem rseals_any (w : World) (sec : List UInt8) (vl : Value) (ls : List Ln) (hk : sec.length = 32) (hl : LinesIn w vl ls) (hv : HashW w) : Calls Tryd.prog 4 #[.agg (AB sec), vl] w fun e w' => e = .returned (.bool true) ∧ Below w.heap.size w w' := by
  obtain ⟨al, cl, rfl, hlc, hlm, hll⟩ := hl
  have HLL := Lib.hid hll
  have HV := Lib.hid hv
  have HK := Lib.hid hk
  have hks := (AB_size sec).trans hk
  have hsk := sub_all (AB sec) 32 hks
  have z32 : 0 + 32 ≤ (AB sec).size := by rw [hks]; decide
  obtain ⟨NZ, hNZ⟩ : ∃ N, N = ls.length := ⟨_, rfl⟩
  rw [← hNZ] at hlc ⊢
  have HNZ := Lib.hid (⟨hNZ, hlc, hlm⟩ : _ ∧ _ ∧ _)
  clear hll hv hk hNZ hlc hlm
  go_enter Tryd.func4, Tryd.ntmps4
  have i0 : Row (w.alloc (.cells (AB sec) 28)) w.heap.size 28 (AB sec) := Row.new _ _ _
  have HA0 := Lib.hid (show Below w.heap.size w (w.alloc (.cells (AB sec) 28)) from (Below.refl _ _).alloc (Nat.le_refl _) _)
  go_upto_region 3 with (first
    | (go_at_call 12; refine (none12_any _).mono ?_; rintro e w' ⟨rfl, rfl⟩)
    | (go_at_call 9; refine (cseal_nil _).mono ?_; rintro e w' ⟨rfl, rfl⟩)
    | (go_at_call 11; refine (copen_nil _ _).mono ?_; rintro e w' ⟨rfl, rfl⟩)
    | fail)
  obtain ⟨w0, hw0⟩ : ∃ W, W = w.alloc (.cells (AB sec) 28) := ⟨_, rfl⟩
  rw [← hw0] at i0 HA0 ⊢
  clear hw0
  go_upto_region 5 with (first
    | (go_at_call 12; refine (none12_any _).mono ?_; rintro e w' ⟨rfl, rfl⟩)
    | (go_at_call 13; refine (used_nil _).mono ?_; rintro e w' ⟨rfl, rfl⟩)
    | (go_at_call 10; refine (records_any _ (HV.out.below HA0.out)).mono ?_; rintro e w1 ⟨rfl, hB1⟩; have HA1 := Lib.hid (HA0.out.trans (hB1.mono HA0.out.size)); have i1 := i0.below hB1 i0.lt; clear hB1 i0)
    | fail)
  have i3 := i1.drew
  have HA3 := Lib.hid HA1.out.drew
  refine wp_region_free 3 [50] (halfF w.heap.size sec) (by kernel_rfl) (by kernel_rfl) (by kernel_rfl) (halfF_stab _ _) ?_
  simp only [List.take_succ_cons, List.take_zero, List.drop_succ_cons, List.drop_zero]
  apply Exists.intro
  apply Exists.intro
  refine ⟨?_, ?_, ?_⟩
  · intro ν
    (apply wpF_q rfl; focus (intro C hC hG; (first | go_big_quiet_skip | (go_big_quiet_want; go_big_quiet_op; first | go_big_quiet_on | (refine ⟨_, fun _ _ => rfl, ?_⟩; go_big_quiet_on)) | (go_big_quiet_want; apply qf_load1 _ _ rfl _ _ rfl; (exact hC); rotate_left 1; (focus (intro _; simp [go_sem]; done)); rotate_right 1; assumption; assumption; (simp only [Act.put, lS]; go_big_quiet_on)) | (go_big_quiet_want; apply qf_loadA _ _ rfl _ _ rfl (sz := 32); (exact hC); rotate_left 1; (focus (intro _; simp [go_sem]; done)); (focus (intro _; simp [go_sem]; done)); rotate_right 1; assumption; assumption; assumption; (simp only [Act.put, lS]; go_big_quiet_on))); exact wpQuiet_nil rfl))
    (apply wpF_free; (focus rfl); (focus rfl); (exact (fun w' hb _ => (rnew_any w' sec (HV.out.below (HA3.out.trans (hb.mono HA3.out.size))) HK.out).mono fun e w'' ⟨g, h1, h2, h3, h4⟩ => ⟨_, h1, fun d hd => ⟨g, rfl, Nat.le_trans (Nat.le_trans HA3.out.size hb.size) h2, h3⟩, h4⟩)); (focus (intro w; simp [go_sem]; done)); simp only [Act.put, vqF, pS])
    (apply wpF_q rfl; focus (intro C hC hG; (first | go_big_quiet_skip | (go_big_quiet_want; go_big_quiet_op; first | go_big_quiet_on | (refine ⟨_, fun _ _ => rfl, ?_⟩; go_big_quiet_on)) | (go_big_quiet_want; apply qf_load1 _ _ rfl _ _ rfl; (exact hC); rotate_left 1; (focus (intro _; simp [go_sem]; done)); rotate_right 1; assumption; assumption; (simp only [Act.put, lS]; go_big_quiet_on)) | (go_big_quiet_want; apply qf_loadA _ _ rfl _ _ rfl (sz := 32); (exact hC); rotate_left 1; (focus (intro _; simp [go_sem]; done)); (focus (intro _; simp [go_sem]; done)); rotate_right 1; assumption; assumption; assumption; (simp only [Act.put, lS]; go_big_quiet_on))); exact wpQuiet_nil rfl))
    exact wpF_nil ⟨rfl, rfl⟩
  · intro ν ν'
    kernel_rfl
  · intro ν w4 hw4 hf
    obtain ⟨g1, hg1, hl1, hh1⟩ : halfF w.heap.size sec 50 (ν 50) w4 := hf 50 (by decide)
    obtain ⟨v50, hv50⟩ : ∃ v, v = ν 50 := ⟨_, rfl⟩
    rw [← hv50] at hg1 ⊢
    subst hg1
    have HA4 := Lib.hid (HA3.out.trans (hw4.mono HA3.out.size))
    have i4 := i3.below hw4 i3.lt
    have HH1 := Lib.hid hh1
    have HL1 := Lib.hid hl1
    clear hv50 hf hw4 hh1 hl1 i3 i1
    go_wp2_with fail
    refine (rnew_any w4 sec (HV.out.below HA4.out) HK.out).mono ?_
    rintro e w5 ⟨g2, rfl, hl2, hh2, hB5⟩
    have HH5 := Lib.hid (⟨HH1.out.below hB5, hh2, HL1.out, Nat.le_trans HA4.out.size hl2, Nat.lt_of_lt_of_le HH1.out.lt hl2⟩ : HalfW w5 g1 sec 0 ∧ HalfW w5 g2 sec 0 ∧ w.heap.size ≤ g1 ∧ w.heap.size ≤ g2 ∧ g1 < g2)
    have HA5 := Lib.hid (HA4.out.trans (hB5.mono HA4.out.size))
    have hcs := run_conv_slb (P := Tryd.prog) w5 23 5 9 Tryd.underlying23 Tryd.underlying5 Tryd.underlying9 (.slice (some ⟨w.heap.size, 0, none⟩) 32 32) sec
      (by have := (i4.below hB5 i4.lt).slW (l := sec) (by rw [HK.out]; decide); rwa [HK.out] at this)
    clear hl2 hh2 hB5 i4 HL1 HH1
    go_upto_region 7 with (fail)
    obtain ⟨gm, hgm⟩ : ∃ g, g = w5.heap.size := ⟨_, rfl⟩
    have hal : Below w5.heap.size w5 (w5.alloc (.cells #[S sec, .int .i64 0] 39)) := (Below.refl _ _).alloc (Nat.le_refl _) _
    have HS0 := Lib.hid (show S3 w (w5.alloc (.cells #[S sec, .int .i64 0] 39)) g1 g2 gm 0 sec from ⟨HH5.out.1.below hal, HH5.out.2.1.below hal, Row.newAt _ _ _ _ hgm, HA5.out.trans (hal.mono HA5.out.size)⟩)
    have HGG := Lib.hid (⟨HH5.out.2.2.1, HH5.out.2.2.2.1, HH5.out.2.2.2.2, (by rw [hgm]; exact HA5.out.size)⟩ : w.heap.size ≤ g1 ∧ w.heap.size ≤ g2 ∧ g1 < g2 ∧ w.heap.size ≤ gm)
    rw [← hgm]
    clear hal hgm hcs HH5 HA5 HA4 HA3 HA1 HA0
    go_wp2_with fail
    go_loopg [13] 8 (fun gk t13 wr => ∃ i r : Nat, gk + i = 8 ∧ t13 = .int .i64 (i : Int) ∧ r ≤ i ∧ S3 w wr g1 g2 gm r sec)
    case atStart => exact ⟨0, 0, rfl, rfl, Nat.le_refl _, HS0.out⟩
    case round =>
      clear HS0
      obtain ⟨i, r, hgi, rfl, hri, hS⟩ := hrel
      have HS := Lib.hid hS
      have HGI := Lib.hid (⟨hgi, hri⟩ : _ ∧ _)
      have hi8 : (i : Int) ≤ 8 := by omega
      clear hS hgi hri
      by_cases h8 : i < 8 ∧ i < NZ
      · obtain ⟨h8, hz⟩ := h8
        have c1 : (i : Int) < 8 := by omega
        have c2 : (i : Int) < (NZ : Int) := by omega
        have c3 : (0 : Int) ≤ (i : Int) := by omega
        have c4 : ((i : Int)).toNat = i := by omega
        obtain ⟨ln, hln⟩ : ∃ l, ls[i]? = some l := ⟨_, List.getElem?_eq_getElem (by have := HNZ.out.1; omega)⟩
        obtain ⟨b, o, vb, rfl, hrg, hpb⟩ := HLL.out i ln hln
        obtain ⟨kd, bs, p⟩ := ln
        simp only at hrg hpb
        obtain ⟨ab, cb, rfl, hcb⟩ := hpb.shape
        have hrg := rangeAt_below hrg HS.out.bel
        have HPB := Lib.hid (hpb.below HS.out.bel)
        have HRG := Lib.hid hrg
        have HP := Lib.hid (⟨h8, hz, hcb⟩ : _ ∧ _ ∧ _)
        obtain ⟨nb, hnb⟩ : ∃ n, n = bs.length := ⟨_, rfl⟩
        rw [← hnb] at HRG HPB HP
        have HNB := Lib.hid hnb
        clear hrg hpb hln h8 hz hcb hnb
        go_upto_region 11 with (refine wpList_load_mid rfl 41 (.tmp 69) rfl b (o + i * 3) rfl [.int .i64 kd, .slice ab nb cb, .int .i64 p] _ HRG.out Tryd.underlying41 rfl line_info ?_)
        obtain ⟨g14, hg14⟩ : ∃ g, g = wr.heap.size := ⟨_, rfl⟩
        have hal : Below wr.heap.size wr (wr.alloc (.cells #[.int .i64 kd, .slice ab nb cb, .int .i64 p] 41)) := (Below.refl _ _).alloc (Nat.le_refl _) _
        have HS1 := Lib.hid (HS.out.below hal)
        have HR1 := Lib.hid (show Row (wr.alloc (.cells #[.int .i64 kd, .slice ab nb cb, .int .i64 p] 41)) g14 41 #[.int .i64 kd, .slice ab nb cb, .int .i64 p] from Row.newAt _ _ _ _ hg14)
        have HPB1 := Lib.hid (HPB.out.below hal)
        obtain ⟨w1, hw1⟩ : ∃ W, W = wr.alloc (.cells #[.int .i64 kd, .slice ab nb cb, .int .i64 p] 41) := ⟨_, rfl⟩
        rw [← hw1] at HS1 HR1 HPB1 ⊢
        rw [← hg14]
        obtain ⟨BX, hBX⟩ : ∃ l, l = bs.take 200 := ⟨_, rfl⟩
        have HBX := Lib.hid (⟨hBX, (by rw [hBX, List.length_take]; omega)⟩ : BX = bs.take 200 ∧ BX.length ≤ 200)
        clear hal hw1 hg14 HS HPB HRG hBX
        go_cut [15] (fun v15 wx => (∃ a15 c15, v15 = .slice a15 BX.length c15) ∧ LnSt w wx g1 g2 gm r r r sec g14 kd p (.slice ab nb cb) v15 BX)
        case first =>
          --<A
          have cB : ∀ O : Obj, (w1.alloc O).cell? ⟨g14, 1, none⟩ = some (.slice ab nb cb) := fun O => (HR1.out.alloc O).cell 1
          rcases Nat.lt_or_ge 200 nb with h | h
          · have hl1 : ¬ ((nb : Int) ≤ 200) := by omega
            have hl2 : (200 : Int) < (nb : Int) := by omega
            have hl3 : (200 : Int) ≤ (cb : Int) := by have := HP.out.2.2; omega
            have HPT := Lib.hid (show PB w1 (.slice ab 200 cb) BX by rw [HBX.out.1]; exact HPB1.out.take 200 (by omega))
            clear h
            go_wp2_with (at_builtin; refine wpl_appF rfl (.tmp 71) (.tmp 78) rfl w.heap.size w1.heap.size rfl HS1.out.bel.size (Row.new w1 _ _) (.slice ab 200 cb) BX rfl (HPT.out.below ((Below.refl _ _).alloc (Nat.le_refl _) _)) (by have := HBX.out.2; omega) (by have := HS1.out.bel.size; simp; omega) ?_)
            intro v' w' ho hb
            have hb : Below (w1.alloc (.cells #[] 5)).heap.size (w1.alloc (.cells #[] 5)) w' := by rw [World.size_alloc]; exact hb
            have HL := Lib.hid (show LnSt w w' g1 g2 gm r r r sec g14 kd p (.slice ab nb cb) v' BX from by
              have k := (HS1.out.below ((Below.refl _ _).alloc (Nat.le_refl _) _)).below hb
              exact ⟨k.h1, k.h2, k.m, k.bel, (HR1.out.alloc _).below hb (HR1.out.alloc _).lt, ho⟩)
            obtain ⟨a15, c15, rfl, _⟩ := ho.slb
            clear ho hb
            go_wp2_with fail
            go_meet
            case rel => exact ⟨⟨a15, c15, rfl⟩, HL.out⟩
          · have hl1 : (nb : Int) ≤ 200 := by omega
            have hl2 : ¬ (200 : Int) < (nb : Int) := by omega
            have hl3 : (nb : Int) ≤ (cb : Int) := by have := HP.out.2.2; omega
            have HPT := Lib.hid (show PB w1 (.slice ab nb cb) BX by rw [HBX.out.1, List.take_of_length_le (by rw [← HNB.out]; exact h)]; exact HPB1.out)
            clear h
            go_wp2_with (at_builtin; refine wpl_appF rfl (.tmp 71) (.tmp 78) rfl w.heap.size w1.heap.size rfl HS1.out.bel.size (Row.new w1 _ _) (.slice ab nb cb) BX rfl (HPT.out.below ((Below.refl _ _).alloc (Nat.le_refl _) _)) (by have := HBX.out.2; omega) (by have := HS1.out.bel.size; simp; omega) ?_)
            intro v' w' ho hb
            have hb : Below (w1.alloc (.cells #[] 5)).heap.size (w1.alloc (.cells #[] 5)) w' := by rw [World.size_alloc]; exact hb
            have HL := Lib.hid (show LnSt w w' g1 g2 gm r r r sec g14 kd p (.slice ab nb cb) v' BX from by
              have k := (HS1.out.below ((Below.refl _ _).alloc (Nat.le_refl _) _)).below hb
              exact ⟨k.h1, k.h2, k.m, k.bel, (HR1.out.alloc _).below hb (HR1.out.alloc _).lt, ho⟩)
            obtain ⟨a15, c15, rfl, _⟩ := ho.slb
            clear ho hb
            go_wp2_with fail
            go_meet
            case rel => exact ⟨⟨a15, c15, rfl⟩, HL.out⟩
          --A>
        case rest =>
          obtain ⟨⟨a15, c15, rfl⟩, hL⟩ := hcut
          obtain ⟨NX, hNX⟩ : ∃ n, n = BX.length := ⟨_, rfl⟩
          rw [← hNX] at hL
          have HL := Lib.hid hL
          have HNX := Lib.hid hNX
          obtain ⟨X, hX⟩ : ∃ X, X = sealX sec r kd (padI p) BX := ⟨_, rfl⟩
          obtain ⟨E, hE⟩ : ∃ E : Int, E = (sealE kd (padI p) BX.length : Int) := ⟨_, rfl⟩
          obtain ⟨rD, hrD⟩ : ∃ n, n = r + sealD kd (padI p) BX.length := ⟨_, rfl⟩
          have hr8 : r < 1000 := by have := HGI.out; omega
          have HC1 := Lib.hid (fun W (h : HalfW W g1 sec r) (hs : SlB W (.slice a15 NX c15) BX) => show Calls Tryd.prog 9 #[.pointer (some ⟨g1, 0, none⟩), .int .i64 kd, .slice a15 NX c15, .int .i64 (padI p)] W (fun e w' =>
              ∃ a' c', e = .returned (.tuple #[.slice a' X.length c', .int .i64 E]) ∧ OwnW w' W.heap.size (.slice a' X.length c') X ∧ HalfW w' g1 sec rD ∧ W.grownBy w' (some g1)) by
            have := cseal_any W g1 r c15 kd (padI p) sec BX a15 h (by rw [← hNX]; exact hs) (by have := HBX.out.2; omega) hr8
            rw [← hNX, ← hX, hNX, ← hE, ← hrD, ← hNX] at this
            exact this)
          have HC2 := Lib.hid (fun W (h : Row W gm 39 (rhC sec r)) => show Calls Tryd.prog 15 #[.pointer (some ⟨gm, 0, none⟩), .int .i64 kd, S BX, .int .i64 (padI p)] W (fun e w' =>
              e = .returned (.tuple #[S X, .int .i64 E]) ∧ Row w' gm 39 (rhC sec rD) ∧ W.grownBy w' (some gm)) by
            have := rrs_any W gm r kd (padI p) sec BX h HK.out (by have := HBX.out.2; omega) hr8
            rw [← hX, ← hE, ← hrD] at this
            exact this)
          have HXE := Lib.hid (⟨hX, hE, hrD, hNX⟩ : _ ∧ _ ∧ _ ∧ _)
          rw [← hNX]
          have hr14 := hL.row.drew
          have c14 : _ = some (Value.int .i64 kd) := hL.row.cell 0
          clear hL HS1 HR1 HPB1 hX hE hrD hr8 hNX
          go_upto_region 12 with (fail)
          go_cut [16, 17] (fun t16 t17 wx => (∃ a16 c16, t16 = .slice a16 X.length c16) ∧ t17 = .int .i64 E ∧ LnSt w wx g1 g2 gm rD r r sec g14 kd p (.slice ab nb cb) (.slice a15 NX c15) BX ∧ OwnW wx w.heap.size t16 X)
          case first =>
            --<B
            go_region_law (first
              | (refine wp_callO 14 #[.agg #[.int .i64 kd, .slice ab nb cb, .int .i64 p]] ?_ ?_
                 (focus (simp [go_sem]; done))
                 refine (lpad_any _ kd p _).mono ?_
                 rintro e w2 ⟨rfl, hB⟩
                 refine ⟨_, rfl, ?_⟩
                 have HL2 := Lib.hid (HL.out.below ((Below.refl _ _).drew.trans hB))
                 have hr2 := HL2.out.row
                 have c24 : _ = some (Value.int .i64 kd) := HL2.out.row.cell 0
                 clear hB)
              | (refine wp_callO 9 #[.pointer (some ⟨g1, 0, none⟩), .int .i64 kd, .slice a15 NX c15, .int .i64 (padI p)] ?_ ?_
                 (focus (simp [go_sem]; done))
                 refine (HC1.out _ HL2.out.h1 HL2.out.own.slb).mono ?_
                 rintro e w3 ⟨a16, c16, rfl, ho, hh, hg⟩
                 refine ⟨_, rfl, ?_⟩
                 have HL3 := Lib.hid (HL2.out.grown1 hg hh (by have := HGG.out.2.2.1; omega) HGG.out.1)
                 have HO3 := Lib.hid (ho.lowW HL2.out.bel.size)
                 clear hh hg ho hr2 c24)
              | fail)
            all_goals
              go_wp2_with fail
              go_meet
              case rel => exact ⟨⟨a16, c16, rfl⟩, rfl, HL3.out, HO3.out⟩
            --B>
          case rest =>
            clear hr14 c14 HL
            obtain ⟨⟨a16, c16, rfl⟩, rfl, hL, hO⟩ := hcut
            obtain ⟨MX, hMX⟩ : ∃ n, n = X.length := ⟨_, rfl⟩
            rw [← hMX] at hO
            rw [← hMX]
            have HL := Lib.hid hL
            have HO := Lib.hid hO
            have HMX := Lib.hid hMX
            have hr14 := hL.row.drew
            have c14 : _ = some (Value.int .i64 kd) := hL.row.cell 0
            have hcv1 := run_conv_slb (P := Tryd.prog) _ 23 5 9 Tryd.underlying23 Tryd.underlying5 Tryd.underlying9 (.slice a15 NX c15) BX (hL.own.slb.below (Below.refl _ _).drew)
            clear hL hO hMX
            go_upto_region 13 with (fail)
            go_cut [18, 19] (fun t18 t19 wx => t18 = S X ∧ t19 = .int .i64 E ∧ LnSt w wx g1 g2 gm rD r rD sec g14 kd p (.slice ab nb cb) (.slice a15 NX c15) BX ∧ OwnW wx w.heap.size (.slice a16 MX c16) X)
            case first =>
              --<C
              go_region_law (first
                | (refine wp_callO 14 #[.agg #[.int .i64 kd, .slice ab nb cb, .int .i64 p]] ?_ ?_
                   (focus (simp [go_sem]; done))
                   refine (lpad_any _ kd p _).mono ?_
                   rintro e w2 ⟨rfl, hB⟩
                   refine ⟨_, rfl, ?_⟩
                   have HL2 := Lib.hid (HL.out.below ((Below.refl _ _).drew.trans hB))
                   have HO2 := Lib.hid (HO.out.below ((Below.refl _ _).drew.trans hB))
                   have hr2 := HL2.out.row
                   have c24 : _ = some (Value.int .i64 kd) := HL2.out.row.cell 0
                   have hcv2 := run_conv_slb (P := Tryd.prog) _ 23 5 9 Tryd.underlying23 Tryd.underlying5 Tryd.underlying9 (.slice a15 NX c15) BX HL2.out.own.slb
                   clear hB)
                | (refine wp_callO 15 #[.pointer (some ⟨gm, 0, none⟩), .int .i64 kd, S BX, .int .i64 (padI p)] ?_ ?_
                   (focus (simp [go_sem]; done))
                   refine (HC2.out _ HL2.out.m).mono ?_
                   rintro e w3 ⟨rfl, hh, hg⟩
                   refine ⟨_, rfl, ?_⟩
                   have HL3 := Lib.hid (HL2.out.grownM hg hh HGG.out.2.2.2)
                   have HO3 := Lib.hid (HO2.out.otherR HL2.out.m (by decide) hg)
                   clear hh hg hr2 c24 hcv2)
                | fail)
              all_goals
                go_wp2_with fail
                go_meet
                case rel => exact ⟨rfl, rfl, HL3.out, HO3.out⟩
              --C>
            case rest =>
              clear hr14 c14 hcv1 HL HO
              obtain ⟨rfl, rfl, hL, hO⟩ := hcut
              have HL := Lib.hid hL
              have HO := Lib.hid hO
              have hrm := hL.m.drew
              have hlm := hrm.lt
              have hqm : (rhC sec rD)[1]? = some (.int .i64 (rD : Int)) := rfl
              clear hL hO
              go_upto_region 14 with (fail)
              refine wp_region_qtail (Below wc.drew.heap.size wc.drew) 16 (by kernel_rfl) (by kernel_rfl) (Below.refl _ _) ?_
              simp only [List.take_succ_cons, List.take_zero, List.drop_succ_cons, List.drop_zero]
              (first | go_big_quiet_skip | (go_big_quiet_want; go_big_quiet_op; first | go_big_quiet_on | (refine ⟨_, fun _ _ => rfl, ?_⟩; go_big_quiet_on)) | (go_big_quiet_want; apply qb_load1 _ _ rfl _ _ rfl; rotate_left 2; (focus (intro _; simp [go_sem]; done)); rotate_right 2; assumption; assumption; assumption; (simp only [Act.put, lS]; go_big_quiet_on)) | (go_big_quiet_want; apply qb_loadA _ _ rfl _ _ rfl (sz := 16); rotate_left 2; (focus (intro _; simp [go_sem]; done)); (focus (intro _; simp [go_sem]; done)); rotate_right 2; assumption; assumption; assumption; assumption; (simp only [Act.put, lS]; go_big_quiet_on)))
              go_big_quiet_want
              refine qb_conv 23 9 _ rfl 5 Tryd.underlying23 Tryd.underlying5 Tryd.underlying9 _ rfl X (fun w' h => HO.out.slb.below ((Below.refl _ _).drew.trans h)) ?_
              (simp only [Act.put, lS]; go_big_quiet_on)
              iterate 9 (first | go_big_quiet_skip | (go_big_quiet_want; go_big_quiet_op; first | go_big_quiet_on | (refine ⟨_, fun _ _ => rfl, ?_⟩; go_big_quiet_on)) | (go_big_quiet_want; apply qb_load1 _ _ rfl _ _ rfl; rotate_left 2; (focus (intro _; simp [go_sem]; done)); rotate_right 2; assumption; assumption; assumption; (simp only [Act.put, lS]; go_big_quiet_on)) | (go_big_quiet_want; apply qb_loadA _ _ rfl _ _ rfl (sz := 16); rotate_left 2; (focus (intro _; simp [go_sem]; done)); (focus (intro _; simp [go_sem]; done)); rotate_right 2; assumption; assumption; assumption; assumption; (simp only [Act.put, lS]; go_big_quiet_on)))
              (go_big_quiet_want; refine qb_call _ _ ?_ _ (fun w' h => (used_any w' g1 rD sec (HL.out.h1.below ((Below.refl _ _).drew.trans h))).mono fun e w'' ⟨h1, h2⟩ => ⟨h1, h2 ▸ Below.refl _ _⟩) (Nat.le_refl _) ?_; (focus (intro w; simp [go_sem]; done)); (simp only [Act.put, lS]; go_big_quiet_on))
              iterate 4 (first | go_big_quiet_skip | (go_big_quiet_want; go_big_quiet_op; first | go_big_quiet_on | (refine ⟨_, fun _ _ => rfl, ?_⟩; go_big_quiet_on)) | (go_big_quiet_want; apply qb_load1 _ _ rfl _ _ rfl; rotate_left 2; (focus (intro _; simp [go_sem]; done)); rotate_right 2; assumption; assumption; assumption; (simp only [Act.put, lS]; go_big_quiet_on)) | (go_big_quiet_want; apply qb_loadA _ _ rfl _ _ rfl (sz := 16); rotate_left 2; (focus (intro _; simp [go_sem]; done)); (focus (intro _; simp [go_sem]; done)); rotate_right 2; assumption; assumption; assumption; assumption; (simp only [Act.put, lS]; go_big_quiet_on)))
              refine wpQuiet_nil ?_
              intro w7 hB7
              have HL7 := Lib.hid (HL.out.below ((Below.refl _ _).drew.trans hB7))
              have HO7 := Lib.hid (HO.out.below ((Below.refl _ _).drew.trans hB7))
              clear hB7 hrm hlm hqm HL HO
              by_cases hE0 : E = 0
              · have hse : sealE kd (padI p) BX.length = 0 := by have := HXE.out.2.1; omega
                obtain ⟨ek, hk1, ep, hpl⟩ := sealE_inv hse
                have hXr : X = recS sec r (innS kd.toNat BX (padI p).toNat) := by rw [HXE.out.1]; unfold sealX; rw [if_pos hse]
                have hr1 : rD = r + 1 := by rw [HXE.out.2.2.1]; unfold sealD; rw [if_pos hse]
                have hOP := ropen_ok w7 g2 r kd.toNat (padI p).toNat c16 sec BX a16 HL7.out.h2 (by rw [← hXr, ← HMX.out]; exact HO7.out.slb) hk1 hpl (by have := HGI.out; omega)
                rw [← ek, ← hXr, ← HMX.out, ← hr1] at hOP
                have HOP := Lib.hid hOP
                have HR1 := Lib.hid hr1
                subst hE0
                clear hOP hr1 hXr hpl ep hk1 ek hse
                go_upto_region 17 with (fail)
                go_wp2_with fail
                refine HOP.out.mono ?_
                rintro e w8 ⟨v21, rfl, hs, hh, hg⟩
                have HL8 := Lib.hid (HL7.out.grown2 hg hh (by have := HGG.out.2.2.1; omega) HGG.out.2.1)
                obtain ⟨a21, c21, rfl, _⟩ := id hs
                rw [← HNX.out] at hs ⊢
                have HS8 := Lib.hid hs
                have hrm := HL8.out.m.drew
                have hlm := hrm.lt
                have hqm : (rhC sec rD)[1]? = some (.int .i64 (rD : Int)) := rfl
                have hrl := HL8.out.row.drew
                have hll := hrl.lt
                have hql : (#[Value.int .i64 kd, .slice ab nb cb, .int .i64 p] : Array Value)[0]? = some (.int .i64 kd) := rfl
                clear hs hh hg HL7 HO7
                go_upto_region 18 with (fail)
                refine wp_region_qtail (Below w8.drew.heap.size w8.drew) 22 (by kernel_rfl) (by kernel_rfl) (Below.refl _ _) ?_
                simp only [List.take_succ_cons, List.take_zero, List.drop_succ_cons, List.drop_zero]
                iterate 10 (first | go_big_quiet_skip | (go_big_quiet_want; go_big_quiet_op; first | go_big_quiet_on | (refine ⟨_, fun _ _ => rfl, ?_⟩; go_big_quiet_on)) | (go_big_quiet_want; apply qb_load1 _ _ rfl _ _ rfl; rotate_left 2; (focus (intro _; simp [go_sem]; done)); rotate_right 2; assumption; assumption; assumption; (simp only [Act.put, lS]; go_big_quiet_on)) | (go_big_quiet_want; apply qb_loadA _ _ rfl _ _ rfl (sz := 16); rotate_left 2; (focus (intro _; simp [go_sem]; done)); (focus (intro _; simp [go_sem]; done)); rotate_right 2; assumption; assumption; assumption; assumption; (simp only [Act.put, lS]; go_big_quiet_on)))
                go_big_quiet_want
                refine qb_conv 23 9 _ rfl 5 Tryd.underlying23 Tryd.underlying5 Tryd.underlying9 _ rfl BX (fun w' h => HS8.out.below ((Below.refl _ _).drew.trans h)) ?_
                (simp only [Act.put, lS]; go_big_quiet_on)
                (first | go_big_quiet_skip | (go_big_quiet_want; go_big_quiet_op; first | go_big_quiet_on | (refine ⟨_, fun _ _ => rfl, ?_⟩; go_big_quiet_on)) | (go_big_quiet_want; apply qb_load1 _ _ rfl _ _ rfl; rotate_left 2; (focus (intro _; simp [go_sem]; done)); rotate_right 2; assumption; assumption; assumption; (simp only [Act.put, lS]; go_big_quiet_on)) | (go_big_quiet_want; apply qb_loadA _ _ rfl _ _ rfl (sz := 16); rotate_left 2; (focus (intro _; simp [go_sem]; done)); (focus (intro _; simp [go_sem]; done)); rotate_right 2; assumption; assumption; assumption; assumption; (simp only [Act.put, lS]; go_big_quiet_on)))
                go_big_quiet_want
                refine qb_conv 23 9 _ rfl 5 Tryd.underlying23 Tryd.underlying5 Tryd.underlying9 _ rfl BX (fun w' h => HL8.out.own.slb.below ((Below.refl _ _).drew.trans h)) ?_
                (simp only [Act.put, lS]; go_big_quiet_on)
                iterate 4 (first | go_big_quiet_skip | (go_big_quiet_want; go_big_quiet_op; first | go_big_quiet_on | (refine ⟨_, fun _ _ => rfl, ?_⟩; go_big_quiet_on)) | (go_big_quiet_want; apply qb_load1 _ _ rfl _ _ rfl; rotate_left 2; (focus (intro _; simp [go_sem]; done)); rotate_right 2; assumption; assumption; assumption; (simp only [Act.put, lS]; go_big_quiet_on)) | (go_big_quiet_want; apply qb_loadA _ _ rfl _ _ rfl (sz := 16); rotate_left 2; (focus (intro _; simp [go_sem]; done)); (focus (intro _; simp [go_sem]; done)); rotate_right 2; assumption; assumption; assumption; assumption; (simp only [Act.put, lS]; go_big_quiet_on)))
                (go_big_quiet_want; refine qb_call _ _ ?_ _ (fun w' h => (used_any w' g2 rD sec (HL8.out.h2.below ((Below.refl _ _).drew.trans h))).mono fun e w'' ⟨h1, h2⟩ => ⟨h1, h2 ▸ Below.refl _ _⟩) (Nat.le_refl _) ?_; (focus (intro w; simp [go_sem]; done)); (simp only [Act.put, lS]; go_big_quiet_on))
                iterate 4 (first | go_big_quiet_skip | (go_big_quiet_want; go_big_quiet_op; first | go_big_quiet_on | (refine ⟨_, fun _ _ => rfl, ?_⟩; go_big_quiet_on)) | (go_big_quiet_want; apply qb_load1 _ _ rfl _ _ rfl; rotate_left 2; (focus (intro _; simp [go_sem]; done)); rotate_right 2; assumption; assumption; assumption; (simp only [Act.put, lS]; go_big_quiet_on)) | (go_big_quiet_want; apply qb_loadA _ _ rfl _ _ rfl (sz := 16); rotate_left 2; (focus (intro _; simp [go_sem]; done)); (focus (intro _; simp [go_sem]; done)); rotate_right 2; assumption; assumption; assumption; assumption; (simp only [Act.put, lS]; go_big_quiet_on)))
                refine wpQuiet_nil ?_
                intro w9 hB9
                have HL9 := Lib.hid (HL8.out.below ((Below.refl _ _).drew.trans hB9))
                clear hB9 hrm hlm hqm hrl hll hql HL8 HS8
                go_wp2_with fail
                go_roundg (gk - 1)
                case measure => have := HGI.out; have := HP.out; omega
                case rel => exact ⟨i + 1, rD, by have := HGI.out; have := HP.out; omega, by go_num, by have := HGI.out; have := HR1.out; omega, HL9.out.h1, HL9.out.h2, HL9.out.m, HL9.out.bel⟩
              · have hse : ¬ sealE kd (padI p) BX.length = 0 := by have := HXE.out.2.1; omega
                have hr1 : rD = r := by rw [HXE.out.2.2.1]; unfold sealD; rw [if_neg hse]; rfl
                have hx1 : (E != 0) = true := by rw [bne_iff_ne]; exact hE0
                have HR1 := Lib.hid hr1
                clear hse hr1
                go_wp2_with fail
                go_roundg (gk - 1)
                case measure => have := HGI.out; have := HP.out; omega
                case rel => exact ⟨i + 1, rD, by have := HGI.out; have := HP.out; omega, by go_num, by have := HGI.out; have := HR1.out; omega, HL7.out.h1, (by rw [HR1.out]; exact HL7.out.h2), HL7.out.m, HL7.out.bel⟩
      · have H8 := Lib.hid h8
        clear h8
        by_cases hz : i < NZ
        · have c1 : ¬ (i : Int) < 8 := by have := H8.out; omega
          have c2 : (i : Int) < (NZ : Int) := by omega
          clear hz
          go_wp2_with fail
          go_ret
          exact ⟨rfl, HS.out.bel⟩
        · have c2 : ¬ (i : Int) < (NZ : Int) := by omega
          clear hz
          go_wp2_with fail
          go_ret
          exact ⟨rfl, HS.out.bel⟩
theorem rseals_law (sec : List UInt8) (vl : Value) (ls : List Ln) (w : World) (hk : sec.length = 32) (hl : LinesIn w vl ls) (hv : HashW w) : Calls Tryd.prog 4 #[.agg (AB sec), vl] w fun e w' => e = .returned (.bool true) ∧ Below w.heap.size w w' := rseals_any w sec vl ls hk hl hv
end Go.Proofs.YtcfbiafedfkbhaaDoor
