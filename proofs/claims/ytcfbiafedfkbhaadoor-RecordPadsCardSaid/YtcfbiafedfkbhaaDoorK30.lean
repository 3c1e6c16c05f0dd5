/- Part of the proof: RecordPads, Nums. No conditions of its own. -/
import Derived.ArgAppend
import Derived.Below
import Derived.BigQuiet
import Derived.BigRegion
import Derived.ChangeOld
import Derived.Deep.CutBlock
import Derived.Deep.DeepCutAuto
import Derived.Deep.Draws
import Derived.Deep.LoopGhost
import Derived.Deep.Quiet
import Derived.Deep.QuietTactic
import Derived.Deep.RegionHeld3
import Derived.Deep.RegionLaw
import Derived.Laws.AppendOwnNone
import Derived.Laws.Bits64
import Derived.Laws.BitsAllLaws
import Derived.Laws.BytesArg
import Derived.Laws.Concat
import Derived.Laws.CopyOwn
import Derived.Laws.MakeOwn
import Derived.Lib.AppendStr
import Derived.Lib.AppendZerosOnto
import Derived.Lib.Hide
import Derived.Lib.SlBytesConst
import Derived.LoopIn
import Derived.LoopNIn
import Derived.Maps.AppendAt
import Derived.OpenShut
import Derived.OrdersIn
import Derived.OwnWalkIn
import Derived.ProofKit
import Derived.RangeFuncBound
import Derived.RangeFuncBox
import Derived.RangeFuncCalls
import Derived.RangeFuncLeaves
import Derived.RangeFuncNested
import Derived.Shelf.Abstract
import Derived.ShutString
import Derived.StillTail
import Derived.TacticsIn
import Derived.TacticsInMore
import Derived.Test.YtcfbiafedfkbhaaDoorChecked
import Derived.Test.YtcfbiafedfkbhaaDoorProg
import Derived.WalkKit
import Derived.WalkSpells
import Derived.Test.YtcfbiafedfkbhaaDoorK27
namespace Go.Proofs.YtcfbiafedfkbhaaDoor
open Go.RowKit
set_option linter.unusedVariables false
set_option linter.unusedSimpArgs false

def NumS (w : World) (v : Value) (zs : List Int) : Prop :=
  ∃ a c, v = .slice a zs.length c ∧ zs.length ≤ c ∧ c ≤ maxLen ∧ (a = none → c = 0) ∧ ∀ ad, a = some ad → ad.spot = none ∧ ∀ i, i < zs.length → w.cell? ⟨ad.block, ad.off + i, none⟩ = some (.int .i64 (zs.getD i 0))
theorem NumS.below {w w' : World} {v : Value} {zs : List Int} (h : NumS w v zs) (hb : Below w.heap.size w w') : NumS w' v zs := by
  obtain ⟨a, c, e, h1, h2, h3, h4⟩ := h
  exact ⟨a, c, e, h1, h2, h3, fun ad had => ⟨(h4 ad had).1, fun i hi => by
    have := (h4 ad had).2 i hi
    exact (hb.cell (World.block_lt_of_cell? w _ this)).trans this⟩⟩
theorem HalfW.other {w w' : World} {g1 g2 n : Nat} {sec : List UInt8} {cs : Array Value} (h : HalfW w g2 sec n) (hr : Row w g1 68 cs) (hg : w.grownBy w' (some g1)) (hne : g2 ≠ g1) : HalfW w' g2 sec n := by
  obtain ⟨p, h1, h2⟩ := h
  exact ⟨p, (row_congr (hg.block g2 h1.lt (fun e => hne (Option.some.inj e)))).trans h1, h2.self hr hg⟩
theorem HalfW.row {w : World} {g n : Nat} {sec : List UInt8} (h : HalfW w g sec n) : ∃ cs, Row w g 68 cs := let ⟨_, h, _⟩ := h; ⟨_, h⟩
def halfF (B : Nat) (sec : List UInt8) (d : Tmp) (v : Value) (w : World) : Prop := ∃ g, v = .pointer (some ⟨g, 0, none⟩) ∧ B ≤ g ∧ HalfW w g sec 0
theorem halfF_stab (B : Nat) (sec : List UInt8) : StabP (halfF B sec) := by
  intro d v w w' ⟨g, h1, h2, h3⟩ hb
  exact ⟨g, h1, h2, h3.below hb⟩
set_option maxRecDepth 100000 in
set_option maxHeartbeats 4000000 in
theorem rpads_any (w : World) (sec b0 : List UInt8) (vb vn : Value) (zs : List Int) (hk : sec.length = 32) (hb : SlB w vb b0) (hz : NumS w vn zs) (hv : HashW w) : Calls Tryd.prog 6 #[.agg (AB sec), vb, vn] w fun e w' => e = .returned (.bool true) ∧ Below w.heap.size w w' := by
  obtain ⟨a, cap, rfl, hcap, hc2⟩ := id hb
  obtain ⟨an, cn, rfl, hzz⟩ := id hz
  clear hc2 hzz
  obtain ⟨b, hbe⟩ : ∃ b, b = b0.take 200 := ⟨_, rfl⟩
  have hbn : b.length = min 200 b0.length := by rw [hbe, List.length_take]
  have hbb : SlB w (.slice a b.length cap) b := by
    rcases Nat.lt_or_ge 200 b0.length with h | h
    · rw [hbn, Nat.min_eq_left (by omega), hbe]; exact hb.take 200 (by omega)
    · rw [hbn, Nat.min_eq_right h, hbe, List.take_of_length_le h]; exact hb
  obtain ⟨n, hnn⟩ : ∃ n, n = b.length := ⟨_, rfl⟩
  obtain ⟨m, hm⟩ : ∃ m, m = b0.length := ⟨_, rfl⟩
  rw [← hnn] at hbn hbb
  rw [← hm] at hbn hcap ⊢
  have HBN := Lib.hid (⟨hbn, hnn, hcap⟩ : _ ∧ _ ∧ _)
  have HBB := Lib.hid hbb
  have HZ := Lib.hid hz
  have HV := Lib.hid hv
  have HK := Lib.hid hk
  have hks := (AB_size sec).trans hk
  have hsk := sub_all (AB sec) 32 hks
  have z32 : 0 + 32 ≤ (AB sec).size := by rw [hks]; decide
  have hnl : n ≤ 200 := by omega
  clear hbe hbn hb hbb hz hv hk hcap hm hnn
  go_enter Tryd.func6, Tryd.ntmps6
  go_upto_region 1 with (fail)
  have i0 : Row (w.alloc (.cells (AB sec) 28)) w.heap.size 28 (AB sec) := Row.new _ _ _
  have HA0 := Lib.hid (show Below w.heap.size w (w.alloc (.cells (AB sec) 28)) from (Below.refl _ _).alloc (Nat.le_refl _) _)
  obtain ⟨w0, hw0⟩ : ∃ W, W = w.alloc (.cells (AB sec) 28) := ⟨_, rfl⟩
  rw [← hw0] at i0 HA0 ⊢
  clear hw0
  go_cut [1] (fun v wr => v = .slice a n cap ∧ wr = w0)
  case first =>
    rcases Nat.lt_or_ge 200 m with h | h
    · have hl1 : ¬ ((m : Int) ≤ 200) := by omega
      have hl2 : (200 : Int) < (m : Int) := by omega
      have hl3 : (200 : Int) ≤ (cap : Int) := by have := HBN.out.2.2; omega
      have HF := Lib.hid (show (200 : Nat) = n by have := HBN.out.1; omega)
      clear h
      go_wp2_with fail
      go_meet
      case rel => exact ⟨by rw [← HF.out], rfl⟩
    · have hl1 : (m : Int) ≤ 200 := by omega
      have hl2 : ¬ (200 : Int) < (m : Int) := by omega
      have hl3 : (m : Int) ≤ (cap : Int) := by have := HBN.out.2.2; omega
      have HF := Lib.hid (show m = n by have := HBN.out.1; omega)
      clear h
      go_wp2_with fail
      go_meet
      case rel => exact ⟨by rw [← HF.out], rfl⟩
  case rest =>
    obtain ⟨e1, e2⟩ := hcut
    subst e1
    subst e2
    go_upto_region 2 with (fail)
    have i3 := i0.drew
    have HA3 := Lib.hid HA0.out.drew
    refine wp_region_free 3 [22] (halfF w.heap.size sec) (by kernel_rfl) (by kernel_rfl) (by kernel_rfl) (halfF_stab _ _) ?_
    simp only [List.take_succ_cons, List.take_zero, List.drop_succ_cons, List.drop_zero]
    apply Exists.intro
    apply Exists.intro
    refine ⟨?_, ?_, ?_⟩
    · intro ν
      (apply wpF_q rfl; focus (intro C hC hG; (first | go_big_quiet_skip | (go_big_quiet_want; go_big_quiet_op; first | go_big_quiet_on | (refine ⟨_, fun _ _ => rfl, ?_⟩; go_big_quiet_on)) | (go_big_quiet_want; apply qf_load1 _ _ rfl _ _ rfl; (exact hC); rotate_left 1; (focus (intro _; simp [go_sem]; done)); rotate_right 1; assumption; assumption; (simp only [Act.put, lS]; go_big_quiet_on)) | (go_big_quiet_want; apply qf_loadA _ _ rfl _ _ rfl (sz := 32); (exact hC); rotate_left 1; (focus (intro _; simp [go_sem]; done)); (focus (intro _; simp [go_sem]; done)); rotate_right 1; assumption; assumption; assumption; (simp only [Act.put, lS]; go_big_quiet_on))); exact wpQuiet_nil rfl))
      (apply wpF_free; (focus rfl); (focus rfl); (exact (fun w' hb _ => (rnew_any w' sec (HV.out.below (HA3.out.trans (hb.mono HA3.out.size))) HK.out).mono fun e w'' ⟨g, h1, h2, h3, h4⟩ => ⟨_, h1, fun d hd => ⟨g, rfl, Nat.le_trans (Nat.le_trans HA3.out.size hb.size) h2, h3⟩, h4⟩)); (focus (intro w; simp [go_sem]; done)); simp only [Act.put, vqF, pS])
      (apply wpF_q rfl; focus (intro C hC hG; (first | go_big_quiet_skip | (go_big_quiet_want; go_big_quiet_op; first | go_big_quiet_on | (refine ⟨_, fun _ _ => rfl, ?_⟩; go_big_quiet_on)) | (go_big_quiet_want; apply qf_load1 _ _ rfl _ _ rfl; (exact hC); rotate_left 1; (focus (intro _; simp [go_sem]; done)); rotate_right 1; assumption; assumption; (simp only [Act.put, lS]; go_big_quiet_on)) | (go_big_quiet_want; apply qf_loadA _ _ rfl _ _ rfl (sz := 32); (exact hC); rotate_left 1; (focus (intro _; simp [go_sem]; done)); (focus (intro _; simp [go_sem]; done)); rotate_right 1; assumption; assumption; assumption; (simp only [Act.put, lS]; go_big_quiet_on))); exact wpQuiet_nil rfl))
      exact wpF_nil ⟨rfl, rfl⟩
    · intro ν ν'
      kernel_rfl
    · intro ν w4 hw4 hf
      obtain ⟨g1, hg1, hl1, hh1⟩ : halfF w.heap.size sec 22 (ν 22) w4 := hf 22 (by decide)
      obtain ⟨v22, hv22⟩ : ∃ v, v = ν 22 := ⟨_, rfl⟩
      rw [← hv22] at hg1 ⊢
      subst hg1
      have HA4 := Lib.hid (HA3.out.trans (hw4.mono HA3.out.size))
      have i4 := i3.below hw4 i3.lt
      have HH1 := Lib.hid hh1
      have HL1 := Lib.hid hl1
      clear hv22 hf hw4 hh1 hl1 i3 i0
      go_wp2_with fail
      refine (rnew_any w4 sec (HV.out.below HA4.out) HK.out).mono ?_
      rintro e w5 ⟨g2, rfl, hl2, hh2, hB5⟩
      have HH5 := Lib.hid (⟨HH1.out.below hB5, hh2, HL1.out, Nat.le_trans HA4.out.size hl2, Nat.lt_of_lt_of_le HH1.out.lt hl2⟩ : HalfW w5 g1 sec 0 ∧ HalfW w5 g2 sec 0 ∧ w.heap.size ≤ g1 ∧ w.heap.size ≤ g2 ∧ g1 < g2)
      have HA5 := Lib.hid (HA4.out.trans (hB5.mono HA4.out.size))
      clear hl2 hh2 hB5 i4 HL1 HH1
      obtain ⟨NZ, hNZ⟩ : ∃ N, N = zs.length := ⟨_, rfl⟩
      rw [← hNZ]
      have HNZ := Lib.hid hNZ
      clear hNZ
      go_upto_region 4 with (fail)
      go_loopg [9] 8 (fun gk t9 wr => ∃ i : Nat, gk + i = 8 ∧ t9 = .int .i64 (i : Int) ∧ HalfW wr g1 sec i ∧ HalfW wr g2 sec i ∧ Below w.heap.size w wr)
      case atStart => exact ⟨0, rfl, rfl, HH5.out.1, HH5.out.2.1, HA5.out⟩
      case round =>
        obtain ⟨i, hgi, rfl, hh1, hh2, hB⟩ := hrel
        have HH := Lib.hid (⟨hh1, hh2⟩ : _ ∧ _)
        have HB := Lib.hid hB
        have HGI := Lib.hid hgi
        have hi8 : (i : Int) ≤ 8 := by omega
        clear hh1 hh2 hB hgi
        by_cases h8 : i < 8 ∧ i < NZ
        · obtain ⟨h8, hz⟩ := h8
          have c1 : (i : Int) < 8 := by omega
          have c2 : (i : Int) < (NZ : Int) := by omega
          have c3 : (0 : Int) ≤ (i : Int) := by omega
          obtain ⟨az, cz, ez, z1, z2, z3, z4⟩ := HZ.out
          obtain ⟨rfl, _, rfl⟩ := Value.slice.inj ez
          have hnz := HNZ.out
          cases an with
          | none => exact absurd (z3 rfl) (by omega)
          | some ad =>
          obtain ⟨zb, zo, sp⟩ := ad
          obtain ⟨hsp, hcs⟩ := z4 _ rfl
          have hsp' : sp = none := hsp
          subst hsp'
          obtain ⟨z, hzz⟩ : ∃ z, z = zs.getD i 0 := ⟨_, rfl⟩
          have hcell : wr.cell? ⟨zb, zo + i, none⟩ = some (.int .i64 z) := by
            have h1 := hcs i (by omega)
            rw [← hzz] at h1
            exact (HB.out.cell (World.block_lt_of_cell? w _ h1)).trans h1
          obtain ⟨q, hq, hq3⟩ : ∃ s : Nat, (IntKind.u64.wrap z).tmod 300 = (s : Int) ∧ s < 300 := by
            have h1 : 0 ≤ IntKind.u64.wrap z := by rw [IntKind.wrap_u64]; omega
            refine ⟨((IntKind.u64.wrap z).tmod 300).toNat, ?_, ?_⟩
            · rw [Int.tmod_eq_emod_of_nonneg h1]; omega
            · rw [Int.tmod_eq_emod_of_nonneg h1]; omega
          obtain ⟨k, hk1, hk2⟩ : ∃ k : Nat, (21 : Int) + (i : Int).tmod 3 = (k : Int) ∧ (21 ≤ k ∧ k ≤ 23) := by
            refine ⟨21 + i % 3, ?_, by omega, by omega⟩
            rw [Int.tmod_eq_emod_of_nonneg (by omega)]; omega
          obtain ⟨r, hr1⟩ : ∃ r : Nat, (i : Int).tmod 3 = (r : Int) := ⟨i % 3, by rw [Int.tmod_eq_emod_of_nonneg (by omega)]; omega⟩
          rw [hr1] at hk1
          have hr2 : (r : Int) ≤ 2 := by omega
          have c4 : (i : Int) ≤ (cn : Int) := by omega
          have c5 : (NZ : Int) ≤ (cn : Int) := by omega
          have c6 : i < NZ := hz
          have c7 : i ≤ cn := by omega
          have c8 : (q : Int) ≤ 299 := by omega
          have HP := Lib.hid (⟨h8, hz, hq3, hk2⟩ : _ ∧ _ ∧ _ ∧ _)
          clear h8 hz hq3 hk2 ez z1 z2 z3 z4 hcs hzz hnz
          go_upto_region 7 with (fail)
          clear hcell hq
          go_wp2_with fail
          refine (recSeal_any wr g1 i k q sec b (.slice a n cap) HH.out.1 (HBB.out.below HB.out) HP.out.2.2.2 (by have := HBN.out.2.1; have := HP.out.2.2.1; omega) (by have := HP.out.1; omega)).mono ?_
          rintro e w6 ⟨v6, rfl, ho6, hh61, hg6⟩
          obtain ⟨a6, c6, rfl, _⟩ := ho6.slb
          have hs6 := ho6.slb
          obtain ⟨R, hR⟩ : ∃ R, R = (recS sec i (innS k b q)).length := ⟨_, rfl⟩
          have hRl : R = 5 + (n + 1 + q + 16) := by rw [hR, recS_len, innS_len, HBN.out.2.1]
          have hopen := fun W hW hSW => ropen_ok W g2 i k q c6 sec b a6 hW hSW HP.out.2.2.2 (by have := HBN.out.2.1; have := HP.out.2.2.1; omega) (by have := HP.out.1; omega)
          rw [← hR] at hs6 hopen ⊢
          have HB6 := Lib.hid (HB.out.grown hg6 HB.out.size (fun j e => by obtain rfl := Option.some.inj e; exact HH5.out.2.2.1))
          have HH6 := Lib.hid (⟨hh61, (by obtain ⟨cs, hr⟩ := HH.out.1.row; exact HH.out.2.other hr hg6 (by have := HH5.out.2.2.2.2; omega))⟩ : HalfW w6 g1 sec (i + 1) ∧ HalfW w6 g2 sec i)
          have HS6 := Lib.hid hs6
          have HOP := Lib.hid hopen
          have r1 : (R : Int) = 5 + (n : Int) + 1 + (q : Int) + 16 := by omega
          have HRL := Lib.hid (⟨hRl, r1⟩ : _ ∧ _)
          clear ho6 hh61 hg6 hs6 hR hRl hopen r1
          go_wp2_with fail
          refine (HOP.out w6 HH6.out.2 HS6.out).mono ?_
          rintro e w7 ⟨v7, rfl, hs7, hh72, hg7⟩
          obtain ⟨a7, c7, rfl, _⟩ := id hs7
          have HB7 := Lib.hid (HB6.out.grown hg7 HB6.out.size (fun j e => by obtain rfl := Option.some.inj e; exact HH5.out.2.2.2.1))
          have HH7 := Lib.hid (⟨(by obtain ⟨cs, hr⟩ := HH6.out.2.row; exact HH6.out.1.other hr hg7 (by have := HH5.out.2.2.2.2; omega)), hh72⟩ : HalfW w7 g1 sec (i + 1) ∧ HalfW w7 g2 sec (i + 1))
          rw [← HBN.out.2.1] at hs7 ⊢
          have hc7 := run_conv_slb (P := Tryd.prog) w7 23 5 9 Tryd.underlying23 Tryd.underlying5 Tryd.underlying9 _ _ hs7
          have hcb := run_conv_slb (P := Tryd.prog) w7 23 5 9 Tryd.underlying23 Tryd.underlying5 Tryd.underlying9 _ _ (HBB.out.below HB7.out)
          have ei : ((i + 1 : Nat) : Int) = (i : Int) + 1 := by omega
          have r2 : (5 : Int) + (n : Int) + 1 + (q : Int) + 16 = (R : Int) := HRL.out.2.symm
          have r3 : (R : Int) ≤ 600 := by omega
          clear hs7 hh72 hg7
          go_wp2_with (go_at_call 13; refine (used_any w7 g1 (i + 1) sec HH7.out.1).mono ?_; rintro e w' ⟨rfl, rfl⟩)
          go_roundg (gk - 1)
          case measure => have := HGI.out; have := HP.out.1; omega
          case rel => exact ⟨i + 1, by have := HGI.out; have := HP.out.1; omega, by rw [ei], HH7.out.1, HH7.out.2, HB7.out⟩
        · have H8 := Lib.hid h8
          clear h8
          by_cases hz : i < NZ
          · have c1 : ¬ (i : Int) < 8 := by have := H8.out; omega
            have c2 : (i : Int) < (NZ : Int) := by omega
            clear hz
            go_wp2_with fail
            refine (records_any wr (HV.out.below HB.out)).mono ?_
            rintro e w6 ⟨rfl, hB6⟩
            have HB6 := Lib.hid hB6
            clear hB6
            go_wp2_with fail
            go_ret
            exact ⟨rfl, HB.out.trans (HB6.out.mono HB.out.size)⟩
          · have c2 : ¬ (i : Int) < (NZ : Int) := by omega
            clear hz
            go_wp2_with fail
            refine (records_any wr (HV.out.below HB.out)).mono ?_
            rintro e w6 ⟨rfl, hB6⟩
            have HB6 := Lib.hid hB6
            clear hB6
            go_wp2_with fail
            go_ret
            exact ⟨rfl, HB.out.trans (HB6.out.mono HB.out.size)⟩
theorem rpads_law (sec : List UInt8) (vb : Value) (b0 : List UInt8) (vn : Value) (zs : List Int) (w : World) (hk : sec.length = 32) (hb : SlB w vb b0) (hz : NumS w vn zs) (hv : HashW w) : Calls Tryd.prog 6 #[.agg (AB sec), vb, vn] w fun e w' => e = .returned (.bool true) ∧ Below w.heap.size w w' := rpads_any w sec b0 vb vn zs hk hb hz hv
end Go.Proofs.YtcfbiafedfkbhaaDoor

namespace Go.Proofs.YtcfbiafedfkbhaaDoor
open Go.RowKit
theorem open_nums {H : Type} {enc : TypeId × Value → H} {P : Program} {w : World} {held : Bool} {r : Reach} {b0 : Nat} {t e : TypeId} {v : Value} {d : DataW H} {ps : List MemPlace} (ht : P.underlying t = some (.slice e)) (he : P.underlying e = some (.int .i64)) (hc : P.cellsOf e = 1)
    (hval : Value.okWide P w r b0 t v) (hd : DataW.Trod enc P w 0 (fun _ => true) held t v d ps) : ∃ l : List Int, NumS w v l := by
  obtain ⟨a, len, cap, rfl⟩ := Go.WideShapes.okWide_slice ht hval
  obtain ⟨fuel, hf⟩ := hd
  rcases Go.ChangeShapes.open_ints ht he hc hf with ⟨hcs, _⟩ | ⟨x, l, c, zs, hcs, _, hl, hm, hz, _, hcell, hwz⟩
  · simp [Value.cells] at hcs
    obtain ⟨rfl, rfl, rfl⟩ := hcs
    exact ⟨[], none, 0, rfl, Nat.le_refl _, Nat.zero_le _, fun _ => rfl, fun _ h => by cases h⟩
  · simp [Value.cells] at hcs
    obtain ⟨rfl, rfl, rfl⟩ := hcs
    rw [if_pos rfl] at hz
    have hs : x.spot = none := by
      simp only [Value.okWide, ht, Cell.okWide, Cell.ok] at hval
      exact hval.2.2.2.1
    have hlen : (zs.take len).length = len := by rw [List.length_take]; omega
    refine ⟨zs.take len, some x, cap, by rw [hlen], by omega, hm, (fun h => by cases h), fun ad had => ?_⟩
    obtain rfl := Option.some.inj had
    refine ⟨hs, fun i hi => ?_⟩
    have hi' : i < len := by omega
    have h1 := hcell i (by omega)
    obtain ⟨b, o, s⟩ := x
    simp only at hs
    subst hs
    rw [Addr.add_lit] at h1
    rw [h1]
    simp [hi', show i < zs.length by omega]
end Go.Proofs.YtcfbiafedfkbhaaDoor
