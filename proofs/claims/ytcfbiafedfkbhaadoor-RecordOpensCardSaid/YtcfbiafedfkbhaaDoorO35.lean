/- Part of the proof: OpenAny. No conditions of its own. -/
import Derived.ArgAppend
import Derived.Below
import Derived.BigQuiet
import Derived.BigRegion
import Derived.ChangeOld
import Derived.Deep.CutBlock
import Derived.Deep.DeepCutAuto
import Derived.Deep.Draws
import Derived.Deep.LoopGhost
import Derived.Deep.Quiet
import Derived.Deep.QuietTactic
import Derived.Deep.RegionHeld3
import Derived.Deep.RegionLaw
import Derived.Laws.AppendOwnNone
import Derived.Laws.Bits64
import Derived.Laws.BitsAllLaws
import Derived.Laws.BytesArg
import Derived.Laws.Concat
import Derived.Laws.CopyOwn
import Derived.Laws.MakeOwn
import Derived.Lib.AppendStr
import Derived.Lib.AppendZerosOnto
import Derived.Lib.Hide
import Derived.Lib.SlBytesConst
import Derived.LoopIn
import Derived.LoopNIn
import Derived.Maps.AppendAt
import Derived.OpenShut
import Derived.OrdersIn
import Derived.OwnWalkIn
import Derived.ProofKit
import Derived.RangeFuncBound
import Derived.RangeFuncBox
import Derived.RangeFuncCalls
import Derived.RangeFuncLeaves
import Derived.RangeFuncNested
import Derived.Shelf.Abstract
import Derived.ShutString
import Derived.StillTail
import Derived.TacticsIn
import Derived.TacticsInMore
import Derived.Test.YtcfbiafedfkbhaaDoorChecked
import Derived.Test.YtcfbiafedfkbhaaDoorProg
import Derived.WalkKit
import Derived.WalkSpells
import Derived.Test.YtcfbiafedfkbhaaDoorO32
import Derived.Test.YtcfbiafedfkbhaaDoorO34
namespace Go.Proofs.YtcfbiafedfkbhaaDoor
open Go.RowKit
set_option linter.unusedVariables false
set_option linter.unusedSimpArgs false

def hidS (l : List UInt8) : List UInt8 := (l.drop 5).take ((l.drop 5).length - 16)
def tagS (l : List UInt8) : List UInt8 := (l.drop 5).drop ((l.drop 5).length - 16)
def opnOK (sec : List UInt8) (n : Nat) (l : List UInt8) : Bool := decide (16 ≤ (l.drop 5).length) && decide (tagF (expand (keyS sec)) (lastOf (keyS sec)) (hOf (keyS sec)) (nonS (ivS sec) n) (hidS l) (l.take 5) = tagS l)
def innO (sec : List UInt8) (n : Nat) (l : List UInt8) : List UInt8 := turnF (expand (keyS sec)) (lastOf (keyS sec)) (nonS (ivS sec) n) (hidS l)
theorem innO_len (sec : List UInt8) (n : Nat) (l : List UInt8) : (innO sec n l).length = l.length - 5 - 16 := by
  unfold innO hidS
  rw [turnF_len, List.length_take, List.length_drop]
  omega
def endK (t : List UInt8) : UInt8 := gb t (t.length - 1)
def endE (t : List UInt8) : Nat := if t.length = 0 then 2 else if kindB ((endK t).toNat : Int) = false then 2 else 0
def opnE (sec : List UInt8) (n : Nat) (l : List UInt8) : Nat := if aloE l ≠ 0 then aloE l else if gb l 0 ≠ 23 then 2 else if opnOK sec n l = false then 5 else endE (trimS (innO sec n l))
def opnK (sec : List UInt8) (n : Nat) (l : List UInt8) : Nat := if opnE sec n l = 0 then (endK (trimS (innO sec n l))).toNat else 0
def opnB (sec : List UInt8) (n : Nat) (l : List UInt8) : List UInt8 := if opnE sec n l = 0 then (trimS (innO sec n l)).take ((trimS (innO sec n l)).length - 1) else []
def opnN (sec : List UInt8) (n : Nat) (l : List UInt8) : Nat := if aloE l = 0 ∧ gb l 0 = 23 ∧ opnOK sec n l = true then n + 1 else n
theorem opnN_le (sec : List UInt8) (n : Nat) (l : List UInt8) : opnN sec n l ≤ n + 1 := by unfold opnN; split <;> omega
theorem OwnW.lowO {w : World} {B0 B1 : Nat} {v : Value} {l : List UInt8} (h : OwnW w B1 v l) (hb : B0 ≤ B1) : OwnW w B0 v l :=
  h.imp id fun ⟨b, o, cap, cur, e, h0, rest⟩ => ⟨b, o, cap, cur, e, Nat.le_trans hb h0, rest⟩
theorem OwnW.takeO {w : World} {B0 : Nat} {a : Option Addr} {c n m : Nat} {l : List UInt8} (h : OwnW w B0 (.slice a l.length c) l) (hm : m = (l.take n).length) : OwnW w B0 (.slice a m c) (l.take n) := by
  subst hm
  rcases h with ⟨e, rfl⟩ | ⟨b, o, cap, cur, e, hb, hr, h1, h2, h3, h4⟩
  · obtain ⟨rfl, _, rfl⟩ := Value.slice.inj e
    exact .inl ⟨by simp, by simp⟩
  · obtain ⟨rfl, _, rfl⟩ := Value.slice.inj e
    have hl : (l.take n).length ≤ l.length := by rw [List.length_take]; omega
    refine .inr ⟨b, o, c, cur, rfl, hb, hr, by omega, h2, h3, fun i hi => ?_⟩
    rw [h4 i (by omega)]
    rw [List.length_take] at hi
    unfold gb
    rw [List.getD_eq_getElem?_getD, List.getD_eq_getElem?_getD, List.getElem?_take, if_pos (by omega)]
def OpenSt (w : World) (g : Nat) (sec : List UInt8) (n : Nat) (l : List UInt8) (e : Ending) (w' : World) : Prop :=
  ∃ v, e = .returned (.tuple #[.int .i64 (opnK sec n l : Int), v, .int .i64 (opnE sec n l : Int)]) ∧ OwnW w' w.heap.size v (opnB sec n l) ∧ HalfW w' g sec (opnN sec n l) ∧ w.grownBy w' (some g)
theorem OpenSt.no {w w' : World} {g n k m : Nat} {sec l : List UInt8} (hk : opnE sec n l = k) (h0 : k ≠ 0) (hn : opnN sec n l = m) (hh : HalfW w' g sec m) (hg : w.grownBy w' (some g)) : OpenSt w g sec n l (.returned (.tuple #[.int .i64 0, .slice none 0 0, .int .i64 (k : Int)])) w' := by
  have h1 : opnE sec n l ≠ 0 := by rw [hk]; exact h0
  refine ⟨.slice none 0 0, ?_, ?_, by rw [hn]; exact hh, hg⟩
  · rw [hk, opnK, if_neg h1]; rfl
  · rw [opnB, if_neg h1]; exact OwnW.nil w' _
theorem SlB.cell0 {w : World} {a : Option Addr} {c : Nat} {l : List UInt8} (h : SlB w (.slice a l.length c) l) (h0 : 0 < l.length) : ∃ b o, a = some ⟨b, o, none⟩ ∧ l.length ≤ c ∧ c ≤ maxLen ∧ ∀ i, i < l.length → w.cell? ⟨b, o + i, none⟩ = some (B (gb l i)) := by
  obtain ⟨a', cap, e, s1, s2, s3, s4⟩ := h
  obtain ⟨rfl, _, rfl⟩ := Value.slice.inj e
  cases a with
  | none => exact absurd (s3 rfl) (by omega)
  | some ad =>
  obtain ⟨b, o, sp⟩ := ad
  obtain ⟨hsp, hcs⟩ := s4 _ rfl
  have hsp' : sp = none := hsp
  subst hsp'
  exact ⟨b, o, rfl, s1, s2, hcs⟩
set_option maxRecDepth 100000 in
set_option maxHeartbeats 4000000 in
theorem copen_alone (w : World) (g n c : Nat) (sec l : List UInt8) (a : Option Addr) (h : HalfW w g sec n) (hS : SlB w (.slice a l.length c) l) (hl : l.length ≤ 1000) (ha : aloE l ≠ 0) :
    Calls Tryd.prog 11 #[.pointer (some ⟨g, 0, none⟩), .slice a l.length c] w (OpenSt w g sec n l) := by
  have HAL := Lib.hid (alone_any w a c l hS (by omega))
  have HO := Lib.hid (fun w' (hb : Below w.heap.size w w') => OpenSt.no (w := w) (w' := w') (g := g) (n := n) (k := aloE l) (m := n) (sec := sec) (l := l) (by unfold opnE; rw [if_pos ha]) ha (by unfold opnN; rw [if_neg (fun h => ha h.1)]) (h.below hb) (below_grown hb (some g)))
  obtain ⟨E, hE⟩ : ∃ E : Int, E = (aloE l : Int) := ⟨_, rfl⟩
  rw [← hE] at HAL HO
  have hE0 : E ≠ 0 := by omega
  have hE1 : (E != 0) = true := by rw [bne_iff_ne]; exact hE0
  obtain ⟨M, hM⟩ : ∃ M, M = l.length := ⟨_, rfl⟩
  rw [← hM] at HAL ⊢
  clear h hS hl ha hE hM
  go_enter Tryd.func11, Tryd.ntmps11
  go_upto_region 3 with (fail)
  go_wp2_with fail
  refine HAL.out.mono ?_
  rintro e w1 ⟨rfl, hB1⟩
  have HB1 := Lib.hid hB1
  clear hB1
  go_wp2_with fail
  go_ret3
  exact HO.out _ HB1.out
set_option maxRecDepth 100000 in
set_option maxHeartbeats 4000000 in
theorem copen_kind (w : World) (g n c : Nat) (sec l : List UInt8) (a : Option Addr) (h : HalfW w g sec n) (hS : SlB w (.slice a l.length c) l) (hl : l.length ≤ 1000) (ha : aloE l = 0) (hk : gb l 0 ≠ 23) :
    Calls Tryd.prog 11 #[.pointer (some ⟨g, 0, none⟩), .slice a l.length c] w (OpenSt w g sec n l) := by
  have HAL := Lib.hid (alone_any w a c l hS (by omega))
  rw [ha] at HAL
  have HO := Lib.hid (fun w' (hb : Below w.heap.size w w') => OpenSt.no (w := w) (w' := w') (g := g) (n := n) (k := 2) (m := n) (sec := sec) (l := l) (by unfold opnE; rw [if_neg (by omega), if_pos hk]) (by decide) (by unfold opnN; rw [if_neg (fun h => hk h.2.1)]) (h.below hb) (below_grown hb (some g)))
  have h5 := (aloE_inv ha).2
  obtain ⟨b, o, rfl, h1, h2, hcs⟩ := hS.cell0 (by omega)
  have hc0 := hcs 0 (by omega)
  rw [Nat.add_zero] at hc0
  have HC0 := Lib.hid hc0
  obtain ⟨x, hx⟩ : ∃ x, x = gb l 0 := ⟨_, rfl⟩
  rw [← hx] at HC0 hk
  have hk1 : ¬ ((x.toNat : Int) = 23) := fun e => hk (by apply UInt8.toNat_inj.1; show x.toNat = 23; omega)
  have hk2 : ((x.toNat : Int) != 23) = true := by rw [bne_iff_ne]; exact hk1
  obtain ⟨M, hM⟩ : ∃ M, M = l.length := ⟨_, rfl⟩
  rw [← hM] at HAL ⊢
  have m4 : (0 : Int) < (M : Int) := by omega
  have m5 : 0 < M := by omega
  clear h hS hl ha hM hcs h1 h2 h5 hc0 hx hk
  go_enter Tryd.func11, Tryd.ntmps11
  go_upto_region 3 with (fail)
  go_wp2_with fail
  refine HAL.out.mono ?_
  rintro e w1 ⟨rfl, hB1⟩
  have HB1 := Lib.hid hB1
  have hc1 : w1.cell? ⟨b, o, none⟩ = some (B x) := (hB1.cell (World.block_lt_of_cell? w ⟨b, o, none⟩ HC0.out)).trans HC0.out
  clear hB1
  go_wp2_with fail
  go_ret3
  exact HO.out _ HB1.out
set_option maxRecDepth 100000 in
set_option maxHeartbeats 4000000 in
theorem copen_mac (w : World) (g n c : Nat) (sec l : List UInt8) (a : Option Addr) (h : HalfW w g sec n) (hS : SlB w (.slice a l.length c) l) (h21 : 21 ≤ l.length) (hl : l.length ≤ 1000) (hn : n < 1000) (ha : aloE l = 0) (hk : gb l 0 = 23) (ho : opnOK sec n l = false) :
    Calls Tryd.prog 11 #[.pointer (some ⟨g, 0, none⟩), .slice a l.length c] w (OpenSt w g sec n l) := by
  have HO := Lib.hid (fun w' (hb : Below w.heap.size w w') => OpenSt.no (w := w) (w' := w') (g := g) (n := n) (k := 5) (m := n) (sec := sec) (l := l) (by unfold opnE; rw [if_neg (by omega), if_neg (by rw [hk]; decide), if_pos ho]) (by decide) (by unfold opnN; rw [if_neg (fun h => by rw [ho] at h; exact absurd h.2.2 (by decide))]) (h.below hb) (below_grown hb (some g)))
  have HT := Lib.hid (show ¬ tagF (expand (keyS sec)) (lastOf (keyS sec)) (hOf (keyS sec)) (nonS (ivS sec) n) ((l.drop 5).take ((l.drop 5).length - 16)) (l.take 5) = (l.drop 5).drop ((l.drop 5).length - 16) by
    intro e
    unfold opnOK hidS tagS at ho
    rw [e] at ho
    simp at ho
    rw [List.length_drop] at *
    omega)
  have HAL := Lib.hid (alone_any w a c l hS (by omega))
  rw [ha] at HAL
  have HS := Lib.hid hS
  have HH := Lib.hid h
  have HN5 := Lib.hid hn
  have h5 : 5 ≤ l.length := by omega
  obtain ⟨b, o, rfl, h1, h2, hcs⟩ := hS.cell0 (by omega)
  have hc0 := hcs 0 (by omega)
  rw [Nat.add_zero, hk] at hc0
  have HC0 := Lib.hid (show w.cell? ⟨b, o, none⟩ = some (.int .u8 23) from hc0)
  obtain ⟨M, hM⟩ : ∃ M, M = l.length := ⟨_, rfl⟩
  rw [← hM] at HAL ⊢
  have m1 : (5 : Int) ≤ (M : Int) := by omega
  have m2 : (M : Int) ≤ 1000 := by omega
  have m3 : (M : Int) ≤ (c : Int) := by omega
  have m4 : (0 : Int) < (M : Int) := by omega
  have n3 : ¬ (1000 : Int) ≤ (n : Int) := by omega
  have HM := Lib.hid (⟨hM, h1, hl, h21⟩ : _ ∧ _ ∧ _ ∧ _)
  clear h hS h21 hl hn ha hk ho h1 h2 h5 hcs hc0 hM
  go_enter Tryd.func11, Tryd.ntmps11
  go_upto_region 3 with (fail)
  go_wp2_with fail
  refine HAL.out.mono ?_
  rintro e w1 ⟨rfl, hB1⟩
  have HB1 := Lib.hid hB1
  have hc0 : w1.cell? ⟨b, o, none⟩ = some (.int .u8 23) := (hB1.cell (World.block_lt_of_cell? w ⟨b, o, none⟩ HC0.out)).trans HC0.out
  have HH1 := Lib.hid (HH.out.below hB1)
  obtain ⟨p, hr, hbx⟩ := HH1.out
  obtain ⟨xb, kp, rfl, hbx'⟩ := id hbx
  have hcn : w1.cell? ⟨g, 13, none⟩ = some (.int .i64 (n : Int)) := (hr.cell 13).trans (hfC_13 _ _ n (ivS_len sec))
  have HR := Lib.hid hr
  have HBX := Lib.hid hbx
  clear hB1 hr hbx hbx'
  go_upto_region 10 with (fail)
  have q1 : ¬ (c : Int) = 5 := by have := HM.out; omega
  have q2 : (5 : Int) < (c : Int) := by have := HM.out; omega
  obtain ⟨NC, hNC⟩ : ∃ x, x = nonS (ivS sec) n := ⟨_, rfl⟩
  have hNl : NC.length = 12 := by rw [hNC]; exact nonS_len _ _ (ivS_len sec)
  have HNC := Lib.hid (fun (w' : World) (hb : Below w1.drew.heap.size w1.drew w') => (show Calls Tryd.prog 33 #[.pointer (some ⟨g, 0, none⟩)] w' (fun e w'' => e = .returned (.agg (AB NC)) ∧ Below w'.heap.size w' w'') by rw [hNC]; exact nonce_any w' g n sec ((HH1.out.below (Below.refl _ _).drew).below hb) (Nat.le_of_lt HN5.out)))
  have HSL := Lib.hid (show SlB w (.slice (some ⟨b, o + 5, none⟩) (M - 5) (c - 5)) (l.drop 5) by
    have h1 := HS.out.dropW (n := 5) (by have := HM.out; omega)
    rwa [← HM.out.1] at h1)
  have HTL := Lib.hid (show SlB w (.slice (some ⟨b, o, none⟩) 5 c) (l.take 5) from HS.out.takeW (n := 5) (m := 5) (by have := HM.out; rw [List.length_take]; omega))
  have HOA := Lib.hid (fun (w' : World) (hb : Below w1.drew.heap.size w1.drew w') => gopen_any (.pointer (some ⟨xb, 0, none⟩)) (expand (keyS sec)) (lastOf (keyS sec)) (hOf (keyS sec)) NC (.slice (some ⟨b, o + 5, none⟩) (M - 5) (c - 5)) (.slice (some ⟨b, o, none⟩) 5 c) (l.drop 5) (l.take 5) w' ((HBX.out.below (Below.refl _ _).drew).below hb) hNl (HSL.out.below (HB1.out.drew.trans (hb.mono HB1.out.size))) (by have := HM.out; rw [List.length_drop]; omega) (by have := HM.out; rw [List.length_drop]; omega) (HTL.out.below (HB1.out.drew.trans (hb.mono HB1.out.size))) (by rw [List.length_take]; omega))
  have HOP := Lib.hid (fun (w' : World) (hb : Below w1.drew.heap.size w1.drew w') => show Calls Tryd.prog 35 #[.pointer (some ⟨xb, 0, none⟩), .agg (AB NC), .slice (some ⟨b, o + 5, none⟩) (M - 5) (c - 5), .slice (some ⟨b, o, none⟩) 5 c] w' (fun e w'' => e = .returned (.tuple #[.slice none 0 0, .int .i64 5]) ∧ Below w'.heap.size w' w'') by
    have := HOA.out w' hb
    rw [hNC] at this ⊢
    exact this.mono fun e w'' ⟨h1, h2⟩ => by
      rw [if_neg HT.out] at h1
      exact ⟨h1, h2⟩)
  have hrd := HR.out.drew
  have c0 := hfC_0 (.pointer (some ⟨xb, 0, none⟩)) (ivS sec) n
  have hld := hrd.lt
  clear hc0 hcn hNC
  refine wp_region_qtail (Below w1.drew.heap.size w1.drew) 15 (by kernel_rfl) (by kernel_rfl) (Below.refl _ _) ?_
  simp only [List.take_succ_cons, List.take_zero, List.drop_succ_cons, List.drop_zero]
  iterate 5 (first | go_big_quiet_skip | (go_big_quiet_want; go_big_quiet_op; first | go_big_quiet_on | (refine ⟨_, fun _ _ => rfl, ?_⟩; go_big_quiet_on)) | (go_big_quiet_want; apply qb_load1 _ _ rfl _ _ rfl; rotate_left 2; (focus (intro _; simp [go_sem]; done)); rotate_right 2; assumption; assumption; assumption; (simp only [Act.put, lS]; go_big_quiet_on)) | (go_big_quiet_want; apply qb_loadA _ _ rfl _ _ rfl (sz := 16); rotate_left 2; (focus (intro _; simp [go_sem]; done)); (focus (intro _; simp [go_sem]; done)); rotate_right 2; assumption; assumption; assumption; assumption; (simp only [Act.put, lS]; go_big_quiet_on)))
  (go_big_quiet_want; refine qb_call _ _ ?_ _ (fun w' hb => HNC.out w' hb) (Nat.le_refl _) ?_; (focus (intro w; simp [go_sem]; done)); (simp only [Act.put, lS]; go_big_quiet_on))
  iterate 4 (first | go_big_quiet_skip | (go_big_quiet_want; go_big_quiet_op; first | go_big_quiet_on | (refine ⟨_, fun _ _ => rfl, ?_⟩; go_big_quiet_on)) | (go_big_quiet_want; apply qb_load1 _ _ rfl _ _ rfl; rotate_left 2; (focus (intro _; simp [go_sem]; done)); rotate_right 2; assumption; assumption; assumption; (simp only [Act.put, lS]; go_big_quiet_on)) | (go_big_quiet_want; apply qb_loadA _ _ rfl _ _ rfl (sz := 16); rotate_left 2; (focus (intro _; simp [go_sem]; done)); (focus (intro _; simp [go_sem]; done)); rotate_right 2; assumption; assumption; assumption; assumption; (simp only [Act.put, lS]; go_big_quiet_on)))
  (go_big_quiet_want; refine qb_call _ _ ?_ _ (fun w' hb => HOP.out w' hb) (Nat.le_refl _) ?_; (focus (intro w; simp [go_sem]; done)); (simp only [Act.put, lS]; go_big_quiet_on))
  iterate 4 (first | go_big_quiet_skip | (go_big_quiet_want; go_big_quiet_op; first | go_big_quiet_on | (refine ⟨_, fun _ _ => rfl, ?_⟩; go_big_quiet_on)) | (go_big_quiet_want; apply qb_load1 _ _ rfl _ _ rfl; rotate_left 2; (focus (intro _; simp [go_sem]; done)); rotate_right 2; assumption; assumption; assumption; (simp only [Act.put, lS]; go_big_quiet_on)) | (go_big_quiet_want; apply qb_loadA _ _ rfl _ _ rfl (sz := 16); rotate_left 2; (focus (intro _; simp [go_sem]; done)); (focus (intro _; simp [go_sem]; done)); rotate_right 2; assumption; assumption; assumption; assumption; (simp only [Act.put, lS]; go_big_quiet_on)))
  refine wpQuiet_nil ?_
  intro w4 hw4
  have HB4 := Lib.hid (HB1.out.drew.trans (hw4.mono HB1.out.size))
  clear hw4 hrd hld c0
  go_wp2_with fail
  go_ret3
  exact HO.out _ HB4.out
set_option maxRecDepth 100000 in
set_option maxHeartbeats 4000000 in
theorem copen_good (w : World) (g n c : Nat) (sec l : List UInt8) (a : Option Addr) (h : HalfW w g sec n) (hS : SlB w (.slice a l.length c) l) (h21 : 21 ≤ l.length) (hl : l.length ≤ 1000) (hn : n < 1000) (ha : aloE l = 0) (hk : gb l 0 = 23) (ho : opnOK sec n l = true) :
    Calls Tryd.prog 11 #[.pointer (some ⟨g, 0, none⟩), .slice a l.length c] w (OpenSt w g sec n l) := by
  obtain ⟨inn, hinn⟩ : ∃ i, i = innO sec n l := ⟨_, rfl⟩
  have hil : inn.length = l.length - 21 := by rw [hinn, innO_len]; omega
  have HT := Lib.hid (show tagF (expand (keyS sec)) (lastOf (keyS sec)) (hOf (keyS sec)) (nonS (ivS sec) n) ((l.drop 5).take ((l.drop 5).length - 16)) (l.take 5) = (l.drop 5).drop ((l.drop 5).length - 16) by
    unfold opnOK hidS tagS at ho
    rw [Bool.and_eq_true, decide_eq_true_eq, decide_eq_true_eq] at ho
    exact ho.2)
  have hNe : opnN sec n l = n + 1 := by unfold opnN; rw [if_pos ⟨ha, hk, ho⟩]
  have hEe : opnE sec n l = endE (trimS inn) := by unfold opnE; rw [if_neg (by omega), if_neg (by rw [hk]; decide), if_neg (by rw [ho]; decide), hinn]
  have HNO := Lib.hid (fun w' (he : endE (trimS inn) = 2) (hh : HalfW w' g sec (n + 1)) (hg : w.grownBy w' (some g)) => OpenSt.no (w := w) (w' := w') (g := g) (n := n) (k := 2) (m := n + 1) (sec := sec) (l := l) (by rw [hEe, he]) (by decide) hNe hh hg)
  have HYE := Lib.hid (fun w' v (he : endE (trimS inn) = 0) (hv : OwnW w' w.heap.size v ((trimS inn).take ((trimS inn).length - 1))) (hh : HalfW w' g sec (n + 1)) (hg : w.grownBy w' (some g)) => show OpenSt w g sec n l (.returned (.tuple #[.int .i64 ((endK (trimS inn)).toNat : Int), v, .int .i64 0])) w' from by
    have h0 : opnE sec n l = 0 := by rw [hEe, he]
    refine ⟨v, ?_, ?_, by rw [hNe]; exact hh, hg⟩
    · rw [h0, opnK, if_pos h0, ← hinn]; rfl
    · rw [opnB, if_pos h0, ← hinn]; exact hv)
  have HIN := Lib.hid (⟨hil, (show turnF (expand (keyS sec)) (lastOf (keyS sec)) (nonS (ivS sec) n) ((l.drop 5).take ((l.drop 5).length - 16)) = inn by rw [hinn]; rfl)⟩ : _ ∧ _)
  have HAL := Lib.hid (alone_any w a c l hS (by omega))
  rw [ha] at HAL
  have HS := Lib.hid hS
  have HH := Lib.hid h
  have HN5 := Lib.hid hn
  have h5 : 5 ≤ l.length := by omega
  obtain ⟨b, o, rfl, h1, h2, hcs⟩ := hS.cell0 (by omega)
  have hc0 := hcs 0 (by omega)
  rw [Nat.add_zero, hk] at hc0
  have HC0 := Lib.hid (show w.cell? ⟨b, o, none⟩ = some (.int .u8 23) from hc0)
  obtain ⟨M, hM⟩ : ∃ M, M = l.length := ⟨_, rfl⟩
  rw [← hM] at HAL ⊢
  have m1 : (5 : Int) ≤ (M : Int) := by omega
  have m2 : (M : Int) ≤ 1000 := by omega
  have m3 : (M : Int) ≤ (c : Int) := by omega
  have m4 : (0 : Int) < (M : Int) := by omega
  have n3 : ¬ (1000 : Int) ≤ (n : Int) := by omega
  have HM := Lib.hid (⟨hM, h1, hl, h21⟩ : _ ∧ _ ∧ _ ∧ _)
  clear h hS h21 hl hn ha hk ho h1 h2 h5 hcs hc0 hM hNe hEe hinn hil
  go_enter Tryd.func11, Tryd.ntmps11
  go_upto_region 3 with (fail)
  go_wp2_with fail
  refine HAL.out.mono ?_
  rintro e w1 ⟨rfl, hB1⟩
  have HB1 := Lib.hid hB1
  have hc0 : w1.cell? ⟨b, o, none⟩ = some (.int .u8 23) := (hB1.cell (World.block_lt_of_cell? w ⟨b, o, none⟩ HC0.out)).trans HC0.out
  have HH1 := Lib.hid (HH.out.below hB1)
  obtain ⟨p, hr, hbx⟩ := HH1.out
  obtain ⟨xb, kp, rfl, hbx'⟩ := id hbx
  have hcn : w1.cell? ⟨g, 13, none⟩ = some (.int .i64 (n : Int)) := (hr.cell 13).trans (hfC_13 _ _ n (ivS_len sec))
  have HR := Lib.hid hr
  have HBX := Lib.hid hbx
  clear hB1 hr hbx hbx'
  go_upto_region 10 with (fail)
  have q1 : ¬ (c : Int) = 5 := by have := HM.out; omega
  have q2 : (5 : Int) < (c : Int) := by have := HM.out; omega
  obtain ⟨NC, hNC⟩ : ∃ x, x = nonS (ivS sec) n := ⟨_, rfl⟩
  have hNl : NC.length = 12 := by rw [hNC]; exact nonS_len _ _ (ivS_len sec)
  have HNC := Lib.hid (fun (w' : World) (hb : Below w1.drew.heap.size w1.drew w') => (show Calls Tryd.prog 33 #[.pointer (some ⟨g, 0, none⟩)] w' (fun e w'' => e = .returned (.agg (AB NC)) ∧ Below w'.heap.size w' w'') by rw [hNC]; exact nonce_any w' g n sec ((HH1.out.below (Below.refl _ _).drew).below hb) (Nat.le_of_lt HN5.out)))
  have HSL := Lib.hid (show SlB w (.slice (some ⟨b, o + 5, none⟩) (M - 5) (c - 5)) (l.drop 5) by
    have h1 := HS.out.dropW (n := 5) (by have := HM.out; omega)
    rwa [← HM.out.1] at h1)
  have HTL := Lib.hid (show SlB w (.slice (some ⟨b, o, none⟩) 5 c) (l.take 5) from HS.out.takeW (n := 5) (m := 5) (by have := HM.out; rw [List.length_take]; omega))
  have HOA := Lib.hid (fun (w' : World) (hb : Below w1.drew.heap.size w1.drew w') => gopen_any (.pointer (some ⟨xb, 0, none⟩)) (expand (keyS sec)) (lastOf (keyS sec)) (hOf (keyS sec)) NC (.slice (some ⟨b, o + 5, none⟩) (M - 5) (c - 5)) (.slice (some ⟨b, o, none⟩) 5 c) (l.drop 5) (l.take 5) w' ((HBX.out.below (Below.refl _ _).drew).below hb) hNl (HSL.out.below (HB1.out.drew.trans (hb.mono HB1.out.size))) (by have := HM.out; rw [List.length_drop]; omega) (by have := HM.out; rw [List.length_drop]; omega) (HTL.out.below (HB1.out.drew.trans (hb.mono HB1.out.size))) (by rw [List.length_take]; omega))
  have HOP := Lib.hid (fun (w' : World) (hb : Below w1.drew.heap.size w1.drew w') => show Calls Tryd.prog 35 #[.pointer (some ⟨xb, 0, none⟩), .agg (AB NC), .slice (some ⟨b, o + 5, none⟩) (M - 5) (c - 5), .slice (some ⟨b, o, none⟩) 5 c] w' (fun e w'' => ∃ v', e = .returned (.tuple #[v', .int .i64 0]) ∧ Buf 5 w'' w'.heap.size v' inn ∧ Below w'.heap.size w' w'') by
    have := HOA.out w' hb
    rw [hNC] at this ⊢
    exact this.mono fun e w'' ⟨h1, h3⟩ => by
      rw [if_pos HT.out, HIN.out.2] at h1
      obtain ⟨v', h1, h2⟩ := h1
      exact ⟨v', h1, h2, h3⟩)
  have hrd := HR.out.drew
  have c0 := hfC_0 (.pointer (some ⟨xb, 0, none⟩)) (ivS sec) n
  clear hc0 hcn hNC
  refine wp_region_freeD 15 [40] [29, 41, 42, 8, 9] (fun d v => v = .tuple #[tupG v 0, .int .i64 0]) (fun d v w' => v = .tuple #[tupG v 0, .int .i64 0] ∧ Buf 5 w' w1.heap.size (tupG v 0) inn) (by kernel_rfl) (by kernel_rfl) (by kernel_rfl) ?hst ?hpp ?hin ?h
  case hst =>
    intro d v w w' h hb
    exact ⟨h.1, ownsRow_low h.2 hb⟩
  case hpp =>
    intro d v w h
    exact h.1
  case hin =>
    intro d
    exact ⟨.tuple #[undef, .int .i64 0], rfl⟩
  case h =>
  simp only [List.take_succ_cons, List.take_zero, List.drop_succ_cons, List.drop_zero]
  apply Exists.intro
  apply Exists.intro
  refine ⟨?_, ?_, ?_⟩
  · intro ν hν
    have H40 := Lib.hid (show ν 40 = .tuple #[tupG (ν 40) 0, .int .i64 0] from hν 40)
    iterate 3 (apply wpF_q rfl; focus (intro C hC hG; (first | go_big_quiet_skip | (go_big_quiet_want; go_big_quiet_op; first | go_big_quiet_on | (refine ⟨_, fun _ _ => rfl, ?_⟩; go_big_quiet_on)) | (go_big_quiet_want; apply qf_load1 _ _ rfl _ _ rfl; (exact hC); rotate_left 1; (focus (intro _; simp [go_sem]; done)); rotate_right 1; assumption; assumption; (simp only [Act.put, lS]; go_big_quiet_on)) | (go_big_quiet_want; apply qf_loadA _ _ rfl _ _ rfl (sz := 32); (exact hC); rotate_left 1; (focus (intro _; simp [go_sem]; done)); (focus (intro _; simp [go_sem]; done)); rotate_right 1; assumption; assumption; assumption; (simp only [Act.put, lS]; go_big_quiet_on))); exact wpQuiet_nil rfl))
    (apply wpF_q rfl; focus (intro C hC hG; go_big_quiet_want; apply qf_loadC; (focus rfl); (focus rfl); (exact hC); (focus (intro _; simp [go_sem]; done)); (exact (fun w' hb => (Row.below hrd hb hrd.lt).cell 0 |>.trans c0)); (simp only [Act.put, lS]; go_big_quiet_on); exact wpQuiet_nil rfl))
    (apply wpF_q rfl; focus (intro C hC hG; (first | go_big_quiet_skip | (go_big_quiet_want; go_big_quiet_op; first | go_big_quiet_on | (refine ⟨_, fun _ _ => rfl, ?_⟩; go_big_quiet_on)) | (go_big_quiet_want; apply qf_load1 _ _ rfl _ _ rfl; (exact hC); rotate_left 1; (focus (intro _; simp [go_sem]; done)); rotate_right 1; assumption; assumption; (simp only [Act.put, lS]; go_big_quiet_on)) | (go_big_quiet_want; apply qf_loadA _ _ rfl _ _ rfl (sz := 32); (exact hC); rotate_left 1; (focus (intro _; simp [go_sem]; done)); (focus (intro _; simp [go_sem]; done)); rotate_right 1; assumption; assumption; assumption; (simp only [Act.put, lS]; go_big_quiet_on))); exact wpQuiet_nil rfl))
    (apply wpF_q rfl; focus (intro C hC hG; go_big_quiet_want; apply qf_call; (exact hC); (exact hG); (exact (fun w' hb _ => HNC.out w' hb)); (focus (intro w; simp [go_sem]; done)); (simp only [Act.put, lS]; go_big_quiet_on); exact wpQuiet_nil rfl))
    iterate 4 (apply wpF_q rfl; focus (intro C hC hG; (first | go_big_quiet_skip | (go_big_quiet_want; go_big_quiet_op; first | go_big_quiet_on | (refine ⟨_, fun _ _ => rfl, ?_⟩; go_big_quiet_on)) | (go_big_quiet_want; apply qf_load1 _ _ rfl _ _ rfl; (exact hC); rotate_left 1; (focus (intro _; simp [go_sem]; done)); rotate_right 1; assumption; assumption; (simp only [Act.put, lS]; go_big_quiet_on)) | (go_big_quiet_want; apply qf_loadA _ _ rfl _ _ rfl (sz := 32); (exact hC); rotate_left 1; (focus (intro _; simp [go_sem]; done)); (focus (intro _; simp [go_sem]; done)); rotate_right 1; assumption; assumption; assumption; (simp only [Act.put, lS]; go_big_quiet_on))); exact wpQuiet_nil rfl))
    (apply wpF_free; (focus rfl); (focus rfl); (exact (fun w' hb _ => (HOP.out w' hb).mono fun e w'' ⟨v', h1, h2, h3⟩ => ⟨_, h1, fun d hd => by cases hd; exact ⟨rfl, h2.low hb.size⟩, h3⟩)); (focus (intro w; simp [go_sem]; done)); simp only [Act.put, vqF, pS])
    (apply wpF_d; (focus rfl); (focus rfl); (exact fun _ => rfl); simp only [Act.put, lS])
    (apply wpF_d; (focus rfl); (focus rfl); (exact (run_extract _ _ rfl rfl H40.out rfl)); simp only [Act.put, lS])
    (apply wpF_d; (focus rfl); (focus rfl); (exact (run_extract _ _ rfl rfl H40.out rfl)); simp only [Act.put, lS])
    (apply wpF_d; (focus rfl); (focus rfl); (exact fun _ => rfl); simp only [Act.put, lS])
    exact wpF_nil ⟨rfl, rfl⟩
  · intro ν ν'
    kernel_rfl
  · intro ν w4 hν hw4 hf
    have h40 : ν 40 = .tuple #[tupG (ν 40) 0, .int .i64 0] ∧ Buf 5 w4 w1.heap.size (tupG (ν 40) 0) inn := hf 40 (by decide)
    obtain ⟨vt, hvt⟩ : ∃ v, v = ν 40 := ⟨_, rfl⟩
    rw [← hvt] at h40 ⊢
    obtain ⟨ht, hbuf⟩ := h40
    obtain ⟨u, hu⟩ : ∃ u, u = tupG vt 0 := ⟨_, rfl⟩
    rw [← hu] at ht hbuf ⊢
    subst ht
    obtain ⟨a8, c8, rfl, _⟩ := hbuf.slb
    have HBF := Lib.hid hbuf
    have HB4 := Lib.hid (HB1.out.drew.trans (hw4.mono HB1.out.size))
    have hr4 := HR.out.drew.below hw4 hrd.lt
    have hlt4 := hr4.lt
    have hcn4 : w4.cell? ⟨g, 13, none⟩ = some (.int .i64 (n : Int)) := (hr4.cell 13).trans (hfC_13 _ _ n (ivS_len sec))
    clear hvt hu hbuf hf hν hw4
    simp only [Act.eval, Array.getD_eq_getD_getElem?, List.getElem?_toArray, List.getElem?_cons_succ, List.getElem?_cons_zero, Option.getD_some, List.getElem_toArray, List.getElem_cons_succ, List.getElem_cons_zero]
    have n2 : (n : Int) < 1000 := by have := HN5.out; omega
    have sn : (n : Int) + 1 = ((n + 1 : Nat) : Int) := by omega
    obtain ⟨n', hn'⟩ : ∃ m, m = n + 1 := ⟨_, rfl⟩
    rw [← hn'] at sn
    have HN' := Lib.hid hn'
    have HR4 := Lib.hid hr4
    have HH4 := Lib.hid (HH.out.below HB4.out)
    clear hn'
    go_upto_region 14 with (fail)
    obtain ⟨w5, hw5⟩ : ∃ W, W = w4.setCell ⟨g, 13, none⟩ (.int .i64 (n' : Int)) := ⟨_, rfl⟩
    rw [← hw5]
    have HR5 := Lib.hid (show Row w5 g 68 (hfC (.pointer (some ⟨xb, 0, none⟩)) (ivS sec) (n + 1)) by
      rw [hw5]
      have := HR4.out.set 13 (.int .i64 (n' : Int))
      rw [hfC_s13 _ _ _ _ (ivS_len sec)] at this
      rw [← HN'.out]
      exact this)
    have HH5 := Lib.hid (show HalfW w5 g sec (n + 1) by
      rw [hw5, ← HN'.out]
      exact HH4.out.next n')
    have HG5 := Lib.hid (show w.grownBy w5 (some g) by
      rw [hw5]
      exact (below_grown HB4.out (some g)).trans (grownBy_setW w4 g 13 _))
    have HS5 := Lib.hid (show OwnW w5 w1.heap.size (.slice a8 inn.length c8) inn by
      rw [hw5]
      refine (OwnW.of_buf HBF.out).congr fun j hj => heap_setCell_other w4 _ j _ (fun e => ?_)
      have := (OwnW.of_buf HBF.out).ge j hj
      have := HR.out.lt
      have e' : j = g := e
      omega)
    clear hw5 hcn4 hr4 hlt4
    go_wp2_with fail
    refine (trim_any w5 a8 c8 inn HS5.out.slb (by have := HIN.out.1; have := HM.out; omega)).mono ?_
    rintro e w6 ⟨⟨m, rfl, hm, ht⟩, hw6⟩
    obtain rfl := hw6.symm
    have hS6 := HS5.out.slb
    have HTT := Lib.hid ht
    have hml : (trimS inn).length = m := by rw [ht, List.length_take]; omega
    rcases Nat.eq_zero_or_pos m with hm0 | hm0
    · subst hm0
      have HE2 := Lib.hid (show endE (trimS inn) = 2 by unfold endE; rw [if_pos hml])
      clear hml hm ht hS6
      go_wp2_with fail
      go_ret3
      exact HNO.out _ HE2.out HH5.out HG5.out
    · obtain ⟨L, rfl⟩ : ∃ L, m = L + 1 := ⟨m - 1, by omega⟩
      obtain ⟨b8, o8, rfl, s1, s2, hcs⟩ := hS6.cell0 (by omega)
      obtain ⟨y, hy⟩ : ∃ y, y = gb inn L := ⟨_, rfl⟩
      have hcl : w5.cell? ⟨b8, o8 + L, none⟩ = some (B y) := by rw [hy]; exact hcs L (by omega)
      have hek : endK (trimS inn) = y := by
        unfold endK
        rw [hml, ht, hy]
        show gb (inn.take (L + 1)) L = gb inn L
        unfold gb
        rw [List.getD_eq_getElem?_getD, List.getD_eq_getElem?_getD, List.getElem?_take, if_pos (by omega)]
      have hEn : endE (trimS inn) = if kindB (y.toNat : Int) = false then 2 else 0 := by unfold endE; rw [if_neg (by omega), hek]
      have HTK := Lib.hid (show OwnW w5 w.heap.size (.slice (some ⟨b8, o8, none⟩) L c8) ((trimS inn).take ((trimS inn).length - 1)) by
        have h1 := (HS5.out.lowO HB1.out.size).takeO (n := L) (m := L) (by rw [List.length_take]; omega)
        have h2 : (trimS inn).take ((trimS inn).length - 1) = inn.take L := by rw [hml, ht, List.take_take]; congr 1; omega
        rwa [h2])
      have p1 : ((L + 1 : Nat) : Int) = (L : Int) + 1 := by omega
      have p2 : (L : Int) + 1 - 1 = (L : Int) := by omega
      have p3 : ¬ (L : Int) < 0 := by omega
      have p4 : (0 : Int) ≤ (L : Int) := by omega
      have p5 : (L : Int) < (L : Int) + 1 := by omega
      have p6 : ¬ (16384 : Int) < (L : Int) := by have := HIN.out.1; have := HM.out; omega
      have p7 : (L : Int) ≤ (c8 : Int) := by omega
      have p8 : (L : Int) ≤ 16384 := by omega
      have p9 : (y.toNat : Int) ≤ 255 := by have := y.toNat_lt; omega
      have p10 : (0 : Int) ≤ (y.toNat : Int) := by omega
      cases hkb : kindB (y.toNat : Int) with
      | false =>
        have HKB := Lib.hid hkb
        have HE2 := Lib.hid (show endE (trimS inn) = 2 by rw [hEn, if_pos hkb])
        clear hml hm ht hS6 hkb hEn hek hy s1 s2 hcs hm0
        go_wp2_with (go_at_call 29; refine (isKind_any _ _).mono ?_; rintro e w' ⟨rfl, rfl⟩; rw [HKB.out])
        go_ret3
        exact HNO.out _ HE2.out HH5.out HG5.out
      | true =>
        have HKB := Lib.hid hkb
        have HE2 := Lib.hid (show endE (trimS inn) = 0 by rw [hEn, if_neg (by rw [hkb]; decide)])
        have HEK := Lib.hid hek
        clear hml hm ht hS6 hkb hEn hek hy s1 s2 hcs hm0
        go_upto_region 20 with (go_at_call 29; refine (isKind_any _ _).mono ?_; rintro e w' ⟨rfl, rfl⟩; rw [HKB.out])
        have hcd : w5.drew.cell? ⟨b8, o8 + L, none⟩ = some (B y) := ((Below.refl _ w5).drew.cell (World.block_lt_of_cell? w5 _ hcl)).trans hcl
        refine wp_region_qtail (fun w' => w' = _) 10 (by kernel_rfl) (by kernel_rfl) rfl ?_
        simp only [List.take_succ_cons, List.take_zero, List.drop_succ_cons, List.drop_zero]
        repeat (first | go_big_quiet_skip | (go_big_quiet_want; go_big_quiet_op; go_big_quiet_on))
        refine wpQuiet_nil ?_
        rintro _ rfl
        go_wp2_with fail
        refine bodyPost_ret (results_tmp3 rfl _ _ _) rfl ?_
        have := HYE.out w5.drew _ HE2.out (HTK.out.below (Below.refl _ w5).drew) (HH5.out.below (Below.refl _ w5).drew) (HG5.out.trans (below_grown (Below.refl _ w5).drew (some g)))
        rw [HEK.out] at this
        exact this
theorem copen_any (w : World) (g n c : Nat) (sec l : List UInt8) (a : Option Addr) (h : HalfW w g sec n) (hS : SlB w (.slice a l.length c) l) (h21 : 21 ≤ l.length) (hl : l.length ≤ 1000) (hn : n < 1000) :
    Calls Tryd.prog 11 #[.pointer (some ⟨g, 0, none⟩), .slice a l.length c] w (OpenSt w g sec n l) := by
  by_cases ha : aloE l = 0
  · by_cases hk : gb l 0 = 23
    · cases ho : opnOK sec n l with
      | false => exact copen_mac w g n c sec l a h hS h21 hl hn ha hk ho
      | true => exact copen_good w g n c sec l a h hS h21 hl hn ha hk ho
    · exact copen_kind w g n c sec l a h hS hl ha hk
  · exact copen_alone w g n c sec l a h hS hl ha
end Go.Proofs.YtcfbiafedfkbhaaDoor
