/- Part of the proof: RefRec. No conditions of its own. -/
import Derived.ArgAppend
import Derived.Below
import Derived.BigQuiet
import Derived.BigRegion
import Derived.ChangeOld
import Derived.Deep.CutBlock
import Derived.Deep.DeepCutAuto
import Derived.Deep.Draws
import Derived.Deep.LoopGhost
import Derived.Deep.Quiet
import Derived.Deep.QuietTactic
import Derived.Deep.RegionHeld3
import Derived.Deep.RegionLaw
import Derived.Laws.AppendOwnNone
import Derived.Laws.Bits64
import Derived.Laws.BitsAllLaws
import Derived.Laws.BytesArg
import Derived.Laws.Concat
import Derived.Laws.CopyOwn
import Derived.Laws.MakeOwn
import Derived.Lib.AppendStr
import Derived.Lib.AppendZerosOnto
import Derived.Lib.BufferMore
import Derived.Lib.ConvBytes
import Derived.Lib.Hide
import Derived.Lib.SlBytesConst
import Derived.LoopIn
import Derived.LoopNIn
import Derived.Maps.AppendAt
import Derived.OpenShut
import Derived.OrdersIn
import Derived.OwnWalkIn
import Derived.ProofKit
import Derived.RangeFuncBound
import Derived.RangeFuncBox
import Derived.RangeFuncCalls
import Derived.RangeFuncLeaves
import Derived.RangeFuncNested
import Derived.Shelf.Abstract
import Derived.ShutString
import Derived.StillTail
import Derived.TacticsIn
import Derived.TacticsInMore
import Derived.Test.YtcfbiafedfkbhaaDoorChecked
import Derived.Test.YtcfbiafedfkbhaaDoorProg
import Derived.WalkKit
import Derived.WalkSpells
import Derived.Test.YtcfbiafedfkbhaaDoorO32
import Derived.Test.YtcfbiafedfkbhaaDoorO41
namespace Go.Proofs.YtcfbiafedfkbhaaDoor
open Go.RowKit
set_option linter.unusedVariables false
set_option linter.unusedSimpArgs false

def rowF (B : Nat) (ls : Tmp → List UInt8) (d : Tmp) (v : Value) (w : World) : Prop := ∃ g, v = .slice (some ⟨g, 0, none⟩) (ls d).length (ls d).length ∧ B ≤ g ∧ Row w g 5 (AB (ls d))
theorem rowF_stab (B : Nat) (ls : Tmp → List UInt8) : StabP (rowF B ls) := by
  intro d v w w' ⟨g, h1, h2, h3⟩ hb
  exact ⟨g, h1, h2, h3.below hb h3.lt⟩
theorem rowS {B : Nat} {ls : Tmp → List UInt8} {d : Tmp} {v : Value} {w : World} {l : List UInt8} (h : rowF B ls d v w) (hl : ls d = l) (hn : l.length ≤ 1000000) : SlB w v l := by
  obtain ⟨g, h1, h2, h3⟩ := h
  subst h1
  rw [hl] at h3 ⊢
  exact h3.slW hn
theorem rhead_23 (w : World) (n : Nat) (hn : n ≤ 900000) : Calls Tryd.prog 17 #[.int .i64 23, .int .i64 ((n : Int) + 16)] w fun e w' => e = .returned (S (headS 23 (n + 16))) ∧ Below w.heap.size w w' := by
  have := rhead_any w 23 (n + 16) (by decide) (by omega)
  rw [show (((n + 16 : Nat)) : Int) = (n : Int) + 16 by omega] at this
  exact this
theorem rgs_any (W : World) (sec I : List UInt8) (n : Nat) (hI : I.length ≤ 900000) :
    Calls Tryd.prog 18 #[S (keyS sec), .agg (AB (nonS (ivS sec) n)), S I, S (headS 23 (I.length + 16))] W fun e w' => e = .returned (S (sealW sec n I)) ∧ Below W.heap.size W w' :=
  refGSeal_any (keyS sec) (nonS (ivS sec) n) I (headS 23 (I.length + 16)) W (.inl (keyS_len sec)) (nonS_len _ _ (ivS_len sec)) (by omega) (by show 5 ≤ _; omega)
set_option maxRecDepth 100000 in
set_option maxHeartbeats 4000000 in
theorem rrs_ok (w : World) (g n k pad : Nat) (sec l : List UInt8) (hr : Row w g 39 (rhC sec n)) (hs : sec.length = 32) (hk : 21 ≤ k ∧ k ≤ 23) (hp : l.length + pad ≤ 16384) (hn : n < 1000) :
    Calls Tryd.prog 15 #[.pointer (some ⟨g, 0, none⟩), .int .i64 (k : Int), S l, .int .i64 (pad : Int)] w fun e w' => e = .returned (.tuple #[S (recS sec n (innS k l pad)), .int .i64 0]) ∧ Row w' g 39 (rhC sec (n + 1)) ∧ w.grownBy w' (some g) := by
  have hkb : kindB (k : Int) = true := by unfold kindB; simp; omega
  have HKB := Lib.hid hkb
  have HR := Lib.hid hr
  have hlt := hr.lt
  have HLT := Lib.hid hlt
  obtain ⟨x, hx⟩ : ∃ x, x = UInt8.ofNat k := ⟨_, rfl⟩
  have hu := u8wr k (k : Int) rfl
  rw [← hx] at hu
  obtain ⟨Z, hZ⟩ : ∃ Z, Z = List.replicate pad (0 : UInt8) := ⟨_, rfl⟩
  have hZl : Z.length = pad := by rw [hZ, List.length_replicate]
  obtain ⟨E1, hE1⟩ : ∃ E, E = l ++ [x] := ⟨_, rfl⟩
  obtain ⟨I, hI⟩ : ∃ I, I = innS k l pad := ⟨_, rfl⟩
  have hIe : I = E1 ++ Z := by rw [hI, hE1, hZ, hx]; rfl
  have hIl : I.length = l.length + 1 + pad := by rw [hI, innS_len]
  have a1 : ∀ W, (Op.stringOp .add ⟨l.toArray⟩ ⟨#[x]⟩).run Tryd.prog W = .ok (S E1) W := fun W => by rw [hE1]; exact add_W l [x] (by simp; omega) W
  have a2 : ∀ W, (Op.stringOp .add ⟨E1.toArray⟩ ⟨Z.toArray⟩).run Tryd.prog W = .ok (S I) W := fun W => by rw [hIe]; exact add_W E1 Z (by rw [hE1, hZl]; simp; omega) W
  have hmk := fun W => make_bytesR W pad (by omega)
  rw [← hZ] at hmk
  have cS : ∀ W : World, Row W g 39 (rhC sec n) → W.cell? ⟨g, 0, none⟩ = some (S sec) := fun W h => h.cell 0
  have cN : ∀ W : World, Row W g 39 (rhC sec n) → W.cell? ⟨g, 1, none⟩ = some (.int .i64 (n : Int)) := fun W h => h.cell 1
  have HC := Lib.hid (⟨cS, cN⟩ : _ ∧ _)
  have m0 : ¬ (pad : Int) < 0 := by omega
  have m1 : ¬ (16384 : Int) < (pad : Int) := by omega
  have m2 : ¬ (16384 : Int) < (l.length : Int) + (pad : Int) := by omega
  have m3 : (pad : Int) ≤ 16384 := by omega
  have m4 : (l.length : Int) ≤ 16384 := by omega
  have m5 : ¬ (1000 : Int) ≤ (n : Int) := by omega
  have m6 : (n : Int) ≤ 999 := by omega
  have c1 := cN w hr
  obtain ⟨hd, hhd⟩ : ∃ h, h = headS 23 (I.length + 16) := ⟨_, rfl⟩
  obtain ⟨sw, hsw⟩ : ∃ s, s = sealW sec n I := ⟨_, rfl⟩
  have a3 : ∀ W, (Op.stringOp .add ⟨hd.toArray⟩ ⟨sw.toArray⟩).run Tryd.prog W = .ok (S (recS sec n I)) W := fun W => by
    rw [recS_eq, ← hhd, ← hsw]
    exact add_W hd sw (by rw [hsw, sealW_len, hhd]; show 5 + _ ≤ _; omega) W
  have HRES := Lib.hid (show recS sec n I = recS sec n (innS k l pad) by rw [hI])
  have HH := Lib.hid (fun W => show Calls Tryd.prog 17 #[.int .i64 23, .int .i64 ((I.length : Int) + 16)] W (fun e w' => e = .returned (S hd) ∧ Below W.heap.size W w') by rw [hhd]; exact rhead_23 W I.length (by omega))
  have HG := Lib.hid (fun W => show Calls Tryd.prog 18 #[S (keyS sec), .agg (AB (nonS (ivS sec) n)), S I, S hd] W (fun e w' => e = .returned (S sw) ∧ Below W.heap.size W w') by rw [hhd, hsw]; exact rgs_any W sec I n (by omega))
  have HN := Lib.hid (fun W (h : Row W g 39 (rhC sec n)) => rnonce_any W g n _ sec h hs (by omega))
  have HL := Lib.hid (fun W => rlab_key W sec hs)
  have HZL := Lib.hid (⟨hZl, hp⟩ : _ ∧ _)
  have m7 : (I.length : Int) ≤ 16400 := by omega
  clear hkb hr hx hZ hZl hE1 hI hIe hIl hhd hsw hs hk hp hn cS cN
  go_enter Tryd.func15, Tryd.ntmps15
  go_upto_region 7 with (go_at_call 37; refine (rkind_any _ _).mono ?_; rintro e w' ⟨rfl, rfl⟩; rw [HKB.out])
  refine wp_region_free 9 [39, 43] (rowF w.heap.size (fun d => if d = 39 then [x] else Z)) (by kernel_rfl) (by kernel_rfl) (by kernel_rfl) (rowF_stab _ _) ?_
  simp only [List.take_succ_cons, List.take_zero, List.drop_succ_cons, List.drop_zero]
  apply Exists.intro
  apply Exists.intro
  refine ⟨?_, ?_, ?_⟩
  · intro ν
    iterate 3 (apply wpF_q rfl; focus (intro C hC hG; (first | go_big_quiet_skip | (go_big_quiet_want; go_big_quiet_op; first | go_big_quiet_on | (refine ⟨_, fun _ _ => rfl, ?_⟩; go_big_quiet_on)) | (go_big_quiet_want; apply qf_load1 _ _ rfl _ _ rfl; (exact hC); rotate_left 1; (focus (intro _; simp [go_sem]; done)); rotate_right 1; assumption; assumption; (simp only [Act.put, lS]; go_big_quiet_on)) | (go_big_quiet_want; apply qf_loadA _ _ rfl _ _ rfl (sz := 32); (exact hC); rotate_left 1; (focus (intro _; simp [go_sem]; done)); (focus (intro _; simp [go_sem]; done)); rotate_right 1; assumption; assumption; assumption; (simp only [Act.put, lS]; go_big_quiet_on))); exact wpQuiet_nil rfl))
    apply wpF_alloc rfl rfl
    · intro w' hb _
      refine ⟨.slice (some ⟨w'.heap.size, 0, none⟩) 1 1, w'.alloc (.cells #[B x] 5), ?_, ?_, (Below.refl _ w').alloc (Nat.le_refl _) _⟩
      · simp [go_sem]
      · intro d hd
        cases hd
        exact ⟨_, rfl, hb.size, Row.new _ _ _⟩
    simp only [Act.put, vqF, pS]
    (apply wpF_q rfl; focus (intro C hC hG; go_big_quiet_want; apply qf_conv; (focus rfl); (exact hC); (focus rfl); (exact Tryd.underlying23); (exact Tryd.underlying5); (exact Tryd.underlying9); (exact (fun w' hb hf => rowS (l := [x]) (hf 39 (by decide) rfl) rfl (by simp))); (simp only [Act.put, lS]; go_big_quiet_on); exact wpQuiet_nil rfl))
    iterate 2 (apply wpF_q rfl; focus (intro C hC hG; (first | go_big_quiet_skip | (go_big_quiet_want; go_big_quiet_op; first | go_big_quiet_on | (refine ⟨_, fun _ _ => rfl, ?_⟩; go_big_quiet_on)) | (go_big_quiet_want; apply qf_load1 _ _ rfl _ _ rfl; (exact hC); rotate_left 1; (focus (intro _; simp [go_sem]; done)); rotate_right 1; assumption; assumption; (simp only [Act.put, lS]; go_big_quiet_on)) | (go_big_quiet_want; apply qf_loadA _ _ rfl _ _ rfl (sz := 32); (exact hC); rotate_left 1; (focus (intro _; simp [go_sem]; done)); (focus (intro _; simp [go_sem]; done)); rotate_right 1; assumption; assumption; assumption; (simp only [Act.put, lS]; go_big_quiet_on))); exact wpQuiet_nil rfl))
    apply wpF_alloc rfl rfl
    · intro w' hb _
      refine ⟨.slice (some ⟨w'.heap.size, 0, none⟩) pad pad, w'.alloc (.cells (AB Z) 5), ?_, ?_, (Below.refl _ w').alloc (Nat.le_refl _) _⟩
      · simp [go_sem, hmk]
      · intro d hd
        cases hd
        exact ⟨w'.heap.size, by show Value.slice _ pad pad = Value.slice _ Z.length Z.length; rw [HZL.out.1], hb.size, Row.new _ _ _⟩
    simp only [Act.put, vqF, pS]
    (apply wpF_q rfl; focus (intro C hC hG; go_big_quiet_want; apply qf_conv; (focus rfl); (exact hC); (focus rfl); (exact Tryd.underlying23); (exact Tryd.underlying5); (exact Tryd.underlying9); (exact (fun w' hb hf => rowS (l := Z) (hf 43 (by decide) rfl) rfl (by have := HZL.out; omega))); (simp only [Act.put, lS]; go_big_quiet_on); exact wpQuiet_nil rfl))
    exact wpF_nil ⟨rfl, rfl⟩
  · intro ν ν'
    kernel_rfl
  · intro ν w4 hw4 hf
    have HR4 := Lib.hid (show Row w4 g 39 (rhC sec n) from (HR.out.drew).below hw4 HLT.out)
    have HB4 := Lib.hid (show Below w.heap.size w w4 from (Below.refl _ _).drew.trans hw4)
    have c0 := HC.out.1 w4 HR4.out
    clear hf hw4 c1
    go_wp2_with fail
    refine (HL.out _).mono ?_
    rintro e w5 ⟨rfl, hB5⟩
    have HB5 := Lib.hid (HB4.out.trans (hB5.mono HB4.out.size))
    have HR5 := Lib.hid (show Row w5 g 39 (rhC sec n) from HR4.out.below hB5 (by have := HLT.out; have := HB4.out.size; omega))
    clear c0 hB5
    go_wp2_with fail
    refine (HH.out _).mono ?_
    rintro e w6 ⟨rfl, hB6⟩
    have HB6 := Lib.hid (HB5.out.trans (hB6.mono HB5.out.size))
    have HR6 := Lib.hid (show Row w6 g 39 (rhC sec n) from HR5.out.below hB6 (by have := HLT.out; have := HB5.out.size; omega))
    clear hB6
    go_wp2_with fail
    refine (HN.out _ HR6.out).mono ?_
    rintro e w7 ⟨rfl, hB7⟩
    have HB7 := Lib.hid (HB6.out.trans (hB7.mono HB6.out.size))
    have HR7 := Lib.hid (show Row w7 g 39 (rhC sec n) from HR6.out.below hB7 (by have := HLT.out; have := HB6.out.size; omega))
    clear hB7
    go_wp2_with fail
    refine (HG.out _).mono ?_
    rintro e w8 ⟨rfl, hB8⟩
    have HB8 := Lib.hid (HB7.out.trans (hB8.mono HB7.out.size))
    have hr8 := (show Row w8 g 39 (rhC sec n) from HR7.out.below hB8 (by have := HLT.out; have := HB7.out.size; omega))
    have c8 := HC.out.2 w8 hr8
    have f8 : w8.frozen? ⟨g, 1, none⟩ = false := hr8.frozen 1
    have HR8 := Lib.hid hr8
    clear hB8 hr8
    go_wp2_with fail
    go_ret2
    refine ⟨by rw [← HRES.out]; rfl, ?_, ?_⟩
    · have := HR8.out.set 1 (.int .i64 ((n + 1 : Nat) : Int))
      exact this
    · exact (below_grown HB8.out (some g)).trans (grownBy_setW w8 g 1 _)
end Go.Proofs.YtcfbiafedfkbhaaDoor
