/- Part of the proof: PeerNaks, Door, Laid, LaidP, LaidW, PeerNaksF. No conditions of its own. -/
import Derived.ArgAppend
import Derived.Below
import Derived.BigQuiet
import Derived.Deep.CutBlock
import Derived.Deep.DeepCutAuto
import Derived.Deep.Draws
import Derived.Deep.LoopGhost
import Derived.Deep.Quiet
import Derived.Deep.QuietTactic
import Derived.Deep.RegionLaw
import Derived.KernelRfl
import Derived.Laws.AppendOwnNone
import Derived.Laws.Bits64b
import Derived.Laws.BitsAllLaws
import Derived.Laws.BytesArg
import Derived.Laws.CopyOwn
import Derived.Laws.CopyRow
import Derived.Laws.NewFold
import Derived.Laws.Strings
import Derived.Lib.AppendStr
import Derived.Lib.ConvBytes
import Derived.Lib.Hide
import Derived.Lib.MakeNoZero
import Derived.LoopIn
import Derived.LoopNIn
import Derived.Maps.AppendAt
import Derived.Orders
import Derived.OrdersIn
import Derived.OwnWalkIn
import Derived.RangeFuncBound
import Derived.RangeFuncCalls
import Derived.RangeFuncLeaves
import Derived.RangeFuncNested
import Derived.RangeFuncWrites
import Derived.RowKit3
import Derived.Shelf.Abstract
import Derived.Shelf.Bits.Mul64
import Derived.Shelf.Spec.BitsCarry
import Derived.StillTail
import Derived.Stop.BytesEq
import Derived.TacticsIn
import Derived.TacticsInMore
import Derived.Test.YtjpfhhndjpdmoaaGreatDoorProg
import Derived.Test.YtjpfhhndjpdmoaaGreatDoorRows
import Derived.WalkKit
import Derived.Test.YtjpfhhndjpdmoaaGreatDoorK47
import Derived.Test.YtjpfhhndjpdmoaaGreatDoorK48
import Derived.ChangeOld
import Derived.OpenShut
import Derived.ProofKit
import Derived.ShutString
import Derived.Test.YtjpfhhndjpdmoaaGreatDoorK27
import Derived.LaidMore
import Derived.Lay
import Derived.SevenTiedAt
import Derived.Stop.Joined
import Derived.Test.YtjpfhhndjpdmoaaGreatDoorK31
import Derived.LaidSub
import Derived.Test.YtjpfhhndjpdmoaaGreatDoorK23
import Derived.LaidHandle
import Derived.Test.YtjpfhhndjpdmoaaGreatDoorK18
import Derived.JoinedOf
namespace Go.Proofs.YtjpfhhndjpdmoaaGreatDoor
open Go.RowKit
set_option linter.unusedVariables false
set_option linter.unusedSimpArgs false

noncomputable def nuK (t1 t2 t3 t4 t5 t6 t7 : TypeId) (f : Nat → Option Loc) : Env := fun i => if i < GN then nu0 t1 t2 t3 t4 t5 t6 t7 i else if SB ≤ i then f i else none
section
variable {w : World} {t1 t2 t3 t4 t5 t6 t7 : TypeId} {f : Nat → Option Loc}
theorem nuK_low (i : Nat) (hi : i < GN) : nuK t1 t2 t3 t4 t5 t6 t7 f i = nu0 t1 t2 t3 t4 t5 t6 t7 i := by unfold nuK; rw [if_pos hi]
theorem nuK_at (i : Nat) (hi : SB ≤ i) : nuK t1 t2 t3 t4 t5 t6 t7 f i = f i := by
  have h0 : GN < SB := by decide
  have h1 : ¬ i < GN := by omega
  unfold nuK; rw [if_neg h1, if_pos hi]
theorem nuK_free : Free (nuK t1 t2 t3 t4 t5 t6 t7 f) GN := by
  intro i h1 h2
  unfold nuK
  rw [if_neg (by omega), if_neg (by omega)]
theorem nuK_ext : Ext (nu0 t1 t2 t3 t4 t5 t6 t7) (nuK t1 t2 t3 t4 t5 t6 t7 f) := by
  intro i x h
  have hi : i < GN := by
    unfold nu0 at h
    by_cases hi : i < GN
    · exact hi
    · rw [if_neg hi] at h; cases h
  rw [nuK_low i hi]
  exact h
theorem nuK_glob : GlobE Tryz.prog (nuK t1 t2 t3 t4 t5 t6 t7 f) := by
  intro g hg'
  have hs : Tryz.prog.globals.size = GN := by kernel_rfl
  rw [hs] at hg'
  exact ⟨_, by rw [nuK_low g hg']; unfold nu0; rw [if_pos hg']⟩
theorem startK {GE : Env → Prop} [GEok Tryz.prog GE] (hg : GRows w t1 t2 t3 t4 t5 t6 t7) {args : List LV} {vs : List Value} {nt N : Nat} (hN : args.length + (nt - args.length) = N) (hv : VRs (nuK t1 t2 t3 t4 t5 t6 t7 f) args vs) (hG : GE (nuK t1 t2 t3 t4 t5 t6 t7 f)) :
    StR Tryz.prog GE GN w.heap.size w (nuK t1 t2 t3 t4 t5 t6 t7 f) ⟨N, argsT 0 args .nil, GH t1 t2 t3 t4 t5 t6 t7, GN, []⟩ { tmps := vs.toArray ++ Array.replicate (nt - vs.toArray.size) undef, defers := [] } w := by
  rw [← hN]
  refine entry hv ((gh_hrf hg).ext nuK_ext) (fun i k l' _ hi hk _ => ?_) (fun i j ki kj li lj hi hj h4 h5 h6 => ?_) (fun i k hk => gh_low hk) hG (Below.refl _ w)
  · have := gh_low hk; omega
  · rw [nuK_low i (gh_low hi)] at h4
    rw [nuK_low j (gh_low hj)] at h5
    rw [← nu0_some h4, ← nu0_some h5, h6]
end
theorem slb_out {w : World} {v : Value} {l : List UInt8} (h : SlB w v l) : ∃ g o c fl : Nat, v = .slice (if fl = 0 then none else some ⟨g, o, none⟩) l.length c ∧ l.length ≤ c ∧ c ≤ maxLen ∧ (fl = 0 → c = 0) ∧ (l.length ≠ 0 → fl ≠ 0) ∧ ∀ i, i < l.length → ∀ w', Below w.heap.size w w' → w'.cell? ⟨g, o + i, none⟩ = some (.int .u8 ((l.getD i 0).toNat : Int)) := by
  obtain ⟨ad, cap, rfl, hcl, hcm, hnone, hcells⟩ := h
  cases ad with
  | none =>
    have hc0 := hnone rfl
    have h0 : l.length = 0 := by omega
    exact ⟨0, 0, cap, 0, by simp, hcl, hcm, fun _ => hc0, fun h => absurd h0 h, fun i hi => by omega⟩
  | some x =>
    obtain ⟨hsp, hcc⟩ := hcells x rfl
    obtain ⟨g, o, sp⟩ := x
    simp only at hsp
    subst hsp
    refine ⟨g, o, cap, 1, by simp, hcl, hcm, fun h => by omega, fun _ => by omega, fun i hi w' hb => ?_⟩
    have h1 := hcc i hi
    have h2 : w.cell? ⟨g, o + i, none⟩ = some (B (gb l i)) := h1
    have hlt : g < w.heap.size := by
      by_cases hlt : g < w.heap.size
      · exact hlt
      · exfalso
        have : w.heap[g]? = none := by rw [Array.getElem?_eq_none_iff]; omega
        simp [World.cell?, this] at h2
    have h3 : w'.cell? ⟨g, o + i, none⟩ = w.cell? ⟨g, o + i, none⟩ := World.cell?_of_block (by rw [hb.block g hlt])
    rw [h3, h2]
    simp [B, gb]
theorem nkAll_ok (t1 t2 t3 t4 t5 t6 t7 : TypeId) (M : Nat) (h : M < 52) : nkAll t1 t2 t3 t4 t5 t6 t7 M = true := by
  by_cases h1 : M < 9
  · exact nkUp_ok (nkAll_0 t1 t2 t3 t4 t5 t6 t7) M (by omega) (by omega)
  by_cases h2 : M < 18
  · exact nkUp_ok (nkAll_1 t1 t2 t3 t4 t5 t6 t7) M (by omega) (by omega)
  by_cases h3 : M < 27
  · exact nkUp_ok (nkAll_2 t1 t2 t3 t4 t5 t6 t7) M (by omega) (by omega)
  by_cases h4 : M < 36
  · exact nkUp_ok (nkAll_3 t1 t2 t3 t4 t5 t6 t7) M (by omega) (by omega)
  by_cases h5 : M < 44
  · exact nkUp_ok (nkAll_4 t1 t2 t3 t4 t5 t6 t7) M (by omega) (by omega)
  · exact nkUp_ok (nkAll_5 t1 t2 t3 t4 t5 t6 t7) M (by omega) (by omega)
theorem nkD_low (M st : Nat) (hst : st = 0 ∨ st = 1) : ((nkPat (nkL M) st).D.all fun q => Nat.ble GN q.1) = true := by
  rcases hst with rfl | rfl
  · kernel_rfl
  · kernel_rfl
theorem nk_end {p : NkA} {w0 : World} {M st : Nat} (H : NkW p w0) (hst : st = 0 ∨ st = 1) (hr : nkEnd p.t1 p.t2 p.t3 p.t4 p.t5 p.t6 p.t7 M st = true) {ν : Env} {a : Act} {w : World} (hs : StR Tryz.prog (NkG p []) GN w0.heap.size w0 ν (stOf 115 (nkPat (nkL M) st)) a w) (hf : Free ν 4606) : nkEn.wp Tryz.prog (EndT Tryz.prog (NkG p []) GN w0.heap.size w0 Tryz.f4.results.toList) a w := by
  have h1 := hs.addG H.rows hs.glob.low (fun i k hk => Nat.le_of_ble_eq_true (List.all_eq_true.1 (nkD_low M st hst) (i, k) (hpOf_get hk))) (Nat.le_of_ble_eq_true (by kernel_rfl))
  unfold nkEnd at hr
  exact stretchE (n := 1000) (c := nkEn) (s := nkEs p.t1 p.t2 p.t3 p.t4 p.t5 p.t6 p.t7 M st) (by kernel_rfl) (evE_ok H.hW H.hC H.rows) (Nat.le_refl _) hr h1 hf
theorem pnaks_law (v1 : Value) (ks : List UInt8) (v2 : Value) (ds : List UInt8) (w : World) (h1 : SlB w v1 ks) (h2 : SlB w v2 ds) (hW : HashW w) (hC : CurveW w) : Calls Tryz.prog nkF #[v1, v2] w fun e w' => e = .returned (.bool true) ∧ Below w.heap.size w w' := by
  obtain ⟨t1, t2, t3, t4, t5, t6, t7, hg⟩ := grows hW hC
  obtain ⟨g, o, c, fl, rfl, hcl, hcm, hz, hfl, hcell⟩ := slb_out h1
  obtain ⟨g2, o2, c2, fl2, rfl, hcl2, hcm2, hz2, hfl2, hcell2⟩ := slb_out h2
  have hn : ks.length ≤ 9223372036854775807 := by unfold maxLen at hcm; omega
  have hn2 : ds.length ≤ 9223372036854775807 := by unfold maxLen at hcm2; omega
  let p : NkA := ⟨g, o, c, fl, ks, g2, o2, c2, fl2, ds, t1, t2, t3, t4, t5, t6, t7⟩
  have H : NkW p w := ⟨hn, hfl, hcell, hn2, hfl2, hcl2, hz2, hcell2, hg, hW, hC⟩
  let f : Nat → Option Loc := fun i => if i = 1001000 then some ⟨g, o⟩ else if i = 1001001 then some ⟨ks.length, c⟩ else if i = 1001002 then some ⟨fl, 0⟩ else if i = 1001010 then some ⟨g2, o2⟩ else if i = 1001011 then some ⟨ds.length, c2⟩ else if i = 1001012 then some ⟨fl2, 0⟩ else if 1000100 ≤ i ∧ i < 1000150 then some ⟨(ds.getD (i - 1000100) 0).toNat, 0⟩ else none
  have hA0 : nuK t1 t2 t3 t4 t5 t6 t7 f 1001000 = some ⟨g, o⟩ := by rw [nuK_at _ (Nat.le_of_ble_eq_true rfl)]; rfl
  have hA1 : nuK t1 t2 t3 t4 t5 t6 t7 f 1001001 = some ⟨ks.length, c⟩ := by rw [nuK_at _ (Nat.le_of_ble_eq_true rfl)]; rfl
  have hA2 : nuK t1 t2 t3 t4 t5 t6 t7 f 1001002 = some ⟨fl, 0⟩ := by rw [nuK_at _ (Nat.le_of_ble_eq_true rfl)]; rfl
  have hD0 : nuK t1 t2 t3 t4 t5 t6 t7 f 1001010 = some ⟨g2, o2⟩ := by rw [nuK_at _ (Nat.le_of_ble_eq_true rfl)]; rfl
  have hD1 : nuK t1 t2 t3 t4 t5 t6 t7 f 1001011 = some ⟨ds.length, c2⟩ := by rw [nuK_at _ (Nat.le_of_ble_eq_true rfl)]; rfl
  have hD2 : nuK t1 t2 t3 t4 t5 t6 t7 f 1001012 = some ⟨fl2, 0⟩ := by rw [nuK_at _ (Nat.le_of_ble_eq_true rfl)]; rfl
  have hsy : ∀ k, k < 50 → nuK t1 t2 t3 t4 t5 t6 t7 f (1000100 + k) = some ⟨(ds.getD k 0).toNat, 0⟩ := by
    intro k hk
    have hsb : SB = 1000000 := rfl
    rw [nuK_at _ (by omega)]
    show (if 1000100 + k = 1001000 then some (⟨g, o⟩ : Loc) else if 1000100 + k = 1001001 then some ⟨ks.length, c⟩ else if 1000100 + k = 1001002 then some ⟨fl, 0⟩ else if 1000100 + k = 1001010 then some ⟨g2, o2⟩ else if 1000100 + k = 1001011 then some ⟨ds.length, c2⟩ else if 1000100 + k = 1001012 then some ⟨fl2, 0⟩ else if 1000100 ≤ 1000100 + k ∧ 1000100 + k < 1000150 then some ⟨(ds.getD (1000100 + k - 1000100) 0).toNat, 0⟩ else none) = _
    rw [if_neg (by omega), if_neg (by omega), if_neg (by omega), if_neg (by omega), if_neg (by omega), if_neg (by omega), if_pos (by omega), Nat.add_sub_cancel_left]
  have hGE : NkG p [] (nuK t1 t2 t3 t4 t5 t6 t7 f) := by
    refine ⟨nuK_glob, fun i hi => nuK_low i hi, fun q hq => ?_, hsy, fun q hq => by cases hq⟩
    simp only [nkFx, List.mem_cons, List.not_mem_nil, or_false] at hq
    rcases hq with rfl | rfl | rfl | rfl | rfl | rfl
    · exact hA0
    · exact hA1
    · exact hA2
    · exact hD0
    · exact hD1
    · exact hD2
  have hv1 : VR (nuK t1 t2 t3 t4 t5 t6 t7 f) (.outS 1001000) (.slice (if fl = 0 then none else some ⟨g, o, none⟩) ks.length c) := by
    simp only [VR]
    exact ⟨_, _, _, hA0, hA1, hA2, rfl⟩
  have hv2 : VR (nuK t1 t2 t3 t4 t5 t6 t7 f) (.outS 1001010) (.slice (if fl2 = 0 then none else some ⟨g2, o2, none⟩) ds.length c2) := by
    simp only [VR]
    exact ⟨_, _, _, hD0, hD1, hD2, rfl⟩
  have hE := evP_ok (GE := NkG p []) hW hC
  have hs := startK (GE := NkG p []) hg (f := f) (nt := Tryz.f4.ntmps) (N := 115) (args := [.outS 1001000, .outS 1001010]) (vs := [.slice (if fl = 0 then none else some ⟨g, o, none⟩) ks.length c, .slice (if fl2 = 0 then none else some ⟨g2, o2, none⟩) ds.length c2]) (by kernel_rfl) (VRs.cons_iff.2 ⟨_, _, rfl, hv1, VRs.cons_iff.2 ⟨_, _, rfl, hv2, VRs.nil_iff.2 rfl⟩⟩) hGE
  refine law_wp (nB := GN) (B := w.heap.size) (w0 := w) (GE := NkG p []) (c := nkB) Tryz.func4 (by kernel_rfl) (vs := [.slice (if fl = 0 then none else some ⟨g, o, none⟩) ks.length c, .slice (if fl2 = 0 then none else some ⟨g2, o2, none⟩) ds.length c2]) ?_
  -- the length of the data
  obtain ⟨M, hM, hM52⟩ : ∃ M, NkM p M ∧ M < 52 := by
    by_cases hd : ds.length ≤ 50
    · exact ⟨ds.length, .inl ⟨hd, rfl⟩, by omega⟩
    · exact ⟨51, .inr ⟨rfl, by show 51 ≤ ds.length; omega⟩, by omega⟩
  have hAll := nkAll_ok t1 t2 t3 t4 t5 t6 t7 M hM52
  unfold nkAll at hAll
  simp only [Bool.and_eq_true] at hAll
  obtain ⟨hO, hE1⟩ := hAll
  have hB0 := nkBeg_ok t1 t2 t3 t4 t5 t6 t7
  unfold nkBeg at hB0
  refine pre_okX (GE2 := NkG p []) (callf := cfP) (lf := 100000) (n := 3) (c := nkB) (s := nkSt0 t1 t2 t3 t4 t5 t6 t7) (t := nkPat1) (σ := nkSg0) (by kernel_rfl) hE (Nat.le_refl _) hB0 (fun ν' g1 g2 => g1.env g2 kb_L.2 (fun q hq => by cases hq)) hs nuK_free (fun a5 w5 ν5 hs5 hf5 _ => ?_)
  show nkC3.wp Tryz.prog _ a5 w5
  have hB1 := nkUp_ok nkBeg1_ok M (Nat.zero_le _) (by omega)
  unfold nkBeg1 at hB1
  refine wpSeq (c := nkC3) (by kernel_rfl) ?_
  refine pre_okX (GE2 := NkG p (nkKn 0 0 0 0)) (callf := cfP) (lf := 1000) (n := 0) (c := Cd.a nkC3) (s := stOf 115 nkPat1) (t := nkPat (nkL M) 0) (σ := nkSgL) (by kernel_rfl) hE (Nat.le_refl _) hB1 (fun ν' g1 g2 => g1.env g2 kb_L.1 (fun q hq => by
    simp only [nkKn, List.mem_cons, List.not_mem_nil, or_false] at hq
    subst hq
    kernel_rfl)) hs5 hf5 (fun a6 w6 ν6 hs6 hf6 _ => ?_)
  refine wpBlock (by kernel_rfl) (wpLoop (by kernel_rfl) ?_)
  refine nk_loop H hM hO (fun st ν a w' hst hsE hfE => ?_) 10 0 rfl 0 0 0 _ _ _ (.inl rfl) ⟨hs6, hf6, fun k hk => ?_⟩
  · show (if 0 = Cd.id (Cd.drop 0 (Cd.a nkC3)) then _ else _)
    rw [if_pos (by kernel_rfl)]
    have hend : nkEnd p.t1 p.t2 p.t3 p.t4 p.t5 p.t6 p.t7 M st = true := by
      rcases hst with rfl | rfl
      · have h0 := nkEnd0_ok t1 t2 t3 t4 t5 t6 t7
        unfold nkEnd at h0 ⊢
        rw [nkEs_0]
        exact h0
      · exact hE1
    exact nk_end H hst hend hsE hfE
  · simp only [List.mem_cons, List.not_mem_nil, or_false] at hk
    rcases hk with rfl | rfl | rfl | rfl | rfl | rfl | rfl | rfl <;> kernel_rfl
end Go.Proofs.YtjpfhhndjpdmoaaGreatDoor

namespace Go.Proofs.YtjpfhhndjpdmoaaGreatDoor
open Go.RowKit

theorem wf_byte {n : Int} (h : (Lit.int .u8 n).wf = true) : ∃ x : UInt8, n = (x.toNat : Int) := by
  have hb := bounds_u8 h
  refine ⟨UInt8.ofNat n.toNat, ?_⟩
  rw [UInt8.toNat_ofNat']
  omega
section
variable {H : Type} {enc : TypeId × Value → H} {P : Program} {w : World} {base : Nat} {spare : Nat → Bool} {held : Bool}
theorem open_byt {r : Reach} {b0 : Nat} {t e : TypeId} {v : Value} {d : DataW H} {ps : List MemPlace} (ht : P.underlying t = some (.slice e)) (he : P.underlying e = some (.int .u8)) (hc : P.cellsOf e = 1)
    (hval : Value.okWide P w r b0 t v) (hd : DataW.Trod enc P w 0 (fun _ => true) held t v d ps) : ∃ l : List UInt8, SlB w v l := by
  obtain ⟨a, len, cap, rfl⟩ := Go.WideShapes.okWide_slice ht hval
  obtain ⟨fuel, hf⟩ := hd
  rcases Go.ChangeShapes.open_ints ht he hc hf with ⟨hcs, _⟩ | ⟨x, l, c, zs, hcs, _, hl, hm, hz, _, hcell, hwz⟩
  · simp [Value.cells] at hcs
    obtain ⟨rfl, rfl, rfl⟩ := hcs
    exact ⟨[], none, 0, rfl, Nat.le_refl _, Nat.zero_le _, fun _ => rfl, fun _ h => by cases h⟩
  · simp [Value.cells] at hcs
    obtain ⟨rfl, rfl, rfl⟩ := hcs
    rw [if_pos rfl] at hz
    have hs : x.spot = none := by
      simp only [Value.okWide, ht, Cell.okWide, Cell.ok] at hval
      exact hval.2.2.2.1
    have hzs : ∀ i, i < cap → zs.getD i 0 = ((UInt8.ofNat (zs.getD i 0).toNat).toNat : Int) := by
      intro i hi
      have hmem : zs.getD i 0 ∈ zs := by
        rw [List.getD_eq_getElem?_getD, List.getElem?_eq_getElem (by omega)]
        exact List.getElem_mem _
      obtain ⟨y, hy⟩ := wf_byte (hwz _ hmem)
      rw [hy]
      simp
    refine ⟨(zs.take len).map fun k => UInt8.ofNat k.toNat, some x, cap, ?_, ?_, hm, (fun h => by cases h), fun ad had => ?_⟩
    · congr 1; simp; omega
    · simp; omega
    · obtain rfl := Option.some.inj had
      refine ⟨hs, fun i hi => ?_⟩
      have hi' : i < len := by simpa using (by simp at hi; omega : i < len)
      have h1 := hcell i (by omega)
      obtain ⟨b, o, s⟩ := x
      simp only at hs
      subst hs
      rw [Addr.add_lit] at h1
      rw [h1, hzs i (by omega)]
      simp [gb, hi', show i < zs.length by omega]
end
end Go.Proofs.YtjpfhhndjpdmoaaGreatDoor

/- A slice of bytes that came in as a cell of a struct. -/
namespace Go.Proofs.YtjpfhhndjpdmoaaGreatDoor
open Go.RowKit
section
variable {H : Type} {enc : TypeId × Value → H} {P : Program} {w : World} {held : Bool}
end
end Go.Proofs.YtjpfhhndjpdmoaaGreatDoor

namespace Go.Proofs.YtjpfhhndjpdmoaaGreatDoor
open Go.RowKit

theorem laid_row {P : Program} {W : World} {nm : String} {g : Nat} {cs : Array Value} {vs : List Value} {ps : List MemPlace} (hg : P.globalNamed nm = some g) (hv : W.var? P nm = some cs) (hcs : cs.toList = vs) (hpos : 0 < vs.length)
    (hm : ∀ b off, MemPlace.cell b off ∈ ps → (∃ c t, W.heap[b]? = some (.cells c t (0, 0)))) (hp : ∀ x, x ∈ MemPlace.row ⟨g, 0, none⟩ cs.size → x ∈ ps) : ∃ t, Row W g t vs.toArray := by
  have hsz : 0 < cs.size := by rw [← Array.length_toList, hcs]; exact hpos
  obtain ⟨c, t, hh⟩ := hm g 0 (hp _ (List.mem_map.2 ⟨0, List.mem_range.2 hsz, by simp⟩))
  simp only [World.var?, hg, Option.bind_some, hh, Option.some.injEq] at hv
  subst hv
  refine ⟨t, .of_heap ?_⟩
  rw [hh, ← hcs]
def numsOf {H : Type} : List (DataW H) → List Int
  | [] => []
  | .lit (.int _ z) :: r => z :: numsOf r
  | _ :: r => numsOf r
def partsOf {H : Type} : DataW H → List (DataW H)
  | .agg l => l
  | _ => []
abbrev hashLaid : List (String × DataW Unit) := [("tollgate/hash.start", Rows.laid_tollgate_hash_start), ("tollgate/hash.rounds", Rows.laid_tollgate_hash_rounds), ("unicode/utf8.acceptRanges", Rows.laid_unicode_utf8_acceptRanges), ("unicode/utf8.first", Rows.laid_unicode_utf8_first)]
theorem start_nums : (Rows.laid_tollgate_hash_start : DataW Unit) = .agg ((startS.map fun x => (x.toNat : Int)).map fun z => .lit (.int .u32 z)) := by kernel_rfl
theorem rounds_nums : (Rows.laid_tollgate_hash_rounds : DataW Unit) = .agg ((roundsS.map fun x => (x.toNat : Int)).map fun z => .lit (.int .u32 z)) := by kernel_rfl
end Go.Proofs.YtjpfhhndjpdmoaaGreatDoor

namespace Go.Proofs.YtjpfhhndjpdmoaaGreatDoor
open Go.RowKit
set_option linter.unusedVariables false

theorem laid_int {H : Type} {enc : TypeId × Value → H} {P : Program} {w : World} {base fuel n : Nat} {sp : Nat → Bool} {held : Bool} {t e : TypeId} {k : IntKind} {cs : List Value} {zs : List Int} {p : List MemPlace}
    (ht : P.underlying t = some (.array n e)) (he : P.underlying e = some (.int k)) (hc : P.cellsOf e = 1) (hct : P.cellsOf t = n)
    (h : DataW.trod enc P w base sp held fuel t cs = some (.agg (zs.map fun z => .lit (.int k z)), p)) : cs = zs.map (.int k) := by
  obtain ⟨xs, m, _, ex, hl, hxs, hel⟩ := DataW.trod_array ht h
  have e3 : xs.map (·.1) = zs.map fun z => (DataW.lit (.int k z) : DataW H) := (DataW.agg.inj (Prod.mk.inj ex).1).symm
  have hz : zs.length = n := by have := congrArg List.length e3; simpa [hxs] using this.symm
  rw [hct] at hl
  apply List.ext_getElem (by simp; omega)
  intro i h1 h2
  have hi : i < n := by omega
  have hE := hel i hi
  rw [hc, Nat.mul_one, List.getElem?_eq_getElem (by omega)] at hE
  obtain ⟨z, e1, e2, _⟩ := DataW.trod_int he hE
  have e4 := congrArg (fun l : List (DataW H) => l[i]?) e3
  simp only [List.getElem?_map] at e4
  rw [List.getElem?_eq_getElem (by omega : i < xs.length), List.getElem?_eq_getElem (by omega : i < zs.length), e2] at e4
  simp only [Option.map_some, Option.some.injEq, DataW.lit.injEq, Lit.int.injEq, true_and] at e4
  have h0 : ((cs.drop i).take 1)[0]? = some (.int k z) := by rw [e1]; rfl
  have h5 : cs[i]? = some (.int k z) := by simpa using h0
  rw [List.getElem?_eq_getElem h1] at h5
  rw [Option.some.inj h5, e4]
  simp
theorem laid_mem {P : Program} {W : World} : ∀ {l : List (String × DataW Unit)} {ps : List MemPlace}, DataW.LaidVars P W l ps → ∀ (n : String) (d : DataW Unit), (n, d) ∈ l →
    ∃ g t cs fuel p, P.globalNamed n = some g ∧ (P.globals[g]?).map (·.type) = some t ∧ W.var? P n = some cs ∧ DataW.trod (fun _ => ()) P W 0 (fun _ => true) false fuel t cs.toList = some (d, p) ∧ ∀ x ∈ MemPlace.row ⟨g, 0, none⟩ cs.size, x ∈ ps
  | [], ps, h, n, d, hm => by cases hm
  | (n', d') :: r, ps, h, n, d, hm => by
    obtain ⟨g, t, cs, fuel, p, q, hg, ht, hv, hd, hr, hps⟩ := h
    rcases List.mem_cons.1 hm with e | hm
    · obtain ⟨rfl, rfl⟩ := Prod.mk.inj e
      exact ⟨g, t, cs, fuel, p, hg, ht, hv, hd, fun x hx => by rw [hps]; simp [hx]⟩
    · obtain ⟨g2, t2, cs2, fuel2, p2, h1, h2, h3, h4, h5⟩ := laid_mem hr n d hm
      exact ⟨g2, t2, cs2, fuel2, p2, h1, h2, h3, h4, fun x hx => by rw [hps]; simp [h5 x hx]⟩
theorem laid_nums {P : Program} {W : World} {l : List (String × DataW Unit)} (h : laidMetH P l W) {nm : String} {d : DataW Unit} {k : IntKind} {zs : List Int} {g n : Nat} {t e : TypeId} (hm : (nm, d) ∈ l) (hh : d.handleName?.isNone = true) (hd : d = .agg (zs.map fun z => .lit (.int k z)))
    (hg : P.globalNamed nm = some g) (hty : (P.globals[g]?).map (·.type) = some t) (ht : P.underlying t = some (.array n e)) (he : P.underlying e = some (.int k)) (hc : P.cellsOf e = 1) (hct : P.cellsOf t = n) (hpos : 0 < zs.length) : ∃ t, Row W g t (zs.map (.int k)).toArray := by
  obtain ⟨⟨ps, hL, _, hM⟩, _⟩ := laidMetH_iff.1 h
  obtain ⟨g2, t2, cs, fuel, p, h1, h2, h3, h4, h5⟩ := laid_mem hL nm d (List.mem_filter.2 ⟨hm, hh⟩)
  obtain rfl := Option.some.inj (hg.symm.trans h1)
  obtain rfl := Option.some.inj (hty.symm.trans h2)
  rw [hd] at h4
  exact laid_row hg h3 (laid_int ht he hc hct h4) (by simpa using hpos) (fun b off hb => (hM b off hb).1) h5
theorem nums64 (l : List Nat) : ((l.map fun (q : Nat) => (q : Int)).map (.int .u64)) = l.map Q := by rw [List.map_map]; rfl
theorem prime_nums : (Rows.laid_tollgate_curve_prime : DataW Unit) = .agg (((nL P256).map fun (q : Nat) => (q : Int)).map fun z => .lit (.int .u64 z)) := by kernel_rfl
theorem order_nums : (Rows.laid_tollgate_curve_order : DataW Unit) = .agg (((nL N256).map fun (q : Nat) => (q : Int)).map fun z => .lit (.int .u64 z)) := by kernel_rfl
theorem coeff_nums : (Rows.laid_tollgate_curve_coeff : DataW Unit) = .agg (((nL B256).map fun (q : Nat) => (q : Int)).map fun z => .lit (.int .u64 z)) := by kernel_rfl
theorem baseX_nums : (Rows.laid_tollgate_curve_baseX : DataW Unit) = .agg (((nL GX).map fun (q : Nat) => (q : Int)).map fun z => .lit (.int .u64 z)) := by kernel_rfl
theorem baseY_nums : (Rows.laid_tollgate_curve_baseY : DataW Unit) = .agg (((nL GY).map fun (q : Nat) => (q : Int)).map fun z => .lit (.int .u64 z)) := by kernel_rfl
theorem peer_laid {W : World} {l : List (String × DataW Unit)} (h : laidMetH Tryz.prog l W)
    (m1 : ("tollgate/hash.start", Rows.laid_tollgate_hash_start) ∈ l) (m2 : ("tollgate/hash.rounds", Rows.laid_tollgate_hash_rounds) ∈ l) (m3 : ("tollgate/curve.prime", Rows.laid_tollgate_curve_prime) ∈ l) (m4 : ("tollgate/curve.order", Rows.laid_tollgate_curve_order) ∈ l)
    (m5 : ("tollgate/curve.coeff", Rows.laid_tollgate_curve_coeff) ∈ l) (m6 : ("tollgate/curve.baseX", Rows.laid_tollgate_curve_baseX) ∈ l) (m7 : ("tollgate/curve.baseY", Rows.laid_tollgate_curve_baseY) ∈ l) : HashW W ∧ CurveW W := by
  refine ⟨⟨?_, ?_⟩, ⟨?_, ?_, ?_, ?_, ?_⟩⟩
  · obtain ⟨t, ht⟩ := laid_nums h m1 (by kernel_rfl) start_nums (show _ = some 8 by kernel_rfl) (show _ = some 298 by kernel_rfl) Tryz.underlying298 Tryz.underlying210 (by kernel_rfl) (by kernel_rfl) (by decide)
    exact ⟨t, by rw [List.map_map] at ht; exact ht⟩
  · obtain ⟨t, ht⟩ := laid_nums h m2 (by kernel_rfl) rounds_nums (show _ = some 10 by kernel_rfl) (show _ = some 276 by kernel_rfl) Tryz.underlying276 Tryz.underlying210 (by kernel_rfl) (by kernel_rfl) (by decide)
    exact ⟨t, by rw [List.map_map] at ht; exact ht⟩
  · obtain ⟨t, ht⟩ := laid_nums h m4 (by kernel_rfl) order_nums (show _ = some 1 by kernel_rfl) (show _ = some 177 by kernel_rfl) Tryz.underlying177 Tryz.underlying49 (by kernel_rfl) (by kernel_rfl) (by simp [nL])
    exact ⟨t, by rw [nums64] at ht; exact ht⟩
  · obtain ⟨t, ht⟩ := laid_nums h m6 (by kernel_rfl) baseX_nums (show _ = some 2 by kernel_rfl) (show _ = some 177 by kernel_rfl) Tryz.underlying177 Tryz.underlying49 (by kernel_rfl) (by kernel_rfl) (by simp [nL])
    exact ⟨t, by rw [nums64] at ht; exact ht⟩
  · obtain ⟨t, ht⟩ := laid_nums h m7 (by kernel_rfl) baseY_nums (show _ = some 3 by kernel_rfl) (show _ = some 177 by kernel_rfl) Tryz.underlying177 Tryz.underlying49 (by kernel_rfl) (by kernel_rfl) (by simp [nL])
    exact ⟨t, by rw [nums64] at ht; exact ht⟩
  · obtain ⟨t, ht⟩ := laid_nums h m3 (by kernel_rfl) prime_nums (show _ = some 6 by kernel_rfl) (show _ = some 177 by kernel_rfl) Tryz.underlying177 Tryz.underlying49 (by kernel_rfl) (by kernel_rfl) (by simp [nL])
    exact ⟨t, by rw [nums64] at ht; exact ht⟩
  · obtain ⟨t, ht⟩ := laid_nums h m5 (by kernel_rfl) coeff_nums (show _ = some 7 by kernel_rfl) (show _ = some 177 by kernel_rfl) Tryz.underlying177 Tryz.underlying49 (by kernel_rfl) (by kernel_rfl) (by simp [nL])
    exact ⟨t, by rw [nums64] at ht; exact ht⟩
end Go.Proofs.YtjpfhhndjpdmoaaGreatDoor

namespace Go.Proofs.YtjpfhhndjpdmoaaGreatDoor
open Go.RowKit
set_option linter.unusedVariables false

theorem laidMet_layW {P : Program} {w0 : World} {laid : List (String × DataW Unit)} (args : Array Value) (hf : w0.layFits P laid [] = true) (hi : w0.layIfaces P laid (w0.layVars P laid) = true) : laidMet P laid ((w0.layVars P laid).forCall (fun _ _ => 0) ⟨#[], args, []⟩).memory := by
  have e1 : (laid.filter fun x => (laid.map (·.1)).contains x.1) = laid := List.filter_eq_self.2 fun x hx => List.contains_iff_mem.2 (List.mem_map.2 ⟨x, hx, rfl⟩)
  have e2 : (laid.filter fun x => !(laid.map (·.1)).contains x.1) = [] := List.filter_eq_nil_iff.2 fun x hx => by rw [List.contains_iff_mem.2 (List.mem_map.2 ⟨x, hx, rfl⟩)]; simp
  have h : laidMet P laid (w0.layVars P laid) := laidMet_layVars (w0 := w0) (laid.map (·.1)) [] (by rw [e1]) (by rw [e1]; exact hf) (by rw [e1]; exact hi) (by rw [e2]; exact LaidIn.none)
  exact h.of_heap (by simp [World.memory, World.forCall, Input.heap])
noncomputable def errTy : Nat := ((List.range Tryz.prog.types.size).filter fun t => Tryz.prog.rowNamed t [101, 114, 114, 111, 114]).headD 0
noncomputable def errU : Nat := ((Tryz.prog.cutTypes.find? (·.1 == "internal/reflectlite.rtype")).map (·.2)).getD 0
noncomputable def errWorld (os : Os) : World :=
  let w0 := World.holding Tryz.prog os ⟨#[], #[], []⟩
  { w0 with heap := w0.heap.modify 0 fun
      | .cells _ t frozen => .cells #[.iface errU (.agg #[typeHandle Tryz.prog errTy])] t frozen
      | o => o }
noncomputable def peerWorld (os : Os) (l : List (String × DataW Unit)) : World := (errWorld os).layVars Tryz.prog (l.filter fun x => x.2.handleName?.isNone)
theorem peerWorld_os (os : Os) (l : List (String × DataW Unit)) : (peerWorld os l).os = os := World.layVars_os _ _ _
end Go.Proofs.YtjpfhhndjpdmoaaGreatDoor

namespace Go.Proofs.YtjpfhhndjpdmoaaGreatDoor.peerNaksDone
open Go.ChangeShapes Go.WideShapes Go.RowKit
set_option maxHeartbeats 4000000 in
theorem facts : joinedFacts Tryz.prog 4 Tryz.f4 Rows.peerNaksSpec Rows.peerNaksRow = true := by
  unfold joinedFacts
  simp only [Bool.and_eq_true]
  and_intros
  all_goals as_aux_lemma => kernel_rfl
end Go.Proofs.YtjpfhhndjpdmoaaGreatDoor.peerNaksDone
