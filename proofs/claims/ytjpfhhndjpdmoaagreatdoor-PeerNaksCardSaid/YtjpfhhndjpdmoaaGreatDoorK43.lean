/- Part of the proof: EvPs, EvLo, EvRf. No conditions of its own. -/
import Derived.ArgAppend
import Derived.Below
import Derived.BigQuiet
import Derived.Deep.CutBlock
import Derived.Deep.DeepCutAuto
import Derived.Deep.Draws
import Derived.Deep.LoopGhost
import Derived.Deep.Quiet
import Derived.Deep.QuietTactic
import Derived.Deep.RegionLaw
import Derived.KernelRfl
import Derived.Laws.AppendOwnNone
import Derived.Laws.Bits64b
import Derived.Laws.BitsAllLaws
import Derived.Laws.BytesArg
import Derived.Laws.CopyOwn
import Derived.Laws.CopyRow
import Derived.Laws.NewFold
import Derived.Laws.Strings
import Derived.Lib.AppendStr
import Derived.Lib.ConvBytes
import Derived.Lib.Hide
import Derived.Lib.MakeNoZero
import Derived.Maps.AppendAt
import Derived.Orders
import Derived.RowKit3
import Derived.Shelf.Bits.Mul64
import Derived.Shelf.Spec.BitsCarry
import Derived.StillTail
import Derived.Stop.BytesEq
import Derived.Test.YtjpfhhndjpdmoaaGreatDoorProg
import Derived.Test.YtjpfhhndjpdmoaaGreatDoorRows
import Derived.WalkKit
import Derived.Test.YtjpfhhndjpdmoaaGreatDoorK41
import Derived.Test.YtjpfhhndjpdmoaaGreatDoorK42
import Derived.Test.YtjpfhhndjpdmoaaGreatDoorK40
namespace Go.Proofs.YtjpfhhndjpdmoaaGreatDoor
open Go.RowKit
set_option linter.unusedVariables false
set_option linter.unusedSimpArgs false

def peersO : List LV → Hp → Nat → Option Out := fun args H nx => match args with
  | [] => some ⟨.v (.bool true), [], nx, none⟩
  | _ => none
def orcP : Orc := fun f => match Nat.beq f 12 with
  | true => some peersO
  | false => orcS f
theorem noH_P : NoH orcP := by
  intro f hf
  unfold orcP
  cases hb : Nat.beq f 12 with
  | true =>
    rw [nbeq hb] at hf
    have : Nat.ble OB 12 = false := by kernel_rfl
    rw [this] at hf; cases hf
  | false => exact noH_S f hf
theorem orcP_ok {w : World} (hW : HashW w) (hC : CurveW w) : OrcOk Tryz.prog GN w.heap.size w orcP := by
  intro f args H nx out hob h hn
  have h2 : (match orcP f with | some g => g args H nx | none => none) = some out := h
  unfold orcP at h2
  cases hb : Nat.beq f 12 with
  | true =>
    rw [hb] at h2
    obtain rfl := nbeq hb
    simp only [peersO] at h2
    split at h2
    · cases h2
      exact orc_val ⟨_, Tryz.func12, by kernel_rfl, by kernel_rfl⟩ (fun ν vs w' hvs hH hb' => by
        obtain rfl := VRs.nil_iff.1 hvs
        exact ⟨.bool true, by simp [VR, plainV], peers_any w' (hW.below hb') (hC.below hb')⟩)
    · cases h2
  | false =>
    rw [hb] at h2
    exact orcS_ok hW hC f args H nx out hob h2 hn
noncomputable def cfP : FuncId → List LV → Hp → Nat → Option Out := evFQ Tryz.prog GN 100000 orcP 60
theorem cfP_ok {w : World} (hW : HashW w) (hC : CurveW w) : CallOk Tryz.prog GN w.heap.size w cfP := by
  unfold cfP
  rw [evFQ_evF]
  exact evF_ok (by kernel_rfl) (Nat.le_refl _) noGo szOB noH_P (orcP_ok hW hC) 60
theorem evP_ok {GE : Env → Prop} {w : World} (hW : HashW w) (hC : CurveW w) : EvOk Tryz.prog GE GN w.heap.size w cfP := by
  refine ⟨(cfP_ok hW hC).wide, ?_⟩
  unfold cfP
  rw [evFQ_evF]
  exact noOps szOB noH_P
/-! ### names -/
noncomputable def nuS (t1 t2 t3 t4 t5 t6 t7 : TypeId) (l : List Loc) : Env := fun i => if i < GN then nu0 t1 t2 t3 t4 t5 t6 t7 i else if SB ≤ i then l[i - SB]? else none
section
variable {w : World} {t1 t2 t3 t4 t5 t6 t7 : TypeId}
theorem nuS_ext (l : List Loc) : Ext (nu0 t1 t2 t3 t4 t5 t6 t7) (nuS t1 t2 t3 t4 t5 t6 t7 l) := by
  intro i x h
  have hi : i < GN := by
    unfold nu0 at h
    by_cases hi : i < GN
    · exact hi
    · rw [if_neg hi] at h; cases h
  unfold nuS
  rw [if_pos hi]
  exact h
theorem HRF.ext {ν ν' : Env} {H : Hp} {w : World} (h : HRF ν H none w) (he : Ext ν ν') : HRF ν' H none w := by
  intro i k hf hk
  obtain ⟨l, h1, h2⟩ := h i k hf hk
  exact ⟨l, he i l h1, h2.ext he⟩
theorem start (hg : GRows w t1 t2 t3 t4 t5 t6 t7) {l : List Loc} {args : List LV} {vs : List Value} {nt N : Nat} (hN : args.length + (nt - args.length) = N) (hv : VRs (nuS t1 t2 t3 t4 t5 t6 t7 l) args vs) :
    StR Tryz.prog (GlobE Tryz.prog) GN w.heap.size w (nuS t1 t2 t3 t4 t5 t6 t7 l) ⟨N, argsT 0 args .nil, GH t1 t2 t3 t4 t5 t6 t7, GN, []⟩ { tmps := vs.toArray ++ Array.replicate (nt - vs.toArray.size) undef, defers := [] } w := by
  have hx := nuS_ext (t1 := t1) (t2 := t2) (t3 := t3) (t4 := t4) (t5 := t5) (t6 := t6) (t7 := t7) l
  have hlow : ∀ i, i < GN → nuS t1 t2 t3 t4 t5 t6 t7 l i = nu0 t1 t2 t3 t4 t5 t6 t7 i := fun i hi => by unfold nuS; rw [if_pos hi]
  rw [← hN]
  refine entry hv ((gh_hrf hg).ext hx) (fun i k l' _ hi hk _ => ?_) (fun i j ki kj li lj hi hj h4 h5 h6 => ?_) (fun i k hk => gh_low hk) (fun g hg' => ?_) (Below.refl _ w)
  · have := gh_low hk; omega
  · rw [hlow i (gh_low hi)] at h4
    rw [hlow j (gh_low hj)] at h5
    rw [← nu0_some h4, ← nu0_some h5, h6]
  · have hs : Tryz.prog.globals.size = GN := by kernel_rfl
    rw [hs] at hg'
    exact ⟨_, by rw [hlow g hg']; unfold nu0; rw [if_pos hg']⟩
end
end Go.Proofs.YtjpfhhndjpdmoaaGreatDoor

namespace Go.Proofs.YtjpfhhndjpdmoaaGreatDoor
open Go.RowKit
set_option linter.unusedVariables false
set_option linter.unusedSimpArgs false
set_option autoImplicit false

def keysD : Dl → List Nat
  | [] => []
  | (i, _) :: d => i :: keysD d
theorem keysD_mem {i : Nat} : ∀ {d : Dl}, (dget d i).isSome = true → i ∈ keysD d
  | [], h => by simp [dget] at h
  | (j, b) :: d, h => by
    simp only [dget] at h
    simp only [keysD, List.mem_cons]
    cases hd : dget d i with
    | some x => exact .inr (keysD_mem (by rw [hd]; rfl))
    | none =>
      rw [hd] at h
      by_cases hij : i = j
      · exact .inl hij
      · simp [hij] at h
def locD (args : List LV) (H : Hp) : Dl := reach 0 H 100000 (idsL args) .nil []
def locO (cf : FuncId → List LV → Hp → Nat → Option Out) (f : FuncId) (args : List LV) (H : Hp) (nx : Nat) : Option Out := match cf f args (Hp.app .nil (locD args H)) nx with
  | some ⟨v, d, nx', _⟩ => some ⟨v, d, nx', some (keysD (locD args H))⟩
  | none => none
section
variable {P : Program} {nB B : Nat} {w0 : World}
def FnOkW (P : Program) (nB B : Nat) (w0 : World) (f : FuncId) (g : List LV → Hp → Nat → Option Out) : Prop :=
  ∀ args H nx out, g args H nx = some out → nx ≤ out.nx → FnHas P f ∧ ∀ (ν : Env) (vs : List Value) (w : World), (∀ i, nx ≤ i → i < out.nx → ν i = none) → VRs ν args vs → HRF ν H out.foot w → LowF nB B ν H out.foot → InjHF ν H out.foot → (∀ i k, H.get i = some k → i < nx) → GlobE P ν → Below B w0 w →
    Calls P f vs.toArray w (fun e w' => ∃ v' ν', e = .returned v' ∧ OpPost nB B w0 ν ν' H nx out w w' v')
theorem FnOk.wide {f : FuncId} {g : List LV → Hp → Nat → Option Out} (h : FnOk P nB B w0 f g) : FnOkW P nB B w0 f g := by
  intro args H nx out hc hnx
  obtain ⟨h1, h2, h3⟩ := h args H nx out hc hnx
  refine ⟨h1, fun ν vs w hν hvs hH hlow hinj hid hg hb => ?_⟩
  rw [h2] at hH hlow hinj
  exact h3 ν vs w hν hvs hH hlow (fun i j ki kj li lj => hinj i j ki kj li lj trivial trivial) hid hg hb
theorem locD_get {args : List LV} {H : Hp} {i : Nat} {k : Blk} (h : (Hp.app .nil (locD args H)).get i = some k) : H.get i = some k ∧ i ∈ keysD (locD args H) := by
  rw [get_app] at h
  cases hd : dget (locD args H) i with
  | none => rw [hd, Tr.get_nil] at h; cases h
  | some x =>
    rw [hd] at h
    obtain ⟨_, q2, _⟩ := reach_spec (fun i x hx => by simp [dget] at hx) i x hd
    exact ⟨by rw [← q2]; exact h, keysD_mem (by rw [hd]; rfl)⟩
theorem locO_ok {cf : FuncId → List LV → Hp → Nat → Option Out} (hc : CallOkW P nB B w0 cf) {f : FuncId} (hob : Nat.ble OB f = false) : FnOkW P nB B w0 f (locO cf f) := by
  intro args H nx out h hnx
  unfold locO at h
  split at h
  · rename_i v d nx' ft hcf
    cases h
    obtain ⟨g1, g2⟩ := hc f args _ nx _ hob hcf hnx
    refine ⟨g1, fun ν vs w hν hvs hH hlow hinj hid hg hb => ?_⟩
    have hm : ∀ {i : Nat} {k : Blk}, (Hp.app .nil (locD args H)).get i = some k → H.get i = some k ∧ footHas (some (keysD (locD args H))) i := fun h => locD_get h
    refine (g2 ν vs w hν hvs (fun i k hf hk => hH i k (hm hk).2 (hm hk).1) (fun i k l hf hi hk hl => hlow i k l (hm hk).2 hi (hm hk).1 hl) (fun i j ki kj li lj _ _ h3 h4 h5 h6 h7 => hinj i j ki kj li lj (hm h3).2 (hm h4).2 (hm h3).1 (hm h4).1 h5 h6 h7) (fun i k hk => hid i k (hm hk).1) hg hb).mono ?_
    rintro e w' ⟨v', ν', rfl, hp⟩
    refine ⟨v', ν', rfl, hp.ext, hp.val, hp.blk, hp.frame, hp.fresh, hp.inj, fun i hi hd => ?_, hp.new, hp.below, hp.size⟩
    obtain ⟨q1, q2⟩ := hp.old i hi hd
    obtain ⟨k, hk⟩ := Option.isSome_iff_exists.1 q2
    exact ⟨q1, by rw [(hm hk).1]; rfl⟩
  · cases h
def stF (s : Stg) (args : List LV) (H : Hp) (nx : Nat) : Option Out := match stO s args H nx with
  | some ⟨v, d, nx', _⟩ => some ⟨v, d, nx', some (s.D.map Prod.fst)⟩
  | none => none
def withO (f : FuncId) (g : List LV → Hp → Nat → Option Out) (orc : Orc) : Orc := fun k => match Nat.beq k f with
  | true => some g
  | false => orc k
theorem withO_ok {f : FuncId} {g : List LV → Hp → Nat → Option Out} {orc : Orc} (h : FnOkW P nB B w0 f g) (ho : OrcOkW P nB B w0 orc) : OrcOkW P nB B w0 (withO f g orc) := by
  intro k args H nx out hob h1 hnx
  have h2 : (match withO f g orc k with | some g => g args H nx | none => none) = some out := h1
  unfold withO at h2
  cases hb : Nat.beq k f with
  | true =>
    rw [hb] at h2
    obtain rfl := nbeq hb
    exact h args H nx out h2 hnx
  | false =>
    rw [hb] at h2
    exact ho k args H nx out hob h2 hnx
theorem noH_with {f : FuncId} {g : List LV → Hp → Nat → Option Out} {orc : Orc} (h : Nat.ble OB f = false) (ho : NoH orc) : NoH (withO f g orc) := by
  intro k hk
  unfold withO
  have hn : Nat.beq k f = false := by
    cases hb : Nat.beq k f with
    | false => rfl
    | true => rw [nbeq hb, h] at hk; cases hk
  rw [hn]
  exact ho k hk
def locs (cf : FuncId → List LV → Hp → Nat → Option Out) : List FuncId → Orc → Orc
  | [], orc => orc
  | f :: l, orc => withO f (locO cf f) (locs cf l orc)
end
end Go.Proofs.YtjpfhhndjpdmoaaGreatDoor

namespace Go.Proofs.YtjpfhhndjpdmoaaGreatDoor
open Go.RowKit
set_option linter.unusedVariables false
set_option linter.unusedSectionVars false
set_option linter.unusedSimpArgs false
set_option autoImplicit false

def Act.bare (a : Act) : Act := { a with defers := [] }
section
variable {P : Program} {GE : Env → Prop} [hGE : GEok P GE] {nB B : Nat} {w0 : World} {callf : FuncId → List LV → Hp → Nat → Option Out} {ops : Array Oper}
theorem bare_put (a : Act) (dst : Option Tmp) (v : Value) : Act.bare (a.put dst v) = (Act.bare a).put dst v := by
  cases dst <;> rfl
theorem put_defers (a : Act) (dst : Option Tmp) (v : Value) : (a.put dst v).defers = a.defers := by
  cases dst <;> rfl
theorem seq_okD (hc : EvOk P GE nB B w0 callf) (hB : B ≤ w0.heap.size) : ∀ {l : List Oper} {s s' : St}, evSeq P nB callf ops l s = some s' → ∀ {ν : Env} {a : Act} {w : World}, StR P GE nB B w0 ν s (Act.bare a) w → (∀ i, s.nx ≤ i → i < s'.nx → ν i = none) →
    ∀ {Q : Exit → Act → World → Prop}, (∀ a' w' ν', StR P GE nB B w0 ν' s' (Act.bare a') w' → a'.defers = a.defers → Frg nB ν ν' s s' w w' → Q .normal a' w') → wpList P ops Q l a w
  | [], s, s', h, ν, a, w, hs, _, Q, hQ => by
    simp only [evSeq] at h; cases h
    exact wpList_nil (hQ a w ν hs rfl (Frg.refl hs.wrs hs.ids))
  | o :: l, s, s', h, ν, a, w, hs, hν, Q, hQ => by
    simp only [evSeq] at h
    split at h
    · rename_i hw
      split at h
      · rename_i out hout
        split at h
        · rename_i hle
          have hm := evSeq_mono h
          have hν1 : ∀ i, s.nx ≤ i → i < out.nx → ν i = none := fun i h1 h2 => hν i h1 (Nat.lt_of_lt_of_le h2 hm)
          refine wpList_step (fun K hK => ?_)
          rw [if_pos (want_ok (tmps := a.tmps) (fun _ _ d l _ _ hd => hs.tr d l hd) hw)]
          refine evOp_wp hc hB hout hle (a := a) (fun x hx l hl => by have := opd_ok hs.tr hs.glob hl; exact this) hν1 (fun i k _ hk => hs.hr i k trivial hk) (fun i k l _ => hs.low i k l trivial) (fun i j ki kj li lj _ _ => hs.inj i j ki kj li lj) hs.ids hs.glob hs.below (fun v' w' ν' hp => ?_)
          obtain ⟨hs1, hf1⟩ := hs.step (dst := o.dst) hB hν1 hle hp
          rw [← bare_put] at hs1
          refine hK _ _ (seq_okD hc hB h hs1 (fun i h1 h2 => ?_) (fun a2 w2 ν2 hs2 hd2 hf2 => hQ a2 w2 ν2 hs2 (hd2.trans (put_defers _ _ _)) (hf1.trans hf2)))
          have h1' : out.nx ≤ i := h1
          rw [hp.ext i (by omega)]
          exact hν i (by omega) h2
        · cases h
      · cases h
    · rename_i hw
      obtain ⟨hs1, hf1⟩ := hs.skip (dst := o.dst)
      rw [← bare_put] at hs1
      unfold wpList
      rw [if_neg (by rw [want_ok (tmps := a.tmps) (fun _ _ d l _ _ hd => hs.tr d l hd) hw]; simp)]
      exact seq_okD hc hB h hs1 hν (fun a2 w2 ν2 hs2 hd2 hf2 => hQ a2 w2 ν2 hs2 (hd2.trans (put_defers _ _ _)) (hf1.trans hf2))
    · cases h
def flatB : Code → Bool
  | .skip => true
  | .region _ _ draw => !draw
  | .seq a b => flatB a && flatB b
  | .ret => true
  | _ => false
def PostD (P : Program) (GE : Env → Prop) (nB B : Nat) (w0 : World) (ν : Env) (s s' : St) (x : Ex) (ds : List Deferred) (w : World) (e : Exit) (a' : Act) (w' : World) : Prop := e = exR x ∧ a'.defers = ds ∧ ∃ ν', StR P GE nB B w0 ν' s' (Act.bare a') w' ∧ Frg nB ν ν' s s' w w'
theorem flat_ok (hc : EvOk P GE nB B w0 callf) (hB : B ≤ w0.heap.size) : ∀ (n : Nat) (c : Code) (s s' : St) (x : Ex), flatB c = true → evC P nB callf n c s = some (x, s') → ∀ (ν : Env) (a : Act) (w : World), StR P GE nB B w0 ν s (Act.bare a) w → (∀ i, s.nx ≤ i → i < s'.nx → ν i = none) → c.wp P (PostD P GE nB B w0 ν s s' x a.defers w) a w
  | 0, c, s, s', x, _, h, _, _, _, _, _ => by simp [evC] at h
  | n + 1, c, s, s', x, hf, h, ν, a, w, hs, hν => by
    cases c with
    | skip =>
      simp only [evC] at h; cases h
      exact wp_skip ⟨rfl, rfl, ν, hs, Frg.refl hs.wrs hs.ids⟩
    | ret =>
      simp only [evC] at h; cases h
      exact wp_ret ⟨rfl, rfl, ν, hs, Frg.refl hs.wrs hs.ids⟩
    | region id ops draw =>
      cases draw with
      | true => cases hf
      | false =>
        simp only [evC] at h
        split at h
        · rename_i s1 h1
          cases h
          simp only [evReg] at h1
          exact wp_region_list (seq_okD hc hB h1 hs hν (fun a' w' ν' g1 g2 g3 => ⟨rfl, g2, ν', g1, g3⟩))
        · cases h
    | seq c1 c2 =>
      simp only [flatB, Bool.and_eq_true] at hf
      simp only [evC] at h
      split at h
      · rename_i s1 h1
        have m1 := evC_mono h1
        have m2 := evC_mono h
        refine wp_seq (wp_mono (flat_ok hc hB n c1 s s1 .normal hf.1 h1 ν a w hs (fun i q1 q2 => hν i q1 (by omega))) ?_)
        rintro e a1 w1 ⟨rfl, hd1, ν1, hs1, hf1⟩
        refine wp_mono (flat_ok hc hB n c2 s1 s' x hf.2 h ν1 a1 w1 hs1 (free_of hf1 m2 hν)) ?_
        rintro e a2 w2 ⟨rfl, hd2, ν2, hs2, hf2⟩
        exact ⟨rfl, hd2.trans hd1, ν2, hs2, hf1.trans hf2⟩
      · rename_i hne
        refine wp_seq (wp_mono (flat_ok hc hB n c1 s s' x hf.1 h ν a w hs hν) ?_)
        rintro e a1 w1 ⟨rfl, hd1, ν1, hs1, hf1⟩
        cases x with
        | normal => exact absurd h (hne s')
        | ret => exact ⟨rfl, hd1, ν1, hs1, hf1⟩
        | exit i => exact ⟨rfl, hd1, ν1, hs1, hf1⟩
    | _ => cases hf
theorem StR.own {ν : Env} {s : St} {a : Act} {A A' : World} (hs : StR P GE nB B w0 ν s a A) (hb : Below B A A') (hk : ∀ i (k : Blk) l, s.H.get i = some k → ν i = some l → A'.heap[l.addr]? = A.heap[l.addr]?) : StR P GE nB B w0 ν s a A' :=
  ⟨fun i k hf hg => by
    obtain ⟨l, q1, q2⟩ := hs.hr i k hf hg
    exact ⟨l, q1, by rw [hk i k l hg q1]; exact q2⟩, hs.low, hs.inj, hs.ids, hs.glob, hs.below.trans hb, hs.tr, hs.sz, hs.df, hs.wrs⟩
theorem post_fin {ν ν' : Env} {q nx : Nat} {T0 : Tr LV} {H : Hp} {s : St} {a' : Act} {w w' : World} {rs : List LV} {v : Value} (hs' : StR P GE nB B w0 ν' s a' w') (hf : Frg nB ν ν' ⟨q, T0, H, nx, []⟩ s w w') (hvv : VR ν' (oneL rs) v) :
    OpPost nB B w0 ν ν' H nx ⟨oneL rs, olds nx s.H s.wr .nil ++ reach nx s.H (s.nx + 100000) ((oneL rs).ids ++ idsD (olds nx s.H s.wr .nil)) .nil [], s.nx, none⟩ w w' v := by
  have hD : ∀ i y, dget (olds nx s.H s.wr .nil ++ reach nx s.H (s.nx + 100000) ((oneL rs).ids ++ idsD (olds nx s.H s.wr .nil)) .nil []) i = some y → y = s.H.get i ∧ ((i < nx ∧ i ∈ s.wr) ∨ (nx ≤ i ∧ y.isSome = true)) := by
    intro i y hy
    rw [dget_app] at hy
    split at hy
    · rename_i z hz
      cases hy
      obtain ⟨q1, q2, q3⟩ := reach_spec (fun i x hx => by simp [dget] at hx) i _ hz
      exact ⟨q2, .inr ⟨q1, q3⟩⟩
    · obtain ⟨q1, q2, q3⟩ := olds_spec.1 y hy
      exact ⟨q2, .inl ⟨q1, q3⟩⟩
  have hI : ∀ i, i < nx → i ∈ s.wr → dget (olds nx s.H s.wr .nil ++ reach nx s.H (s.nx + 100000) ((oneL rs).ids ++ idsD (olds nx s.H s.wr .nil)) .nil []) i = some (s.H.get i) := by
    intro i hi hw
    have h1 : (dget (olds nx s.H s.wr .nil) i).isSome = true := olds_spec.2 hw hi (Tr.get_nil i)
    cases hd : dget (olds nx s.H s.wr .nil ++ reach nx s.H (s.nx + 100000) ((oneL rs).ids ++ idsD (olds nx s.H s.wr .nil)) .nil []) i with
    | some y => rw [(hD i y hd).1]
    | none =>
      rw [dget_app] at hd
      split at hd
      · cases hd
      · rw [hd] at h1; cases h1
  refine ⟨hf.ext, hvv, fun i k hk => ?_, fun ad had hno => ?_, fun i k l hin hk hl => ?_, fun i j ki kj li lj _ _ hi hj hli hlj he => ?_, fun i hin hd => ?_, fun i hin hd => ?_, hs'.below, hf.size⟩
  · exact hs'.hr i k trivial (hD i _ hk).1.symm
  · exact hf.frame ad had (fun i l hw hin hl => hno i l hin (by
      have := hI i hin hw
      simp only [this]; rfl) hl)
  · rcases hf.fresh i l hin (.inr ⟨k, (hD i _ hk).1.symm⟩) hl with q | ⟨j, lj, q1, q2, q3, q4⟩
    · exact .inl q
    · right
      have hj := hI j q2 q1
      refine ⟨j, lj, q2, ?_, q3, q4⟩
      cases hg2 : s.H.get j with
      | none => rw [hg2] at hj; exact hj
      | some kj =>
        exfalso
        have hin' : nx ≤ i := hin
        have q2' : j < nx := q2
        have := hs'.inj i j k kj l lj (hD i _ hk).1.symm hg2 hl (by rw [hf.ext j (by show ¬ (nx ≤ j ∧ j < s.nx); omega)]; exact q3) q4.symm
        omega
  · exact hs'.inj i j ki kj li lj (hD i _ hi).1.symm (hD j _ hj).1.symm hli hlj he
  · obtain ⟨y, hy⟩ := Option.isSome_iff_exists.1 hd
    rcases (hD i y hy).2 with ⟨_, q⟩ | ⟨q, _⟩
    · rcases hf.old i q with g | g | ⟨g1, g2⟩
      · cases g
      · have g' : nx ≤ i := g; omega
      · exact ⟨g1, Option.isSome_iff_exists.2 g2⟩
    · omega
  · obtain ⟨y, hy⟩ := Option.isSome_iff_exists.1 hd
    obtain ⟨q1, q2⟩ := hD i y hy
    rcases q2 with ⟨q, _⟩ | ⟨_, q⟩
    · omega
    · obtain ⟨k, hk⟩ := Option.isSome_iff_exists.1 q
      exact hs'.ids i k (by rw [← q1]; exact hk)
theorem Frg.others {ν ν' : Env} {s s' : St} {a : Act} {W W1 : World} (hs : StR P GE nB B w0 ν s a W) (hwr : s.wr = []) (h : Frg nB ν ν' s s' W W1) {k : Nat} {o : Obj} (hk : W.heap[k]? = some o) (hoc : ∀ c t fr, o ≠ .cells c t fr) : W1.heap[k]? = some o := by
  refine (h.frame k (Array.getElem?_eq_some_iff.1 hk).1 (fun i l hi hlt hl e => ?_)).trans hk
  rcases h.old i hi with q | q | ⟨_, kb, hkb⟩
  · rw [hwr] at q; cases q
  · omega
  · obtain ⟨l2, e1, c2, fr, e2, _⟩ := hs.hr i kb trivial hkb
    rw [hl] at e1; cases e1
    rw [e, hk] at e2
    cases e2
    exact hoc _ _ _ rfl
theorem evPre_okF {callf : FuncId → List LV → Hp → Nat → Option Out} (hm : P.follows .mixedOrders = true) (hc : EvOk P GE nB B w0 callf) (hB : B ≤ w0.heap.size) {lf : Nat} {Q : Exit → Act → World → Prop} : ∀ (n : Nat) (c : Code) (s s' : St) (x : Ex), evPre P nB callf lf n c s = some (x, s') →
    s.nx ≤ s'.nx ∧ ∀ {ν : Env} {a : Act} {w : World}, StR P GE nB B w0 ν s a w → (∀ i, s.nx ≤ i → i < s'.nx → ν i = none) → (∀ a' w' ν', StR P GE nB B w0 ν' s' a' w' → Frg nB ν ν' s s' w w' → (Cd.drop n c).wp P Q a' w') → c.wp P Q a w
  | 0, c, s, s', x, h => by
    simp only [evPre] at h
    split at h
    · rename_i hq
      split at h
      · rename_i s1 h1
        cases h
        rw [evCQ_eq, evCK_eq] at h1
        refine ⟨evC_mono h1, fun {ν a w} hs hf hK => ?_⟩
        refine wpSeq hq (wp_mono ((code_all hm hc hB lf).1 _ s _ .normal h1 ν a w hs hf) ?_)
        rintro e a' w' ⟨rfl, ν', g1, g2⟩
        exact hK a' w' ν' g1 g2
      · cases h
    · cases h
  | n + 1, c, s, s', x, h => by
    simp only [evPre] at h
    split at h
    · rename_i hq
      split at h
      · rename_i s1 h1
        rw [evCQ_eq, evCK_eq] at h1
        have m1 := evC_mono h1
        obtain ⟨m2, ih⟩ := evPre_okF hm hc hB (Q := Q) n (Cd.b c) s1 s' x h
        refine ⟨Nat.le_trans m1 m2, fun {ν a w} hs hf hK => ?_⟩
        refine wpSeq hq (wp_mono ((code_all hm hc hB lf).1 _ s _ .normal h1 ν a w hs (fun i q1 q2 => hf i q1 (by omega))) ?_)
        rintro e a' w' ⟨rfl, ν', g1, g2⟩
        exact ih g1 (free_of g2 m2 hf) (fun a2 w2 ν2 q1 q2 => hK a2 w2 ν2 q1 (g2.trans q2))
      · cases h
    · cases h
end
end Go.Proofs.YtjpfhhndjpdmoaaGreatDoor
