/- Part of the proof: EvLw, EvPs, EndsRun, PeerEnds, Door, Laid. No conditions of its own. -/
import Derived.Below
import Derived.KernelRfl
import Derived.Laws.BytesArg
import Derived.Laws.CopyRow
import Derived.Laws.NewFold
import Derived.Laws.Strings
import Derived.Lib.ConvBytes
import Derived.Orders
import Derived.RowKit3
import Derived.Test.YtjpfhhndjpdmoaaGreatDoorK49
import Derived.ArgAppend
import Derived.BigQuiet
import Derived.Deep.CutBlock
import Derived.Deep.DeepCutAuto
import Derived.Deep.Draws
import Derived.Deep.LoopGhost
import Derived.Deep.Quiet
import Derived.Deep.QuietTactic
import Derived.Deep.RegionLaw
import Derived.Laws.AppendOwnNone
import Derived.Laws.Bits64b
import Derived.Laws.BitsAllLaws
import Derived.Laws.CopyOwn
import Derived.Lib.AppendStr
import Derived.Lib.Hide
import Derived.Lib.MakeNoZero
import Derived.Maps.AppendAt
import Derived.Shelf.Bits.Mul64
import Derived.Shelf.Spec.BitsCarry
import Derived.StillTail
import Derived.Stop.BytesEq
import Derived.Test.YtjpfhhndjpdmoaaGreatDoorProg
import Derived.Test.YtjpfhhndjpdmoaaGreatDoorRows
import Derived.WalkKit
import Derived.Test.YtjpfhhndjpdmoaaGreatDoorK48
import Derived.ChangeOld
import Derived.OpenShut
import Derived.ProofKit
import Derived.ShutString
import Derived.Test.YtjpfhhndjpdmoaaGreatDoorK33
import Derived.LaidMore
import Derived.Lay
import Derived.SevenTiedAt
import Derived.Stop.Joined
import Derived.Test.YtjpfhhndjpdmoaaGreatDoorK38
namespace Go.Proofs.YtjpfhhndjpdmoaaGreatDoor
open Go.RowKit
set_option linter.unusedVariables false
set_option linter.unusedSectionVars false
set_option linter.unusedSimpArgs false
set_option autoImplicit false

namespace Cd
def isSeq : Code → Bool | .seq _ _ => true | _ => false
def isLoop : Code → Bool | .loop _ => true | _ => false
def isBlock : Code → Bool | .block _ _ => true | _ => false
def isCond : Code → Bool | .cond _ _ _ => true | _ => false
def a : Code → Code
  | .seq a _ => a
  | .loop a => a
  | .block _ a => a
  | .cond _ a _ => a
  | c => c
def b : Code → Code
  | .seq _ b => b
  | .cond _ _ b => b
  | c => c
def id : Code → Nat
  | .block i _ => i
  | _ => 0
def drop : Nat → Code → Code
  | 0, c => b c
  | n + 1, c => drop n (b c)
def bodyOf (P : Program) (f : FuncId) : Code := match P.funcs[f]? with
  | some fn => match fn.body with
    | some c => c
    | none => .skip
  | none => .skip
end Cd
section
variable {P : Program}
theorem wpSeq {c : Code} {Q : Exit → Act → World → Prop} {a : Act} {w : World} (h : Cd.isSeq c = true) (hw : (Cd.a c).wp P (Exit.then ((Cd.b c).wp P Q) Q) a w) : c.wp P Q a w := by
  cases c <;> first | (exact wp_seq hw) | (cases h)
theorem wpLoop {c : Code} {Q : Exit → Act → World → Prop} {a : Act} {w : World} (h : Cd.isLoop c = true) (hw : LoopW P (Cd.a c) Q a w) : c.wp P Q a w := by
  cases c <;> first | (exact wp_of_loopW hw) | (cases h)
theorem wpBlock {c : Code} {Q : Exit → Act → World → Prop} {a : Act} {w : World} (h : Cd.isBlock c = true) (hw : (Cd.a c).wp P (fun e a w => match e with | .exit i => if i = Cd.id c then Q .normal a w else Q (.exit i) a w | e => Q e a w) a w) : c.wp P Q a w := by
  cases c <;> first | (cases h; done) | skip
  rename_i i c
  apply wp_block
  refine wp_mono hw ?_
  intro e a w hq
  cases e <;> first | exact hq | skip
variable {GE : Env → Prop} [hGE : GEok P GE] {nB B : Nat} {w0 : World}
def EndT (P : Program) (GE : Env → Prop) (nB B : Nat) (w0 : World) (rs : List ResultVar) : Exit → Act → World → Prop := fun e a' w' => (e = .normal ∨ e = .ret) ∧ ∃ ν' s', StR P GE nB B w0 ν' s' a' w' ∧ resL P s'.T s'.H rs = some [.v (.bool true)]
theorem law_wp {f : FuncId} {fn : Func} {c : Code} (hfn : P.funcs[f]? = some fn) (hbody : fn.body = some c) {vs : List Value} {w : World}
    (h : c.wp P (EndT P GE nB B w0 fn.results.toList) { tmps := vs.toArray ++ Array.replicate (fn.ntmps - vs.toArray.size) undef, defers := [] } w) : Calls P f vs.toArray w (fun e w' => e = .returned (.bool true) ∧ Below B w0 w') := by
  refine calls_of_wp hfn hbody (wp_mono h ?_)
  rintro e a' w' ⟨he, ν', s', hs, hr⟩
  obtain ⟨v, hv, hvv⟩ := results_ok hs hr
  have hv' : v = .bool true := by
    simp only [oneL, VR] at hvv
    exact hvv.1
  subst hv'
  rcases he with rfl | rfl
  · exact ⟨hs.df, _, hv, rfl, hs.below⟩
  · exact ⟨hs.df, _, hv, rfl, hs.below⟩
theorem entry {args : List LV} {vs : List Value} {H : Hp} {nx nt : Nat} {ν : Env} {w : World} (hv : VRs ν args vs) (hH : HRF ν H none w) (hlow : LowF nB B ν H none) (hinj : InjH ν H) (hid : ∀ i k, H.get i = some k → i < nx) (hg : GE ν) (hb : Below B w0 w) :
    StR P GE nB B w0 ν ⟨args.length + (nt - args.length), argsT 0 args .nil, H, nx, []⟩ { tmps := vs.toArray ++ Array.replicate (nt - vs.toArray.size) undef, defers := [] } w := by
  have hlen := hv.length
  refine ⟨hH, hlow, hinj, hid, hg, hb, fun t l ht => ?_, by simp [hlen], rfl, fun i hi => by cases hi⟩
  simp only at ht
  rw [argsT_get] at ht
  split at ht
  · rename_i hc
    obtain ⟨y, hy, hvv⟩ := hv.get t l (by simpa using ht)
    have hlt : t < vs.length := (List.getElem?_eq_some_iff.1 hy).1
    simp only [Array.getD_eq_getD_getElem?]
    rw [Array.getElem?_append_left (by simpa using hlt)]
    simp only [List.getElem?_toArray, hy, Option.getD_some]
    exact hvv
  · rw [Tr.get_nil] at ht; cases ht
def okE (P : Program) (nx : Nat) (rs : List ResultVar) : Option (Ex × St) → Bool
  | some (.normal, s) | some (.ret, s) => (Nat.ble s.nx SB && Nat.ble nx s.nx) && (match resL P s.T s.H rs with | some [.v (.bool true)] => true | _ => false)
  | _ => false
theorem stretchE {callf : FuncId → List LV → Hp → Nat → Option Out} (hm : P.follows .mixedOrders = true) (hc : EvOk P GE nB B w0 callf) (hB : B ≤ w0.heap.size) {n : Nat} {c : Code} {s : St} {rs : List ResultVar} (h : okE P s.nx rs (evCQ P nB callf n c s) = true)
    {ν : Env} {a : Act} {w : World} (hs : StR P GE nB B w0 ν s a w) (hf : Free ν s.nx) : c.wp P (EndT P GE nB B w0 rs) a w := by
  rw [evCQ_eq, evCK_eq] at h
  cases hev : evC P nB callf n c s with
  | none => rw [hev] at h; cases h
  | some r =>
    obtain ⟨y, s'⟩ := r
    rw [hev] at h
    have key : ∀ (h2 : Nat.ble s'.nx SB = true) (h3 : (match resL P s'.T s'.H rs with | some [.v (.bool true)] => true | _ => false) = true) (hy : exR y = .normal ∨ exR y = .ret), c.wp P (EndT P GE nB B w0 rs) a w := by
      intro h2 h3 hy
      refine wp_mono ((code_all hm hc hB n).1 c s s' y hev ν a w hs (fun i q1 q2 => hf i q1 (by have := Nat.le_of_ble_eq_true h2; omega))) ?_
      rintro e a' w' ⟨rfl, ν', g1, g2⟩
      refine ⟨hy, ν', s', g1, ?_⟩
      split at h3
      · rename_i e; exact e
      · cases h3
    cases y with
    | normal =>
      simp only [okE, Bool.and_eq_true] at h
      exact key h.1.1 h.2 (.inl rfl)
    | ret =>
      simp only [okE, Bool.and_eq_true] at h
      exact key h.1.1 h.2 (.inr rfl)
    | exit i => simp [okE] at h
noncomputable def evPre (P : Program) (nB : Nat) (callf : FuncId → List LV → Hp → Nat → Option Out) (lf : Nat) : Nat → Code → St → Option (Ex × St)
  | 0, c, s => match Cd.isSeq c with
    | true => match evCQ P nB callf lf (Cd.a c) s with
      | some (.normal, s') => some (.normal, s')
      | _ => none
    | false => none
  | n + 1, c, s => match Cd.isSeq c with
    | true => match evCQ P nB callf lf (Cd.a c) s with
      | some (.normal, s') => evPre P nB callf lf n (Cd.b c) s'
      | _ => none
    | false => none
theorem evPre_ok {callf : FuncId → List LV → Hp → Nat → Option Out} (hm : P.follows .mixedOrders = true) (hc : EvOk P GE nB B w0 callf) (hB : B ≤ w0.heap.size) {lf : Nat} {Q : Exit → Act → World → Prop} : ∀ (n : Nat) (c : Code) (s s' : St) (x : Ex), evPre P nB callf lf n c s = some (x, s') →
    s.nx ≤ s'.nx ∧ ∀ {ν : Env} {a : Act} {w : World}, StR P GE nB B w0 ν s a w → (∀ i, s.nx ≤ i → i < s'.nx → ν i = none) → (∀ a' w' ν', StR P GE nB B w0 ν' s' a' w' → s'.nt = s.nt → (Cd.drop n c).wp P Q a' w') → c.wp P Q a w
  | 0, c, s, s', x, h => by
    simp only [evPre] at h
    split at h
    · rename_i hq
      split at h
      · rename_i s1 h1
        cases h
        rw [evCQ_eq, evCK_eq] at h1
        refine ⟨evC_mono h1, fun {ν a w} hs hf hK => ?_⟩
        refine wpSeq hq (wp_mono ((code_all hm hc hB lf).1 _ s _ .normal h1 ν a w hs hf) ?_)
        rintro e a' w' ⟨rfl, ν', g1, g2⟩
        exact hK a' w' ν' g1 g2.nt
      · cases h
    · cases h
  | n + 1, c, s, s', x, h => by
    simp only [evPre] at h
    split at h
    · rename_i hq
      split at h
      · rename_i s1 h1
        rw [evCQ_eq, evCK_eq] at h1
        have m1 := evC_mono h1
        obtain ⟨m2, ih⟩ := evPre_ok hm hc hB (Q := Q) n (Cd.b c) s1 s' x h
        refine ⟨Nat.le_trans m1 m2, fun {ν a w} hs hf hK => ?_⟩
        refine wpSeq hq (wp_mono ((code_all hm hc hB lf).1 _ s _ .normal h1 ν a w hs (fun i q1 q2 => hf i q1 (by omega))) ?_)
        rintro e a' w' ⟨rfl, ν', g1, g2⟩
        exact ih g1 (free_of g2 m2 hf) (fun a2 w2 ν2 q1 q2 => hK a2 w2 ν2 q1 (q2.trans g2.nt))
      · cases h
    · cases h
theorem pre_ok {GE2 : Env → Prop} {callf : FuncId → List LV → Hp → Nat → Option Out} (hm : P.follows .mixedOrders = true) (hc : EvOk P GE nB B w0 callf) (hB : B ≤ w0.heap.size) {lf n : Nat} {c : Code} {s : St} {t : Pat} {σ : Sg} (h : okS nB σ ⟨[], []⟩ t .normal s.nx (evPre P nB callf lf n c s) = true)
    (hG : ∀ ν', GE ν' → insK nB t.nx σ = true → GE2 (envS nB σ ν')) {Q : Exit → Act → World → Prop} {ν : Env} {a : Act} {w : World} (hs : StR P GE nB B w0 ν s a w) (hf : Free ν s.nx)
    (hK : ∀ a' w' ν', StR P GE2 nB B w0 ν' (stOf s.nt t) a' w' → Free ν' t.nx → (Cd.drop n c).wp P Q a' w') : c.wp P Q a w := by
  cases hev : evPre P nB callf lf n c s with
  | none => rw [hev] at h; cases h
  | some r =>
    obtain ⟨y, s'⟩ := r
    rw [hev] at h
    simp only [okS, Bool.and_eq_true] at h
    obtain ⟨⟨h1, h2, h3⟩, h4⟩ := h
    have h2' := Nat.le_of_ble_eq_true h2
    refine (evPre_ok hm hc hB n c s s' y hev).2 hs (fun i q1 q2 => hf i q1 (by omega)) (fun a' w' ν' g1 g2 => ?_)
    have := ins_ok (KnOk.nil _ _ _) g1 (hG ν' g1.glob (insS_K h4)) h4
    rw [g2] at this
    exact hK a' w' _ this.1 this.2
theorem StR.slots {GE2 : Env → Prop} {ν ν' : Env} {s : St} {a : Act} {w : World} (hs : StR P GE nB B w0 ν s a w) (he : Ext ν ν') (hi : ∀ i, i < s.nx → ν' i = ν i) (hG : GE2 ν') {T : List (Nat × LV)} (hT : ∀ t x, (t, x) ∈ T → VR ν' x (a.tmps.getD t undef)) : StR P GE2 nB B w0 ν' ⟨s.nt, trOf T, s.H, s.nx, []⟩ a w := by
  refine ⟨fun i k hf hk => ?_, fun i k l hf h1 hk hl => ?_, fun i j ki kj li lj h1 h2 h3 h4 h5 => ?_, hs.ids, hG, hs.below, fun t x hx => hT t x (trOf_get hx), hs.sz, hs.df, fun i hi => by cases hi⟩
  · obtain ⟨l, q1, q2⟩ := hs.hr i k hf hk
    exact ⟨l, he i l q1, q2.ext he⟩
  · rw [hi i (hs.ids i k hk)] at hl
    exact hs.low i k l hf h1 hk hl
  · rw [hi i (hs.ids i ki h1)] at h3
    rw [hi j (hs.ids j kj h2)] at h4
    exact hs.inj i j ki kj li lj h1 h2 h3 h4 h5
end
end Go.Proofs.YtjpfhhndjpdmoaaGreatDoor

namespace Go.Proofs.YtjpfhhndjpdmoaaGreatDoor
open Go.RowKit
set_option linter.unusedVariables false
set_option linter.unusedSimpArgs false

def peersO : List LV → Hp → Nat → Option Out := fun args H nx => match args with
  | [] => some ⟨.v (.bool true), [], nx, none⟩
  | _ => none
def orcP : Orc := fun f => match Nat.beq f 12 with
  | true => some peersO
  | false => orcS f
theorem noH_P : NoH orcP := by
  intro f hf
  unfold orcP
  cases hb : Nat.beq f 12 with
  | true =>
    rw [nbeq hb] at hf
    have : Nat.ble OB 12 = false := by kernel_rfl
    rw [this] at hf; cases hf
  | false => exact noH_S f hf
theorem orcP_ok {w : World} (hW : HashW w) (hC : CurveW w) : OrcOk Tryz.prog GN w.heap.size w orcP := by
  intro f args H nx out hob h hn
  have h2 : (match orcP f with | some g => g args H nx | none => none) = some out := h
  unfold orcP at h2
  cases hb : Nat.beq f 12 with
  | true =>
    rw [hb] at h2
    obtain rfl := nbeq hb
    simp only [peersO] at h2
    split at h2
    · cases h2
      exact orc_val ⟨_, Tryz.func12, by kernel_rfl, by kernel_rfl⟩ (fun ν vs w' hvs hH hb' => by
        obtain rfl := VRs.nil_iff.1 hvs
        exact ⟨.bool true, by simp [VR, plainV], peers_any w' (hW.below hb') (hC.below hb')⟩)
    · cases h2
  | false =>
    rw [hb] at h2
    exact orcS_ok hW hC f args H nx out hob h2 hn
noncomputable def cfP : FuncId → List LV → Hp → Nat → Option Out := evFQ Tryz.prog GN 100000 orcP 60
theorem cfP_ok {w : World} (hW : HashW w) (hC : CurveW w) : CallOk Tryz.prog GN w.heap.size w cfP := by
  unfold cfP
  rw [evFQ_evF]
  exact evF_ok (by kernel_rfl) (Nat.le_refl _) noGo szOB noH_P (orcP_ok hW hC) 60
theorem evP_ok {GE : Env → Prop} {w : World} (hW : HashW w) (hC : CurveW w) : EvOk Tryz.prog GE GN w.heap.size w cfP := by
  refine ⟨cfP_ok hW hC, ?_⟩
  unfold cfP
  rw [evFQ_evF]
  exact noOps szOB noH_P
/-! ### names -/
noncomputable def nuS (t1 t2 t3 t4 t5 t6 t7 : TypeId) (l : List Loc) : Env := fun i => if i < GN then nu0 t1 t2 t3 t4 t5 t6 t7 i else if SB ≤ i then l[i - SB]? else none
section
variable {w : World} {t1 t2 t3 t4 t5 t6 t7 : TypeId}
theorem nuS_ext (l : List Loc) : Ext (nu0 t1 t2 t3 t4 t5 t6 t7) (nuS t1 t2 t3 t4 t5 t6 t7 l) := by
  intro i x h
  have hi : i < GN := by
    unfold nu0 at h
    by_cases hi : i < GN
    · exact hi
    · rw [if_neg hi] at h; cases h
  unfold nuS
  rw [if_pos hi]
  exact h
theorem nuS_free (l : List Loc) : Free (nuS t1 t2 t3 t4 t5 t6 t7 l) GN := by
  intro i h1 h2
  unfold nuS
  rw [if_neg (by omega), if_neg (by omega)]
theorem nuS_at (l : List Loc) (k : Nat) (x : Loc) (h : l[k]? = some x) : nuS t1 t2 t3 t4 t5 t6 t7 l (SB + k) = some x := by
  unfold nuS
  have h1 : ¬ (SB + k < GN) := by unfold SB GN; omega
  rw [if_neg h1, if_pos (by omega), Nat.add_sub_cancel_left]
  exact h
theorem HRF.ext {ν ν' : Env} {H : Hp} {w : World} (h : HRF ν H none w) (he : Ext ν ν') : HRF ν' H none w := by
  intro i k hf hk
  obtain ⟨l, h1, h2⟩ := h i k hf hk
  exact ⟨l, he i l h1, h2.ext he⟩
theorem start (hg : GRows w t1 t2 t3 t4 t5 t6 t7) {l : List Loc} {args : List LV} {vs : List Value} {nt N : Nat} (hN : args.length + (nt - args.length) = N) (hv : VRs (nuS t1 t2 t3 t4 t5 t6 t7 l) args vs) :
    StR Tryz.prog (GlobE Tryz.prog) GN w.heap.size w (nuS t1 t2 t3 t4 t5 t6 t7 l) ⟨N, argsT 0 args .nil, GH t1 t2 t3 t4 t5 t6 t7, GN, []⟩ { tmps := vs.toArray ++ Array.replicate (nt - vs.toArray.size) undef, defers := [] } w := by
  have hx := nuS_ext (t1 := t1) (t2 := t2) (t3 := t3) (t4 := t4) (t5 := t5) (t6 := t6) (t7 := t7) l
  have hlow : ∀ i, i < GN → nuS t1 t2 t3 t4 t5 t6 t7 l i = nu0 t1 t2 t3 t4 t5 t6 t7 i := fun i hi => by unfold nuS; rw [if_pos hi]
  rw [← hN]
  refine entry hv ((gh_hrf hg).ext hx) (fun i k l' _ hi hk _ => ?_) (fun i j ki kj li lj hi hj h4 h5 h6 => ?_) (fun i k hk => gh_low hk) (fun g hg' => ?_) (Below.refl _ w)
  · have := gh_low hk; omega
  · rw [hlow i (gh_low hi)] at h4
    rw [hlow j (gh_low hj)] at h5
    rw [← nu0_some h4, ← nu0_some h5, h6]
  · have hs : Tryz.prog.globals.size = GN := by kernel_rfl
    rw [hs] at hg'
    exact ⟨_, by rw [hlow g hg']; unfold nu0; rw [if_pos hg']⟩
end
theorem vr_sym {ν : Env} {b n lo hi : Nat} {k : IntKind} {ne : List Nat} (h : ν b = some ⟨n, 0⟩) (h1 : lo ≤ n) (h2 : n ≤ hi) (h3 : hi ≤ topK k) (hne : ∀ c ∈ ne, ∃ l2, ν c = some l2 ∧ n ≠ l2.addr) : VR ν (.sym b k lo hi ne) (.int k (n : Int)) := by
  simp only [VR]
  exact ⟨_, h, rfl, h1, h2, h3, hne⟩
end Go.Proofs.YtjpfhhndjpdmoaaGreatDoor

namespace Go.Proofs.YtjpfhhndjpdmoaaGreatDoor
open Go.RowKit
set_option linter.unusedVariables false
set_option linter.unusedSimpArgs false

def endsArgs (same g : Bool) : List LV := match same with
  | true => [.sym 1000000 .u8 0 255 [], .sym 1000000 .u8 0 255 [], .v (.bool g)]
  | false => [.sym 1000000 .u8 0 255 [1000001], .sym 1000001 .u8 0 255 [1000000], .v (.bool g)]
def endsSt (t1 t2 t3 t4 t5 t6 t7 : TypeId) (same g : Bool) : St := ⟨103, argsT 0 (endsArgs same g) .nil, GH t1 t2 t3 t4 t5 t6 t7, GN, []⟩
def endsRun (t1 t2 t3 t4 t5 t6 t7 : TypeId) (same g : Bool) : Prop := okE Tryz.prog GN Tryz.f6.results.toList (evCQ Tryz.prog GN cfP 100000 (Cd.bodyOf Tryz.prog 6) (endsSt t1 t2 t3 t4 t5 t6 t7 same g)) = true
set_option maxRecDepth 100000 in
theorem ends_tt (t1 t2 t3 t4 t5 t6 t7 : TypeId) : endsRun t1 t2 t3 t4 t5 t6 t7 true true := by unfold endsRun; kernel_rfl
set_option maxRecDepth 100000 in
theorem ends_tf (t1 t2 t3 t4 t5 t6 t7 : TypeId) : endsRun t1 t2 t3 t4 t5 t6 t7 true false := by unfold endsRun; kernel_rfl
set_option maxRecDepth 100000 in
theorem ends_ft (t1 t2 t3 t4 t5 t6 t7 : TypeId) : endsRun t1 t2 t3 t4 t5 t6 t7 false true := by unfold endsRun; kernel_rfl
set_option maxRecDepth 100000 in
theorem ends_ff (t1 t2 t3 t4 t5 t6 t7 : TypeId) : endsRun t1 t2 t3 t4 t5 t6 t7 false false := by unfold endsRun; kernel_rfl
theorem ends_run (t1 t2 t3 t4 t5 t6 t7 : TypeId) : ∀ same g, endsRun t1 t2 t3 t4 t5 t6 t7 same g
  | true, true => ends_tt ..
  | true, false => ends_tf ..
  | false, true => ends_ft ..
  | false, false => ends_ff ..
end Go.Proofs.YtjpfhhndjpdmoaaGreatDoor

namespace Go.Proofs.YtjpfhhndjpdmoaaGreatDoor
open Go.RowKit
set_option linter.unusedVariables false
set_option linter.unusedSimpArgs false

theorem nuS_of {t1 t2 t3 t4 t5 t6 t7 : TypeId} (l : List Loc) (k b : Nat) (x : Loc) (hb : Nat.beq b (SB + k) = true) (h : l[k]? = some x) : nuS t1 t2 t3 t4 t5 t6 t7 l b = some x := by
  rw [nbeq hb]
  exact nuS_at l k x h
theorem u8_wf {n : Int} (h : (Lit.int .u8 n).wf = true) : ∃ m : Nat, m ≤ 255 ∧ n = (m : Int) := by
  have h1 : 0 ≤ n ∧ n ≤ 255 := by
    simp only [Lit.wf, Bool.and_eq_true, decide_eq_true_eq] at h
    have e1 : IntKind.u8.min = 0 := by decide
    have e2 : IntKind.u8.max = 255 := by decide
    rw [e1, e2] at h
    exact h
  exact ⟨n.toNat, by omega, by omega⟩
theorem pends_law (a b : Int) (g : Bool) (wa : (Lit.int .u8 a).wf = true) (wb : (Lit.int .u8 b).wf = true) (w : World) (hW : HashW w) (hC : CurveW w) :
    Calls Tryz.prog 6 #[.int .u8 a, .int .u8 b, .bool g] w fun e w' => e = .returned (.bool true) ∧ Below w.heap.size w w' := by
  obtain ⟨m, hm, rfl⟩ := u8_wf wa
  obtain ⟨n, hn, rfl⟩ := u8_wf wb
  obtain ⟨t1, t2, t3, t4, t5, t6, t7, hg⟩ := grows hW hC
  have key : ∀ (same : Bool) (l : List Loc), VRs (nuS t1 t2 t3 t4 t5 t6 t7 l) (endsArgs same g) [.int .u8 (m : Int), .int .u8 (n : Int), .bool g] → Calls Tryz.prog 6 #[.int .u8 (m : Int), .int .u8 (n : Int), .bool g] w fun e w' => e = .returned (.bool true) ∧ Below w.heap.size w w' := by
    intro same l hv
    have hs := start hg (nt := Tryz.f6.ntmps) (N := 103) (by cases same <;> kernel_rfl) hv
    refine law_wp (nB := GN) (B := w.heap.size) (w0 := w) (GE := GlobE Tryz.prog) (c := Cd.bodyOf Tryz.prog 6) Tryz.func6 (by kernel_rfl) (vs := [.int .u8 (m : Int), .int .u8 (n : Int), .bool g]) ?_
    have hr := ends_run t1 t2 t3 t4 t5 t6 t7 same g
    unfold endsRun at hr
    have hs' : StR Tryz.prog (GlobE Tryz.prog) GN w.heap.size w (nuS t1 t2 t3 t4 t5 t6 t7 l) (endsSt t1 t2 t3 t4 t5 t6 t7 same g) _ w := hs
    exact stretchE (n := 100000) (s := endsSt t1 t2 t3 t4 t5 t6 t7 same g) (by kernel_rfl) (evP_ok hW hC) (Nat.le_refl _) hr hs' (nuS_free l)
  by_cases hmn : m = n
  · subst hmn
    have h0 : nuS t1 t2 t3 t4 t5 t6 t7 [⟨m, 0⟩] 1000000 = some ⟨m, 0⟩ := nuS_of [⟨m, 0⟩] 0 _ _ (by kernel_rfl) rfl
    exact key true [⟨m, 0⟩] (VRs.cons_iff.2 ⟨_, _, rfl, vr_sym h0 (Nat.zero_le _) hm (by decide) (fun c hc => by cases hc), VRs.cons_iff.2 ⟨_, _, rfl, vr_sym h0 (Nat.zero_le _) hm (by decide) (fun c hc => by cases hc), VRs.cons_iff.2 ⟨_, _, rfl, by simp [VR, plainV], VRs.nil_iff.2 rfl⟩⟩⟩)
  · have h0 : nuS t1 t2 t3 t4 t5 t6 t7 [⟨m, 0⟩, ⟨n, 0⟩] 1000000 = some ⟨m, 0⟩ := nuS_of [⟨m, 0⟩, ⟨n, 0⟩] 0 _ _ (by kernel_rfl) rfl
    have h1 : nuS t1 t2 t3 t4 t5 t6 t7 [⟨m, 0⟩, ⟨n, 0⟩] 1000001 = some ⟨n, 0⟩ := nuS_of [⟨m, 0⟩, ⟨n, 0⟩] 1 _ _ (by kernel_rfl) rfl
    exact key false [⟨m, 0⟩, ⟨n, 0⟩] (VRs.cons_iff.2 ⟨_, _, rfl, vr_sym h0 (Nat.zero_le _) hm (by decide) (fun c hc => by obtain rfl := List.mem_singleton.1 hc; exact ⟨_, h1, hmn⟩), VRs.cons_iff.2 ⟨_, _, rfl, vr_sym h1 (Nat.zero_le _) hn (by decide) (fun c hc => by obtain rfl := List.mem_singleton.1 hc; exact ⟨_, h0, fun e => hmn e.symm⟩), VRs.cons_iff.2 ⟨_, _, rfl, by simp [VR, plainV], VRs.nil_iff.2 rfl⟩⟩⟩)
end Go.Proofs.YtjpfhhndjpdmoaaGreatDoor

namespace Go.Proofs.YtjpfhhndjpdmoaaGreatDoor
open Go.RowKit

section
variable {H : Type} {enc : TypeId × Value → H} {P : Program} {w : World} {base : Nat} {spare : Nat → Bool} {held : Bool}
end
end Go.Proofs.YtjpfhhndjpdmoaaGreatDoor

/- A slice of bytes that came in as a cell of a struct. -/
namespace Go.Proofs.YtjpfhhndjpdmoaaGreatDoor
open Go.RowKit
section
variable {H : Type} {enc : TypeId × Value → H} {P : Program} {w : World} {held : Bool}
end
end Go.Proofs.YtjpfhhndjpdmoaaGreatDoor

namespace Go.Proofs.YtjpfhhndjpdmoaaGreatDoor
open Go.RowKit

theorem laid_row {P : Program} {W : World} {nm : String} {g : Nat} {cs : Array Value} {vs : List Value} {ps : List MemPlace} (hg : P.globalNamed nm = some g) (hv : W.var? P nm = some cs) (hcs : cs.toList = vs) (hpos : 0 < vs.length)
    (hm : ∀ b off, MemPlace.cell b off ∈ ps → (∃ c t, W.heap[b]? = some (.cells c t (0, 0)))) (hp : ∀ x, x ∈ MemPlace.row ⟨g, 0, none⟩ cs.size → x ∈ ps) : ∃ t, Row W g t vs.toArray := by
  have hsz : 0 < cs.size := by rw [← Array.length_toList, hcs]; exact hpos
  obtain ⟨c, t, hh⟩ := hm g 0 (hp _ (List.mem_map.2 ⟨0, List.mem_range.2 hsz, by simp⟩))
  simp only [World.var?, hg, Option.bind_some, hh, Option.some.injEq] at hv
  subst hv
  refine ⟨t, .of_heap ?_⟩
  rw [hh, ← hcs]
def numsOf {H : Type} : List (DataW H) → List Int
  | [] => []
  | .lit (.int _ z) :: r => z :: numsOf r
  | _ :: r => numsOf r
def partsOf {H : Type} : DataW H → List (DataW H)
  | .agg l => l
  | _ => []
abbrev hashLaid : List (String × DataW Unit) := [("tollgate/hash.start", Rows.laid_tollgate_hash_start), ("tollgate/hash.rounds", Rows.laid_tollgate_hash_rounds), ("unicode/utf8.acceptRanges", Rows.laid_unicode_utf8_acceptRanges), ("unicode/utf8.first", Rows.laid_unicode_utf8_first)]
theorem start_nums : (Rows.laid_tollgate_hash_start : DataW Unit) = .agg ((startS.map fun x => (x.toNat : Int)).map fun z => .lit (.int .u32 z)) := by kernel_rfl
theorem rounds_nums : (Rows.laid_tollgate_hash_rounds : DataW Unit) = .agg ((roundsS.map fun x => (x.toNat : Int)).map fun z => .lit (.int .u32 z)) := by kernel_rfl
end Go.Proofs.YtjpfhhndjpdmoaaGreatDoor
