/- Part of the proof: WaitsRun, PeerWaits, PeerWaitsF. No conditions of its own. -/
import Derived.ArgAppend
import Derived.Below
import Derived.BigQuiet
import Derived.Deep.CutBlock
import Derived.Deep.DeepCutAuto
import Derived.Deep.Draws
import Derived.Deep.LoopGhost
import Derived.Deep.Quiet
import Derived.Deep.QuietTactic
import Derived.Deep.RegionLaw
import Derived.KernelRfl
import Derived.Laws.AppendOwnNone
import Derived.Laws.Bits64b
import Derived.Laws.BitsAllLaws
import Derived.Laws.BytesArg
import Derived.Laws.CopyOwn
import Derived.Laws.CopyRow
import Derived.Laws.NewFold
import Derived.Laws.Strings
import Derived.Lib.AppendStr
import Derived.Lib.ConvBytes
import Derived.Lib.Hide
import Derived.Lib.MakeNoZero
import Derived.Maps.AppendAt
import Derived.Orders
import Derived.RowKit3
import Derived.Shelf.Bits.Mul64
import Derived.Shelf.Spec.BitsCarry
import Derived.StillTail
import Derived.Stop.BytesEq
import Derived.Test.YtjpfhhndjpdmoaaGreatDoorProg
import Derived.Test.YtjpfhhndjpdmoaaGreatDoorRows
import Derived.WalkKit
import Derived.Test.YtjpfhhndjpdmoaaGreatDoorK50
import Derived.JoinedOf
namespace Go.Proofs.YtjpfhhndjpdmoaaGreatDoor
open Go.RowKit
set_option linter.unusedVariables false
set_option linter.unusedSimpArgs false

def pwCells (lo hi st i : Nat) : List LV := [(.v (.string ⟨#[97]⟩)), (.slice 4549 0 1 1), (.v (.int .u8 3)), (.v (.int .u8 0)), (.v (.int .u8 0)), (.v (.int .u8 0)), (.v (.int .u8 0)), (.v (.int .u8 0)), (.v (.int .u8 0)), (.v (.int .u8 0)), (.v (.int .u8 0)), (.v (.int .u8 0)), (.v (.int .u8 0)), (.v (.int .u8 0)), (.v (.int .u8 0)), (.v (.int .u8 0)), (.v (.int .u8 0)), (.v (.int .u8 0)), (.v (.int .u8 0)), (.v (.int .u8 0)), (.v (.int .u8 0)), (.v (.int .u8 0)), (.v (.int .u8 0)), (.v (.int .u8 0)), (.v (.int .u8 0)), (.v (.int .u8 0)), (.v (.int .u8 0)), (.v (.int .u8 0)), (.v (.int .u8 0)), (.v (.int .u8 0)), (.v (.int .u8 0)), (.v (.int .u8 0)), (.v (.int .u8 0)), (.v (.int .u8 3)), (.slice 4550 0 1 1), (.v (.int .i64 5)), (.v (.int .u8 0)), (.v (.int .u8 0)), (.v (.int .u8 0)), (.v (.int .u8 0)), (.v (.int .u8 0)), (.v (.int .u8 0)), (.v (.int .u8 0)), (.v (.int .u8 0)), (.v (.int .u8 0)), (.v (.int .u8 0)), (.v (.int .u8 0)), (.v (.int .u8 0)), (.v (.int .u8 0)), (.v (.int .u8 0)), (.v (.int .u8 0)), (.v (.int .u8 0)), (.v (.int .u8 0)), (.v (.int .u8 0)), (.v (.int .u8 0)), (.v (.int .u8 0)), (.v (.int .u8 0)), (.v (.int .u8 0)), (.v (.int .u8 0)), (.v (.int .u8 0)), (.v (.int .u8 0)), (.v (.int .u8 0)), (.v (.int .u8 0)), (.v (.int .u8 0)), (.v (.int .u8 0)), (.v (.int .u8 0)), (.v (.int .u8 0)), (.v (.int .u8 0)), (.v (.bool false)), (.v (.slice none 0 0)), (.v (.int .u8 0)), (.v (.int .u8 0)), (.v (.int .u8 0)), (.v (.int .u8 0)), (.v (.int .u8 0)), (.v (.int .u8 0)), (.v (.int .u8 0)), (.v (.int .u8 0)), (.v (.int .u8 0)), (.v (.int .u8 0)), (.v (.int .u8 0)), (.v (.int .u8 0)), (.v (.int .u8 0)), (.v (.int .u8 0)), (.v (.int .u8 0)), (.v (.int .u8 0)), (.v (.int .u8 0)), (.v (.int .u8 0)), (.v (.int .u8 0)), (.v (.int .u8 0)), (.v (.int .u8 0)), (.v (.int .u8 0)), (.v (.int .u8 0)), (.v (.int .u8 0)), (.v (.int .u8 0)), (.v (.int .u8 0)), (.v (.int .u8 0)), (.v (.int .u8 0)), (.v (.int .u8 0)), (.v (.int .u8 0)), (.v (.int .u8 0)), (.v (.int .u8 0)), (.v (.int .i64 0)), (.v (.int .i64 0)), (.v (.string ⟨#[]⟩)), (.v (.string ⟨#[]⟩)), (.v (.int .i64 0)), (.v (.int .i64 0)), (.v (.slice none 0 0)), (.v (.bool false)), (.v (.int .i64 0)), (.v (.int .i64 0)), (.v (.int .u8 0)), (.v (.int .u8 0)), (.v (.int .u8 0)), (.v (.int .u8 0)), (.v (.int .u8 0)), (.v (.int .u8 0)), (.v (.int .u8 0)), (.v (.int .u8 0)), (.v (.int .u8 0)), (.v (.int .u8 0)), (.v (.int .u8 0)), (.v (.int .u8 0)), (.v (.int .u8 0)), (.v (.int .u8 0)), (.v (.int .u8 0)), (.v (.int .u8 0)), (.v (.int .u8 0)), (.v (.int .u8 0)), (.v (.int .u8 0)), (.v (.int .u8 0)), (.v (.int .u8 0)), (.v (.int .u8 0)), (.v (.int .u8 0)), (.v (.int .u8 0)), (.v (.int .u8 0)), (.v (.int .u8 0)), (.v (.int .u8 0)), (.v (.int .u8 0)), (.v (.int .u8 0)), (.v (.int .u8 0)), (.v (.int .u8 0)), (.v (.int .u8 0)), (.v (.int .i64 100))] ++ [.sym 1000000 .i64 lo hi [], .v (.int .i64 (.ofNat st)), (.buf 4579 0 5 1), (.v (.int .i64 1)), (.buf 4585 0 6 1), (.v (.pointer none)), .v (.int .i64 (.ofNat i))]
structure WS where
  st : Nat
  lo : Nat
  hi : Nat
  klo : Nat
  khi : Nat
  i : Nat
def pwNx : Nat := 4588
def pwD (s : WS) : List (Nat × Blk) := [(4562, ⟨80, true, false, pwCells s.lo s.hi s.st s.i⟩)]
def pwPat (s : WS) : Pat := ⟨[(0, .sym 1000000 .i64 s.lo s.hi []), (1, .sym 1000001 .i64 s.klo s.khi []), (8, .ptr 4562 0), (11, .v (.int .i64 (.ofNat s.i)))], pwD s, pwNx⟩
def pwPat0 : Pat := ⟨[(0, .sym 1000000 .i64 1 20 []), (1, .sym 1000001 .i64 0 39 []), (8, .ptr 4562 0)], pwD ⟨1, 1, 20, 0, 39, 0⟩, pwNx⟩
def pwSig : Sg := [(1000000, .num 1000000), (1000001, .num 1000001), (4549, .num 4549), (4550, .num 4550), (4562, .num 4562), (4579, .num 4579), (4585, .num 4585)]
abbrev pwF : FuncId := 5
noncomputable def pwB : Code := Cd.bodyOf Tryz.prog pwF
noncomputable def pwC1 : Code := Cd.drop 1 pwB
noncomputable def pwC2 : Code := Cd.drop 5 pwC1
noncomputable def pwL : Code := Cd.a (Cd.a (Cd.b (Cd.a pwC2)))
noncomputable def pwTl : Code := Cd.b pwC2
def pwTalk (j : Nat) : WS := ⟨1, j + 1, 20, j, 39, j⟩
def pwLost (j : Nat) : WS := ⟨4, 1, Nat.min j 20, j, 39, j⟩
def pwKn (s : WS) : Kn := ⟨[(1000000, s.lo, s.hi, []), (1000001, s.klo, s.khi, [])], []⟩
def pwRef (s s' : WS) : Bool := insS GN pwSig (pwKn s') (pwPat s') (stOf 83 (pwPat s))
noncomputable def pwRnd (s s' : WS) : Bool := okS GN pwSig ⟨[], []⟩ (pwPat s') .normal pwNx (evCQ Tryz.prog GN cfP 1000 pwL (stOf 83 (pwPat s)))
noncomputable def pwExt (s s' : WS) : Bool := okS GN pwSig ⟨[], []⟩ (pwPat s') (.exit 2) pwNx (evCQ Tryz.prog GN cfP 1000 pwL (stOf 83 (pwPat s)))
noncomputable def pwEnd (s : WS) : Bool := okE Tryz.prog pwNx Tryz.f5.results.toList (evCQ Tryz.prog GN cfP 1000 pwTl (stOf 83 (pwPat s)))
noncomputable def talkExit (j : Nat) : Bool := pwRef (pwTalk j) ⟨1, j + 1, 20, j, j, j⟩ && (pwExt ⟨1, j + 1, 20, j, j, j⟩ ⟨1, j + 1, 20, j, j, j⟩ && pwEnd ⟨1, j + 1, 20, j, j, j⟩)
noncomputable def talkStay (j : Nat) : Bool := pwRef (pwTalk j) ⟨1, j + 2, 20, j + 1, 39, j⟩ && pwRnd ⟨1, j + 2, 20, j + 1, 39, j⟩ (pwTalk (j + 1))
noncomputable def talkLose (j : Nat) : Bool := pwRef (pwTalk j) ⟨1, j + 1, j + 1, j + 1, 39, j⟩ && pwRnd ⟨1, j + 1, j + 1, j + 1, 39, j⟩ (pwLost (j + 1))
noncomputable def lostExit (j : Nat) : Bool := pwRef (pwLost j) ⟨4, 1, Nat.min j 20, j, j, j⟩ && (pwExt ⟨4, 1, Nat.min j 20, j, j, j⟩ ⟨4, 1, Nat.min j 20, j, j, j⟩ && pwEnd ⟨4, 1, Nat.min j 20, j, j, j⟩)
noncomputable def lostStay (j : Nat) : Bool := pwRef (pwLost j) ⟨4, 1, Nat.min j 20, j + 1, 39, j⟩ && pwRnd ⟨4, 1, Nat.min j 20, j + 1, 39, j⟩ (pwLost (j + 1))
def upB (n : Nat) (p : Nat → Bool) : Bool := match n with | 0 => true | k + 1 => p k && upB k p
theorem upB_ok {p : Nat → Bool} : ∀ {n : Nat}, upB n p = true → ∀ j, j < n → p j = true
  | 0, _, j, h => by omega
  | n + 1, h, j, hj => by
    simp only [upB, Bool.and_eq_true] at h
    by_cases e : j = n
    · subst e; exact h.1
    · exact upB_ok h.2 j (by omega)
theorem talkExit_ok : upB 20 talkExit = true := by kernel_rfl
theorem talkStay_ok : upB 19 talkStay = true := by kernel_rfl
theorem talkLose_ok : upB 20 talkLose = true := by kernel_rfl
theorem lostExit_ok : upB 39 (fun j => lostExit (j + 1)) = true := by kernel_rfl
theorem lostStay_ok : upB 38 (fun j => lostStay (j + 1)) = true := by kernel_rfl
theorem pwPre0_ok (t1 t2 t3 t4 t5 t6 t7 : TypeId) : okS GN pwSig ⟨[], []⟩ pwPat0 .normal GN (evPre Tryz.prog GN cfP 100000 5 pwC1 ⟨83, trOf [(0, .sym 1000000 .i64 1 20 []), (1, .sym 1000001 .i64 0 39 [])], GH t1 t2 t3 t4 t5 t6 t7, GN, []⟩) = true := by kernel_rfl
theorem pwPre1_ok : okS GN pwSig ⟨[], []⟩ (pwPat (pwTalk 0)) .normal (stOf 83 pwPat0).nx (evPre Tryz.prog GN cfP 1000 0 (Cd.a pwC2) (stOf 83 pwPat0)) = true := by kernel_rfl
end Go.Proofs.YtjpfhhndjpdmoaaGreatDoor

namespace Go.Proofs.YtjpfhhndjpdmoaaGreatDoor
open Go.RowKit
set_option linter.unusedVariables false
set_option linter.unusedSimpArgs false
section
variable {w0 : World} (hW : HashW w0) (hC : CurveW w0)
theorem sym_at {ν : Env} {s : St} {a : Act} {w : World} {GE : Env → Prop} {B t b lo hi : Nat} {k : IntKind} {ne : List Nat} (hs : StR Tryz.prog GE GN B w0 ν s a w) (ht : s.T.get t = some (.sym b k lo hi ne)) : ∃ l, ν b = some l ∧ lo ≤ l.addr ∧ l.addr ≤ hi := by
  have h := hs.tr t _ ht
  simp only [VR] at h
  obtain ⟨l, h1, _, h2, h3, _⟩ := h
  exact ⟨l, h1, h2, h3⟩
end
theorem lk_sig : ∀ b, b = 1000000 ∨ b = 1000001 → lkS pwSig b = some (.num b) := by
  intro b hb
  rcases hb with rfl | rfl <;> kernel_rfl
theorem pw_ref {w0 w : World} {s s' : WS} {ν : Env} {a : Act} (h : pwRef s s' = true) (hs : StR Tryz.prog (GlobE Tryz.prog) GN w0.heap.size w0 ν (stOf 83 (pwPat s)) a w)
    (hb : ∀ l m, ν 1000000 = some l → ν 1000001 = some m → s.lo ≤ l.addr → l.addr ≤ s.hi → s.klo ≤ m.addr → m.addr ≤ s.khi → (s'.lo ≤ l.addr ∧ l.addr ≤ s'.hi) ∧ (s'.klo ≤ m.addr ∧ m.addr ≤ s'.khi)) :
    ∃ ν', StR Tryz.prog (GlobE Tryz.prog) GN w0.heap.size w0 ν' (stOf 83 (pwPat s')) a w ∧ Free ν' pwNx := by
  have hT0 : (stOf 83 (pwPat s)).T.get 0 = some (.sym 1000000 .i64 s.lo s.hi []) := rfl
  have hT1 : (stOf 83 (pwPat s)).T.get 1 = some (.sym 1000001 .i64 s.klo s.khi []) := rfl
  obtain ⟨l, h1, h2, h3⟩ := sym_at hs hT0
  obtain ⟨m, g1, g2, g3⟩ := sym_at hs hT1
  obtain ⟨⟨p1, p2⟩, p3, p4⟩ := hb l m h1 g1 h2 h3 g2 g3
  have e1 : envS GN pwSig ν 1000000 = some l := by unfold envS; rw [lk_sig _ (.inl rfl)]; exact h1
  have e2 : envS GN pwSig ν 1000001 = some m := by unfold envS; rw [lk_sig _ (.inr rfl)]; exact g1
  have hK : KnOk GN pwSig (pwKn s') ν := by
    refine ⟨fun b lo hi ne hm => ?_, fun b c hm => (by cases hm)⟩
    simp only [pwKn, List.mem_cons, List.not_mem_nil, or_false, Prod.mk.injEq] at hm
    rcases hm with ⟨rfl, rfl, rfl, rfl⟩ | ⟨rfl, rfl, rfl, rfl⟩
    · exact ⟨l, e1, p1, p2, fun c hc => (by cases hc)⟩
    · exact ⟨m, e2, p3, p4, fun c hc => (by cases hc)⟩
  have hgs : Tryz.prog.globals.size ≤ GN := Nat.le_of_ble_eq_true (by kernel_rfl)
  exact ⟨_, ins_ok hK hs (glob_envS hgs (insS_K h) hs.glob) h⟩
section
variable {w0 : World} (hW : HashW w0) (hC : CurveW w0)
theorem gl_env {nx : Nat} {ν' : Env} {σ : Sg} (h : GlobE Tryz.prog ν') (hK : insK GN nx σ = true) : GlobE Tryz.prog (envS GN σ ν') := glob_envS (Nat.le_of_ble_eq_true (by kernel_rfl)) hK h
abbrev PwR (w0 : World) (ν : Env) (s : WS) (a : Act) (w : World) : Prop := StR Tryz.prog (GlobE Tryz.prog) GN w0.heap.size w0 ν (stOf 83 (pwPat s)) a w
include hW hC
theorem pw_body {s s' : WS} (h : pwRnd s s' = true) {ν : Env} {a : Act} {w : World} (hs : PwR w0 ν s a w) (hf : Free ν pwNx) : pwL.wp Tryz.prog (fun e a' w' => e = .normal ∧ ∃ ν', PwR w0 ν' s' a' w' ∧ Free ν' pwNx) a w :=
  by
  unfold pwRnd at h
  exact stretch (n := 1000) (c := pwL) (s := stOf 83 (pwPat s)) (t := pwPat s') (σ := pwSig) (x := .normal) (by kernel_rfl) (evP_ok hW hC) (Nat.le_refl _) h (fun ν' h1 h2 => gl_env h1 h2) hs hf
theorem pw_leave {s s' : WS} (h : pwExt s s' = true) {ν : Env} {a : Act} {w : World} (hs : PwR w0 ν s a w) (hf : Free ν pwNx) : pwL.wp Tryz.prog (fun e a' w' => e = .exit 2 ∧ ∃ ν', PwR w0 ν' s' a' w' ∧ Free ν' pwNx) a w :=
  by
  unfold pwExt at h
  exact stretch (n := 1000) (c := pwL) (s := stOf 83 (pwPat s)) (t := pwPat s') (σ := pwSig) (x := .exit 2) (by kernel_rfl) (evP_ok hW hC) (Nat.le_refl _) h (fun ν' h1 h2 => gl_env h1 h2) hs hf
theorem pw_loop {Q : Exit → Act → World → Prop} (hQ : ∀ s ν a w, pwEnd s = true → PwR w0 ν s a w → Free ν pwNx → Q (.exit 2) a w) : ∀ d j, j + d = 39 →
    (j < 20 → ∀ ν a w, PwR w0 ν (pwTalk j) a w → Free ν pwNx → LoopW Tryz.prog pwL Q a w) ∧ (1 ≤ j → ∀ ν a w, PwR w0 ν (pwLost j) a w → Free ν pwNx → LoopW Tryz.prog pwL Q a w) := by
  intro d
  induction d with
  | zero =>
    intro j hj
    obtain rfl : j = 39 := by omega
    refine ⟨fun h => by omega, fun _ ν a w hs hf => ?_⟩
    have h1 := upB_ok lostExit_ok 38 (by omega)
    simp only [lostExit, Bool.and_eq_true] at h1
    obtain ⟨q1, q2, q3⟩ := h1
    obtain ⟨ν1, hs1, hf1⟩ := pw_ref q1 hs (fun l m _ _ h2 h3 h4 h5 => ⟨⟨h2, h3⟩, h4, h5⟩)
    refine loopW_round (wp_mono (pw_leave hW hC q2 hs1 hf1) ?_)
    rintro e a' w' ⟨rfl, ν', g1, g2⟩
    exact hQ _ _ _ _ q3 g1 g2
  | succ d ih =>
    intro j hj
    obtain ⟨ihT, ihL⟩ := ih (j + 1) (by omega)
    refine ⟨fun hj20 ν a w hs hf => ?_, fun hj1 ν a w hs hf => ?_⟩
    · obtain ⟨l, hl1, hl2, hl3⟩ := sym_at hs (show (stOf 83 (pwPat (pwTalk j))).T.get 0 = _ from rfl)
      obtain ⟨m, hm1, hm2, hm3⟩ := sym_at hs (show (stOf 83 (pwPat (pwTalk j))).T.get 1 = _ from rfl)
      simp only [pwTalk] at hl2 hl3 hm2 hm3
      by_cases hk : m.addr = j
      · have h1 := upB_ok talkExit_ok j hj20
        simp only [talkExit, Bool.and_eq_true] at h1
        obtain ⟨q1, q2, q3⟩ := h1
        obtain ⟨ν1, hs1, hf1⟩ := pw_ref q1 hs (fun l' m' e1 e2 h2 h3 h4 h5 => by
          rw [hl1] at e1; cases e1; rw [hm1] at e2; cases e2
          exact ⟨⟨h2, h3⟩, by show j ≤ _; omega, by show _ ≤ j; omega⟩)
        refine loopW_round (wp_mono (pw_leave hW hC q2 hs1 hf1) ?_)
        rintro e a' w' ⟨rfl, ν', g1, g2⟩
        exact hQ _ _ _ _ q3 g1 g2
      · by_cases hw : l.addr = j + 1
        · have h1 := upB_ok talkLose_ok j hj20
          simp only [talkLose, Bool.and_eq_true] at h1
          obtain ⟨q1, q2⟩ := h1
          obtain ⟨ν1, hs1, hf1⟩ := pw_ref q1 hs (fun l' m' e1 e2 h2 h3 h4 h5 => by
            rw [hl1] at e1; cases e1; rw [hm1] at e2; cases e2
            exact ⟨⟨by show j + 1 ≤ _; omega, by show _ ≤ j + 1; omega⟩, by show j + 1 ≤ _; omega, by show _ ≤ 39; omega⟩)
          refine loopW_round (wp_mono (pw_body hW hC q2 hs1 hf1) ?_)
          rintro e a' w' ⟨rfl, ν', g1, g2⟩
          exact ihL (by omega) _ _ _ g1 g2
        · have h1 := upB_ok talkStay_ok j (by omega)
          simp only [talkStay, Bool.and_eq_true] at h1
          obtain ⟨q1, q2⟩ := h1
          obtain ⟨ν1, hs1, hf1⟩ := pw_ref q1 hs (fun l' m' e1 e2 h2 h3 h4 h5 => by
            rw [hl1] at e1; cases e1; rw [hm1] at e2; cases e2
            exact ⟨⟨by show j + 2 ≤ _; omega, by show _ ≤ 20; omega⟩, by show j + 1 ≤ _; omega, by show _ ≤ 39; omega⟩)
          refine loopW_round (wp_mono (pw_body hW hC q2 hs1 hf1) ?_)
          rintro e a' w' ⟨rfl, ν', g1, g2⟩
          exact ihT (by omega) _ _ _ g1 g2
    · obtain ⟨m, hm1, hm2, hm3⟩ := sym_at hs (show (stOf 83 (pwPat (pwLost j))).T.get 1 = _ from rfl)
      simp only [pwLost] at hm2 hm3
      obtain ⟨j, rfl⟩ : ∃ i, j = i + 1 := ⟨j - 1, by omega⟩
      by_cases hk : m.addr = j + 1
      · have h1 := upB_ok lostExit_ok j (by omega)
        simp only [lostExit, Bool.and_eq_true] at h1
        obtain ⟨q1, q2, q3⟩ := h1
        obtain ⟨ν1, hs1, hf1⟩ := pw_ref q1 hs (fun l' m' e1 e2 h2 h3 h4 h5 => by
          rw [hm1] at e2; cases e2
          exact ⟨⟨h2, h3⟩, by show j + 1 ≤ _; omega, by show _ ≤ j + 1; omega⟩)
        refine loopW_round (wp_mono (pw_leave hW hC q2 hs1 hf1) ?_)
        rintro e a' w' ⟨rfl, ν', g1, g2⟩
        exact hQ _ _ _ _ q3 g1 g2
      · have h1 := upB_ok lostStay_ok j (by omega)
        simp only [lostStay, Bool.and_eq_true] at h1
        obtain ⟨q1, q2⟩ := h1
        obtain ⟨ν1, hs1, hf1⟩ := pw_ref q1 hs (fun l' m' e1 e2 h2 h3 h4 h5 => by
          rw [hm1] at e2; cases e2
          exact ⟨⟨h2, h3⟩, by show j + 1 + 1 ≤ _; omega, by show _ ≤ 39; omega⟩)
        refine loopW_round (wp_mono (pw_body hW hC q2 hs1 hf1) ?_)
        rintro e a' w' ⟨rfl, ν', g1, g2⟩
        exact ihL (by omega) _ _ _ g1 g2
end
/-! ### the beginning -/
def waitZ (z : Int) : Int := IntKind.i64.wrap (1 + IntKind.i64.wrap ((IntKind.u64.wrap z).tmod 20))
def tickZ (z : Int) : Int := IntKind.i64.wrap ((IntKind.u64.wrap z).tmod 40)
theorem mod_of (z k : Int) (hk : 0 < k) (hk2 : k ≤ 1000) : 0 ≤ (IntKind.u64.wrap z).tmod k ∧ (IntKind.u64.wrap z).tmod k < k := by
  have h0 : 0 ≤ IntKind.u64.wrap z := by
    unfold IntKind.wrap
    simp only [show IntKind.u64.signed = false from rfl, Bool.false_and, Bool.false_eq_true, if_false]
    exact Int.emod_nonneg _ (by decide)
  rw [Int.tmod_eq_emod_of_nonneg h0]
  exact ⟨Int.emod_nonneg _ (by omega), Int.emod_lt_of_pos _ hk⟩
theorem waitZ_ok (z : Int) : ∃ n : Nat, waitZ z = (n : Int) ∧ 1 ≤ n ∧ n ≤ 20 := by
  obtain ⟨h1, h2⟩ := mod_of z 20 (by omega) (by omega)
  unfold waitZ
  have e1 : IntKind.i64.wrap ((IntKind.u64.wrap z).tmod 20) = (IntKind.u64.wrap z).tmod 20 := by rw [IntKind.wrap_i64]; omega
  rw [e1]
  have e2 : IntKind.i64.wrap (1 + (IntKind.u64.wrap z).tmod 20) = 1 + (IntKind.u64.wrap z).tmod 20 := by rw [IntKind.wrap_i64]; omega
  rw [e2]
  exact ⟨(1 + (IntKind.u64.wrap z).tmod 20).toNat, by omega, by omega, by omega⟩
theorem tickZ_ok (z : Int) : ∃ n : Nat, tickZ z = (n : Int) ∧ n ≤ 39 := by
  obtain ⟨h1, h2⟩ := mod_of z 40 (by omega) (by omega)
  unfold tickZ
  have e1 : IntKind.i64.wrap ((IntKind.u64.wrap z).tmod 40) = (IntKind.u64.wrap z).tmod 40 := by rw [IntKind.wrap_i64]; omega
  rw [e1]
  exact ⟨((IntKind.u64.wrap z).tmod 40).toNat, by omega, by omega⟩
noncomputable def pwHead (cf : FuncId → List LV → Hp → Nat → Option Out) (s : St) : Option (Ex × St) := match evC Tryz.prog GN cf 9 (Cd.a pwB) s with
  | some (.normal, s1) => evC Tryz.prog GN cf 9 (Cd.a (Cd.b pwB)) s1
  | _ => none
def pwS0 (t1 t2 t3 t4 t5 t6 t7 : TypeId) (a b : Int) : St := ⟨83, argsT 0 [.v (.int .i64 a), .v (.int .i64 b)] .nil, GH t1 t2 t3 t4 t5 t6 t7, GN, []⟩
def headR (r : Option (Ex × St)) : Option (Bool × Option LV × Option LV × Nat × Nat) := r.map fun r => (exB r.1 .normal, r.2.T.get 0, r.2.T.get 1, r.2.nx, r.2.nt)
theorem pwHead_T (cf : FuncId → List LV → Hp → Nat → Option Out) (t1 t2 t3 t4 t5 t6 t7 : TypeId) (a b : Int) : headR (pwHead cf (pwS0 t1 t2 t3 t4 t5 t6 t7 a b)) = some (true, some (.v (.int .i64 (waitZ a))), some (.v (.int .i64 (tickZ b))), GN, 83) := by kernel_rfl
theorem pwHead_H (cf : FuncId → List LV → Hp → Nat → Option Out) (t1 t2 t3 t4 t5 t6 t7 : TypeId) (a b : Int) : (pwHead cf (pwS0 t1 t2 t3 t4 t5 t6 t7 a b)).map (fun r => r.2.H) = some (GH t1 t2 t3 t4 t5 t6 t7) := by kernel_rfl
theorem pwait_law (a b : Int) (wa : (Lit.int .i64 a).wf = true) (wb : (Lit.int .i64 b).wf = true) (w : World) (hW : HashW w) (hC : CurveW w) : Calls Tryz.prog pwF #[.int .i64 a, .int .i64 b] w fun e w' => e = .returned (.bool true) ∧ Below w.heap.size w w' := by
  obtain ⟨t1, t2, t3, t4, t5, t6, t7, hg⟩ := grows hW hC
  refine law_wp (nB := GN) (B := w.heap.size) (w0 := w) (GE := GlobE Tryz.prog) (c := pwB) Tryz.func5 (by kernel_rfl) (vs := [.int .i64 a, .int .i64 b]) ?_
  have hs := start hg (l := []) (nt := Tryz.f5.ntmps) (N := 83) (args := [.v (.int .i64 a), .v (.int .i64 b)]) (vs := [.int .i64 a, .int .i64 b]) (by kernel_rfl) (VRs.cons_iff.2 ⟨_, _, rfl, by simp [VR, plainV], VRs.cons_iff.2 ⟨_, _, rfl, by simp [VR, plainV], VRs.nil_iff.2 rfl⟩⟩)
  have hf := nuS_free (t1 := t1) (t2 := t2) (t3 := t3) (t4 := t4) (t5 := t5) (t6 := t6) (t7 := t7) []
  have hE := evP_ok (GE := GlobE Tryz.prog) hW hC
  have hT := pwHead_T cfP t1 t2 t3 t4 t5 t6 t7 a b
  have hH := pwHead_H cfP t1 t2 t3 t4 t5 t6 t7 a b
  unfold pwHead at hT hH
  cases h1 : evC Tryz.prog GN cfP 9 (Cd.a pwB) (pwS0 t1 t2 t3 t4 t5 t6 t7 a b) with
  | none => rw [h1] at hT; cases hT
  | some r1 =>
    obtain ⟨x1, s1⟩ := r1
    rw [h1] at hT hH
    cases x1 with
    | exit i => cases hT
    | ret => cases hT
    | normal =>
      simp only at hT hH
      cases h2 : evC Tryz.prog GN cfP 9 (Cd.a (Cd.b pwB)) s1 with
      | none => rw [h2] at hT; cases hT
      | some r2 =>
        obtain ⟨x2, s2⟩ := r2
        rw [h2] at hT hH
        simp only [headR, Option.map_some, Option.some.injEq, Prod.mk.injEq] at hT hH
        obtain ⟨hx, hT0, hT1, hnx, hnt⟩ := hT
        obtain rfl := exB_ok hx
        have m1 := evC_mono h1
        have m2 := evC_mono h2
        have hn0 : (pwS0 t1 t2 t3 t4 t5 t6 t7 a b).nx = GN := rfl
        refine wpSeq (by kernel_rfl) (wp_mono ((code_all (by kernel_rfl) hE (Nat.le_refl _) 9).1 _ _ _ .normal h1 _ _ _ hs (fun i g1 g2 => by omega)) ?_)
        rintro e a1 w1 ⟨rfl, ν1, hs1, hf1⟩
        refine wpSeq (by kernel_rfl) (wp_mono ((code_all (by kernel_rfl) hE (Nat.le_refl _) 9).1 _ _ _ .normal h2 _ _ _ hs1 (fun i g1 g2 => by omega)) ?_)
        rintro e a2 w2 ⟨rfl, ν2, hs2, hf2⟩
        have hfr : Free ν2 GN := fun i g1 g2 => by
          rw [hf2.ext i (by omega), hf1.ext i (by omega)]
          exact hf i g1 g2
        have hfS : ∀ i, SB ≤ i → ν2 i = none := fun i g1 => by
          have hsb : GN < SB := by decide
          rw [hf2.ext i (by omega), hf1.ext i (by omega)]
          unfold nuS
          rw [if_neg (by omega), if_pos g1]
          rfl
        obtain ⟨n, hn, hn1, hn2⟩ := waitZ_ok a
        obtain ⟨m, hm, hm2⟩ := tickZ_ok b
        have v0 := hs2.tr 0 _ hT0
        have v1 := hs2.tr 1 _ hT1
        simp only [VR] at v0 v1
        rw [hn] at v0
        rw [hm] at v1
        -- the names
        let ν3 : Env := fun i => if i = 1000000 then some ⟨n, 0⟩ else if i = 1000001 then some ⟨m, 0⟩ else ν2 i
        have e0 : ν3 1000000 = some ⟨n, 0⟩ := rfl
        have e1 : ν3 1000001 = some ⟨m, 0⟩ := rfl
        have hx3 : Ext ν2 ν3 := fun i l hl => by
          show (if i = 1000000 then some ⟨n, 0⟩ else if i = 1000001 then some ⟨m, 0⟩ else ν2 i) = some l
          by_cases hi : SB ≤ i
          · rw [hfS i hi] at hl; cases hl
          · have hsb : SB = 1000000 := rfl
            rw [if_neg (by omega), if_neg (by omega)]; exact hl
        have hl3 : ∀ i, i < SB → ν3 i = ν2 i := fun i hi => by
          show (if i = 1000000 then some ⟨n, 0⟩ else if i = 1000001 then some ⟨m, 0⟩ else ν2 i) = ν2 i
          have hsb : SB = 1000000 := rfl
          rw [if_neg (by omega), if_neg (by omega)]
        have hs3 := hs2.slots (GE2 := GlobE Tryz.prog) (ν' := ν3) (T := [(0, .sym 1000000 .i64 1 20 []), (1, .sym 1000001 .i64 0 39 [])]) hx3 (fun i hi => hl3 i (Nat.lt_of_lt_of_le hi (by rw [hnx]; exact Nat.le_of_ble_eq_true rfl))) (GEok.mono (P := Tryz.prog) _ _ hx3 hs2.glob) (fun t x hx => by
          simp only [List.mem_cons, List.not_mem_nil, or_false, Prod.mk.injEq] at hx
          rcases hx with ⟨rfl, rfl⟩ | ⟨rfl, rfl⟩
          · rw [v0.1]; exact vr_sym e0 hn1 hn2 (by decide) (fun c hc => by cases hc)
          · rw [v1.1]; exact vr_sym e1 (Nat.zero_le _) hm2 (by decide) (fun c hc => by cases hc))
        have hfr3 : Free ν3 GN := fun i g1 g2 => by rw [hl3 i g2]; exact hfr i g1 g2
        rw [hH, hnt, hnx] at hs3
        show pwC1.wp Tryz.prog _ a2 w2
        refine pre_ok (GE2 := GlobE Tryz.prog) (callf := cfP) (lf := 100000) (n := 5) (c := pwC1) (s := ⟨83, trOf [(0, .sym 1000000 .i64 1 20 []), (1, .sym 1000001 .i64 0 39 [])], GH t1 t2 t3 t4 t5 t6 t7, GN, []⟩) (t := pwPat0) (σ := pwSig) (by kernel_rfl) hE (Nat.le_refl _) (pwPre0_ok t1 t2 t3 t4 t5 t6 t7) (fun ν' g1 g2 => gl_env g1 g2) hs3 hfr3 (fun a4 w4 ν4 hs4 hf4 => ?_)
        show pwC2.wp Tryz.prog _ a4 w4
        refine wpSeq (c := pwC2) (by kernel_rfl) ?_
        have hs4' : StR Tryz.prog (GlobE Tryz.prog) GN w.heap.size w ν4 (stOf 83 pwPat0) a4 w4 := hs4
        have hf4' : Free ν4 (stOf 83 pwPat0).nx := hf4
        refine pre_ok (GE2 := GlobE Tryz.prog) (callf := cfP) (lf := 1000) (n := 0) (c := Cd.a pwC2) (s := stOf 83 pwPat0) (t := pwPat (pwTalk 0)) (σ := pwSig) (by kernel_rfl) hE (Nat.le_refl _) pwPre1_ok (fun ν' g1 g2 => gl_env g1 g2) hs4' hf4' (fun a5 w5 ν5 hs5 hf5 => ?_)
        refine wpBlock (by kernel_rfl) (wpLoop (by kernel_rfl) ?_)
        refine (pw_loop hW hC (Q := _) (fun s ν a' w' hend hsE hfE => ?_) 39 0 rfl).1 (by omega) ν5 a5 w5 hs5 hf5
        show (if 2 = Cd.id (Cd.drop 0 (Cd.a pwC2)) then _ else _)
        rw [if_pos (by kernel_rfl)]
        unfold pwEnd at hend
        exact stretchE (n := 1000) (c := pwTl) (s := stOf 83 (pwPat s)) (by kernel_rfl) hE (Nat.le_refl _) hend hsE hfE
end Go.Proofs.YtjpfhhndjpdmoaaGreatDoor

namespace Go.Proofs.YtjpfhhndjpdmoaaGreatDoor.peerWaitsDone
open Go.ChangeShapes Go.WideShapes Go.RowKit
set_option maxHeartbeats 4000000 in
theorem facts : joinedFacts Tryz.prog 5 Tryz.f5 Rows.peerWaitsSpec Rows.peerWaitsRow = true := by
  unfold joinedFacts
  simp only [Bool.and_eq_true]
  and_intros
  all_goals as_aux_lemma => kernel_rfl
end Go.Proofs.YtjpfhhndjpdmoaaGreatDoor.peerWaitsDone
