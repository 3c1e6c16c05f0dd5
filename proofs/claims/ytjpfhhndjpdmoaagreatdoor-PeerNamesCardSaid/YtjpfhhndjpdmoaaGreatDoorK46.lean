/- Part of the proof: EvNa, EvSt, Sg0. No conditions of its own. -/
import Derived.Below
import Derived.KernelRfl
import Derived.Laws.BytesArg
import Derived.Laws.CopyRow
import Derived.Laws.NewFold
import Derived.Laws.Strings
import Derived.Lib.ConvBytes
import Derived.Orders
import Derived.RowKit3
import Derived.Test.YtjpfhhndjpdmoaaGreatDoorK45
import Derived.Test.YtjpfhhndjpdmoaaGreatDoorK14
import Derived.ArgAppend
import Derived.BigQuiet
import Derived.Deep.CutBlock
import Derived.Deep.DeepCutAuto
import Derived.Deep.Draws
import Derived.Deep.LoopGhost
import Derived.Deep.Quiet
import Derived.Deep.QuietTactic
import Derived.Deep.RegionLaw
import Derived.Laws.AppendOwnNone
import Derived.Laws.Bits64b
import Derived.Laws.BitsAllLaws
import Derived.Laws.CopyOwn
import Derived.Lib.AppendStr
import Derived.Lib.Hide
import Derived.Lib.MakeNoZero
import Derived.Maps.AppendAt
import Derived.Shelf.Bits.Mul64
import Derived.Shelf.Spec.BitsCarry
import Derived.StillTail
import Derived.Stop.BytesEq
import Derived.Test.YtjpfhhndjpdmoaaGreatDoorProg
import Derived.Test.YtjpfhhndjpdmoaaGreatDoorRows
import Derived.WalkKit
import Derived.Test.YtjpfhhndjpdmoaaGreatDoorK43
namespace Go.Proofs.YtjpfhhndjpdmoaaGreatDoor
set_option linter.unusedVariables false
set_option linter.unusedSimpArgs false
set_option autoImplicit false

def hasD (r : Rc) : Bool := match r.d with | [] => false | _ :: _ => true
def chg (rs : List Rc) : List Rc := rs.filter hasD
theorem chg_cons (r : Rc) (rs : List Rc) : chg (r :: rs) = match r.d with | [] => chg rs | _ :: _ => r :: chg rs := by
  unfold chg hasD
  rw [List.filter_cons]
  cases r.d <;> rfl
theorem overH_chg (H : Hp) (m : Nat) : ∀ rs : List Rc, overH H m (chg rs) = overH H m rs
  | [] => rfl
  | r :: rs => by
    rw [chg_cons]
    cases h : r.d with
    | nil =>
      dsimp only
      rw [overH_chg H m rs]
      show _ = if m.testBit r.j then (overH H m rs).app r.d else overH H m rs
      rw [h]
      split <;> rfl
    | cons x d =>
      show (if m.testBit r.j then (overH H m (chg rs)).app r.d else overH H m (chg rs)) = if m.testBit r.j then (overH H m rs).app r.d else overH H m rs
      rw [overH_chg H m rs]
theorem allH_chg (H : Hp) : ∀ rs : List Rc, allH H (chg rs) = allH H rs
  | [] => rfl
  | r :: rs => by
    rw [chg_cons]
    cases h : r.d with
    | nil =>
      dsimp only
      rw [allH_chg H rs]
      show _ = (allH H rs).app r.d
      rw [h]
      all_goals rfl
    | cons x d =>
      show (allH H (chg rs)).app r.d = (allH H rs).app r.d
      rw [allH_chg H rs]
theorem wrOf_chg : ∀ rs : List Rc, wrOf (chg rs) = wrOf rs
  | [] => rfl
  | r :: rs => by
    rw [chg_cons]
    cases h : r.d with
    | nil =>
      dsimp only
      rw [wrOf_chg rs]
      show _ = oldW r.nx r.d ++ wrOf rs
      rw [h]
      all_goals rfl
    | cons x d =>
      show oldW r.nx r.d ++ wrOf (chg rs) = oldW r.nx r.d ++ wrOf rs
      rw [wrOf_chg rs]
theorem apart_nil (foot : Option (List Nat)) : apartB [] foot = true := by cases foot <;> rfl
theorem freeB_chg (m : Nat) (foot : Option (List Nat)) : ∀ rs : List Rc, freeB m [] foot (chg rs) = freeB m [] foot rs
  | [] => rfl
  | r :: rs => by
    rw [chg_cons]
    cases h : r.d with
    | nil =>
      dsimp only
      rw [freeB_chg m foot rs]
      show _ = ((m.testBit r.j || (apartB (oldW r.nx r.d) foot && apartB [] r.foot)) && freeB m [] foot rs)
      rw [h]
      simp only [oldW, apart_nil, Bool.and_self, Bool.or_true, Bool.true_and]
    | cons x d =>
      show ((m.testBit r.j || (apartB (oldW r.nx r.d) foot && apartB [] r.foot)) && freeB m [] foot (chg rs)) = ((m.testBit r.j || (apartB (oldW r.nx r.d) foot && apartB [] r.foot)) && freeB m [] foot rs)
      rw [freeB_chg m foot rs]
noncomputable def freeQ (m : Nat) (W : List Nat) (foot : Option (List Nat)) (rs rc : List Rc) : Bool := List.rec (freeB m [] foot rc) (fun _ _ _ => freeB m W foot rs) W
theorem freeQ_eq (m : Nat) (W : List Nat) (foot : Option (List Nat)) (rs : List Rc) : freeQ m W foot rs (chg rs) = freeB m W foot rs := by
  cases W with
  | nil => exact freeB_chg m foot rs
  | cons x W => rfl
noncomputable def addQ (r : Rc) (d : Dl) (rc : List Rc) : List Rc := List.rec rc (fun _ _ _ => r :: rc) d
theorem addQ_eq (j : Nat) (d : Dl) (nx : Nat) (foot : Option (List Nat)) (rs : List Rc) : addQ ⟨j, d, nx, foot⟩ d (chg rs) = chg (⟨j, d, nx, foot⟩ :: rs) := by
  rw [chg_cons]
  cases d <;> rfl
abbrev DC := List Nat → Nat → Tr LV → Nat → List Rc → List Rc → Option (Tr LV × Nat × List Rc × List Rc)
noncomputable def dstepQ (cont : DC) (o : Oper) (nt : Nat) (Hm : Hp) (m : Nat) (ms : List Nat) (k : Nat) (T : Tr LV) (nx : Nat) (rs rc : List Rc) (r : Out) : Option (Tr LV × Nat × List Rc × List Rc) :=
  Out.rec (fun v d nx' foot => seqQ nx' fun nx' => bsel (Nat.ble nx nx') (bsel (freeQ m (oldW nx d) foot rs rc) (bsel (dOk Hm nx nx' foot d) (seqQ (Nat.succ k) fun k' => seqT (putQ o.dst nt T v) fun T => List.rec (cont ms k' T nx' (⟨k, d, nx, foot⟩ :: rs) rc) (fun _ _ _ => cont ms k' T nx' (⟨k, d, nx, foot⟩ :: rs) (⟨k, d, nx, foot⟩ :: rc)) d) none) none) none) r
noncomputable def dselQ (cont : DC) (o : Oper) (P : Program) (nB : Nat) (cf : CFn) (nt : Nat) (H : Hp) (m : Nat) (ms : List Nat) (k : Nat) (T : Tr LV) (nx : Nat) (rs rc : List Rc) (g : Option Bool) : Option (Tr LV × Nat × List Rc × List Rc) :=
  obind g fun b => bsel b (obind (evOpQ o.op o P nB cf T (overH H m rc) nx) (dstepQ cont o nt (overH H m rc) m ms k T nx rs rc)) (seqQ (Nat.succ k) fun k' => cont ms k' (putQ o.dst nt T (.tup [])) nx (⟨k, [], nx, some []⟩ :: rs) rc)
noncomputable def evDrawQ (P : Program) (nB : Nat) (cf : CFn) (nt : Nat) (ops : Array Oper) (H : Hp) (l : List Oper) : DC :=
  List.rec (fun _ _ T nx rs rc => some (T, nx, rs, rc)) (fun o _ ih ms k T nx rs rc => List.rec none (fun m ms _ => dselQ ih o P nB cf nt H m ms k T nx rs rc (guardQ P ops T o)) ms) l
def projD : Option (Tr LV × Nat × List Rc × List Rc) → Option (Tr LV × Nat × List Rc)
  | some (T, nx, rs, _) => some (T, nx, rs)
  | none => none
def okD : Option (Tr LV × Nat × List Rc × List Rc) → Prop
  | some (_, _, rs, rc) => rc = chg rs
  | none => True
theorem evDrawQ_eq (P : Program) (nB : Nat) (cf : CFn) (nt : Nat) (ops : Array Oper) (H : Hp) (l : List Oper) : ∀ (ms : List Nat) (k : Nat) (T : Tr LV) (nx : Nat) (rs : List Rc),
    projD (evDrawQ P nB cf nt ops H l ms k T nx rs (chg rs)) = evDrawK P nB cf nt ops H l ms k T nx rs ∧ okD (evDrawQ P nB cf nt ops H l ms k T nx rs (chg rs)) := by
  induction l with
  | nil => intro ms k T nx rs; exact ⟨by cases ms <;> rfl, rfl⟩
  | cons o l ih =>
    intro ms k T nx rs
    cases ms with
    | nil => exact ⟨rfl, trivial⟩
    | cons m ms =>
      have e1 : evDrawQ P nB cf nt ops H (o :: l) (m :: ms) k T nx rs (chg rs) = dselQ (evDrawQ P nB cf nt ops H l) o P nB cf nt H m ms k T nx rs (chg rs) (guardQ P ops T o) := rfl
      rw [e1]
      unfold evDrawK dselQ
      rw [guardQ_eq, evOpQ_eq, overH_chg]
      simp only [obind_eq, bsel_eq, seqQ_eq, seqK_eq]
      cases wantL ops T o with
      | none => exact ⟨rfl, trivial⟩
      | some b => cases b with
        | false =>
          have := ih ms (Nat.succ k) (putK nt T o.dst (.tup [])) nx (⟨k, [], nx, some []⟩ :: rs)
          dsimp only
          rw [putQ_eq]
          exact this
        | true =>
          dsimp only
          cases evOpJ P nB cf T (overH H m rs) nx o with
          | none => exact ⟨rfl, trivial⟩
          | some out =>
            cases out with
            | mk v d nx' ft =>
              simp only [dstepQ, seqQ_eq, bsel_eq, putQ_eq, freeQ_eq, seqT_eq]
              cases Nat.ble nx nx' with
              | false => exact ⟨rfl, trivial⟩
              | true =>
                dsimp only
                cases freeB m (oldW nx d) ft rs with
                | false => exact ⟨rfl, trivial⟩
                | true =>
                  dsimp only
                  cases dOk (overH H m rs) nx nx' ft d with
                  | false => exact ⟨rfl, trivial⟩
                  | true =>
                    have h9 := ih ms (Nat.succ k) (putK nt T o.dst v) nx' (⟨k, d, nx, ft⟩ :: rs)
                    rw [← addQ_eq] at h9
                    cases d <;> exact h9
noncomputable def wapQ (rc : List Rc) (wr : List Nat) : List Nat := List.rec wr (fun _ _ _ => wrOf rc ++ wr) rc
noncomputable def evRegQ (P : Program) (nB : Nat) (cf : CFn) (ops : Array Oper) (draw : Bool) (s : St) : Option St :=
  St.rec (fun nt T H nx wr => bsel draw
    (bsel (regB ops) (obind (evDrawQ P nB cf nt ops H ops.toList (pastsL ops.toList []) 0 T nx [] []) fun r => Prod.rec (fun T r => Prod.rec (fun nx r => Prod.rec (fun _ rc => List.rec (some ⟨nt, T, H, nx, wr⟩) (fun _ _ _ => seqT (allH H rc) fun H => some ⟨nt, T, H, nx, wrOf rc ++ wr⟩) rc) r) r) r) none)
    (evSeqQ P nB cf ops.toList nt ops T H nx wr)) s
theorem evRegQ_eq (P : Program) (nB : Nat) (cf : CFn) (ops : Array Oper) (draw : Bool) (s : St) : evRegQ P nB cf ops draw s = evRegK P nB cf ops draw s := by
  cases s with
  | mk nt T H nx wr =>
    cases draw with
    | false => exact evSeqQ_eq P nB cf _ nt ops T H nx wr
    | true =>
      unfold evRegQ evRegK
      dsimp only
      rw [bsel_eq, bsel_eq]
      cases regB ops with
      | false => rfl
      | true =>
        dsimp only
        obtain ⟨h1, h2⟩ := evDrawQ_eq P nB cf nt ops H ops.toList (pastsL ops.toList []) 0 T nx []
        rw [show chg [] = [] from rfl] at h1 h2
        rw [← h1, obind_eq]
        cases hq : evDrawQ P nB cf nt ops H ops.toList (pastsL ops.toList []) 0 T nx [] [] with
        | none => rfl
        | some r =>
          obtain ⟨T', nx', rs, rc⟩ := r
          rw [hq] at h2
          have h3 : rc = chg rs := h2
          subst h3
          have h4 : (List.rec (some ⟨nt, T', H, nx', wr⟩) (fun _ _ _ => seqT (allH H (chg rs)) fun H => some ⟨nt, T', H, nx', wrOf (chg rs) ++ wr⟩) (chg rs) : Option St) = some ⟨nt, T', allH H rs, nx', wrOf rs ++ wr⟩ := by
            rw [← allH_chg H rs, ← wrOf_chg rs]
            cases chg rs with
            | nil => rfl
            | cons x l => exact seqT_eq _ _
          exact h4
abbrev Cont := Code → St → Option (Ex × St)
noncomputable def thenQ (e : Ex) : Cont → Code → St → Option (Ex × St) := match e with
  | .normal => fun ih b s => ih b s
  | e => fun _ _ s => some (e, s)
noncomputable def blkQ (e : Ex) : Nat → St → Option (Ex × St) := match e with
  | .exit i => fun id s => bsel (Nat.beq i id) (some (.normal, s)) (some (.exit i, s))
  | e => fun _ s => some (e, s)
def condQ (p : LV) : Option Bool := match p with
  | .v (.bool b) => some b
  | _ => none
noncomputable def codeQ (c : Code) : Cont → Program → Nat → CFn → St → Option (Ex × St) := match c with
  | .skip => fun _ _ _ _ s => some (.normal, s)
  | .region _ ops draw => fun _ P nB cf s => obind (evRegQ P nB cf ops draw s) fun s => some (.normal, s)
  | .seq a b => fun ih _ _ _ s => obind (ih a s) fun r => Prod.rec (fun e s => thenQ e ih b s) r
  | .cond c a b => fun ih P _ _ s => obind (opdQ c P s.T) fun x => obind (condQ x) fun t => bsel t (ih a s) (ih b s)
  | .block id b => fun ih _ _ _ s => obind (ih b s) fun r => Prod.rec (fun e s => blkQ e id s) r
  | .loop b => fun ih _ _ _ s => obind (ih b s) fun r => Prod.rec (fun e s => thenQ e ih (.loop b) s) r
  | .exit id => fun _ _ _ _ s => some (.exit id, s)
  | .ret => fun _ _ _ _ s => some (.ret, s)
  | _ => fun _ _ _ _ _ => none
noncomputable def evCQ (P : Program) (nB : Nat) (cf : CFn) (n : Nat) : Cont := Nat.rec (fun _ _ => none) (fun _ ih c s => codeQ c ih P nB cf s) n
theorem evCQ_eq (P : Program) (nB : Nat) (cf : CFn) : ∀ (n : Nat) (c : Code) (s : St), evCQ P nB cf n c s = evCK P nB cf n c s := by
  intro n
  induction n with
  | zero => intros; rfl
  | succ n ih =>
    intro c s
    have e1 : evCQ P nB cf (n + 1) c s = codeQ c (evCQ P nB cf n) P nB cf s := rfl
    rw [e1]
    cases c with
    | skip => rfl
    | region id ops draw =>
      simp only [codeQ, evCK, obind_eq, evRegQ_eq]
      cases evRegK P nB cf ops draw s <;> rfl
    | seq a b =>
      simp only [codeQ, evCK, obind_eq, ih]
      cases evCK P nB cf n a s with
      | none => rfl
      | some r =>
        obtain ⟨e, s'⟩ := r
        cases e <;> simp only [thenQ, ih]
    | cond c a b =>
      simp only [codeQ, evCK, obind_eq, opdQ_eq, ih]
      cases opd P s.T c with
      | none => rfl
      | some x => cases x with
        | v y => cases y with
          | bool t => cases t <;> rfl
          | _ => rfl
        | _ => rfl
    | block id b =>
      simp only [codeQ, evCK, obind_eq, ih]
      cases evCK P nB cf n b s with
      | none => rfl
      | some r =>
        obtain ⟨e, s'⟩ := r
        cases e with
        | exit i => first | (simp only [blkQ, bsel_eq]; done) | (simp only [blkQ, bsel_eq]; cases Nat.beq i id <;> rfl)
        | _ => rfl
    | loop b =>
      simp only [codeQ, evCK, obind_eq, ih]
      cases evCK P nB cf n b s with
      | none => rfl
      | some r =>
        obtain ⟨e, s'⟩ := r
        cases e <;> simp only [thenQ, ih]
    | _ => rfl
noncomputable def argsQ (l : List LV) : Nat → Tr LV → Tr LV := List.rec (fun _ T => T) (fun x _ ih i T => ih (Nat.succ i) (setQ (Nat.succ i) T i (some x))) l
theorem argsQ_eq (l : List LV) : ∀ (i : Nat) (T : Tr LV), argsQ l i T = argsT i l T := by
  induction l with
  | nil => intros; rfl
  | cons x l ih =>
    intro i T
    have e1 : argsQ (x :: l) i T = argsQ l (Nat.succ i) (setQ (Nat.succ i) T i (some x)) := rfl
    rw [e1, ih, setQ_eq]
    all_goals rfl
def bodyK (P : Program) (f : FuncId) : Option (Code × Nat × List ResultVar) := match P.funcs[f]? with
  | some fn => match fn.body with
    | some c => some (c, fn.ntmps, fn.results.toList)
    | none => none
  | none => none
noncomputable def finQ (P : Program) (nx : Nat) (rs : List ResultVar) (s : St) : Option Out :=
  St.rec (fun _ T H' nx' wr => obind (resL P T H' rs) fun l => (fun v od => some ⟨v, od ++ reach nx H' (nx' + 100000) (v.ids ++ idsD od) .nil [], nx', none⟩) (oneL l) (olds nx H' wr .nil)) s
def exQ (e : Ex) : Bool := match e with | .exit _ => false | _ => true
noncomputable def runQ (P : Program) (nB lf : Nat) (cf : CFn) (args : List LV) (H : Hp) (nx : Nat) (b : Code × Nat × List ResultVar) : Option Out :=
  Prod.rec (fun c q => Prod.rec (fun nt rs => seqQ (Nat.add args.length (Nat.sub nt args.length)) fun nt => obind (evCQ P nB cf lf c ⟨nt, argsQ args 0 .nil, H, nx, []⟩) fun r => Prod.rec (fun e s => bsel (exQ e) (finQ P nx rs s) none) r) q) b
noncomputable def evFQ (P : Program) (nB lf : Nat) (orc : Orc) (n : Nat) : CFn :=
  Nat.rec (fun _ _ _ _ => none) (fun _ ih f args H nx => Option.rec (obind (bodyK P f) (runQ P nB lf ih args H nx)) (fun g => g args H nx) (orc f)) n
theorem evFQ_eq (P : Program) (nB lf : Nat) (orc : Orc) (n : Nat) : evFQ P nB lf orc n = evFK P nB lf orc n := by
  induction n with
  | zero => rfl
  | succ n ih =>
    funext f args H nx
    have e1 : evFQ P nB lf orc (n + 1) f args H nx = Option.rec (obind (bodyK P f) (runQ P nB lf (evFQ P nB lf orc n) args H nx)) (fun g => g args H nx) (orc f) := rfl
    rw [e1, ih]
    unfold evFK
    cases orc f with
    | some g => rfl
    | none =>
      dsimp only
      unfold bodyK
      cases P.funcs[f]? with
      | none => rfl
      | some fn =>
        dsimp only
        cases fn.body with
        | none => rfl
        | some c =>
          rw [obind_eq]
          dsimp only
          unfold runQ
          dsimp only
          simp only [seqQ_eq, obind_eq, evCQ_eq, argsQ_eq, seqK_eq]
          rw [show args.length.add (fn.ntmps.sub args.length) = args.length + (fn.ntmps - args.length) from rfl]
          cases evCK P nB (evFK P nB lf orc n) lf c ⟨args.length + (fn.ntmps - args.length), argsT 0 args .nil, H, nx, []⟩ with
          | none => rfl
          | some r =>
            obtain ⟨e, s⟩ := r
            cases s with
            | mk a T H' nx' wr =>
              have h1 : finQ P nx fn.results.toList ⟨a, T, H', nx', wr⟩ = (match resL P T H' fn.results.toList with
                | some rs => some ⟨oneL rs, olds nx H' wr .nil ++ reach nx H' (nx' + 100000) ((oneL rs).ids ++ idsD (olds nx H' wr .nil)) .nil [], nx', none⟩
                | none => none) := by
                unfold finQ
                dsimp only
                rw [obind_eq]
                cases resL P T H' fn.results.toList <;> rfl
              cases e with
              | exit i => rfl
              | normal => exact h1
              | ret => exact h1
theorem evFQ_evF (P : Program) (nB lf : Nat) (orc : Orc) (n : Nat) : evFQ P nB lf orc n = evF P nB lf orc n := (evFQ_eq P nB lf orc n).trans (evFK_eq P nB lf orc n)
end Go.Proofs.YtjpfhhndjpdmoaaGreatDoor

namespace Go.Proofs.YtjpfhhndjpdmoaaGreatDoor
open Go.RowKit
set_option linter.unusedVariables false
set_option linter.unusedSimpArgs false
set_option autoImplicit false

def q8 (l : List Nat) : List LV := l.map fun q => LV.v (.int .u8 (.ofNat q))
def eqN : List UInt8 → List UInt8 → Bool
  | [], [] => true
  | a :: l, b :: m => Nat.beq a.toNat b.toNat && eqN l m
  | _, _ => false
theorem nbeq {a b : Nat} (h : Nat.beq a b = true) : a = b := Nat.eq_of_beq_eq_true h
theorem eqN_ok : ∀ {l m : List UInt8}, eqN l m = true → l = m
  | [], [], _ => rfl
  | a :: l, b :: m, h => by
    simp only [eqN, Bool.and_eq_true] at h
    rw [UInt8.toNat_inj.1 (nbeq h.1), eqN_ok h.2]
  | [], _ :: _, h => by cases h
  | _ :: _, [], h => by cases h
def eqI : Int → Int → Bool
  | .ofNat a, .ofNat b => Nat.beq a b
  | .negSucc a, .negSucc b => Nat.beq a b
  | _, _ => false
theorem eqI_ok {a b : Int} (h : eqI a b = true) : a = b := by
  cases a <;> cases b <;> first | (rw [nbeq (show Nat.beq _ _ = true from h)]) | cases h
def eqV : Value → Value → Bool
  | .bool a, .bool b => a == b
  | .int k m, .int k' n => Nat.beq (kindN k) (kindN k') && eqI m n
  | .string a, .string b => eqN a.data.toList b.data.toList
  | .pointer none, .pointer none => true
  | .slice none 0 0, .slice none 0 0 => true
  | .nilFunc, .nilFunc => true
  | .nilIface, .nilIface => true
  | _, _ => false
theorem eqV_ok {x y : Value} (h : eqV x y = true) : x = y := by
  unfold eqV at h
  split at h
  · rw [eq_of_beq h]
  · simp only [Bool.and_eq_true] at h
    rw [kindN_inj h.1, eqI_ok h.2]
  · rename_i a b
    obtain ⟨⟨a⟩⟩ := a
    obtain ⟨⟨b⟩⟩ := b
    rw [show a = b from eqN_ok h]
  all_goals first | rfl | cases h
mutual
def eqLV : LV → LV → Bool
  | .v x, .v y => eqV x y
  | .ptr b o, .ptr c p => Nat.beq b c && Nat.beq o p
  | .slice b o n c, .slice b' o' n' c' => (Nat.beq b b' && Nat.beq o o') && (Nat.beq n n' && Nat.beq c c')
  | .buf b o n c, .buf b' o' n' c' => (Nat.beq b b' && Nat.beq o o') && (Nat.beq n n' && Nat.beq c c')
  | .emp, .emp => true
  | .sym b k lo hi ne, .sym b' k' lo' hi' ne' => (Nat.beq b b' && Nat.beq (kindN k) (kindN k')) && (Nat.beq lo lo' && (Nat.beq hi hi' && (ne == ne')))
  | .str l, .str m => eqLs l m
  | .outS b, .outS c => Nat.beq b c
  | .outP b, .outP c => Nat.beq b c
  | .agg l, .agg m => eqLs l m
  | .tup l, .tup m => eqLs l m
  | _, _ => false
def eqLs : List LV → List LV → Bool
  | [], [] => true
  | x :: l, y :: m => eqLV x y && eqLs l m
  | _, _ => false
end
mutual
theorem eqLV_ok : ∀ {x y : LV}, eqLV x y = true → x = y
  | .v x, y, h => by
    cases y <;> simp only [eqLV] at h <;> first | cases h | rw [eqV_ok h]
  | .ptr b o, y, h => by
    cases y <;> simp only [eqLV, Bool.and_eq_true] at h <;> first | cases h; done | rw [nbeq h.1, nbeq h.2]
  | .slice b o n c, y, h => by
    cases y <;> simp only [eqLV, Bool.and_eq_true] at h <;> first | cases h; done | rw [nbeq h.1.1, nbeq h.1.2, nbeq h.2.1, nbeq h.2.2]
  | .buf b o n c, y, h => by
    cases y <;> simp only [eqLV, Bool.and_eq_true] at h <;> first | cases h; done | rw [nbeq h.1.1, nbeq h.1.2, nbeq h.2.1, nbeq h.2.2]
  | .emp, y, h => by
    cases y <;> simp only [eqLV] at h <;> first | rfl | cases h
  | .sym b k lo hi ne, y, h => by
    cases y <;> simp only [eqLV, Bool.and_eq_true] at h <;> first | cases h; done | rw [nbeq h.1.1, kindN_inj h.1.2, nbeq h.2.1, nbeq h.2.2.1, eq_of_beq h.2.2.2]
  | .str l, y, h => by
    cases y <;> simp only [eqLV] at h <;> first | (rw [eqLs_ok h]) | cases h
  | .agg l, y, h => by
    cases y <;> simp only [eqLV] at h <;> first | (rw [eqLs_ok h]) | cases h
  | .tup l, y, h => by
    cases y <;> simp only [eqLV] at h <;> first | (rw [eqLs_ok h]) | cases h
  | .fn f l, y, h => by
    cases y <;> simp only [eqLV] at h <;> cases h
  | .outS b, y, h => by
    cases y <;> simp only [eqLV] at h <;> first | (cases h; done) | rw [nbeq h]
  | .outP b, y, h => by
    cases y <;> simp only [eqLV] at h <;> first | (cases h; done) | rw [nbeq h]
theorem eqLs_ok : ∀ {l m : List LV}, eqLs l m = true → l = m
  | [], m, h => by cases m <;> first | rfl | cases h
  | x :: l, m, h => by
    cases m with
    | nil => cases h
    | cons y m =>
      simp only [eqLs, Bool.and_eq_true] at h
      rw [eqLV_ok h.1, eqLs_ok h.2]
end
def eqB (k k' : Blk) : Bool := (Nat.beq k.elem k'.elem && (k.exact == k'.exact)) && ((k.mrk == k'.mrk) && eqLs k.cells k'.cells)
theorem eqB_ok {k k' : Blk} (h : eqB k k' = true) : k = k' := by
  cases k; cases k'
  simp only [eqB, Bool.and_eq_true] at h
  rw [show _ = _ from nbeq h.1.1, show _ = _ from eq_of_beq h.1.2, show _ = _ from eq_of_beq h.2.1, show _ = _ from eqLs_ok h.2.2]
def eqD : Dl → Dl → Bool
  | [], [] => true
  | (i, some k) :: l, (j, some k') :: m => (Nat.beq i j && eqB k k') && eqD l m
  | (i, none) :: l, (j, none) :: m => Nat.beq i j && eqD l m
  | _, _ => false
theorem eqD_ok : ∀ {l m : Dl}, eqD l m = true → l = m
  | [], [], _ => rfl
  | (i, some k) :: l, (j, some k') :: m, h => by
    simp only [eqD, Bool.and_eq_true] at h
    rw [nbeq h.1.1, eqB_ok h.1.2, eqD_ok h.2]
  | (i, none) :: l, (j, none) :: m, h => by
    simp only [eqD, Bool.and_eq_true] at h
    rw [nbeq h.1, eqD_ok h.2]
  | [], _ :: _, h => by cases h
  | (_, some _) :: _, [], h => by cases h
  | (_, none) :: _, [], h => by cases h
  | (_, some _) :: _, (_, none) :: _, h => by cases h
  | (_, none) :: _, (_, some _) :: _, h => by cases h
structure Stg where
  f : FuncId
  a : List LV
  D : List (Nat × Blk)
  nx : Nat
  v : LV
  d : Dl
  nx' : Nat
def hpOf (D : List (Nat × Blk)) : Hp := Hp.app .nil (D.map fun p => (p.1, some p.2))
def subB (H : Hp) : List (Nat × Blk) → Bool
  | [] => true
  | (i, k) :: D => (match H.get i with | some k' => eqB k k' | none => false) && subB H D
def stO (s : Stg) (args : List LV) (H : Hp) (nx : Nat) : Option Out := match (eqLs s.a args && Nat.beq s.nx nx) && subB H s.D with
  | true => some ⟨s.v, s.d, s.nx', none⟩
  | false => none
def stB (s : Stg) : Option Out → Bool
  | some ⟨v, d, nx, none⟩ => (eqLV v s.v && eqD d s.d) && (Nat.beq nx s.nx' && Nat.ble s.nx s.nx')
  | _ => false
theorem stB_ok {s : Stg} {r : Option Out} (h : stB s r = true) : r = some ⟨s.v, s.d, s.nx', none⟩ ∧ s.nx ≤ s.nx' := by
  unfold stB at h
  split at h
  · simp only [Bool.and_eq_true] at h
    rw [eqLV_ok h.1.1, eqD_ok h.1.2, nbeq h.2.1]
    exact ⟨rfl, Nat.le_of_ble_eq_true h.2.2⟩
  · cases h
theorem subB_ok {H : Hp} : ∀ {D : List (Nat × Blk)}, subB H D = true → ∀ i k, (i, k) ∈ D → H.get i = some k
  | [], _, i, k, hm => by cases hm
  | (j, k') :: D, h, i, k, hm => by
    simp only [subB, Bool.and_eq_true] at h
    rcases List.mem_cons.1 hm with e | hm
    · obtain ⟨e1, e2⟩ := Prod.mk.inj e
      rw [e1, e2]
      have h1 := h.1
      cases hj : H.get j with
      | none => rw [hj] at h1; cases h1
      | some k'' => rw [hj] at h1; rw [eqB_ok h1]
    · exact subB_ok h.2 i k hm
theorem hpOf_get {D : List (Nat × Blk)} {i : Nat} {k : Blk} (h : (hpOf D).get i = some k) : (i, k) ∈ D := by
  unfold hpOf at h
  rw [get_app] at h
  have key : ∀ (D : List (Nat × Blk)) (x : Option Blk), dget (D.map fun p => (p.1, some p.2)) i = some x → x = some k → (i, k) ∈ D := by
    intro D
    induction D with
    | nil => intro x h; cases h
    | cons p D ih =>
      intro x h hx
      obtain ⟨j, b⟩ := p
      subst hx
      simp only [List.map_cons, dget] at h
      split at h
      · rename_i y hy
        cases h
        exact List.mem_cons_of_mem _ (ih _ hy rfl)
      · split at h
        · rename_i hj
          cases h
          subst hj
          exact List.mem_cons_self ..
        · cases h
  split at h
  · rename_i x hx
    exact key D x hx h
  · cases h
section
variable {P : Program} {nB B : Nat} {w0 : World}
def FnOk (P : Program) (nB B : Nat) (w0 : World) (f : FuncId) (g : List LV → Hp → Nat → Option Out) : Prop :=
  ∀ args H nx out, g args H nx = some out → nx ≤ out.nx → FnHas P f ∧ out.foot = none ∧ ∀ (ν : Env) (vs : List Value) (w : World), (∀ i, nx ≤ i → i < out.nx → ν i = none) → VRs ν args vs → HRF ν H none w → LowF nB B ν H none → InjH ν H → (∀ i k, H.get i = some k → i < nx) → GlobE P ν → Below B w0 w →
    Calls P f vs.toArray w (fun e w' => ∃ v' ν', e = .returned v' ∧ OpPost nB B w0 ν ν' H nx out w w' v')
theorem stO_ok {callf : FuncId → List LV → Hp → Nat → Option Out} (hc : CallOk P nB B w0 callf) (s : Stg) (hob : Nat.ble OB s.f = false) (hr : stB s (callf s.f s.a (hpOf s.D) s.nx) = true) : FnOk P nB B w0 s.f (stO s) := by
  intro args H nx out h hnx
  obtain ⟨h1, h2⟩ := stB_ok hr
  unfold stO at h
  split at h
  · rename_i hb
    cases h
    simp only [Bool.and_eq_true] at hb
    have ha := eqLs_ok hb.1.1
    have hn := nbeq hb.1.2
    subst hn
    have hsub : ∀ i k, (hpOf s.D).get i = some k → H.get i = some k := fun i k hg => subB_ok hb.2 i k (hpOf_get hg)
    obtain ⟨g1, g2, g3⟩ := hc _ _ _ _ _ hob h1 h2
    refine ⟨g1, rfl, fun ν vs w hν hvs hH hlow hinj hid hg hbl => ?_⟩
    rw [← ha] at hvs
    refine (g3 ν vs w hν hvs (fun i k hf hk => hH i k hf (hsub i k hk)) (fun i k l hf hi hk hl => hlow i k l hf hi (hsub i k hk) hl) (fun i j ki kj li lj h3 h4 h5 h6 h7 => hinj i j ki kj li lj (hsub _ _ h3) (hsub _ _ h4) h5 h6 h7) (fun i k hk => hid i k (hsub i k hk)) hg hbl).mono ?_
    rintro e w' ⟨v', ν', rfl, hp⟩
    refine ⟨v', ν', rfl, hp.ext, hp.val, hp.blk, hp.frame, hp.fresh, hp.inj, fun i hi hd => ?_, hp.new, hp.below, hp.size⟩
    obtain ⟨q1, q2⟩ := hp.old i hi hd
    refine ⟨q1, ?_⟩
    obtain ⟨k, hk⟩ := Option.isSome_iff_exists.1 q2
    rw [hsub i k hk]
    all_goals rfl
  · cases h
def anyO : List Stg → FuncId → List LV → Hp → Nat → Option Out
  | [], _, _, _, _ => none
  | s :: l, f, args, H, nx => match Nat.beq f s.f with
    | true => match stO s args H nx with
      | some o => some o
      | none => anyO l f args H nx
    | false => anyO l f args H nx
theorem anyO_ok {l : List Stg} (h : ∀ s ∈ l, FnOk P nB B w0 s.f (stO s)) (f : FuncId) : FnOk P nB B w0 f (anyO l f) := by
  induction l with
  | nil => intro args H nx out h; cases h
  | cons s l ih =>
    intro args H nx out h1
    unfold anyO at h1
    have ih' := ih (fun t ht => h t (List.mem_cons_of_mem _ ht))
    split at h1
    · rename_i hf
      have hf := nbeq hf
      subst hf
      split at h1
      · rename_i o ho
        cases h1
        exact h s (List.mem_cons_self ..) args H nx out ho
      · exact ih' args H nx out h1
    · exact ih' args H nx out h1
def stageO (fs : List FuncId) (l : List Stg) (orc : Orc) : Orc := fun f => match fs.any (Nat.beq f) with
  | true => some (anyO l f)
  | false => orc f
theorem stageO_ok {fs : List FuncId} {l : List Stg} {orc : Orc} (h : ∀ s ∈ l, FnOk P nB B w0 s.f (stO s)) (ho : OrcOk P nB B w0 orc) : OrcOk P nB B w0 (stageO fs l orc) := by
  intro f args H nx out hob h1
  have h2 : (match stageO fs l orc f with | some g => g args H nx | none => none) = some out := h1
  unfold stageO at h2
  cases hf : fs.any (Nat.beq f) with
  | true =>
    rw [hf] at h2
    exact anyO_ok h f args H nx out h2
  | false =>
    rw [hf] at h2
    exact ho f args H nx out hob h2
theorem noH_stage {fs : List FuncId} {l : List Stg} {orc : Orc} (h : (fs.all fun g => !Nat.ble OB g) = true) (ho : NoH orc) : NoH (stageO fs l orc) := by
  intro f hf
  unfold stageO
  have hn : fs.any (Nat.beq f) = false := by
    rw [List.any_eq_false]
    intro g hg hb
    have h1 := List.all_eq_true.1 h g hg
    rw [← nbeq hb, hf] at h1
    simp at h1
  rw [hn]
  exact ho f hf
end
end Go.Proofs.YtjpfhhndjpdmoaaGreatDoor

namespace Go.Proofs.YtjpfhhndjpdmoaaGreatDoor
open Go.RowKit
def sg0 : Stg := ⟨84, [(.agg (q8 [3, 0, 0, 0, 0, 0, 0, 0, 0, 0, 0, 0, 0, 0, 0, 0, 0, 0, 0, 0, 0, 0, 0, 0, 0, 0, 0, 0, 0, 0, 0, 1])), (.agg (q8 [107, 23, 209, 242, 225, 44, 66, 71, 248, 188, 230, 229, 99, 164, 64, 242, 119, 3, 125, 129, 45, 235, 51, 160, 244, 161, 57, 69, 216, 152, 194, 150, 79, 227, 66, 226, 254, 26, 127, 155, 142, 231, 235, 74, 124, 15, 158, 22, 43, 206, 51, 87, 107, 49, 94, 206, 203, 182, 64, 104, 55, 191, 81, 245]))], [], 21, (.agg (q8 [153, 95, 123, 98, 33, 154, 66, 70, 244, 115, 118, 65, 26, 205, 177, 105, 5, 93, 141, 222, 239, 84, 122, 208, 225, 12, 44, 85, 188, 77, 193, 111, 188, 193, 162, 112, 89, 74, 172, 83, 188, 101, 97, 201, 95, 58, 170, 119, 18, 71, 62, 143, 159, 77, 83, 173, 225, 7, 124, 85, 137, 115, 128, 207])), [], 21⟩
theorem sg0_run : stB sg0 (orcC sg0.f sg0.a (hpOf sg0.D) sg0.nx) = true := by kernel_rfl
end Go.Proofs.YtjpfhhndjpdmoaaGreatDoor
