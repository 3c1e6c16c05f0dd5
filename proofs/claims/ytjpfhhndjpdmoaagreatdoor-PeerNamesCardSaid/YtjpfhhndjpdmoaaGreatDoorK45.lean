/- Part of the proof: EvM, EvN. No conditions of its own. -/
import Derived.Below
import Derived.KernelRfl
import Derived.Laws.BytesArg
import Derived.Laws.CopyRow
import Derived.Laws.NewFold
import Derived.Laws.Strings
import Derived.Lib.ConvBytes
import Derived.Orders
import Derived.RowKit3
import Derived.Test.YtjpfhhndjpdmoaaGreatDoorK44
namespace Go.Proofs.YtjpfhhndjpdmoaaGreatDoor
set_option linter.unusedVariables false
set_option linter.unusedSimpArgs false
set_option autoImplicit false

noncomputable def nthQ (cs : List LV) : Nat → Option LV := List.rec (fun _ => none) (fun x _ ih n => Nat.rec (some x) (fun k _ => ih k) n) cs
theorem nthQ_eq (cs : List LV) : ∀ n, nthQ cs n = cs[n]? := by
  induction cs with
  | nil => intro n; rfl
  | cons x cs ih =>
    intro n
    cases n with
    | zero => rfl
    | succ n => rw [List.getElem?_cons_succ]; exact ih n
def kindL (P : Program) (t : TypeId) : Option (Option Nat) := match isAggL P t, sizeL P t with
  | some true, some n => some (some n)
  | some false, some _ => some none
  | _, _ => none
noncomputable def partQ (P : Program) (t : TypeId) (cs : List LV) (off : Nat) : Option LV :=
  obind (kindL P t) fun q => Option.rec (nthQ cs off) (fun n => if ((cs.drop off).take n).length = n then some (.agg ((cs.drop off).take n)) else none) q
theorem partQ_eq (P : Program) (t : TypeId) (cs : List LV) (off : Nat) : partQ P t cs off = partL P t cs off := by
  unfold partQ partL kindL
  cases isAggL P t with
  | none => rfl
  | some b => cases b with
    | true => cases sizeL P t <;> rfl
    | false => cases sizeL P t with
      | none => rfl
      | some n => exact nthQ_eq cs off
def ptrQ (p : LV) : (Nat → Nat → Option Out) → Option Out := match p with
  | .ptr b off => fun k => k b off
  | _ => fun _ => none
noncomputable def loadQ (t : TypeId) (a : Operand) (P : Program) (T : Tr LV) (H : Hp) (nx : Nat) : Option Out :=
  obind (opdQ a P T) fun p => ptrQ p fun b off => obind (getQ H b) fun k => obind (partQ P t k.cells off) fun l => some ⟨l, [], nx, some [b]⟩
theorem loadQ_eq (P : Program) (nB : Nat) (T : Tr LV) (H : Hp) (nx : Nat) (t : TypeId) (a : Operand) : loadQ t a P T H nx = ej_load P nB T H nx t a := by
  unfold loadQ ej_load
  simp only [opdQ_eq, obind_eq, getQ_eq, partQ_eq]
  cases opd P T a with
  | none => rfl
  | some p => cases p with
    | ptr b off =>
      simp only [ptrQ]
      cases H.get b with
      | none => rfl
      | some k =>
        dsimp only
        cases partL P t k.cells off <;> rfl
    | _ => rfl
def boolQ (p : LV) : (Bool → Option Out) → Option Out := match p with
  | .v (.bool b) => fun k => k b
  | _ => fun _ => none
noncomputable def pickQ (c a b : Operand) (P : Program) (T : Tr LV) (nx : Nat) : Option Out :=
  obind (opdQ c P T) fun c => boolQ c fun t => obind (opdQ a P T) fun a => obind (opdQ b P T) fun b => some ⟨bsel t a b, [], nx, some []⟩
theorem pickQ_eq (P : Program) (nB : Nat) (T : Tr LV) (H : Hp) (nx : Nat) (c a b : Operand) : pickQ c a b P T nx = ej_pick P nB T H nx c a b := by
  unfold pickQ ej_pick
  simp only [opdQ_eq, obind_eq]
  cases opd P T c with
  | none => rfl
  | some p => cases p with
    | v x => cases x with
      | bool t =>
        simp only [boolQ]
        cases opd P T a with
        | none => rfl
        | some a' => cases opd P T b with
          | none => rfl
          | some b' => cases t <;> rfl
      | _ => rfl
    | _ => rfl
def idxK (P : Program) (t : TypeId) : Option (Option Nat × Nat) := match P.underlying t with
  | some (.array n e) => match sizeL P e with | some s => some (some n, s) | none => none
  | some (.slice e) => match sizeL P e with | some s => some (none, s) | none => none
  | _ => none
def natQ (p : LV) : (Nat → Option Out) → Option Out := match p with
  | .v (.int _ (.ofNat n)) => fun k => k n
  | _ => fun _ => none
def baseQ (p : LV) : Option Nat → (Nat → Nat → Nat → Option Out) → Option Out := match p with
  | .ptr b off => fun n k => match n with | some n => k b off n | none => none
  | .slice b off n _ => fun m k => match m with | none => k b off n | some _ => none
  | .buf b off n _ => fun m k => match m with | none => k b off n | some _ => none
  | _ => fun _ _ => none
noncomputable def indexAddrQ (t : TypeId) (x i : Operand) (P : Program) (T : Tr LV) (nx : Nat) : Option Out :=
  obind (idxK P t) fun q => obind (opdQ x P T) fun x => baseQ x q.1 fun b off n => obind (opdQ i P T) fun i => natQ i fun i => bsel (Nat.ble (Nat.succ i) n) (seqQ (Nat.add off (Nat.mul i q.2)) fun o => some ⟨.ptr b o, [], nx, some []⟩) none
theorem bsel_lt {α : Type} (i n : Nat) (x : Option α) : bsel (Nat.ble (Nat.succ i) n) x none = if i < n then x else none := by
  rw [bsel_eq]
  by_cases h : i < n
  · rw [if_pos h, Nat.ble_eq_true_of_le (show Nat.succ i ≤ n from h)]
  · rw [if_neg h]
    cases hb : Nat.ble (Nat.succ i) n with
    | false => rfl
    | true => exact absurd (Nat.le_of_ble_eq_true hb) h
theorem natQ_eq (p : LV) (k : Nat → Option Out) : natQ p k = (match natL p with | some n => k n | none => none) := by
  cases p with
  | v x => cases x with
    | int q n => cases n <;> rfl
    | _ => rfl
  | _ => rfl
theorem indexAddrQ_eq (P : Program) (nB : Nat) (T : Tr LV) (H : Hp) (nx : Nat) (t : TypeId) (x i : Operand) : indexAddrQ t x i P T nx = ej_indexAddr P nB T H nx t x i := by
  unfold indexAddrQ ej_indexAddr idxK
  simp only [opdQ_eq, obind_eq, natQ_eq, bsel_lt, seqQ_eq]
  cases P.underlying t with
  | none => rfl
  | some u => cases u with
    | array n e =>
      dsimp only
      cases hs : sizeL P e with
      | none =>
        dsimp only
        cases opd P T x with
        | none => rfl
        | some p => cases p with
          | ptr b off => cases opd P T i with
            | none => rfl
            | some iv => simp only [hs]; cases natL iv <;> rfl
          | _ => rfl
      | some s =>
        dsimp only
        cases opd P T x with
        | none => rfl
        | some p => cases p with
          | ptr b off => cases opd P T i with
            | none => rfl
            | some iv => simp only [hs, baseQ]; cases natL iv <;> rfl
          | _ => rfl
    | slice e =>
      dsimp only
      cases hs : sizeL P e with
      | none =>
        dsimp only
        cases opd P T x with
        | none => rfl
        | some p => cases p with
          | slice b off n c => cases opd P T i with
            | none => rfl
            | some iv => simp only [hs]; cases natL iv <;> rfl
          | buf b off n c => cases opd P T i with
            | none => rfl
            | some iv => simp only [hs]; cases natL iv <;> rfl
          | _ => rfl
      | some s =>
        dsimp only
        cases opd P T x with
        | none => rfl
        | some p => cases p with
          | slice b off n c => cases opd P T i with
            | none => rfl
            | some iv => simp only [hs, baseQ]; cases natL iv <;> rfl
          | buf b off n c => cases opd P T i with
            | none => rfl
            | some iv => simp only [hs, baseQ]; cases natL iv <;> rfl
          | _ => rfl
    | _ => rfl
def fieldK (P : Program) (s : TypeId) (f : Nat) : Option Nat := match P.underlying s with
  | some (.struct fs) => match fs[f]? with
    | some f => match sizeL P f.type with
      | some (_ + 1) => some f.offset
      | _ => none
    | none => none
  | _ => none
noncomputable def fieldAddrQ (s : TypeId) (x : Operand) (f : Nat) (P : Program) (T : Tr LV) (nx : Nat) : Option Out :=
  obind (fieldK P s f) fun o => obind (opdQ x P T) fun x => ptrQ x fun b off => seqQ (Nat.add off o) fun o => some ⟨.ptr b o, [], nx, some []⟩
theorem fieldAddrQ_eq (P : Program) (nB : Nat) (T : Tr LV) (H : Hp) (nx : Nat) (s : TypeId) (x : Operand) (f : Nat) : fieldAddrQ s x f P T nx = ej_fieldAddr P nB T H nx s x f := by
  unfold fieldAddrQ ej_fieldAddr fieldK
  simp only [opdQ_eq, obind_eq, seqQ_eq]
  cases P.underlying s with
  | none => rfl
  | some u => cases u with
    | struct fs =>
      dsimp only
      cases opd P T x with
      | none =>
        cases fs[f]? with
        | none => rfl
        | some fl => dsimp only; cases sizeL P fl.type with
          | none => rfl
          | some n => cases n <;> rfl
      | some p =>
        cases hf : fs[f]? with
        | none => cases p <;> simp only [hf]
        | some fl =>
          cases hs : sizeL P fl.type with
          | none => cases p <;> simp only [hf, hs, ptrQ]
          | some n => cases n <;> cases p <;> simp only [hf, hs, ptrQ] <;> rfl
    | _ => rfl
end Go.Proofs.YtjpfhhndjpdmoaaGreatDoor

namespace Go.Proofs.YtjpfhhndjpdmoaaGreatDoor
set_option linter.unusedVariables false
set_option linter.unusedSimpArgs false
set_option autoImplicit false

def kindN (k : IntKind) : Nat := match k with | .i8 => 0 | .i16 => 1 | .i32 => 2 | .i64 => 3 | .u8 => 4 | .u16 => 5 | .u32 => 6 | .u64 => 7
theorem kindN_inj {k k' : IntKind} (h : Nat.beq (kindN k) (kindN k') = true) : k = k' := by
  cases k <;> cases k' <;> first | rfl | cases h
noncomputable def limQ (k : IntKind) (r : Nat) : Option Value := seqQ r fun r => bsel (Nat.ble r (topK k)) (some (.int k (.ofNat r))) none
theorem limQ_ok {k : IntKind} {r : Nat} {v : Value} (h : limQ k r = some v) : v = .int k (k.wrap (r : Int)) := by
  unfold limQ at h
  rw [seqQ_eq, bsel_eq] at h
  split at h
  · rename_i hb
    cases h
    rw [wrap_top (Nat.le_of_ble_eq_true hb)]
    all_goals rfl
  · cases h
noncomputable def fastQ (op : BinOp) : IntKind → Nat → Nat → Option Value := match op with
  | .add => fun k m n => limQ k (Nat.add m n)
  | .sub => fun k m n => bsel (Nat.ble n m) (limQ k (Nat.sub m n)) none
  | .eql => fun _ m n => some (.bool (Nat.beq m n))
  | .neq => fun _ m n => some (.bool (Bool.not (Nat.beq m n)))
  | .lss => fun _ m n => some (.bool (Nat.ble (Nat.succ m) n))
  | .leq => fun _ m n => some (.bool (Nat.ble m n))
  | .gtr => fun _ m n => some (.bool (Nat.ble (Nat.succ n) m))
  | .geq => fun _ m n => some (.bool (Nat.ble n m))
  | _ => fun _ _ _ => none
theorem dec_ble (m n : Nat) : decide (m ≤ n) = Nat.ble m n := by
  by_cases h : m ≤ n
  · rw [Nat.ble_eq_true_of_le h, decide_eq_true h]
  · rw [decide_eq_false h]
    cases hb : Nat.ble m n with
    | false => rfl
    | true => exact absurd (Nat.le_of_ble_eq_true hb) h
theorem beq_int (m n : Nat) : ((m : Int) == (n : Int)) = Nat.beq m n := by
  by_cases h : m = n
  · subst h; simp
  · have h1 : Nat.beq m n = false := by
      cases hb : Nat.beq m n with
      | false => rfl
      | true => exact absurd (Nat.eq_of_beq_eq_true hb) h
    rw [h1]
    simp; omega
theorem fastQ_ok {P : Program} {op : BinOp} {k : IntKind} {m n : Nat} {v : Value} {t : TypeId} {x y : Operand} (h : fastQ op k m n = some v) :
    pureRun P (do eqGuard op t x y (.int k (.ofNat m)) (.int k (.ofNat n)); binOp op t (.int k (.ofNat m)) (.int k (.ofNat n))) = some v ∧ plainV v = true := by
  cases op with
  | add =>
    have h1 := limQ_ok (show limQ k (Nat.add m n) = some v from h)
    subst h1
    refine ⟨?_, rfl⟩
    simp [eqGuard, binOp, Op.intArith, pureRun, pure, bind, Sem.bind]
  | sub =>
    have h1 : bsel (Nat.ble n m) (limQ k (Nat.sub m n)) none = some v := h
    rw [bsel_eq] at h1
    split at h1
    · rename_i hb
      have h2 := limQ_ok h1
      have h3 := Nat.le_of_ble_eq_true hb
      have h4 : ((Nat.sub m n : Nat) : Int) = (m : Int) - (n : Int) := by show ((m - n : Nat) : Int) = _; omega
      rw [h4] at h2
      subst h2
      refine ⟨?_, rfl⟩
      simp [eqGuard, binOp, Op.intArith, pureRun, pure, bind, Sem.bind]
    · cases h1
  | eql =>
    have h1 : some (Value.bool (Nat.beq m n)) = some v := h
    cases h1
    refine ⟨?_, rfl⟩
    simp [eqGuard, binOp, Op.intCmp, pureRun, pure, bind, Sem.bind]
    exact beq_int m n
  | neq =>
    have h1 : some (Value.bool (Bool.not (Nat.beq m n))) = some v := h
    cases h1
    refine ⟨?_, rfl⟩
    simp [eqGuard, binOp, Op.intCmp, pureRun, pure, bind, Sem.bind]
    exact congrArg Bool.not (beq_int m n)
  | lss =>
    have h1 : some (Value.bool (Nat.ble (Nat.succ m) n)) = some v := h
    cases h1
    refine ⟨?_, rfl⟩
    simp [eqGuard, binOp, Op.intCmp, pureRun, pure, bind, Sem.bind]
    exact dec_ble (m + 1) n
  | leq =>
    have h1 : some (Value.bool (Nat.ble m n)) = some v := h
    cases h1
    refine ⟨?_, rfl⟩
    simp [eqGuard, binOp, Op.intCmp, pureRun, pure, bind, Sem.bind]
    exact dec_ble m n
  | gtr =>
    have h1 : some (Value.bool (Nat.ble (Nat.succ n) m)) = some v := h
    cases h1
    refine ⟨?_, rfl⟩
    simp [eqGuard, binOp, Op.intCmp, pureRun, pure, bind, Sem.bind]
    exact dec_ble (n + 1) m
  | geq =>
    have h1 : some (Value.bool (Nat.ble n m)) = some v := h
    cases h1
    refine ⟨?_, rfl⟩
    simp [eqGuard, binOp, Op.intCmp, pureRun, pure, bind, Sem.bind]
    exact dec_ble n m
  | _ => cases h

def natKQ (a : LV) : (IntKind → Nat → Option Value) → Option Value := match a with
  | .v (.int k (.ofNat n)) => fun f => f k n
  | _ => fun _ => none
theorem natKQ_ok {a : LV} {f : IntKind → Nat → Option Value} {v : Value} (h : natKQ a f = some v) : ∃ k n, a = .v (.int k (.ofNat n)) ∧ f k n = some v := by
  cases a with
  | v x => cases x with
    | int k n => cases n with
      | ofNat n => exact ⟨k, n, rfl, h⟩
      | negSucc n => cases h
    | _ => cases h
  | _ => cases h
noncomputable def twoQ (op : BinOp) (a b : LV) : Option Value :=
  natKQ a fun k m => natKQ b fun k' n => bsel (Nat.beq (kindN k) (kindN k')) (fastQ op k m n) none
noncomputable def binQ (op : BinOp) (t : TypeId) (x y : Operand) (P : Program) (nB : Nat) (T : Tr LV) (H : Hp) (nx : Nat) : Option Out :=
  obind (opdQ x P T) fun a => obind (opdQ y P T) fun b => Option.rec (ej_binOp P nB T H nx op t x y) (fun v => some ⟨.v v, [], nx, some []⟩) (twoQ op a b)
theorem binQ_eq (P : Program) (nB : Nat) (T : Tr LV) (H : Hp) (nx : Nat) (op : BinOp) (t : TypeId) (x y : Operand) : binQ op t x y P nB T H nx = ej_binOp P nB T H nx op t x y := by
  unfold binQ
  simp only [opdQ_eq, obind_eq]
  cases hx : opd P T x with
  | none => simp only [ej_binOp, hx]
  | some a =>
    cases hy : opd P T y with
    | none => dsimp only; unfold ej_binOp; rw [hx, hy]; cases a <;> rfl
    | some b =>
      dsimp only
      cases hv : twoQ op a b with
      | none => rfl
      | some v =>
        obtain ⟨k, m, rfl, h2⟩ := natKQ_ok hv
        obtain ⟨k', n, rfl, h3⟩ := natKQ_ok h2
        rw [bsel_eq] at h3
        split at h3
        · rename_i hk
          obtain rfl := kindN_inj hk
          obtain ⟨h4, h5⟩ := fastQ_ok (P := P) (t := t) (x := x) (y := y) h3
          unfold ej_binOp
          rw [hx, hy]
          show _ = pureL P nx _
          unfold pureL
          rw [h4]
          have h6 : lvOf v = some (.v v) := by
            unfold lvOf
            cases v <;> simp_all [plainV]
          dsimp only
          rw [h6]
          all_goals rfl
        · cases h3
noncomputable def opdsQ (l : List Operand) : Program → Tr LV → Option (List LV) := List.rec (fun _ _ => some []) (fun x _ ih P T => obind (opdQ x P T) fun a => obind (ih P T) fun l => some (a :: l)) l
theorem opdsQ_eq (P : Program) (T : Tr LV) (l : List Operand) : opdsQ l P T = opds P T l := by
  induction l with
  | nil => rfl
  | cons x l ih =>
    have e1 : opdsQ (x :: l) P T = obind (opdQ x P T) fun a => obind (opdsQ l P T) fun l => some (a :: l) := rfl
    rw [e1, ih]
    simp only [opdQ_eq, obind_eq, opds]
    cases opd P T x with
    | none => rfl
    | some a => dsimp only; cases opds P T l <;> rfl
def fnQ (f : LV) : (FuncId → List LV → Option Out) → Option Out := match f with
  | .fn (.func g) caps => fun k => k g caps
  | _ => fun _ => none
def sliceTyp (P : Program) (l : List TypeId) : Option Unit := match l with
  | t :: _ => match P.underlying t with | some (.slice _) => some () | _ => none
  | [] => none
def lenLQ (args : List LV) : Option Nat := match args with
  | [.slice _ _ n _] => some n
  | [.buf _ _ n _] => some n
  | _ => none
noncomputable def lenQ (P : Program) (nB : Nat) (H : Hp) (nx : Nat) (ats : List TypeId) (type : TypeId) (args : List LV) : Option Out :=
  Option.rec (builtinL P nB H nx .len ats type args) (fun n => obind (sliceTyp P ats) fun _ => some ⟨goI n, [], nx, some []⟩) (lenLQ args)
theorem lenQ_eq (P : Program) (nB : Nat) (H : Hp) (nx : Nat) (ats : List TypeId) (type : TypeId) (args : List LV) : lenQ P nB H nx ats type args = builtinL P nB H nx .len ats type args := by
  unfold lenQ
  have key : ∀ n : Nat, obind (sliceTyp P ats) (fun _ => some (⟨goI n, [], nx, some []⟩ : Out)) = (match ats with | t :: _ => (match P.underlying t with | some (.slice _) => val1 nx (goI n) | _ => none) | [] => none) := by
    intro n
    rw [obind_eq]
    unfold sliceTyp
    cases ats with
    | nil => rfl
    | cons t l =>
      dsimp only
      cases P.underlying t with
      | none => rfl
      | some u => cases u <;> rfl
  cases args with
  | nil => rfl
  | cons x l =>
    cases l with
    | nil => cases x with
      | slice b o n c => exact key n
      | buf b o n c => exact key n
      | _ => rfl
    | cons y l => cases x <;> rfl
noncomputable def calleeQ (c : Callee) : List LV → Program → Nat → CFn → Tr LV → Hp → Nat → List TypeId → TypeId → Option Out := match c with
  | .builtin .len => fun args P nB _ _ H nx ats type => lenQ P nB H nx ats type args
  | .builtin b => fun args P nB _ _ H nx ats type => builtinL P nB H nx b ats type args
  | .value f => fun args P _ cf T H nx _ _ => obind (opdQ f P T) fun fv => fnQ fv fun g caps => bsel (Nat.ble OB g) none (cf g (List.append args caps) H nx)
  | _ => fun _ _ _ _ _ _ _ _ _ => none
noncomputable def callQ (c : Call) (type : TypeId) (P : Program) (nB : Nat) (cf : CFn) (T : Tr LV) (H : Hp) (nx : Nat) : Option Out :=
  obind (opdsQ c.args.toList P T) fun args => calleeQ c.callee args P nB cf T H nx c.argTypes.toList type
theorem callQ_eq (P : Program) (nB : Nat) (cf : CFn) (T : Tr LV) (H : Hp) (nx : Nat) (c : Call) (type : TypeId) : callQ c type P nB cf T H nx = callL P nB cf T H nx c type := by
  unfold callQ callL
  simp only [opdsQ_eq, obind_eq]
  cases opds P T c.args.toList with
  | none => rfl
  | some args =>
    dsimp only
    cases c.callee with
    | builtin b => cases b with
      | len => exact lenQ_eq P nB H nx _ type args
      | _ => rfl
    | value f =>
      simp only [calleeQ, opdQ_eq, obind_eq]
      cases opd P T f with
      | none => rfl
      | some fv => cases fv with
        | fn g caps => cases g with
          | func g => exact bsel_eq _ _ _
          | _ => rfl
        | _ => rfl
    | _ => rfl
noncomputable def evOpQB (op : Op) : Oper → Program → Nat → CFn → Tr LV → Hp → Nat → Option Out := match op with
  | .move x | .assign x => fun _ P _ _ T _ nx => moveQ x P T nx
  | .load t a => fun _ P _ _ T H nx => loadQ t a P T H nx
  | .binOp op t x y _ => fun _ P nB _ T H nx => binQ op t x y P nB T H nx
  | .call c => fun o P nB cf T H nx => callQ c o.type P nB cf T H nx
  | .indexAddr t x i => fun _ P _ _ T _ nx => indexAddrQ t x i P T nx
  | .fieldAddr s x f => fun _ P _ _ T _ nx => fieldAddrQ s x f P T nx
  | .pick c a b => fun _ P _ _ T _ nx => pickQ c a b P T nx
  | _ => fun o P nB cf T H nx => evOpJB P nB cf T H nx o
theorem evOpQB_eq (P : Program) (nB : Nat) (cf : CFn) (T : Tr LV) (H : Hp) (nx : Nat) (o : Oper) : evOpQB o.op o P nB cf T H nx = evOpJB P nB cf T H nx o := by
  cases ho : o.op with
  | move x => simp only [evOpQB, moveQ, opdQ_eq, obind_eq, evOpJB, ho, ej_move]; cases opd P T x <;> rfl
  | assign x => simp only [evOpQB, moveQ, opdQ_eq, obind_eq, evOpJB, ho, ej_move]; cases opd P T x <;> rfl
  | load t a => simp only [evOpQB, evOpJB, ho]; exact loadQ_eq P nB T H nx t a
  | binOp op t x y u => simp only [evOpQB, evOpJB, ho]; exact binQ_eq P nB T H nx op t x y
  | call c => simp only [evOpQB, evOpJB, ho]; exact callQ_eq P nB cf T H nx c _
  | indexAddr t x i => simp only [evOpQB, evOpJB, ho]; exact indexAddrQ_eq P nB T H nx t x i
  | fieldAddr s x f => simp only [evOpQB, evOpJB, ho]; exact fieldAddrQ_eq P nB T H nx s x f
  | pick c a b => simp only [evOpQB, evOpJB, ho]; exact pickQ_eq P nB T H nx c a b
  | _ => rfl
noncomputable def evOpQ (op : Op) (o : Oper) (P : Program) (nB : Nat) (cf : CFn) (T : Tr LV) (H : Hp) (nx : Nat) : Option Out :=
  Option.rec (orH P cf T nx o none) (fun x => some x) (evOpQB op o P nB cf T H nx)
theorem evOpQ_eq (P : Program) (nB : Nat) (cf : CFn) (T : Tr LV) (H : Hp) (nx : Nat) (o : Oper) : evOpQ o.op o P nB cf T H nx = evOpJ P nB cf T H nx o := by
  unfold evOpQ evOpJ
  rw [evOpQB_eq]
  cases evOpJB P nB cf T H nx o <;> rfl
noncomputable def seqT {α β : Type} (t : Tr α) (k : Tr α → β) : β := Tr.rec (k .nil) (fun l v r _ _ => k (.node l v r)) t
theorem seqT_eq {α β : Type} (t : Tr α) (k : Tr α → β) : seqT t k = k t := by cases t <;> rfl
noncomputable def stepQ (cont : Nat → Array Oper → Tr LV → Hp → Nat → List Nat → Option St) (o : Oper) (nt : Nat) (ops : Array Oper) (T : Tr LV) (H : Hp) (nx : Nat) (wr : List Nat) (r : Out) : Option St :=
  Out.rec (fun v d nx' _ => seqQ nx' fun nx' => bsel (Nat.ble nx nx') (seqT (putQ o.dst nt T v) fun T => List.rec (cont nt ops T H nx' wr) (fun _ _ _ => seqT (appQ d H) fun H => cont nt ops T H nx' (oldW nx d ++ wr)) d) none) r
noncomputable def selQ (cont : Nat → Array Oper → Tr LV → Hp → Nat → List Nat → Option St) (o : Oper) (P : Program) (nB : Nat) (cf : CFn) (nt : Nat) (ops : Array Oper) (T : Tr LV) (H : Hp) (nx : Nat) (wr : List Nat) (g : Option Bool) : Option St :=
  obind g fun b => bsel b (obind (evOpQ o.op o P nB cf T H nx) (stepQ cont o nt ops T H nx wr)) (cont nt ops (putQ o.dst nt T (.tup [])) H nx wr)
noncomputable def evSeqQ (P : Program) (nB : Nat) (cf : CFn) (l : List Oper) : Nat → Array Oper → Tr LV → Hp → Nat → List Nat → Option St :=
  List.rec (fun nt ops T H nx wr => some ⟨nt, T, H, nx, wr⟩) (fun o _ ih nt ops T H nx wr => selQ ih o P nB cf nt ops T H nx wr (guardQ P ops T o)) l
theorem evSeqQ_eq (P : Program) (nB : Nat) (cf : CFn) (l : List Oper) : ∀ (nt : Nat) (ops : Array Oper) (T : Tr LV) (H : Hp) (nx : Nat) (wr : List Nat), evSeqQ P nB cf l nt ops T H nx wr = evSeqK P nB cf nt ops l T H nx wr := by
  induction l with
  | nil => intros; rfl
  | cons o l ih =>
    intro nt ops T H nx wr
    have e1 : evSeqQ P nB cf (o :: l) nt ops T H nx wr = selQ (evSeqQ P nB cf l) o P nB cf nt ops T H nx wr (guardQ P ops T o) := rfl
    rw [e1]
    unfold evSeqK selQ
    rw [guardQ_eq, evOpQ_eq]
    simp only [obind_eq, bsel_eq, ih, putQ_eq]
    cases wantL ops T o with
    | none => rfl
    | some b => cases b with
      | false => rfl
      | true => cases evOpJ P nB cf T H nx o with
        | none => rfl
        | some out =>
          cases out with
          | mk v d nx' ft =>
            simp only [stepQ, seqQ_eq, bsel_eq, ih, putQ_eq, appQ_eq, seqK_eq, seqT_eq]
            cases Nat.ble nx nx' with
            | false => rfl
            | true => cases d <;> rfl
end Go.Proofs.YtjpfhhndjpdmoaaGreatDoor
