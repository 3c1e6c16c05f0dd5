/- Part of the proof: EvL,EvM,EvN,EvNa,EvSt,Sg0. No conditions of its own. -/
import Derived.Test.YtjpfhhndjpdmoaaGreatDoorF24
namespace Go.Proofs.YtjpfhhndjpdmoaaGreatDoor
set_option linter.unusedVariables false
set_option linter.unusedSimpArgs false
set_option autoImplicit false

noncomputable def seqQ {α : Type} (n:Nat) (f:Nat → α) : α:=Nat.rec (f 0) (fun k _=>f (Nat.succ k)) n
theorem seqQ_eq {α : Type} (n:Nat) (f:Nat → α) : seqQ n f = f n:=by cases n <;> rfl
noncomputable def obind {α β : Type} (x:Option α) (k:α → Option β) : Option β:=Option.rec none k x
theorem obind_eq {α β : Type} (x:Option α) (k:α → Option β) : obind x k = (match x with | some a=>k a | none=>none):=by cases x <;> rfl
noncomputable def bsel {α : Type} (b:Bool) (x y:α) : α:=Bool.rec y x b
theorem bsel_eq {α : Type} (b:Bool) (x y:α) : bsel b x y = (match b with | true=>x | false=>y):=by cases b <;> rfl
section
variable {α : Type}
noncomputable def getQ (t:Tr α) : Nat → Option α :=
 Tr.rec (fun _=>none) (fun l v r il ir n=>Nat.rec v (fun k _=>Nat.rec (il (Nat.div k 2)) (fun _ _=>ir (Nat.div k 2)) (Nat.mod k 2)) n) t
theorem getQ_eq (t:Tr α) : ∀ n,getQ t n = t.get n:=by
 induction t with
 | nil=>intro n; rfl
 | node l v r hl hr =>
  intro n
  cases n with
  | zero=>rfl
  | succ k =>
   have e1 : getQ (Tr.node l v r) (k + 1) = Nat.rec (getQ l (k / 2)) (fun _ _=>getQ r (k / 2)) (k % 2):=rfl
   rw [e1,hl,hr]
   have e2 : (Tr.node l v r).get (k + 1) = (match k % 2 with | 0=>l.get (k / 2) | _ + 1=>r.get (k / 2)):=rfl
   rw [e2]
   cases k % 2 <;> rfl
noncomputable def setQ (f:Nat) : Tr α → Nat → Option α → Tr α :=
 Nat.rec (fun t _ _=>t) (fun _ ih t n x=>Tr.rec
  (Nat.rec (.node .nil x .nil) (fun k _=>Nat.rec (.node (ih .nil (Nat.div k 2) x) none .nil) (fun _ _=>.node .nil none (ih .nil (Nat.div k 2) x)) (Nat.mod k 2)) n)
  (fun l v r _ _=>Nat.rec (.node l x r) (fun k _=>Nat.rec (.node (ih l (Nat.div k 2) x) v r) (fun _ _=>.node l v (ih r (Nat.div k 2) x)) (Nat.mod k 2)) n) t) f
theorem setQ_eq (f:Nat) : ∀ (t:Tr α) (n:Nat) (x:Option α),setQ f t n x = Tr.setF f t n x:=by
 induction f with
 | zero=>intro t n x; rfl
 | succ f ih =>
  intro t n x
  cases t with
  | nil =>
   cases n with
   | zero=>rfl
   | succ k =>
    have e1 : setQ (f + 1) Tr.nil (k + 1) x = Nat.rec (.node (setQ f .nil (k / 2) x) none .nil) (fun _ _=>.node .nil none (setQ f .nil (k / 2) x)) (k % 2):=rfl
    have e2 : Tr.setF (f + 1) (Tr.nil : Tr α) (k + 1) x = (match k % 2 with | 0=>.node (Tr.setF f .nil (k / 2) x) none .nil | _ + 1=>.node .nil none (Tr.setF f .nil (k / 2) x)):=rfl
    rw [e1,e2]
    cases k % 2 <;> (simp only [ih] <;> rfl)
  | node l v r =>
   cases n with
   | zero=>rfl
   | succ k =>
    have e1 : setQ (f + 1) (Tr.node l v r) (k + 1) x = Nat.rec (.node (setQ f l (k / 2) x) v r) (fun _ _=>.node l v (setQ f r (k / 2) x)) (k % 2):=rfl
    have e2 : Tr.setF (f + 1) (Tr.node l v r) (k + 1) x = (match k % 2 with | 0=>.node (Tr.setF f l (k / 2) x) v r | _ + 1=>.node l v (Tr.setF f r (k / 2) x)):=rfl
    rw [e1,e2]
    cases k % 2 <;> (simp only [ih] <;> rfl)
end
noncomputable def opdQ (x:Operand) : Program → Tr LV → Option LV :=
 Operand.rec (fun t _ T=>getQ T t) (fun x _ _=>lvOf x) (fun g P _=>if g < P.globals.size then some (.ptr g 0) else none) (fun f _ _=>some (.fn (.func f) [])) x
theorem opdQ_eq (P:Program) (T:Tr LV) (x:Operand) : opdQ x P T = opd P T x:=by
 cases x with
 | tmp t=>exact getQ_eq T t
 | _=>rfl
noncomputable def putQ (d:Option Tmp) (nt:Nat) (T:Tr LV) (v:LV) : Tr LV:=Option.rec T (fun d=>bsel (Nat.ble (Nat.succ d) nt) (setQ (Nat.succ d) T d (some v)) T) d
theorem putQ_eq (d:Option Tmp) (nt:Nat) (T:Tr LV) (v:LV) : putQ d nt T v = putK nt T d v:=by
 cases d with
 | none=>rfl
 | some d =>
  have e1 : putQ (some d) nt T v = bsel (Nat.ble (Nat.succ d) nt) (setQ (Nat.succ d) T d (some v)) T:=rfl
  rw [e1,setQ_eq,bsel_eq]
  all_goals rfl
noncomputable def appQ (d:Dl) : Hp → Hp:=List.rec (fun H=>H) (fun x _ ih H=>ih (setQ (Nat.succ x.1) H x.1 x.2)) d
theorem appQ_eq (d:Dl) : ∀ H : Hp,appQ d H = H.app d:=by
 induction d with
 | nil=>intro H; rfl
 | cons x d ih =>
  intro H
  obtain ⟨i,b⟩:=x
  have e1 : appQ ((i,b) :: d) H = appQ d (setQ (Nat.succ i) H i b):=rfl
  rw [e1,ih,setQ_eq]
  all_goals rfl
noncomputable def guardQ (P:Program) (ops:Array Oper) (T:Tr LV) (o:Oper) : Option Bool:=Option.rec (some true) (fun _=>wantL ops T o) o.guard
theorem guardQ_eq (P:Program) (ops:Array Oper) (T:Tr LV) (o:Oper) : guardQ P ops T o = wantL ops T o:=by
 unfold guardQ wantL
 cases o.guard <;> rfl
abbrev CFn:=FuncId → List LV → Hp → Nat → Option Out
noncomputable def moveQ (x:Operand) (P:Program) (T:Tr LV) (nx:Nat) : Option Out:=obind (opdQ x P T) fun a=>some ⟨a,[],nx,some []⟩
end Go.Proofs.YtjpfhhndjpdmoaaGreatDoor

namespace Go.Proofs.YtjpfhhndjpdmoaaGreatDoor
set_option linter.unusedVariables false
set_option linter.unusedSimpArgs false
set_option autoImplicit false

noncomputable def nthQ (cs:List LV) : Nat → Option LV:=List.rec (fun _=>none) (fun x _ ih n=>Nat.rec (some x) (fun k _=>ih k) n) cs
theorem nthQ_eq (cs:List LV) : ∀ n,nthQ cs n = cs[n]?:=by
 induction cs with
 | nil=>intro n; rfl
 | cons x cs ih =>
  intro n
  cases n with
  | zero=>rfl
  | succ n=>rw [List.getElem?_cons_succ]; exact ih n
def kindL (P:Program) (t:TypeId) : Option (Option Nat):=match isAggL P t,sizeL P t with
 | some true,some n=>some (some n)
 | some false,some _=>some none
 | _,_=>none
noncomputable def partQ (P:Program) (t:TypeId) (cs:List LV) (off:Nat) : Option LV :=
 obind (kindL P t) fun q=>Option.rec (nthQ cs off) (fun n=>if ((cs.drop off).take n).length = n then some (.agg ((cs.drop off).take n)) else none) q
theorem partQ_eq (P:Program) (t:TypeId) (cs:List LV) (off:Nat) : partQ P t cs off = partL P t cs off:=by
 unfold partQ partL kindL
 cases isAggL P t with
 | none=>rfl
 | some b=>cases b with
  | true=>cases sizeL P t <;> rfl
  | false=>cases sizeL P t with
   | none=>rfl
   | some n=>exact nthQ_eq cs off
def ptrQ (p:LV) : (Nat → Nat → Option Out) → Option Out:=match p with
 | .ptr b off=>fun k=>k b off
 | _=>fun _=>none
noncomputable def loadQ (t:TypeId) (a:Operand) (P:Program) (T:Tr LV) (H:Hp) (nx:Nat) : Option Out :=
 obind (opdQ a P T) fun p=>ptrQ p fun b off=>obind (getQ H b) fun k=>obind (partQ P t k.cells off) fun l=>some ⟨l,[],nx,some [b]⟩
theorem loadQ_eq (P:Program) (nB:Nat) (T:Tr LV) (H:Hp) (nx:Nat) (t:TypeId) (a:Operand) : loadQ t a P T H nx = ej_load P nB T H nx t a:=by
 unfold loadQ ej_load
 simp only [opdQ_eq,obind_eq,getQ_eq,partQ_eq]
 cases opd P T a with
 | none=>rfl
 | some p=>cases p with
  | ptr b off =>
   simp only [ptrQ]
   cases H.get b with
   | none=>rfl
   | some k =>
    dsimp only
    cases partL P t k.cells off <;> rfl
  | _=>rfl
def boolQ (p:LV) : (Bool → Option Out) → Option Out:=match p with
 | .v (.bool b)=>fun k=>k b
 | _=>fun _=>none
noncomputable def pickQ (c a b:Operand) (P:Program) (T:Tr LV) (nx:Nat) : Option Out :=
 obind (opdQ c P T) fun c=>boolQ c fun t=>obind (opdQ a P T) fun a=>obind (opdQ b P T) fun b=>some ⟨bsel t a b,[],nx,some []⟩
theorem pickQ_eq (P:Program) (nB:Nat) (T:Tr LV) (H:Hp) (nx:Nat) (c a b:Operand) : pickQ c a b P T nx = ej_pick P nB T H nx c a b:=by
 unfold pickQ ej_pick
 simp only [opdQ_eq,obind_eq]
 cases opd P T c with
 | none=>rfl
 | some p=>cases p with
  | v x=>cases x with
   | bool t =>
    simp only [boolQ]
    cases opd P T a with
    | none=>rfl
    | some a'=>cases opd P T b with
     | none=>rfl
     | some b'=>cases t <;> rfl
   | _=>rfl
  | _=>rfl
def idxK (P:Program) (t:TypeId) : Option (Option Nat × Nat):=match P.underlying t with
 | some (.array n e)=>match sizeL P e with | some s=>some (some n,s) | none=>none
 | some (.slice e)=>match sizeL P e with | some s=>some (none,s) | none=>none
 | _=>none
def natQ (p:LV) : (Nat → Option Out) → Option Out:=match p with
 | .v (.int _ (.ofNat n))=>fun k=>k n
 | _=>fun _=>none
def baseQ (p:LV) : Option Nat → (Nat → Nat → Nat → Option Out) → Option Out:=match p with
 | .ptr b off=>fun n k=>match n with | some n=>k b off n | none=>none
 | .slice b off n _=>fun m k=>match m with | none=>k b off n | some _=>none
 | .buf b off n _=>fun m k=>match m with | none=>k b off n | some _=>none
 | _=>fun _ _=>none
noncomputable def indexAddrQ (t:TypeId) (x i:Operand) (P:Program) (T:Tr LV) (nx:Nat) : Option Out :=
 obind (idxK P t) fun q=>obind (opdQ x P T) fun x=>baseQ x q.1 fun b off n=>obind (opdQ i P T) fun i=>natQ i fun i=>bsel (Nat.ble (Nat.succ i) n) (seqQ (Nat.add off (Nat.mul i q.2)) fun o=>some ⟨.ptr b o,[],nx,some []⟩) none
theorem bsel_lt {α : Type} (i n:Nat) (x:Option α) : bsel (Nat.ble (Nat.succ i) n) x none = if i < n then x else none:=by
 rw [bsel_eq]
 by_cases h : i < n
 ·rw [if_pos h,Nat.ble_eq_true_of_le (show Nat.succ i ≤ n from h)]
 ·rw [if_neg h]
  cases hb : Nat.ble (Nat.succ i) n with
  | false=>rfl
  | true=>exact absurd (Nat.le_of_ble_eq_true hb) h
theorem natQ_eq (p:LV) (k:Nat → Option Out) : natQ p k = (match natL p with | some n=>k n | none=>none):=by
 cases p with
 | v x=>cases x with
  | int q n=>cases n <;> rfl
  | _=>rfl
 | _=>rfl
theorem indexAddrQ_eq (P:Program) (nB:Nat) (T:Tr LV) (H:Hp) (nx:Nat) (t:TypeId) (x i:Operand) : indexAddrQ t x i P T nx = ej_indexAddr P nB T H nx t x i:=by
 unfold indexAddrQ ej_indexAddr idxK
 simp only [opdQ_eq,obind_eq,natQ_eq,bsel_lt,seqQ_eq]
 cases P.underlying t with
 | none=>rfl
 | some u=>cases u with
  | array n e =>
   dsimp only
   cases hs : sizeL P e with
   | none =>
    dsimp only
    cases opd P T x with
    | none=>rfl
    | some p=>cases p with
     | ptr b off=>cases opd P T i with
      | none=>rfl
      | some iv=>simp only [hs]; cases natL iv <;> rfl
     | _=>rfl
   | some s =>
    dsimp only
    cases opd P T x with
    | none=>rfl
    | some p=>cases p with
     | ptr b off=>cases opd P T i with
      | none=>rfl
      | some iv=>simp only [hs,baseQ]; cases natL iv <;> rfl
     | _=>rfl
  | slice e =>
   dsimp only
   cases hs : sizeL P e with
   | none =>
    dsimp only
    cases opd P T x with
    | none=>rfl
    | some p=>cases p with
     | slice b off n c=>cases opd P T i with
      | none=>rfl
      | some iv=>simp only [hs]; cases natL iv <;> rfl
     | buf b off n c=>cases opd P T i with
      | none=>rfl
      | some iv=>simp only [hs]; cases natL iv <;> rfl
     | _=>rfl
   | some s =>
    dsimp only
    cases opd P T x with
    | none=>rfl
    | some p=>cases p with
     | slice b off n c=>cases opd P T i with
      | none=>rfl
      | some iv=>simp only [hs,baseQ]; cases natL iv <;> rfl
     | buf b off n c=>cases opd P T i with
      | none=>rfl
      | some iv=>simp only [hs,baseQ]; cases natL iv <;> rfl
     | _=>rfl
  | _=>rfl
def fieldK (P:Program) (s:TypeId) (f:Nat) : Option Nat:=match P.underlying s with
 | some (.struct fs)=>match fs[f]? with
  | some f=>match sizeL P f.type with
   | some (_ + 1)=>some f.offset
   | _=>none
  | none=>none
 | _=>none
noncomputable def fieldAddrQ (s:TypeId) (x:Operand) (f:Nat) (P:Program) (T:Tr LV) (nx:Nat) : Option Out :=
 obind (fieldK P s f) fun o=>obind (opdQ x P T) fun x=>ptrQ x fun b off=>seqQ (Nat.add off o) fun o=>some ⟨.ptr b o,[],nx,some []⟩
theorem fieldAddrQ_eq (P:Program) (nB:Nat) (T:Tr LV) (H:Hp) (nx:Nat) (s:TypeId) (x:Operand) (f:Nat) : fieldAddrQ s x f P T nx = ej_fieldAddr P nB T H nx s x f:=by
 unfold fieldAddrQ ej_fieldAddr fieldK
 simp only [opdQ_eq,obind_eq,seqQ_eq]
 cases P.underlying s with
 | none=>rfl
 | some u=>cases u with
  | struct fs =>
   dsimp only
   cases opd P T x with
   | none =>
    cases fs[f]? with
    | none=>rfl
    | some fl=>dsimp only; cases sizeL P fl.type with
     | none=>rfl
     | some n=>cases n <;> rfl
   | some p =>
    cases hf : fs[f]? with
    | none=>cases p <;> simp only [hf]
    | some fl =>
     cases hs : sizeL P fl.type with
     | none=>cases p <;> simp only [hf,hs,ptrQ]
     | some n=>cases n <;> cases p <;> simp only [hf,hs,ptrQ] <;> rfl
  | _=>rfl
end Go.Proofs.YtjpfhhndjpdmoaaGreatDoor

namespace Go.Proofs.YtjpfhhndjpdmoaaGreatDoor
set_option linter.unusedVariables false
set_option linter.unusedSimpArgs false
set_option autoImplicit false

def kindN (k:IntKind) : Nat:=match k with | .i8=>0 | .i16=>1 | .i32=>2 | .i64=>3 | .u8=>4 | .u16=>5 | .u32=>6 | .u64=>7
theorem kindN_inj {k k':IntKind} (h:Nat.beq (kindN k) (kindN k') = true) : k = k':=by
 cases k <;> cases k' <;> first | rfl | cases h
noncomputable def limQ (k:IntKind) (r:Nat) : Option Value:=seqQ r fun r=>bsel (Nat.ble r (topK k)) (some (.int k (.ofNat r))) none
theorem limQ_ok {k:IntKind} {r:Nat} {v:Value} (h:limQ k r = some v) : v = .int k (k.wrap (r:Int)):=by
 unfold limQ at h
 rw [seqQ_eq,bsel_eq] at h
 split at h
 ·rename_i hb
  cases h
  rw [wrap_top (Nat.le_of_ble_eq_true hb)]
  all_goals rfl
 ·cases h
noncomputable def fastQ (op:BinOp) : IntKind → Nat → Nat → Option Value:=match op with
 | .add=>fun k m n=>limQ k (Nat.add m n)
 | .sub=>fun k m n=>bsel (Nat.ble n m) (limQ k (Nat.sub m n)) none
 | .eql=>fun _ m n=>some (.bool (Nat.beq m n))
 | .neq=>fun _ m n=>some (.bool (Bool.not (Nat.beq m n)))
 | .lss=>fun _ m n=>some (.bool (Nat.ble (Nat.succ m) n))
 | .leq=>fun _ m n=>some (.bool (Nat.ble m n))
 | .gtr=>fun _ m n=>some (.bool (Nat.ble (Nat.succ n) m))
 | .geq=>fun _ m n=>some (.bool (Nat.ble n m))
 | _=>fun _ _ _=>none
theorem dec_ble (m n:Nat) : decide (m ≤ n) = Nat.ble m n:=by
 by_cases h : m ≤ n
 ·rw [Nat.ble_eq_true_of_le h,decide_eq_true h]
 ·rw [decide_eq_false h]
  cases hb : Nat.ble m n with
  | false=>rfl
  | true=>exact absurd (Nat.le_of_ble_eq_true hb) h
theorem beq_int (m n:Nat) : ((m:Int) == (n:Int)) = Nat.beq m n:=by
 by_cases h : m = n
 ·subst h; simp
 ·have h1 : Nat.beq m n = false:=by
   cases hb : Nat.beq m n with
   | false=>rfl
   | true=>exact absurd (Nat.eq_of_beq_eq_true hb) h
  rw [h1]
  simp; omega
theorem fastQ_ok {P:Program} {op:BinOp} {k:IntKind} {m n:Nat} {v:Value} {t:TypeId} {x y:Operand} (h:fastQ op k m n = some v) :
  pureRun P (do eqGuard op t x y (.int k (.ofNat m)) (.int k (.ofNat n)); binOp op t (.int k (.ofNat m)) (.int k (.ofNat n))) = some v ∧ plainV v = true:=by
 cases op with
 | add =>
  have h1:=limQ_ok (show limQ k (Nat.add m n) = some v from h)
  subst h1
  refine ⟨?_,rfl⟩
  simp [eqGuard,binOp,Op.intArith,pureRun,pure,bind,Sem.bind]
 | sub =>
  have h1 : bsel (Nat.ble n m) (limQ k (Nat.sub m n)) none = some v:=h
  rw [bsel_eq] at h1
  split at h1
  ·rename_i hb
   have h2:=limQ_ok h1
   have h3:=Nat.le_of_ble_eq_true hb
   have h4 : ((Nat.sub m n : Nat) : Int) = (m:Int) - (n:Int):=by show ((m - n : Nat) : Int) = _; omega
   rw [h4] at h2
   subst h2
   refine ⟨?_,rfl⟩
   simp [eqGuard,binOp,Op.intArith,pureRun,pure,bind,Sem.bind]
  ·cases h1
 | eql =>
  have h1 : some (Value.bool (Nat.beq m n)) = some v:=h
  cases h1
  refine ⟨?_,rfl⟩
  simp [eqGuard,binOp,Op.intCmp,pureRun,pure,bind,Sem.bind]
  exact beq_int m n
 | neq =>
  have h1 : some (Value.bool (Bool.not (Nat.beq m n))) = some v:=h
  cases h1
  refine ⟨?_,rfl⟩
  simp [eqGuard,binOp,Op.intCmp,pureRun,pure,bind,Sem.bind]
  exact congrArg Bool.not (beq_int m n)
 | lss =>
  have h1 : some (Value.bool (Nat.ble (Nat.succ m) n)) = some v:=h
  cases h1
  refine ⟨?_,rfl⟩
  simp [eqGuard,binOp,Op.intCmp,pureRun,pure,bind,Sem.bind]
  exact dec_ble (m + 1) n
 | leq =>
  have h1 : some (Value.bool (Nat.ble m n)) = some v:=h
  cases h1
  refine ⟨?_,rfl⟩
  simp [eqGuard,binOp,Op.intCmp,pureRun,pure,bind,Sem.bind]
  exact dec_ble m n
 | gtr =>
  have h1 : some (Value.bool (Nat.ble (Nat.succ n) m)) = some v:=h
  cases h1
  refine ⟨?_,rfl⟩
  simp [eqGuard,binOp,Op.intCmp,pureRun,pure,bind,Sem.bind]
  exact dec_ble (n + 1) m
 | geq =>
  have h1 : some (Value.bool (Nat.ble n m)) = some v:=h
  cases h1
  refine ⟨?_,rfl⟩
  simp [eqGuard,binOp,Op.intCmp,pureRun,pure,bind,Sem.bind]
  exact dec_ble n m
 | _=>cases h

def natKQ (a:LV) : (IntKind → Nat → Option Value) → Option Value:=match a with
 | .v (.int k (.ofNat n))=>fun f=>f k n
 | _=>fun _=>none
theorem natKQ_ok {a:LV} {f:IntKind → Nat → Option Value} {v:Value} (h:natKQ a f = some v) : ∃ k n,a = .v (.int k (.ofNat n)) ∧ f k n = some v:=by
 cases a with
 | v x=>cases x with
  | int k n=>cases n with
   | ofNat n=>exact ⟨k,n,rfl,h⟩
   | negSucc n=>cases h
  | _=>cases h
 | _=>cases h
noncomputable def twoQ (op:BinOp) (a b:LV) : Option Value :=
 natKQ a fun k m=>natKQ b fun k' n=>bsel (Nat.beq (kindN k) (kindN k')) (fastQ op k m n) none
noncomputable def binQ (op:BinOp) (t:TypeId) (x y:Operand) (P:Program) (nB:Nat) (T:Tr LV) (H:Hp) (nx:Nat) : Option Out :=
 obind (opdQ x P T) fun a=>obind (opdQ y P T) fun b=>Option.rec (ej_binOp P nB T H nx op t x y) (fun v=>some ⟨.v v,[],nx,some []⟩) (twoQ op a b)
theorem binQ_eq (P:Program) (nB:Nat) (T:Tr LV) (H:Hp) (nx:Nat) (op:BinOp) (t:TypeId) (x y:Operand) : binQ op t x y P nB T H nx = ej_binOp P nB T H nx op t x y:=by
 unfold binQ
 simp only [opdQ_eq,obind_eq]
 cases hx : opd P T x with
 | none=>simp only [ej_binOp,hx]
 | some a =>
  cases hy : opd P T y with
  | none=>dsimp only; unfold ej_binOp; rw [hx,hy]; cases a <;> rfl
  | some b =>
   dsimp only
   cases hv : twoQ op a b with
   | none=>rfl
   | some v =>
    obtain ⟨k,m,rfl,h2⟩:=natKQ_ok hv
    obtain ⟨k',n,rfl,h3⟩:=natKQ_ok h2
    rw [bsel_eq] at h3
    split at h3
    ·rename_i hk
     obtain rfl:=kindN_inj hk
     obtain ⟨h4,h5⟩:=fastQ_ok (P:=P) (t:=t) (x:=x) (y:=y) h3
     unfold ej_binOp
     rw [hx,hy]
     show _ = pureL P nx _
     unfold pureL
     rw [h4]
     have h6 : lvOf v = some (.v v):=by
      unfold lvOf
      cases v <;> simp_all [plainV]
     dsimp only
     rw [h6]
     all_goals rfl
    ·cases h3
noncomputable def opdsQ (l:List Operand) : Program → Tr LV → Option (List LV):=List.rec (fun _ _=>some []) (fun x _ ih P T=>obind (opdQ x P T) fun a=>obind (ih P T) fun l=>some (a :: l)) l
theorem opdsQ_eq (P:Program) (T:Tr LV) (l:List Operand) : opdsQ l P T = opds P T l:=by
 induction l with
 | nil=>rfl
 | cons x l ih =>
  have e1 : opdsQ (x :: l) P T = obind (opdQ x P T) fun a=>obind (opdsQ l P T) fun l=>some (a :: l):=rfl
  rw [e1,ih]
  simp only [opdQ_eq,obind_eq,opds]
  cases opd P T x with
  | none=>rfl
  | some a=>dsimp only; cases opds P T l <;> rfl
def fnQ (f:LV) : (FuncId → List LV → Option Out) → Option Out:=match f with
 | .fn (.func g) caps=>fun k=>k g caps
 | _=>fun _=>none
def sliceTyp (P:Program) (l:List TypeId) : Option Unit:=match l with
 | t :: _=>match P.underlying t with | some (.slice _)=>some () | _=>none
 | []=>none
def lenLQ (args:List LV) : Option Nat:=match args with
 | [.slice _ _ n _]=>some n
 | [.buf _ _ n _]=>some n
 | _=>none
noncomputable def lenQ (P:Program) (nB:Nat) (H:Hp) (nx:Nat) (ats:List TypeId) (type:TypeId) (args:List LV) : Option Out :=
 Option.rec (builtinL P nB H nx .len ats type args) (fun n=>obind (sliceTyp P ats) fun _=>some ⟨goI n,[],nx,some []⟩) (lenLQ args)
theorem lenQ_eq (P:Program) (nB:Nat) (H:Hp) (nx:Nat) (ats:List TypeId) (type:TypeId) (args:List LV) : lenQ P nB H nx ats type args = builtinL P nB H nx .len ats type args:=by
 unfold lenQ
 have key : ∀ n : Nat,obind (sliceTyp P ats) (fun _=>some (⟨goI n,[],nx,some []⟩ : Out)) = (match ats with | t :: _=>(match P.underlying t with | some (.slice _)=>val1 nx (goI n) | _=>none) | []=>none):=by
  intro n
  rw [obind_eq]
  unfold sliceTyp
  cases ats with
  | nil=>rfl
  | cons t l =>
   dsimp only
   cases P.underlying t with
   | none=>rfl
   | some u=>cases u <;> rfl
 cases args with
 | nil=>rfl
 | cons x l =>
  cases l with
  | nil=>cases x with
   | slice b o n c=>exact key n
   | buf b o n c=>exact key n
   | _=>rfl
  | cons y l=>cases x <;> rfl
noncomputable def calleeQ (c:Callee) : List LV → Program → Nat → CFn → Tr LV → Hp → Nat → List TypeId → TypeId → Option Out:=match c with
 | .builtin .len=>fun args P nB _ _ H nx ats type=>lenQ P nB H nx ats type args
 | .builtin b=>fun args P nB _ _ H nx ats type=>builtinL P nB H nx b ats type args
 | .value f=>fun args P _ cf T H nx _ _=>obind (opdQ f P T) fun fv=>fnQ fv fun g caps=>bsel (Nat.ble OB g) none (cf g (List.append args caps) H nx)
 | _=>fun _ _ _ _ _ _ _ _ _=>none
noncomputable def callQ (c:Call) (type:TypeId) (P:Program) (nB:Nat) (cf:CFn) (T:Tr LV) (H:Hp) (nx:Nat) : Option Out :=
 obind (opdsQ c.args.toList P T) fun args=>calleeQ c.callee args P nB cf T H nx c.argTypes.toList type
theorem callQ_eq (P:Program) (nB:Nat) (cf:CFn) (T:Tr LV) (H:Hp) (nx:Nat) (c:Call) (type:TypeId) : callQ c type P nB cf T H nx = callL P nB cf T H nx c type:=by
 unfold callQ callL
 simp only [opdsQ_eq,obind_eq]
 cases opds P T c.args.toList with
 | none=>rfl
 | some args =>
  dsimp only
  cases c.callee with
  | builtin b=>cases b with
   | len=>exact lenQ_eq P nB H nx _ type args
   | _=>rfl
  | value f =>
   simp only [calleeQ,opdQ_eq,obind_eq]
   cases opd P T f with
   | none=>rfl
   | some fv=>cases fv with
    | fn g caps=>cases g with
     | func g=>exact bsel_eq _ _ _
     | _=>rfl
    | _=>rfl
  | _=>rfl
noncomputable def evOpQB (op:Op) : Oper → Program → Nat → CFn → Tr LV → Hp → Nat → Option Out:=match op with
 | .move x | .assign x=>fun _ P _ _ T _ nx=>moveQ x P T nx
 | .load t a=>fun _ P _ _ T H nx=>loadQ t a P T H nx
 | .binOp op t x y _=>fun _ P nB _ T H nx=>binQ op t x y P nB T H nx
 | .call c=>fun o P nB cf T H nx=>callQ c o.type P nB cf T H nx
 | .indexAddr t x i=>fun _ P _ _ T _ nx=>indexAddrQ t x i P T nx
 | .fieldAddr s x f=>fun _ P _ _ T _ nx=>fieldAddrQ s x f P T nx
 | .pick c a b=>fun _ P _ _ T _ nx=>pickQ c a b P T nx
 | _=>fun o P nB cf T H nx=>evOpJB P nB cf T H nx o
theorem evOpQB_eq (P:Program) (nB:Nat) (cf:CFn) (T:Tr LV) (H:Hp) (nx:Nat) (o:Oper) : evOpQB o.op o P nB cf T H nx = evOpJB P nB cf T H nx o:=by
 cases ho : o.op with
 | move x=>simp only [evOpQB,moveQ,opdQ_eq,obind_eq,evOpJB,ho,ej_move]; cases opd P T x <;> rfl
 | assign x=>simp only [evOpQB,moveQ,opdQ_eq,obind_eq,evOpJB,ho,ej_move]; cases opd P T x <;> rfl
 | load t a=>simp only [evOpQB,evOpJB,ho]; exact loadQ_eq P nB T H nx t a
 | binOp op t x y u=>simp only [evOpQB,evOpJB,ho]; exact binQ_eq P nB T H nx op t x y
 | call c=>simp only [evOpQB,evOpJB,ho]; exact callQ_eq P nB cf T H nx c _
 | indexAddr t x i=>simp only [evOpQB,evOpJB,ho]; exact indexAddrQ_eq P nB T H nx t x i
 | fieldAddr s x f=>simp only [evOpQB,evOpJB,ho]; exact fieldAddrQ_eq P nB T H nx s x f
 | pick c a b=>simp only [evOpQB,evOpJB,ho]; exact pickQ_eq P nB T H nx c a b
 | _=>rfl
noncomputable def evOpQ (op:Op) (o:Oper) (P:Program) (nB:Nat) (cf:CFn) (T:Tr LV) (H:Hp) (nx:Nat) : Option Out :=
 Option.rec (orH P cf T nx o none) (fun x=>some x) (evOpQB op o P nB cf T H nx)
theorem evOpQ_eq (P:Program) (nB:Nat) (cf:CFn) (T:Tr LV) (H:Hp) (nx:Nat) (o:Oper) : evOpQ o.op o P nB cf T H nx = evOpJ P nB cf T H nx o:=by
 unfold evOpQ evOpJ
 rw [evOpQB_eq]
 cases evOpJB P nB cf T H nx o <;> rfl
noncomputable def seqT {α β : Type} (t:Tr α) (k:Tr α → β) : β:=Tr.rec (k .nil) (fun l v r _ _=>k (.node l v r)) t
theorem seqT_eq {α β : Type} (t:Tr α) (k:Tr α → β) : seqT t k = k t:=by cases t <;> rfl
noncomputable def stepQ (cont:Nat → Array Oper → Tr LV → Hp → Nat → List Nat → Option St) (o:Oper) (nt:Nat) (ops:Array Oper) (T:Tr LV) (H:Hp) (nx:Nat) (wr:List Nat) (r:Out) : Option St :=
 Out.rec (fun v d nx' _=>seqQ nx' fun nx'=>bsel (Nat.ble nx nx') (seqT (putQ o.dst nt T v) fun T=>List.rec (cont nt ops T H nx' wr) (fun _ _ _=>seqT (appQ d H) fun H=>cont nt ops T H nx' (oldW nx d ++ wr)) d) none) r
noncomputable def selQ (cont:Nat → Array Oper → Tr LV → Hp → Nat → List Nat → Option St) (o:Oper) (P:Program) (nB:Nat) (cf:CFn) (nt:Nat) (ops:Array Oper) (T:Tr LV) (H:Hp) (nx:Nat) (wr:List Nat) (g:Option Bool) : Option St :=
 obind g fun b=>bsel b (obind (evOpQ o.op o P nB cf T H nx) (stepQ cont o nt ops T H nx wr)) (cont nt ops (putQ o.dst nt T (.tup [])) H nx wr)
noncomputable def evSeqQ (P:Program) (nB:Nat) (cf:CFn) (l:List Oper) : Nat → Array Oper → Tr LV → Hp → Nat → List Nat → Option St :=
 List.rec (fun nt ops T H nx wr=>some ⟨nt,T,H,nx,wr⟩) (fun o _ ih nt ops T H nx wr=>selQ ih o P nB cf nt ops T H nx wr (guardQ P ops T o)) l
theorem evSeqQ_eq (P:Program) (nB:Nat) (cf:CFn) (l:List Oper) : ∀ (nt:Nat) (ops:Array Oper) (T:Tr LV) (H:Hp) (nx:Nat) (wr:List Nat),evSeqQ P nB cf l nt ops T H nx wr = evSeqK P nB cf nt ops l T H nx wr:=by
 induction l with
 | nil=>intros; rfl
 | cons o l ih =>
  intro nt ops T H nx wr
  have e1 : evSeqQ P nB cf (o :: l) nt ops T H nx wr = selQ (evSeqQ P nB cf l) o P nB cf nt ops T H nx wr (guardQ P ops T o):=rfl
  rw [e1]
  unfold evSeqK selQ
  rw [guardQ_eq,evOpQ_eq]
  simp only [obind_eq,bsel_eq,ih,putQ_eq]
  cases wantL ops T o with
  | none=>rfl
  | some b=>cases b with
   | false=>rfl
   | true=>cases evOpJ P nB cf T H nx o with
    | none=>rfl
    | some out =>
     cases out with
     | mk v d nx' ft =>
      simp only [stepQ,seqQ_eq,bsel_eq,ih,putQ_eq,appQ_eq,seqK_eq,seqT_eq]
      cases Nat.ble nx nx' with
      | false=>rfl
      | true=>cases d <;> rfl
end Go.Proofs.YtjpfhhndjpdmoaaGreatDoor

namespace Go.Proofs.YtjpfhhndjpdmoaaGreatDoor
set_option linter.unusedVariables false
set_option linter.unusedSimpArgs false
set_option autoImplicit false

def hasD (r:Rc) : Bool:=match r.d with | []=>false | _ :: _=>true
def chg (rs:List Rc) : List Rc:=rs.filter hasD
theorem chg_cons (r:Rc) (rs:List Rc) : chg (r :: rs) = match r.d with | []=>chg rs | _ :: _=>r :: chg rs:=by
 unfold chg hasD
 rw [List.filter_cons]
 cases r.d <;> rfl
theorem overH_chg (H:Hp) (m:Nat) : ∀ rs : List Rc,overH H m (chg rs) = overH H m rs
 | []=>rfl
 | r :: rs=>by
  rw [chg_cons]
  cases h : r.d with
  | nil =>
   dsimp only
   rw [overH_chg H m rs]
   show _ = if m.testBit r.j then (overH H m rs).app r.d else overH H m rs
   rw [h]
   split <;> rfl
  | cons x d =>
   show (if m.testBit r.j then (overH H m (chg rs)).app r.d else overH H m (chg rs)) = if m.testBit r.j then (overH H m rs).app r.d else overH H m rs
   rw [overH_chg H m rs]
theorem allH_chg (H:Hp) : ∀ rs : List Rc,allH H (chg rs) = allH H rs
 | []=>rfl
 | r :: rs=>by
  rw [chg_cons]
  cases h : r.d with
  | nil =>
   dsimp only
   rw [allH_chg H rs]
   show _ = (allH H rs).app r.d
   rw [h]
   all_goals rfl
  | cons x d =>
   show (allH H (chg rs)).app r.d = (allH H rs).app r.d
   rw [allH_chg H rs]
theorem wrOf_chg : ∀ rs : List Rc,wrOf (chg rs) = wrOf rs
 | []=>rfl
 | r :: rs=>by
  rw [chg_cons]
  cases h : r.d with
  | nil =>
   dsimp only
   rw [wrOf_chg rs]
   show _ = oldW r.nx r.d ++ wrOf rs
   rw [h]
   all_goals rfl
  | cons x d =>
   show oldW r.nx r.d ++ wrOf (chg rs) = oldW r.nx r.d ++ wrOf rs
   rw [wrOf_chg rs]
theorem apart_nil (foot:Option (List Nat)) : apartB [] foot = true:=by cases foot <;> rfl
theorem freeB_chg (m:Nat) (foot:Option (List Nat)) : ∀ rs : List Rc,freeB m [] foot (chg rs) = freeB m [] foot rs
 | []=>rfl
 | r :: rs=>by
  rw [chg_cons]
  cases h : r.d with
  | nil =>
   dsimp only
   rw [freeB_chg m foot rs]
   show _ = ((m.testBit r.j || (apartB (oldW r.nx r.d) foot && apartB [] r.foot)) && freeB m [] foot rs)
   rw [h]
   simp only [oldW,apart_nil,Bool.and_self,Bool.or_true,Bool.true_and]
  | cons x d =>
   show ((m.testBit r.j || (apartB (oldW r.nx r.d) foot && apartB [] r.foot)) && freeB m [] foot (chg rs)) = ((m.testBit r.j || (apartB (oldW r.nx r.d) foot && apartB [] r.foot)) && freeB m [] foot rs)
   rw [freeB_chg m foot rs]
noncomputable def freeQ (m:Nat) (W:List Nat) (foot:Option (List Nat)) (rs rc:List Rc) : Bool:=List.rec (freeB m [] foot rc) (fun _ _ _=>freeB m W foot rs) W
theorem freeQ_eq (m:Nat) (W:List Nat) (foot:Option (List Nat)) (rs:List Rc) : freeQ m W foot rs (chg rs) = freeB m W foot rs:=by
 cases W with
 | nil=>exact freeB_chg m foot rs
 | cons x W=>rfl
noncomputable def addQ (r:Rc) (d:Dl) (rc:List Rc) : List Rc:=List.rec rc (fun _ _ _=>r :: rc) d
theorem addQ_eq (j:Nat) (d:Dl) (nx:Nat) (foot:Option (List Nat)) (rs:List Rc) : addQ ⟨j,d,nx,foot⟩ d (chg rs) = chg (⟨j,d,nx,foot⟩ :: rs):=by
 rw [chg_cons]
 cases d <;> rfl
abbrev DC:=List Nat → Nat → Tr LV → Nat → List Rc → List Rc → Option (Tr LV × Nat × List Rc × List Rc)
noncomputable def dstepQ (cont:DC) (o:Oper) (nt:Nat) (Hm:Hp) (m:Nat) (ms:List Nat) (k:Nat) (T:Tr LV) (nx:Nat) (rs rc:List Rc) (r:Out) : Option (Tr LV × Nat × List Rc × List Rc) :=
 Out.rec (fun v d nx' foot=>seqQ nx' fun nx'=>bsel (Nat.ble nx nx') (bsel (freeQ m (oldW nx d) foot rs rc) (bsel (dOk Hm nx nx' foot d) (seqQ (Nat.succ k) fun k'=>seqT (putQ o.dst nt T v) fun T=>List.rec (cont ms k' T nx' (⟨k,d,nx,foot⟩ :: rs) rc) (fun _ _ _=>cont ms k' T nx' (⟨k,d,nx,foot⟩ :: rs) (⟨k,d,nx,foot⟩ :: rc)) d) none) none) none) r
noncomputable def dselQ (cont:DC) (o:Oper) (P:Program) (nB:Nat) (cf:CFn) (nt:Nat) (H:Hp) (m:Nat) (ms:List Nat) (k:Nat) (T:Tr LV) (nx:Nat) (rs rc:List Rc) (g:Option Bool) : Option (Tr LV × Nat × List Rc × List Rc) :=
 obind g fun b=>bsel b (obind (evOpQ o.op o P nB cf T (overH H m rc) nx) (dstepQ cont o nt (overH H m rc) m ms k T nx rs rc)) (seqQ (Nat.succ k) fun k'=>cont ms k' (putQ o.dst nt T (.tup [])) nx (⟨k,[],nx,some []⟩ :: rs) rc)
noncomputable def evDrawQ (P:Program) (nB:Nat) (cf:CFn) (nt:Nat) (ops:Array Oper) (H:Hp) (l:List Oper) : DC :=
 List.rec (fun _ _ T nx rs rc=>some (T,nx,rs,rc)) (fun o _ ih ms k T nx rs rc=>List.rec none (fun m ms _=>dselQ ih o P nB cf nt H m ms k T nx rs rc (guardQ P ops T o)) ms) l
def projD : Option (Tr LV × Nat × List Rc × List Rc) → Option (Tr LV × Nat × List Rc)
 | some (T,nx,rs,_)=>some (T,nx,rs)
 | none=>none
def okD : Option (Tr LV × Nat × List Rc × List Rc) → Prop
 | some (_,_,rs,rc)=>rc = chg rs
 | none=>True
theorem evDrawQ_eq (P:Program) (nB:Nat) (cf:CFn) (nt:Nat) (ops:Array Oper) (H:Hp) (l:List Oper) : ∀ (ms:List Nat) (k:Nat) (T:Tr LV) (nx:Nat) (rs:List Rc),
  projD (evDrawQ P nB cf nt ops H l ms k T nx rs (chg rs)) = evDrawK P nB cf nt ops H l ms k T nx rs ∧ okD (evDrawQ P nB cf nt ops H l ms k T nx rs (chg rs)):=by
 induction l with
 | nil=>intro ms k T nx rs; exact ⟨by cases ms <;> rfl,rfl⟩
 | cons o l ih =>
  intro ms k T nx rs
  cases ms with
  | nil=>exact ⟨rfl,trivial⟩
  | cons m ms =>
   have e1 : evDrawQ P nB cf nt ops H (o :: l) (m :: ms) k T nx rs (chg rs) = dselQ (evDrawQ P nB cf nt ops H l) o P nB cf nt H m ms k T nx rs (chg rs) (guardQ P ops T o):=rfl
   rw [e1]
   unfold evDrawK dselQ
   rw [guardQ_eq,evOpQ_eq,overH_chg]
   simp only [obind_eq,bsel_eq,seqQ_eq,seqK_eq]
   cases wantL ops T o with
   | none=>exact ⟨rfl,trivial⟩
   | some b=>cases b with
    | false =>
     have:=ih ms (Nat.succ k) (putK nt T o.dst (.tup [])) nx (⟨k,[],nx,some []⟩ :: rs)
     dsimp only
     rw [putQ_eq]
     exact this
    | true =>
     dsimp only
     cases evOpJ P nB cf T (overH H m rs) nx o with
     | none=>exact ⟨rfl,trivial⟩
     | some out =>
      cases out with
      | mk v d nx' ft =>
       simp only [dstepQ,seqQ_eq,bsel_eq,putQ_eq,freeQ_eq,seqT_eq]
       cases Nat.ble nx nx' with
       | false=>exact ⟨rfl,trivial⟩
       | true =>
        dsimp only
        cases freeB m (oldW nx d) ft rs with
        | false=>exact ⟨rfl,trivial⟩
        | true =>
         dsimp only
         cases dOk (overH H m rs) nx nx' ft d with
         | false=>exact ⟨rfl,trivial⟩
         | true =>
          have h9:=ih ms (Nat.succ k) (putK nt T o.dst v) nx' (⟨k,d,nx,ft⟩ :: rs)
          rw [← addQ_eq] at h9
          cases d <;> exact h9
noncomputable def wapQ (rc:List Rc) (wr:List Nat) : List Nat:=List.rec wr (fun _ _ _=>wrOf rc ++ wr) rc
noncomputable def evRegQ (P:Program) (nB:Nat) (cf:CFn) (ops:Array Oper) (draw:Bool) (s:St) : Option St :=
 St.rec (fun nt T H nx wr=>bsel draw
  (bsel (regB ops) (obind (evDrawQ P nB cf nt ops H ops.toList (pastsL ops.toList []) 0 T nx [] []) fun r=>Prod.rec (fun T r=>Prod.rec (fun nx r=>Prod.rec (fun _ rc=>List.rec (some ⟨nt,T,H,nx,wr⟩) (fun _ _ _=>seqT (allH H rc) fun H=>some ⟨nt,T,H,nx,wrOf rc ++ wr⟩) rc) r) r) r) none)
  (evSeqQ P nB cf ops.toList nt ops T H nx wr)) s
theorem evRegQ_eq (P:Program) (nB:Nat) (cf:CFn) (ops:Array Oper) (draw:Bool) (s:St) : evRegQ P nB cf ops draw s = evRegK P nB cf ops draw s:=by
 cases s with
 | mk nt T H nx wr =>
  cases draw with
  | false=>exact evSeqQ_eq P nB cf _ nt ops T H nx wr
  | true =>
   unfold evRegQ evRegK
   dsimp only
   rw [bsel_eq,bsel_eq]
   cases regB ops with
   | false=>rfl
   | true =>
    dsimp only
    obtain ⟨h1,h2⟩:=evDrawQ_eq P nB cf nt ops H ops.toList (pastsL ops.toList []) 0 T nx []
    rw [show chg [] = [] from rfl] at h1 h2
    rw [← h1,obind_eq]
    cases hq : evDrawQ P nB cf nt ops H ops.toList (pastsL ops.toList []) 0 T nx [] [] with
    | none=>rfl
    | some r =>
     obtain ⟨T',nx',rs,rc⟩:=r
     rw [hq] at h2
     have h3 : rc = chg rs:=h2
     subst h3
     have h4 : (List.rec (some ⟨nt,T',H,nx',wr⟩) (fun _ _ _=>seqT (allH H (chg rs)) fun H=>some ⟨nt,T',H,nx',wrOf (chg rs) ++ wr⟩) (chg rs) : Option St) = some ⟨nt,T',allH H rs,nx',wrOf rs ++ wr⟩:=by
      rw [← allH_chg H rs,← wrOf_chg rs]
      cases chg rs with
      | nil=>rfl
      | cons x l=>exact seqT_eq _ _
     exact h4
abbrev Cont:=Code → St → Option (Ex × St)
noncomputable def thenQ (e:Ex) : Cont → Code → St → Option (Ex × St):=match e with
 | .normal=>fun ih b s=>ih b s
 | e=>fun _ _ s=>some (e,s)
noncomputable def blkQ (e:Ex) : Nat → St → Option (Ex × St):=match e with
 | .exit i=>fun id s=>bsel (Nat.beq i id) (some (.normal,s)) (some (.exit i,s))
 | e=>fun _ s=>some (e,s)
def condQ (p:LV) : Option Bool:=match p with
 | .v (.bool b)=>some b
 | _=>none
noncomputable def codeQ (c:Code) : Cont → Program → Nat → CFn → St → Option (Ex × St):=match c with
 | .skip=>fun _ _ _ _ s=>some (.normal,s)
 | .region _ ops draw=>fun _ P nB cf s=>obind (evRegQ P nB cf ops draw s) fun s=>some (.normal,s)
 | .seq a b=>fun ih _ _ _ s=>obind (ih a s) fun r=>Prod.rec (fun e s=>thenQ e ih b s) r
 | .cond c a b=>fun ih P _ _ s=>obind (opdQ c P s.T) fun x=>obind (condQ x) fun t=>bsel t (ih a s) (ih b s)
 | .block id b=>fun ih _ _ _ s=>obind (ih b s) fun r=>Prod.rec (fun e s=>blkQ e id s) r
 | .loop b=>fun ih _ _ _ s=>obind (ih b s) fun r=>Prod.rec (fun e s=>thenQ e ih (.loop b) s) r
 | .exit id=>fun _ _ _ _ s=>some (.exit id,s)
 | .ret=>fun _ _ _ _ s=>some (.ret,s)
 | _=>fun _ _ _ _ _=>none
noncomputable def evCQ (P:Program) (nB:Nat) (cf:CFn) (n:Nat) : Cont:=Nat.rec (fun _ _=>none) (fun _ ih c s=>codeQ c ih P nB cf s) n
theorem evCQ_eq (P:Program) (nB:Nat) (cf:CFn) : ∀ (n:Nat) (c:Code) (s:St),evCQ P nB cf n c s = evCK P nB cf n c s:=by
 intro n
 induction n with
 | zero=>intros; rfl
 | succ n ih =>
  intro c s
  have e1 : evCQ P nB cf (n + 1) c s = codeQ c (evCQ P nB cf n) P nB cf s:=rfl
  rw [e1]
  cases c with
  | skip=>rfl
  | region id ops draw =>
   simp only [codeQ,evCK,obind_eq,evRegQ_eq]
   cases evRegK P nB cf ops draw s <;> rfl
  | seq a b =>
   simp only [codeQ,evCK,obind_eq,ih]
   cases evCK P nB cf n a s with
   | none=>rfl
   | some r =>
    obtain ⟨e,s'⟩:=r
    cases e <;> simp only [thenQ,ih]
  | cond c a b =>
   simp only [codeQ,evCK,obind_eq,opdQ_eq,ih]
   cases opd P s.T c with
   | none=>rfl
   | some x=>cases x with
    | v y=>cases y with
     | bool t=>cases t <;> rfl
     | _=>rfl
    | _=>rfl
  | block id b =>
   simp only [codeQ,evCK,obind_eq,ih]
   cases evCK P nB cf n b s with
   | none=>rfl
   | some r =>
    obtain ⟨e,s'⟩:=r
    cases e with
    | exit i=>first | (simp only [blkQ,bsel_eq]; done) | (simp only [blkQ,bsel_eq]; cases Nat.beq i id <;> rfl)
    | _=>rfl
  | loop b =>
   simp only [codeQ,evCK,obind_eq,ih]
   cases evCK P nB cf n b s with
   | none=>rfl
   | some r =>
    obtain ⟨e,s'⟩:=r
    cases e <;> simp only [thenQ,ih]
  | _=>rfl
noncomputable def argsQ (l:List LV) : Nat → Tr LV → Tr LV:=List.rec (fun _ T=>T) (fun x _ ih i T=>ih (Nat.succ i) (setQ (Nat.succ i) T i (some x))) l
theorem argsQ_eq (l:List LV) : ∀ (i:Nat) (T:Tr LV),argsQ l i T = argsT i l T:=by
 induction l with
 | nil=>intros; rfl
 | cons x l ih =>
  intro i T
  have e1 : argsQ (x :: l) i T = argsQ l (Nat.succ i) (setQ (Nat.succ i) T i (some x)):=rfl
  rw [e1,ih,setQ_eq]
  all_goals rfl
def bodyK (P:Program) (f:FuncId) : Option (Code × Nat × List ResultVar):=match P.funcs[f]? with
 | some fn=>match fn.body with
  | some c=>some (c,fn.ntmps,fn.results.toList)
  | none=>none
 | none=>none
noncomputable def finQ (P:Program) (nx:Nat) (rs:List ResultVar) (s:St) : Option Out :=
 St.rec (fun _ T H' nx' wr=>obind (resL P T H' rs) fun l=>(fun v od=>some ⟨v,od ++ reach nx H' (nx' + 100000) (v.ids ++ idsD od) .nil [],nx',none⟩) (oneL l) (olds nx H' wr .nil)) s
def exQ (e:Ex) : Bool:=match e with | .exit _=>false | _=>true
noncomputable def runQ (P:Program) (nB lf:Nat) (cf:CFn) (args:List LV) (H:Hp) (nx:Nat) (b:Code × Nat × List ResultVar) : Option Out :=
 Prod.rec (fun c q=>Prod.rec (fun nt rs=>seqQ (Nat.add args.length (Nat.sub nt args.length)) fun nt=>obind (evCQ P nB cf lf c ⟨nt,argsQ args 0 .nil,H,nx,[]⟩) fun r=>Prod.rec (fun e s=>bsel (exQ e) (finQ P nx rs s) none) r) q) b
noncomputable def evFQ (P:Program) (nB lf:Nat) (orc:Orc) (n:Nat) : CFn :=
 Nat.rec (fun _ _ _ _=>none) (fun _ ih f args H nx=>Option.rec (obind (bodyK P f) (runQ P nB lf ih args H nx)) (fun g=>g args H nx) (orc f)) n
theorem evFQ_eq (P:Program) (nB lf:Nat) (orc:Orc) (n:Nat) : evFQ P nB lf orc n = evFK P nB lf orc n:=by
 induction n with
 | zero=>rfl
 | succ n ih =>
  funext f args H nx
  have e1 : evFQ P nB lf orc (n + 1) f args H nx = Option.rec (obind (bodyK P f) (runQ P nB lf (evFQ P nB lf orc n) args H nx)) (fun g=>g args H nx) (orc f):=rfl
  rw [e1,ih]
  unfold evFK
  cases orc f with
  | some g=>rfl
  | none =>
   dsimp only
   unfold bodyK
   cases P.funcs[f]? with
   | none=>rfl
   | some fn =>
    dsimp only
    cases fn.body with
    | none=>rfl
    | some c =>
     rw [obind_eq]
     dsimp only
     unfold runQ
     dsimp only
     simp only [seqQ_eq,obind_eq,evCQ_eq,argsQ_eq,seqK_eq]
     rw [show args.length.add (fn.ntmps.sub args.length) = args.length + (fn.ntmps - args.length) from rfl]
     cases evCK P nB (evFK P nB lf orc n) lf c ⟨args.length + (fn.ntmps - args.length),argsT 0 args .nil,H,nx,[]⟩ with
     | none=>rfl
     | some r =>
      obtain ⟨e,s⟩:=r
      cases s with
      | mk a T H' nx' wr =>
       have h1 : finQ P nx fn.results.toList ⟨a,T,H',nx',wr⟩ = (match resL P T H' fn.results.toList with
        | some rs=>some ⟨oneL rs,olds nx H' wr .nil ++ reach nx H' (nx' + 100000) ((oneL rs).ids ++ idsD (olds nx H' wr .nil)) .nil [],nx',none⟩
        | none=>none):=by
        unfold finQ
        dsimp only
        rw [obind_eq]
        cases resL P T H' fn.results.toList <;> rfl
       cases e with
       | exit i=>rfl
       | normal=>exact h1
       | ret=>exact h1
theorem evFQ_evF (P:Program) (nB lf:Nat) (orc:Orc) (n:Nat) : evFQ P nB lf orc n = evF P nB lf orc n:=(evFQ_eq P nB lf orc n).trans (evFK_eq P nB lf orc n)
end Go.Proofs.YtjpfhhndjpdmoaaGreatDoor

namespace Go.Proofs.YtjpfhhndjpdmoaaGreatDoor
open Go.RowKit
set_option linter.unusedVariables false
set_option linter.unusedSimpArgs false
set_option autoImplicit false

def q8 (l:List Nat) : List LV:=l.map fun q=>LV.v (.int .u8 (.ofNat q))
def eqN : List UInt8 → List UInt8 → Bool
 | [],[]=>true
 | a :: l,b :: m=>Nat.beq a.toNat b.toNat && eqN l m
 | _,_=>false
theorem nbeq {a b:Nat} (h:Nat.beq a b = true) : a = b:=Nat.eq_of_beq_eq_true h
theorem eqN_ok : ∀ {l m:List UInt8},eqN l m = true → l = m
 | [],[],_=>rfl
 | a :: l,b :: m,h=>by
  simp only [eqN,Bool.and_eq_true] at h
  rw [UInt8.toNat_inj.1 (nbeq h.1),eqN_ok h.2]
 | [],_ :: _,h=>by cases h
 | _ :: _,[],h=>by cases h
def eqI : Int → Int → Bool
 | .ofNat a,.ofNat b=>Nat.beq a b
 | .negSucc a,.negSucc b=>Nat.beq a b
 | _,_=>false
theorem eqI_ok {a b:Int} (h:eqI a b = true) : a = b:=by
 cases a <;> cases b <;> first | (rw [nbeq (show Nat.beq _ _ = true from h)]) | cases h
def eqV : Value → Value → Bool
 | .bool a,.bool b=>a == b
 | .int k m,.int k' n=>Nat.beq (kindN k) (kindN k') && eqI m n
 | .string a,.string b=>eqN a.data.toList b.data.toList
 | .pointer none,.pointer none=>true
 | .slice none 0 0,.slice none 0 0=>true
 | .nilFunc,.nilFunc=>true
 | .nilIface,.nilIface=>true
 | _,_=>false
theorem eqV_ok {x y:Value} (h:eqV x y = true) : x = y:=by
 unfold eqV at h
 split at h
 ·rw [eq_of_beq h]
 ·simp only [Bool.and_eq_true] at h
  rw [kindN_inj h.1,eqI_ok h.2]
 ·rename_i a b
  obtain ⟨⟨a⟩⟩:=a
  obtain ⟨⟨b⟩⟩:=b
  rw [show a = b from eqN_ok h]
 all_goals first | rfl | cases h
mutual
def eqLV : LV → LV → Bool
 | .v x,.v y=>eqV x y
 | .ptr b o,.ptr c p=>Nat.beq b c && Nat.beq o p
 | .slice b o n c,.slice b' o' n' c'=>(Nat.beq b b' && Nat.beq o o') && (Nat.beq n n' && Nat.beq c c')
 | .buf b o n c,.buf b' o' n' c'=>(Nat.beq b b' && Nat.beq o o') && (Nat.beq n n' && Nat.beq c c')
 | .emp,.emp=>true
 | .sym b k lo hi ne,.sym b' k' lo' hi' ne'=>(Nat.beq b b' && Nat.beq (kindN k) (kindN k')) && (Nat.beq lo lo' && (Nat.beq hi hi' && (ne == ne')))
 | .str l,.str m=>eqLs l m
 | .outS b,.outS c=>Nat.beq b c
 | .outP b,.outP c=>Nat.beq b c
 | .agg l,.agg m=>eqLs l m
 | .tup l,.tup m=>eqLs l m
 | .ifc t x,.ifc u y=>Nat.beq t u && eqLV x y
 | _,_=>false
def eqLs : List LV → List LV → Bool
 | [],[]=>true
 | x :: l,y :: m=>eqLV x y && eqLs l m
 | _,_=>false
end
mutual
theorem eqLV_ok : ∀ {x y:LV},eqLV x y = true → x = y
 | .v x,y,h=>by
  cases y <;> simp only [eqLV] at h <;> first | cases h | rw [eqV_ok h]
 | .ptr b o,y,h=>by
  cases y <;> simp only [eqLV,Bool.and_eq_true] at h <;> first | cases h; done | rw [nbeq h.1,nbeq h.2]
 | .slice b o n c,y,h=>by
  cases y <;> simp only [eqLV,Bool.and_eq_true] at h <;> first | cases h; done | rw [nbeq h.1.1,nbeq h.1.2,nbeq h.2.1,nbeq h.2.2]
 | .buf b o n c,y,h=>by
  cases y <;> simp only [eqLV,Bool.and_eq_true] at h <;> first | cases h; done | rw [nbeq h.1.1,nbeq h.1.2,nbeq h.2.1,nbeq h.2.2]
 | .emp,y,h=>by
  cases y <;> simp only [eqLV] at h <;> first | rfl | cases h
 | .sym b k lo hi ne,y,h=>by
  cases y <;> simp only [eqLV,Bool.and_eq_true] at h <;> first | cases h; done | rw [nbeq h.1.1,kindN_inj h.1.2,nbeq h.2.1,nbeq h.2.2.1,eq_of_beq h.2.2.2]
 | .str l,y,h=>by
  cases y <;> simp only [eqLV] at h <;> first | (rw [eqLs_ok h]) | cases h
 | .agg l,y,h=>by
  cases y <;> simp only [eqLV] at h <;> first | (rw [eqLs_ok h]) | cases h
 | .tup l,y,h=>by
  cases y <;> simp only [eqLV] at h <;> first | (rw [eqLs_ok h]) | cases h
 | .fn f l,y,h=>by
  cases y <;> simp only [eqLV] at h <;> cases h
 | .ifc t x,y,h=>by
  cases y <;> simp only [eqLV,Bool.and_eq_true] at h <;> first | (cases h; done) | rw [nbeq h.1,eqLV_ok h.2]
 | .outS b,y,h=>by
  cases y <;> simp only [eqLV] at h <;> first | (cases h; done) | rw [nbeq h]
 | .outP b,y,h=>by
  cases y <;> simp only [eqLV] at h <;> first | (cases h; done) | rw [nbeq h]
theorem eqLs_ok : ∀ {l m:List LV},eqLs l m = true → l = m
 | [],m,h=>by cases m <;> first | rfl | cases h
 | x :: l,m,h=>by
  cases m with
  | nil=>cases h
  | cons y m =>
   simp only [eqLs,Bool.and_eq_true] at h
   rw [eqLV_ok h.1,eqLs_ok h.2]
end
def eqB (k k':Blk) : Bool:=(Nat.beq k.elem k'.elem && (k.exact == k'.exact)) && ((k.mrk == k'.mrk) && eqLs k.cells k'.cells)
theorem eqB_ok {k k':Blk} (h:eqB k k' = true) : k = k':=by
 cases k; cases k'
 simp only [eqB,Bool.and_eq_true] at h
 rw [show _ = _ from nbeq h.1.1,show _ = _ from eq_of_beq h.1.2,show _ = _ from eq_of_beq h.2.1,show _ = _ from eqLs_ok h.2.2]
def eqD : Dl → Dl → Bool
 | [],[]=>true
 | (i,some k) :: l,(j,some k') :: m=>(Nat.beq i j && eqB k k') && eqD l m
 | (i,none) :: l,(j,none) :: m=>Nat.beq i j && eqD l m
 | _,_=>false
theorem eqD_ok : ∀ {l m:Dl},eqD l m = true → l = m
 | [],[],_=>rfl
 | (i,some k) :: l,(j,some k') :: m,h=>by
  simp only [eqD,Bool.and_eq_true] at h
  rw [nbeq h.1.1,eqB_ok h.1.2,eqD_ok h.2]
 | (i,none) :: l,(j,none) :: m,h=>by
  simp only [eqD,Bool.and_eq_true] at h
  rw [nbeq h.1,eqD_ok h.2]
 | [],_ :: _,h=>by cases h
 | (_,some _) :: _,[],h=>by cases h
 | (_,none) :: _,[],h=>by cases h
 | (_,some _) :: _,(_,none) :: _,h=>by cases h
 | (_,none) :: _,(_,some _) :: _,h=>by cases h
structure Stg where
 f : FuncId
 a : List LV
 D : List (Nat × Blk)
 nx : Nat
 v : LV
 d : Dl
 nx' : Nat
def hpOf (D:List (Nat × Blk)) : Hp:=Hp.app .nil (D.map fun p=>(p.1,some p.2))
def subB (H:Hp) : List (Nat × Blk) → Bool
 | []=>true
 | (i,k) :: D=>(match H.get i with | some k'=>eqB k k' | none=>false) && subB H D
def stO (s:Stg) (args:List LV) (H:Hp) (nx:Nat) : Option Out:=match (eqLs s.a args && Nat.beq s.nx nx) && subB H s.D with
 | true=>some ⟨s.v,s.d,s.nx',none⟩
 | false=>none
def stB (s:Stg) : Option Out → Bool
 | some ⟨v,d,nx,none⟩=>(eqLV v s.v && eqD d s.d) && (Nat.beq nx s.nx' && Nat.ble s.nx s.nx')
 | _=>false
theorem stB_ok {s:Stg} {r:Option Out} (h:stB s r = true) : r = some ⟨s.v,s.d,s.nx',none⟩ ∧ s.nx ≤ s.nx':=by
 unfold stB at h
 split at h
 ·simp only [Bool.and_eq_true] at h
  rw [eqLV_ok h.1.1,eqD_ok h.1.2,nbeq h.2.1]
  exact ⟨rfl,Nat.le_of_ble_eq_true h.2.2⟩
 ·cases h
theorem subB_ok {H:Hp} : ∀ {D:List (Nat × Blk)},subB H D = true → ∀ i k,(i,k) ∈ D → H.get i = some k
 | [],_,i,k,hm=>by cases hm
 | (j,k') :: D,h,i,k,hm=>by
  simp only [subB,Bool.and_eq_true] at h
  rcases List.mem_cons.1 hm with e | hm
  ·obtain ⟨e1,e2⟩:=Prod.mk.inj e
   rw [e1,e2]
   have h1:=h.1
   cases hj : H.get j with
   | none=>rw [hj] at h1; cases h1
   | some k''=>rw [hj] at h1; rw [eqB_ok h1]
  ·exact subB_ok h.2 i k hm
theorem hpOf_get {D:List (Nat × Blk)} {i:Nat} {k:Blk} (h:(hpOf D).get i = some k) : (i,k) ∈ D:=by
 unfold hpOf at h
 rw [get_app] at h
 have key : ∀ (D:List (Nat × Blk)) (x:Option Blk),dget (D.map fun p=>(p.1,some p.2)) i = some x → x = some k → (i,k) ∈ D:=by
  intro D
  induction D with
  | nil=>intro x h; cases h
  | cons p D ih =>
   intro x h hx
   obtain ⟨j,b⟩:=p
   subst hx
   simp only [List.map_cons,dget] at h
   split at h
   ·rename_i y hy
    cases h
    exact List.mem_cons_of_mem _ (ih _ hy rfl)
   ·split at h
    ·rename_i hj
     cases h
     subst hj
     exact List.mem_cons_self ..
    ·cases h
 split at h
 ·rename_i x hx
  exact key D x hx h
 ·cases h
section
variable {P:Program} {nB B:Nat} {w0:World}
def FnOk (P:Program) (nB B:Nat) (w0:World) (f:FuncId) (g:List LV → Hp → Nat → Option Out) : Prop :=
 ∀ args H nx out,g args H nx = some out → nx ≤ out.nx → FnHas P f ∧ out.foot = none ∧ ∀ (ν : Env) (vs:List Value) (w:World),(∀ i,nx ≤ i → i < out.nx → ν i = none) → VRs ν args vs → HRF ν H none w → LowF nB B ν H none → InjH ν H → (∀ i k,H.get i = some k → i < nx) → GlobE P ν → Below B w0 w →
  Calls P f vs.toArray w (fun e w'=>∃ v' ν',e = .returned v' ∧ OpPost nB B w0 ν ν' H nx out w w' v')
theorem stO_ok {callf:FuncId → List LV → Hp → Nat → Option Out} (hc:CallOk P nB B w0 callf) (s:Stg) (hob:Nat.ble OB s.f = false) (hr:stB s (callf s.f s.a (hpOf s.D) s.nx) = true) : FnOk P nB B w0 s.f (stO s):=by
 intro args H nx out h hnx
 obtain ⟨h1,h2⟩:=stB_ok hr
 unfold stO at h
 split at h
 ·rename_i hb
  cases h
  simp only [Bool.and_eq_true] at hb
  have ha:=eqLs_ok hb.1.1
  have hn:=nbeq hb.1.2
  subst hn
  have hsub : ∀ i k,(hpOf s.D).get i = some k → H.get i = some k:=fun i k hg=>subB_ok hb.2 i k (hpOf_get hg)
  obtain ⟨g1,g2,g3⟩:=hc _ _ _ _ _ hob h1 h2
  refine ⟨g1,rfl,fun ν vs w hν hvs hH hlow hinj hid hg hbl=>?_⟩
  rw [← ha] at hvs
  refine (g3 ν vs w hν hvs (fun i k hf hk=>hH i k hf (hsub i k hk)) (fun i k l hf hi hk hl=>hlow i k l hf hi (hsub i k hk) hl) (fun i j ki kj li lj h3 h4 h5 h6 h7=>hinj i j ki kj li lj (hsub _ _ h3) (hsub _ _ h4) h5 h6 h7) (fun i k hk=>hid i k (hsub i k hk)) hg hbl).mono ?_
  rintro e w' ⟨v',ν',rfl,hp⟩
  refine ⟨v',ν',rfl,hp.ext,hp.val,hp.blk,hp.frame,hp.fresh,hp.inj,fun i hi hd=>?_,hp.new,hp.below,hp.size⟩
  obtain ⟨q1,q2⟩:=hp.old i hi hd
  refine ⟨q1,?_⟩
  obtain ⟨k,hk⟩:=Option.isSome_iff_exists.1 q2
  rw [hsub i k hk]
  all_goals rfl
 ·cases h
def anyO : List Stg → FuncId → List LV → Hp → Nat → Option Out
 | [],_,_,_,_=>none
 | s :: l,f,args,H,nx=>match Nat.beq f s.f with
  | true=>match stO s args H nx with
   | some o=>some o
   | none=>anyO l f args H nx
  | false=>anyO l f args H nx
theorem anyO_ok {l:List Stg} (h:∀ s ∈ l,FnOk P nB B w0 s.f (stO s)) (f:FuncId) : FnOk P nB B w0 f (anyO l f):=by
 induction l with
 | nil=>intro args H nx out h; cases h
 | cons s l ih =>
  intro args H nx out h1
  unfold anyO at h1
  have ih':=ih (fun t ht=>h t (List.mem_cons_of_mem _ ht))
  split at h1
  ·rename_i hf
   have hf:=nbeq hf
   subst hf
   split at h1
   ·rename_i o ho
    cases h1
    exact h s (List.mem_cons_self ..) args H nx out ho
   ·exact ih' args H nx out h1
  ·exact ih' args H nx out h1
def stageO (fs:List FuncId) (l:List Stg) (orc:Orc) : Orc:=fun f=>match fs.any (Nat.beq f) with
 | true=>some (anyO l f)
 | false=>orc f
theorem stageO_ok {fs:List FuncId} {l:List Stg} {orc:Orc} (h:∀ s ∈ l,FnOk P nB B w0 s.f (stO s)) (ho:OrcOk P nB B w0 orc) : OrcOk P nB B w0 (stageO fs l orc):=by
 intro f args H nx out hob h1
 have h2 : (match stageO fs l orc f with | some g=>g args H nx | none=>none) = some out:=h1
 unfold stageO at h2
 cases hf : fs.any (Nat.beq f) with
 | true =>
  rw [hf] at h2
  exact anyO_ok h f args H nx out h2
 | false =>
  rw [hf] at h2
  exact ho f args H nx out hob h2
theorem noH_stage {fs:List FuncId} {l:List Stg} {orc:Orc} (h:(fs.all fun g=>!Nat.ble OB g) = true) (ho:NoH orc) : NoH (stageO fs l orc):=by
 intro f hf
 unfold stageO
 have hn : fs.any (Nat.beq f) = false:=by
  rw [List.any_eq_false]
  intro g hg hb
  have h1:=List.all_eq_true.1 h g hg
  rw [← nbeq hb,hf] at h1
  simp at h1
 rw [hn]
 exact ho f hf
end
end Go.Proofs.YtjpfhhndjpdmoaaGreatDoor

namespace Go.Proofs.YtjpfhhndjpdmoaaGreatDoor
open Go.RowKit
def sg0 : Stg:=⟨84,[(.agg (q8 [3,0,0,0,0,0,0,0,0,0,0,0,0,0,0,0,0,0,0,0,0,0,0,0,0,0,0,0,0,0,0,1])),(.agg (q8 [107,23,209,242,225,44,66,71,248,188,230,229,99,164,64,242,119,3,125,129,45,235,51,160,244,161,57,69,216,152,194,150,79,227,66,226,254,26,127,155,142,231,235,74,124,15,158,22,43,206,51,87,107,49,94,206,203,182,64,104,55,191,81,245]))],[],21,(.agg (q8 [153,95,123,98,33,154,66,70,244,115,118,65,26,205,177,105,5,93,141,222,239,84,122,208,225,12,44,85,188,77,193,111,188,193,162,112,89,74,172,83,188,101,97,201,95,58,170,119,18,71,62,143,159,77,83,173,225,7,124,85,137,115,128,207])),[],21⟩
theorem sg0_run : stB sg0 (orcC sg0.f sg0.a (hpOf sg0.D) sg0.nx) = true:=by kernel_rfl
end Go.Proofs.YtjpfhhndjpdmoaaGreatDoor
