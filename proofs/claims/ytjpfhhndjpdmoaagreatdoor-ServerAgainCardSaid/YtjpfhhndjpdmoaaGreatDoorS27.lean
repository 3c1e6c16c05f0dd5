/- Part of the proof: EvK,EvL,EvM,EvN,EvNa. No conditions of its own. -/
import Derived.Test.YtjpfhhndjpdmoaaGreatDoorS26
namespace Go.Proofs.YtjpfhhndjpdmoaaGreatDoor
set_option linter.unusedVariables false
set_option linter.unusedSimpArgs false

def seqK {α : Type} (n:Nat) (f:Nat → α) : α:=match n with | 0=>f 0 | k + 1=>f (Nat.succ k)
theorem seqK_eq {α : Type} (n:Nat) (f:Nat → α) : seqK n f = f n:=by cases n <;> rfl
def putK (nt:Nat) (T:Tr LV) (dst:Option Tmp) (v:LV) : Tr LV:=match dst with
 | some d=>match Nat.ble (Nat.succ d) nt with | true=>T.set d (some v) | false=>T
 | none=>T
theorem putK_eq (nt:Nat) (T:Tr LV) (dst:Option Tmp) (v:LV) : putK nt T dst v = putT nt T dst v:=by
 unfold putK putT
 cases dst with
 | none=>rfl
 | some d =>
  by_cases h : d < nt
  ·have : Nat.ble (Nat.succ d) nt = true:=Nat.ble_eq_true_of_le h
   simp only [this,h,if_true]
  ·have : Nat.ble (Nat.succ d) nt = false:=by
    cases hb : Nat.ble (Nat.succ d) nt with
    | false=>rfl
    | true=>exact absurd (Nat.le_of_ble_eq_true hb) h
   simp only [this,h,if_false]
theorem ble_if {α : Type} (a b:Nat) (x:Option α) : (match Nat.ble a b with | true=>x | false=>none) = if a ≤ b then x else none:=by
 by_cases h : a ≤ b
 ·rw [Nat.ble_eq_true_of_le h,if_pos h]
 ·have : Nat.ble a b = false:=by
   cases hb : Nat.ble a b with
   | false=>rfl
   | true=>exact absurd (Nat.le_of_ble_eq_true hb) h
  rw [this,if_neg h]
section
variable (P:Program) (nB:Nat) (callf:FuncId → List LV → Hp → Nat → Option Out)
def evSeqK (nt:Nat) (ops:Array Oper) : List Oper → Tr LV → Hp → Nat → List Nat → Option St
 | [],T,H,nx,wr=>some ⟨nt,T,H,nx,wr⟩
 | o :: l,T,H,nx,wr=>match wantL ops T o with
  | some true=>match evOpJ P nB callf T H nx o with
   | some ⟨v,d,nx',_⟩=>seqK nx' fun nx'=>match Nat.ble nx nx' with
    | true=>evSeqK nt ops l (putK nt T o.dst v) (H.app d) nx' (oldW nx d ++ wr)
    | false=>none
   | none=>none
  | some false=>evSeqK nt ops l (putK nt T o.dst (.tup [])) H nx wr
  | none=>none
theorem evSeqK_eq (nt:Nat) (ops:Array Oper) (l:List Oper) : ∀ (T:Tr LV) (H:Hp) (nx:Nat) (wr:List Nat),evSeqK P nB callf nt ops l T H nx wr = evSeq P nB callf ops l ⟨nt,T,H,nx,wr⟩:=by
 induction l with
 | nil=>intros; rfl
 | cons o l ih =>
  intro T H nx wr
  unfold evSeqK evSeq
  simp only [seqK_eq,putK_eq,ih,ble_if,evOpJ_eq]
  cases wantL ops T o with
  | none=>rfl
  | some b=>cases b with
   | false=>rfl
   | true=>cases evOp P nB callf T H nx o with
    | none=>rfl
    | some out=>rfl
def evDrawK (nt:Nat) (ops:Array Oper) (H:Hp) : List Oper → List Nat → Nat → Tr LV → Nat → List Rc → Option (Tr LV × Nat × List Rc)
 | [],_,_,T,nx,rs=>some (T,nx,rs)
 | o :: l,m :: ms,k,T,nx,rs=>match wantL ops T o with
  | some true=>match evOpJ P nB callf T (overH H m rs) nx o with
   | some ⟨v,d,nx',foot⟩=>seqK nx' fun nx'=>match Nat.ble nx nx' with
    | true=>match freeB m (oldW nx d) foot rs with
     | true=>match dOk (overH H m rs) nx nx' foot d with
      | true=>seqK (Nat.succ k) fun k'=>evDrawK nt ops H l ms k' (putK nt T o.dst v) nx' (⟨k,d,nx,foot⟩ :: rs)
      | false=>none
     | false=>none
    | false=>none
   | none=>none
  | some false=>seqK (Nat.succ k) fun k'=>evDrawK nt ops H l ms k' (putK nt T o.dst (.tup [])) nx (⟨k,[],nx,some []⟩ :: rs)
  | none=>none
 | _ :: _,[],_,_,_,_=>none
theorem evDrawK_eq (nt:Nat) (ops:Array Oper) (H:Hp) (l:List Oper) : ∀ (ms:List Nat) (k:Nat) (T:Tr LV) (nx:Nat) (rs:List Rc),evDrawK P nB callf nt ops H l ms k T nx rs = evDraw P nB callf nt ops H l ms k T nx rs:=by
 induction l with
 | nil=>intro ms; cases ms <;> (intros; rfl)
 | cons o l ih =>
  intro ms k T nx rs
  cases ms with
  | nil=>rfl
  | cons m ms =>
   unfold evDrawK evDraw
   simp only [seqK_eq,putK_eq,ih,ble_if,evOpJ_eq]
   cases wantL ops T o with
   | none=>rfl
   | some b=>cases b with
    | false=>rfl
    | true=>cases evOp P nB callf T (overH H m rs) nx o with
     | none=>rfl
     | some out =>
      dsimp only
      by_cases h1 : nx ≤ out.nx
      ·rw [if_pos h1]
       cases h2 : freeB m (oldW nx out.d) out.foot rs with
       | false=>rw [if_neg (by simp)]
       | true =>
        cases h3 : dOk (overH H m rs) nx out.nx out.foot out.d with
        | false=>rw [if_neg (by simp)]
        | true=>rw [if_pos ⟨h1,rfl,rfl⟩]
      ·rw [if_neg h1,if_neg (fun h=>h1 h.1)]
def evRegK (ops:Array Oper) (draw:Bool) : St → Option St
 | ⟨nt,T,H,nx,wr⟩=>match draw with
  | false=>evSeqK P nB callf nt ops ops.toList T H nx wr
  | true=>match regB ops with
   | true=>match evDrawK P nB callf nt ops H ops.toList (pastsL ops.toList []) 0 T nx [] with
    | some (T,nx,rs)=>some ⟨nt,T,allH H rs,nx,wrOf rs ++ wr⟩
    | none=>none
   | false=>none
theorem evRegK_eq (ops:Array Oper) (draw:Bool) (s:St) : evRegK P nB callf ops draw s = evReg P nB callf ops draw s:=by
 cases s with
 | mk nt T H nx wr =>
  cases draw with
  | false=>exact evSeqK_eq P nB callf nt ops _ T H nx wr
  | true =>
   unfold evRegK evReg
   simp only [evDrawK_eq]
   cases regB ops with
   | true=>rfl
   | false=>rfl
def evCK : Nat → Code → St → Option (Ex × St)
 | 0,_,_=>none
 | n + 1,c,s=>match c with
  | .skip=>some (.normal,s)
  | .region _ ops draw=>match evRegK P nB callf ops draw s with | some s=>some (.normal,s) | none=>none
  | .seq a b=>match evCK n a s with
   | some (.normal,s)=>evCK n b s
   | r=>r
  | .cond c a b=>match opd P s.T c with
   | some (.v (.bool true))=>evCK n a s
   | some (.v (.bool false))=>evCK n b s
   | _=>none
  | .block id b=>match evCK n b s with
   | some (.exit i,s)=>match Nat.beq i id with | true=>some (.normal,s) | false=>some (.exit i,s)
   | r=>r
  | .loop b=>match evCK n b s with
   | some (.normal,s)=>evCK n (.loop b) s
   | r=>r
  | .exit id=>some (.exit id,s)
  | .ret=>some (.ret,s)
  | _=>none
theorem evCK_eq : ∀ (n:Nat) (c:Code) (s:St),evCK P nB callf n c s = evC P nB callf n c s:=by
 intro n
 induction n with
 | zero=>intros; rfl
 | succ n ih =>
  intro c s
  cases c with
  | block id b =>
   unfold evCK evC
   simp only [ih]
   cases evC P nB callf n b s with
   | none=>rfl
   | some r =>
    obtain ⟨e,s'⟩:=r
    cases e with
    | normal=>rfl
    | ret=>rfl
    | exit i =>
     dsimp only
     by_cases h : i = id
     ·subst h; rw [if_pos rfl,Nat.beq_refl]
     ·rw [if_neg h]
      have : Nat.beq i id = false:=by
       cases hb : Nat.beq i id with
       | false=>rfl
       | true=>exact absurd (Nat.eq_of_beq_eq_true hb) h
      rw [this]
  | _=>(unfold evCK evC; simp only [ih,evRegK_eq]; try rfl)
end
def evFK (P:Program) (nB lf:Nat) (orc:Orc) : Nat → FuncId → List LV → Hp → Nat → Option Out
 | 0,_,_,_,_=>none
 | n + 1,f,args,H,nx=>match orc f with
  | some g=>g args H nx
  | none=>match P.funcs[f]? with
   | some fn=>match fn.body with
    | some c=>seqK (args.length + (fn.ntmps - args.length)) fun nt =>
     match evCK P nB (evFK P nB lf orc n) lf c ⟨nt,argsT 0 args .nil,H,nx,[]⟩ with
     | some (.exit _,_)=>none
     | some (_,⟨_,T,H',nx',wr⟩)=>match resL P T H' fn.results.toList with
      | some rs=>let v:=oneL rs; let od:=olds nx H' wr .nil
       some ⟨v,od ++ reach nx H' (nx' + 100000) (v.ids ++ idsD od) .nil [],nx',none⟩
      | none=>none
     | none=>none
    | none=>none
   | none=>none
theorem evFK_eq (P:Program) (nB lf:Nat) (orc:Orc) (n:Nat) : evFK P nB lf orc n = evF P nB lf orc n:=by
 induction n with
 | zero=>rfl
 | succ n ih =>
  funext f args H nx
  unfold evFK evF
  simp only [ih,seqK_eq,evCK_eq]
  cases orc f with
  | some g=>rfl
  | none =>
   dsimp only
   cases P.funcs[f]? with
   | none=>rfl
   | some fn =>
    dsimp only
    cases fn.body with
    | none=>rfl
    | some c =>
     dsimp only
     cases evC P nB (evF P nB lf orc n) lf c ⟨args.length + (fn.ntmps - args.length),argsT 0 args .nil,H,nx,[]⟩ with
     | none=>rfl
     | some r =>
      obtain ⟨e,s⟩:=r
      cases s
      cases e <;> rfl
end Go.Proofs.YtjpfhhndjpdmoaaGreatDoor

namespace Go.Proofs.YtjpfhhndjpdmoaaGreatDoor
set_option linter.unusedVariables false
set_option linter.unusedSimpArgs false
set_option autoImplicit false

noncomputable def seqQ {α : Type} (n:Nat) (f:Nat → α) : α:=Nat.rec (f 0) (fun k _=>f (Nat.succ k)) n
theorem seqQ_eq {α : Type} (n:Nat) (f:Nat → α) : seqQ n f = f n:=by cases n <;> rfl
noncomputable def obind {α β : Type} (x:Option α) (k:α → Option β) : Option β:=Option.rec none k x
theorem obind_eq {α β : Type} (x:Option α) (k:α → Option β) : obind x k = (match x with | some a=>k a | none=>none):=by cases x <;> rfl
noncomputable def bsel {α : Type} (b:Bool) (x y:α) : α:=Bool.rec y x b
theorem bsel_eq {α : Type} (b:Bool) (x y:α) : bsel b x y = (match b with | true=>x | false=>y):=by cases b <;> rfl
section
variable {α : Type}
noncomputable def getQ (t:Tr α) : Nat → Option α :=
 Tr.rec (fun _=>none) (fun l v r il ir n=>Nat.rec v (fun k _=>Nat.rec (il (Nat.div k 2)) (fun _ _=>ir (Nat.div k 2)) (Nat.mod k 2)) n) t
theorem getQ_eq (t:Tr α) : ∀ n,getQ t n = t.get n:=by
 induction t with
 | nil=>intro n; rfl
 | node l v r hl hr =>
  intro n
  cases n with
  | zero=>rfl
  | succ k =>
   have e1 : getQ (Tr.node l v r) (k + 1) = Nat.rec (getQ l (k / 2)) (fun _ _=>getQ r (k / 2)) (k % 2):=rfl
   rw [e1,hl,hr]
   have e2 : (Tr.node l v r).get (k + 1) = (match k % 2 with | 0=>l.get (k / 2) | _ + 1=>r.get (k / 2)):=rfl
   rw [e2]
   cases k % 2 <;> rfl
noncomputable def setQ (f:Nat) : Tr α → Nat → Option α → Tr α :=
 Nat.rec (fun t _ _=>t) (fun _ ih t n x=>Tr.rec
  (Nat.rec (.node .nil x .nil) (fun k _=>Nat.rec (.node (ih .nil (Nat.div k 2) x) none .nil) (fun _ _=>.node .nil none (ih .nil (Nat.div k 2) x)) (Nat.mod k 2)) n)
  (fun l v r _ _=>Nat.rec (.node l x r) (fun k _=>Nat.rec (.node (ih l (Nat.div k 2) x) v r) (fun _ _=>.node l v (ih r (Nat.div k 2) x)) (Nat.mod k 2)) n) t) f
theorem setQ_eq (f:Nat) : ∀ (t:Tr α) (n:Nat) (x:Option α),setQ f t n x = Tr.setF f t n x:=by
 induction f with
 | zero=>intro t n x; rfl
 | succ f ih =>
  intro t n x
  cases t with
  | nil =>
   cases n with
   | zero=>rfl
   | succ k =>
    have e1 : setQ (f + 1) Tr.nil (k + 1) x = Nat.rec (.node (setQ f .nil (k / 2) x) none .nil) (fun _ _=>.node .nil none (setQ f .nil (k / 2) x)) (k % 2):=rfl
    have e2 : Tr.setF (f + 1) (Tr.nil : Tr α) (k + 1) x = (match k % 2 with | 0=>.node (Tr.setF f .nil (k / 2) x) none .nil | _ + 1=>.node .nil none (Tr.setF f .nil (k / 2) x)):=rfl
    rw [e1,e2]
    cases k % 2 <;> (simp only [ih] <;> rfl)
  | node l v r =>
   cases n with
   | zero=>rfl
   | succ k =>
    have e1 : setQ (f + 1) (Tr.node l v r) (k + 1) x = Nat.rec (.node (setQ f l (k / 2) x) v r) (fun _ _=>.node l v (setQ f r (k / 2) x)) (k % 2):=rfl
    have e2 : Tr.setF (f + 1) (Tr.node l v r) (k + 1) x = (match k % 2 with | 0=>.node (Tr.setF f l (k / 2) x) v r | _ + 1=>.node l v (Tr.setF f r (k / 2) x)):=rfl
    rw [e1,e2]
    cases k % 2 <;> (simp only [ih] <;> rfl)
end
noncomputable def opdQ (x:Operand) : Program → Tr LV → Option LV :=
 Operand.rec (fun t _ T=>getQ T t) (fun x _ _=>lvOf x) (fun g P _=>if g < P.globals.size then some (.ptr g 0) else none) (fun f _ _=>some (.fn (.func f) [])) x
theorem opdQ_eq (P:Program) (T:Tr LV) (x:Operand) : opdQ x P T = opd P T x:=by
 cases x with
 | tmp t=>exact getQ_eq T t
 | _=>rfl
noncomputable def putQ (d:Option Tmp) (nt:Nat) (T:Tr LV) (v:LV) : Tr LV:=Option.rec T (fun d=>bsel (Nat.ble (Nat.succ d) nt) (setQ (Nat.succ d) T d (some v)) T) d
theorem putQ_eq (d:Option Tmp) (nt:Nat) (T:Tr LV) (v:LV) : putQ d nt T v = putK nt T d v:=by
 cases d with
 | none=>rfl
 | some d =>
  have e1 : putQ (some d) nt T v = bsel (Nat.ble (Nat.succ d) nt) (setQ (Nat.succ d) T d (some v)) T:=rfl
  rw [e1,setQ_eq,bsel_eq]
  all_goals rfl
noncomputable def appQ (d:Dl) : Hp → Hp:=List.rec (fun H=>H) (fun x _ ih H=>ih (setQ (Nat.succ x.1) H x.1 x.2)) d
theorem appQ_eq (d:Dl) : ∀ H : Hp,appQ d H = H.app d:=by
 induction d with
 | nil=>intro H; rfl
 | cons x d ih =>
  intro H
  obtain ⟨i,b⟩:=x
  have e1 : appQ ((i,b) :: d) H = appQ d (setQ (Nat.succ i) H i b):=rfl
  rw [e1,ih,setQ_eq]
  all_goals rfl
noncomputable def guardQ (P:Program) (ops:Array Oper) (T:Tr LV) (o:Oper) : Option Bool:=Option.rec (some true) (fun _=>wantL ops T o) o.guard
theorem guardQ_eq (P:Program) (ops:Array Oper) (T:Tr LV) (o:Oper) : guardQ P ops T o = wantL ops T o:=by
 unfold guardQ wantL
 cases o.guard <;> rfl
abbrev CFn:=FuncId → List LV → Hp → Nat → Option Out
noncomputable def moveQ (x:Operand) (P:Program) (T:Tr LV) (nx:Nat) : Option Out:=obind (opdQ x P T) fun a=>some ⟨a,[],nx,some []⟩
end Go.Proofs.YtjpfhhndjpdmoaaGreatDoor

namespace Go.Proofs.YtjpfhhndjpdmoaaGreatDoor
set_option linter.unusedVariables false
set_option linter.unusedSimpArgs false
set_option autoImplicit false

noncomputable def nthQ (cs:List LV) : Nat → Option LV:=List.rec (fun _=>none) (fun x _ ih n=>Nat.rec (some x) (fun k _=>ih k) n) cs
theorem nthQ_eq (cs:List LV) : ∀ n,nthQ cs n = cs[n]?:=by
 induction cs with
 | nil=>intro n; rfl
 | cons x cs ih =>
  intro n
  cases n with
  | zero=>rfl
  | succ n=>rw [List.getElem?_cons_succ]; exact ih n
def kindL (P:Program) (t:TypeId) : Option (Option Nat):=match isAggL P t,sizeL P t with
 | some true,some n=>some (some n)
 | some false,some _=>some none
 | _,_=>none
noncomputable def partQ (P:Program) (t:TypeId) (cs:List LV) (off:Nat) : Option LV :=
 obind (kindL P t) fun q=>Option.rec (nthQ cs off) (fun n=>if ((cs.drop off).take n).length = n then some (.agg ((cs.drop off).take n)) else none) q
theorem partQ_eq (P:Program) (t:TypeId) (cs:List LV) (off:Nat) : partQ P t cs off = partL P t cs off:=by
 unfold partQ partL kindL
 cases isAggL P t with
 | none=>rfl
 | some b=>cases b with
  | true=>cases sizeL P t <;> rfl
  | false=>cases sizeL P t with
   | none=>rfl
   | some n=>exact nthQ_eq cs off
def ptrQ (p:LV) : (Nat → Nat → Option Out) → Option Out:=match p with
 | .ptr b off=>fun k=>k b off
 | _=>fun _=>none
noncomputable def loadQ (t:TypeId) (a:Operand) (P:Program) (T:Tr LV) (H:Hp) (nx:Nat) : Option Out :=
 obind (opdQ a P T) fun p=>ptrQ p fun b off=>obind (getQ H b) fun k=>obind (partQ P t k.cells off) fun l=>some ⟨l,[],nx,some [b]⟩
theorem loadQ_eq (P:Program) (nB:Nat) (T:Tr LV) (H:Hp) (nx:Nat) (t:TypeId) (a:Operand) : loadQ t a P T H nx = ej_load P nB T H nx t a:=by
 unfold loadQ ej_load
 simp only [opdQ_eq,obind_eq,getQ_eq,partQ_eq]
 cases opd P T a with
 | none=>rfl
 | some p=>cases p with
  | ptr b off =>
   simp only [ptrQ]
   cases H.get b with
   | none=>rfl
   | some k =>
    dsimp only
    cases partL P t k.cells off <;> rfl
  | _=>rfl
def boolQ (p:LV) : (Bool → Option Out) → Option Out:=match p with
 | .v (.bool b)=>fun k=>k b
 | _=>fun _=>none
noncomputable def pickQ (c a b:Operand) (P:Program) (T:Tr LV) (nx:Nat) : Option Out :=
 obind (opdQ c P T) fun c=>boolQ c fun t=>obind (opdQ a P T) fun a=>obind (opdQ b P T) fun b=>some ⟨bsel t a b,[],nx,some []⟩
theorem pickQ_eq (P:Program) (nB:Nat) (T:Tr LV) (H:Hp) (nx:Nat) (c a b:Operand) : pickQ c a b P T nx = ej_pick P nB T H nx c a b:=by
 unfold pickQ ej_pick
 simp only [opdQ_eq,obind_eq]
 cases opd P T c with
 | none=>rfl
 | some p=>cases p with
  | v x=>cases x with
   | bool t =>
    simp only [boolQ]
    cases opd P T a with
    | none=>rfl
    | some a'=>cases opd P T b with
     | none=>rfl
     | some b'=>cases t <;> rfl
   | _=>rfl
  | _=>rfl
def idxK (P:Program) (t:TypeId) : Option (Option Nat × Nat):=match P.underlying t with
 | some (.array n e)=>match sizeL P e with | some s=>some (some n,s) | none=>none
 | some (.slice e)=>match sizeL P e with | some s=>some (none,s) | none=>none
 | _=>none
def natQ (p:LV) : (Nat → Option Out) → Option Out:=match p with
 | .v (.int _ (.ofNat n))=>fun k=>k n
 | _=>fun _=>none
def baseQ (p:LV) : Option Nat → (Nat → Nat → Nat → Option Out) → Option Out:=match p with
 | .ptr b off=>fun n k=>match n with | some n=>k b off n | none=>none
 | .slice b off n _=>fun m k=>match m with | none=>k b off n | some _=>none
 | .buf b off n _=>fun m k=>match m with | none=>k b off n | some _=>none
 | _=>fun _ _=>none
noncomputable def indexAddrQ (t:TypeId) (x i:Operand) (P:Program) (T:Tr LV) (nx:Nat) : Option Out :=
 obind (idxK P t) fun q=>obind (opdQ x P T) fun x=>baseQ x q.1 fun b off n=>obind (opdQ i P T) fun i=>natQ i fun i=>bsel (Nat.ble (Nat.succ i) n) (seqQ (Nat.add off (Nat.mul i q.2)) fun o=>some ⟨.ptr b o,[],nx,some []⟩) none
theorem bsel_lt {α : Type} (i n:Nat) (x:Option α) : bsel (Nat.ble (Nat.succ i) n) x none = if i < n then x else none:=by
 rw [bsel_eq]
 by_cases h : i < n
 ·rw [if_pos h,Nat.ble_eq_true_of_le (show Nat.succ i ≤ n from h)]
 ·rw [if_neg h]
  cases hb : Nat.ble (Nat.succ i) n with
  | false=>rfl
  | true=>exact absurd (Nat.le_of_ble_eq_true hb) h
theorem natQ_eq (p:LV) (k:Nat → Option Out) : natQ p k = (match natL p with | some n=>k n | none=>none):=by
 cases p with
 | v x=>cases x with
  | int q n=>cases n <;> rfl
  | _=>rfl
 | _=>rfl
theorem indexAddrQ_eq (P:Program) (nB:Nat) (T:Tr LV) (H:Hp) (nx:Nat) (t:TypeId) (x i:Operand) : indexAddrQ t x i P T nx = ej_indexAddr P nB T H nx t x i:=by
 unfold indexAddrQ ej_indexAddr idxK
 simp only [opdQ_eq,obind_eq,natQ_eq,bsel_lt,seqQ_eq]
 cases P.underlying t with
 | none=>rfl
 | some u=>cases u with
  | array n e =>
   dsimp only
   cases hs : sizeL P e with
   | none =>
    dsimp only
    cases opd P T x with
    | none=>rfl
    | some p=>cases p with
     | ptr b off=>cases opd P T i with
      | none=>rfl
      | some iv=>simp only [hs]; cases natL iv <;> rfl
     | _=>rfl
   | some s =>
    dsimp only
    cases opd P T x with
    | none=>rfl
    | some p=>cases p with
     | ptr b off=>cases opd P T i with
      | none=>rfl
      | some iv=>simp only [hs,baseQ]; cases natL iv <;> rfl
     | _=>rfl
  | slice e =>
   dsimp only
   cases hs : sizeL P e with
   | none =>
    dsimp only
    cases opd P T x with
    | none=>rfl
    | some p=>cases p with
     | slice b off n c=>cases opd P T i with
      | none=>rfl
      | some iv=>simp only [hs]; cases natL iv <;> rfl
     | buf b off n c=>cases opd P T i with
      | none=>rfl
      | some iv=>simp only [hs]; cases natL iv <;> rfl
     | _=>rfl
   | some s =>
    dsimp only
    cases opd P T x with
    | none=>rfl
    | some p=>cases p with
     | slice b off n c=>cases opd P T i with
      | none=>rfl
      | some iv=>simp only [hs,baseQ]; cases natL iv <;> rfl
     | buf b off n c=>cases opd P T i with
      | none=>rfl
      | some iv=>simp only [hs,baseQ]; cases natL iv <;> rfl
     | _=>rfl
  | _=>rfl
def fieldK (P:Program) (s:TypeId) (f:Nat) : Option Nat:=match P.underlying s with
 | some (.struct fs)=>match fs[f]? with
  | some f=>match sizeL P f.type with
   | some (_ + 1)=>some f.offset
   | _=>none
  | none=>none
 | _=>none
noncomputable def fieldAddrQ (s:TypeId) (x:Operand) (f:Nat) (P:Program) (T:Tr LV) (nx:Nat) : Option Out :=
 obind (fieldK P s f) fun o=>obind (opdQ x P T) fun x=>ptrQ x fun b off=>seqQ (Nat.add off o) fun o=>some ⟨.ptr b o,[],nx,some []⟩
theorem fieldAddrQ_eq (P:Program) (nB:Nat) (T:Tr LV) (H:Hp) (nx:Nat) (s:TypeId) (x:Operand) (f:Nat) : fieldAddrQ s x f P T nx = ej_fieldAddr P nB T H nx s x f:=by
 unfold fieldAddrQ ej_fieldAddr fieldK
 simp only [opdQ_eq,obind_eq,seqQ_eq]
 cases P.underlying s with
 | none=>rfl
 | some u=>cases u with
  | struct fs =>
   dsimp only
   cases opd P T x with
   | none =>
    cases fs[f]? with
    | none=>rfl
    | some fl=>dsimp only; cases sizeL P fl.type with
     | none=>rfl
     | some n=>cases n <;> rfl
   | some p =>
    cases hf : fs[f]? with
    | none=>cases p <;> simp only [hf]
    | some fl =>
     cases hs : sizeL P fl.type with
     | none=>cases p <;> simp only [hf,hs,ptrQ]
     | some n=>cases n <;> cases p <;> simp only [hf,hs,ptrQ] <;> rfl
  | _=>rfl
end Go.Proofs.YtjpfhhndjpdmoaaGreatDoor

namespace Go.Proofs.YtjpfhhndjpdmoaaGreatDoor
set_option linter.unusedVariables false
set_option linter.unusedSimpArgs false
set_option autoImplicit false

def kindN (k:IntKind) : Nat:=match k with | .i8=>0 | .i16=>1 | .i32=>2 | .i64=>3 | .u8=>4 | .u16=>5 | .u32=>6 | .u64=>7
theorem kindN_inj {k k':IntKind} (h:Nat.beq (kindN k) (kindN k') = true) : k = k':=by
 cases k <;> cases k' <;> first | rfl | cases h
noncomputable def limQ (k:IntKind) (r:Nat) : Option Value:=seqQ r fun r=>bsel (Nat.ble r (topK k)) (some (.int k (.ofNat r))) none
theorem limQ_ok {k:IntKind} {r:Nat} {v:Value} (h:limQ k r = some v) : v = .int k (k.wrap (r:Int)):=by
 unfold limQ at h
 rw [seqQ_eq,bsel_eq] at h
 split at h
 ·rename_i hb
  cases h
  rw [wrap_top (Nat.le_of_ble_eq_true hb)]
  all_goals rfl
 ·cases h
noncomputable def fastQ (op:BinOp) : IntKind → Nat → Nat → Option Value:=match op with
 | .add=>fun k m n=>limQ k (Nat.add m n)
 | .sub=>fun k m n=>bsel (Nat.ble n m) (limQ k (Nat.sub m n)) none
 | .eql=>fun _ m n=>some (.bool (Nat.beq m n))
 | .neq=>fun _ m n=>some (.bool (Bool.not (Nat.beq m n)))
 | .lss=>fun _ m n=>some (.bool (Nat.ble (Nat.succ m) n))
 | .leq=>fun _ m n=>some (.bool (Nat.ble m n))
 | .gtr=>fun _ m n=>some (.bool (Nat.ble (Nat.succ n) m))
 | .geq=>fun _ m n=>some (.bool (Nat.ble n m))
 | _=>fun _ _ _=>none
theorem dec_ble (m n:Nat) : decide (m ≤ n) = Nat.ble m n:=by
 by_cases h : m ≤ n
 ·rw [Nat.ble_eq_true_of_le h,decide_eq_true h]
 ·rw [decide_eq_false h]
  cases hb : Nat.ble m n with
  | false=>rfl
  | true=>exact absurd (Nat.le_of_ble_eq_true hb) h
theorem beq_int (m n:Nat) : ((m:Int) == (n:Int)) = Nat.beq m n:=by
 by_cases h : m = n
 ·subst h; simp
 ·have h1 : Nat.beq m n = false:=by
   cases hb : Nat.beq m n with
   | false=>rfl
   | true=>exact absurd (Nat.eq_of_beq_eq_true hb) h
  rw [h1]
  simp; omega
theorem fastQ_ok {P:Program} {op:BinOp} {k:IntKind} {m n:Nat} {v:Value} {t:TypeId} {x y:Operand} (h:fastQ op k m n = some v) :
  pureRun P (do eqGuard op t x y (.int k (.ofNat m)) (.int k (.ofNat n)); binOp op t (.int k (.ofNat m)) (.int k (.ofNat n))) = some v ∧ plainV v = true:=by
 cases op with
 | add =>
  have h1:=limQ_ok (show limQ k (Nat.add m n) = some v from h)
  subst h1
  refine ⟨?_,rfl⟩
  simp [eqGuard,binOp,Op.intArith,pureRun,pure,bind,Sem.bind]
 | sub =>
  have h1 : bsel (Nat.ble n m) (limQ k (Nat.sub m n)) none = some v:=h
  rw [bsel_eq] at h1
  split at h1
  ·rename_i hb
   have h2:=limQ_ok h1
   have h3:=Nat.le_of_ble_eq_true hb
   have h4 : ((Nat.sub m n : Nat) : Int) = (m:Int) - (n:Int):=by show ((m - n : Nat) : Int) = _; omega
   rw [h4] at h2
   subst h2
   refine ⟨?_,rfl⟩
   simp [eqGuard,binOp,Op.intArith,pureRun,pure,bind,Sem.bind]
  ·cases h1
 | eql =>
  have h1 : some (Value.bool (Nat.beq m n)) = some v:=h
  cases h1
  refine ⟨?_,rfl⟩
  simp [eqGuard,binOp,Op.intCmp,pureRun,pure,bind,Sem.bind]
  exact beq_int m n
 | neq =>
  have h1 : some (Value.bool (Bool.not (Nat.beq m n))) = some v:=h
  cases h1
  refine ⟨?_,rfl⟩
  simp [eqGuard,binOp,Op.intCmp,pureRun,pure,bind,Sem.bind]
  exact congrArg Bool.not (beq_int m n)
 | lss =>
  have h1 : some (Value.bool (Nat.ble (Nat.succ m) n)) = some v:=h
  cases h1
  refine ⟨?_,rfl⟩
  simp [eqGuard,binOp,Op.intCmp,pureRun,pure,bind,Sem.bind]
  exact dec_ble (m + 1) n
 | leq =>
  have h1 : some (Value.bool (Nat.ble m n)) = some v:=h
  cases h1
  refine ⟨?_,rfl⟩
  simp [eqGuard,binOp,Op.intCmp,pureRun,pure,bind,Sem.bind]
  exact dec_ble m n
 | gtr =>
  have h1 : some (Value.bool (Nat.ble (Nat.succ n) m)) = some v:=h
  cases h1
  refine ⟨?_,rfl⟩
  simp [eqGuard,binOp,Op.intCmp,pureRun,pure,bind,Sem.bind]
  exact dec_ble (n + 1) m
 | geq =>
  have h1 : some (Value.bool (Nat.ble n m)) = some v:=h
  cases h1
  refine ⟨?_,rfl⟩
  simp [eqGuard,binOp,Op.intCmp,pureRun,pure,bind,Sem.bind]
  exact dec_ble n m
 | _=>cases h

def natKQ (a:LV) : (IntKind → Nat → Option Value) → Option Value:=match a with
 | .v (.int k (.ofNat n))=>fun f=>f k n
 | _=>fun _=>none
theorem natKQ_ok {a:LV} {f:IntKind → Nat → Option Value} {v:Value} (h:natKQ a f = some v) : ∃ k n,a = .v (.int k (.ofNat n)) ∧ f k n = some v:=by
 cases a with
 | v x=>cases x with
  | int k n=>cases n with
   | ofNat n=>exact ⟨k,n,rfl,h⟩
   | negSucc n=>cases h
  | _=>cases h
 | _=>cases h
noncomputable def twoQ (op:BinOp) (a b:LV) : Option Value :=
 natKQ a fun k m=>natKQ b fun k' n=>bsel (Nat.beq (kindN k) (kindN k')) (fastQ op k m n) none
noncomputable def binQ (op:BinOp) (t:TypeId) (x y:Operand) (P:Program) (nB:Nat) (T:Tr LV) (H:Hp) (nx:Nat) : Option Out :=
 obind (opdQ x P T) fun a=>obind (opdQ y P T) fun b=>Option.rec (ej_binOp P nB T H nx op t x y) (fun v=>some ⟨.v v,[],nx,some []⟩) (twoQ op a b)
theorem binQ_eq (P:Program) (nB:Nat) (T:Tr LV) (H:Hp) (nx:Nat) (op:BinOp) (t:TypeId) (x y:Operand) : binQ op t x y P nB T H nx = ej_binOp P nB T H nx op t x y:=by
 unfold binQ
 simp only [opdQ_eq,obind_eq]
 cases hx : opd P T x with
 | none=>simp only [ej_binOp,hx]
 | some a =>
  cases hy : opd P T y with
  | none=>dsimp only; unfold ej_binOp; rw [hx,hy]; cases a <;> rfl
  | some b =>
   dsimp only
   cases hv : twoQ op a b with
   | none=>rfl
   | some v =>
    obtain ⟨k,m,rfl,h2⟩:=natKQ_ok hv
    obtain ⟨k',n,rfl,h3⟩:=natKQ_ok h2
    rw [bsel_eq] at h3
    split at h3
    ·rename_i hk
     obtain rfl:=kindN_inj hk
     obtain ⟨h4,h5⟩:=fastQ_ok (P:=P) (t:=t) (x:=x) (y:=y) h3
     unfold ej_binOp
     rw [hx,hy]
     show _ = pureL P nx _
     unfold pureL
     rw [h4]
     have h6 : lvOf v = some (.v v):=by
      unfold lvOf
      cases v <;> simp_all [plainV]
     dsimp only
     rw [h6]
     all_goals rfl
    ·cases h3
noncomputable def opdsQ (l:List Operand) : Program → Tr LV → Option (List LV):=List.rec (fun _ _=>some []) (fun x _ ih P T=>obind (opdQ x P T) fun a=>obind (ih P T) fun l=>some (a :: l)) l
theorem opdsQ_eq (P:Program) (T:Tr LV) (l:List Operand) : opdsQ l P T = opds P T l:=by
 induction l with
 | nil=>rfl
 | cons x l ih =>
  have e1 : opdsQ (x :: l) P T = obind (opdQ x P T) fun a=>obind (opdsQ l P T) fun l=>some (a :: l):=rfl
  rw [e1,ih]
  simp only [opdQ_eq,obind_eq,opds]
  cases opd P T x with
  | none=>rfl
  | some a=>dsimp only; cases opds P T l <;> rfl
def fnQ (f:LV) : (FuncId → List LV → Option Out) → Option Out:=match f with
 | .fn (.func g) caps=>fun k=>k g caps
 | _=>fun _=>none
def sliceTyp (P:Program) (l:List TypeId) : Option Unit:=match l with
 | t :: _=>match P.underlying t with | some (.slice _)=>some () | _=>none
 | []=>none
def lenLQ (args:List LV) : Option Nat:=match args with
 | [.slice _ _ n _]=>some n
 | [.buf _ _ n _]=>some n
 | _=>none
noncomputable def lenQ (P:Program) (nB:Nat) (H:Hp) (nx:Nat) (ats:List TypeId) (type:TypeId) (args:List LV) : Option Out :=
 Option.rec (builtinL P nB H nx .len ats type args) (fun n=>obind (sliceTyp P ats) fun _=>some ⟨goI n,[],nx,some []⟩) (lenLQ args)
theorem lenQ_eq (P:Program) (nB:Nat) (H:Hp) (nx:Nat) (ats:List TypeId) (type:TypeId) (args:List LV) : lenQ P nB H nx ats type args = builtinL P nB H nx .len ats type args:=by
 unfold lenQ
 have key : ∀ n : Nat,obind (sliceTyp P ats) (fun _=>some (⟨goI n,[],nx,some []⟩ : Out)) = (match ats with | t :: _=>(match P.underlying t with | some (.slice _)=>val1 nx (goI n) | _=>none) | []=>none):=by
  intro n
  rw [obind_eq]
  unfold sliceTyp
  cases ats with
  | nil=>rfl
  | cons t l =>
   dsimp only
   cases P.underlying t with
   | none=>rfl
   | some u=>cases u <;> rfl
 cases args with
 | nil=>rfl
 | cons x l =>
  cases l with
  | nil=>cases x with
   | slice b o n c=>exact key n
   | buf b o n c=>exact key n
   | _=>rfl
  | cons y l=>cases x <;> rfl
noncomputable def calleeQ (c:Callee) : List LV → Program → Nat → CFn → Tr LV → Hp → Nat → List TypeId → TypeId → Option Out:=match c with
 | .builtin .len=>fun args P nB _ _ H nx ats type=>lenQ P nB H nx ats type args
 | .builtin b=>fun args P nB _ _ H nx ats type=>builtinL P nB H nx b ats type args
 | .value f=>fun args P _ cf T H nx _ _=>obind (opdQ f P T) fun fv=>fnQ fv fun g caps=>bsel (Nat.ble OB g) none (cf g (List.append args caps) H nx)
 | _=>fun _ _ _ _ _ _ _ _ _=>none
noncomputable def callQ (c:Call) (type:TypeId) (P:Program) (nB:Nat) (cf:CFn) (T:Tr LV) (H:Hp) (nx:Nat) : Option Out :=
 obind (opdsQ c.args.toList P T) fun args=>calleeQ c.callee args P nB cf T H nx c.argTypes.toList type
theorem callQ_eq (P:Program) (nB:Nat) (cf:CFn) (T:Tr LV) (H:Hp) (nx:Nat) (c:Call) (type:TypeId) : callQ c type P nB cf T H nx = callL P nB cf T H nx c type:=by
 unfold callQ callL
 simp only [opdsQ_eq,obind_eq]
 cases opds P T c.args.toList with
 | none=>rfl
 | some args =>
  dsimp only
  cases c.callee with
  | builtin b=>cases b with
   | len=>exact lenQ_eq P nB H nx _ type args
   | _=>rfl
  | value f =>
   simp only [calleeQ,opdQ_eq,obind_eq]
   cases opd P T f with
   | none=>rfl
   | some fv=>cases fv with
    | fn g caps=>cases g with
     | func g=>exact bsel_eq _ _ _
     | _=>rfl
    | _=>rfl
  | _=>rfl
noncomputable def evOpQB (op:Op) : Oper → Program → Nat → CFn → Tr LV → Hp → Nat → Option Out:=match op with
 | .move x | .assign x=>fun _ P _ _ T _ nx=>moveQ x P T nx
 | .load t a=>fun _ P _ _ T H nx=>loadQ t a P T H nx
 | .binOp op t x y _=>fun _ P nB _ T H nx=>binQ op t x y P nB T H nx
 | .call c=>fun o P nB cf T H nx=>callQ c o.type P nB cf T H nx
 | .indexAddr t x i=>fun _ P _ _ T _ nx=>indexAddrQ t x i P T nx
 | .fieldAddr s x f=>fun _ P _ _ T _ nx=>fieldAddrQ s x f P T nx
 | .pick c a b=>fun _ P _ _ T _ nx=>pickQ c a b P T nx
 | _=>fun o P nB cf T H nx=>evOpJB P nB cf T H nx o
theorem evOpQB_eq (P:Program) (nB:Nat) (cf:CFn) (T:Tr LV) (H:Hp) (nx:Nat) (o:Oper) : evOpQB o.op o P nB cf T H nx = evOpJB P nB cf T H nx o:=by
 cases ho : o.op with
 | move x=>simp only [evOpQB,moveQ,opdQ_eq,obind_eq,evOpJB,ho,ej_move]; cases opd P T x <;> rfl
 | assign x=>simp only [evOpQB,moveQ,opdQ_eq,obind_eq,evOpJB,ho,ej_move]; cases opd P T x <;> rfl
 | load t a=>simp only [evOpQB,evOpJB,ho]; exact loadQ_eq P nB T H nx t a
 | binOp op t x y u=>simp only [evOpQB,evOpJB,ho]; exact binQ_eq P nB T H nx op t x y
 | call c=>simp only [evOpQB,evOpJB,ho]; exact callQ_eq P nB cf T H nx c _
 | indexAddr t x i=>simp only [evOpQB,evOpJB,ho]; exact indexAddrQ_eq P nB T H nx t x i
 | fieldAddr s x f=>simp only [evOpQB,evOpJB,ho]; exact fieldAddrQ_eq P nB T H nx s x f
 | pick c a b=>simp only [evOpQB,evOpJB,ho]; exact pickQ_eq P nB T H nx c a b
 | _=>rfl
noncomputable def evOpQ (op:Op) (o:Oper) (P:Program) (nB:Nat) (cf:CFn) (T:Tr LV) (H:Hp) (nx:Nat) : Option Out :=
 Option.rec (orH P cf T nx o none) (fun x=>some x) (evOpQB op o P nB cf T H nx)
theorem evOpQ_eq (P:Program) (nB:Nat) (cf:CFn) (T:Tr LV) (H:Hp) (nx:Nat) (o:Oper) : evOpQ o.op o P nB cf T H nx = evOpJ P nB cf T H nx o:=by
 unfold evOpQ evOpJ
 rw [evOpQB_eq]
 cases evOpJB P nB cf T H nx o <;> rfl
noncomputable def seqT {α β : Type} (t:Tr α) (k:Tr α → β) : β:=Tr.rec (k .nil) (fun l v r _ _=>k (.node l v r)) t
theorem seqT_eq {α β : Type} (t:Tr α) (k:Tr α → β) : seqT t k = k t:=by cases t <;> rfl
noncomputable def stepQ (cont:Nat → Array Oper → Tr LV → Hp → Nat → List Nat → Option St) (o:Oper) (nt:Nat) (ops:Array Oper) (T:Tr LV) (H:Hp) (nx:Nat) (wr:List Nat) (r:Out) : Option St :=
 Out.rec (fun v d nx' _=>seqQ nx' fun nx'=>bsel (Nat.ble nx nx') (seqT (putQ o.dst nt T v) fun T=>List.rec (cont nt ops T H nx' wr) (fun _ _ _=>seqT (appQ d H) fun H=>cont nt ops T H nx' (oldW nx d ++ wr)) d) none) r
noncomputable def selQ (cont:Nat → Array Oper → Tr LV → Hp → Nat → List Nat → Option St) (o:Oper) (P:Program) (nB:Nat) (cf:CFn) (nt:Nat) (ops:Array Oper) (T:Tr LV) (H:Hp) (nx:Nat) (wr:List Nat) (g:Option Bool) : Option St :=
 obind g fun b=>bsel b (obind (evOpQ o.op o P nB cf T H nx) (stepQ cont o nt ops T H nx wr)) (cont nt ops (putQ o.dst nt T (.tup [])) H nx wr)
noncomputable def evSeqQ (P:Program) (nB:Nat) (cf:CFn) (l:List Oper) : Nat → Array Oper → Tr LV → Hp → Nat → List Nat → Option St :=
 List.rec (fun nt ops T H nx wr=>some ⟨nt,T,H,nx,wr⟩) (fun o _ ih nt ops T H nx wr=>selQ ih o P nB cf nt ops T H nx wr (guardQ P ops T o)) l
theorem evSeqQ_eq (P:Program) (nB:Nat) (cf:CFn) (l:List Oper) : ∀ (nt:Nat) (ops:Array Oper) (T:Tr LV) (H:Hp) (nx:Nat) (wr:List Nat),evSeqQ P nB cf l nt ops T H nx wr = evSeqK P nB cf nt ops l T H nx wr:=by
 induction l with
 | nil=>intros; rfl
 | cons o l ih =>
  intro nt ops T H nx wr
  have e1 : evSeqQ P nB cf (o :: l) nt ops T H nx wr = selQ (evSeqQ P nB cf l) o P nB cf nt ops T H nx wr (guardQ P ops T o):=rfl
  rw [e1]
  unfold evSeqK selQ
  rw [guardQ_eq,evOpQ_eq]
  simp only [obind_eq,bsel_eq,ih,putQ_eq]
  cases wantL ops T o with
  | none=>rfl
  | some b=>cases b with
   | false=>rfl
   | true=>cases evOpJ P nB cf T H nx o with
    | none=>rfl
    | some out =>
     cases out with
     | mk v d nx' ft =>
      simp only [stepQ,seqQ_eq,bsel_eq,ih,putQ_eq,appQ_eq,seqK_eq,seqT_eq]
      cases Nat.ble nx nx' with
      | false=>rfl
      | true=>cases d <;> rfl
end Go.Proofs.YtjpfhhndjpdmoaaGreatDoor

namespace Go.Proofs.YtjpfhhndjpdmoaaGreatDoor
set_option linter.unusedVariables false
set_option linter.unusedSimpArgs false
set_option autoImplicit false

def hasD (r:Rc) : Bool:=match r.d with | []=>false | _ :: _=>true
def chg (rs:List Rc) : List Rc:=rs.filter hasD
theorem chg_cons (r:Rc) (rs:List Rc) : chg (r :: rs) = match r.d with | []=>chg rs | _ :: _=>r :: chg rs:=by
 unfold chg hasD
 rw [List.filter_cons]
 cases r.d <;> rfl
theorem overH_chg (H:Hp) (m:Nat) : ∀ rs : List Rc,overH H m (chg rs) = overH H m rs
 | []=>rfl
 | r :: rs=>by
  rw [chg_cons]
  cases h : r.d with
  | nil =>
   dsimp only
   rw [overH_chg H m rs]
   show _ = if m.testBit r.j then (overH H m rs).app r.d else overH H m rs
   rw [h]
   split <;> rfl
  | cons x d =>
   show (if m.testBit r.j then (overH H m (chg rs)).app r.d else overH H m (chg rs)) = if m.testBit r.j then (overH H m rs).app r.d else overH H m rs
   rw [overH_chg H m rs]
theorem allH_chg (H:Hp) : ∀ rs : List Rc,allH H (chg rs) = allH H rs
 | []=>rfl
 | r :: rs=>by
  rw [chg_cons]
  cases h : r.d with
  | nil =>
   dsimp only
   rw [allH_chg H rs]
   show _ = (allH H rs).app r.d
   rw [h]
   all_goals rfl
  | cons x d =>
   show (allH H (chg rs)).app r.d = (allH H rs).app r.d
   rw [allH_chg H rs]
theorem wrOf_chg : ∀ rs : List Rc,wrOf (chg rs) = wrOf rs
 | []=>rfl
 | r :: rs=>by
  rw [chg_cons]
  cases h : r.d with
  | nil =>
   dsimp only
   rw [wrOf_chg rs]
   show _ = oldW r.nx r.d ++ wrOf rs
   rw [h]
   all_goals rfl
  | cons x d =>
   show oldW r.nx r.d ++ wrOf (chg rs) = oldW r.nx r.d ++ wrOf rs
   rw [wrOf_chg rs]
theorem apart_nil (foot:Option (List Nat)) : apartB [] foot = true:=by cases foot <;> rfl
theorem freeB_chg (m:Nat) (foot:Option (List Nat)) : ∀ rs : List Rc,freeB m [] foot (chg rs) = freeB m [] foot rs
 | []=>rfl
 | r :: rs=>by
  rw [chg_cons]
  cases h : r.d with
  | nil =>
   dsimp only
   rw [freeB_chg m foot rs]
   show _ = ((m.testBit r.j || (apartB (oldW r.nx r.d) foot && apartB [] r.foot)) && freeB m [] foot rs)
   rw [h]
   simp only [oldW,apart_nil,Bool.and_self,Bool.or_true,Bool.true_and]
  | cons x d =>
   show ((m.testBit r.j || (apartB (oldW r.nx r.d) foot && apartB [] r.foot)) && freeB m [] foot (chg rs)) = ((m.testBit r.j || (apartB (oldW r.nx r.d) foot && apartB [] r.foot)) && freeB m [] foot rs)
   rw [freeB_chg m foot rs]
noncomputable def freeQ (m:Nat) (W:List Nat) (foot:Option (List Nat)) (rs rc:List Rc) : Bool:=List.rec (freeB m [] foot rc) (fun _ _ _=>freeB m W foot rs) W
theorem freeQ_eq (m:Nat) (W:List Nat) (foot:Option (List Nat)) (rs:List Rc) : freeQ m W foot rs (chg rs) = freeB m W foot rs:=by
 cases W with
 | nil=>exact freeB_chg m foot rs
 | cons x W=>rfl
noncomputable def addQ (r:Rc) (d:Dl) (rc:List Rc) : List Rc:=List.rec rc (fun _ _ _=>r :: rc) d
theorem addQ_eq (j:Nat) (d:Dl) (nx:Nat) (foot:Option (List Nat)) (rs:List Rc) : addQ ⟨j,d,nx,foot⟩ d (chg rs) = chg (⟨j,d,nx,foot⟩ :: rs):=by
 rw [chg_cons]
 cases d <;> rfl
abbrev DC:=List Nat → Nat → Tr LV → Nat → List Rc → List Rc → Option (Tr LV × Nat × List Rc × List Rc)
noncomputable def dstepQ (cont:DC) (o:Oper) (nt:Nat) (Hm:Hp) (m:Nat) (ms:List Nat) (k:Nat) (T:Tr LV) (nx:Nat) (rs rc:List Rc) (r:Out) : Option (Tr LV × Nat × List Rc × List Rc) :=
 Out.rec (fun v d nx' foot=>seqQ nx' fun nx'=>bsel (Nat.ble nx nx') (bsel (freeQ m (oldW nx d) foot rs rc) (bsel (dOk Hm nx nx' foot d) (seqQ (Nat.succ k) fun k'=>seqT (putQ o.dst nt T v) fun T=>List.rec (cont ms k' T nx' (⟨k,d,nx,foot⟩ :: rs) rc) (fun _ _ _=>cont ms k' T nx' (⟨k,d,nx,foot⟩ :: rs) (⟨k,d,nx,foot⟩ :: rc)) d) none) none) none) r
noncomputable def dselQ (cont:DC) (o:Oper) (P:Program) (nB:Nat) (cf:CFn) (nt:Nat) (H:Hp) (m:Nat) (ms:List Nat) (k:Nat) (T:Tr LV) (nx:Nat) (rs rc:List Rc) (g:Option Bool) : Option (Tr LV × Nat × List Rc × List Rc) :=
 obind g fun b=>bsel b (obind (evOpQ o.op o P nB cf T (overH H m rc) nx) (dstepQ cont o nt (overH H m rc) m ms k T nx rs rc)) (seqQ (Nat.succ k) fun k'=>cont ms k' (putQ o.dst nt T (.tup [])) nx (⟨k,[],nx,some []⟩ :: rs) rc)
noncomputable def evDrawQ (P:Program) (nB:Nat) (cf:CFn) (nt:Nat) (ops:Array Oper) (H:Hp) (l:List Oper) : DC :=
 List.rec (fun _ _ T nx rs rc=>some (T,nx,rs,rc)) (fun o _ ih ms k T nx rs rc=>List.rec none (fun m ms _=>dselQ ih o P nB cf nt H m ms k T nx rs rc (guardQ P ops T o)) ms) l
def projD : Option (Tr LV × Nat × List Rc × List Rc) → Option (Tr LV × Nat × List Rc)
 | some (T,nx,rs,_)=>some (T,nx,rs)
 | none=>none
def okD : Option (Tr LV × Nat × List Rc × List Rc) → Prop
 | some (_,_,rs,rc)=>rc = chg rs
 | none=>True
theorem evDrawQ_eq (P:Program) (nB:Nat) (cf:CFn) (nt:Nat) (ops:Array Oper) (H:Hp) (l:List Oper) : ∀ (ms:List Nat) (k:Nat) (T:Tr LV) (nx:Nat) (rs:List Rc),
  projD (evDrawQ P nB cf nt ops H l ms k T nx rs (chg rs)) = evDrawK P nB cf nt ops H l ms k T nx rs ∧ okD (evDrawQ P nB cf nt ops H l ms k T nx rs (chg rs)):=by
 induction l with
 | nil=>intro ms k T nx rs; exact ⟨by cases ms <;> rfl,rfl⟩
 | cons o l ih =>
  intro ms k T nx rs
  cases ms with
  | nil=>exact ⟨rfl,trivial⟩
  | cons m ms =>
   have e1 : evDrawQ P nB cf nt ops H (o :: l) (m :: ms) k T nx rs (chg rs) = dselQ (evDrawQ P nB cf nt ops H l) o P nB cf nt H m ms k T nx rs (chg rs) (guardQ P ops T o):=rfl
   rw [e1]
   unfold evDrawK dselQ
   rw [guardQ_eq,evOpQ_eq,overH_chg]
   simp only [obind_eq,bsel_eq,seqQ_eq,seqK_eq]
   cases wantL ops T o with
   | none=>exact ⟨rfl,trivial⟩
   | some b=>cases b with
    | false =>
     have:=ih ms (Nat.succ k) (putK nt T o.dst (.tup [])) nx (⟨k,[],nx,some []⟩ :: rs)
     dsimp only
     rw [putQ_eq]
     exact this
    | true =>
     dsimp only
     cases evOpJ P nB cf T (overH H m rs) nx o with
     | none=>exact ⟨rfl,trivial⟩
     | some out =>
      cases out with
      | mk v d nx' ft =>
       simp only [dstepQ,seqQ_eq,bsel_eq,putQ_eq,freeQ_eq,seqT_eq]
       cases Nat.ble nx nx' with
       | false=>exact ⟨rfl,trivial⟩
       | true =>
        dsimp only
        cases freeB m (oldW nx d) ft rs with
        | false=>exact ⟨rfl,trivial⟩
        | true =>
         dsimp only
         cases dOk (overH H m rs) nx nx' ft d with
         | false=>exact ⟨rfl,trivial⟩
         | true =>
          have h9:=ih ms (Nat.succ k) (putK nt T o.dst v) nx' (⟨k,d,nx,ft⟩ :: rs)
          rw [← addQ_eq] at h9
          cases d <;> exact h9
noncomputable def wapQ (rc:List Rc) (wr:List Nat) : List Nat:=List.rec wr (fun _ _ _=>wrOf rc ++ wr) rc
noncomputable def evRegQ (P:Program) (nB:Nat) (cf:CFn) (ops:Array Oper) (draw:Bool) (s:St) : Option St :=
 St.rec (fun nt T H nx wr=>bsel draw
  (bsel (regB ops) (obind (evDrawQ P nB cf nt ops H ops.toList (pastsL ops.toList []) 0 T nx [] []) fun r=>Prod.rec (fun T r=>Prod.rec (fun nx r=>Prod.rec (fun _ rc=>List.rec (some ⟨nt,T,H,nx,wr⟩) (fun _ _ _=>seqT (allH H rc) fun H=>some ⟨nt,T,H,nx,wrOf rc ++ wr⟩) rc) r) r) r) none)
  (evSeqQ P nB cf ops.toList nt ops T H nx wr)) s
theorem evRegQ_eq (P:Program) (nB:Nat) (cf:CFn) (ops:Array Oper) (draw:Bool) (s:St) : evRegQ P nB cf ops draw s = evRegK P nB cf ops draw s:=by
 cases s with
 | mk nt T H nx wr =>
  cases draw with
  | false=>exact evSeqQ_eq P nB cf _ nt ops T H nx wr
  | true =>
   unfold evRegQ evRegK
   dsimp only
   rw [bsel_eq,bsel_eq]
   cases regB ops with
   | false=>rfl
   | true =>
    dsimp only
    obtain ⟨h1,h2⟩:=evDrawQ_eq P nB cf nt ops H ops.toList (pastsL ops.toList []) 0 T nx []
    rw [show chg [] = [] from rfl] at h1 h2
    rw [← h1,obind_eq]
    cases hq : evDrawQ P nB cf nt ops H ops.toList (pastsL ops.toList []) 0 T nx [] [] with
    | none=>rfl
    | some r =>
     obtain ⟨T',nx',rs,rc⟩:=r
     rw [hq] at h2
     have h3 : rc = chg rs:=h2
     subst h3
     have h4 : (List.rec (some ⟨nt,T',H,nx',wr⟩) (fun _ _ _=>seqT (allH H (chg rs)) fun H=>some ⟨nt,T',H,nx',wrOf (chg rs) ++ wr⟩) (chg rs) : Option St) = some ⟨nt,T',allH H rs,nx',wrOf rs ++ wr⟩:=by
      rw [← allH_chg H rs,← wrOf_chg rs]
      cases chg rs with
      | nil=>rfl
      | cons x l=>exact seqT_eq _ _
     exact h4
abbrev Cont:=Code → St → Option (Ex × St)
noncomputable def thenQ (e:Ex) : Cont → Code → St → Option (Ex × St):=match e with
 | .normal=>fun ih b s=>ih b s
 | e=>fun _ _ s=>some (e,s)
noncomputable def blkQ (e:Ex) : Nat → St → Option (Ex × St):=match e with
 | .exit i=>fun id s=>bsel (Nat.beq i id) (some (.normal,s)) (some (.exit i,s))
 | e=>fun _ s=>some (e,s)
def condQ (p:LV) : Option Bool:=match p with
 | .v (.bool b)=>some b
 | _=>none
noncomputable def codeQ (c:Code) : Cont → Program → Nat → CFn → St → Option (Ex × St):=match c with
 | .skip=>fun _ _ _ _ s=>some (.normal,s)
 | .region _ ops draw=>fun _ P nB cf s=>obind (evRegQ P nB cf ops draw s) fun s=>some (.normal,s)
 | .seq a b=>fun ih _ _ _ s=>obind (ih a s) fun r=>Prod.rec (fun e s=>thenQ e ih b s) r
 | .cond c a b=>fun ih P _ _ s=>obind (opdQ c P s.T) fun x=>obind (condQ x) fun t=>bsel t (ih a s) (ih b s)
 | .block id b=>fun ih _ _ _ s=>obind (ih b s) fun r=>Prod.rec (fun e s=>blkQ e id s) r
 | .loop b=>fun ih _ _ _ s=>obind (ih b s) fun r=>Prod.rec (fun e s=>thenQ e ih (.loop b) s) r
 | .exit id=>fun _ _ _ _ s=>some (.exit id,s)
 | .ret=>fun _ _ _ _ s=>some (.ret,s)
 | _=>fun _ _ _ _ _=>none
noncomputable def evCQ (P:Program) (nB:Nat) (cf:CFn) (n:Nat) : Cont:=Nat.rec (fun _ _=>none) (fun _ ih c s=>codeQ c ih P nB cf s) n
theorem evCQ_eq (P:Program) (nB:Nat) (cf:CFn) : ∀ (n:Nat) (c:Code) (s:St),evCQ P nB cf n c s = evCK P nB cf n c s:=by
 intro n
 induction n with
 | zero=>intros; rfl
 | succ n ih =>
  intro c s
  have e1 : evCQ P nB cf (n + 1) c s = codeQ c (evCQ P nB cf n) P nB cf s:=rfl
  rw [e1]
  cases c with
  | skip=>rfl
  | region id ops draw =>
   simp only [codeQ,evCK,obind_eq,evRegQ_eq]
   cases evRegK P nB cf ops draw s <;> rfl
  | seq a b =>
   simp only [codeQ,evCK,obind_eq,ih]
   cases evCK P nB cf n a s with
   | none=>rfl
   | some r =>
    obtain ⟨e,s'⟩:=r
    cases e <;> simp only [thenQ,ih]
  | cond c a b =>
   simp only [codeQ,evCK,obind_eq,opdQ_eq,ih]
   cases opd P s.T c with
   | none=>rfl
   | some x=>cases x with
    | v y=>cases y with
     | bool t=>cases t <;> rfl
     | _=>rfl
    | _=>rfl
  | block id b =>
   simp only [codeQ,evCK,obind_eq,ih]
   cases evCK P nB cf n b s with
   | none=>rfl
   | some r =>
    obtain ⟨e,s'⟩:=r
    cases e with
    | exit i=>first | (simp only [blkQ,bsel_eq]; done) | (simp only [blkQ,bsel_eq]; cases Nat.beq i id <;> rfl)
    | _=>rfl
  | loop b =>
   simp only [codeQ,evCK,obind_eq,ih]
   cases evCK P nB cf n b s with
   | none=>rfl
   | some r =>
    obtain ⟨e,s'⟩:=r
    cases e <;> simp only [thenQ,ih]
  | _=>rfl
noncomputable def argsQ (l:List LV) : Nat → Tr LV → Tr LV:=List.rec (fun _ T=>T) (fun x _ ih i T=>ih (Nat.succ i) (setQ (Nat.succ i) T i (some x))) l
theorem argsQ_eq (l:List LV) : ∀ (i:Nat) (T:Tr LV),argsQ l i T = argsT i l T:=by
 induction l with
 | nil=>intros; rfl
 | cons x l ih =>
  intro i T
  have e1 : argsQ (x :: l) i T = argsQ l (Nat.succ i) (setQ (Nat.succ i) T i (some x)):=rfl
  rw [e1,ih,setQ_eq]
  all_goals rfl
def bodyK (P:Program) (f:FuncId) : Option (Code × Nat × List ResultVar):=match P.funcs[f]? with
 | some fn=>match fn.body with
  | some c=>some (c,fn.ntmps,fn.results.toList)
  | none=>none
 | none=>none
noncomputable def finQ (P:Program) (nx:Nat) (rs:List ResultVar) (s:St) : Option Out :=
 St.rec (fun _ T H' nx' wr=>obind (resL P T H' rs) fun l=>(fun v od=>some ⟨v,od ++ reach nx H' (nx' + 100000) (v.ids ++ idsD od) .nil [],nx',none⟩) (oneL l) (olds nx H' wr .nil)) s
def exQ (e:Ex) : Bool:=match e with | .exit _=>false | _=>true
noncomputable def runQ (P:Program) (nB lf:Nat) (cf:CFn) (args:List LV) (H:Hp) (nx:Nat) (b:Code × Nat × List ResultVar) : Option Out :=
 Prod.rec (fun c q=>Prod.rec (fun nt rs=>seqQ (Nat.add args.length (Nat.sub nt args.length)) fun nt=>obind (evCQ P nB cf lf c ⟨nt,argsQ args 0 .nil,H,nx,[]⟩) fun r=>Prod.rec (fun e s=>bsel (exQ e) (finQ P nx rs s) none) r) q) b
noncomputable def evFQ (P:Program) (nB lf:Nat) (orc:Orc) (n:Nat) : CFn :=
 Nat.rec (fun _ _ _ _=>none) (fun _ ih f args H nx=>Option.rec (obind (bodyK P f) (runQ P nB lf ih args H nx)) (fun g=>g args H nx) (orc f)) n
theorem evFQ_eq (P:Program) (nB lf:Nat) (orc:Orc) (n:Nat) : evFQ P nB lf orc n = evFK P nB lf orc n:=by
 induction n with
 | zero=>rfl
 | succ n ih =>
  funext f args H nx
  have e1 : evFQ P nB lf orc (n + 1) f args H nx = Option.rec (obind (bodyK P f) (runQ P nB lf (evFQ P nB lf orc n) args H nx)) (fun g=>g args H nx) (orc f):=rfl
  rw [e1,ih]
  unfold evFK
  cases orc f with
  | some g=>rfl
  | none =>
   dsimp only
   unfold bodyK
   cases P.funcs[f]? with
   | none=>rfl
   | some fn =>
    dsimp only
    cases fn.body with
    | none=>rfl
    | some c =>
     rw [obind_eq]
     dsimp only
     unfold runQ
     dsimp only
     simp only [seqQ_eq,obind_eq,evCQ_eq,argsQ_eq,seqK_eq]
     rw [show args.length.add (fn.ntmps.sub args.length) = args.length + (fn.ntmps - args.length) from rfl]
     cases evCK P nB (evFK P nB lf orc n) lf c ⟨args.length + (fn.ntmps - args.length),argsT 0 args .nil,H,nx,[]⟩ with
     | none=>rfl
     | some r =>
      obtain ⟨e,s⟩:=r
      cases s with
      | mk a T H' nx' wr =>
       have h1 : finQ P nx fn.results.toList ⟨a,T,H',nx',wr⟩ = (match resL P T H' fn.results.toList with
        | some rs=>some ⟨oneL rs,olds nx H' wr .nil ++ reach nx H' (nx' + 100000) ((oneL rs).ids ++ idsD (olds nx H' wr .nil)) .nil [],nx',none⟩
        | none=>none):=by
        unfold finQ
        dsimp only
        rw [obind_eq]
        cases resL P T H' fn.results.toList <;> rfl
       cases e with
       | exit i=>rfl
       | normal=>exact h1
       | ret=>exact h1
theorem evFQ_evF (P:Program) (nB lf:Nat) (orc:Orc) (n:Nat) : evFQ P nB lf orc n = evF P nB lf orc n:=(evFQ_eq P nB lf orc n).trans (evFK_eq P nB lf orc n)
end Go.Proofs.YtjpfhhndjpdmoaaGreatDoor
