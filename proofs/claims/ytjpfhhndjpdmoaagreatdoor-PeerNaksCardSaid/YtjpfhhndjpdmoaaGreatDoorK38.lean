/- Part of the proof: EvJ, EvK, EvL, EvM. No conditions of its own. -/
import Derived.Below
import Derived.KernelRfl
import Derived.Laws.BytesArg
import Derived.Laws.CopyRow
import Derived.Laws.NewFold
import Derived.Laws.Strings
import Derived.Lib.ConvBytes
import Derived.Orders
import Derived.RowKit3
import Derived.Test.YtjpfhhndjpdmoaaGreatDoorK10
namespace Go.Proofs.YtjpfhhndjpdmoaaGreatDoor
set_option linter.unusedVariables false


def ej_move (P : Program) (nB : Nat) (T : Tr LV) (H : Hp) (nx : Nat) (x : Operand) : Option Out :=
  match opd P T x with | some a => val1 nx a | none => none

def ej_pick (P : Program) (nB : Nat) (T : Tr LV) (H : Hp) (nx : Nat) (c a b : Operand) : Option Out :=
  match opd P T c, opd P T a, opd P T b with
    | some (.v (.bool t)), some a, some b => val1 nx (if t then a else b)
    | _, _, _ => none

def ej_alloc (P : Program) (nB : Nat) (T : Tr LV) (H : Hp) (nx : Nat) (t : TypeId) : Option Out :=
  match zeroL P t with | some z => new1 nx t true false z (.ptr nx 0) [] | none => none

def ej_box (P : Program) (nB : Nat) (T : Tr LV) (H : Hp) (nx : Nat) (t : TypeId) (x : Operand) : Option Out :=
  match opd P T x with | some a => new1 nx t true false a.cells (.ptr nx 0) [] | none => none

def ej_build (P : Program) (nB : Nat) (T : Tr LV) (H : Hp) (nx : Nat) (t : TypeId) (parts : Array (Nat × Operand)) : Option Out :=
  match zeroL P t, P.underlying t, partsL P T parts.toList with
    | some z, some (.struct fs), some ps => match placesL P fs.toList with
      | some pl => match fillL (fun i => pl[i]?) z ps with | some cs => val1 nx (.agg cs) | none => none
      | none => none
    | some z, some (.array _ elem), some ps => match sizeL P elem with
      | some n => match fillL (fun i => some (i * n, n)) z ps with | some cs => val1 nx (.agg cs) | none => none
      | none => none
    | _, _, _ => none

def ej_buildSlice (P : Program) (nB : Nat) (T : Tr LV) (H : Hp) (nx : Nat) (t : TypeId) (len : Nat) (parts : Array (Nat × Operand)) : Option Out :=
  match P.underlying t with
    | some (.slice elem) => match zeroL P elem, sizeL P elem, partsL P T parts.toList with
      | some z, some n, some ps => if len * n ≤ 2 ^ 20 ∧ 0 < n ∧ z.length = n then match fillL (fun i => some (i * n, n)) (repL z len) ps with | some cs => new1 nx elem true false cs (.slice nx 0 len len) [] | none => none else none
      | _, _, _ => none
    | _ => none

def ej_load (P : Program) (nB : Nat) (T : Tr LV) (H : Hp) (nx : Nat) (t : TypeId) (a : Operand) : Option Out :=
  match opd P T a with
    | some (.ptr b off) => match H.get b with
      | some k => match partL P t k.cells off with | some l => val1 nx l [b] | none => none
      | none => none
    | _ => none

def ej_store (P : Program) (nB : Nat) (T : Tr LV) (H : Hp) (nx : Nat) (t : TypeId) (a x : Operand) : Option Out :=
  match opd P T a, opd P T x, sizeL P t with
    | some (.ptr b off), some y, some n => if nB ≤ b then match H.get b with
      | some k => let l := y.cells; if l.length = n ∧ off + n ≤ k.cells.length ∧ l.all LV.isOne then some ⟨.tup [], [(b, some ⟨k.elem, k.exact, k.mrk, putL k.cells off l⟩)], nx, some [b]⟩ else none
      | none => none else none
    | _, _, _ => none

def ej_nilCheck (P : Program) (nB : Nat) (T : Tr LV) (H : Hp) (nx : Nat) (x : Operand) : Option Out :=
  match opd P T x with
    | some (.ptr b off) => val1 nx (.ptr b off)
    | some (.fn (.func f) caps) => val1 nx (.fn (.func f) caps)
    | _ => none

def ej_binOp (P : Program) (nB : Nat) (T : Tr LV) (H : Hp) (nx : Nat) (op : BinOp) (t : TypeId) (x y : Operand) : Option Out :=
  match opd P T x, opd P T y with
    | some .emp, some (.v (.slice none 0 0)) => match op, P.underlying t with | .eql, some (.slice _) => val1 nx (.v (.bool false)) | .neq, some (.slice _) => val1 nx (.v (.bool true)) | _, _ => none
    | some (.slice _ _ _ _), some (.v (.slice none 0 0)) | some (.buf _ _ _ _), some (.v (.slice none 0 0)) => match op, P.underlying t with | .eql, some (.slice _) => val1 nx (.v (.bool false)) | .neq, some (.slice _) => val1 nx (.v (.bool true)) | _, _ => none
    | some (.ptr _ _), some (.v (.pointer none)) => match op, P.underlying t with | .eql, some (.pointer _) => val1 nx (.v (.bool false)) | .neq, some (.pointer _) => val1 nx (.v (.bool true)) | _, _ => none
    | some (.sym _ k lo hi _), some (.v (.int k' (.ofNat n))) => if k = k' then match symCmp op lo hi n with | some r => val1 nx (.v (.bool r)) | none => none else none
    | some (.sym b k lo hi ne), some (.sym b' k' lo' hi' ne') => if k = k' then match symTwo op b b' ne ne' lo hi lo' hi' with | some r => val1 nx (.v (.bool r)) | none => none else none
    | some a, some b => match a.val?, b.val? with
      | some a, some b => pureL P nx (do eqGuard op t x y a b; binOp op t a b)
      | _, _ => match oddL op a b with
        | some r => val1 nx r
        | none => none
    | _, _ => none

def ej_unOp (P : Program) (nB : Nat) (T : Tr LV) (H : Hp) (nx : Nat) (op : UnOp) (x : Operand) : Option Out :=
  match opd P T x with
    | some (.v x) => pureL P nx (Op.unary op x)
    | _ => none

def ej_convert (P : Program) (nB : Nat) (T : Tr LV) (H : Hp) (nx : Nat) (src dst : TypeId) (x : Operand) : Option Out :=
  match opd P T x with
    | some (.v (.string s)) => match P.underlying dst with
      | some (.slice e) => match P.underlying e with
        | some (.int .u8) => match P.underlying src with
          | some _ => if 2 ^ 40 < s.size then none else new1 nx e false true (s.data.toList.map fun b => .v (.int .u8 b.toNat)) (.buf nx 0 s.size 1) []
          | none => none
        | _ => none
      | _ => pureL P nx (convert src dst (.string s))
    | some (.slice b off len c) => match P.underlying src, P.underlying dst with
      | some (.slice e), some .string => match P.underlying e with
        | some (.int .u8) => strL H nx b off len
        | _ => none
      | some (.slice _), some (.slice e) => match src == dst, P.underlying e with
        | true, some (.int .u8) => match H.get b with
          | some k => if nB ≤ b then some ⟨.slice b off len c, [(b, some ⟨k.elem, k.exact, true, k.cells⟩)], nx, some [b]⟩ else none
          | none => none
        | _, _ => none
      | _, _ => none
    | some (.buf b off len _) => match P.underlying src, P.underlying dst with
      | some (.slice e), some .string => match P.underlying e with
        | some (.int .u8) => strL H nx b off len
        | _ => none
      | _, _ => none
    | some (.str cs) => match P.underlying dst with
      | some (.slice e) => match P.underlying e with
        | some (.int .u8) => match P.underlying src with
          | some _ => if 2 ^ 40 < cs.length then none else new1 nx e false true cs (.buf nx 0 cs.length 1) []
          | none => none
        | _ => none
      | _ => none
    | some .emp => match P.underlying src, P.underlying dst with
      | some (.slice e), some .string => match P.underlying e with
        | some (.int .u8) => val1 nx (.v (.string ⟨#[]⟩))
        | _ => none
      | _, _ => none
    | some (.sym b k lo hi ne) => match P.underlying src, P.underlying dst with
      | some _, some (.int k') => if hi ≤ topK k' then val1 nx (.sym b k' lo hi ne) else none
      | _, _ => none
    | some (.v x) => pureL P nx (convert src dst x)
    | _ => none

def ej_sliceToArrayPointer (P : Program) (nB : Nat) (T : Tr LV) (H : Hp) (nx : Nat) (t : TypeId) (x : Operand) : Option Out :=
  match P.underlying t, opd P T x with
    | some (.array n _), some (.slice b off len _) | some (.array n _), some (.buf b off len _) => if n ≤ len then val1 nx (.ptr b off) else none
    | _, _ => none

def ej_makeFunc (P : Program) (nB : Nat) (T : Tr LV) (H : Hp) (nx : Nat) (f : Fn) (first : Array Operand) (caps : Array Operand) : Option Out :=
  match first.toList, opds P T caps.toList with
    | [], some cs => val1 nx (.fn f cs)
    | _, _ => none

def ej_makeSlice (P : Program) (nB : Nat) (T : Tr LV) (H : Hp) (nx : Nat) (t : TypeId) (l c : Operand) : Option Out :=
  match P.underlying t, opd P T l, opd P T c with
    | some (.slice elem), some l, some c => match natL l, natL c, zeroL P elem, sizeL P elem, P.info? elem with
      | some l, some c, some z, some n, some inf => if l ≤ c ∧ c ≤ 2 ^ 30 ∧ inf.bytes * c ≤ 2 ^ 40 ∧ z.length = n then new1 nx elem true false (repL z c) (.slice nx 0 l c) [] else none
      | _, _, _, _, _ => none
    | _, _, _ => none

def ej_slice (P : Program) (nB : Nat) (T : Tr LV) (H : Hp) (nx : Nat) (t : TypeId) (x : Operand) (lo hi mx : Option Operand) : Option Out :=
  match opd P T x, opds P T (lo.toList ++ hi.toList ++ mx.toList) with
    | some x, some _ => sliceL P H nx t x (lo.bind (opd P T)) (hi.bind (opd P T)) (mx.bind (opd P T))
    | _, _ => none

def ej_fieldAddr (P : Program) (nB : Nat) (T : Tr LV) (H : Hp) (nx : Nat) (s : TypeId) (x : Operand) (f : Nat) : Option Out :=
  match P.underlying s, opd P T x with
    | some (.struct fs), some (.ptr b off) => match fs[f]? with
      | some f => match sizeL P f.type with
        | some (_ + 1) => val1 nx (.ptr b (off + f.offset))
        | _ => none
      | none => none
    | _, _ => none

def ej_field (P : Program) (nB : Nat) (T : Tr LV) (H : Hp) (nx : Nat) (s : TypeId) (x : Operand) (f : Nat) : Option Out :=
  match P.underlying s, opd P T x with
    | some (.struct fs), some (.agg cs) => match fs[f]? with
      | some f => match partL P f.type cs f.offset with | some l => val1 nx l | none => none
      | none => none
    | _, _ => none

def ej_indexAddr (P : Program) (nB : Nat) (T : Tr LV) (H : Hp) (nx : Nat) (t : TypeId) (x i : Operand) : Option Out :=
  match P.underlying t, opd P T x, opd P T i with
    | some (.array n elem), some (.ptr b off), some i => match natL i, sizeL P elem with
      | some i, some e => if i < n then val1 nx (.ptr b (off + i * e)) else none
      | _, _ => none
    | some (.slice elem), some (.slice b off n _), some i | some (.slice elem), some (.buf b off n _), some i => match natL i, sizeL P elem with
      | some i, some e => if i < n then val1 nx (.ptr b (off + i * e)) else none
      | _, _ => none
    | _, _, _ => none

def ej_index (P : Program) (nB : Nat) (T : Tr LV) (H : Hp) (nx : Nat) (t : TypeId) (x i : Operand) : Option Out :=
  match opd P T x, opd P T i with
    | some (.agg cs), some i => match P.underlying t, natL i with
      | some (.array n elem), some i => match sizeL P elem with
        | some e => if i < n then match partL P elem cs (i * e) with | some l => val1 nx l | none => none else none
        | none => none
      | _, _ => none
    | some (.v x), some (.v i) => pureL P nx (Instr.index t x i)
    | _, _ => none

def ej_extract (P : Program) (nB : Nat) (T : Tr LV) (H : Hp) (nx : Nat) (x : Operand) (i : Nat) : Option Out :=
  match opd P T x with
    | some (.tup cs) => match cs[i]? with | some l => val1 nx l | none => none
    | _ => none

def evOpJB (P : Program) (nB : Nat) (callf : FuncId → List LV → Hp → Nat → Option Out) (T : Tr LV) (H : Hp) (nx : Nat) (o : Oper) : Option Out :=
  match o.op with
  | .move x | .assign x => ej_move P nB T H nx x
  | .pick c a b => ej_pick P nB T H nx c a b
  | .alloc t => ej_alloc P nB T H nx t
  | .box t x => ej_box P nB T H nx t x
  | .build t parts => ej_build P nB T H nx t parts
  | .buildSlice t len parts => ej_buildSlice P nB T H nx t len parts
  | .load t a => ej_load P nB T H nx t a
  | .store t a x => ej_store P nB T H nx t a x
  | .nilCheck x => ej_nilCheck P nB T H nx x
  | .binOp op t x y _ => ej_binOp P nB T H nx op t x y
  | .unOp op _ x => ej_unOp P nB T H nx op x
  | .convert src dst x => ej_convert P nB T H nx src dst x
  | .sliceToArrayPointer t x => ej_sliceToArrayPointer P nB T H nx t x
  | .makeFunc f first caps => ej_makeFunc P nB T H nx f first caps
  | .makeSlice t l c => ej_makeSlice P nB T H nx t l c
  | .slice t x lo hi mx => ej_slice P nB T H nx t x lo hi mx
  | .fieldAddr s x f => ej_fieldAddr P nB T H nx s x f
  | .field s x f => ej_field P nB T H nx s x f
  | .indexAddr t x i => ej_indexAddr P nB T H nx t x i
  | .index t x i => ej_index P nB T H nx t x i
  | .extract x i => ej_extract P nB T H nx x i
  | .call c => callL P nB callf T H nx c o.type
  | _ => none
theorem evOpJB_eq (P : Program) (nB : Nat) (callf : FuncId → List LV → Hp → Nat → Option Out) (T : Tr LV) (H : Hp) (nx : Nat) (o : Oper) : evOpJB P nB callf T H nx o = evOpB P nB callf T H nx o := by
  unfold evOpJB evOpB
  cases o.op <;> rfl
def evOpJ (P : Program) (nB : Nat) (callf : FuncId → List LV → Hp → Nat → Option Out) (T : Tr LV) (H : Hp) (nx : Nat) (o : Oper) : Option Out := orH P callf T nx o (evOpJB P nB callf T H nx o)
theorem evOpJ_eq (P : Program) (nB : Nat) (callf : FuncId → List LV → Hp → Nat → Option Out) (T : Tr LV) (H : Hp) (nx : Nat) (o : Oper) : evOpJ P nB callf T H nx o = evOp P nB callf T H nx o := by
  unfold evOpJ evOp
  rw [evOpJB_eq]
end Go.Proofs.YtjpfhhndjpdmoaaGreatDoor

namespace Go.Proofs.YtjpfhhndjpdmoaaGreatDoor
set_option linter.unusedVariables false
set_option linter.unusedSimpArgs false

def seqK {α : Type} (n : Nat) (f : Nat → α) : α := match n with | 0 => f 0 | k + 1 => f (Nat.succ k)
theorem seqK_eq {α : Type} (n : Nat) (f : Nat → α) : seqK n f = f n := by cases n <;> rfl
def putK (nt : Nat) (T : Tr LV) (dst : Option Tmp) (v : LV) : Tr LV := match dst with
  | some d => match Nat.ble (Nat.succ d) nt with | true => T.set d (some v) | false => T
  | none => T
theorem putK_eq (nt : Nat) (T : Tr LV) (dst : Option Tmp) (v : LV) : putK nt T dst v = putT nt T dst v := by
  unfold putK putT
  cases dst with
  | none => rfl
  | some d =>
    by_cases h : d < nt
    · have : Nat.ble (Nat.succ d) nt = true := Nat.ble_eq_true_of_le h
      simp only [this, h, if_true]
    · have : Nat.ble (Nat.succ d) nt = false := by
        cases hb : Nat.ble (Nat.succ d) nt with
        | false => rfl
        | true => exact absurd (Nat.le_of_ble_eq_true hb) h
      simp only [this, h, if_false]
theorem ble_if {α : Type} (a b : Nat) (x : Option α) : (match Nat.ble a b with | true => x | false => none) = if a ≤ b then x else none := by
  by_cases h : a ≤ b
  · rw [Nat.ble_eq_true_of_le h, if_pos h]
  · have : Nat.ble a b = false := by
      cases hb : Nat.ble a b with
      | false => rfl
      | true => exact absurd (Nat.le_of_ble_eq_true hb) h
    rw [this, if_neg h]
section
variable (P : Program) (nB : Nat) (callf : FuncId → List LV → Hp → Nat → Option Out)
def evSeqK (nt : Nat) (ops : Array Oper) : List Oper → Tr LV → Hp → Nat → List Nat → Option St
  | [], T, H, nx, wr => some ⟨nt, T, H, nx, wr⟩
  | o :: l, T, H, nx, wr => match wantL ops T o with
    | some true => match evOpJ P nB callf T H nx o with
      | some ⟨v, d, nx', _⟩ => seqK nx' fun nx' => match Nat.ble nx nx' with
        | true => evSeqK nt ops l (putK nt T o.dst v) (H.app d) nx' (oldW nx d ++ wr)
        | false => none
      | none => none
    | some false => evSeqK nt ops l (putK nt T o.dst (.tup [])) H nx wr
    | none => none
theorem evSeqK_eq (nt : Nat) (ops : Array Oper) (l : List Oper) : ∀ (T : Tr LV) (H : Hp) (nx : Nat) (wr : List Nat), evSeqK P nB callf nt ops l T H nx wr = evSeq P nB callf ops l ⟨nt, T, H, nx, wr⟩ := by
  induction l with
  | nil => intros; rfl
  | cons o l ih =>
    intro T H nx wr
    unfold evSeqK evSeq
    simp only [seqK_eq, putK_eq, ih, ble_if, evOpJ_eq]
    cases wantL ops T o with
    | none => rfl
    | some b => cases b with
      | false => rfl
      | true => cases evOp P nB callf T H nx o with
        | none => rfl
        | some out => rfl
def evDrawK (nt : Nat) (ops : Array Oper) (H : Hp) : List Oper → List Nat → Nat → Tr LV → Nat → List Rc → Option (Tr LV × Nat × List Rc)
  | [], _, _, T, nx, rs => some (T, nx, rs)
  | o :: l, m :: ms, k, T, nx, rs => match wantL ops T o with
    | some true => match evOpJ P nB callf T (overH H m rs) nx o with
      | some ⟨v, d, nx', foot⟩ => seqK nx' fun nx' => match Nat.ble nx nx' with
        | true => match freeB m (oldW nx d) foot rs with
          | true => match dOk (overH H m rs) nx nx' foot d with
            | true => seqK (Nat.succ k) fun k' => evDrawK nt ops H l ms k' (putK nt T o.dst v) nx' (⟨k, d, nx, foot⟩ :: rs)
            | false => none
          | false => none
        | false => none
      | none => none
    | some false => seqK (Nat.succ k) fun k' => evDrawK nt ops H l ms k' (putK nt T o.dst (.tup [])) nx (⟨k, [], nx, some []⟩ :: rs)
    | none => none
  | _ :: _, [], _, _, _, _ => none
theorem evDrawK_eq (nt : Nat) (ops : Array Oper) (H : Hp) (l : List Oper) : ∀ (ms : List Nat) (k : Nat) (T : Tr LV) (nx : Nat) (rs : List Rc), evDrawK P nB callf nt ops H l ms k T nx rs = evDraw P nB callf nt ops H l ms k T nx rs := by
  induction l with
  | nil => intro ms; cases ms <;> (intros; rfl)
  | cons o l ih =>
    intro ms k T nx rs
    cases ms with
    | nil => rfl
    | cons m ms =>
      unfold evDrawK evDraw
      simp only [seqK_eq, putK_eq, ih, ble_if, evOpJ_eq]
      cases wantL ops T o with
      | none => rfl
      | some b => cases b with
        | false => rfl
        | true => cases evOp P nB callf T (overH H m rs) nx o with
          | none => rfl
          | some out =>
            dsimp only
            by_cases h1 : nx ≤ out.nx
            · rw [if_pos h1]
              cases h2 : freeB m (oldW nx out.d) out.foot rs with
              | false => rw [if_neg (by simp)]
              | true =>
                cases h3 : dOk (overH H m rs) nx out.nx out.foot out.d with
                | false => rw [if_neg (by simp)]
                | true => rw [if_pos ⟨h1, rfl, rfl⟩]
            · rw [if_neg h1, if_neg (fun h => h1 h.1)]
def evRegK (ops : Array Oper) (draw : Bool) : St → Option St
  | ⟨nt, T, H, nx, wr⟩ => match draw with
    | false => evSeqK P nB callf nt ops ops.toList T H nx wr
    | true => match regB ops with
      | true => match evDrawK P nB callf nt ops H ops.toList (pastsL ops.toList []) 0 T nx [] with
        | some (T, nx, rs) => some ⟨nt, T, allH H rs, nx, wrOf rs ++ wr⟩
        | none => none
      | false => none
theorem evRegK_eq (ops : Array Oper) (draw : Bool) (s : St) : evRegK P nB callf ops draw s = evReg P nB callf ops draw s := by
  cases s with
  | mk nt T H nx wr =>
    cases draw with
    | false => exact evSeqK_eq P nB callf nt ops _ T H nx wr
    | true =>
      unfold evRegK evReg
      simp only [evDrawK_eq]
      cases regB ops with
      | true => rfl
      | false => rfl
def evCK : Nat → Code → St → Option (Ex × St)
  | 0, _, _ => none
  | n + 1, c, s => match c with
    | .skip => some (.normal, s)
    | .region _ ops draw => match evRegK P nB callf ops draw s with | some s => some (.normal, s) | none => none
    | .seq a b => match evCK n a s with
      | some (.normal, s) => evCK n b s
      | r => r
    | .cond c a b => match opd P s.T c with
      | some (.v (.bool true)) => evCK n a s
      | some (.v (.bool false)) => evCK n b s
      | _ => none
    | .block id b => match evCK n b s with
      | some (.exit i, s) => match Nat.beq i id with | true => some (.normal, s) | false => some (.exit i, s)
      | r => r
    | .loop b => match evCK n b s with
      | some (.normal, s) => evCK n (.loop b) s
      | r => r
    | .exit id => some (.exit id, s)
    | .ret => some (.ret, s)
    | _ => none
theorem evCK_eq : ∀ (n : Nat) (c : Code) (s : St), evCK P nB callf n c s = evC P nB callf n c s := by
  intro n
  induction n with
  | zero => intros; rfl
  | succ n ih =>
    intro c s
    cases c with
    | block id b =>
      unfold evCK evC
      simp only [ih]
      cases evC P nB callf n b s with
      | none => rfl
      | some r =>
        obtain ⟨e, s'⟩ := r
        cases e with
        | normal => rfl
        | ret => rfl
        | exit i =>
          dsimp only
          by_cases h : i = id
          · subst h; rw [if_pos rfl, Nat.beq_refl]
          · rw [if_neg h]
            have : Nat.beq i id = false := by
              cases hb : Nat.beq i id with
              | false => rfl
              | true => exact absurd (Nat.eq_of_beq_eq_true hb) h
            rw [this]
    | _ => (unfold evCK evC; simp only [ih, evRegK_eq]; try rfl)
end
def evFK (P : Program) (nB lf : Nat) (orc : Orc) : Nat → FuncId → List LV → Hp → Nat → Option Out
  | 0, _, _, _, _ => none
  | n + 1, f, args, H, nx => match orc f with
    | some g => g args H nx
    | none => match P.funcs[f]? with
      | some fn => match fn.body with
        | some c => seqK (args.length + (fn.ntmps - args.length)) fun nt =>
          match evCK P nB (evFK P nB lf orc n) lf c ⟨nt, argsT 0 args .nil, H, nx, []⟩ with
          | some (.exit _, _) => none
          | some (_, ⟨_, T, H', nx', wr⟩) => match resL P T H' fn.results.toList with
            | some rs => let v := oneL rs; let od := olds nx H' wr .nil
              some ⟨v, od ++ reach nx H' (nx' + 100000) (v.ids ++ idsD od) .nil [], nx', none⟩
            | none => none
          | none => none
        | none => none
      | none => none
theorem evFK_eq (P : Program) (nB lf : Nat) (orc : Orc) (n : Nat) : evFK P nB lf orc n = evF P nB lf orc n := by
  induction n with
  | zero => rfl
  | succ n ih =>
    funext f args H nx
    unfold evFK evF
    simp only [ih, seqK_eq, evCK_eq]
    cases orc f with
    | some g => rfl
    | none =>
      dsimp only
      cases P.funcs[f]? with
      | none => rfl
      | some fn =>
        dsimp only
        cases fn.body with
        | none => rfl
        | some c =>
          dsimp only
          cases evC P nB (evF P nB lf orc n) lf c ⟨args.length + (fn.ntmps - args.length), argsT 0 args .nil, H, nx, []⟩ with
          | none => rfl
          | some r =>
            obtain ⟨e, s⟩ := r
            cases s
            cases e <;> rfl
end Go.Proofs.YtjpfhhndjpdmoaaGreatDoor

namespace Go.Proofs.YtjpfhhndjpdmoaaGreatDoor
set_option linter.unusedVariables false
set_option linter.unusedSimpArgs false
set_option autoImplicit false

noncomputable def seqQ {α : Type} (n : Nat) (f : Nat → α) : α := Nat.rec (f 0) (fun k _ => f (Nat.succ k)) n
theorem seqQ_eq {α : Type} (n : Nat) (f : Nat → α) : seqQ n f = f n := by cases n <;> rfl
noncomputable def obind {α β : Type} (x : Option α) (k : α → Option β) : Option β := Option.rec none k x
theorem obind_eq {α β : Type} (x : Option α) (k : α → Option β) : obind x k = (match x with | some a => k a | none => none) := by cases x <;> rfl
noncomputable def bsel {α : Type} (b : Bool) (x y : α) : α := Bool.rec y x b
theorem bsel_eq {α : Type} (b : Bool) (x y : α) : bsel b x y = (match b with | true => x | false => y) := by cases b <;> rfl
section
variable {α : Type}
noncomputable def getQ (t : Tr α) : Nat → Option α :=
  Tr.rec (fun _ => none) (fun l v r il ir n => Nat.rec v (fun k _ => Nat.rec (il (Nat.div k 2)) (fun _ _ => ir (Nat.div k 2)) (Nat.mod k 2)) n) t
theorem getQ_eq (t : Tr α) : ∀ n, getQ t n = t.get n := by
  induction t with
  | nil => intro n; rfl
  | node l v r hl hr =>
    intro n
    cases n with
    | zero => rfl
    | succ k =>
      have e1 : getQ (Tr.node l v r) (k + 1) = Nat.rec (getQ l (k / 2)) (fun _ _ => getQ r (k / 2)) (k % 2) := rfl
      rw [e1, hl, hr]
      have e2 : (Tr.node l v r).get (k + 1) = (match k % 2 with | 0 => l.get (k / 2) | _ + 1 => r.get (k / 2)) := rfl
      rw [e2]
      cases k % 2 <;> rfl
noncomputable def setQ (f : Nat) : Tr α → Nat → Option α → Tr α :=
  Nat.rec (fun t _ _ => t) (fun _ ih t n x => Tr.rec
    (Nat.rec (.node .nil x .nil) (fun k _ => Nat.rec (.node (ih .nil (Nat.div k 2) x) none .nil) (fun _ _ => .node .nil none (ih .nil (Nat.div k 2) x)) (Nat.mod k 2)) n)
    (fun l v r _ _ => Nat.rec (.node l x r) (fun k _ => Nat.rec (.node (ih l (Nat.div k 2) x) v r) (fun _ _ => .node l v (ih r (Nat.div k 2) x)) (Nat.mod k 2)) n) t) f
theorem setQ_eq (f : Nat) : ∀ (t : Tr α) (n : Nat) (x : Option α), setQ f t n x = Tr.setF f t n x := by
  induction f with
  | zero => intro t n x; rfl
  | succ f ih =>
    intro t n x
    cases t with
    | nil =>
      cases n with
      | zero => rfl
      | succ k =>
        have e1 : setQ (f + 1) Tr.nil (k + 1) x = Nat.rec (.node (setQ f .nil (k / 2) x) none .nil) (fun _ _ => .node .nil none (setQ f .nil (k / 2) x)) (k % 2) := rfl
        have e2 : Tr.setF (f + 1) (Tr.nil : Tr α) (k + 1) x = (match k % 2 with | 0 => .node (Tr.setF f .nil (k / 2) x) none .nil | _ + 1 => .node .nil none (Tr.setF f .nil (k / 2) x)) := rfl
        rw [e1, e2]
        cases k % 2 <;> (simp only [ih] <;> rfl)
    | node l v r =>
      cases n with
      | zero => rfl
      | succ k =>
        have e1 : setQ (f + 1) (Tr.node l v r) (k + 1) x = Nat.rec (.node (setQ f l (k / 2) x) v r) (fun _ _ => .node l v (setQ f r (k / 2) x)) (k % 2) := rfl
        have e2 : Tr.setF (f + 1) (Tr.node l v r) (k + 1) x = (match k % 2 with | 0 => .node (Tr.setF f l (k / 2) x) v r | _ + 1 => .node l v (Tr.setF f r (k / 2) x)) := rfl
        rw [e1, e2]
        cases k % 2 <;> (simp only [ih] <;> rfl)
end
noncomputable def opdQ (x : Operand) : Program → Tr LV → Option LV :=
  Operand.rec (fun t _ T => getQ T t) (fun x _ _ => lvOf x) (fun g P _ => if g < P.globals.size then some (.ptr g 0) else none) (fun f _ _ => some (.fn (.func f) [])) x
theorem opdQ_eq (P : Program) (T : Tr LV) (x : Operand) : opdQ x P T = opd P T x := by
  cases x with
  | tmp t => exact getQ_eq T t
  | _ => rfl
noncomputable def putQ (d : Option Tmp) (nt : Nat) (T : Tr LV) (v : LV) : Tr LV := Option.rec T (fun d => bsel (Nat.ble (Nat.succ d) nt) (setQ (Nat.succ d) T d (some v)) T) d
theorem putQ_eq (d : Option Tmp) (nt : Nat) (T : Tr LV) (v : LV) : putQ d nt T v = putK nt T d v := by
  cases d with
  | none => rfl
  | some d =>
    have e1 : putQ (some d) nt T v = bsel (Nat.ble (Nat.succ d) nt) (setQ (Nat.succ d) T d (some v)) T := rfl
    rw [e1, setQ_eq, bsel_eq]
    all_goals rfl
noncomputable def appQ (d : Dl) : Hp → Hp := List.rec (fun H => H) (fun x _ ih H => ih (setQ (Nat.succ x.1) H x.1 x.2)) d
theorem appQ_eq (d : Dl) : ∀ H : Hp, appQ d H = H.app d := by
  induction d with
  | nil => intro H; rfl
  | cons x d ih =>
    intro H
    obtain ⟨i, b⟩ := x
    have e1 : appQ ((i, b) :: d) H = appQ d (setQ (Nat.succ i) H i b) := rfl
    rw [e1, ih, setQ_eq]
    all_goals rfl
noncomputable def guardQ (P : Program) (ops : Array Oper) (T : Tr LV) (o : Oper) : Option Bool := Option.rec (some true) (fun _ => wantL ops T o) o.guard
theorem guardQ_eq (P : Program) (ops : Array Oper) (T : Tr LV) (o : Oper) : guardQ P ops T o = wantL ops T o := by
  unfold guardQ wantL
  cases o.guard <;> rfl
abbrev CFn := FuncId → List LV → Hp → Nat → Option Out
noncomputable def moveQ (x : Operand) (P : Program) (T : Tr LV) (nx : Nat) : Option Out := obind (opdQ x P T) fun a => some ⟨a, [], nx, some []⟩
end Go.Proofs.YtjpfhhndjpdmoaaGreatDoor

namespace Go.Proofs.YtjpfhhndjpdmoaaGreatDoor
set_option linter.unusedVariables false
set_option linter.unusedSimpArgs false
set_option autoImplicit false

noncomputable def nthQ (cs : List LV) : Nat → Option LV := List.rec (fun _ => none) (fun x _ ih n => Nat.rec (some x) (fun k _ => ih k) n) cs
theorem nthQ_eq (cs : List LV) : ∀ n, nthQ cs n = cs[n]? := by
  induction cs with
  | nil => intro n; rfl
  | cons x cs ih =>
    intro n
    cases n with
    | zero => rfl
    | succ n => rw [List.getElem?_cons_succ]; exact ih n
def kindL (P : Program) (t : TypeId) : Option (Option Nat) := match isAggL P t, sizeL P t with
  | some true, some n => some (some n)
  | some false, some _ => some none
  | _, _ => none
noncomputable def partQ (P : Program) (t : TypeId) (cs : List LV) (off : Nat) : Option LV :=
  obind (kindL P t) fun q => Option.rec (nthQ cs off) (fun n => if ((cs.drop off).take n).length = n then some (.agg ((cs.drop off).take n)) else none) q
theorem partQ_eq (P : Program) (t : TypeId) (cs : List LV) (off : Nat) : partQ P t cs off = partL P t cs off := by
  unfold partQ partL kindL
  cases isAggL P t with
  | none => rfl
  | some b => cases b with
    | true => cases sizeL P t <;> rfl
    | false => cases sizeL P t with
      | none => rfl
      | some n => exact nthQ_eq cs off
def ptrQ (p : LV) : (Nat → Nat → Option Out) → Option Out := match p with
  | .ptr b off => fun k => k b off
  | _ => fun _ => none
noncomputable def loadQ (t : TypeId) (a : Operand) (P : Program) (T : Tr LV) (H : Hp) (nx : Nat) : Option Out :=
  obind (opdQ a P T) fun p => ptrQ p fun b off => obind (getQ H b) fun k => obind (partQ P t k.cells off) fun l => some ⟨l, [], nx, some [b]⟩
theorem loadQ_eq (P : Program) (nB : Nat) (T : Tr LV) (H : Hp) (nx : Nat) (t : TypeId) (a : Operand) : loadQ t a P T H nx = ej_load P nB T H nx t a := by
  unfold loadQ ej_load
  simp only [opdQ_eq, obind_eq, getQ_eq, partQ_eq]
  cases opd P T a with
  | none => rfl
  | some p => cases p with
    | ptr b off =>
      simp only [ptrQ]
      cases H.get b with
      | none => rfl
      | some k =>
        dsimp only
        cases partL P t k.cells off <;> rfl
    | _ => rfl
def boolQ (p : LV) : (Bool → Option Out) → Option Out := match p with
  | .v (.bool b) => fun k => k b
  | _ => fun _ => none
noncomputable def pickQ (c a b : Operand) (P : Program) (T : Tr LV) (nx : Nat) : Option Out :=
  obind (opdQ c P T) fun c => boolQ c fun t => obind (opdQ a P T) fun a => obind (opdQ b P T) fun b => some ⟨bsel t a b, [], nx, some []⟩
theorem pickQ_eq (P : Program) (nB : Nat) (T : Tr LV) (H : Hp) (nx : Nat) (c a b : Operand) : pickQ c a b P T nx = ej_pick P nB T H nx c a b := by
  unfold pickQ ej_pick
  simp only [opdQ_eq, obind_eq]
  cases opd P T c with
  | none => rfl
  | some p => cases p with
    | v x => cases x with
      | bool t =>
        simp only [boolQ]
        cases opd P T a with
        | none => rfl
        | some a' => cases opd P T b with
          | none => rfl
          | some b' => cases t <;> rfl
      | _ => rfl
    | _ => rfl
def idxK (P : Program) (t : TypeId) : Option (Option Nat × Nat) := match P.underlying t with
  | some (.array n e) => match sizeL P e with | some s => some (some n, s) | none => none
  | some (.slice e) => match sizeL P e with | some s => some (none, s) | none => none
  | _ => none
def natQ (p : LV) : (Nat → Option Out) → Option Out := match p with
  | .v (.int _ (.ofNat n)) => fun k => k n
  | _ => fun _ => none
def baseQ (p : LV) : Option Nat → (Nat → Nat → Nat → Option Out) → Option Out := match p with
  | .ptr b off => fun n k => match n with | some n => k b off n | none => none
  | .slice b off n _ => fun m k => match m with | none => k b off n | some _ => none
  | .buf b off n _ => fun m k => match m with | none => k b off n | some _ => none
  | _ => fun _ _ => none
noncomputable def indexAddrQ (t : TypeId) (x i : Operand) (P : Program) (T : Tr LV) (nx : Nat) : Option Out :=
  obind (idxK P t) fun q => obind (opdQ x P T) fun x => baseQ x q.1 fun b off n => obind (opdQ i P T) fun i => natQ i fun i => bsel (Nat.ble (Nat.succ i) n) (seqQ (Nat.add off (Nat.mul i q.2)) fun o => some ⟨.ptr b o, [], nx, some []⟩) none
theorem bsel_lt {α : Type} (i n : Nat) (x : Option α) : bsel (Nat.ble (Nat.succ i) n) x none = if i < n then x else none := by
  rw [bsel_eq]
  by_cases h : i < n
  · rw [if_pos h, Nat.ble_eq_true_of_le (show Nat.succ i ≤ n from h)]
  · rw [if_neg h]
    cases hb : Nat.ble (Nat.succ i) n with
    | false => rfl
    | true => exact absurd (Nat.le_of_ble_eq_true hb) h
theorem natQ_eq (p : LV) (k : Nat → Option Out) : natQ p k = (match natL p with | some n => k n | none => none) := by
  cases p with
  | v x => cases x with
    | int q n => cases n <;> rfl
    | _ => rfl
  | _ => rfl
theorem indexAddrQ_eq (P : Program) (nB : Nat) (T : Tr LV) (H : Hp) (nx : Nat) (t : TypeId) (x i : Operand) : indexAddrQ t x i P T nx = ej_indexAddr P nB T H nx t x i := by
  unfold indexAddrQ ej_indexAddr idxK
  simp only [opdQ_eq, obind_eq, natQ_eq, bsel_lt, seqQ_eq]
  cases P.underlying t with
  | none => rfl
  | some u => cases u with
    | array n e =>
      dsimp only
      cases hs : sizeL P e with
      | none =>
        dsimp only
        cases opd P T x with
        | none => rfl
        | some p => cases p with
          | ptr b off => cases opd P T i with
            | none => rfl
            | some iv => simp only [hs]; cases natL iv <;> rfl
          | _ => rfl
      | some s =>
        dsimp only
        cases opd P T x with
        | none => rfl
        | some p => cases p with
          | ptr b off => cases opd P T i with
            | none => rfl
            | some iv => simp only [hs, baseQ]; cases natL iv <;> rfl
          | _ => rfl
    | slice e =>
      dsimp only
      cases hs : sizeL P e with
      | none =>
        dsimp only
        cases opd P T x with
        | none => rfl
        | some p => cases p with
          | slice b off n c => cases opd P T i with
            | none => rfl
            | some iv => simp only [hs]; cases natL iv <;> rfl
          | buf b off n c => cases opd P T i with
            | none => rfl
            | some iv => simp only [hs]; cases natL iv <;> rfl
          | _ => rfl
      | some s =>
        dsimp only
        cases opd P T x with
        | none => rfl
        | some p => cases p with
          | slice b off n c => cases opd P T i with
            | none => rfl
            | some iv => simp only [hs, baseQ]; cases natL iv <;> rfl
          | buf b off n c => cases opd P T i with
            | none => rfl
            | some iv => simp only [hs, baseQ]; cases natL iv <;> rfl
          | _ => rfl
    | _ => rfl
def fieldK (P : Program) (s : TypeId) (f : Nat) : Option Nat := match P.underlying s with
  | some (.struct fs) => match fs[f]? with
    | some f => match sizeL P f.type with
      | some (_ + 1) => some f.offset
      | _ => none
    | none => none
  | _ => none
noncomputable def fieldAddrQ (s : TypeId) (x : Operand) (f : Nat) (P : Program) (T : Tr LV) (nx : Nat) : Option Out :=
  obind (fieldK P s f) fun o => obind (opdQ x P T) fun x => ptrQ x fun b off => seqQ (Nat.add off o) fun o => some ⟨.ptr b o, [], nx, some []⟩
theorem fieldAddrQ_eq (P : Program) (nB : Nat) (T : Tr LV) (H : Hp) (nx : Nat) (s : TypeId) (x : Operand) (f : Nat) : fieldAddrQ s x f P T nx = ej_fieldAddr P nB T H nx s x f := by
  unfold fieldAddrQ ej_fieldAddr fieldK
  simp only [opdQ_eq, obind_eq, seqQ_eq]
  cases P.underlying s with
  | none => rfl
  | some u => cases u with
    | struct fs =>
      dsimp only
      cases opd P T x with
      | none =>
        cases fs[f]? with
        | none => rfl
        | some fl => dsimp only; cases sizeL P fl.type with
          | none => rfl
          | some n => cases n <;> rfl
      | some p =>
        cases hf : fs[f]? with
        | none => cases p <;> simp only [hf]
        | some fl =>
          cases hs : sizeL P fl.type with
          | none => cases p <;> simp only [hf, hs, ptrQ]
          | some n => cases n <;> cases p <;> simp only [hf, hs, ptrQ] <;> rfl
    | _ => rfl
end Go.Proofs.YtjpfhhndjpdmoaaGreatDoor
