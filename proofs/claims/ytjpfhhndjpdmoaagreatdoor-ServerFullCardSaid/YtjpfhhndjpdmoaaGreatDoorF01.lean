/- Part of the proof: Ev,EvC,EvR. No conditions of its own. -/
import Derived.KernelRfl
import Derived.Orders
import Derived.RowKit3
import Derived.Below
import Derived.Laws.CopyRow
namespace Go.Proofs.YtjpfhhndjpdmoaaGreatDoor
set_option linter.unusedVariables false

inductive LV where
 | v (x:Value)
 | ptr (b off:Nat)
 | slice (b off len cap:Nat)
 /-- a slice,elements of e cells,whose capacity goes to its block's end,wherever that is -/
 | buf (b off len e:Nat)
 /-- an empty slice that is not nil,of whatever capacity -/
 | emp
 /-- a number of the kind k,known by name alone: lo to hi,and none of those named -/
 | sym (b:Nat) (k:IntKind) (lo hi:Nat) (ne:List Nat)
 /-- a slice,a pointer from outside: numbers b (block,place),b + 1 (length,capacity),b + 2 (nought: nil) -/
 | outS (b:Nat)
 | outP (b:Nat)
 /-- a string,byte by byte -/
 | str (cs:List LV)
 | fn (f:Fn) (caps:List LV)
 /-- a value under an interface -/
 | ifc (t:TypeId) (x:LV)
 | agg (cs:List LV)
 | tup (cs:List LV)
structure Blk where
 elem : TypeId
 exact : Bool
 /-- whether it may be marked behind its last cell -/
 mrk : Bool
 cells : List LV
inductive Tr (α : Type) where
 | nil
 | node (l:Tr α) (v:Option α) (r:Tr α)
namespace Tr
variable {α : Type}
def get : Tr α → Nat → Option α
 | .nil,_=>none
 | .node l v r,n=>match n with
  | 0=>v
  | k + 1=>match k % 2 with
   | 0=>l.get (k / 2)
   | _ + 1=>r.get (k / 2)
def setF : Nat → Tr α → Nat → Option α → Tr α
 | 0,t,_,_=>t
 | f + 1,.nil,n,x=>match n with
  | 0=>.node .nil x .nil
  | k + 1=>match k % 2 with
   | 0=>.node (setF f .nil (k / 2) x) none .nil
   | _ + 1=>.node .nil none (setF f .nil (k / 2) x)
 | f + 1,.node l v r,n,x=>match n with
  | 0=>.node l x r
  | k + 1=>match k % 2 with
   | 0=>.node (setF f l (k / 2) x) v r
   | _ + 1=>.node l v (setF f r (k / 2) x)
def set (t:Tr α) (n:Nat) (x:Option α) : Tr α:=setF (n + 1) t n x
end Tr
abbrev Hp:=Tr Blk
abbrev Dl:=List (Nat × Option Blk)
def Hp.app (H:Hp) : Dl → Hp
 | []=>H
 | (i,b) :: d=>Hp.app (H.set i b) d
structure Out where
 v : LV
 d : Dl
 nx : Nat
 foot : Option (List Nat)
def plainV : Value → Bool
 | .bool _ | .int _ _ | .string _ | .pointer none | .slice none 0 0 | .nilFunc | .nilIface | .map none=>true
 | _=>false
def LV.isOne : LV → Bool
 | .agg _ | .tup _=>false
 | _=>true
def LV.cells : LV → List LV
 | .agg cs=>cs
 | x=>[x]
def LV.valsL : List LV → Option (List Value)
 | []=>some []
 | .v x :: l=>(valsL l).map (x :: ·)
 | _ :: _=>none
def LV.val? : LV → Option Value
 | .v x=>some x
 | .agg cs=>(valsL cs).map fun l=>.agg l.toArray
 | _=>none
def lvsOf : List Value → Option (List LV)
 | []=>some []
 | x :: l=>if plainV x then (lvsOf l).map (.v x :: ·) else none
def lvOf : Value → Option LV
 | .agg cs=>(lvsOf cs.toList).map .agg
 | x=>if plainV x then some (.v x) else none
def pureRun {α : Type} (P:Program) : Sem α → Option α
 | .pure a=>some a
 | .program k=>pureRun P (k P)
 | .mark _ k=>pureRun P k
 | _=>none
def topK (k:IntKind) : Nat:=match k with | .i8=>127 | .i16=>32767 | .i32=>2147483647 | .i64=>9223372036854775807 | .u8=>255 | .u16=>65535 | .u32=>4294967295 | .u64=>18446744073709551615
def symCmp (op:BinOp) (lo hi n:Nat) : Option Bool:=match op with
 | .lss=>if hi < n then some true else if n ≤ lo then some false else none
 | .leq=>if hi ≤ n then some true else if n < lo then some false else none
 | .gtr=>if n < lo then some true else if hi ≤ n then some false else none
 | .geq=>if n ≤ lo then some true else if hi < n then some false else none
 | .eql=>if n < lo ∨ hi < n then some false else none
 | .neq=>if n < lo ∨ hi < n then some true else none
 | _=>none
def symSame (op:BinOp) : Option Bool:=match op with
 | .leq | .geq | .eql=>some true
 | .lss | .gtr | .neq=>some false
 | _=>none
def symDiff (op:BinOp) : Option Bool:=match op with
 | .eql=>some false
 | .neq=>some true
 | _=>none
def byteLV : LV → Bool
 | .v (.int .u8 (.ofNat n))=>Nat.ble n 255
 | .sym _ .u8 _ _ _=>true
 | _=>false
def strCs : LV → Option (List LV)
 | .v (.string s)=>some (s.data.toList.map fun b=>.v (.int .u8 b.toNat))
 | .str cs=>some cs
 | _=>none
def cmp1 : LV → LV → Option Bool
 | .v (.int .u8 (.ofNat m)),.v (.int .u8 (.ofNat n))=>some (Nat.beq m n)
 | .sym b _ lo hi ne,.sym b' _ lo' hi' ne'=>match Nat.beq b b' with
  | true=>some true
  | false=>match ne.contains b' || (ne'.contains b || (Nat.ble (hi + 1) lo' || Nat.ble (hi' + 1) lo)) with
   | true=>some false
   | false=>none
 | .sym _ _ lo hi _,.v (.int .u8 (.ofNat n)) | .v (.int .u8 (.ofNat n)),.sym _ _ lo hi _=>match Nat.ble (n + 1) lo || Nat.ble (hi + 1) n with
  | true=>some false
  | false=>none
 | _,_=>none
def cmpL : List LV → List LV → Option Bool
 | [],[]=>some true
 | x :: l,y :: m=>match cmpL l m,cmp1 x y with
  | some false,_=>some false
  | _,some false=>some false
  | some true,some true=>some true
  | _,_=>none
 | [],_ :: _=>some false
 | _ :: _,[]=>some false
def symRng (op:BinOp) (lo hi lo' hi':Nat) : Option Bool:=match op with
 | .lss=>if hi < lo' then some true else if hi' ≤ lo then some false else none
 | .leq=>if hi ≤ lo' then some true else if hi' < lo then some false else none
 | .gtr=>if hi' < lo then some true else if hi ≤ lo' then some false else none
 | .geq=>if hi' ≤ lo then some true else if hi < lo' then some false else none
 | .eql=>if hi < lo' ∨ hi' < lo then some false else none
 | .neq=>if hi < lo' ∨ hi' < lo then some true else none
 | _=>none
def symTwo (op:BinOp) (b b':Nat) (ne ne':List Nat) (lo hi lo' hi':Nat) : Option Bool:=if b = b' then symSame op else
 match (if ne.contains b' = true ∨ ne'.contains b = true then symDiff op else none) with
 | some r=>some r
 | none=>symRng op lo hi lo' hi'
def strOpL (op:BinOp) (a b:LV) : Option LV:=match strCs a,strCs b with
 | some l,some m=>match op with
  | .eql=>(cmpL l m).map fun r=>.v (.bool r)
  | .neq=>(cmpL l m).map fun r=>.v (.bool (!r))
  | .add=>if l.length + m.length ≤ 2 ^ 40 then some (.str (l ++ m)) else none
  | _=>none
 | _,_=>none
def oddL (op:BinOp) : LV → LV → Option LV
 | .sym _ k _ _ _,.v (.int k' (.negSucc _))=>if k = k' then (match op with
  | .eql | .lss | .leq=>some (.v (.bool false))
  | .neq | .gtr | .geq=>some (.v (.bool true))
  | _=>none) else none
 | .v (.int k (.ofNat n)),.sym _ k' lo hi _=>if k = k' then (symRng op n n lo hi).map fun r=>.v (.bool r) else none
 | a,b=>strOpL op a b
section
variable (P:Program) (nB:Nat)
def opd (T:Tr LV) : Operand → Option LV
 | .tmp t=>T.get t
 | .const x=>lvOf x
 | .global g=>if g < P.globals.size then some (.ptr g 0) else none
 | .func f=>some (.fn (.func f) [])
def opds (T:Tr LV) : List Operand → Option (List LV)
 | []=>some []
 | x :: l=>match opd P T x with
  | some a=>(opds T l).map (a :: ·)
  | none=>none
def zeroL (t:TypeId) : Option (List LV) :=
 match P.info? t with
 | some i=>match i.zero with
  | some z=>lvsOf z.cells.toList
  | none=>none
 | none=>none
def sizeL (t:TypeId) : Option Nat:=(P.info? t).map (·.size)
def isAggL (t:TypeId) : Option Bool :=
 match P.underlying t with
 | some (.struct _) | some (.array _ _)=>some true
 | some _=>some false
 | none=>none
def partL (t:TypeId) (cs:List LV) (off:Nat) : Option LV :=
 match isAggL P t,sizeL P t with
 | some true,some n=>let l:=(cs.drop off).take n; if l.length = n then some (.agg l) else none
 | some false,some _=>cs[off]?
 | _,_=>none
def putL : List LV → Nat → List LV → List LV
 | cs,_,[]=>cs
 | cs,0,x :: xs=>match cs with
  | []=>[]
  | _ :: cs=>x :: putL cs 0 xs
 | cs,i + 1,xs=>match cs with
  | []=>[]
  | c :: cs=>c :: putL cs i xs
def fillL (place:Nat → Option (Nat × Nat)) : List LV → List (Nat × LV) → Option (List LV)
 | cs,[]=>some cs
 | cs,(i,v) :: rest=>match place i with
  | none=>none
  | some (off,size)=>let l:=v.cells; if l.length = size ∧ off + size ≤ cs.length ∧ l.all LV.isOne = true then fillL place (putL cs off l) rest else none
def partsL (T:Tr LV) : List (Nat × Operand) → Option (List (Nat × LV))
 | []=>some []
 | (i,x) :: l=>match opd P T x with
  | some a=>(partsL T l).map ((i,a) :: ·)
  | none=>none
def placesL : List Field → Option (List (Nat × Nat))
 | []=>some []
 | f :: fs=>match sizeL P f.type with
  | some n=>(placesL fs).map ((f.offset,n) :: ·)
  | none=>none
def intL : LV → Option Int
 | .v (.int _ n)=>some n
 | _=>none
def natL (x:LV) : Option Nat:=match intL x with | some (.ofNat n)=>some n | _=>none
def boundsL (len cap:Option Nat) (n:Nat) (low high max:Option LV) : Option (Nat × Nat):=none
def repL (z:List LV) : Nat → List LV
 | 0=>[]
 | n + 1=>z ++ repL z n
def bytesL : List LV → Option (List UInt8)
 | []=>some []
 | .v (.int .u8 n) :: l=>(bytesL l).map (UInt8.ofNat n.toNat :: ·)
 | _=>none
def firstL (H:Hp) (e n:Nat) : LV → Option (List LV × List Nat)
 | .v (.string s)=>if e = 1 ∧ n ≤ s.size then some ((s.data.toList.take n).map fun b=>.v (.int .u8 b.toNat),[]) else none
 | .v (.slice none _ _)=>if n = 0 then some ([],[]) else none
 | .slice b off _ _ | .buf b off _ _=>if n * e = 0 then some ([],[]) else match H.get b with
  | some k=>let l:=(k.cells.drop off).take (n * e); if l.length = n * e then some (l,[b]) else none
  | none=>none
 | .emp=>if n = 0 then some ([],[]) else none
 | _=>none
def lenL : LV → Option Nat
 | .v (.string s)=>some s.size
 | .v (.slice none n _)=>some n
 | .slice _ _ n _ | .buf _ _ n _=>some n
 | .emp=>some 0
 | _=>none
def new1 (nx:Nat) (t:TypeId) (ex mk:Bool) (cs:List LV) (v:LV) (foot:List Nat) : Option Out :=
 if cs.all LV.isOne then some ⟨v,[(nx,some ⟨t,ex,mk,cs⟩)],nx + 1,some foot⟩ else none
def val1 (nx:Nat) (v:LV) (foot:List Nat:=[]) : Option Out:=some ⟨v,[],nx,some foot⟩
def goI (n:Nat) : LV:=.v (.int .i64 n)
def tailL (H:Hp) (t2:TypeId) (e:Nat) (z:List LV) (x:LV) : Option (Nat × List LV × List Nat) :=
 match P.underlying t2 with
 | some (.int _)=>match natL x with
  | some n=>if n ≤ 2 ^ 30 ∧ z.length = e then some (n,repL z n,[]) else none
  | none=>none
 | some _=>match lenL x with
  | some n=>match firstL H e n x with
   | some (l,f)=>some (n,l,f)
   | none=>none
  | none=>none
 | none=>none
def appendL (H:Hp) (nx:Nat) (argTypes:List TypeId) (s x:LV) : Option Out :=
 match argTypes with
 | t :: t2 :: _=>match P.underlying t with
  | some (.slice elem)=>match sizeL P elem,lenL s,zeroL P elem,P.info? elem with
   | some (e + 1),some sl,some z,some inf=>match tailL P H t2 (e + 1) z x with
    | some (n,new,f1) =>
     if inf.bytes * (2 * (sl + n) + 1024) ≤ 2 ^ 40 ∧ sl + n ≤ 2 ^ 40 ∧ z.length = e + 1 then
     match s with
     | .emp=>if n = 0 then val1 nx .emp f1 else none
     | .v (.slice none 0 0)=>if n = 0 then val1 nx s f1 else new1 nx elem false false new (.buf nx 0 n (e + 1)) f1
     | .slice b off _ c =>
      if sl + n ≤ c then (if nB ≤ b then match H.get b with
       | some k=>if off + sl * (e + 1) + n * (e + 1) ≤ k.cells.length ∧ new.all LV.isOne then some ⟨.slice b off (sl + n) c,[(b,some ⟨k.elem,k.exact,k.mrk,putL k.cells (off + sl * (e + 1)) new⟩)],nx,some (b :: f1)⟩ else none
       | none=>none else none)
      else match firstL H (e + 1) sl s with
       | some (old,f2)=>new1 nx elem false false (old ++ new) (.buf nx 0 (sl + n) (e + 1)) (f1 ++ f2)
       | none=>none
     | .buf b off _ eb=>if nB ≤ b ∧ eb = e + 1 then match H.get b with
       | some k=>if off + (sl + n) * (e + 1) ≤ k.cells.length then
         (if new.all LV.isOne then some ⟨.buf b off (sl + n) eb,[(b,some ⟨k.elem,k.exact,k.mrk,putL k.cells (off + sl * (e + 1)) new⟩)],nx,some (b :: f1)⟩ else none)
        else if off + sl * (e + 1) = k.cells.length ∧ k.elem = elem ∧ new.all LV.isOne then some ⟨.buf nx 0 (sl + n) eb,[(b,none),(nx,some ⟨elem,false,true,k.cells.drop off ++ new⟩)],nx + 1,some (b :: f1)⟩ else none
       | none=>none else none
     | _=>none
     else none
    | none=>none
   | _,_,_,_=>none
  | _=>none
 | _=>none
def copyL (H:Hp) (nx:Nat) (argTypes:List TypeId) (d x:LV) : Option Out :=
 match argTypes with
 | t :: _=>match P.underlying t with
  | some (.slice elem)=>match sizeL P elem,lenL d,lenL x with
   | some (e + 1),some dl,some n=>let m:=Nat.min n dl
    match firstL H (e + 1) m x,d with
    | some (new,f),.slice b off _ _ | some (new,f),.buf b off _ _=>if nB ≤ b then match H.get b with
     | some k=>if off + m * (e + 1) ≤ k.cells.length ∧ new.all LV.isOne then some ⟨goI m,[(b,some ⟨k.elem,k.exact,k.mrk,putL k.cells off new⟩)],nx,some (b :: f)⟩ else none
     | none=>none else none
    | some (_,f),.v (.slice none 0 0)=>val1 nx (goI m) f
    | _,_=>none
   | _,_,_=>none
  | _=>none
 | _=>none
def clearL (H:Hp) (nx:Nat) (argTypes:List TypeId) (x:LV) : Option Out :=
 match argTypes with
 | t :: _=>match P.underlying t with
  | some (.slice elem)=>match x with
   | .emp | .v (.slice none 0 0)=>val1 nx (.tup [])
   | .slice b off n _ | .buf b off n _=>match n with
    | 0=>val1 nx (.tup [])
    | m + 1=>if nB ≤ b then match H.get b,zeroL P elem with
     | some k,some z=>if off + (m + 1) * z.length ≤ k.cells.length ∧ (repL z (m + 1)).all LV.isOne then some ⟨.tup [],[(b,some ⟨k.elem,k.exact,k.mrk,putL k.cells off (repL z (m + 1))⟩)],nx,some [b]⟩ else none
     | _,_=>none else none
   | _=>none
  | _=>none
 | []=>none
def pureL (nx:Nat) (m:Sem Value) : Option Out :=
 match pureRun P m with
 | some y=>match lvOf y with
  | some l=>val1 nx l
  | none=>none
 | none=>none
def builtinL (H:Hp) (nx:Nat) (b:Builtin) (argTypes:List TypeId) (type:TypeId) (args:List LV) : Option Out :=
 match b,args with
 | .len,[.slice _ _ n _] | .len,[.buf _ _ n _]=>match argTypes with
  | t :: _=>match P.underlying t with | some (.slice _)=>val1 nx (goI n) | _=>none
  | []=>none
 | .len,[.emp]=>match argTypes with
  | t :: _=>match P.underlying t with | some (.slice _)=>val1 nx (goI 0) | _=>none
  | []=>none
 | .len,[.str cs]=>match argTypes with
  | t :: _=>match P.underlying t with | some .string=>val1 nx (goI cs.length) | _=>none
  | []=>none
 | .len,[.v x]=>pureL P nx (Builtin.len_ argTypes.toArray type #[x])
 | .cap,[.slice _ _ _ c]=>match argTypes with
  | t :: _=>match P.underlying t with | some (.slice _)=>val1 nx (goI c) | _=>none
  | []=>none
 | .cap,[.v x]=>pureL P nx (Builtin.cap_ argTypes.toArray type #[x])
 | .append,[s,x]=>appendL P nB H nx argTypes s x
 | .copy,[s,x]=>copyL P nB H nx argTypes s x
 | .clear,[x]=>clearL P nB H nx argTypes x
 | .min,[.v x,.v y]=>pureL P nx (Builtin.min_ argTypes.toArray type #[x,y])
 | .max,[.v x,.v y]=>pureL P nx (Builtin.max_ argTypes.toArray type #[x,y])
 | _,_=>none
def optN (d:Nat) : Option LV → Option Nat
 | none=>some d
 | some x=>natL x
def optV : Option LV → Option (Option Value)
 | none=>some none
 | some (.v x)=>some (some x)
 | some _=>none
def sliceL (H:Hp) (nx:Nat) (t:TypeId) (x:LV) (lo hi mx:Option LV) : Option Out :=
 match x with
 | .v x=>match optV lo,optV hi,optV mx with
  | some lo,some hi,some mx=>pureL P nx (Instr.sliceAt t x lo hi mx)
  | _,_,_=>none
 | .ptr b off=>match P.underlying t with
  | some (.array n elem)=>match sizeL P elem,optN 0 lo,optN n hi,mx with
   | some (e + 1),some l,some h,none=>if l ≤ h ∧ h ≤ n then val1 nx (.slice b (if n = l then off else off + l * (e + 1)) (h - l) (n - l)) else none
   | _,_,_,_=>none
  | _=>none
 | .slice b off len c=>match P.underlying t with
  | some (.slice elem)=>match sizeL P elem,optN 0 lo,optN len hi,optN c mx with
   | some (e + 1),some l,some h,some m=>if l ≤ h ∧ h ≤ m ∧ m ≤ c ∧ (mx.isNone ∨ hi.isSome) then val1 nx (.slice b (if m = l then off else off + l * (e + 1)) (h - l) (m - l)) else none
   | _,_,_,_=>none
  | _=>none
 | .buf b off len eb=>match P.underlying t with
  | some (.slice elem)=>match sizeL P elem,optN 0 lo,optN len hi,mx with
   | some (e + 1),some l,some h,none=>if l ≤ h ∧ h ≤ len ∧ eb = e + 1 then (if l < len ∨ l = 0 then val1 nx (.buf b (off + l * (e + 1)) (h - l) eb) else val1 nx .emp)
    else (match H.get b with
     | some k=>if l < h ∧ eb = e + 1 ∧ off + h * (e + 1) ≤ k.cells.length then val1 nx (.buf b (off + l * (e + 1)) (h - l) eb) [b] else none
     | none=>none)
   | some (e + 1),some l,some h,some m=>match natL m with
    | some m=>if l ≤ h ∧ h ≤ m ∧ m ≤ len ∧ eb = e + 1 ∧ hi.isSome then val1 nx (.slice b (if m = l then off else off + l * (e + 1)) (h - l) (m - l)) else none
    | none=>none
   | _,_,_,_=>none
  | _=>none
 | .emp=>match P.underlying t,optN 0 lo,optN 0 hi,mx with
  | some (.slice elem),some 0,some 0,none=>match sizeL P elem with | some _=>val1 nx .emp | none=>none
  | _,_,_,_=>none
 | .str cs=>match P.underlying t,optN 0 lo,optN cs.length hi,mx with
  | some .string,some l,some h,none=>if l ≤ h ∧ h ≤ cs.length then val1 nx (.str ((cs.take h).drop l)) else none
  | _,_,_,_=>none
 | _=>none
def strL (H:Hp) (nx b off len:Nat) : Option Out :=
 match H.get b with
 | some k=>let l:=(k.cells.drop off).take len; if l.length = len then match bytesL l with | some bs=>val1 nx (.v (.string ⟨bs.toArray⟩)) [b] | none=>(if l.all byteLV = true then val1 nx (.str l) [b] else none) else none
 | none=>none
def OB : Nat:=1000000000
def opK (o:Op) : Option (Nat × List Nat):=match o with
 | .indexAddr t _ _=>some (0,[t])
 | .load t _=>some (1,[t])
 | .slice t _ none (some _) none=>some (2,[t])
 | .convert s d _=>some (3,[s,d])
 | .call c=>match c.callee with
  | .builtin .len=>match c.argTypes.toList with
   | [t]=>some (4,[t])
   | _=>none
  | .builtin .min=>some (5,[])
  | _=>none
 | .binOp op _ _ _ _=>match op with
  | .lss=>some (6,[])
  | .geq=>some (7,[])
  | .eql=>some (8,[])
  | .neq=>some (9,[])
  | .add=>some (10,[])
  | .sub=>some (11,[])
  | _=>none
 | _=>none
def hintL (callf:FuncId → List LV → Hp → Nat → Option Out) (T:Tr LV) (o:Oper) : Option LV:=match opK o.op with
 | some (k,ts)=>match opds P T o.op.operands.toList with
  | some ls=>match callf (OB + k) (ts.map goI ++ ls) .nil 0 with
   | some out=>some out.v
   | none=>none
  | none=>none
 | none=>none
def callL (callf:FuncId → List LV → Hp → Nat → Option Out) (T:Tr LV) (H:Hp) (nx:Nat) (c:Call) (type:TypeId) : Option Out :=
 match opds P T c.args.toList with
 | some args=>match c.callee with
  | .builtin b=>builtinL P nB H nx b c.argTypes.toList type args
  | .value f=>match opd P T f with
   | some (.fn (.func g) caps)=>match Nat.ble OB g with
    | true=>none
    | false=>callf g (args ++ caps) H nx
   | _=>none
  | _=>none
 | none=>none
def evOpB (callf:FuncId → List LV → Hp → Nat → Option Out) (T:Tr LV) (H:Hp) (nx:Nat) (o:Oper) : Option Out :=
 match o.op with
 | .move x | .assign x=>match opd P T x with | some a=>val1 nx a | none=>none
 | .pick c a b=>match opd P T c,opd P T a,opd P T b with
  | some (.v (.bool t)),some a,some b=>val1 nx (if t then a else b)
  | _,_,_=>none
 | .alloc t=>match zeroL P t with | some z=>new1 nx t true false z (.ptr nx 0) [] | none=>none
 | .box t x=>match opd P T x with | some a=>new1 nx t true false a.cells (.ptr nx 0) [] | none=>none
 | .build t parts=>match zeroL P t,P.underlying t,partsL P T parts.toList with
  | some z,some (.struct fs),some ps=>match placesL P fs.toList with
   | some pl=>match fillL (fun i=>pl[i]?) z ps with | some cs=>val1 nx (.agg cs) | none=>none
   | none=>none
  | some z,some (.array _ elem),some ps=>match sizeL P elem with
   | some n=>match fillL (fun i=>some (i * n,n)) z ps with | some cs=>val1 nx (.agg cs) | none=>none
   | none=>none
  | _,_,_=>none
 | .buildSlice t len parts=>match P.underlying t with
  | some (.slice elem)=>match zeroL P elem,sizeL P elem,partsL P T parts.toList with
   | some z,some n,some ps=>if len * n ≤ 2 ^ 20 ∧ 0 < n ∧ z.length = n then match fillL (fun i=>some (i * n,n)) (repL z len) ps with | some cs=>new1 nx elem true false cs (.slice nx 0 len len) [] | none=>none else none
   | _,_,_=>none
  | _=>none
 | .load t a=>match opd P T a with
  | some (.ptr b off)=>match H.get b with
   | some k=>match partL P t k.cells off with | some l=>val1 nx l [b] | none=>none
   | none=>none
  | _=>none
 | .store t a x=>match opd P T a,opd P T x,sizeL P t with
  | some (.ptr b off),some y,some n=>if nB ≤ b then match H.get b with
   | some k=>let l:=y.cells; if l.length = n ∧ off + n ≤ k.cells.length ∧ l.all LV.isOne then some ⟨.tup [],[(b,some ⟨k.elem,k.exact,k.mrk,putL k.cells off l⟩)],nx,some [b]⟩ else none
   | none=>none else none
  | _,_,_=>none
 | .nilCheck x=>match opd P T x with
  | some (.ptr b off)=>val1 nx (.ptr b off)
  | some (.fn (.func f) caps)=>val1 nx (.fn (.func f) caps)
  | _=>none
 | .binOp op t x y _=>match opd P T x,opd P T y with
  | some .emp,some (.v (.slice none 0 0))=>match op,P.underlying t with | .eql,some (.slice _)=>val1 nx (.v (.bool false)) | .neq,some (.slice _)=>val1 nx (.v (.bool true)) | _,_=>none
  | some (.slice _ _ _ _),some (.v (.slice none 0 0)) | some (.buf _ _ _ _),some (.v (.slice none 0 0))=>match op,P.underlying t with | .eql,some (.slice _)=>val1 nx (.v (.bool false)) | .neq,some (.slice _)=>val1 nx (.v (.bool true)) | _,_=>none
  | some (.ifc _ _),some (.v .nilIface)=>match op,P.underlying t with | .eql,some (.interface _)=>val1 nx (.v (.bool false)) | .neq,some (.interface _)=>val1 nx (.v (.bool true)) | _,_=>none
  | some (.ptr _ _),some (.v (.pointer none))=>match op,P.underlying t with | .eql,some (.pointer _)=>val1 nx (.v (.bool false)) | .neq,some (.pointer _)=>val1 nx (.v (.bool true)) | _,_=>none
  | some (.sym _ k lo hi _),some (.v (.int k' (.ofNat n)))=>if k = k' then match symCmp op lo hi n with | some r=>val1 nx (.v (.bool r)) | none=>none else none
  | some (.sym b k lo hi ne),some (.sym b' k' lo' hi' ne')=>if k = k' then match symTwo op b b' ne ne' lo hi lo' hi' with | some r=>val1 nx (.v (.bool r)) | none=>none else none
  | some a,some b=>match a.val?,b.val? with
   | some a,some b=>pureL P nx (do eqGuard op t x y a b; binOp op t a b)
   | _,_=>match oddL op a b with
    | some r=>val1 nx r
    | none=>none
  | _,_=>none
 | .unOp op _ x=>match opd P T x with
  | some (.v x)=>pureL P nx (Op.unary op x)
  | _=>none
 | .convert src dst x=>match opd P T x with
  | some (.v (.string s))=>match P.underlying dst with
   | some (.slice e)=>match P.underlying e with
    | some (.int .u8)=>match P.underlying src with
     | some _=>if 2 ^ 40 < s.size then none else new1 nx e false true (s.data.toList.map fun b=>.v (.int .u8 b.toNat)) (.buf nx 0 s.size 1) []
     | none=>none
    | _=>none
   | _=>pureL P nx (convert src dst (.string s))
  | some (.slice b off len c)=>match P.underlying src,P.underlying dst with
   | some (.slice e),some .string=>match P.underlying e with
    | some (.int .u8)=>strL H nx b off len
    | _=>none
   | some (.slice _),some (.slice e)=>match src == dst,P.underlying e with
    | true,some (.int .u8)=>match H.get b with
     | some k=>if nB ≤ b then some ⟨.slice b off len c,[(b,some ⟨k.elem,k.exact,true,k.cells⟩)],nx,some [b]⟩ else none
     | none=>none
    | _,_=>none
   | _,_=>none
  | some (.buf b off len _)=>match P.underlying src,P.underlying dst with
   | some (.slice e),some .string=>match P.underlying e with
    | some (.int .u8)=>strL H nx b off len
    | _=>none
   | _,_=>none
  | some (.str cs)=>match P.underlying dst with
   | some (.slice e)=>match P.underlying e with
    | some (.int .u8)=>match P.underlying src with
     | some _=>if 2 ^ 40 < cs.length then none else new1 nx e false true cs (.buf nx 0 cs.length 1) []
     | none=>none
    | _=>none
   | _=>none
  | some .emp=>match P.underlying src,P.underlying dst with
   | some (.slice e),some .string=>match P.underlying e with
    | some (.int .u8)=>val1 nx (.v (.string ⟨#[]⟩))
    | _=>none
   | _,_=>none
  | some (.sym b k lo hi ne)=>match P.underlying src,P.underlying dst with
   | some _,some (.int k')=>if hi ≤ topK k' then val1 nx (.sym b k' lo hi ne) else none
   | _,_=>none
  | some (.v x)=>pureL P nx (convert src dst x)
  | _=>none
 | .sliceToArrayPointer t x=>match P.underlying t,opd P T x with
  | some (.array n _),some (.slice b off len _) | some (.array n _),some (.buf b off len _)=>if n ≤ len then val1 nx (.ptr b off) else none
  | _,_=>none
 | .makeInterface t x=>match P.underlying t with
  | some (.interface _)=>none
  | some _=>match opd P T x with | some a=>val1 nx (.ifc t a) | none=>none
  | none=>none
 | .makeFunc f first caps=>match first.toList,opds P T caps.toList with
  | [],some cs=>val1 nx (.fn f cs)
  | _,_=>none
 | .makeSlice t l c=>match P.underlying t,opd P T l,opd P T c with
  | some (.slice elem),some l,some c=>match natL l,natL c,zeroL P elem,sizeL P elem,P.info? elem with
   | some l,some c,some z,some n,some inf=>if l ≤ c ∧ c ≤ 2 ^ 30 ∧ inf.bytes * c ≤ 2 ^ 40 ∧ z.length = n then new1 nx elem true false (repL z c) (.slice nx 0 l c) [] else none
   | _,_,_,_,_=>none
  | _,_,_=>none
 | .slice t x lo hi mx=>match opd P T x,opds P T (lo.toList ++ hi.toList ++ mx.toList) with
  | some x,some _=>sliceL P H nx t x (lo.bind (opd P T)) (hi.bind (opd P T)) (mx.bind (opd P T))
  | _,_=>none
 | .fieldAddr s x f=>match P.underlying s,opd P T x with
  | some (.struct fs),some (.ptr b off)=>match fs[f]? with
   | some f=>match sizeL P f.type with
    | some (_ + 1)=>val1 nx (.ptr b (off + f.offset))
    | _=>none
   | none=>none
  | _,_=>none
 | .field s x f=>match P.underlying s,opd P T x with
  | some (.struct fs),some (.agg cs)=>match fs[f]? with
   | some f=>match partL P f.type cs f.offset with | some l=>val1 nx l | none=>none
   | none=>none
  | _,_=>none
 | .indexAddr t x i=>match P.underlying t,opd P T x,opd P T i with
  | some (.array n elem),some (.ptr b off),some i=>match natL i,sizeL P elem with
   | some i,some e=>if i < n then val1 nx (.ptr b (off + i * e)) else none
   | _,_=>none
  | some (.slice elem),some (.slice b off n _),some i | some (.slice elem),some (.buf b off n _),some i=>match natL i,sizeL P elem with
   | some i,some e=>if i < n then val1 nx (.ptr b (off + i * e)) else none
   | _,_=>none
  | _,_,_=>none
 | .index t x i=>match opd P T x,opd P T i with
  | some (.agg cs),some i=>match P.underlying t,natL i with
   | some (.array n elem),some i=>match sizeL P elem with
    | some e=>if i < n then match partL P elem cs (i * e) with | some l=>val1 nx l | none=>none else none
    | none=>none
   | _,_=>none
  | some (.v x),some (.v i)=>pureL P nx (Instr.index t x i)
  | _,_=>none
 | .extract x i=>match opd P T x with
  | some (.tup cs)=>match cs[i]? with | some l=>val1 nx l | none=>none
  | _=>none
 | .call c=>callL P nB callf T H nx c o.type
 | _=>none
def orH (callf:FuncId → List LV → Hp → Nat → Option Out) (T:Tr LV) (nx:Nat) (o:Oper) (r:Option Out) : Option Out:=match r with
 | some x=>some x
 | none=>match hintL P callf T o with
  | some v=>val1 nx v
  | none=>none
def evOp (callf:FuncId → List LV → Hp → Nat → Option Out) (T:Tr LV) (H:Hp) (nx:Nat) (o:Oper) : Option Out:=orH P callf T nx o (evOpB P nB callf T H nx o)
end
end Go.Proofs.YtjpfhhndjpdmoaaGreatDoor

namespace Go.Proofs.YtjpfhhndjpdmoaaGreatDoor
set_option linter.unusedVariables false

structure Rc where
 j : Nat
 d : Dl
 nx : Nat
 foot : Option (List Nat)
structure St where
 nt : Nat
 T : Tr LV
 H : Hp
 nx : Nat
 wr : List Nat
inductive Ex where
 | normal
 | exit (id:Nat)
 | ret
def oldW (nx:Nat) : Dl → List Nat
 | []=>[]
 | (i,_) :: d=>if i < nx then i :: oldW nx d else oldW nx d
def apartB (W:List Nat) : Option (List Nat) → Bool
 | none=>W.isEmpty
 | some F=>W.all fun i=>!F.contains i
def overH (H:Hp) (mask:Nat) : List Rc → Hp
 | []=>H
 | r :: rs=>if mask.testBit r.j then (overH H mask rs).app r.d else overH H mask rs
def allH (H:Hp) : List Rc → Hp
 | []=>H
 | r :: rs=>(allH H rs).app r.d
def freeB (mask:Nat) (W:List Nat) (foot:Option (List Nat)) : List Rc → Bool
 | []=>true
 | r :: rs=>(mask.testBit r.j || (apartB (oldW r.nx r.d) foot && apartB W r.foot)) && freeB mask W foot rs
def pastOf (ms:List Nat) : List Edge → Nat
 | []=>0
 | e :: es=>if Region.binds .any e then 2 ^ e.on ||| ms.getD e.on 0 ||| pastOf ms es else pastOf ms es
def pastsL : List Oper → List Nat → List Nat
 | [],ms=>ms
 | o :: l,ms=>pastsL l (ms ++ [pastOf ms o.after.toList])
def edgesB : Nat → List Oper → Bool
 | _,[]=>true
 | k,o :: l=>(o.after.toList.all fun e=>!Region.binds .any e || decide (e.on < k)) && edgesB (k + 1) l
def pairB (ops:Array Oper) (x:Oper) (jx:Nat) : Nat → List Oper → List Nat → Bool
 | _,[],_=>true
 | _,_,[]=>false
 | k,y :: l,m :: ms=>(m.testBit jx || x.apart ops y) && pairB ops x jx (k + 1) l ms
def pairsB (ops:Array Oper) : Nat → List Oper → List Nat → Bool
 | _,[],_=>true
 | _,_,[]=>false
 | k,x :: l,_ :: ms=>pairB ops x k (k + 1) l ms && pairsB ops (k + 1) l ms
def regB (ops:Array Oper) : Bool:=let l:=ops.toList; let ms:=pastsL l []; edgesB 0 l && pairsB ops 0 l ms
section
variable (P:Program) (nB:Nat) (callf:FuncId → List LV → Hp → Nat → Option Out)
def wantL (ops:Array Oper) (T:Tr LV) (o:Oper) : Option Bool :=
 match o.guard with
 | none=>some true
 | some (j,want)=>match (ops[j]?).bind (·.dst) with
  | some d=>match T.get d with
   | some (.v (.bool b))=>some (b == want)
   | some (.tup _)=>some false
   | _=>none
  | none=>none
def putT (nt:Nat) (T:Tr LV) (dst:Option Tmp) (v:LV) : Tr LV:=match dst with | some d=>if d < nt then T.set d (some v) else T | none=>T
def footB : Option (List Nat) → Nat → Bool
 | none,_=>true
 | some F,i=>F.contains i
def dOk (H:Hp) (nx nx':Nat) (foot:Option (List Nat)) : Dl → Bool
 | []=>true
 | (i,_) :: d=>(if i < nx then (H.get i).isSome && footB foot i else decide (i < nx')) && dOk H nx nx' foot d
def evDraw (nt:Nat) (ops:Array Oper) (H:Hp) : List Oper → List Nat → Nat → Tr LV → Nat → List Rc → Option (Tr LV × Nat × List Rc)
 | [],_,_,T,nx,rs=>some (T,nx,rs)
 | o :: l,m :: ms,k,T,nx,rs=>match wantL ops T o with
  | some true=>match evOp P nB callf T (overH H m rs) nx o with
   | some out=>if nx ≤ out.nx ∧ freeB m (oldW nx out.d) out.foot rs = true ∧ dOk (overH H m rs) nx out.nx out.foot out.d = true then evDraw nt ops H l ms (k + 1) (putT nt T o.dst out.v) out.nx (⟨k,out.d,nx,out.foot⟩ :: rs) else none
   | none=>none
  | some false=>evDraw nt ops H l ms (k + 1) (putT nt T o.dst (.tup [])) nx (⟨k,[],nx,some []⟩ :: rs)
  | none=>none
 | _ :: _,[],_,_,_,_=>none
def evSeq (ops:Array Oper) : List Oper → St → Option St
 | [],s=>some s
 | o :: l,s=>match wantL ops s.T o with
  | some true=>match evOp P nB callf s.T s.H s.nx o with
   | some out=>if s.nx ≤ out.nx then evSeq ops l ⟨s.nt,putT s.nt s.T o.dst out.v,s.H.app out.d,out.nx,oldW s.nx out.d ++ s.wr⟩ else none
   | none=>none
  | some false=>evSeq ops l { s with T:=putT s.nt s.T o.dst (.tup []) }
  | none=>none
def wrOf : List Rc → List Nat
 | []=>[]
 | r :: rs=>oldW r.nx r.d ++ wrOf rs
def evReg (ops:Array Oper) (draw:Bool) (s:St) : Option St :=
 match draw with
 | false=>evSeq P nB callf ops ops.toList s
 | true=>if regB ops = true then match evDraw P nB callf s.nt ops s.H ops.toList (pastsL ops.toList []) 0 s.T s.nx [] with
  | some (T,nx,rs)=>some ⟨s.nt,T,allH s.H rs,nx,wrOf rs ++ s.wr⟩
  | none=>none else none
def evC (P:Program) (nB:Nat) (callf:FuncId → List LV → Hp → Nat → Option Out) : Nat → Code → St → Option (Ex × St)
 | 0,_,_=>none
 | n + 1,c,s=>match c with
  | .skip=>some (.normal,s)
  | .region _ ops draw=>match evReg P nB callf ops draw s with | some s=>some (.normal,s) | none=>none
  | .seq a b=>match evC P nB callf n a s with
   | some (.normal,s)=>evC P nB callf n b s
   | r=>r
  | .cond c a b=>match opd P s.T c with
   | some (.v (.bool true))=>evC P nB callf n a s
   | some (.v (.bool false))=>evC P nB callf n b s
   | _=>none
  | .block id b=>match evC P nB callf n b s with
   | some (.exit i,s)=>if i = id then some (.normal,s) else some (.exit i,s)
   | r=>r
  | .loop b=>match evC P nB callf n b s with
   | some (.normal,s)=>evC P nB callf n (.loop b) s
   | r=>r
  | .exit id=>some (.exit id,s)
  | .ret=>some (.ret,s)
  | _=>none
def resL (P:Program) (T:Tr LV) (H:Hp) : List ResultVar → Option (List LV)
 | []=>some []
 | .tmp t :: l=>match T.get t with
  | some v=>(resL P T H l).map (v :: ·)
  | none=>none
 | .cell a t :: l=>match T.get a with
  | some (.ptr b off)=>match H.get b with
   | some k=>match partL P t k.cells off with
    | some v=>(resL P T H l).map (v :: ·)
    | none=>none
   | none=>none
  | _=>none
def oneL : List LV → LV
 | [x]=>x
 | l=>.tup l
def argsT : Nat → List LV → Tr LV → Tr LV
 | _,[],T=>T
 | i,x :: l,T=>argsT (i + 1) l (T.set i (some x))
mutual
def LV.ids : LV → List Nat
 | .ptr b _=>[b]
 | .slice b _ _ _=>[b]
 | .buf b _ _ _=>[b]
 | .emp=>[]
 | .sym _ _ _ _ _=>[]
 | .str _=>[]
 | .outS _=>[]
 | .outP _=>[]
 | .fn _ cs=>idsL cs
 | .ifc _ x=>x.ids
 | .agg cs=>idsL cs
 | .tup cs=>idsL cs
 | .v _=>[]
def idsL : List LV → List Nat
 | []=>[]
 | .v _ :: l=>idsL l
 | x :: l=>x.ids ++ idsL l
end
def reach (nx0:Nat) (H:Hp) : Nat → List Nat → Tr Unit → Dl → Dl
 | 0,_,_,d=>d
 | _ + 1,[],_,d=>d
 | f + 1,i :: l,seen,d=>match seen.get i with
  | some _=>reach nx0 H f l seen d
  | none=>if i < nx0 then reach nx0 H f l seen d else match H.get i with
   | some k=>reach nx0 H f (idsL k.cells ++ l) (seen.set i (some ())) ((i,some k) :: d)
   | none=>reach nx0 H f l seen d
def olds (nx0:Nat) (H:Hp) : List Nat → Tr Unit → Dl
 | [],_=>[]
 | i :: l,seen=>if i < nx0 then match seen.get i with
  | some _=>olds nx0 H l seen
  | none=>(i,H.get i) :: olds nx0 H l (seen.set i (some ()))
  else olds nx0 H l seen
def idsD : Dl → List Nat
 | []=>[]
 | (_,some k) :: d=>idsL k.cells ++ idsD d
 | _ :: d=>idsD d
abbrev Orc:=FuncId → Option (List LV → Hp → Nat → Option Out)
def evF (P:Program) (nB lf:Nat) (orc:Orc) : Nat → FuncId → List LV → Hp → Nat → Option Out
 | 0,_,_,_,_=>none
 | n + 1,f,args,H,nx=>match orc f with
  | some g=>g args H nx
  | none=>match P.funcs[f]? with
   | some fn=>match fn.body with
    | some c =>
     match evC P nB (evF P nB lf orc n) lf c ⟨args.length + (fn.ntmps - args.length),argsT 0 args .nil,H,nx,[]⟩ with
     | some (.exit _,_)=>none
     | some (_,s)=>match resL P s.T s.H fn.results.toList with
      | some rs=>let v:=oneL rs; let od:=olds nx s.H s.wr .nil
       some ⟨v,od ++ reach nx s.H (s.nx + 100000) (v.ids ++ idsD od) .nil [],s.nx,none⟩
      | none=>none
     | none=>none
    | none=>none
   | none=>none
end
end Go.Proofs.YtjpfhhndjpdmoaaGreatDoor

namespace Go.Proofs.YtjpfhhndjpdmoaaGreatDoor
open Go.RowKit
set_option linter.unusedVariables false
set_option linter.unusedSimpArgs false

/-! ### tables -/
namespace Tr
variable {α : Type}
theorem get_nil (n:Nat) : (Tr.nil : Tr α).get n = none:=by cases n <;> rfl
theorem half_inj {a b:Nat} (h2:a % 2 = b % 2) (hd:a / 2 = b / 2) : a = b:=by omega
theorem get_nodeL (l r:Tr α) (v:Option α) (k:Nat) (h:k % 2 = 0) : (Tr.node l v r).get (k + 1) = l.get (k / 2):=by
 show (match k % 2 with | 0=>l.get (k / 2) | _ + 1=>r.get (k / 2)) = _
 rw [h]
theorem get_nodeR (l r:Tr α) (v:Option α) (k:Nat) (h:k % 2 = 1) : (Tr.node l v r).get (k + 1) = r.get (k / 2):=by
 show (match k % 2 with | 0=>l.get (k / 2) | _ + 1=>r.get (k / 2)) = _
 rw [h]
theorem setF_eq (f:Nat) (t:Tr α) (n:Nat) (x:Option α) : ∃ l v r,setF (f + 1) t n x = (match n with
  | 0=>Tr.node l x r
  | k + 1=>match k % 2 with | 0=>.node (setF f l (k / 2) x) v r | _ + 1=>.node l v (setF f r (k / 2) x)) ∧ ∀ m,t.get m = (Tr.node l v r).get m:=by
 cases t with
 | nil=>exact ⟨.nil,none,.nil,by cases n with | zero=>rfl | succ k=>rfl,fun m=>by
   cases m with
   | zero=>rfl
   | succ k =>
    rcases Nat.mod_two_eq_zero_or_one k with h | h
    ·rw [get_nodeL _ _ _ _ h,get_nil,get_nil]
    ·rw [get_nodeR _ _ _ _ h,get_nil,get_nil]⟩
 | node l v r=>exact ⟨l,v,r,by cases n with | zero=>rfl | succ k=>rfl,fun m=>rfl⟩
theorem get_setF (x:Option α) : ∀ (f:Nat) (t:Tr α) (n m:Nat),n < f → (setF f t n x).get m = if m = n then x else t.get m
 | 0,_,n,_,h=>by omega
 | f + 1,t,n,m,h=>by
  obtain ⟨l,v,r,e,hg⟩:=setF_eq f t n x
  rw [e,hg m]
  cases n with
  | zero =>
   cases m with
   | zero=>rfl
   | succ k =>
    rw [if_neg (by omega)]
    rcases Nat.mod_two_eq_zero_or_one k with h | h
    ·simp only [get_nodeL _ _ _ _ h]
    ·simp only [get_nodeR _ _ _ _ h]
  | succ k =>
   rcases Nat.mod_two_eq_zero_or_one k with hk | hk
   ·simp only [hk]
    cases m with
    | zero=>rfl
    | succ j =>
     rcases Nat.mod_two_eq_zero_or_one j with hj | hj
     ·rw [get_nodeL _ _ _ _ hj,get_nodeL _ _ _ _ hj,get_setF x f l (k / 2) (j / 2) (by omega)]
      by_cases hjk : j = k
      ·subst hjk; simp
      ·rw [if_neg (fun e=>hjk (half_inj (by omega) e)),if_neg (by omega)]
     ·rw [get_nodeR _ _ _ _ hj,get_nodeR _ _ _ _ hj,if_neg (by omega)]
   ·simp only [hk]
    cases m with
    | zero=>rfl
    | succ j =>
     rcases Nat.mod_two_eq_zero_or_one j with hj | hj
     ·rw [get_nodeL _ _ _ _ hj,get_nodeL _ _ _ _ hj,if_neg (by omega)]
     ·rw [get_nodeR _ _ _ _ hj,get_nodeR _ _ _ _ hj,get_setF x f r (k / 2) (j / 2) (by omega)]
      by_cases hjk : j = k
      ·subst hjk; simp
      ·rw [if_neg (fun e=>hjk (half_inj (by omega) e)),if_neg (by omega)]
theorem get_set (t:Tr α) (n:Nat) (x:Option α) (m:Nat) : (t.set n x).get m = if m = n then x else t.get m:=get_setF x (n + 1) t n m (by omega)
end Tr
def dget : Dl → Nat → Option (Option Blk)
 | [],_=>none
 | (i,b) :: d,j=>match dget d j with
  | some x=>some x
  | none=>if j = i then some b else none
theorem get_app : ∀ (d:Dl) (H:Hp) (j:Nat),(H.app d).get j = match dget d j with | some x=>x | none=>H.get j
 | [],H,j=>rfl
 | (i,b) :: d,H,j=>by
  rw [Hp.app,get_app d,dget]
  cases hd : dget d j with
  | some x=>rfl
  | none =>
   simp only
   rw [Tr.get_set]
   split <;> rfl

/-! ### values -/
structure Loc where
 addr : Nat
 sz : Nat
 base : Nat
abbrev Env:=Nat → Option Loc
mutual
def VR (ν : Env) : LV → Value → Prop
 | .v x,y=>y = x ∧ plainV x = true
 | .ptr b off,y=>∃ l,ν b = some l ∧ y = .pointer (some ⟨l.addr,l.base + off,none⟩)
 | .slice b off len cap,y=>∃ l,ν b = some l ∧ y = .slice (some ⟨l.addr,l.base + off,none⟩) len cap
 | .buf b off len e,y=>∃ l c,ν b = some l ∧ y = .slice (some ⟨l.addr,l.base + off,none⟩) len c ∧ len ≤ c ∧ off + c * e = l.sz ∧ c ≤ 2 ^ 63 - 1
 | .emp,y=>∃ (a:Addr) (c:Nat),y = .slice (some a) 0 c ∧ a.spot = none ∧ c ≤ 2 ^ 63 - 1
 | .sym b k lo hi ne,y=>∃ l,ν b = some l ∧ y = .int k (.ofNat l.addr) ∧ lo ≤ l.addr ∧ l.addr ≤ hi ∧ hi ≤ topK k ∧ ∀ c ∈ ne,∃ l2,ν c = some l2 ∧ l.addr ≠ l2.addr
 | .outS b,y=>∃ l m f,ν b = some l ∧ ν (b + 1) = some m ∧ ν (b + 2) = some f ∧ y = .slice (if f.addr = 0 then none else some ⟨l.addr,l.sz,none⟩) m.addr m.sz
 | .outP b,y=>∃ l,ν b = some l ∧ y = .pointer (some ⟨l.addr,l.sz,none⟩)
 | .str cs,y=>∃ bs : List UInt8,y = .string ⟨bs.toArray⟩ ∧ VRs ν cs (bs.map fun b=>.int .u8 b.toNat)
 | .fn f cs,y=>∃ vs,y = .func f #[] vs.toArray ∧ VRs ν cs vs
 | .ifc t x,y=>∃ v,y = .iface t v ∧ VR ν x v
 | .agg cs,y=>∃ vs,y = .agg vs.toArray ∧ VRs ν cs vs
 | .tup cs,y=>∃ vs,y = .tuple vs.toArray ∧ VRs ν cs vs
def VRs (ν : Env) : List LV → List Value → Prop
 | [],vs=>vs = []
 | c :: cs,vs=>∃ u us,vs = u :: us ∧ VR ν c u ∧ VRs ν cs us
end
def Ext (ν ν' : Env) : Prop:=∀ i l,ν i = some l → ν' i = some l
theorem Ext.refl (ν : Env) : Ext ν ν:=fun _ _ h=>h
theorem Ext.trans {a b c:Env} (h:Ext a b) (k:Ext b c) : Ext a c:=fun i l hi=>k i l (h i l hi)
mutual
theorem VR.ext {ν ν' : Env} (h:Ext ν ν') : ∀ (x:LV) (y:Value),VR ν x y → VR ν' x y
 | .v x,y,hv=>by simpa [VR] using hv
 | .ptr b off,y,hv=>by
  simp only [VR] at hv ⊢
  obtain ⟨l,h1,h2⟩:=hv
  exact ⟨l,h b l h1,h2⟩
 | .slice b off len cap,y,hv=>by
  simp only [VR] at hv ⊢
  obtain ⟨l,h1,h2⟩:=hv
  exact ⟨l,h b l h1,h2⟩
 | .buf b off len e,y,hv=>by
  simp only [VR] at hv ⊢
  obtain ⟨l,c,h1,h2⟩:=hv
  exact ⟨l,c,h b l h1,h2⟩
 | .emp,y,hv=>by simpa [VR] using hv
 | .sym b k lo hi ne,y,hv=>by
  simp only [VR] at hv ⊢
  obtain ⟨l,h1,h2,h3,h4,h5,h6⟩:=hv
  refine ⟨l,h b l h1,h2,h3,h4,h5,fun c hc=>?_⟩
  obtain ⟨l2,g1,g2⟩:=h6 c hc
  exact ⟨l2,h c l2 g1,g2⟩
 | .outS b,y,hv=>by
  simp only [VR] at hv ⊢
  obtain ⟨l,m,f,h1,h2,h3,h4⟩:=hv
  exact ⟨l,m,f,h _ _ h1,h _ _ h2,h _ _ h3,h4⟩
 | .outP b,y,hv=>by
  simp only [VR] at hv ⊢
  obtain ⟨l,h1,h2⟩:=hv
  exact ⟨l,h _ _ h1,h2⟩
 | .str cs,y,hv=>by
  simp only [VR] at hv ⊢
  obtain ⟨bs,h1,h2⟩:=hv
  exact ⟨bs,h1,VRs.ext h cs _ h2⟩
 | .fn f cs,y,hv=>by
  simp only [VR] at hv ⊢
  obtain ⟨vs,h1,h2⟩:=hv
  exact ⟨vs,h1,VRs.ext h cs vs h2⟩
 | .ifc t x,y,hv=>by
  simp only [VR] at hv ⊢
  obtain ⟨v,h1,h2⟩:=hv
  exact ⟨v,h1,VR.ext h x v h2⟩
 | .agg cs,y,hv=>by
  simp only [VR] at hv ⊢
  obtain ⟨vs,h1,h2⟩:=hv
  exact ⟨vs,h1,VRs.ext h cs vs h2⟩
 | .tup cs,y,hv=>by
  simp only [VR] at hv ⊢
  obtain ⟨vs,h1,h2⟩:=hv
  exact ⟨vs,h1,VRs.ext h cs vs h2⟩
theorem VRs.ext {ν ν' : Env} (h:Ext ν ν') : ∀ (cs:List LV) (vs:List Value),VRs ν cs vs → VRs ν' cs vs
 | [],vs,hv=>by simpa [VRs] using hv
 | c :: cs,vs,hv=>by
  simp only [VRs] at hv ⊢
  obtain ⟨u,us,h1,h2,h3⟩:=hv
  exact ⟨u,us,h1,VR.ext h c u h2,VRs.ext h cs us h3⟩
end
theorem VRs.nil_iff {ν : Env} {vs:List Value} : VRs ν [] vs ↔ vs = []:=by simp [VRs]
theorem VRs.cons_iff {ν : Env} {c:LV} {cs:List LV} {vs:List Value} : VRs ν (c :: cs) vs ↔ ∃ u us,vs = u :: us ∧ VR ν c u ∧ VRs ν cs us:=by simp [VRs]
theorem VRs.length {ν : Env} : ∀ {cs:List LV} {vs:List Value},VRs ν cs vs → vs.length = cs.length
 | [],vs,h=>by rw [VRs.nil_iff.1 h]; rfl
 | c :: cs,vs,h=>by
  obtain ⟨u,us,rfl,_,h3⟩:=VRs.cons_iff.1 h
  simp [VRs.length h3]
theorem VRs.append {ν : Env} : ∀ {cs ds:List LV} {vs us:List Value},VRs ν cs vs → VRs ν ds us → VRs ν (cs ++ ds) (vs ++ us)
 | [],ds,vs,us,h,k=>by rw [VRs.nil_iff.1 h]; exact k
 | c :: cs,ds,vs,us,h,k=>by
  obtain ⟨u,us',rfl,h2,h3⟩:=VRs.cons_iff.1 h
  exact VRs.cons_iff.2 ⟨u,_,rfl,h2,VRs.append h3 k⟩
theorem VRs.split {ν : Env} : ∀ {cs ds:List LV} {vs:List Value},VRs ν (cs ++ ds) vs → ∃ us ws,vs = us ++ ws ∧ VRs ν cs us ∧ VRs ν ds ws
 | [],ds,vs,h=>⟨[],vs,rfl,VRs.nil_iff.2 rfl,h⟩
 | c :: cs,ds,vs,h=>by
  obtain ⟨u,us',rfl,h2,h3⟩:=VRs.cons_iff.1 h
  obtain ⟨a,b,rfl,ha,hb⟩:=VRs.split h3
  exact ⟨u :: a,b,rfl,VRs.cons_iff.2 ⟨u,a,rfl,h2,ha⟩,hb⟩
theorem VRs.take {ν : Env} {cs:List LV} {vs:List Value} (h:VRs ν cs vs) (n:Nat) : VRs ν (cs.take n) (vs.take n):=by
 rw [← List.take_append_drop n cs] at h
 obtain ⟨a,b,rfl,ha,hb⟩:=VRs.split h
 by_cases hn : n ≤ cs.length
 ·have : a.length = n:=by rw [ha.length]; simp; omega
  rw [← this,List.take_left]; rwa [this]
 ·have hl:=ha.length
  have hb':=hb.length
  simp at hl hb'
  have e1 : b = []:=List.eq_nil_of_length_eq_zero (by omega)
  subst e1
  rw [List.append_nil,List.take_of_length_le (by omega)]
  rwa [List.take_of_length_le (by omega)] at ha ⊢
theorem VRs.drop {ν : Env} {cs:List LV} {vs:List Value} (h:VRs ν cs vs) (n:Nat) : VRs ν (cs.drop n) (vs.drop n):=by
 rw [← List.take_append_drop n cs] at h
 obtain ⟨a,b,rfl,ha,hb⟩:=VRs.split h
 by_cases hn : n ≤ cs.length
 ·have : a.length = n:=by rw [ha.length]; simp; omega
  rw [← this,List.drop_left]; rwa [this]
 ·have hl:=ha.length
  have hb':=hb.length
  simp at hl hb'
  have e1 : b = []:=List.eq_nil_of_length_eq_zero (by omega)
  subst e1
  rw [List.append_nil,List.drop_of_length_le (show a.length ≤ n by omega)]
  rwa [List.drop_of_length_le (by omega)] at hb ⊢
theorem VRs.get {ν : Env} {cs:List LV} {vs:List Value} (h:VRs ν cs vs) (i:Nat) (x:LV) (hx:cs[i]? = some x) : ∃ y,vs[i]? = some y ∧ VR ν x y:=by
 induction cs generalizing vs i with
 | nil=>simp at hx
 | cons c cs ih =>
  obtain ⟨u,us,rfl,h2,h3⟩:=VRs.cons_iff.1 h
  cases i with
  | zero=>simp at hx; subst hx; exact ⟨u,rfl,h2⟩
  | succ i=>simpa using ih h3 i (by simpa using hx)
theorem putL_eq : ∀ (cs:List LV) (off:Nat) (l:List LV),off + l.length ≤ cs.length → putL cs off l = cs.take off ++ l ++ cs.drop (off + l.length)
 | cs,off,[],h=>by cases cs <;> cases off <;> simp [putL]
 | [],off,x :: xs,h=>by simp at h
 | c :: cs,0,x :: xs,h=>by
  have:=putL_eq cs 0 xs (by simp at h ⊢; omega)
  simp only [putL,this]
  simp [Nat.add_comm]
 | c :: cs,off + 1,x :: xs,h=>by
  have:=putL_eq cs off (x :: xs) (by simp at h ⊢; omega)
  simp only [putL,this]
  rw [List.take_succ_cons,show off + 1 + (x :: xs).length = (off + (x :: xs).length) + 1 by omega,List.drop_succ_cons]
  simp
theorem putL_len (cs:List LV) (off:Nat) (l:List LV) (h:off + l.length ≤ cs.length) : (putL cs off l).length = cs.length:=by
 rw [putL_eq cs off l h]; simp; omega
theorem VRs.put {ν : Env} {cs l:List LV} {vs us:List Value} {off:Nat} (h:VRs ν cs vs) (k:VRs ν l us) (hl:off + l.length ≤ cs.length) :
  VRs ν (putL cs off l) (vs.take off ++ us ++ vs.drop (off + us.length)):=by
 rw [putL_eq cs off l hl,k.length]
 exact ((h.take off).append k).append (h.drop _)
theorem VR.one {ν : Env} {x:LV} {y:Value} (h:VR ν x y) (h1:x.isOne = true) : y.oneCell' = true:=by
 cases x with
 | v x =>
  simp only [VR] at h
  obtain ⟨rfl,hp⟩:=h
  cases y <;> simp_all [plainV,Value.oneCell']
 | ptr b off=>simp only [VR] at h; obtain ⟨l,_,rfl⟩:=h; rfl
 | slice b off len cap=>simp only [VR] at h; obtain ⟨l,_,rfl⟩:=h; rfl
 | buf b off len e=>simp only [VR] at h; obtain ⟨l,c,_,rfl,_⟩:=h; rfl
 | emp=>simp only [VR] at h; obtain ⟨a,c,rfl,_⟩:=h; rfl
 | sym b k lo hi ne=>simp only [VR] at h; obtain ⟨l,_,rfl,_⟩:=h; rfl
 | str cs=>simp only [VR] at h; obtain ⟨bs,rfl,_⟩:=h; rfl
 | outS b=>simp only [VR] at h; obtain ⟨l,m,f,_,_,_,rfl⟩:=h; rfl
 | outP b=>simp only [VR] at h; obtain ⟨l,_,rfl⟩:=h; rfl
 | fn f cs=>simp only [VR] at h; obtain ⟨vs,rfl,_⟩:=h; rfl
 | ifc t x=>simp only [VR] at h; obtain ⟨v,rfl,_⟩:=h; rfl
 | agg cs=>simp [LV.isOne] at h1
 | tup cs=>simp [LV.isOne] at h1
theorem VRs.one {ν : Env} : ∀ {cs:List LV} {vs:List Value},VRs ν cs vs → cs.all LV.isOne = true → ∀ v ∈ vs,v.oneCell' = true
 | [],vs,h,_=>by rw [VRs.nil_iff.1 h]; simp
 | c :: cs,vs,h,h1=>by
  obtain ⟨u,us,rfl,h2,h3⟩:=VRs.cons_iff.1 h
  simp only [List.all_cons,Bool.and_eq_true] at h1
  intro v hv
  rcases List.mem_cons.1 hv with rfl | hv
  ·exact h2.one h1.1
  ·exact VRs.one h3 h1.2 v hv
theorem VR.cells {ν : Env} {x:LV} {y:Value} (h:VR ν x y) (ht:∀ cs,x ≠ .tup cs) : VRs ν x.cells y.cells.toList:=by
 cases x with
 | agg cs=>simp only [VR] at h; obtain ⟨vs,rfl,h⟩:=h; simpa [LV.cells,Value.cells] using h
 | tup cs=>exact absurd rfl (ht cs)
 | v x =>
  have h':=h
  simp only [VR] at h
  obtain ⟨rfl,hp⟩:=h
  cases y <;> simp [plainV] at hp <;> exact VRs.cons_iff.2 ⟨_,_,rfl,h',VRs.nil_iff.2 rfl⟩
 | ptr b off=>have h':=h; simp only [VR] at h; obtain ⟨l,_,rfl⟩:=h; exact VRs.cons_iff.2 ⟨_,_,rfl,h',VRs.nil_iff.2 rfl⟩
 | slice b off len cap=>have h':=h; simp only [VR] at h; obtain ⟨l,_,rfl⟩:=h; exact VRs.cons_iff.2 ⟨_,_,rfl,h',VRs.nil_iff.2 rfl⟩
 | buf b off len e=>have h':=h; simp only [VR] at h; obtain ⟨l,c,_,rfl,_⟩:=h; exact VRs.cons_iff.2 ⟨_,_,rfl,h',VRs.nil_iff.2 rfl⟩
 | emp=>have h':=h; simp only [VR] at h; obtain ⟨a,c,rfl,_⟩:=h; exact VRs.cons_iff.2 ⟨_,_,rfl,h',VRs.nil_iff.2 rfl⟩
 | sym b k lo hi ne=>have h':=h; simp only [VR] at h; obtain ⟨l,_,rfl,_⟩:=h; exact VRs.cons_iff.2 ⟨_,_,rfl,h',VRs.nil_iff.2 rfl⟩
 | str cs=>have h':=h; simp only [VR] at h; obtain ⟨bs,rfl,_⟩:=h; exact VRs.cons_iff.2 ⟨_,_,rfl,h',VRs.nil_iff.2 rfl⟩
 | outS b=>have h':=h; simp only [VR] at h; obtain ⟨l,m,f,_,_,_,rfl⟩:=h; exact VRs.cons_iff.2 ⟨_,_,rfl,h',VRs.nil_iff.2 rfl⟩
 | outP b=>have h':=h; simp only [VR] at h; obtain ⟨l,_,rfl⟩:=h; exact VRs.cons_iff.2 ⟨_,_,rfl,h',VRs.nil_iff.2 rfl⟩
 | fn f cs=>have h':=h; simp only [VR] at h; obtain ⟨vs,rfl,_⟩:=h; exact VRs.cons_iff.2 ⟨_,_,rfl,h',VRs.nil_iff.2 rfl⟩
 | ifc t x=>have h':=h; simp only [VR] at h; obtain ⟨v,rfl,_⟩:=h; exact VRs.cons_iff.2 ⟨_,_,rfl,h',VRs.nil_iff.2 rfl⟩
theorem valsL_eq {ν : Env} : ∀ {cs:List LV} {xs ys:List Value},LV.valsL cs = some xs → VRs ν cs ys → ys = xs
 | [],xs,ys,h,k=>by simp [LV.valsL] at h; subst h; exact VRs.nil_iff.1 k
 | .v x :: cs,xs,ys,h,k=>by
  simp only [LV.valsL,Option.map_eq_some_iff] at h
  obtain ⟨l,h1,rfl⟩:=h
  obtain ⟨u,us,rfl,h2,h3⟩:=VRs.cons_iff.1 k
  simp only [VR] at h2
  rw [h2.1,valsL_eq h1 h3]
 | .ptr _ _ :: _,_,_,h,_=>by simp [LV.valsL] at h
 | .slice _ _ _ _ :: _,_,_,h,_=>by simp [LV.valsL] at h
 | .buf _ _ _ _ :: _,_,_,h,_=>by simp [LV.valsL] at h
 | .emp :: _,_,_,h,_=>by simp [LV.valsL] at h
 | .sym _ _ _ _ _ :: _,_,_,h,_=>by simp [LV.valsL] at h
 | .str _ :: _,_,_,h,_=>by simp [LV.valsL] at h
 | .outS _ :: _,_,_,h,_=>by simp [LV.valsL] at h
 | .outP _ :: _,_,_,h,_=>by simp [LV.valsL] at h
 | .fn _ _ :: _,_,_,h,_=>by simp [LV.valsL] at h
 | .ifc _ _ :: _,_,_,h,_=>by simp [LV.valsL] at h
 | .agg _ :: _,_,_,h,_=>by simp [LV.valsL] at h
 | .tup _ :: _,_,_,h,_=>by simp [LV.valsL] at h
theorem val?_eq {ν : Env} {x:LV} {y z:Value} (h:x.val? = some y) (k:VR ν x z) : z = y:=by
 cases x with
 | v x=>simp [LV.val?] at h; simp only [VR] at k; rw [k.1,h]
 | agg cs =>
  simp only [LV.val?,Option.map_eq_some_iff] at h
  obtain ⟨l,h1,rfl⟩:=h
  simp only [VR] at k
  obtain ⟨vs,rfl,k⟩:=k
  rw [valsL_eq h1 k]
 | _=>simp [LV.val?] at h
theorem lvsOf_ok {ν : Env} : ∀ {xs:List Value} {l:List LV},lvsOf xs = some l → VRs ν l xs
 | [],l,h=>by simp [lvsOf] at h; subst h; exact VRs.nil_iff.2 rfl
 | x :: xs,l,h=>by
  simp only [lvsOf] at h
  split at h
  ·rename_i hp
   simp only [Option.map_eq_some_iff] at h
   obtain ⟨l',h1,rfl⟩:=h
   exact VRs.cons_iff.2 ⟨x,xs,rfl,by simp [VR,hp],lvsOf_ok h1⟩
  ·cases h
theorem lvsOf_one : ∀ {xs:List Value} {l:List LV},lvsOf xs = some l → l.all LV.isOne = true
 | [],l,h=>by simp [lvsOf] at h; subst h; rfl
 | x :: xs,l,h=>by
  simp only [lvsOf] at h
  split at h
  ·simp only [Option.map_eq_some_iff] at h
   obtain ⟨l',h1,rfl⟩:=h
   simp [LV.isOne,lvsOf_one h1]
  ·cases h
theorem lvOf_ok {ν : Env} {x:Value} {l:LV} (h:lvOf x = some l) : VR ν l x:=by
 unfold lvOf at h
 split at h
 ·simp only [Option.map_eq_some_iff] at h
  obtain ⟨l',h1,rfl⟩:=h
  simp only [VR]
  exact ⟨_,by simp,lvsOf_ok h1⟩
 ·split at h
  ·rename_i hp
   cases h
   simp [VR,hp]
  ·cases h
theorem pureRun_ok {α : Type} {P:Program} : ∀ (m:Sem α) (a:α),pureRun P m = some a → ∀ w,m.run P w = .ok a w
 | .pure b,a,h,w=>by simp [pureRun] at h; subst h; rfl
 | .program k,a,h,w=>by simp only [pureRun] at h; exact pureRun_ok (k P) a h w
 | .mark _ k,a,h,w=>by simp only [pureRun] at h; exact pureRun_ok k a h w
 | .load _ _ _,_,h,_ | .store _ _ _ _,_,h,_ | .new _ _,_,h,_ | .shape _ _,_,h,_ | .freeze _ _ _,_,h,_ | .frozen _ _,_,h,_ | .getObj _ _,_,h,_ | .setObj _ _ _,_,h,_ | .choose _ _,_,h,_ | .sys _ _,_,h,_ | .halt _,_,h,_=>by simp [pureRun] at h
end Go.Proofs.YtjpfhhndjpdmoaaGreatDoor
