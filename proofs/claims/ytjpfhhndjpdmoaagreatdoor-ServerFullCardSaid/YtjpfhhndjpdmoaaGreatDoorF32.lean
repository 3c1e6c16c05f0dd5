/- Part of the proof: ErrAs,ErrIs,EvEi,EvEj. No conditions of its own. -/
import Derived.LaidEql
import Derived.RowKitTokens
import Derived.Stop.Asserts
import Derived.Test.YtjpfhhndjpdmoaaGreatDoorF30
namespace Go.Proofs.YtjpfhhndjpdmoaaGreatDoor
set_option linter.unusedVariables false
set_option linter.unusedSimpArgs false
open Go.RowKit Go.Extern.Stop Go.Stop Go.Extern

theorem as_nil (t:Value) (w:World) :
  Calls Tryz.prog 47 #[.nilIface,t] w fun e w'=>e = .returned (.bool false) ∧ w' = w:=by
 go_enter Tryz.func47,Tryz.ntmps47
 go_wp2
 go_ret
 exact ⟨rfl,rfl⟩

/-! ### CLOSED FACTS ON THE MODEL's ENTRIES FOR internal/reflectlite,at this program's types: 25: *p.E · 27: **p.E · 23: error · 45: reflectlite's rtype · 1: how many package-level variables the dump has -/
theorem tas_valueOf27 (t:Addr) (w:World) : (ReflectliteValue.unpack (.iface 113 (.pointer (some t)))).run Tryz.prog w
  = .ok (.agg #[.pointer (some ⟨13,113,none⟩),.pointer (some ⟨w.heap.size,0,none⟩),.int .u64 150]) (w.alloc (.cells #[.pointer (some t)] 113)):=by kernel_rfl
theorem tas_type27 (a:Addr) (w:World) : (ReflectliteValue.methodAny (ReflectliteValue.valueError "reflectlite.Value.Type" 0) (fun t _ _ _=>ReflectliteType.toType t) #[.agg #[.pointer (some ⟨13,113,none⟩),.pointer (some a),.int .u64 150]]).run Tryz.prog w
  = .ok (.iface 228 (.agg #[.pointer (some ⟨13,113,none⟩)])) w:=by kernel_rfl
theorem tas_methodKind (h:Value) (w:World) : (Go.method 593 228 (.agg #[h]) "Kind").run Tryz.prog w = .ok (373,h) w:=by kernel_rfl
theorem tas_kind27 (w:World) : ((ReflectliteType.abiMethod fun t=>(fun a:Nat=>Value.int IntKind.u8 (a:Int)) <$> Rtype.kind t) #[.pointer (some ⟨13,113,none⟩)]).run Tryz.prog w = .ok (.int .u8 22) w:=by kernel_rfl
theorem tas_kind25 (w:World) : ((ReflectliteType.abiMethod fun t=>(fun a:Nat=>Value.int IntKind.u8 (a:Int)) <$> Rtype.kind t) #[.pointer (some ⟨13,111,none⟩)]).run Tryz.prog w = .ok (.int .u8 22) w:=by kernel_rfl

/-! ### THE ENTRIES THAT READ OR WRITE MEMORY: laws with a premise on the cell (after Derived/Lib/ReflectliteSlice.lean's manner: each unfolding a lemma of its own,by rfl) -/
theorem rlm (z:Sem Value) (f:TypeId → Addr → Nat → Nat → Sem Value) (v:Value) :
  ReflectliteValue.method z f #[v] = (do match ← ReflectliteValue.parts v with | none=>z | some (t,a,fl)=>f t a fl (fl % 32)):=rfl
theorem tas_parts27 (a:Addr) (w:World) : (ReflectliteValue.parts (.agg #[.pointer (some ⟨13,113,none⟩),.pointer (some a),.int .u64 150])).run Tryz.prog w = .ok (some (113,a,150)) w:=by kernel_rfl
theorem tas_isNil27 (a p:Addr) (W:World) (ha:W.cell? a = some (.pointer (some p))) :
  (ReflectliteValue.method (ReflectliteValue.valueError "reflectlite.Value.IsNil" 0) ReflectliteValue.isNil #[.agg #[.pointer (some ⟨13,113,none⟩),.pointer (some a),.int .u64 150]]).run Tryz.prog W = .ok (.bool false) W:=by
 rw [rlm]
 simp only [Sem.run_bind,tas_parts27,Result.andThen]
 simp [ReflectliteValue.isNil,loadVar,isAgg,underlying,Tryz.underlying113,ha,Result.andThen]

theorem tas_methodElem (h:Value) (w:World) : (Go.method 593 228 (.agg #[h]) "Elem").run Tryz.prog w = .ok (388,.agg #[h]) w:=by kernel_rfl
theorem tas_methodImplements (h:Value) (w:World) : (Go.method 593 228 (.agg #[h]) "Implements").run Tryz.prog w = .ok (389,.agg #[h]) w:=by kernel_rfl
theorem tas_methodAssignableTo (h:Value) (w:World) : (Go.method 593 228 (.agg #[h]) "AssignableTo").run Tryz.prog w = .ok (386,.agg #[h]) w:=by kernel_rfl
theorem tas_elem27 (w:World) : (ReflectliteType.method ReflectliteType.elem #[.agg #[.pointer (some ⟨13,113,none⟩)]]).run Tryz.prog w = .ok (.iface 228 (.agg #[.pointer (some ⟨13,111,none⟩)])) w:=by kernel_rfl
theorem tas_implements25 (w:World) : (ReflectliteType.relation "Implements" ReflectliteType.implements_ #[.agg #[.pointer (some ⟨13,111,none⟩)],.iface 228 (.agg #[.pointer (some ⟨13,108,none⟩)])]).run Tryz.prog w = .ok (.bool true) w:=by kernel_rfl
theorem tas_typeOf25 (v:Value) (w:World) : (ReflectliteType.typeOf #[.iface 111 v]).run Tryz.prog w = .ok (.iface 228 (.agg #[.pointer (some ⟨13,111,none⟩)])) w:=by kernel_rfl
theorem tas_assignable25 (w:World) : (ReflectliteType.relation "AssignableTo" ReflectliteType.assignableTo #[.agg #[.pointer (some ⟨13,111,none⟩)],.iface 228 (.agg #[.pointer (some ⟨13,111,none⟩)])]).run Tryz.prog w = .ok (.bool true) w:=by kernel_rfl
theorem tas_valueOf25 (e:Addr) (w:World) : (ReflectliteValue.unpack (.iface 111 (.pointer (some e)))).run Tryz.prog w
  = .ok (.agg #[.pointer (some ⟨13,111,none⟩),.pointer (some ⟨w.heap.size,0,none⟩),.int .u64 150]) (w.alloc (.cells #[.pointer (some e)] 111)):=by kernel_rfl

theorem tas_elemOf27 (w:World) : (Rtype.elem? 113).run Tryz.prog w = .ok (some 111) w:=by kernel_rfl
theorem tas_mk25 (p:Addr) (w:World) : (ReflectliteValue.mk 111 p ReflectliteValue.flagAddr).run Tryz.prog w = .ok (.agg #[.pointer (some ⟨13,111,none⟩),.pointer (some p),.int .u64 406]) w:=by kernel_rfl
theorem tas_elemV27 (a p:Addr) (W:World) (ha:W.cell? a = some (.pointer (some p))) :
  (ReflectliteValue.method (ReflectliteValue.valueError "reflectlite.Value.Elem" 0) ReflectliteValue.elem #[.agg #[.pointer (some ⟨13,113,none⟩),.pointer (some a),.int .u64 150]]).run Tryz.prog W
   = .ok (.agg #[.pointer (some ⟨13,111,none⟩),.pointer (some p),.int .u64 406]) W:=by
 rw [rlm]
 simp only [Sem.run_bind,tas_parts27,Result.andThen]
 simp [ReflectliteValue.elem,loadVar,isAgg,underlying,Tryz.underlying113,ha,Result.andThen,tas_elemOf27,tas_mk25]
theorem rls (v x:Value) : ReflectliteValue.set #[v,x] = (do
  let (some (dst,a,fl),some (src,b,_)):=(← ReflectliteValue.parts v,← ReflectliteValue.parts x)
   | unsupported (.noEntry "extern/(internal/reflectlite.Value).Set.zeroValue")
  if fl / ReflectliteValue.flagAddr % 2 == 0 then unsupported (.noEntry "extern/(internal/reflectlite.Value).Set.unaddressable")
  let val ← loadVar src b
  if ← Rtype.directlyAssignable dst src then storeVar dst a val
  else if ← Rtype.implements dst src then
   if (← Rtype.kind src) == 20 then
    match val with
    | .nilIface=>unsupported (.noEntry "extern/reflectlite: a nil value of one interface type handed on as a value of another")
    | _=>storeVar dst a val
   else storeVar dst a (.iface src val)
  else panicString ("reflectlite.Set: value of type " ++ (← Rtype.spelt src) ++ " is not assignable to type " ++ (← Rtype.spelt dst))
  pure (.tuple #[])):=rfl
theorem tas_parts25a (a:Addr) (w:World) : (ReflectliteValue.parts (.agg #[.pointer (some ⟨13,111,none⟩),.pointer (some a),.int .u64 406])).run Tryz.prog w = .ok (some (111,a,406)) w:=by kernel_rfl
theorem tas_parts25 (a:Addr) (w:World) : (ReflectliteValue.parts (.agg #[.pointer (some ⟨13,111,none⟩),.pointer (some a),.int .u64 150])).run Tryz.prog w = .ok (some (111,a,150)) w:=by kernel_rfl
theorem tas_direct25 (w:World) : (Rtype.directlyAssignable 111 111).run Tryz.prog w = .ok true w:=by kernel_rfl
theorem tas_set25 (ta b e:Addr) (old:Value) (W:World) (hb:W.cell? b = some (.pointer (some e))) (ht:W.cell? ta = some old) (hf:W.frozen? ta = false) :
  (ReflectliteValue.set #[.agg #[.pointer (some ⟨13,111,none⟩),.pointer (some ta),.int .u64 406],.agg #[.pointer (some ⟨13,111,none⟩),.pointer (some b),.int .u64 150]]).run Tryz.prog W
   = .ok (.tuple #[]) (W.setCell ta (.pointer (some e))):=by
 rw [rls]
 simp only [Sem.run_bind,tas_parts25a,tas_parts25,Result.andThen]
 simp [ReflectliteValue.flagAddr,loadVar,isAgg,underlying,Tryz.underlying111,hb,Result.andThen,tas_direct25,storeVar,Value.cells,storeCells,Addr.add]
 rw [run_store Tryz.prog W ta _ _ (by rfl)]
 simp [ht,hf]

set_option maxRecDepth 20000 in
set_option maxHeartbeats 4000000 in
theorem as_hit (e t:Addr) (old:Value) (w:World) (hg:w.cell? ⟨0,0,none⟩ = some (.iface 228 (.agg #[.pointer (some ⟨13,108,none⟩)]))) (ht0:w.cell? t = some old) (hf0:w.frozen? t = false) :
  Calls Tryz.prog 47 #[.iface 111 (.pointer (some e)),.iface 113 (.pointer (some t))] w fun ev w'=>ev = .returned (.bool true) ∧ w' = ((((w.alloc (.cells #[.pointer (some t)] 113)).alloc (.cells #[.pointer (some ⟨13,113,none⟩),.pointer (some ⟨w.heap.size,0,none⟩),.int .u64 150] 156)).alloc (.cells #[.pointer (some ⟨13,113,none⟩),.pointer (some ⟨w.heap.size,0,none⟩),.int .u64 150] 156)).alloc (.cells #[.pointer (some e)] 111)).setCell t (.pointer (some e)):=by
 have h6:=@run_callFunc_extern Tryz.prog 77 _ (fun args=>ReflectliteValue.unpack (args.getD 0 (.tuple #[]))) Tryz.func77 (by kernel_rfl) (by kernel_rfl) (by kernel_rfl) (by kernel_rfl)
 have h7:=@run_callFunc_extern Tryz.prog 78 _ (ReflectliteValue.methodAny (ReflectliteValue.valueError "reflectlite.Value.Type" 0) (fun t _ _ _=>ReflectliteType.toType t)) Tryz.func78 (by kernel_rfl) (by kernel_rfl) (by kernel_rfl) (by kernel_rfl)
 have h8:=@run_callFunc_extern Tryz.prog 79 _ (ReflectliteValue.method (ReflectliteValue.valueError "reflectlite.Value.IsNil" 0) ReflectliteValue.isNil) Tryz.func79 (by kernel_rfl) (by kernel_rfl) (by kernel_rfl) (by kernel_rfl)
 have h27:=@run_callFunc_extern Tryz.prog 373 _ (ReflectliteType.abiMethod fun t=>do pure (.int .u8 (← Rtype.kind t))) Tryz.func373 (by kernel_rfl) (by kernel_rfl) (by kernel_rfl) (by kernel_rfl)
 have h37:=@run_callFunc_extern Tryz.prog 388 _ (ReflectliteType.method ReflectliteType.elem) Tryz.func388 (by kernel_rfl) (by kernel_rfl) (by kernel_rfl) (by kernel_rfl)
 have h38:=@run_callFunc_extern Tryz.prog 389 _ (ReflectliteType.relation "Implements" ReflectliteType.implements_) Tryz.func389 (by kernel_rfl) (by kernel_rfl) (by kernel_rfl) (by kernel_rfl)
 have h10:=@run_callFunc_extern Tryz.prog 129 _ ReflectliteType.typeOf Tryz.func129 (by kernel_rfl) (by kernel_rfl) (by kernel_rfl) (by kernel_rfl)
 have h35:=@run_callFunc_extern Tryz.prog 386 _ (ReflectliteType.relation "AssignableTo" ReflectliteType.assignableTo) Tryz.func386 (by kernel_rfl) (by kernel_rfl) (by kernel_rfl) (by kernel_rfl)
 have h11:=@run_callFunc_extern Tryz.prog 130 _ (ReflectliteValue.method (ReflectliteValue.valueError "reflectlite.Value.Elem" 0) ReflectliteValue.elem) Tryz.func130 (by kernel_rfl) (by kernel_rfl) (by kernel_rfl) (by kernel_rfl)
 have h12:=@run_callFunc_extern Tryz.prog 131 _ ReflectliteValue.set Tryz.func131 (by kernel_rfl) (by kernel_rfl) (by kernel_rfl) (by kernel_rfl)
 have tO:=tas_typeOf25
 have mA:=tas_methodAssignableTo
 have a25:=tas_assignable25
 have v25:=tas_valueOf25
 have f6:=tas_valueOf27
 have f7:=tas_type27
 have mK:=tas_methodKind
 have mE:=tas_methodElem
 have mI:=tas_methodImplements
 have k27:=tas_kind27
 have k25:=tas_kind25
 have e27:=tas_elem27
 have i25:=tas_implements25
 have n8:=tas_isNil27 ⟨w.heap.size,0,none⟩ t ((w.alloc (.cells #[.pointer (some t)] 113)).alloc (.cells #[.pointer (some ⟨13,113,none⟩),.pointer (some ⟨w.heap.size,0,none⟩),.int .u64 150] 156)) (by simp)
 have hlt : 0 < w.heap.size:=by
  rcases Nat.eq_zero_or_pos w.heap.size with h0 | h
  ·simp [World.cell?,h0] at hg
  ·exact h
 have hg2 : ((w.alloc (.cells #[.pointer (some t)] 113)).alloc (.cells #[.pointer (some ⟨13,113,none⟩),.pointer (some ⟨w.heap.size,0,none⟩),.int .u64 150] 156)).cell? ⟨0,0,none⟩ = some (.iface 228 (.agg #[.pointer (some ⟨13,108,none⟩)])):=by
  rw [World.cell?_alloc_lt _ _ ⟨0,0,none⟩ (by simp),World.cell?_alloc_lt _ _ ⟨0,0,none⟩ hlt]; exact hg
 have htl : t.block < w.heap.size:=by
  rcases Nat.lt_or_ge t.block w.heap.size with h | h
  ·exact h
  ·simp [World.cell?,Array.getElem?_eq_none h] at ht0
 have el:=tas_elemV27 ⟨w.heap.size,0,none⟩ t (((w.alloc (.cells #[.pointer (some t)] 113)).alloc (.cells #[.pointer (some ⟨13,113,none⟩),.pointer (some ⟨w.heap.size,0,none⟩),.int .u64 150] 156)).alloc (.cells #[.pointer (some ⟨13,113,none⟩),.pointer (some ⟨w.heap.size,0,none⟩),.int .u64 150] 156)) (by rw [World.cell?_alloc_lt _ _ ⟨w.heap.size,0,none⟩ (by simp; omega)]; simp)
 have st:=tas_set25 t ⟨w.heap.size + 1 + 1 + 1,0,none⟩ e old ((((w.alloc (.cells #[.pointer (some t)] 113)).alloc (.cells #[.pointer (some ⟨13,113,none⟩),.pointer (some ⟨w.heap.size,0,none⟩),.int .u64 150] 156)).alloc (.cells #[.pointer (some ⟨13,113,none⟩),.pointer (some ⟨w.heap.size,0,none⟩),.int .u64 150] 156)).alloc (.cells #[.pointer (some e)] 111))
  (by rw [World.cell?_alloc_at _ _ _ _ (by simp)]; rfl)
  (by rw [World.cell?_alloc_lt _ _ t (by simp; omega),World.cell?_alloc_lt _ _ t (by simp; omega),World.cell?_alloc_lt _ _ t (by simp; omega),World.cell?_alloc_lt _ _ t htl]; exact ht0)
  (by rw [World.frozen?_alloc_old _ _ t (by simp; omega),World.frozen?_alloc_old _ _ t (by simp; omega),World.frozen?_alloc_old _ _ t (by simp; omega),World.frozen?_alloc_old _ _ t (Nat.ne_of_lt htl)]; exact hf0)
 go_enter Tryz.func47,Tryz.ntmps47
 go_wp2
 refine wp_loop_rounds 1 ?_
 rw [rounds_succ]
 go_wp2
 go_ret
 exact ⟨rfl,rfl⟩
end Go.Proofs.YtjpfhhndjpdmoaaGreatDoor

namespace Go.Proofs.YtjpfhhndjpdmoaaGreatDoor
open Go.RowKit Go.Extern.Stop Go.Stop Go.Extern
set_option linter.unusedVariables false
set_option linter.unusedSimpArgs false

theorem isTypeOf (v:Value) (w:World) : (Extern.ReflectliteType.typeOf #[.iface 224 v]).run Tryz.prog w = .ok (.iface 228 (.agg #[.pointer (some ⟨13,224,none⟩)])) w:=by kernel_rfl
def entC : Array Value → Sem Value:=Extern.ReflectliteType.method fun t=>do Extern.Rtype.noPackHeld "Comparable" t; pure (.bool (← typeInfo t).comparable)
theorem isComparable (w:World) : (entC #[.agg #[.pointer (some ⟨13,224,none⟩)]]).run Tryz.prog w = .ok (.bool true) w:=by kernel_rfl
theorem isMethodComparable (v:Value) (w:World) : (Go.method 593 228 v "Comparable").run Tryz.prog w = .ok (387,v) w:=by kernel_rfl
theorem noIsR (v:Value) (xT:TypeId) (w:World) : (Instr.typeAssert (.iface 111 v) xT 308 true).run Tryz.prog w = .ok (.tuple #[.nilIface,.bool false]) w:=run_typeAssert_lacksB Tryz.underlying308 (by kernel_rfl) (by kernel_rfl) v xT w
theorem hasUnwrapR (v:Value) (xT:TypeId) (w:World) : (Instr.typeAssert (.iface 111 v) xT 236 true).run Tryz.prog w = .ok (.tuple #[.iface 111 v,.bool true]) w:=run_typeAssert_hasB Tryz.underlying236 (by kernel_rfl) v xT w
theorem methodUnwrap (v:Value) (w:World) : (Go.method 593 111 v "Unwrap").run Tryz.prog w = .ok (377,v) w:=by kernel_rfl
theorem eqRT (e:Addr) (w:World) : (binOp .eql 108 (.iface 111 (.pointer (some e))) (.iface 224 (.agg #[]))).run Tryz.prog w = .ok (.bool false) w:=by
 have h : ∀ d : Nat,(Op.equalIn (d + 1) 108 (.iface 111 (.pointer (some e))) (.iface 224 (.agg #[]))).run Tryz.prog w = .ok false w:=fun d=>by simp [Op.equalIn,run_underlying Tryz.underlying108]
 simp only [binOp]
 simp [Op.equal,Op.maxDepth,h 9999]
theorem eqTT (w:World) : (binOp .eql 108 (.iface 224 (.agg #[])) (.iface 224 (.agg #[]))).run Tryz.prog w = .ok (.bool true) w:=by kernel_rfl
theorem is_nilR (w:World) : Calls Tryz.prog 125 #[.nilIface,.iface 224 (.agg #[])] w fun e w'=>e = .returned (.bool false) ∧ w' = w:=by
 have hn:=run_eql_iface_nil_left (P:=Tryz.prog) w 224 (.agg #[]) Tryz.underlying108
 go_enter Tryz.func125,Tryz.ntmps125
 go_wp2
 go_ret
 exact ⟨rfl,rfl⟩
set_option maxRecDepth 20000 in
set_option maxHeartbeats 4000000 in
theorem is_noR (b:Nat) (w:World) (hc:w.cell? ⟨b,1,none⟩ = some .nilIface) : Calls Tryz.prog 125 #[.iface 111 (.pointer (some ⟨b,0,none⟩)),.iface 224 (.agg #[])] w fun ev w'=>ev = .returned (.bool false) ∧ w' = w:=by
 have h129:=@run_callFunc_extern Tryz.prog 129 _ Extern.ReflectliteType.typeOf Tryz.func129 (by kernel_rfl) (by kernel_rfl) (by kernel_rfl) (by kernel_rfl)
 have h387:=@run_callFunc_extern Tryz.prog 387 _ entC Tryz.func387 (by kernel_rfl) (by kernel_rfl) (by kernel_rfl) (by kernel_rfl)
 have tT:=isTypeOf
 have cT:=isComparable
 have mR:=isMethodComparable
 have nR:=noIsR
 have uR:=hasUnwrapR
 have mU:=methodUnwrap
 have heq:=eqRT ⟨b,0,none⟩ w
 go_enter Tryz.func125,Tryz.ntmps125
 go_wp2
 refine wp_loop_rounds 1 ?_
 rw [rounds_succ]
 go_wp2
 go_ret
 exact ⟨rfl,rfl⟩
set_option maxRecDepth 20000 in
set_option maxHeartbeats 4000000 in
theorem is_yesR (b:Nat) (w:World) (hc:w.cell? ⟨b,1,none⟩ = some (.iface 224 (.agg #[]))) : Calls Tryz.prog 125 #[.iface 111 (.pointer (some ⟨b,0,none⟩)),.iface 224 (.agg #[])] w fun ev w'=>ev = .returned (.bool true) ∧ w' = w:=by
 have h129:=@run_callFunc_extern Tryz.prog 129 _ Extern.ReflectliteType.typeOf Tryz.func129 (by kernel_rfl) (by kernel_rfl) (by kernel_rfl) (by kernel_rfl)
 have h387:=@run_callFunc_extern Tryz.prog 387 _ entC Tryz.func387 (by kernel_rfl) (by kernel_rfl) (by kernel_rfl) (by kernel_rfl)
 have tT:=isTypeOf
 have cT:=isComparable
 have mR:=isMethodComparable
 have nR:=noIsR
 have uR:=hasUnwrapR
 have mU:=methodUnwrap
 have heq:=eqRT ⟨b,0,none⟩ w
 have heq2:=eqTT w
 go_enter Tryz.func125,Tryz.ntmps125
 go_wp2
 refine wp_loop_rounds 2 ?_
 rw [rounds_succ]
 go_wp2
 rw [rounds_succ]
 go_wp2
 go_ret
 exact ⟨rfl,rfl⟩
end Go.Proofs.YtjpfhhndjpdmoaaGreatDoor

namespace Go.Proofs.YtjpfhhndjpdmoaaGreatDoor
open Go.RowKit
set_option linter.unusedVariables false
set_option linter.unusedSimpArgs false

def isB : LV → Option Bool
 | .v .nilIface=>some false
 | .ifc t (.agg [])=>if t = 224 then some true else none
 | _=>none
def isO : List LV → Hp → Nat → Option Out:=fun args H nx=>match args with
 | [.v .nilIface,.ifc t (.agg [])]=>if t = 224 then some ⟨.v (.bool false),[],nx,none⟩ else none
 | [.ifc s (.ptr p 0),.ifc t (.agg [])]=>if s = 111 ∧ t = 224 then match H.get p with
  | some k=>if k.exact = true then match k.cells[1]? with
   | some c=>match isB c with
    | some r=>some ⟨.v (.bool r),[],nx,none⟩
    | none=>none
   | none=>none else none
  | none=>none else none
 | _=>none
def ErrW (w:World) : Prop:=w.cell? ⟨0,0,none⟩ = some (.iface 228 (.agg #[.pointer (some ⟨13,108,none⟩)]))
theorem ErrW.lt {w:World} (h:ErrW w) : 0 < w.heap.size:=by
 rcases Nat.eq_zero_or_pos w.heap.size with h0 | h1
 ·unfold ErrW at h
  simp [World.cell?,h0] at h
 ·exact h1
theorem cell_blk {w w':World} {a:Addr} (h:w'.heap[a.block]? = w.heap[a.block]?) : w'.cell? a = w.cell? a:=by
 unfold World.cell?
 rw [h]
theorem ErrW.below {w w':World} (h:ErrW w) (hb:Below w.heap.size w w') : ErrW w':=by
 have h1:=hb.block 0 h.lt
 unfold ErrW at h ⊢
 rw [cell_blk (a:=⟨0,0,none⟩) h1]
 exact h
section
variable {nB:Nat} {w0:World}
theorem is_ok : OneOk nB w0 125 isO:=by
 intro args H nx out h
 unfold isO at h
 split at h
 ·split at h
  ·rename_i ht
   rw [val_inv h]
   refine orc_val ⟨_,Tryz.func125,by kernel_rfl,by kernel_rfl⟩ (fun ν vs w hvs hH hb=>?_)
   obtain ⟨v1,v2,rfl,g1,g2⟩:=two_val hvs
   simp only [VR] at g1 g2
   obtain ⟨rfl,_⟩:=g1
   obtain ⟨v,rfl,us,rfl,h2⟩:=g2
   obtain rfl:=VRs.nil_iff.1 (by simpa [VRs] using h2 : VRs ν [] us)
   subst ht
   exact ⟨.bool false,by simp [VR,plainV],(is_nilR w).mono fun e w' ⟨h1,h2⟩=>⟨h1,by rw [h2]; exact Below.refl _ _⟩⟩
  ·cases h
 ·rename_i s p t
  split at h
  ·rename_i ht
   obtain ⟨rfl,rfl⟩:=ht
   split at h
   ·rename_i k hk
    split at h
    ·rename_i hx
     split at h
     ·rename_i c hc
      split at h
      ·rename_i r hr
       rw [val_inv h]
       refine orc_val ⟨_,Tryz.func125,by kernel_rfl,by kernel_rfl⟩ (fun ν vs w hvs hH hb=>?_)
       obtain ⟨v1,v2,rfl,g1,g2⟩:=two_val hvs
       simp only [VR] at g1 g2
       obtain ⟨v,rfl,l,hl,rfl⟩:=g1
       obtain ⟨v',rfl,us,rfl,h2⟩:=g2
       obtain rfl:=VRs.nil_iff.1 (by simpa [VRs] using h2 : VRs ν [] us)
       obtain ⟨l',hl',hblk⟩:=hH p k trivial hk
       rw [hl] at hl'; cases hl'
       have hb0 : l.base = 0:=by
        obtain ⟨_,_,_,_,h3,_⟩:=hblk
        exact (h3 hx).2
       obtain ⟨y,hy,hv,_⟩:=hblk.cell 1 c hc
       rw [hb0] at hy ⊢
       simp only [Nat.zero_add] at hy ⊢
       unfold isB at hr
       split at hr
       ·cases hr
        simp only [VR] at hv
        obtain ⟨rfl,_⟩:=hv
        exact ⟨.bool false,by simp [VR,plainV],(is_noR l.addr w hy).mono fun e w' ⟨h1,h2⟩=>⟨h1,by rw [h2]; exact Below.refl _ _⟩⟩
       ·split at hr
        ·rename_i t ht
         cases hr
         subst ht
         simp only [VR] at hv
         obtain ⟨v,rfl,us,rfl,h2⟩:=hv
         obtain rfl:=VRs.nil_iff.1 (by simpa [VRs] using h2 : VRs ν [] us)
         exact ⟨.bool true,by simp [VR,plainV],(is_yesR l.addr w hy).mono fun e w' ⟨h1,h2⟩=>⟨h1,by rw [h2]; exact Below.refl _ _⟩⟩
        ·cases hr
       ·cases hr
      ·cases h
     ·cases h
    ·cases h
   ·cases h
  ·cases h
 ·cases h
end
def asO : List LV → Hp → Nat → Option Out:=fun args H nx=>match args with
 | [.v .nilIface,_]=>some ⟨.v (.bool false),[],nx,none⟩
 | [.ifc s (.ptr p o),.ifc t (.ptr r 0)]=>if (s = 111 ∧ t = 113) ∧ (GN ≤ r ∧ r < nx) then match H.get r with
  | some k=>if (k.exact = true ∧ k.elem = 111) ∧ k.cells.length = 1 then some ⟨.v (.bool true),[(r,some ⟨k.elem,k.exact,k.mrk,[.ptr p o]⟩)],nx,none⟩ else none
  | none=>none else none
 | _=>none
theorem post_setA {nB B:Nat} {w0 w:World} {ν : Env} {H:Hp} {nx b:Nat} {l:Loc} {k:Blk} {c':Array Value} {fr':Nat × Nat} {cs:List LV} {mk:Bool} {v:LV} {foot:Option (List Nat)} {w':World} {v':Value}
  (hbn:b < nx) (hnB:nB ≤ b) (hH:H.get b = some k) (hν : ν b = some l) (hh:w'.heap[l.addr]? = some (.cells c' k.elem fr')) (ho:∀ a,a < w.heap.size → a ≠ l.addr → w'.heap[a]? = w.heap[a]?) (hsz:w.heap.size ≤ w'.heap.size)
  (hc':c'.size = l.base + l.sz) (hfr:fr'.1 = fr'.2 ∨ c'.size ≤ fr'.1) (hmk:mk = false → fr' = (0,0)) (hex:k.exact = true → cs.length = l.sz ∧ l.base = 0) (hcs:∃ pre vs rest,c'.toList = pre ++ (vs ++ rest) ∧ pre.length = l.base ∧ VRs ν cs vs) (h1:cs.all LV.isOne = true) (hb:Below B w0 w') (hv:VR ν v v') :
  OpPost nB B w0 ν ν H nx ⟨v,[(b,some ⟨k.elem,k.exact,mk,cs⟩)],nx,foot⟩ w w' v' where
 ext:=fun _ _=>rfl
 val:=hv
 blk:=fun i k' h=>by
  simp only [dget] at h
  split at h
  ·rename_i e; subst e
   cases h
   exact ⟨l,hν,c',fr',hh,hc',hex,hcs,h1,hfr,hmk⟩
  ·cases h
 frame:=fun a ha h=>ho a ha (fun e=>h b l hbn (by simp [dget]) hν e.symm)
 fresh:=fun i k l hi h hl=>by
  simp only [dget] at h
  split at h
  ·rename_i e; omega
  ·cases h
 inj:=fun i j ki kj li lj hi _ h _ _ _ _=>by
  simp only [dget] at h
  split at h
  ·rename_i e; omega
  ·cases h
 old:=fun i hi h=>by
  simp only [dget] at h
  split at h
  ·rename_i e; subst e; exact ⟨hnB,by simp [hH]⟩
  ·cases h
 new:=fun i hi h=>by
  simp only [dget] at h
  split at h
  ·rename_i e; omega
  ·cases h
 below:=hb
 size:=hsz
theorem as_ok {w0:World} (hE:ErrW w0) : OneOk GN w0 47 asO:=by
 intro args H nx out h
 unfold asO at h
 split at h
 ·rw [val_inv h]
  refine orc_val ⟨_,Tryz.func47,by kernel_rfl,by kernel_rfl⟩ (fun ν vs w hvs hH hb=>?_)
  obtain ⟨v1,v2,rfl,g1,g2⟩:=two_val hvs
  simp only [VR] at g1
  obtain ⟨rfl,_⟩:=g1
  exact ⟨.bool false,by simp [VR,plainV],(as_nil v2 w).mono fun e w' ⟨h1,h2⟩=>⟨h1,by rw [h2]; exact Below.refl _ _⟩⟩
 ·rename_i s p o t r
  split at h
  ·rename_i hq
   obtain ⟨⟨rfl,rfl⟩,hr1,hr2⟩:=hq
   split at h
   ·rename_i k hk
    split at h
    ·rename_i hq2
     obtain ⟨⟨hx,he⟩,hlen⟩:=hq2
     cases h
     refine ⟨⟨_,Tryz.func47,by kernel_rfl,by kernel_rfl⟩,rfl,fun ν vs w hν hvs hH hlow hinj hid hg hbl=>?_⟩
     obtain ⟨v1,v2,rfl,g1,g2⟩:=two_val hvs
     have g0:=g1
     simp only [VR] at g1 g2
     obtain ⟨v,rfl,l,hl,rfl⟩:=g1
     obtain ⟨v',rfl,lr,hlr,rfl⟩:=g2
     obtain ⟨l',hl',hblk⟩:=hH r k trivial hk
     rw [hlr] at hl'; cases hl'
     have hlo:=hlow r k lr trivial hr1 hk hlr
     have hlt:=hblk.heap
     obtain ⟨c,fr,q1,q2,q3,⟨pre,us,rest,q4,q40,q5⟩,q6,q7,q8⟩:=hblk
     obtain ⟨q9,hb0⟩:=q3 hx
     have hcs : c.size = 1:=by omega
     have hcell : w.cell? ⟨lr.addr,0,none⟩ = some (c[0]'(by omega)):=by simp [World.cell?,q1,hcs]
     have hfro : w.frozen? ⟨lr.addr,0,none⟩ = false:=by
      have:=frz q7 0 (by omega)
      obtain ⟨a,b⟩:=fr
      simp only [World.frozen?,q1]
      rw [Bool.and_eq_false_iff,decide_eq_false_iff_not,decide_eq_false_iff_not]
      exact Decidable.not_and_iff_or_not.1 this
     have hE' : ErrW w:=hE.below hbl
     rw [hb0]
     simp only [Nat.add_zero]
     refine (as_hit ⟨l.addr,l.base + o,none⟩ ⟨lr.addr,0,none⟩ _ w hE' hcell hfro).mono ?_
     rintro e w' ⟨rfl,rfl⟩
     generalize hwA : (((w.alloc _).alloc _).alloc _).alloc _ = wA
     have hA : ∀ a,a < w.heap.size → wA.heap[a]? = w.heap[a]?:=fun a ha=>by
      subst hwA
      rw [Below.heap_alloc _ _ a (by simp; omega),Below.heap_alloc _ _ a (by simp; omega),Below.heap_alloc _ _ a (by simp; omega),Below.heap_alloc _ _ a ha]
     have hS : w.heap.size ≤ wA.heap.size:=by subst hwA; simp; omega
     have hB2 : Below w0.heap.size w0 wA:=by
      subst hwA
      have hz:=hbl.size
      exact (((hbl.alloc hz _).alloc (by simp; omega) _).alloc (by simp; omega) _).alloc (by simp; omega) _
     have qA : wA.heap[lr.addr]? = some (.cells c k.elem fr):=by rw [hA _ hlt]; exact q1
     have es:=setCell_eq_setRow wA lr.addr 0 c k.elem fr (.pointer (some ⟨l.addr,l.base + o,none⟩)) qA
     refine ⟨_,ν,rfl,?_⟩
     rw [es]
     refine post_setA hr2 hr1 hk hlr (setRow_heap wA lr.addr c _ k.elem fr qA) (fun a ha hne=>by rw [setRow_other _ _ _ _ hne]; exact hA a ha) (by simp; omega) (by simp; omega) (q7.imp id (fun h=>by simp; omega)) q8 (fun _=>⟨by simp; omega,hb0⟩) ⟨[],[.pointer (some ⟨l.addr,l.base + o,none⟩)],[],?_,by simp [hb0],?_⟩ rfl ?_ (by simp [VR,plainV])
     ·apply List.ext_getElem
      ·simp [hcs]
      ·intro i h1 h2
       have : i = 0:=by simp at h2; omega
       subst this
       simp
     ·exact VRs.cons_iff.2 ⟨_,_,rfl,by simp only [VR]; exact ⟨l,hl,rfl⟩,VRs.nil_iff.2 rfl⟩
     ·exact below_setRow hB2 hlo _
    ·cases h
   ·cases h
  ·cases h
 ·cases h
end Go.Proofs.YtjpfhhndjpdmoaaGreatDoor

namespace Go.Proofs.YtjpfhhndjpdmoaaGreatDoor
open Go.RowKit
set_option linter.unusedVariables false
set_option linter.unusedSimpArgs false
section
variable {P:Program} (w:World)
theorem run_eql_ptr_same {tp te:TypeId} {j:TypeInfo} (a:Addr) (hp:P.underlying tp = some (.pointer te)) (hte:P.info? te = some j) :
  (binOp .eql tp (.pointer (some a)) (.pointer (some a))).run P w = .ok (.bool true) w:=by
 have h : ∀ d : Nat,(Op.equalIn (d + 1) tp (.pointer (some a)) (.pointer (some a))).run P w = .ok true w:=fun d=>by simp [Op.equalIn,run_underlying hp,typeInfo,sizeOf,hte,run_sameAddr_same]
 simp only [binOp]
 simp [Op.equal,Op.maxDepth,h 9999]
theorem run_eql_ptr_other {tp te:TypeId} {j:TypeInfo} {a b:Addr} {ca cb:Array Value} {ta tb:TypeId} (hp:P.underlying tp = some (.pointer te)) (hte:P.info? te = some j) (hsz:j.size ≠ 0)
  (hne:a ≠ b) (ha:w.heap[a.block]? = some (.cells ca ta (0,0))) (hb:w.heap[b.block]? = some (.cells cb tb (0,0))) :
  (binOp .eql tp (.pointer (some a)) (.pointer (some b))).run P w = .ok (.bool false) w:=by
 have h : ∀ d : Nat,(Op.equalIn (d + 1) tp (.pointer (some a)) (.pointer (some b))).run P w = .ok false w:=fun d=>by simp [Op.equalIn,run_underlying hp,typeInfo,sizeOf,hte,hsz,run_sameAddr_other w hne ha hb]
 simp only [binOp]
 simp [Op.equal,Op.maxDepth,h 9999]
end
theorem clInfo : (Tryz.prog.info? 122).map (fun j=>decide (j.size ≠ 0)) = some true:=by kernel_rfl
theorem cl_same (a:Addr) (b:Nat) (w:World) (hc:w.cell? ⟨b,0,none⟩ = some (.pointer (some a))) : Calls Tryz.prog 128 #[.pointer (some a),.pointer (some ⟨b,0,none⟩)] w fun ev w'=>ev = .returned (.bool true) ∧ w' = w:=by
 obtain ⟨j,hj,_⟩:=Option.map_eq_some_iff.1 clInfo
 have he:=run_eql_ptr_same (P:=Tryz.prog) w a Tryz.underlying120 hj
 go_enter Tryz.func128,Tryz.ntmps128
 go_wp2
 go_ret
 exact ⟨rfl,rfl⟩
theorem cl_other (a c:Addr) (b:Nat) (w:World) {ca cb:Array Value} {ta tb:TypeId} (hne:a ≠ c) (ha:w.heap[a.block]? = some (.cells ca ta (0,0))) (hb:w.heap[c.block]? = some (.cells cb tb (0,0))) (hc:w.cell? ⟨b,0,none⟩ = some (.pointer (some c))) : Calls Tryz.prog 128 #[.pointer (some a),.pointer (some ⟨b,0,none⟩)] w fun ev w'=>ev = .returned (.bool false) ∧ w' = w:=by
 obtain ⟨j,hj,hz⟩:=Option.map_eq_some_iff.1 clInfo
 have he:=run_eql_ptr_other (P:=Tryz.prog) w Tryz.underlying120 hj (of_decide_eq_true hz) hne ha hb
 go_enter Tryz.func128,Tryz.ntmps128
 go_wp2
 go_ret
 exact ⟨rfl,rfl⟩
def clO : List LV → Hp → Nat → Option Out:=fun args H nx=>match args with
 | [.ptr a 0,.ptr b 0]=>match H.get b with
  | some k=>if k.exact = true then match k.cells[0]? with
   | some (LV.ptr c 0)=>if a = c then some ⟨.v (.bool true),[],nx,none⟩ else match H.get a,H.get c with
    | some ka,some kc=>if ka.mrk = false ∧ kc.mrk = false then some ⟨.v (.bool false),[],nx,none⟩ else none
    | _,_=>none
   | _=>none else none
  | none=>none
 | _=>none
section
variable {nB:Nat} {w0:World}
theorem orc_valI {f:FuncId} {args:List LV} {H:Hp} {nx:Nat} {v:LV} (hfn:FnHas Tryz.prog f)
  (hcall:∀ (ν : Env) (vs:List Value) (w:World),VRs ν args vs → HRF ν H none w → InjH ν H → ∃ v',VR ν v v' ∧ Calls Tryz.prog f vs.toArray w (fun e w'=>e = .returned v' ∧ w' = w)) :
  FnHas Tryz.prog f ∧ (⟨v,[],nx,none⟩ : Out).foot = none ∧ ∀ (ν : Env) (vs:List Value) (w:World),(∀ i,nx ≤ i → i < (⟨v,[],nx,none⟩ : Out).nx → ν i = none) → VRs ν args vs → HRF ν H none w → LowF nB w0.heap.size ν H none → InjH ν H → (∀ i k,H.get i = some k → i < nx) → GlobE Tryz.prog ν → Below w0.heap.size w0 w →
   Calls Tryz.prog f vs.toArray w (fun e w'=>∃ v' ν',e = .returned v' ∧ OpPost nB w0.heap.size w0 ν ν' H nx ⟨v,[],nx,none⟩ w w' v'):=by
 refine ⟨hfn,rfl,fun ν vs w _ hvs hH _ hi _ _ hb=>?_⟩
 obtain ⟨v',hv,hc⟩:=hcall ν vs w hvs hH hi
 refine hc.mono ?_
 rintro e w' ⟨rfl,rfl⟩
 exact ⟨v',ν,rfl,post_val hv hb⟩
theorem cl_ok : OneOk nB w0 128 clO:=by
 intro args H nx out h
 unfold clO at h
 split at h
 ·rename_i a b
  split at h
  ·rename_i k hk
   split at h
   ·rename_i hx
    split at h
    ·rename_i c hc
     have hbox : ∀ {ν : Env} {w:World},HRF ν H none w → ∀ l,ν b = some l → l.base = 0 ∧ ∃ lc,ν c = some lc ∧ w.cell? ⟨l.addr,0,none⟩ = some (.pointer (some ⟨lc.addr,lc.base + 0,none⟩)):=fun hH l hl=>by
      obtain ⟨l',hl',hblk⟩:=hH b k trivial hk
      rw [hl] at hl'; cases hl'
      have hb0 : l.base = 0:=by
       obtain ⟨_,_,_,_,h3,_⟩:=hblk
       exact (h3 hx).2
      obtain ⟨y,hy,hv,_⟩:=hblk.cell 0 _ hc
      simp only [VR] at hv
      obtain ⟨lc,e1,rfl⟩:=hv
      rw [hb0] at hy
      exact ⟨hb0,lc,e1,hy⟩
     split at h
     ·rename_i e
      subst e
      rw [val_inv h]
      refine orc_valI ⟨_,Tryz.func128,by kernel_rfl,by kernel_rfl⟩ (fun ν vs w hvs hH hi=>?_)
      obtain ⟨v1,v2,rfl,g1,g2⟩:=two_val hvs
      simp only [VR] at g1 g2
      obtain ⟨la,hla,rfl⟩:=g1
      obtain ⟨lb,hlb,rfl⟩:=g2
      obtain ⟨hb0,lc,e1,e2⟩:=hbox hH lb hlb
      rw [hla] at e1; cases e1
      rw [hb0]
      exact ⟨.bool true,by simp [VR,plainV],cl_same _ lb.addr w e2⟩
     ·rename_i e
      split at h
      ·rename_i ka kc hka hkc
       split at h
       ·rename_i hm
        rw [val_inv h]
        refine orc_valI ⟨_,Tryz.func128,by kernel_rfl,by kernel_rfl⟩ (fun ν vs w hvs hH hi=>?_)
        obtain ⟨v1,v2,rfl,g1,g2⟩:=two_val hvs
        simp only [VR] at g1 g2
        obtain ⟨la,hla,rfl⟩:=g1
        obtain ⟨lb,hlb,rfl⟩:=g2
        obtain ⟨hb0,lc,e1,e2⟩:=hbox hH lb hlb
        obtain ⟨la',hla',ba⟩:=hH a ka trivial hka
        rw [hla] at hla'; cases hla'
        obtain ⟨lc',hlc',bc⟩:=hH c kc trivial hkc
        rw [e1] at hlc'; cases hlc'
        obtain ⟨ca,fa,q1,_,_,_,_,_,q8⟩:=ba
        obtain ⟨cc,fc,p1,_,_,_,_,_,p8⟩:=bc
        rw [q8 hm.1] at q1
        rw [p8 hm.2] at p1
        rw [hb0]
        exact ⟨.bool false,by simp [VR,plainV],cl_other _ _ lb.addr w (fun he=>e (hi a c ka kc la lc hka hkc hla e1 (congrArg Addr.block he))) q1 p1 e2⟩
       ·cases h
      ·cases h
    ·cases h
   ·cases h
  ·cases h
 ·cases h
end
end Go.Proofs.YtjpfhhndjpdmoaaGreatDoor
