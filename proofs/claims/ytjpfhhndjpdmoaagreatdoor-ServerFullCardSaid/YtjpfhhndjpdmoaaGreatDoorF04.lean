/- Part of the proof: EvW,EvX. No conditions of its own. -/
import Derived.Laws.Strings
import Derived.Test.YtjpfhhndjpdmoaaGreatDoorF03
namespace Go.Proofs.YtjpfhhndjpdmoaaGreatDoor
open Go.RowKit
set_option linter.unusedVariables false
set_option linter.unusedSimpArgs false

section
variable {P:Program} {nB B:Nat} {w0:World} {ν : Env} {T:Tr LV} {H:Hp} {nx:Nat} {w:World} {out:Out}
theorem nil_slice {t elem:TypeId} {a:Addr} {n c:Nat} (hu:P.underlying t = some (.slice elem)) : (Op.equal t (.slice (some a) n c) (.slice none 0 0)).run P w = .ok false w:=by
 rw [Op.equal,show Op.maxDepth = 9999 + 1 from rfl,Op.equalIn,Sem.run_bind,run_underlying hu]; rfl
theorem nil_ptr {t elem:TypeId} {a:Addr} (hu:P.underlying t = some (.pointer elem)) : (Op.equal t (.pointer (some a)) (.pointer none)).run P w = .ok false w:=by
 rw [Op.equal,show Op.maxDepth = 9999 + 1 from rfl,Op.equalIn,Sem.run_bind,run_underlying hu]; rfl
theorem gives_run {m:Sem Value} {r:Result Value} (h:m.run P w = r) : (do pure (.value (← m)) : Sem Next).run P w = r.andThen fun v w'=>.ok (.value v) w':=by
 rw [Sem.run_bind,h]; rfl
theorem eqGuard_slice {op:BinOp} {t:TypeId} {x y:Operand} {a b:Option Addr} {n c n' c':Nat} : (eqGuard op t x y (.slice a n c) (.slice b n' c')).run P w = .ok () w:=by
 cases op <;> rfl
theorem eqGuard_ptr {op:BinOp} {t:TypeId} {x y:Operand} {a b:Option Addr} : (eqGuard op t x y (.pointer a) (.pointer b)).run P w = .ok () w:=by
 cases op <;> rfl
theorem op_nilSlice {op:BinOp} {t:TypeId} {x y:Operand} {a:Addr} {n c:Nat} (hb:Below B w0 w) (h:(match op,P.underlying t with | .eql,some (.slice _)=>val1 nx (.v (.bool false)) | .neq,some (.slice _)=>val1 nx (.v (.bool true)) | _,_=>none) = some out) :
  Gives P nB B w0 ν H nx out w (do eqGuard op t x y (.slice (some a) n c) (.slice none 0 0); binOp op t (.slice (some a) n c) (.slice none 0 0)):=by
 split at h
 ·rename_i elem hu
  cases h
  refine gives_val (v':=.bool false) ?_ (by simp [VR,plainV]) hb
  rw [Sem.run_bind,eqGuard_slice,Result.andThen_ok]
  simp [binOp,nil_slice hu]
 ·rename_i elem hu
  cases h
  refine gives_val (v':=.bool true) ?_ (by simp [VR,plainV]) hb
  rw [Sem.run_bind,eqGuard_slice,Result.andThen_ok]
  simp [binOp,nil_slice hu]
 ·cases h
theorem op_nilPtr {op:BinOp} {t:TypeId} {x y:Operand} {a:Addr} (hb:Below B w0 w) (h:(match op,P.underlying t with | .eql,some (.pointer _)=>val1 nx (.v (.bool false)) | .neq,some (.pointer _)=>val1 nx (.v (.bool true)) | _,_=>none) = some out) :
  Gives P nB B w0 ν H nx out w (do eqGuard op t x y (.pointer (some a)) (.pointer none); binOp op t (.pointer (some a)) (.pointer none)):=by
 split at h
 ·rename_i elem hu
  cases h
  refine gives_val (v':=.bool false) ?_ (by simp [VR,plainV]) hb
  rw [Sem.run_bind,eqGuard_ptr,Result.andThen_ok]
  simp [binOp,nil_ptr hu]
 ·rename_i elem hu
  cases h
  refine gives_val (v':=.bool true) ?_ (by simp [VR,plainV]) hb
  rw [Sem.run_bind,eqGuard_ptr,Result.andThen_ok]
  simp [binOp,nil_ptr hu]
 ·cases h
theorem eqGuard_ifc {op:BinOp} {t u:TypeId} {x y:Operand} {v:Value} : (eqGuard op t x y (.iface u v) .nilIface).run P w = .ok () w:=by
 cases op <;> rfl
theorem nil_ifc {t u:TypeId} {v:Value} {ms:Array (String × TypeId)} (hu:P.underlying t = some (.interface ms)) : (Op.equal t (.iface u v) .nilIface).run P w = .ok false w:=by
 rw [Op.equal,show Op.maxDepth = 9999 + 1 from rfl,Op.equalIn,Sem.run_bind,run_underlying hu]; rfl
theorem op_nilIfc {op:BinOp} {t u:TypeId} {x y:Operand} {v:Value} (hb:Below B w0 w) (h:(match op,P.underlying t with | .eql,some (.interface _)=>val1 nx (.v (.bool false)) | .neq,some (.interface _)=>val1 nx (.v (.bool true)) | _,_=>none) = some out) :
  Gives P nB B w0 ν H nx out w (do eqGuard op t x y (.iface u v) .nilIface; binOp op t (.iface u v) .nilIface):=by
 split at h
 ·rename_i ms hu
  cases h
  refine gives_val (v':=.bool false) ?_ (by simp [VR,plainV]) hb
  rw [Sem.run_bind,eqGuard_ifc,Result.andThen_ok]
  simp [binOp,nil_ifc hu]
 ·rename_i ms hu
  cases h
  refine gives_val (v':=.bool true) ?_ (by simp [VR,plainV]) hb
  rw [Sem.run_bind,eqGuard_ifc,Result.andThen_ok]
  simp [binOp,nil_ifc hu]
 ·cases h
theorem symCmp_ok {op:BinOp} {lo hi n m:Nat} {r:Bool} (h:symCmp op lo hi n = some r) (h1:lo ≤ m) (h2:m ≤ hi) {k:IntKind} {t:TypeId} {x y:Operand} :
  pureRun P (do eqGuard op t x y (.int k (.ofNat m)) (.int k (.ofNat n)); binOp op t (.int k (.ofNat m)) (.int k (.ofNat n))) = some (.bool r):=by
 cases op <;> simp only [symCmp] at h
 case eql=>split at h <;> first | (cases h; simp [eqGuard,binOp,Op.intCmp,pureRun,pure,bind,Sem.bind]; omega) | cases h
 case neq=>split at h <;> first | (cases h; simp [eqGuard,binOp,Op.intCmp,pureRun,pure,bind,Sem.bind]; omega) | cases h
 case lss=>(split at h <;> first | (cases h; simp [eqGuard,binOp,Op.intCmp,pureRun,pure,bind,Sem.bind]; omega) | (split at h <;> first | (cases h; simp [eqGuard,binOp,Op.intCmp,pureRun,pure,bind,Sem.bind]; omega) | cases h))
 case leq=>(split at h <;> first | (cases h; simp [eqGuard,binOp,Op.intCmp,pureRun,pure,bind,Sem.bind]; omega) | (split at h <;> first | (cases h; simp [eqGuard,binOp,Op.intCmp,pureRun,pure,bind,Sem.bind]; omega) | cases h))
 case gtr=>(split at h <;> first | (cases h; simp [eqGuard,binOp,Op.intCmp,pureRun,pure,bind,Sem.bind]; omega) | (split at h <;> first | (cases h; simp [eqGuard,binOp,Op.intCmp,pureRun,pure,bind,Sem.bind]; omega) | cases h))
 case geq=>(split at h <;> first | (cases h; simp [eqGuard,binOp,Op.intCmp,pureRun,pure,bind,Sem.bind]; omega) | (split at h <;> first | (cases h; simp [eqGuard,binOp,Op.intCmp,pureRun,pure,bind,Sem.bind]; omega) | cases h))
 all_goals cases h
theorem symSame_ok {op:BinOp} {m:Nat} {r:Bool} (h:symSame op = some r) {k:IntKind} {t:TypeId} {x y:Operand} :
  pureRun P (do eqGuard op t x y (.int k (.ofNat m)) (.int k (.ofNat m)); binOp op t (.int k (.ofNat m)) (.int k (.ofNat m))) = some (.bool r):=by
 cases op <;> simp only [symSame,Option.some.injEq,reduceCtorEq] at h
 all_goals (subst h; simp [eqGuard,binOp,Op.intCmp,pureRun,pure,bind,Sem.bind])
theorem symDiff_ok {op:BinOp} {m n:Nat} {r:Bool} (h:symDiff op = some r) (hmn:m ≠ n) {k:IntKind} {t:TypeId} {x y:Operand} :
  pureRun P (do eqGuard op t x y (.int k (.ofNat m)) (.int k (.ofNat n)); binOp op t (.int k (.ofNat m)) (.int k (.ofNat n))) = some (.bool r):=by
 cases op <;> simp only [symDiff,Option.some.injEq,reduceCtorEq] at h
 all_goals (subst h; simp [eqGuard,binOp,Op.intCmp,pureRun,pure,bind,Sem.bind]; omega)
theorem symRng_ok {op:BinOp} {lo hi lo' hi' m n:Nat} {r:Bool} (h:symRng op lo hi lo' hi' = some r) (h1:lo ≤ m) (h2:m ≤ hi) (h3:lo' ≤ n) (h4:n ≤ hi') {k:IntKind} {t:TypeId} {x y:Operand} :
  pureRun P (do eqGuard op t x y (.int k (.ofNat m)) (.int k (.ofNat n)); binOp op t (.int k (.ofNat m)) (.int k (.ofNat n))) = some (.bool r):=by
 cases op <;> simp only [symRng] at h
 case eql=>split at h <;> first | (cases h; simp [eqGuard,binOp,Op.intCmp,pureRun,pure,bind,Sem.bind]; omega) | cases h
 case neq=>split at h <;> first | (cases h; simp [eqGuard,binOp,Op.intCmp,pureRun,pure,bind,Sem.bind]; omega) | cases h
 case lss=>(split at h <;> first | (cases h; simp [eqGuard,binOp,Op.intCmp,pureRun,pure,bind,Sem.bind]; omega) | (split at h <;> first | (cases h; simp [eqGuard,binOp,Op.intCmp,pureRun,pure,bind,Sem.bind]; omega) | cases h))
 case leq=>(split at h <;> first | (cases h; simp [eqGuard,binOp,Op.intCmp,pureRun,pure,bind,Sem.bind]; omega) | (split at h <;> first | (cases h; simp [eqGuard,binOp,Op.intCmp,pureRun,pure,bind,Sem.bind]; omega) | cases h))
 case gtr=>(split at h <;> first | (cases h; simp [eqGuard,binOp,Op.intCmp,pureRun,pure,bind,Sem.bind]; omega) | (split at h <;> first | (cases h; simp [eqGuard,binOp,Op.intCmp,pureRun,pure,bind,Sem.bind]; omega) | cases h))
 case geq=>(split at h <;> first | (cases h; simp [eqGuard,binOp,Op.intCmp,pureRun,pure,bind,Sem.bind]; omega) | (split at h <;> first | (cases h; simp [eqGuard,binOp,Op.intCmp,pureRun,pure,bind,Sem.bind]; omega) | cases h))
 all_goals cases h
theorem symTwo_ok {op:BinOp} {b b' lo hi lo' hi' m n:Nat} {ne ne':List Nat} {r:Bool} (h:symTwo op b b' ne ne' lo hi lo' hi' = some r) (hs:b = b' → m = n) (hd:ne.contains b' = true ∨ ne'.contains b = true → m ≠ n) (h1:lo ≤ m) (h2:m ≤ hi) (h3:lo' ≤ n) (h4:n ≤ hi') {k:IntKind} {t:TypeId} {x y:Operand} :
  pureRun P (do eqGuard op t x y (.int k (.ofNat m)) (.int k (.ofNat n)); binOp op t (.int k (.ofNat m)) (.int k (.ofNat n))) = some (.bool r):=by
 unfold symTwo at h
 split at h
 ·rename_i hb
  obtain rfl:=hs hb
  exact symSame_ok h
 ·split at h
  ·rename_i r' hr
   cases h
   split at hr
   ·rename_i hne; exact symDiff_ok hr (hd hne)
   ·cases hr
  ·exact symRng_ok h h1 h2 h3 h4
theorem pure_bool {m:Sem Value} {r:Bool} (hm:pureRun P m = some (.bool r)) (h:val1 nx (.v (.bool r)) = some out) : pureL P nx m = some out:=by
 unfold pureL
 rw [hm]
 exact h
theorem wrap_top {k:IntKind} {r:Nat} (h:r ≤ topK k) : k.wrap (r:Int) = (r:Int):=by
 cases k <;> simp only [topK] at h <;> simp only [IntKind.wrap,IntKind.bits,IntKind.signed] <;> simp <;> omega
theorem run_conv_sym {src dst:TypeId} {d:TypeDesc} {k k':IntKind} {n:Nat} (hs:P.underlying src = some d) (hd:P.underlying dst = some (.int k')) (hn:n ≤ topK k') : (convert src dst (.int k (.ofNat n))).run P w = .ok (.int k' (.ofNat n)) w:=by
 have h:=wrap_top hn
 unfold convert
 simp only [Sem.run_bind,run_underlying hs,run_underlying hd,Result.andThen_ok]
 show (Conv.intToInt k' (n:Int)).run P w = _
 simp only [Conv.intToInt,h]
 rfl
def Does (P:Program) (nB B:Nat) (w0:World) (ν : Env) (H:Hp) (nx:Nat) (out:Out) (w:World) (a:Act) (o:Oper) : Prop :=
 ∃ v' w' ν',OpPost nB B w0 ν ν' H nx out w w' v' ∧ ((execOp a.eval o).run P w = .ok (.value v') w' ∨ ((execOp a.eval o).run P w = .ok .skip w' ∧ v' = undef))
theorem Gives.does {a:Act} {o:Oper} {m:Sem Value} (h:Gives P nB B w0 ν H nx out w m) (he:execOp a.eval o = (do pure (.value (← m)) : Sem Next)) : Does P nB B w0 ν H nx out w a o:=by
 obtain ⟨v',w',ν',h1,h2⟩:=h
 exact ⟨v',w',ν',h1,.inl (by rw [he,gives_run h2]; rfl)⟩
theorem exec_builtin {a:Act} {o:Oper} {c:Call} {b:Builtin} (ho:o.op = .call c) (hc:c.callee = .builtin b) : execOp a.eval o = builtin b c.argTypes o.type (c.args.map fun | .const _=>true | _=>false) (c.args.map a.eval):=by
 obtain ⟨dst,op,type,pos,after,guard⟩:=o
 simp only at ho
 subst ho
 simp only [execOp,resolve,hc]
 rfl
theorem len_run {t elem type:TypeId} {argTypes:Array TypeId} {a:Addr} {n c:Nat} (h0:argTypes[0]? = some t) (hu:P.underlying t = some (.slice elem)) : (Builtin.len_ argTypes type #[.slice (some a) n c]).run P w = .ok (goInt n) w:=by
 simp [Builtin.len_,h0,run_underlying hu]
theorem cap_run {t elem type:TypeId} {argTypes:Array TypeId} {a:Addr} {n c:Nat} (h0:argTypes[0]? = some t) (hu:P.underlying t = some (.slice elem)) : (Builtin.cap_ argTypes type #[.slice (some a) n c]).run P w = .ok (goInt c) w:=by
 simp [Builtin.cap_,h0,run_underlying hu]
theorem strlen_run {t type:TypeId} {argTypes:Array TypeId} {bs:List UInt8} {n:Nat} (h0:argTypes[0]? = some t) (hu:P.underlying t = some .string) (hn:bs.length = n) : (Builtin.len_ argTypes type #[.string ⟨bs.toArray⟩]).run P w = .ok (goInt n) w:=by
 have hs : (⟨bs.toArray⟩ : ByteArray).size = n:=by rw [← hn]; exact List.size_toArray
 simp [Builtin.len_,h0,run_underlying hu,hs]
theorem cmp1_ok {x y:LV} {a b:UInt8} {r:Bool} (h:cmp1 x y = some r) (hx:VR ν x (.int .u8 a.toNat)) (hy:VR ν y (.int .u8 b.toNat)) : (r = true ↔ a = b):=by
 have inj : a = b ↔ a.toNat = b.toNat:=UInt8.toNat_inj.symm
 rw [inj]
 unfold cmp1 at h
 split at h
 ·rename_i m n
  cases h
  simp only [VR] at hx hy
  have h1 : a.toNat = m:=by have:=hx.1; injection this with _ e; exact Int.ofNat.inj e
  have h2 : b.toNat = n:=by have:=hy.1; injection this with _ e; exact Int.ofNat.inj e
  rw [h1,h2]
  constructor
  ·exact Nat.eq_of_beq_eq_true
  ·intro e; rw [e,Nat.beq_refl]
 ·rename_i b1 k lo hi ne b2 k' lo' hi' ne'
  simp only [VR] at hx hy
  obtain ⟨l,f1,e1,g1,g2,g3,d1⟩:=hx
  obtain ⟨l',f2,e2,g4,g5,g6,d2⟩:=hy
  have h1 : a.toNat = l.addr:=by injection e1 with _ e; exact Int.ofNat.inj e
  have h2 : b.toNat = l'.addr:=by injection e2 with _ e; exact Int.ofNat.inj e
  rw [h1,h2]
  split at h
  ·rename_i hbb
   cases h
   obtain rfl:=Nat.eq_of_beq_eq_true hbb
   rw [f1] at f2; cases f2
   simp
  ·split at h
   ·rename_i hne
    cases h
    simp only [Bool.or_eq_true] at hne
    constructor
    ·intro e; cases e
    ·intro e
     rcases hne with hne | hne | hne | hne
     ·obtain ⟨l2,q1,q2⟩:=d1 _ (List.contains_iff_mem.1 hne)
      rw [f2] at q1; cases q1; exact absurd e q2
     ·obtain ⟨l2,q1,q2⟩:=d2 _ (List.contains_iff_mem.1 hne)
      rw [f1] at q1; cases q1; exact absurd e.symm q2
     ·have:=Nat.le_of_ble_eq_true hne; omega
     ·have:=Nat.le_of_ble_eq_true hne; omega
   ·cases h
 ·rename_i b1 k lo hi ne n
  simp only [VR] at hx hy
  obtain ⟨l,f1,e1,g1,g2,g3,d1⟩:=hx
  have h1 : a.toNat = l.addr:=by injection e1 with _ e; exact Int.ofNat.inj e
  have h2 : b.toNat = n:=by have:=hy.1; injection this with _ e; exact Int.ofNat.inj e
  rw [h1,h2]
  split at h
  ·rename_i hne
   cases h
   simp only [Bool.or_eq_true] at hne
   constructor
   ·intro e; cases e
   ·intro e
    rcases hne with hne | hne
    ·have:=Nat.le_of_ble_eq_true hne; omega
    ·have:=Nat.le_of_ble_eq_true hne; omega
  ·cases h
 ·rename_i n b1 k lo hi ne
  simp only [VR] at hx hy
  obtain ⟨l,f1,e1,g1,g2,g3,d1⟩:=hy
  have h1 : b.toNat = l.addr:=by injection e1 with _ e; exact Int.ofNat.inj e
  have h2 : a.toNat = n:=by have:=hx.1; injection this with _ e; exact Int.ofNat.inj e
  rw [h1,h2]
  split at h
  ·rename_i hne
   cases h
   simp only [Bool.or_eq_true] at hne
   constructor
   ·intro e; cases e
   ·intro e
    rcases hne with hne | hne
    ·have:=Nat.le_of_ble_eq_true hne; omega
    ·have:=Nat.le_of_ble_eq_true hne; omega
  ·cases h
 ·cases h
abbrev bvs (bs:List UInt8) : List Value:=bs.map fun b=>.int .u8 b.toNat
theorem cmpL_ok : ∀ {l m:List LV} {a b:List UInt8} {r:Bool},cmpL l m = some r → VRs ν l (bvs a) → VRs ν m (bvs b) → (r = true ↔ a = b)
 | [],[],a,b,r,h,hx,hy=>by
  have h1 : a = []:=by have:=VRs.nil_iff.1 hx; simpa [bvs] using this
  have h2 : b = []:=by have:=VRs.nil_iff.1 hy; simpa [bvs] using this
  simp only [cmpL,Option.some.injEq] at h
  subst h1 h2 h
  simp
 | x :: l,[],a,b,r,h,hx,hy=>by
  obtain ⟨u,us,e,_,_⟩:=VRs.cons_iff.1 hx
  have h2 : b = []:=by have:=VRs.nil_iff.1 hy; simpa [bvs] using this
  simp only [cmpL,Option.some.injEq] at h
  subst h2 h
  cases a with
  | nil=>simp [bvs] at e
  | cons a as=>simp
 | [],y :: m,a,b,r,h,hx,hy=>by
  obtain ⟨u,us,e,_,_⟩:=VRs.cons_iff.1 hy
  have h1 : a = []:=by have:=VRs.nil_iff.1 hx; simpa [bvs] using this
  simp only [cmpL,Option.some.injEq] at h
  subst h1 h
  cases b with
  | nil=>simp [bvs] at e
  | cons b bs=>simp
 | x :: l,y :: m,a,b,r,h,hx,hy=>by
  obtain ⟨u,us,e,hx1,hx2⟩:=VRs.cons_iff.1 hx
  obtain ⟨v,vs,e',hy1,hy2⟩:=VRs.cons_iff.1 hy
  cases a with
  | nil=>simp [bvs] at e
  | cons a as =>
   cases b with
   | nil=>simp [bvs] at e'
   | cons b bs =>
    simp only [bvs,List.map_cons,List.cons.injEq] at e e'
    obtain ⟨rfl,rfl⟩:=e
    obtain ⟨rfl,rfl⟩:=e'
    simp only [cmpL] at h
    split at h
    ·rename_i hc
     cases h
     have:=cmpL_ok hc hx2 hy2
     simp at this
     simp [this]
    ·rename_i hc _
     cases h
     have:=cmp1_ok hc hx1 hy1
     simp at this
     simp [this]
    ·rename_i h1 h2
     cases h
     have q1:=cmpL_ok h1 hx2 hy2
     have q2:=cmp1_ok h2 hx1 hy1
     simp at q1 q2
     simp [q1,q2]
    ·cases h
theorem strCs_ok {x:LV} {l:List LV} {y:Value} (h:strCs x = some l) (hv:VR ν x y) : ∃ bs : List UInt8,y = .string ⟨bs.toArray⟩ ∧ VRs ν l (bvs bs):=by
 unfold strCs at h
 split at h
 ·rename_i s
  cases h
  simp only [VR] at hv
  obtain ⟨rfl,_⟩:=hv
  exact ⟨s.data.toList,by simp,bytes_vrs _⟩
 ·cases h
  simp only [VR] at hv
  exact hv
 ·cases h
theorem strOpL_ok {op:BinOp} {a b r:LV} {x y:Value} {t:TypeId} {p q:Operand} (h:strOpL op a b = some r) (hx:VR ν a x) (hy:VR ν b y) : ∃ z,VR ν r z ∧ ∀ w : World,(do eqGuard op t p q x y; binOp op t x y : Sem Value).run P w = .ok z w:=by
  unfold strOpL at h
  split at h
  ·rename_i l m h1 h2
   obtain ⟨as,rfl,ha⟩:=strCs_ok h1 hx
   obtain ⟨bs,rfl,hb⟩:=strCs_ok h2 hy
   split at h
   ·simp only [Option.map_eq_some_iff] at h
    obtain ⟨r',h3,rfl⟩:=h
    have h4:=cmpL_ok h3 ha hb
    refine ⟨.bool r',by simp [VR,plainV],fun w=>?_⟩
    have h5 : ((⟨as.toArray⟩ : ByteArray).toList == (⟨bs.toArray⟩ : ByteArray).toList) = r':=by
     rw [ByteArray.toList_eq,ByteArray.toList_eq]
     cases r' <;> simp at h4 ⊢ <;> exact h4
    simp only [ByteArray.toList_mk] at h5
    simp [eqGuard,binOp,Op.stringOp,h5]
   ·simp only [Option.map_eq_some_iff] at h
    obtain ⟨r',h3,rfl⟩:=h
    have h4:=cmpL_ok h3 ha hb
    refine ⟨.bool (!r'),by simp [VR,plainV],fun w=>?_⟩
    have h5 : ((⟨as.toArray⟩ : ByteArray).toList == (⟨bs.toArray⟩ : ByteArray).toList) = r':=by
     rw [ByteArray.toList_eq,ByteArray.toList_eq]
     cases r' <;> simp at h4 ⊢ <;> exact h4
    simp only [ByteArray.toList_mk] at h5
    simp [eqGuard,binOp,Op.stringOp,h5]
   ·split at h
    ·rename_i hle
     cases h
     have e1 : as.length = l.length:=by have:=ha.length; simpa [bvs] using this
     have e2 : bs.length = m.length:=by have:=hb.length; simpa [bvs] using this
     refine ⟨.string ⟨(as ++ bs).toArray⟩,by simp only [VR]; exact ⟨as ++ bs,rfl,by rw [List.map_append]; exact ha.append hb⟩,fun w=>?_⟩
     have h6 : ¬ (((⟨as.toArray⟩ : ByteArray).size + (⟨bs.toArray⟩ : ByteArray).size : Nat) : Int) > IntKind.i64.max:=by
      simp only [ByteArray.size,List.size_toArray,e1,e2]
      have : IntKind.i64.max = 2 ^ 63 - 1:=by decide
      rw [this]; omega
     have h7 : (⟨as.toArray⟩ : ByteArray) ++ (⟨bs.toArray⟩ : ByteArray) = ⟨(as ++ bs).toArray⟩:=by
      apply ByteArray.ext
      simp
     simp only [eqGuard,binOp,Op.stringOp,if_neg h6,h7]
     simp
    ·cases h
   ·cases h
  ·cases h
theorem oddL_ok {op:BinOp} {a b r:LV} {x y:Value} {t:TypeId} {p q:Operand} (h:oddL op a b = some r) (hx:VR ν a x) (hy:VR ν b y) : ∃ z,VR ν r z ∧ ∀ w : World,(do eqGuard op t p q x y; binOp op t x y : Sem Value).run P w = .ok z w:=by
 have neg : ∀ (b1:Nat) (k:IntKind) (lo hi:Nat) (ne:List Nat) (k':IntKind) (n:Nat),oddL op (.sym b1 k lo hi ne) (.v (.int k' (.negSucc n))) = some r → VR ν (.sym b1 k lo hi ne) x → VR ν (.v (.int k' (.negSucc n))) y → ∃ z,VR ν r z ∧ ∀ w : World,(do eqGuard op t p q x y; binOp op t x y : Sem Value).run P w = .ok z w:=by
  intro b1 k lo hi ne k' n h hx hy
  simp only [VR] at hx hy
  obtain ⟨l,_,rfl,_⟩:=hx
  obtain ⟨rfl,_⟩:=hy
  simp only [oddL] at h
  split at h
  ·rename_i hk
   subst hk
   cases op <;> simp only [reduceCtorEq,Option.some.injEq] at h
   all_goals (subst h; refine ⟨_,by simp only [VR]; exact ⟨rfl,rfl⟩,fun w=>?_⟩; simp [eqGuard,binOp,Op.intCmp]; try omega)
  ·cases h
 have num : ∀ (k:IntKind) (n b1:Nat) (k':IntKind) (lo hi:Nat) (ne:List Nat),oddL op (.v (.int k (.ofNat n))) (.sym b1 k' lo hi ne) = some r → VR ν (.v (.int k (.ofNat n))) x → VR ν (.sym b1 k' lo hi ne) y → ∃ z,VR ν r z ∧ ∀ w : World,(do eqGuard op t p q x y; binOp op t x y : Sem Value).run P w = .ok z w:=by
  intro k n b1 k' lo hi ne h hx hy
  simp only [VR] at hx hy
  obtain ⟨l,_,rfl,h1,h2,_⟩:=hy
  obtain ⟨rfl,_⟩:=hx
  simp only [oddL] at h
  split at h
  ·rename_i hk
   subst hk
   simp only [Option.map_eq_some_iff] at h
   obtain ⟨r',hr,rfl⟩:=h
   exact ⟨.bool r',by simp [VR,plainV],pureRun_ok _ _ (symRng_ok hr (Nat.le_refl _) (Nat.le_refl _) h1 h2)⟩
  ·cases h
 have key : oddL op a b = strOpL op a b ∨ (∃ b1 k lo hi ne k' n,a = .sym b1 k lo hi ne ∧ b = .v (.int k' (.negSucc n))) ∨ (∃ k n b1 k' lo hi ne,a = .v (.int k (.ofNat n)) ∧ b = .sym b1 k' lo hi ne):=by
  cases a with
  | sym b1 k lo hi ne=>cases b with
   | v y=>cases y with
    | int k' z=>cases z with
     | negSucc n=>exact .inr (.inl ⟨b1,k,lo,hi,ne,k',n,rfl,rfl⟩)
     | ofNat n=>exact .inl rfl
    | _=>exact .inl rfl
   | _=>exact .inl rfl
  | v y=>cases y with
   | int k z=>cases z with
    | ofNat n=>cases b with
     | sym b1 k' lo hi ne=>exact .inr (.inr ⟨k,n,b1,k',lo,hi,ne,rfl,rfl⟩)
     | _=>exact .inl rfl
    | negSucc n=>exact .inl rfl
   | _=>exact .inl rfl
  | _=>exact .inl rfl
 rcases key with key | ⟨b1,k,lo,hi,ne,k',n,rfl,rfl⟩ | ⟨k,n,b1,k',lo,hi,ne,rfl,rfl⟩
 ·rw [key] at h
  exact strOpL_ok h hx hy
 ·exact neg b1 k lo hi ne k' n h hx hy
 ·exact num k n b1 k' lo hi ne h hx hy
theorem goI_ok (n:Nat) : VR ν (goI n) (goInt n):=by simp [goI,VR,goInt,plainV]
theorem two_args {xs:Array Operand} {a:Act} {l1 l2:LV} (h:VRs ν [l1,l2] (xs.toList.map a.eval)) : ∃ v1 v2,xs.map a.eval = #[v1,v2] ∧ VR ν l1 v1 ∧ VR ν l2 v2:=by
 obtain ⟨v1,us,e1,h1,h2⟩:=VRs.cons_iff.1 h
 obtain ⟨v2,us',e2,h3,h4⟩:=VRs.cons_iff.1 h2
 have:=VRs.nil_iff.1 h4
 subst this e2
 exact ⟨v1,v2,by apply Array.ext'; simpa using e1,h1,h3⟩
theorem one_arg {xs:Array Operand} {a:Act} {l1:LV} (h:VRs ν [l1] (xs.toList.map a.eval)) : ∃ v1,xs.map a.eval = #[v1] ∧ VR ν l1 v1:=by
 obtain ⟨v1,us,e1,h1,h2⟩:=VRs.cons_iff.1 h
 have:=VRs.nil_iff.1 h2
 subst this
 exact ⟨v1,by apply Array.ext'; simpa using e1,h1⟩
theorem op_builtin {a:Act} {o:Oper} {c:Call} {b:Builtin} {args:List LV} (ho:o.op = .call c) (hc:c.callee = .builtin b) (hargs:VRs ν args (c.args.toList.map a.eval)) (h:builtinL P nB H nx b c.argTypes.toList o.type args = some out)
  (hν : out.nx = nx + 1 → ν nx = none) (hH:HRF ν H out.foot w) (hlow:LowF nB B ν H out.foot) (hid:∀ i k,H.get i = some k → i < nx) (hb:Below B w0 w) (hB:B ≤ w0.heap.size) : Does P nB B w0 ν H nx out w a o:=by
 have ex:=exec_builtin (a:=a) ho hc
 unfold builtinL at h
 split at h
 ·-- len of a slice
  rename_i b' off n c'
  obtain ⟨v1,e1,hv1⟩:=one_arg hargs
  simp only [VR] at hv1
  obtain ⟨lc,_,rfl⟩:=hv1
  split at h
  ·rename_i t rest hat
   have h0 : c.argTypes[0]? = some t:=by rw [← Array.getElem?_toList,hat]; rfl
   split at h
   ·rename_i elem hu
    cases h
    exact (gives_val (len_run h0 hu) (goI_ok n) hb : Gives P nB B w0 ν H nx _ w _).does (by rw [ex,e1]; rfl)
   ·cases h
  ·cases h
 ·rename_i b' off n e'
  obtain ⟨v1,e1,hv1⟩:=one_arg hargs
  simp only [VR] at hv1
  obtain ⟨lc,c',_,rfl,_⟩:=hv1
  split at h
  ·rename_i t rest hat
   have h0 : c.argTypes[0]? = some t:=by rw [← Array.getElem?_toList,hat]; rfl
   split at h
   ·rename_i elem hu
    cases h
    exact (gives_val (len_run h0 hu) (goI_ok n) hb : Gives P nB B w0 ν H nx _ w _).does (by rw [ex,e1]; rfl)
   ·cases h
  ·cases h
 ·obtain ⟨v1,e1,hv1⟩:=one_arg hargs
  simp only [VR] at hv1
  obtain ⟨ad,c',rfl,_⟩:=hv1
  split at h
  ·rename_i t rest hat
   have h0 : c.argTypes[0]? = some t:=by rw [← Array.getElem?_toList,hat]; rfl
   split at h
   ·rename_i elem hu
    cases h
    exact (gives_val (len_run h0 hu) (goI_ok 0) hb : Gives P nB B w0 ν H nx _ w _).does (by rw [ex,e1]; rfl)
   ·cases h
  ·cases h
 ·rename_i cs
  obtain ⟨v1,e1,hv1⟩:=one_arg hargs
  simp only [VR] at hv1
  obtain ⟨bs,rfl,hbs⟩:=hv1
  have hlen : bs.length = cs.length:=by have:=hbs.length; simpa using this
  split at h
  ·rename_i t rest hat
   have h0 : c.argTypes[0]? = some t:=by rw [← Array.getElem?_toList,hat]; rfl
   split at h
   ·rename_i hu
    cases h
    exact (gives_val (strlen_run h0 hu hlen) (goI_ok cs.length) hb : Gives P nB B w0 ν H nx _ w _).does (by rw [ex,e1]; rfl)
   ·cases h
  ·cases h
 ·rename_i x
  obtain ⟨v1,e1,hv1⟩:=one_arg hargs
  simp only [VR] at hv1
  obtain ⟨rfl,_⟩:=hv1
  exact (pureL_ok h hb).does (by rw [ex,e1]; rfl)
 ·rename_i b' off n c'
  obtain ⟨v1,e1,hv1⟩:=one_arg hargs
  simp only [VR] at hv1
  obtain ⟨lc,_,rfl⟩:=hv1
  split at h
  ·rename_i t rest hat
   have h0 : c.argTypes[0]? = some t:=by rw [← Array.getElem?_toList,hat]; rfl
   split at h
   ·rename_i elem hu
    cases h
    exact (gives_val (cap_run h0 hu) (goI_ok c') hb : Gives P nB B w0 ν H nx _ w _).does (by rw [ex,e1]; rfl)
   ·cases h
  ·cases h
 ·rename_i x
  obtain ⟨v1,e1,hv1⟩:=one_arg hargs
  simp only [VR] at hv1
  obtain ⟨rfl,_⟩:=hv1
  exact (pureL_ok h hb).does (by rw [ex,e1]; rfl)
 ·rename_i s x
  obtain ⟨v1,v2,e1,hv1,hv2⟩:=two_args hargs
  exact (op_append h hv1 hv2 hν hH hlow hid hb hB).does (by rw [ex,e1]; rfl)
 ·rename_i s x
  obtain ⟨v1,v2,e1,hv1,hv2⟩:=two_args hargs
  exact (op_copy h hv1 hv2 hH hlow hid hb).does (by rw [ex,e1]; rfl)
 ·rename_i x
  obtain ⟨v1,e1,hv1⟩:=one_arg hargs
  exact (op_clear h hv1 hH hlow hid hb).does (by rw [ex,e1]; rfl)
 ·rename_i x y
  obtain ⟨v1,v2,e1,hv1,hv2⟩:=two_args hargs
  simp only [VR] at hv1 hv2
  obtain ⟨rfl,_⟩:=hv1
  obtain ⟨rfl,_⟩:=hv2
  exact (pureL_ok h hb).does (by rw [ex,e1]; rfl)
 ·rename_i x y
  obtain ⟨v1,v2,e1,hv1,hv2⟩:=two_args hargs
  simp only [VR] at hv1 hv2
  obtain ⟨rfl,_⟩:=hv1
  obtain ⟨rfl,_⟩:=hv2
  exact (pureL_ok h hb).does (by rw [ex,e1]; rfl)
 ·cases h
end
end Go.Proofs.YtjpfhhndjpdmoaaGreatDoor

namespace Go.Proofs.YtjpfhhndjpdmoaaGreatDoor
open Go.RowKit
set_option linter.unusedVariables false
set_option linter.unusedSimpArgs false

section
variable {P:Program} {nB B:Nat} {w0:World} {ν : Env} {T:Tr LV} {H:Hp} {nx:Nat} {w:World} {out:Out}
theorem ov_of {a:Act} {o:Option Operand} (h:∀ x ∈ o.toList,∀ l,opd P T x = some l → VR ν l (a.eval x)) (hn:∀ x ∈ o.toList,opd P T x ≠ none) : OV ν (o.bind (opd P T)) (o.map a.eval):=by
 cases o with
 | none=>trivial
 | some x =>
  have h1:=hn x (by simp)
  simp only [Option.bind_some,Option.map_some]
  cases hx : opd P T x with
  | none=>exact absurd hx h1
  | some l=>exact h x (by simp) l hx
theorem opds_some : ∀ {xs:List Operand} {ls:List LV},opds P T xs = some ls → ∀ x ∈ xs,opd P T x ≠ none
 | [],ls,_,x,hx=>by cases hx
 | y :: xs,ls,h,x,hx=>by
  simp only [opds] at h
  split at h
  ·rename_i l hl
   simp only [Option.map_eq_some_iff] at h
   obtain ⟨ls',h1,_⟩:=h
   rcases List.mem_cons.1 hx with rfl | hx
   ·rw [hl]; simp
   ·exact opds_some h1 x hx
  ·cases h
set_option maxHeartbeats 1000000 in
theorem leaf_ok {callf:FuncId → List LV → Hp → Nat → Option Out} {a:Act} {o:Oper} (h:evOpB P nB callf T H nx o = some out) (hcall:∀ c f,o.op = .call c → c.callee ≠ .value f)
  (hT:∀ x ∈ o.op.operands.toList,∀ l,opd P T x = some l → VR ν l (a.eval x)) (hν : ∀ i,nx ≤ i → i < out.nx → ν i = none) (hH:HRF ν H out.foot w) (hlow:LowF nB B ν H out.foot) (hid:∀ i k,H.get i = some k → i < nx) (hb:Below B w0 w) (hB:B ≤ w0.heap.size) :
  Does P nB B w0 ν H nx out w a o:=by
 obtain ⟨dst,op,type,pos,after,guard⟩:=o
 have hν1 : out.nx = nx + 1 → ν nx = none:=fun e=>hν nx (Nat.le_refl _) (by omega)
 cases op with
 | move x =>
  simp only [evOpB] at h
  split at h
  ·rename_i l hl
   cases h
   exact ⟨_,w,ν,post_val (hT x (by simp [Op.operands]) l hl) hb,.inl rfl⟩
  ·cases h
 | assign x =>
  simp only [evOpB] at h
  split at h
  ·rename_i l hl
   cases h
   exact ⟨_,w,ν,post_val (hT x (by simp [Op.operands]) l hl) hb,.inl rfl⟩
  ·cases h
 | pick c x y =>
  simp only [evOpB] at h
  split at h
  ·rename_i t l1 l2 h1 h2 h3
   cases h
   have hc:=hT c (by simp [Op.operands]) _ h1
   have hx:=hT x (by simp [Op.operands]) _ h2
   have hy:=hT y (by simp [Op.operands]) _ h3
   simp only [VR] at hc
   refine ⟨if t then a.eval x else a.eval y,w,ν,post_val ?_ hb,.inl ?_⟩
   ·cases t <;> simpa
   ·simp only [execOp,hc.1,asBool,Sem.run_bind,Sem.run_pure,Result.andThen_ok]
  ·cases h
 | alloc t =>
  simp only [evOpB] at h
  split at h
  ·rename_i z hz
   have hnx : out.nx = nx + 1:=by obtain ⟨_,rfl⟩:=new1_inv h; rfl
   exact (op_alloc hz h (hν1 hnx) hb hB).does rfl
  ·cases h
 | box t x =>
  simp only [evOpB] at h
  split at h
  ·rename_i l hl
   have hnx : out.nx = nx + 1:=by obtain ⟨_,rfl⟩:=new1_inv h; rfl
   exact (op_box (hT x (by simp [Op.operands]) l hl) h (hν1 hnx) hb hB).does rfl
  ·cases h
 | build t parts =>
  have hT' : ∀ x ∈ parts.toList,∀ l,opd P T x.2 = some l → VR ν l (a.eval x.2):=fun x hx l hl=>hT x.2 (by simp only [Op.operands]; simp; exact ⟨x.1,by simpa using hx⟩) l hl
  simp only [evOpB] at h
  split at h
  ·rename_i z fs ps hz hu hps
   split at h
   ·rename_i pl hpl
    split at h
    ·rename_i cs hcs
     cases h
     exact (op_buildS hz hu hps hT' hb hpl hcs).does rfl
    ·cases h
   ·cases h
  ·rename_i z k elem ps hz hu hps
   split at h
   ·rename_i n hn
    split at h
    ·rename_i cs hcs
     cases h
     exact (op_buildA hz hu hps hT' hb hn hcs).does rfl
    ·cases h
   ·cases h
  ·cases h
 | buildSlice t len parts =>
  have hT' : ∀ x ∈ parts.toList,∀ l,opd P T x.2 = some l → VR ν l (a.eval x.2):=fun x hx l hl=>hT x.2 (by simp only [Op.operands]; simp; exact ⟨x.1,by simpa using hx⟩) l hl
  simp only [evOpB] at h
  split at h
  ·rename_i elem hu
   split at h
   ·rename_i z n ps hz hn hps
    split at h
    ·rename_i hc
     split at h
     ·rename_i cs hcs
      have hnx : out.nx = nx + 1:=by obtain ⟨_,rfl⟩:=new1_inv h; rfl
      exact (op_buildSlice hz hn hc.2.2 hu hps hT' hb hB (hν1 hnx) hc.1 hc.2.1 hcs h).does rfl
     ·cases h
    ·cases h
   ·cases h
  ·cases h
 | load t x =>
  simp only [evOpB] at h
  split at h
  ·rename_i b off hx
   split at h
   ·rename_i k hk
    split at h
    ·rename_i l hl
     cases h
     exact (op_load (hT x (by simp [Op.operands]) _ hx) hk hl hH (by simp [footHas]) hb).does rfl
    ·cases h
   ·cases h
  ·cases h
 | store t x y =>
  simp only [evOpB] at h
  split at h
  ·rename_i b off l n hx hy hn
   split at h
   ·rename_i hnB
    split at h
    ·rename_i k hk
     split at h
     ·rename_i hc
      cases h
      obtain ⟨w',h1,h2⟩:=op_store (nx:=nx) (hT x (by simp [Op.operands]) _ hx) (hT y (by simp [Op.operands]) _ hy) hn hnB hk hc.1 hc.2.1 hc.2.2 hH hlow (by simp [footHas]) (hid b k hk) hb
      exact ⟨undef,w',ν,h2,.inr ⟨by simp only [execOp,Sem.run_bind,h1]; rfl,rfl⟩⟩
     ·cases h
    ·cases h
   ·cases h
  ·cases h
 | nilCheck x =>
  simp only [evOpB] at h
  split at h
  ·rename_i b off hx
   cases h
   have hv:=hT x (by simp [Op.operands]) _ hx
   have hv':=hv
   simp only [VR] at hv
   obtain ⟨lc,_,e⟩:=hv
   exact ⟨_,w,ν,post_val hv' hb,.inl (by simp only [execOp,e]; rfl)⟩
  ·rename_i f caps hx
   cases h
   have hv:=hT x (by simp [Op.operands]) _ hx
   have hv':=hv
   simp only [VR] at hv
   obtain ⟨vs,e,_⟩:=hv
   exact ⟨_,w,ν,post_val hv' hb,.inl (by simp only [execOp,e]; rfl)⟩
  ·cases h
 | binOp op t x y yt =>
  simp only [evOpB] at h
  split at h
  ·rename_i hx hy
   have h1:=hT x (by simp [Op.operands]) _ hx
   have h2:=hT y (by simp [Op.operands]) _ hy
   simp only [VR] at h1 h2
   obtain ⟨ad,c,e1,_⟩:=h1
   exact (op_nilSlice (x:=x) (y:=y) hb h).does (by simp only [execOp,e1,h2.1]; rfl)
  ·rename_i b off n c hx hy
   have h1:=hT x (by simp [Op.operands]) _ hx
   have h2:=hT y (by simp [Op.operands]) _ hy
   simp only [VR] at h1 h2
   obtain ⟨lc,_,e1⟩:=h1
   exact (op_nilSlice (x:=x) (y:=y) hb h).does (by simp only [execOp,e1,h2.1]; rfl)
  ·rename_i b off n e hx hy
   have h1:=hT x (by simp [Op.operands]) _ hx
   have h2:=hT y (by simp [Op.operands]) _ hy
   simp only [VR] at h1 h2
   obtain ⟨lc,c,_,e1,_⟩:=h1
   exact (op_nilSlice (x:=x) (y:=y) hb h).does (by simp only [execOp,e1,h2.1]; rfl)
  ·rename_i u b hx hy
   have h1:=hT x (by simp [Op.operands]) _ hx
   have h2:=hT y (by simp [Op.operands]) _ hy
   simp only [VR] at h1 h2
   obtain ⟨v,e1,_⟩:=h1
   exact (op_nilIfc (x:=x) (y:=y) hb h).does (by simp only [execOp,e1,h2.1]; rfl)
  ·rename_i b off hx hy
   have h1:=hT x (by simp [Op.operands]) _ hx
   have h2:=hT y (by simp [Op.operands]) _ hy
   simp only [VR] at h1 h2
   obtain ⟨lc,_,e1⟩:=h1
   exact (op_nilPtr (x:=x) (y:=y) hb h).does (by simp only [execOp,e1,h2.1]; rfl)
  ·rename_i b k lo hi ne k' n hx hy
   split at h
   ·rename_i hk
    subst hk
    split at h
    ·rename_i r hr
     have h1:=hT x (by simp [Op.operands]) _ hx
     have h2:=hT y (by simp [Op.operands]) _ hy
     simp only [VR] at h1 h2
     obtain ⟨l,_,e1,e2,e3,_⟩:=h1
     exact (pureL_ok (pure_bool (symCmp_ok (k:=k) (t:=t) (x:=x) (y:=y) hr e2 e3) h) hb).does (by simp only [execOp,e1,h2.1])
    ·cases h
   ·cases h
  ·rename_i b k lo hi ne b' k' lo' hi' ne' hx hy
   have h1:=hT x (by simp [Op.operands]) _ hx
   have h2:=hT y (by simp [Op.operands]) _ hy
   simp only [VR] at h1 h2
   obtain ⟨l,f1,e1,p1,p2,_,d1⟩:=h1
   obtain ⟨l',f2,e2,p3,p4,_,d2⟩:=h2
   split at h
   ·rename_i hk
    subst hk
    split at h
    ·rename_i r hr
     exact (pureL_ok (pure_bool (symTwo_ok (k:=k) (t:=t) (x:=x) (y:=y) hr (fun e=>by subst e; rw [f1] at f2; cases f2; rfl) (fun hne=>by
      rcases hne with hne | hne
      ·obtain ⟨l2,g1,g2⟩:=d1 b' (List.contains_iff_mem.1 hne)
       rw [f2] at g1; cases g1; exact g2
      ·obtain ⟨l2,g1,g2⟩:=d2 b (List.contains_iff_mem.1 hne)
       rw [f1] at g1; cases g1; exact fun e=>g2 e.symm) p1 p2 p3 p4) h) hb).does (by simp only [execOp,e1,e2]; try rfl)
    ·cases h
   ·cases h
  ·rename_i l1 l2 _ _ _ _ _ _ hx hy
   split at h
   ·rename_i v1 v2 e1 e2
    have h1:=val?_eq e1 (hT x (by simp [Op.operands]) _ hx)
    have h2:=val?_eq e2 (hT y (by simp [Op.operands]) _ hy)
    exact (pureL_ok h hb).does (by simp only [execOp,h1,h2])
   ·split at h
    ·rename_i r hr
     cases h
     obtain ⟨z,hz,hrun⟩:=oddL_ok (P:=P) (t:=t) (p:=x) (q:=y) hr (hT x (by simp [Op.operands]) _ hx) (hT y (by simp [Op.operands]) _ hy)
     exact (gives_val (hrun w) hz hb : Gives P nB B w0 ν H nx _ w _).does rfl
    ·cases h
  ·cases h
 | unOp op t x =>
  simp only [evOpB] at h
  split at h
  ·rename_i y hx
   have hv:=hT x (by simp [Op.operands]) _ hx
   simp only [VR] at hv
   exact (pureL_ok h hb).does (by simp only [execOp,hv.1])
  ·cases h
 | extract x i =>
  simp only [evOpB] at h
  split at h
  ·rename_i cs hx
   split at h
   ·rename_i l hl
    cases h
    exact (op_extract (hT x (by simp [Op.operands]) _ hx) hl hb).does rfl
   ·cases h
  ·cases h
 | convert src dst x =>
  simp only [evOpB] at h
  split at h
  ·rename_i s hx
   have hv:=hT x (by simp [Op.operands]) _ hx
   simp only [VR] at hv
   split at h
   ·rename_i e hd
    split at h
    ·rename_i he
     split at h
     ·rename_i d0 hs
      split at h
      ·cases h
      ·rename_i hsz
       have hnx : out.nx = nx + 1:=by obtain ⟨_,rfl⟩:=new1_inv h; rfl
       exact (op_toBytes hsz hd he hs (hν1 hnx) h hb hB).does (by simp only [execOp,hv.1])
     ·cases h
    ·cases h
   ·exact (pureL_ok h hb).does (by simp only [execOp,hv.1])
  ·rename_i b off len c hx
   have hv:=hT x (by simp [Op.operands]) _ hx
   simp only [VR] at hv
   obtain ⟨lc,hlc,e1⟩:=hv
   split at h
   ·rename_i e hs hd
    split at h
    ·rename_i he
     exact (str_ok hs he hd hlc h hH hb).does (by simp only [execOp,e1]; try rfl)
    ·cases h
   ·rename_i e0 e hs hd
    split at h
    ·rename_i hsd he
     split at h
     ·rename_i k hk
      split at h
      ·rename_i hnB
       cases h
       exact (op_mark hs hd he hsd hlc hk hnB hH hlow (by simp [footHas]) (hid b k hk) hb).does (by simp only [execOp,e1]; try rfl)
      ·cases h
     ·cases h
    ·cases h
   ·cases h
  ·rename_i b off len e' hx
   have hv:=hT x (by simp [Op.operands]) _ hx
   simp only [VR] at hv
   obtain ⟨lc,c,hlc,e1,_⟩:=hv
   split at h
   ·rename_i e hs hd
    split at h
    ·rename_i he
     exact (str_ok hs he hd hlc h hH hb).does (by simp only [execOp,e1]; try rfl)
    ·cases h
   ·cases h
  ·rename_i cs hx
   have hv:=hT x (by simp [Op.operands]) _ hx
   simp only [VR] at hv
   obtain ⟨bs,e1,hbs⟩:=hv
   have hlen : (⟨bs.toArray⟩ : ByteArray).size = cs.length:=by have:=hbs.length; simpa [ByteArray.size] using this
   split at h
   ·rename_i e hd
    split at h
    ·rename_i he
     split at h
     ·rename_i d0 hs
      split at h
      ·cases h
      ·rename_i hsz
       have hnx : out.nx = nx + 1:=by obtain ⟨_,rfl⟩:=new1_inv h; rfl
       rw [← hlen] at h hsz
       exact (op_toBytesC (s:=⟨bs.toArray⟩) (by simpa using hbs) hsz hd he hs (hν1 hnx) h hb hB).does (by simp only [execOp,e1])
     ·cases h
    ·cases h
   ·cases h
  ·rename_i hx
   have hv:=hT x (by simp [Op.operands]) _ hx
   simp only [VR] at hv
   obtain ⟨ad,c,e1,_⟩:=hv
   split at h
   ·rename_i e hs hd
    split at h
    ·rename_i he
     cases h
     refine (gives_val (v':=.string ⟨#[]⟩) ?_ (by simp [VR,plainV]) hb : Gives P nB B w0 ν H nx _ w (convert src dst (.slice (some ad) 0 c))).does (by simp only [execOp,e1]; try rfl)
     rw [run_convert_bytes_string w src dst e _ 0 c hs he hd]
     simp [Conv.bytesToString,loadCells,loadCellsFrom]
     rfl
    ·cases h
   ·cases h
  ·rename_i b k lo hi ne hx
   have hv:=hT x (by simp [Op.operands]) _ hx
   simp only [VR] at hv
   obtain ⟨l,g1,e1,g2,g3,g4,g5⟩:=hv
   split at h
   ·rename_i s' k' hs hd
    split at h
    ·rename_i hk
     cases h
     exact (gives_val (v':=.int k' (.ofNat l.addr)) (run_conv_sym (k:=k) hs hd (Nat.le_trans g3 hk)) (by simp only [VR]; exact ⟨l,g1,rfl,g2,g3,hk,g5⟩) hb : Gives P nB B w0 ν H nx _ w (convert src dst (.int k (.ofNat l.addr)))).does (by simp only [execOp,e1]; try rfl)
    ·cases h
   ·cases h
  ·rename_i y _ hx
   have hv:=hT x (by simp [Op.operands]) _ hx
   simp only [VR] at hv
   exact (pureL_ok h hb).does (by simp only [execOp,hv.1])
  ·cases h
 | sliceToArrayPointer t x =>
  simp only [evOpB] at h
  split at h
  ·rename_i n elem b off len c hu hx
   have hv:=hT x (by simp [Op.operands]) _ hx
   simp only [VR] at hv
   obtain ⟨lc,hlc,e1⟩:=hv
   split at h
   ·rename_i hle
    cases h
    exact (op_s2a hu hlc hle hb).does (by simp only [execOp,e1]; try rfl)
   ·cases h
  ·rename_i n elem b off len e hu hx
   have hv:=hT x (by simp [Op.operands]) _ hx
   simp only [VR] at hv
   obtain ⟨lc,c,hlc,e1,_⟩:=hv
   split at h
   ·rename_i hle
    cases h
    exact (op_s2a hu hlc hle hb).does (by simp only [execOp,e1]; try rfl)
   ·cases h
  ·cases h
 | makeInterface t x =>
  simp only [evOpB] at h
  split at h
  ·cases h
  ·rename_i d hd hu
   split at h
   ·rename_i l hx
    cases h
    have h1:=hT x (by simp [Op.operands]) _ hx
    exact (gives_val (v':=.iface t (a.eval x)) (by simp only [Instr.makeInterface,Sem.run_bind,run_underlying hu,Result.andThen_ok]; cases d <;> first | rfl | (exact absurd rfl (hd _))) (by simp only [VR]; exact ⟨_,rfl,h1⟩) hb : Gives P nB B w0 ν H nx _ w (Instr.makeInterface t (a.eval x))).does rfl
   ·cases h
  ·cases h
 | makeFunc f first caps =>
  simp only [evOpB] at h
  split at h
  ·rename_i cs hf hcs
   cases h
   have hf' : first = #[]:=by apply Array.ext'; simpa using hf
   exact (op_makeFunc (opds_ok (fun x hx=>hT x (by simp [Op.operands]; right; simpa using hx)) hcs) hb).does (by simp [execOp,hf'])
  ·cases h
 | makeSlice t l c =>
  simp only [evOpB] at h
  split at h
  ·rename_i elem x y hu hx hy
   split at h
   ·rename_i l' c' z n inf hl hc hz hn hi
    split at h
    ·rename_i hcond
     have hnx : out.nx = nx + 1:=by obtain ⟨_,rfl⟩:=new1_inv h; rfl
     exact (op_makeSlice hu (hT l (by simp [Op.operands]) _ hx) (hT c (by simp [Op.operands]) _ hy) hl hc hz hn hi hcond.2.2.2 hcond.1 hcond.2.1 hcond.2.2.1 h (hν1 hnx) hb hB).does rfl
    ·cases h
   ·cases h
  ·cases h
 | slice t x lo hi mx =>
  simp only [evOpB] at h
  split at h
  ·rename_i l ls hx hls
   have hmem : ∀ y ∈ lo.toList ++ hi.toList ++ mx.toList,∀ l,opd P T y = some l → VR ν l (a.eval y):=fun y hy=>hT y (by simp [Op.operands] at hy ⊢; rcases hy with h | h | h <;> simp [h])
   have hne:=opds_some hls
   exact (op_slice h (hT x (by simp [Op.operands]) _ hx) (ov_of (fun y hy=>hmem y (by simp at hy ⊢; simp [hy])) (fun y hy=>hne y (by simp at hy ⊢; simp [hy]))) (ov_of (fun y hy=>hmem y (by simp at hy ⊢; simp [hy])) (fun y hy=>hne y (by simp at hy ⊢; simp [hy]))) (ov_of (fun y hy=>hmem y (by simp at hy ⊢; simp [hy])) (fun y hy=>hne y (by simp at hy ⊢; simp [hy]))) hH hb).does rfl
  ·cases h
 | fieldAddr s x f =>
  simp only [evOpB] at h
  split at h
  ·rename_i fs b off hu hx
   split at h
   ·rename_i fd hf
    split at h
    ·rename_i n hn
     cases h
     exact (op_fieldAddr hu (hT x (by simp [Op.operands]) _ hx) hf hn hb).does rfl
    ·cases h
   ·cases h
  ·cases h
 | field s x f =>
  simp only [evOpB] at h
  split at h
  ·rename_i fs cs hu hx
   split at h
   ·rename_i fd hf
    split at h
    ·rename_i l hl
     cases h
     exact (op_field hu (hT x (by simp [Op.operands]) _ hx) hf hl hb).does rfl
    ·cases h
   ·cases h
  ·cases h
 | indexAddr t x i =>
  simp only [evOpB] at h
  split at h
  ·rename_i n elem b off y hu hx hy
   split at h
   ·rename_i j e hj he
    split at h
    ·rename_i hlt
     cases h
     exact (op_indexA hu (hT x (by simp [Op.operands]) _ hx) (hT i (by simp [Op.operands]) _ hy) hj he hlt hb).does rfl
    ·cases h
   ·cases h
  ·rename_i elem b off n c y hu hx hy
   have hv:=hT x (by simp [Op.operands]) _ hx
   simp only [VR] at hv
   obtain ⟨lc,hlc,e1⟩:=hv
   split at h
   ·rename_i j e hj he
    split at h
    ·rename_i hlt
     cases h
     exact (op_indexS hu hlc (hT i (by simp [Op.operands]) _ hy) hj he hlt hb).does (by simp only [execOp,e1]; try rfl)
    ·cases h
   ·cases h
  ·rename_i elem b off n eb y hu hx hy
   have hv:=hT x (by simp [Op.operands]) _ hx
   simp only [VR] at hv
   obtain ⟨lc,c,hlc,e1,_⟩:=hv
   split at h
   ·rename_i j e hj he
    split at h
    ·rename_i hlt
     cases h
     exact (op_indexS hu hlc (hT i (by simp [Op.operands]) _ hy) hj he hlt hb).does (by simp only [execOp,e1]; try rfl)
    ·cases h
   ·cases h
  ·cases h
 | index t x i =>
  simp only [evOpB] at h
  split at h
  ·rename_i cs y hx hy
   split at h
   ·rename_i n elem j hu hj
    split at h
    ·rename_i e he
     split at h
     ·rename_i hlt
      split at h
      ·rename_i l hl
       cases h
       exact (op_index hu (hT x (by simp [Op.operands]) _ hx) (hT i (by simp [Op.operands]) _ hy) hj he hlt hl hb).does rfl
      ·cases h
     ·cases h
    ·cases h
   ·cases h
  ·rename_i x1 y1 hx hy
   have h1:=hT x (by simp [Op.operands]) _ hx
   have h2:=hT i (by simp [Op.operands]) _ hy
   simp only [VR] at h1 h2
   exact (pureL_ok h hb).does (by simp only [execOp,h1.1,h2.1])
  ·cases h
 | call c =>
  simp only [evOpB,callL] at h
  split at h
  ·rename_i args hargs
   split at h
   ·rename_i b hb'
    exact op_builtin rfl hb' (opds_ok (fun x hx=>hT x (by simp [Op.operands,Call.operands]; right; simpa using hx)) hargs) h hν1 hH hlow hid hb hB
   ·rename_i f hf
    exact absurd hf (hcall c f rfl)
   ·cases h
  ·cases h
 | _=>simp [evOpB] at h
end
end Go.Proofs.YtjpfhhndjpdmoaaGreatDoor
