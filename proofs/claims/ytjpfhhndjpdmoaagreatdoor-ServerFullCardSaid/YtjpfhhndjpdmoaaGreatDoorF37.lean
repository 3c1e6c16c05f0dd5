/- Part of the proof: EvSx,AgS,EvLy,FuA,FuB,FuC. No conditions of its own. -/
import Derived.Test.YtjpfhhndjpdmoaaGreatDoorF32
import Derived.Test.YtjpfhhndjpdmoaaGreatDoorF34
import Derived.Test.YtjpfhhndjpdmoaaGreatDoorF35
import Derived.Test.YtjpfhhndjpdmoaaGreatDoorF36
namespace Go.Proofs.YtjpfhhndjpdmoaaGreatDoor
open Go.RowKit
set_option linter.unusedVariables false
set_option linter.unusedSimpArgs false

theorem obF : Nat.ble OB 47 = false ∧ Nat.ble OB 125 = false ∧ Nat.ble OB 128 = false:=⟨by kernel_rfl,by kernel_rfl,by kernel_rfl⟩
noncomputable def orcT4 : Orc:=withO akF (fallO (anyX GN fkL) (cfT1 akF)) (withO opF (fallO (anyX GN foL) (cfT1 opF)) (withO ryF (fallO (anyX GN frL) (cfT1 ryF)) (withO 47 asO (withO 125 isO (withO 128 clO (withO svF srvO orcT1))))))
noncomputable def cfT4 : FuncId → List LV → Hp → Nat → Option Out:=evFQ Tryz.prog GN 100000 orcT4 60
theorem noH_T4 : NoH orcT4:=noH_with obT2.1 (noH_with obT2.2.1 (noH_with obT2.2.2.1 (noH_with obF.1 (noH_with obF.2.1 (noH_with obF.2.2 (noH_with obT2.2.2.2.2 noH_T1))))))
section
variable {w:World} (hW:HashW w) (hC:CurveW w) (hO:OldW w) (hE:ErrW w)
include hW hC hO
theorem stg_of {l:List Stg} {f:FuncId} (ob:Nat.ble OB f = false) (hf:l.all (fun s=>Nat.beq s.f f) = true) (hr:∀ s ∈ l,stRun s = true) : ∀ s ∈ l,FnOkW Tryz.prog GN w.heap.size w f (stX GN s):=by
 intro s hs
 have e : s.f = f:=nbeq (List.all_eq_true.1 hf s hs)
 have h:=hr s hs
 unfold stRun at h
 subst e
 exact stX_ok glSz (cfT1_ok hW hC hO) s ob h
theorem stgF_ok : (∀ s ∈ fkL,FnOkW Tryz.prog GN w.heap.size w akF (stX GN s)) ∧ (∀ s ∈ foL,FnOkW Tryz.prog GN w.heap.size w opF (stX GN s)) ∧ (∀ s ∈ frL,FnOkW Tryz.prog GN w.heap.size w ryF (stX GN s)):=by
 refine ⟨stg_of hW hC hO obT2.1 (by kernel_rfl) (fun s hs=>?_),stg_of hW hC hO obT2.2.1 (by kernel_rfl) (fun s hs=>?_),stg_of hW hC hO obT2.2.2.1 (by kernel_rfl) (fun s hs=>?_)⟩
 ·obtain ⟨i,hi,hm⟩:=mem_runAt 0 7 4 fkL (Nat.le_of_ble_eq_true (by kernel_rfl)) hs
  have : i = 0 ∨ i = 1 ∨ i = 2 ∨ i = 3:=by omega
  rcases this with rfl | rfl | rfl | rfl
  ·exact List.all_eq_true.1 fkL_0 s hm
  ·exact List.all_eq_true.1 fkL_1 s hm
  ·exact List.all_eq_true.1 fkL_2 s hm
  ·exact List.all_eq_true.1 fkL_3 s hm
 ·obtain ⟨i,hi,hm⟩:=mem_runAt 0 7 4 foL (Nat.le_of_ble_eq_true (by kernel_rfl)) hs
  have : i = 0 ∨ i = 1 ∨ i = 2 ∨ i = 3:=by omega
  rcases this with rfl | rfl | rfl | rfl
  ·exact List.all_eq_true.1 foL_0 s hm
  ·exact List.all_eq_true.1 foL_1 s hm
  ·exact List.all_eq_true.1 foL_2 s hm
  ·exact List.all_eq_true.1 foL_3 s hm
 ·obtain ⟨i,hi,hm⟩:=mem_runAt 0 7 3 frL (Nat.le_of_ble_eq_true (by kernel_rfl)) hs
  have : i = 0 ∨ i = 1 ∨ i = 2:=by omega
  rcases this with rfl | rfl | rfl
  ·exact List.all_eq_true.1 frL_0 s hm
  ·exact List.all_eq_true.1 frL_1 s hm
  ·exact List.all_eq_true.1 frL_2 s hm
include hE
theorem orcT4_ok : OrcOkW Tryz.prog GN w.heap.size w orcT4:=by
 have hc:=cfT1_ok hW hC hO
 obtain ⟨h1,h2,h3⟩:=stgF_ok hW hC hO
 refine withO_ok (fallO_ok (anyX_ok h1) (fun args H nx out e hn=>hc akF args H nx out obT2.1 e hn)) ?_
 refine withO_ok (fallO_ok (anyX_ok h2) (fun args H nx out e hn=>hc opF args H nx out obT2.2.1 e hn)) ?_
 refine withO_ok (fallO_ok (anyX_ok h3) (fun args H nx out e hn=>hc ryF args H nx out obT2.2.2.1 e hn)) ?_
 exact withO_ok (as_ok hE).wide (withO_ok is_ok.wide (withO_ok cl_ok.wide (withO_ok (srv_ok hW hC hO).wide (orcT1_ok hW hC hO))))
theorem cfT4_ok : CallOkW Tryz.prog GN w.heap.size w cfT4:=by
 unfold cfT4
 rw [evFQ_evF]
 exact evF_okW (by kernel_rfl) (Nat.le_refl _) noGo szOB noH_T4 (orcT4_ok hW hC hO hE) 60
theorem evT4_ok {GE:Env → Prop} : EvOk Tryz.prog GE GN w.heap.size w cfT4:=by
 refine ⟨cfT4_ok hW hC hO hE,?_⟩
 unfold cfT4
 rw [evFQ_evF]
 exact noOps szOB noH_T4
end
end Go.Proofs.YtjpfhhndjpdmoaaGreatDoor

namespace Go.Proofs.YtjpfhhndjpdmoaaGreatDoor
open Go.RowKit
set_option linter.unusedVariables false
set_option linter.unusedSimpArgs false
set_option linter.unusedSectionVars false

def outB : Dl → List LV
 | [(_,some b)]=>b.cells
 | _=>[]
def agCfg : List LV:=[(.slice 4551 0 1 1)] ++ (q8 [3,0,0,0,0,0,0,0,0,0,0,0,0,0,0,0,0,0,0,0,0,0,0,0,0,0,0,0,0,0,0,2] ++ ([(.slice 4552 0 1 1),(.v (.int .i64 5))] ++ (q8 [0,0,0,0,0,0,0,0,0,0,0,0,0,0,0,0,0,0,0,0,0,0,0,0,0,0,0,0,0,0,0,0] ++ ([(.v (.bool false)),(.v (.slice none 0 0))] ++ (q8 [0,0,0,0,0,0,0,0,0,0,0,0,0,0,0,0,0,0,0,0,0,0,0,0,0,0,0,0,0,0,0,0] ++ ([(.v (.int .i64 0)),(.v (.int .i64 0)),(.v (.string ⟨#[]⟩)),(.v (.string ⟨#[]⟩)),(.v (.int .i64 0)),(.v (.int .i64 0)),(.v (.slice none 0 0)),(.v (.bool false)),(.v (.int .i64 0)),(.v (.int .i64 0))] ++ (q8 [5,0,0,0,0,0,0,0,0,0,0,0,0,0,0,0,0,0,0,0,0,0,0,0,0,0,0,0,0,0,0,0])))))))
def agPick (l:Dl) : List Nat → List (Nat × Blk)
 | []=>[]
 | i :: r=>match l.find? (fun p=>Nat.beq p.1 i) with
  | some (j,some b)=>(j,b) :: agPick l r
  | _=>agPick l r
def agCD : List (Nat × Blk):=agPick cfgD [4551,3088,4552,1628]
def agRow : Nat → Nat → List LV
 | _,0=>[]
 | f,n + 1=>.buf (5700 + (f + f)) 0 46 1 :: .buf (5701 + (f + f)) 0 56 1 :: agRow (f + 1) n
def agTk : Nat → Nat → List LV
 | _,0=>[]
 | f,n + 1=>.ptr (5600 + f) 0 :: agTk (f + 1) n
def agSelf : List Nat → Sg → Sg
 | [],σ=>σ
 | i :: r,σ=>(i,.num i) :: agSelf r σ
abbrev gS : Nat:=8
def agUp (n:Nat) (p:Nat → Bool) : Bool:=match n with | 0=>true | k + 1=>p k && agUp k p
theorem agUp_ok {p:Nat → Bool} : ∀ {n:Nat},agUp n p = true → ∀ j,j < n → p j = true
 | 0,_,j,h=>by omega
 | n + 1,h,j,hj=>by
  simp only [agUp,Bool.and_eq_true] at h
  by_cases e : j = n
  ·subst e; exact h.1
  ·exact agUp_ok h.2 j (by omega)
def AgG (ν : Env) : Prop:=GlobE Tryz.prog ν ∧ ν gS = some ⟨gS,8,0⟩
instance agG_ok : GEok Tryz.prog AgG:=⟨fun ν ν' h hG=>⟨(globOk Tryz.prog).mono ν ν' h hG.1,h _ _ hG.2⟩,fun _ h=>h.1⟩
theorem gS_lt : gS < GN:=by decide
theorem agG_env {nx:Nat} {ν : Env} {σ : Sg} (h:AgG ν) (hK:insK GN nx σ = true) : AgG (envS GN σ ν):=by
 refine ⟨glob_envS (Nat.le_of_ble_eq_true (by kernel_rfl)) hK h.1,?_⟩
 have hg:=gS_lt
 unfold envS
 cases hl : lkS σ gS with
 | some x=>have:=(insK_ok hK gS x hl).1; omega
 | none=>show (if gS < GN then ν gS else none) = _; rw [if_pos hg]; exact h.2
section
variable {w0 w:World} {ν : Env} {act:Act}
theorem ag_lit {n:Nat} {v:Value} (h:v = .int .i64 (n:Int)) : VR ν (goI n) v:=by
 subst h
 exact goI_ok n
end
theorem ag_mod (z k:Int) (hk:0 < k) (hk2:k ≤ 1000) : 0 ≤ (IntKind.u64.wrap z).tmod k ∧ (IntKind.u64.wrap z).tmod k < k:=by
 have h0 : 0 ≤ IntKind.u64.wrap z:=by
  unfold IntKind.wrap
  simp only [show IntKind.u64.signed = false from rfl,Bool.false_and,Bool.false_eq_true,if_false]
  exact Int.emod_nonneg _ (by decide)
 rw [Int.tmod_eq_emod_of_nonneg h0]
 exact ⟨Int.emod_nonneg _ (by omega),Int.emod_lt_of_pos _ hk⟩
end Go.Proofs.YtjpfhhndjpdmoaaGreatDoor

namespace Go.Proofs.YtjpfhhndjpdmoaaGreatDoor
open Go.RowKit
set_option linter.unusedVariables false
set_option linter.unusedSimpArgs false
set_option linter.unusedSectionVars false
set_option autoImplicit false

section
variable {P:Program} {GE:Env → Prop} [hGE : GEok P GE] {nB B:Nat} {w0:World}
theorem opK_sub {op:Op} {ts:List Nat} (h:opK op = some (11,ts)) : ∃ t x y u,op = .binOp .sub t x y u ∧ ts = []:=by
 cases op with
 | binOp o t x y u =>
  cases o <;> simp only [opK,Option.some.injEq,Prod.mk.injEq,reduceCtorEq] at h
  all_goals first | (exact ⟨t,x,y,u,rfl,h.2.symm⟩) | (simp at h; done)
 | call c=>simp only [opK] at h; split at h <;> first | (split at h <;> simp at h; done) | (simp at h; done)
 | slice t x lo hi mx=>cases lo <;> cases hi <;> cases mx <;> simp [opK] at h
 | _=>simp [opK] at h
theorem hint_sum {x z v:LV} {i n:Nat} (hx:∀ ν y,GE ν → VR ν x y → y = .int .i64 (i:Int)) (hz:∀ ν y,GE ν → VR ν z y → y = .int .i64 (n:Int)) (hi:i ≤ 1000000) (hn:n ≤ 1000000) (hv:∀ ν,GE ν → VR ν v (.int .i64 ((i + n : Nat) : Int))) : HintOk P GE B w0 ⟨10,[],[x,z],v⟩:=by
 intro op ho ν a w hG hbl hvs
 obtain ⟨t',x',y',u',e1,e2⟩:=opK_add ho
 obtain ⟨dst,op,type,pos,after,guard⟩:=op
 simp only at e1 hvs
 subst e1
 simp only [Op.operands] at hvs
 obtain ⟨v1,us,e3,h1,h2⟩:=VRs.cons_iff.1 hvs
 obtain ⟨v2,us,rfl,h3,h4⟩:=VRs.cons_iff.1 h2
 obtain rfl:=VRs.nil_iff.1 h4
 simp only [List.map_cons,List.map_nil,List.cons.injEq,and_true] at e3
 have p1:=hx ν v1 hG h1
 have p2:=hz ν v2 hG h3
 have hw : IntKind.i64.wrap ((i:Int) + n) = (i:Int) + n:=by rw [IntKind.wrap_i64]; omega
 refine ⟨.int .i64 ((i + n : Nat) : Int),?_,hv ν hG⟩
 show (do pure (.value (← (do eqGuard .add t' x' y' (a.eval x') (a.eval y'); binOp .add t' (a.eval x') (a.eval y')))) : Sem Next).run P w = _
 rw [e3.1,e3.2,p1,p2]
 simp [eqGuard,binOp,Op.intArith,hw]
theorem hint_sub1 {x v:LV} {i:Nat} (hx:∀ ν y,GE ν → VR ν x y → y = .int .i64 ((i + 1 : Nat) : Int)) (hi:i ≤ 1000000) (hv:∀ ν,GE ν → VR ν v (.int .i64 (i:Int))) : HintOk P GE B w0 ⟨11,[],[x,goI 1],v⟩:=by
 intro op ho ν a w hG hbl hvs
 obtain ⟨t',x',y',u',e1,e2⟩:=opK_sub ho
 obtain ⟨dst,op,type,pos,after,guard⟩:=op
 simp only at e1 hvs
 subst e1
 simp only [Op.operands] at hvs
 obtain ⟨v1,us,e3,h1,h2⟩:=VRs.cons_iff.1 hvs
 obtain ⟨v2,us,rfl,h3,h4⟩:=VRs.cons_iff.1 h2
 obtain rfl:=VRs.nil_iff.1 h4
 simp only [List.map_cons,List.map_nil,List.cons.injEq,and_true] at e3
 have p1:=hx ν v1 hG h1
 have p2 : v2 = .int .i64 1:=by
  simp only [goI,VR] at h3
  exact h3.1
 have hw : IntKind.i64.wrap (i:Int) = (i:Int):=by rw [IntKind.wrap_i64]; omega
 refine ⟨.int .i64 (i:Int),?_,hv ν hG⟩
 show (do pure (.value (← (do eqGuard .sub t' x' y' (a.eval x') (a.eval y'); binOp .sub t' (a.eval x') (a.eval y')))) : Sem Next).run P w = _
 rw [e3.1,e3.2,p1,p2]
 simp [eqGuard,binOp,Op.intArith,hw]
end
end Go.Proofs.YtjpfhhndjpdmoaaGreatDoor

namespace Go.Proofs.YtjpfhhndjpdmoaaGreatDoor
open Go.RowKit
set_option linter.unusedVariables false
set_option linter.unusedSimpArgs false

def fuQ (j:Nat) : List LV:=fkQ j (fkM.getD j [])
def fuS (j:Nat) : List LV:=frQ j (frM.getD j [])
def fuX (b lo hi:Nat) : LV:=.sym b .i64 lo hi []
def fuKd : Nat → Nat → List (Nat × Blk)
 | _,0=>[]
 | f,n + 1=>(5700 + (f + f),⟨5,false,true,fuQ f⟩) :: (5701 + (f + f),⟨5,false,true,fuS f⟩) :: fuKd (f + 1) n
def fuTb (idle:Nat) : Nat → Nat → List (Nat × Blk)
 | _,0=>[]
 | f,n + 1=>(5600 + f,⟨122,true,false,[goI (f + 1),.ptr (5650 + f) 0,goI 4,goI idle]⟩) :: fuTb idle (f + 1) n
def fuKept (i:Nat) : LV:=match i with
 | 0=>.v (.slice none 0 0)
 | i + 1=>match Nat.ble (i + 1) 5 with | true=>.buf 5476 0 (i + 1) 2 | false=>.buf 5476 2 5 2
def fuTalks (i:Nat) : LV:=match i with
 | 0=>.v (.slice none 0 0)
 | i + 1=>.buf 5007 0 (i + 1) 1
def fuFirst (i:Nat) : Nat:=match Nat.ble i 5 with | true=>0 | false=>i - 6
def fuCells (x y:LV) (i:Nat) : List LV:=.buf 4580 0 1 1 :: (agCfg ++ [goI 1000,x,goI 5,y,goI i,fuTalks i,fuKept i,.v (.slice none 0 0)])
def fuRows (i:Nat) : List (Nat × Blk):=match i with
 | 0=>[]
 | i + 1=>[(5007,⟨120,false,true,agTk 0 (i + 1)⟩),(5476,⟨147,false,true,agRow (fuFirst (i + 1)) (i + 1 - fuFirst (i + 1))⟩)]
def fuD (x y:LV) (i:Nat) : List (Nat × Blk):=(4581,⟨92,true,false,fuCells x y i⟩) :: (4580,⟨5,false,false,q8 [115]⟩) :: (fuRows i ++ (agCD ++ (fuTb 0 0 i ++ fuKd (i - 5) (i - (i - 5)))))
def fuT (x y z:LV) (i:Nat) : List (Nat × LV):=[(0,x),(1,y),(2,z),(10,.ptr 4581 0),(12,goI i)]
abbrev fuN (lo hi:Nat) : LV:=fuX 1000000 lo hi
abbrev fuY : LV:=fuX 1000001 1 20
abbrev fuM : LV:=fuX 1000002 0 4
def fuPat (lo hi i:Nat) : Pat:=⟨fuT (fuN lo hi) fuY fuM i,fuD (fuN lo hi) fuY i,6000⟩
def fuOld : Nat → Sg → Sg
 | 0,σ=>σ
 | n + 1,σ=>(5600 + n,.num (5600 + n)) :: (5650 + n,.num (5650 + n)) :: (5700 + (n + n),.num (5700 + (n + n))) :: (5701 + (n + n),.num (5701 + (n + n))) :: fuOld n σ
def fuBase : List Nat:=[1000000,1000001,1000002,1000003,1000004,4581,4580,4551,3088,4552,1628]
def fuSgR (i:Nat) : Sg:=agSelf fuBase ((5007,.num (6425 + Nat.min i 5)) :: (5476,.num (6894 + Nat.min i 5)) :: (5600 + i,.num (6423 + Nat.min i 5)) :: (5650 + i,.num (6406 + Nat.min i 5)) :: (5700 + (i + i),.num (6892 + Nat.min i 5)) :: (5701 + (i + i),.num (6482 + Nat.min i 5)) :: fuOld i [])
abbrev fuF : FuncId:=9
noncomputable def fuB : Code:=Cd.bodyOf Tryz.prog fuF
noncomputable def fuC3 : Code:=Cd.drop 4 fuB
noncomputable def fuL : Code:=Cd.a (Cd.a (Cd.b (Cd.a fuC3)))
def fuSt (t:TypeId) (T:List (Nat × LV)) (D:List (Nat × Blk)) : St:=⟨146,trOf T,(hpOf D).set gS (some ⟨t,true,false,q32 startS⟩),6000,[]⟩
def fuHs (i:Nat) : List Hint:=[⟨10,[],[fuN (i + 1) 20,fuM],fuX 1000003 (i + 1) 24⟩]
noncomputable def fuRnd (t:TypeId) (i:Nat) : Bool:=okS GN (fuSgR i) ⟨[],[]⟩ (fuPat (i + 1) 20 (i + 1)) .normal 6000 (evCQ Tryz.prog GN (hintF (fuHs i) cfT4) 1000 fuL (fuSt t (fuPat (i + 1) 20 i).T (fuPat (i + 1) 20 i).D))
def fuSgI (n:Nat) : Sg:=agSelf fuBase ((5007,.num 5007) :: (5476,.num 5476) :: fuOld n [])
def fuNar (lo hi i:Nat) : Bool:=insS GN (fuSgI i) ⟨[(1000000,lo,hi,[])],[]⟩ (fuPat lo hi i) (stOf 146 (fuPat i 20 i))
def fuPat2 (n i:Nat) : Pat:=⟨fuT (goI n) fuY fuM i,fuD (fuN n n) fuY n,6000⟩
def fuHs2 (n i:Nat) : List Hint:=[⟨10,[],[goI n,fuM],fuX 1000003 (i + 1) 24⟩]
def fuHs3 (n i:Nat) : List Hint:=[⟨10,[],[goI n,fuM],fuX 1000003 0 i⟩]
noncomputable def fuRef (t:TypeId) (n i:Nat) : Bool:=okS GN (fuSgI n) ⟨[],[]⟩ (fuPat2 n (i + 1)) .normal 6000 (evCQ Tryz.prog GN (hintF (fuHs2 n i) cfT4) 1000 fuL (fuSt t (fuPat2 n i).T (fuPat2 n i).D))
noncomputable def fuExt (n i:Nat) : Bool:=okS GN (fuSgI n) ⟨[],[]⟩ (fuPat2 n i) (.exit 0) 6000 (evCQ Tryz.prog GN (hintF (fuHs3 n i) cfT4) 1000 fuL (stOf 146 (fuPat2 n i)))
/-! ### behind the first talk's end -/
def fuTc (idle:Nat) : Nat → Nat → List (Nat × Blk)
 | _,0=>[]
 | f,n + 1=>(5600 + f,⟨122,true,false,[goI (f + 1),.ptr (5650 + f) 0,goI 4,goI idle]⟩) :: fuTc idle (f + 1) n
def fuNil : Nat → List LV
 | 0=>[]
 | n + 1=>.v (.pointer none) :: fuNil n
def fuKept4 (n:Nat) : LV:=match Nat.ble (n + 1) 5 with | true=>.buf 5476 0 (n + 1) 2 | false=>.buf 5476 2 5 2
def fuCells4 (n k:Nat) (y:LV) : List LV:=.buf 4580 0 1 1 :: (agCfg ++ [goI 1000,fuN n n,goI 5,y,goI n,.buf 5007 0 k 1,fuKept4 n,.v (.slice none 0 0)])
def fuD4 (n k idle:Nat) (y:LV) : List (Nat × Blk):=(4581,⟨92,true,false,fuCells4 n k y⟩) :: (4580,⟨5,false,false,q8 [115]⟩) :: (5007,⟨120,false,true,agTk 1 k ++ fuNil (n - k)⟩) :: (5476,⟨147,false,true,agRow (n - 5) (n - (n - 5)) ++ [.buf 5900 0 56 1,.buf 5901 0 44 1]⟩) :: (5900,⟨5,false,true,outB fk24.d⟩) :: (agCD ++ (fuTc idle 1 k ++ fuKd (n - 5) (n - (n - 5))))
def fuPat4 (n idle:Nat) (y:LV) (r:List (Nat × LV)) : Pat:=⟨(0,goI n) :: (1,y) :: (10,.ptr 4581 0) :: r,fuD4 n (n - 1) idle y,6000⟩
def fuPat5 (n:Nat) (y:LV) : Pat:=⟨[(0,goI n),(10,.ptr 4581 0)],fuD4 n 0 0 y,6000⟩
def fuBase4 : List Nat:=[1000000,1000001,1000004,4581,4580,4551,3088,4552,1628]
def fuSg4 (n:Nat) : Sg:=agSelf fuBase4 ((5007,.num 5007) :: (5476,.num (6886 + Nat.min n 5)) :: (5900,.num (6884 + Nat.min n 5)) :: (5901,.num (6682 + Nat.min n 5)) :: fuOld n [])
def fuSg5 (n:Nat) : Sg:=agSelf fuBase4 ((5007,.num 5007) :: (5476,.num 5476) :: (5900,.num 5900) :: (5901,.num 5901) :: fuOld n [])
abbrev fuYr (lo hi:Nat) : LV:=fuX 1000001 lo hi
noncomputable def fuC4 : Code:=Cd.b fuC3
noncomputable def fuC5 : Code:=Cd.drop 1 fuC4
noncomputable def fuTk : Code:=Cd.a (Cd.a (Cd.b (Cd.a fuC5)))
noncomputable def fuC6 : Code:=Cd.b fuC5
noncomputable def fuC7 : Code:=Cd.drop 1 fuC6
noncomputable def fuNak (t:TypeId) (n:Nat) : Bool:=okS GN (fuSg4 n) ⟨[],[]⟩ (fuPat4 n 0 fuY []) .normal 6000 (evPre Tryz.prog GN cfT4 1000 1 fuC4 (fuSt t [(0,goI n),(1,fuY),(10,.ptr 4581 0)] (fuPat2 n n).D))
noncomputable def fuTick0 (n:Nat) : Bool:=okS GN (fuSg5 n) ⟨[],[]⟩ (fuPat4 n 0 fuY [(15,goI 0)]) .normal 6000 (evPre Tryz.prog GN cfT4 1000 0 (Cd.a fuC5) (stOf 146 (fuPat4 n 0 fuY [])))
def fuHt (k lo hi:Nat) : List Hint:=[⟨11,[],[fuYr (lo + 1) hi,goI 1],fuX 1000004 lo (hi - 1)⟩]
def fuNar4 (n k lo hi:Nat) : Bool:=insS GN (fuSg5 n) ⟨[(1000001,lo,hi,[])],[]⟩ (fuPat4 n k (fuYr lo hi) [(15,goI k)]) (stOf 146 (fuPat4 n k (fuYr (k + 1) 20) [(15,goI k)]))
noncomputable def fuTick (n k:Nat) : Bool:=okS GN (fuSg5 n) ⟨[],[]⟩ (fuPat4 n (k + 1) (fuYr (k + 2) 20) [(15,goI (k + 1))]) .normal 6000 (evCQ Tryz.prog GN (hintF (fuHt k (k + 1) 20) cfT4) 1000 fuTk (stOf 146 (fuPat4 n k (fuYr (k + 2) 20) [(15,goI k)])))
noncomputable def fuTickX (n k:Nat) : Bool:=okS GN (fuSg5 n) ⟨[],[]⟩ (fuPat4 n k (fuYr (k + 1) (k + 1)) [(15,goI k)]) (.exit 2) 6000 (evCQ Tryz.prog GN (hintF (fuHt k k (k + 1)) cfT4) 1000 fuTk (stOf 146 (fuPat4 n k (fuYr (k + 1) (k + 1)) [(15,goI k)])))
noncomputable def fuLast (n k:Nat) : Bool:=okS GN (fuSg5 n) ⟨[],[]⟩ (fuPat5 n fuY) .normal 6000 (evPre Tryz.prog GN cfT4 1000 1 fuC6 (stOf 146 (fuPat4 n k (fuYr (k + 1) (k + 1)) [(15,goI k)])))
noncomputable def fuEnd (t:TypeId) (n:Nat) : Bool:=okE Tryz.prog 6000 Tryz.f9.results.toList (evCQ Tryz.prog GN cfT4 1000 fuC7 (fuSt t (fuPat5 n fuY).T (fuPat5 n fuY).D))
/-! ### together -/
noncomputable def fuAll1 (t:TypeId) (i:Nat) : Bool:=fuNar (i + 1) 20 i && fuRnd t i
noncomputable def fuAll2 (t:TypeId) (n:Nat) : Bool:=(fuNar n n n && agUp 4 (fun k=>fuRef t n (n + k))) && agUp 5 (fun k=>fuExt n (n + k))
noncomputable def fuAll3 (t:TypeId) (n:Nat) : Bool:=(fuNak t n && fuTick0 n) && fuEnd t n
noncomputable def fuAll4 (n k:Nat) : Bool:=(fuNar4 n k (k + 1) (k + 1) && fuTickX n k) && fuLast n k
noncomputable def fuAll5 (n k:Nat) : Bool:=fuNar4 n k (k + 2) 20 && fuTick n k
end Go.Proofs.YtjpfhhndjpdmoaaGreatDoor

namespace Go.Proofs.YtjpfhhndjpdmoaaGreatDoor
open Go.RowKit
set_option linter.unusedVariables false
set_option linter.unusedSimpArgs false
set_option linter.unusedSectionVars false

/-! ### numbers laid anew -/
def fuSet (ν : Env) : List (Nat × Nat) → Env
 | []=>ν
 | (k,x) :: l=>fun i=>match Nat.beq i k with | true=>some (⟨x,0,0⟩ : Loc) | false=>fuSet ν l i
theorem fuSet_low {ν : Env} : ∀ {l:List (Nat × Nat)},(∀ p ∈ l,SB ≤ p.1) → ∀ i,i < SB → fuSet ν l i = ν i
 | [],_,i,_=>rfl
 | (k,x) :: l,h,i,hi=>by
  have hk:=h (k,x) (List.mem_cons_self ..)
  show (match Nat.beq i k with | true=>some (⟨x,0,0⟩ : Loc) | false=>fuSet ν l i) = _
  cases hb : Nat.beq i k with
  | true=>have:=nbeq hb; simp only at hk; omega
  | false=>exact fuSet_low (fun p hp=>h p (List.mem_cons_of_mem _ hp)) i hi
theorem fuSet_ext {ν : Env} : ∀ {l:List (Nat × Nat)},(∀ p ∈ l,ν p.1 = none) → Ext ν (fuSet ν l)
 | [],_=>Ext.refl ν
 | (k,x) :: l,h=>fun i y hy=>by
  show (match Nat.beq i k with | true=>some (⟨x,0,0⟩ : Loc) | false=>fuSet ν l i) = _
  cases hb : Nat.beq i k with
  | true=>rw [nbeq hb,h (k,x) (List.mem_cons_self ..)] at hy; cases hy
  | false=>exact fuSet_ext (fun p hp=>h p (List.mem_cons_of_mem _ hp)) i y hy
/-! ### what is known -/
structure FuG (l:List (Nat × Nat)) (ν : Env) : Prop where
 ag : AgG ν
 at_ : ∀ q ∈ l,ν q.1 = some ⟨q.2,0,0⟩
instance fuG_ok (l:List (Nat × Nat)) : GEok Tryz.prog (FuG l):=⟨fun ν ν' h hG=>⟨GEok.mono (P:=Tryz.prog) _ _ h hG.ag,fun q hq=>h _ _ (hG.at_ q hq)⟩,fun _ h=>h.ag.1⟩
abbrev FuR (w0:World) (l:List (Nat × Nat)) (ν : Env) (s:St) (a:Act) (w:World) : Prop:=StR Tryz.prog (FuG l) GN w0.heap.size w0 ν s a w
theorem fu_val {l:List (Nat × Nat)} {b lo hi n:Nat} (hm:(b,n) ∈ l) : ∀ ν v,FuG l ν → VR ν (fuX b lo hi) v → v = .int .i64 (n:Int):=fun ν v hG hv=>by
 simp only [fuX,VR] at hv
 obtain ⟨l',h1,h2,_⟩:=hv
 rw [hG.at_ _ hm] at h1; cases h1
 exact h2
theorem fu_lit {l:List (Nat × Nat)} {n:Nat} : ∀ ν v,FuG l ν → VR ν (goI n) v → v = .int .i64 (n:Int):=fun ν v hG hv=>by
 simp only [goI,VR] at hv
 exact hv.1
theorem fu_sym {l:List (Nat × Nat)} {b lo hi n:Nat} (hm:(b,n) ∈ l) (h1:lo ≤ n) (h2:n ≤ hi) (h3:hi ≤ 1000) : ∀ ν,FuG l ν → VR ν (fuX b lo hi) (.int .i64 (n:Int)):=fun ν hG=>by
 simp only [fuX,VR]
 exact ⟨_,hG.at_ _ hm,rfl,h1,h2,Nat.le_trans h3 (by decide),fun c hc=>by cases hc⟩
section
variable {w0:World} {l:List (Nat × Nat)} {ν : Env} {s:St} {a:Act} {w:World}
theorem fu_withN {T:List (Nat × LV)} {Ds:List (Nat × Blk)} {nx:Nat} (hW:HashW w0) (hs:FuR w0 l ν ⟨146,trOf T,hpOf Ds,nx,[]⟩ a w) (hD:(Ds.all fun p=>Nat.ble GN p.1) = true) (hnx:GN ≤ nx) : ∃ t,FuR w0 l ν ⟨146,trOf T,(hpOf Ds).set gS (some ⟨t,true,false,q32 startS⟩),nx,[]⟩ a w:=by
 have hg:=gS_lt
 have hW' : HashW w:=hW.below hs.below
 obtain ⟨t,ht⟩:=hW'.starts
 have hlt : gS < w0.heap.size:=hW.start.lt
 have hge : ∀ i k,(hpOf Ds).get i = some k → GN ≤ i:=fun i k hk=>Nat.le_of_ble_eq_true (List.all_eq_true.1 hD _ (hpOf_get hk))
 have key : ∀ i k,((hpOf Ds).set gS (some ⟨t,true,false,q32 startS⟩)).get i = some k → (i = gS ∧ k = ⟨t,true,false,q32 startS⟩) ∨ (i ≠ gS ∧ (hpOf Ds).get i = some k):=fun i k hk=>by
  rw [Tr.get_set] at hk
  split at hk
  ·rename_i e; cases hk; exact .inl ⟨e,rfl⟩
  ·rename_i e; exact .inr ⟨e,hk⟩
 refine ⟨t,⟨fun i k hf hk=>?_,fun i k l hf hi hk hl=>?_,fun i j ki kj li lj hi hj hli hlj he=>?_,fun i k hk=>?_,hs.glob,hs.below,hs.tr,hs.sz,hs.df,hs.wrs⟩⟩
 ·rcases key i k hk with ⟨rfl,rfl⟩ | ⟨_,hk'⟩
  ·exact ⟨_,hs.glob.ag.2,row_blk (vs:=startS.map D) ht (q32_vrs _) (q32_one _)⟩
  ·exact hs.hr i k hf hk'
 ·rcases key i k hk with ⟨rfl,rfl⟩ | ⟨_,hk'⟩
  ·omega
  ·exact hs.low i k l hf hi hk' hl
 ·rcases key i ki hi with ⟨rfl,rfl⟩ | ⟨e1,h1⟩
  ·rcases key j kj hj with ⟨rfl,rfl⟩ | ⟨e2,h2⟩
   ·rfl
   ·have:=hs.low j kj lj trivial (hge j kj h2) h2 hlj
    rw [hs.glob.ag.2] at hli; cases hli
    simp only at he
    omega
  ·rcases key j kj hj with ⟨rfl,rfl⟩ | ⟨e2,h2⟩
   ·have:=hs.low i ki li trivial (hge i ki h1) h1 hli
    rw [hs.glob.ag.2] at hlj; cases hlj
    simp only at he
    omega
   ·exact hs.inj i j ki kj li lj h1 h2 hli hlj he
 ·rcases key i k hk with ⟨rfl,rfl⟩ | ⟨_,hk'⟩
  ·show gS < nx; omega
  ·exact hs.ids i k hk'
theorem fu_with {T:List (Nat × LV)} {Ds:List (Nat × Blk)} (hW:HashW w0) (hs:FuR w0 l ν ⟨146,trOf T,hpOf Ds,6000,[]⟩ a w) (hD:(Ds.all fun p=>Nat.ble GN p.1) = true) : ∃ t,FuR w0 l ν (fuSt t T Ds) a w:=fu_withN hW hs hD (by decide)
theorem fuG_env {l l':List (Nat × Nat)} {nx:Nat} {ν : Env} {σ : Sg} (h:FuG l ν) (hK:insK GN nx σ = true) (hl:∀ ν,FuG l ν → ∀ q ∈ l',envS GN σ ν q.1 = some ⟨q.2,0,0⟩) : FuG l' (envS GN σ ν):=⟨agG_env h.ag hK,hl ν h⟩
theorem pre_okK {GE GE2:Env → Prop} [GEok Tryz.prog GE] {callf:FuncId → List LV → Hp → Nat → Option Out} (hc:EvOk Tryz.prog GE GN w0.heap.size w0 callf) {lf n:Nat} {c:Code} {s:St} {t:Pat} {σ : Sg} (h:okS GN σ ⟨[],[]⟩ t .normal s.nx (evPre Tryz.prog GN callf lf n c s) = true) {K:List (Nat × Value)} (hT:((evPre Tryz.prog GN callf lf n c s).map fun r=>K.map fun q=>r.2.T.get q.1) = some (K.map fun q=>some (.v q.2)))
  (hG:∀ ν',GE ν' → insK GN t.nx σ = true → GE2 (envS GN σ ν')) {Q:Exit → Act → World → Prop} {ν : Env} {a:Act} {w:World} (hs:StR Tryz.prog GE GN w0.heap.size w0 ν s a w) (hf:Free ν s.nx)
  (hK:∀ a' w' ν',StR Tryz.prog GE2 GN w0.heap.size w0 (envS GN σ ν') (stOf s.nt t) a' w' → Free (envS GN σ ν') t.nx → (∀ q ∈ K,a'.tmps.getD q.1 undef = q.2) → (Cd.drop n c).wp Tryz.prog Q a' w') : c.wp Tryz.prog Q a w:=by
 cases hev : evPre Tryz.prog GN callf lf n c s with
 | none=>rw [hev] at h; cases h
 | some r =>
  obtain ⟨y,s'⟩:=r
  rw [hev] at h hT
  simp only [okS,Bool.and_eq_true] at h
  obtain ⟨⟨h1,h2,h3⟩,h4⟩:=h
  have h2':=Nat.le_of_ble_eq_true h2
  simp only [Option.map_some,Option.some.injEq] at hT
  refine (evPre_ok (by kernel_rfl) hc (Nat.le_refl _) n c s s' y hev).2 hs (fun i q1 q2=>hf i q1 (by omega)) (fun a' w' ν' g1 g2=>?_)
  have:=ins_ok (KnOk.nil _ _ _) g1 (hG ν' g1.glob (insS_K h4)) h4
  rw [g2] at this
  refine hK a' w' _ this.1 this.2 (fun q hq=>?_)
  have hm : s'.T.get q.1 = some (.v q.2):=by
   obtain ⟨i,hi⟩:=List.getElem?_of_mem hq
   have e:=congrArg (fun l=>l[i]?) hT
   simp only [List.getElem?_map,hi,Option.map_some,Option.some.injEq] at e
   exact e
  have:=g1.tr q.1 _ hm
  simp only [VR] at this
  exact this.1
theorem one_K {GE:Env → Prop} [GEok Tryz.prog GE] {cf:FuncId → List LV → Hp → Nat → Option Out} (hc:EvOk Tryz.prog GE GN w0.heap.size w0 cf) {lf:Nat} {c:Code} {s:St} (hq:Cd.isSeq c = true) {K:List (Nat × LV)} (h:((evC Tryz.prog GN cf lf (Cd.a c) s).map fun r=>(exB r.1 .normal,K.map (fun q=>r.2.T.get q.1),r.2.nx,r.2.nt)) = some (true,K.map (fun q=>some q.2),s.nx,s.nt)) (hH:((evC Tryz.prog GN cf lf (Cd.a c) s).map fun r=>r.2.H) = some s.H)
  {Q:Exit → Act → World → Prop} {ν : Env} {a:Act} {w:World} (hs:StR Tryz.prog GE GN w0.heap.size w0 ν s a w) (hK:∀ a' w',StR Tryz.prog GE GN w0.heap.size w0 ν ⟨s.nt,trOf K,s.H,s.nx,[]⟩ a' w' → (Cd.b c).wp Tryz.prog Q a' w') : c.wp Tryz.prog Q a w:=by
 cases hev : evC Tryz.prog GN cf lf (Cd.a c) s with
 | none=>rw [hev] at h; cases h
 | some r =>
  obtain ⟨y,s'⟩:=r
  rw [hev] at h hH
  simp only [Option.map_some,Option.some.injEq,Prod.mk.injEq] at h hH
  obtain ⟨h1,h2,h3,h4⟩:=h
  obtain rfl:=exB_ok h1
  refine wpSeq hq (wp_mono ((code_all (by kernel_rfl) hc (Nat.le_refl _) lf).1 _ s s' .normal hev ν a w hs (fun i q1 q2=>by omega)) ?_)
  rintro e a' w' ⟨rfl,ν',g1,g2⟩
  have hν : ν' = ν:=by
   funext i
   exact g2.ext i (by omega)
  subst hν
  have:=g1.keep (T:=K) (H:=s.H) (fun t x hm=>by
   obtain ⟨i,hi⟩:=List.getElem?_of_mem hm
   have e:=congrArg (fun l=>l[i]?) h2
   simp only [List.getElem?_map,hi,Option.map_some,Option.some.injEq] at e
   exact e) (fun i k hk=>by rw [hH]; exact hk)
  rw [h3,h4] at this
  exact hK a' w' this
theorem envS_num {σ : Sg} {k j:Nat} (h:(match lkS σ k with | some (.num i)=>Nat.beq i j | _=>false) = true) (ν : Env) : envS GN σ ν k = ν j:=by
 unfold envS
 split at h
 ·rename_i i hi; rw [hi,nbeq h]
 ·cases h
section
variable (hW:HashW w0) (hC:CurveW w0) (hO:OldW w0) (hE:ErrW w0)
include hW hC hO hE
theorem fu_ev {hs:List Hint} (hts:∀ h ∈ hs,h.ts.length = tsN h.k) (hh:∀ h ∈ hs,HintOk Tryz.prog (FuG l) w0.heap.size w0 h) : EvOk Tryz.prog (FuG l) GN w0.heap.size w0 (hintF hs cfT4):=hintF_ok (cfT4_ok hW hC hO hE) hts hh
theorem fu_run {c:Code} {hs:List Hint} {t:Pat} {σ : Sg} {x:Ex} {l':List (Nat × Nat)} (hr:okS GN σ ⟨[],[]⟩ t x s.nx (evCQ Tryz.prog GN (hintF hs cfT4) 1000 c s) = true) (hts:∀ h ∈ hs,h.ts.length = tsN h.k) (hh:∀ h ∈ hs,HintOk Tryz.prog (FuG l) w0.heap.size w0 h) (hl:∀ ν,FuG l ν → ∀ q ∈ l',envS GN σ ν q.1 = some ⟨q.2,0,0⟩)
  (hsr:FuR w0 l ν s a w) (hf:Free ν s.nx) : c.wp Tryz.prog (fun e a' w'=>e = exR x ∧ ∃ ν1,FuR w0 l' (envS GN σ ν1) (stOf s.nt t) a' w' ∧ Free (envS GN σ ν1) t.nx ∧ FuG l ν1) a w :=
 stretchX (n:=1000) (c:=c) (s:=s) (t:=t) (σ:=σ) (x:=x) (by kernel_rfl) (fu_ev hW hC hO hE hts hh) (Nat.le_refl _) hr (fun ν' h1 h2=>fuG_env h1 h2 hl) hsr hf
end
end
end Go.Proofs.YtjpfhhndjpdmoaaGreatDoor

namespace Go.Proofs.YtjpfhhndjpdmoaaGreatDoor
open Go.RowKit
set_option linter.unusedVariables false
set_option linter.unusedSimpArgs false
set_option linter.unusedSectionVars false

def fuL0 (n L m:Nat) : List (Nat × Nat):=[(1000000,n),(1000001,L),(1000002,m),(1000003,n + m),(1000004,L - 1)]
def fuL3 (n L:Nat) : List (Nat × Nat):=[(1000000,n),(1000001,L),(1000004,L - 1)]
theorem fu_self (n L m i:Nat) (σ : Sg) (h:σ = fuSgI i ∨ σ = fuSgR i) {l:List (Nat × Nat)} (hl:l = fuL0 n L m) : ∀ ν,FuG l ν → ∀ q ∈ l,envS GN σ ν q.1 = some ⟨q.2,0,0⟩:=by
 intro ν hG q hq
 have h1:=hG.at_ q hq
 rw [← h1]
 subst hl
 have key : ∀ k ∈ [1000000,1000001,1000002,1000003,1000004],envS GN σ ν k = ν k:=by
  intro k hk
  simp only [List.mem_cons,List.not_mem_nil,or_false] at hk
  rcases h with rfl | rfl
  ·rcases hk with rfl | rfl | rfl | rfl | rfl
   ·exact envS_num (k:=1000000) (j:=1000000) (by kernel_rfl) ν
   ·exact envS_num (k:=1000001) (j:=1000001) (by kernel_rfl) ν
   ·exact envS_num (k:=1000002) (j:=1000002) (by kernel_rfl) ν
   ·exact envS_num (k:=1000003) (j:=1000003) (by kernel_rfl) ν
   ·exact envS_num (k:=1000004) (j:=1000004) (by kernel_rfl) ν
  ·rcases hk with rfl | rfl | rfl | rfl | rfl
   ·exact envS_num (k:=1000000) (j:=1000000) (by kernel_rfl) ν
   ·exact envS_num (k:=1000001) (j:=1000001) (by kernel_rfl) ν
   ·exact envS_num (k:=1000002) (j:=1000002) (by kernel_rfl) ν
   ·exact envS_num (k:=1000003) (j:=1000003) (by kernel_rfl) ν
   ·exact envS_num (k:=1000004) (j:=1000004) (by kernel_rfl) ν
 simp only [fuL0,List.mem_cons,List.not_mem_nil,or_false] at hq
 rcases hq with rfl | rfl | rfl | rfl | rfl <;> exact key _ (by simp)
section
variable {w0:World} {n L m:Nat} {ν : Env} {a:Act} {w:World}
theorem fu_nar {lo hi i:Nat} (h:fuNar lo hi i = true) (h1:lo ≤ n) (h2:n ≤ hi) (hs:FuR w0 (fuL0 n L m) ν (stOf 146 (fuPat i 20 i)) a w) : ∃ ν',FuR w0 (fuL0 n L m) ν' (stOf 146 (fuPat lo hi i)) a w ∧ Free ν' 6000:=by
 unfold fuNar at h
 have hn : ν 1000000 = some ⟨n,0,0⟩:=hs.glob.at_ (1000000,n) (by simp [fuL0])
 have he : envS GN (fuSgI i) ν 1000000 = ν 1000000:=envS_num (by kernel_rfl) ν
 have:=ins_ok (P:=Tryz.prog) (GE:=FuG (fuL0 n L m)) (GE2:=FuG (fuL0 n L m)) (nB:=GN) (B:=w0.heap.size) (w0:=w0) (ν:=ν) (σ:=fuSgI i) (κ:=⟨[(1000000,lo,hi,[])],[]⟩) (s:=stOf 146 (fuPat i 20 i)) (t:=fuPat lo hi i) (a:=a) (w:=w)
  ⟨fun b lo' hi' ne hb=>by
   simp only [List.mem_cons,List.not_mem_nil,or_false,Prod.mk.injEq] at hb
   obtain ⟨rfl,rfl,rfl,rfl⟩:=hb
   exact ⟨_,he.trans hn,h1,h2,fun c hc=>by cases hc⟩,fun b c hb=>by cases hb⟩
  hs (fuG_env hs.glob (insS_K h) (fu_self n L m i _ (.inl rfl) rfl)) h
 exact ⟨_,this.1,this.2⟩
theorem fu_lit0 (hs:FuR w0 (fuL0 n L m) ν (stOf 146 (fuPat n n n)) a w) : FuR w0 (fuL0 n L m) ν (stOf 146 (fuPat2 n n)) a w:=by
 have h0:=fu_val (l:=fuL0 n L m) (b:=1000000) (n:=n) (by simp [fuL0]) ν _ hs.glob (hs.tr 0 (fuN n n) rfl)
 have h1:=hs.tr 1 fuY rfl
 have h2:=hs.tr 2 fuM rfl
 have h10:=hs.tr 10 (.ptr 4581 0) rfl
 have h12:=hs.tr 12 (goI n) rfl
 exact hs.slots (GE2:=FuG (fuL0 n L m)) (ν':=ν) (T:=fuT (goI n) fuY fuM n) (fun _ _ h=>h) (fun _ _=>rfl) hs.glob (fun t z hz=>by
  simp only [fuT,List.mem_cons,List.not_mem_nil,or_false,Prod.mk.injEq] at hz
  rcases hz with ⟨rfl,rfl⟩ | ⟨rfl,rfl⟩ | ⟨rfl,rfl⟩ | ⟨rfl,rfl⟩ | ⟨rfl,rfl⟩
  ·exact ag_lit h0
  ·exact h1
  ·exact h2
  ·exact h10
  ·exact h12)
theorem fuPat_ge (lo hi i:Nat) (h:i ≤ 20) : ((fuPat lo hi i).D.all fun p=>Nat.ble GN p.1) = true:=by
 have key : ∀ i,i ≤ 20 → ((fuPat lo hi i).D.all fun p=>Nat.ble GN p.1) = true:=by
  have : agUp 21 (fun i=>(fuPat lo hi i).D.all fun p=>Nat.ble GN p.1) = true:=by kernel_rfl
  intro i hi
  exact agUp_ok this i (by omega)
 exact key i h
theorem fuPat2_ge (n j:Nat) (h:n ≤ 20) : ((fuPat2 n j).D.all fun p=>Nat.ble GN p.1) = true:=fuPat_ge n n n h
theorem fuPat5_ge (n:Nat) (h:n ≤ 20) : ((fuPat5 n fuY).D.all fun p=>Nat.ble GN p.1) = true:=by
 have : agUp 21 (fun n=>(fuPat5 n fuY).D.all fun p=>Nat.ble GN p.1) = true:=by kernel_rfl
 exact agUp_ok this n (by omega)
end
section
variable {w0:World} (hW:HashW w0) (hC:CurveW w0) (hO:OldW w0) (hE:ErrW w0) {n L m:Nat} (hn:n ≤ 20) (hm:m ≤ 4) (hL:1 ≤ L) (hL2:L ≤ 20)
include hW hC hO hE hn hm hL hL2
theorem fu_loop2 {Q:Exit → Act → World → Prop} (hR:∀ t,agUp 4 (fun k=>fuRef t n (n + k)) = true) (hX:agUp 5 (fun k=>fuExt n (n + k)) = true) (hQ:∀ ν a w,FuR w0 (fuL0 n L m) ν (stOf 146 (fuPat2 n (n + m))) a w → Free ν 6000 → Q (.exit 0) a w) : ∀ d j,j + d = m → ∀ ν a w,FuR w0 (fuL0 n L m) ν (stOf 146 (fuPat2 n (n + j))) a w → Free ν 6000 → LoopW Tryz.prog fuL Q a w:=by
 intro d
 induction d with
 | zero =>
  intro j hj ν a w hs hf
  obtain rfl : j = m:=by omega
  have h : fuExt n (n + j) = true:=agUp_ok hX j (by omega)
  unfold fuExt at h
  refine loopW_round (wp_mono (fu_run hW hC hO hE (c:=fuL) (s:=stOf 146 (fuPat2 n (n + j))) (hs:=fuHs3 n (n + j)) (t:=fuPat2 n (n + j)) (σ:=fuSgI n) (x:=.exit 0) (l':=fuL0 n L j) h (fun h hh=>by
   simp only [fuHs3,List.mem_cons,List.not_mem_nil,or_false] at hh; subst hh; rfl) (fun h hh=>by
   simp only [fuHs3,List.mem_cons,List.not_mem_nil,or_false] at hh; subst hh
   exact hint_sum fu_lit (fu_val (n:=j) (by simp [fuL0])) (by omega) (by omega) (fu_sym (by simp [fuL0]) (Nat.zero_le _) (Nat.le_refl _) (by omega))) (fu_self n L j n _ (.inl rfl) rfl) hs hf) ?_)
  rintro e a' w' ⟨rfl,ν1,g1,g2,_⟩
  exact hQ _ _ _ g1 g2
 | succ d ih =>
  intro j hj ν a w hs hf
  obtain ⟨t,ht⟩:=fu_with hW hs (fuPat2_ge n (n + j) hn)
  have h : fuRef t n (n + j) = true:=agUp_ok (hR t) j (by omega)
  unfold fuRef at h
  refine loopW_round (wp_mono (fu_run hW hC hO hE (c:=fuL) (s:=fuSt t (fuPat2 n (n + j)).T (fuPat2 n (n + j)).D) (hs:=fuHs2 n (n + j)) (t:=fuPat2 n (n + j + 1)) (σ:=fuSgI n) (x:=.normal) (l':=fuL0 n L m) h (fun h hh=>by
   simp only [fuHs2,List.mem_cons,List.not_mem_nil,or_false] at hh; subst hh; rfl) (fun h hh=>by
   simp only [fuHs2,List.mem_cons,List.not_mem_nil,or_false] at hh; subst hh
   exact hint_sum fu_lit (fu_val (n:=m) (by simp [fuL0])) (by omega) (by omega) (fu_sym (by simp [fuL0]) (by omega) (by omega) (by omega))) (fu_self n L m n _ (.inl rfl) rfl) ht hf) ?_)
  rintro e a' w' ⟨rfl,ν1,g1,g2,_⟩
  exact ih (j + 1) (by omega) _ _ _ g1 g2
theorem fu_loop1 {Q:Exit → Act → World → Prop} (h1:∀ t i,i < 20 → fuAll1 t i = true) (h2:∀ t,fuAll2 t n = true) (hQ:∀ ν a w,FuR w0 (fuL0 n L m) ν (stOf 146 (fuPat2 n (n + m))) a w → Free ν 6000 → Q (.exit 0) a w) : ∀ d i,i + d = n → ∀ ν a w,FuR w0 (fuL0 n L m) ν (stOf 146 (fuPat i 20 i)) a w → Free ν 6000 → LoopW Tryz.prog fuL Q a w:=by
 have hp : ∀ t,(fuNar n n n = true ∧ agUp 4 (fun k=>fuRef t n (n + k)) = true) ∧ agUp 5 (fun k=>fuExt n (n + k)) = true:=fun t=>by
  have:=h2 t
  unfold fuAll2 at this
  simpa only [Bool.and_eq_true] using this
 intro d
 induction d with
 | zero =>
  intro i hi ν a w hs hf
  obtain rfl : i = n:=by omega
  obtain ⟨ν',g1,g2⟩:=fu_nar (hp 0).1.1 (Nat.le_refl _) (Nat.le_refl _) hs
  exact fu_loop2 hW hC hO hE hn hm hL hL2 (fun t=>(hp t).1.2) (hp 0).2 hQ m 0 (by omega) ν' a w (fu_lit0 g1) g2
 | succ d ih =>
  intro i hi ν a w hs hf
  have hq : ∀ t,fuNar (i + 1) 20 i = true ∧ fuRnd t i = true:=fun t=>by
   have:=h1 t i (by omega)
   unfold fuAll1 at this
   simpa only [Bool.and_eq_true] using this
  obtain ⟨ν',g1,g2⟩:=fu_nar (hq 0).1 (show i + 1 ≤ n by omega) hn hs
  obtain ⟨t,ht⟩:=fu_with hW g1 (fuPat_ge (i + 1) 20 i (by omega))
  have h:=(hq t).2
  unfold fuRnd at h
  refine loopW_round (wp_mono (fu_run hW hC hO hE (c:=fuL) (s:=fuSt t (fuPat (i + 1) 20 i).T (fuPat (i + 1) 20 i).D) (hs:=fuHs i) (t:=fuPat (i + 1) 20 (i + 1)) (σ:=fuSgR i) (x:=.normal) (l':=fuL0 n L m) h (fun h hh=>by
   simp only [fuHs,List.mem_cons,List.not_mem_nil,or_false] at hh; subst hh; rfl) (fun h hh=>by
   simp only [fuHs,List.mem_cons,List.not_mem_nil,or_false] at hh; subst hh
   exact hint_sum (fu_val (n:=n) (by simp [fuL0])) (fu_val (n:=m) (by simp [fuL0])) (by omega) (by omega) (fu_sym (by simp [fuL0]) (by omega) (by omega) (by omega))) (fu_self n L m i _ (.inr rfl) rfl) ht g2) ?_)
  rintro e a' w' ⟨rfl,ν1,k1,k2,_⟩
  exact ih (i + 1) (by omega) _ _ _ k1 k2
/-! ### the ticks -/
end
theorem fu_self3 (n L i:Nat) (σ : Sg) (h:σ = fuSg5 i) : ∀ ν,FuG (fuL3 n L) ν → ∀ q ∈ fuL3 n L,envS GN σ ν q.1 = some ⟨q.2,0,0⟩:=by
 intro ν hG q hq
 have h1:=hG.at_ q hq
 rw [← h1]
 simp only [fuL3,List.mem_cons,List.not_mem_nil,or_false] at hq
 subst h
 rcases hq with rfl | rfl | rfl <;> exact envS_num (by kernel_rfl) ν
theorem fu_nar4 {w0:World} {n L k lo hi:Nat} {ν : Env} {a:Act} {w:World} (h:fuNar4 n k lo hi = true) (h1:lo ≤ L) (h2:L ≤ hi) (hs:FuR w0 (fuL3 n L) ν (stOf 146 (fuPat4 n k (fuYr (k + 1) 20) [(15,goI k)])) a w) : ∃ ν',FuR w0 (fuL3 n L) ν' (stOf 146 (fuPat4 n k (fuYr lo hi) [(15,goI k)])) a w ∧ Free ν' 6000:=by
 unfold fuNar4 at h
 have hn : ν 1000001 = some ⟨L,0,0⟩:=hs.glob.at_ (1000001,L) (by simp [fuL3])
 have he : envS GN (fuSg5 n) ν 1000001 = ν 1000001:=envS_num (by kernel_rfl) ν
 have:=ins_ok (P:=Tryz.prog) (GE:=FuG (fuL3 n L)) (GE2:=FuG (fuL3 n L)) (nB:=GN) (B:=w0.heap.size) (w0:=w0) (ν:=ν) (σ:=fuSg5 n) (κ:=⟨[(1000001,lo,hi,[])],[]⟩) (s:=stOf 146 (fuPat4 n k (fuYr (k + 1) 20) [(15,goI k)])) (t:=fuPat4 n k (fuYr lo hi) [(15,goI k)]) (a:=a) (w:=w)
  ⟨fun b lo' hi' ne hb=>by
   simp only [List.mem_cons,List.not_mem_nil,or_false,Prod.mk.injEq] at hb
   obtain ⟨rfl,rfl,rfl,rfl⟩:=hb
   exact ⟨_,he.trans hn,h1,h2,fun c hc=>by cases hc⟩,fun b c hb=>by cases hb⟩
  hs (fuG_env hs.glob (insS_K h) (fu_self3 n L n _ rfl)) h
 exact ⟨_,this.1,this.2⟩
theorem fuHt_n {k lo hi:Nat} : ∀ h ∈ fuHt k lo hi,h.ts.length = tsN h.k:=fun h hh=>by
 simp only [fuHt,List.mem_cons,List.not_mem_nil,or_false] at hh; subst hh; rfl
theorem fuHt_ok {w0:World} {n L k lo hi:Nat} (h0:1 ≤ L) (h1:lo + 1 ≤ L) (h2:L ≤ hi) (h3:hi ≤ 20) : ∀ h ∈ fuHt k lo hi,HintOk Tryz.prog (FuG (fuL3 n L)) w0.heap.size w0 h:=fun h hh=>by
 simp only [fuHt,List.mem_cons,List.not_mem_nil,or_false] at hh; subst hh
 exact hint_sub1 (i:=L - 1) (fun ν y hG hv=>by
  have:=fu_val (l:=fuL3 n L) (b:=1000001) (n:=L) (by simp [fuL3]) ν y hG hv
  rw [this]; congr 1; omega) (by omega) (fu_sym (by simp [fuL3]) (by omega) (by omega) (by omega))
section
variable {w0:World} (hW:HashW w0) (hC:CurveW w0) (hO:OldW w0) (hE:ErrW w0) {n L:Nat} (hn:n ≤ 20) (hL:1 ≤ L) (hL2:L ≤ 20)
include hW hC hO hE hn hL hL2
theorem fu_ticks {Q:Exit → Act → World → Prop} (hX:∀ k,k < 20 → fuAll4 n k = true) (hT:∀ k,k < 19 → fuAll5 n k = true) (hQ:∀ ν a w,FuR w0 (fuL3 n L) ν (stOf 146 (fuPat4 n (L - 1) (fuYr (L - 1 + 1) (L - 1 + 1)) [(15,goI (L - 1))])) a w → Free ν 6000 → Q (.exit 2) a w) : ∀ d k,k + d = L - 1 → ∀ ν a w,FuR w0 (fuL3 n L) ν (stOf 146 (fuPat4 n k (fuYr (k + 1) 20) [(15,goI k)])) a w → Free ν 6000 → LoopW Tryz.prog fuTk Q a w:=by
 intro d
 induction d with
 | zero =>
  intro k hk ν a w hs hf
  obtain rfl : k = L - 1:=by omega
  have h4:=hX (L - 1) (by omega)
  unfold fuAll4 at h4
  simp only [Bool.and_eq_true] at h4
  obtain ⟨ν',g1,g2⟩:=fu_nar4 h4.1.1 (by omega) (by omega) hs
  have h:=h4.1.2
  unfold fuTickX at h
  refine loopW_round (wp_mono (fu_run hW hC hO hE (c:=fuTk) (s:=stOf 146 (fuPat4 n (L - 1) (fuYr (L - 1 + 1) (L - 1 + 1)) [(15,goI (L - 1))])) (hs:=fuHt (L - 1) (L - 1) (L - 1 + 1)) (t:=fuPat4 n (L - 1) (fuYr (L - 1 + 1) (L - 1 + 1)) [(15,goI (L - 1))]) (σ:=fuSg5 n) (x:=.exit 2) (l:=fuL3 n L) (l':=fuL3 n L) h fuHt_n (fuHt_ok hL (by omega) (by omega) (by omega)) (fu_self3 n L n _ rfl) g1 g2) ?_)
  rintro e a' w' ⟨rfl,ν1,k1,k2,_⟩
  exact hQ _ _ _ k1 k2
 | succ d ih =>
  intro k hk ν a w hs hf
  have h5:=hT k (by omega)
  unfold fuAll5 at h5
  simp only [Bool.and_eq_true] at h5
  obtain ⟨ν',g1,g2⟩:=fu_nar4 h5.1 (by omega) hL2 hs
  have h:=h5.2
  unfold fuTick at h
  refine loopW_round (wp_mono (fu_run hW hC hO hE (c:=fuTk) (s:=stOf 146 (fuPat4 n k (fuYr (k + 2) 20) [(15,goI k)])) (hs:=fuHt k (k + 1) 20) (t:=fuPat4 n (k + 1) (fuYr (k + 2) 20) [(15,goI (k + 1))]) (σ:=fuSg5 n) (x:=.normal) (l:=fuL3 n L) (l':=fuL3 n L) h fuHt_n (fuHt_ok hL (by omega) hL2 (Nat.le_refl _)) (fu_self3 n L n _ rfl) g1 g2) ?_)
  rintro e a' w' ⟨rfl,ν1,k1,k2,_⟩
  exact ih (k + 1) (by omega) _ _ _ k1 k2
theorem fu_end (hX:∀ k,k < 20 → fuAll4 n k = true) (hr:∀ t,fuEnd t n = true) {ν : Env} {a:Act} {w:World} (hs:FuR w0 (fuL3 n L) ν (stOf 146 (fuPat4 n (L - 1) (fuYr (L - 1 + 1) (L - 1 + 1)) [(15,goI (L - 1))])) a w) (hf:Free ν 6000) : fuC6.wp Tryz.prog (EndT Tryz.prog AgG GN w0.heap.size w0 Tryz.f9.results.toList) a w:=by
 have h4:=hX (L - 1) (by omega)
 unfold fuAll4 at h4
 simp only [Bool.and_eq_true] at h4
 have h:=h4.2
 unfold fuLast at h
 have hE5:=evT4_ok (GE:=FuG (fuL3 n L)) hW hC hO hE
 refine pre_ok (GE:=FuG (fuL3 n L)) (GE2:=FuG (fuL3 n L)) (callf:=cfT4) (lf:=1000) (n:=1) (c:=fuC6) (s:=stOf 146 (fuPat4 n (L - 1) (fuYr (L - 1 + 1) (L - 1 + 1)) [(15,goI (L - 1))])) (t:=fuPat5 n fuY) (σ:=fuSg5 n) (by kernel_rfl) hE5 (Nat.le_refl _) h (fun ν' g1 g2=>fuG_env g1 g2 (fu_self3 n L n _ rfl)) hs hf (fun a1 w1 ν1 hs1 hf1=>?_)
 show fuC7.wp Tryz.prog _ a1 w1
 obtain ⟨t,ht⟩:=fu_with hW hs1 (fuPat5_ge n hn)
 have h:=hr t
 unfold fuEnd at h
 exact wp_mono (stretchE (GE:=FuG (fuL3 n L)) (n:=1000) (c:=fuC7) (s:=fuSt t (fuPat5 n fuY).T (fuPat5 n fuY).D) (by kernel_rfl) hE5 (Nat.le_refl _) h ht hf1) (fun e a' w' ⟨h1,ν',s',h2,h3⟩=>⟨h1,ν',s',h2.env (fun _ _ h=>h) (fun _ _=>rfl) h2.glob.ag,h3⟩)
end
end Go.Proofs.YtjpfhhndjpdmoaaGreatDoor
