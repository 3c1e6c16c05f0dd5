/- Part of the proof: EvSw,AgA. No conditions of its own. -/
import Derived.Test.YtjpfhhndjpdmoaaGreatDoorS35
import Derived.Test.YtjpfhhndjpdmoaaGreatDoorS36
import Derived.Test.YtjpfhhndjpdmoaaGreatDoorS37
import Derived.Test.YtjpfhhndjpdmoaaGreatDoorS38
import Derived.Test.YtjpfhhndjpdmoaaGreatDoorS39
import Derived.Test.YtjpfhhndjpdmoaaGreatDoorS40
namespace Go.Proofs.YtjpfhhndjpdmoaaGreatDoor
open Go.RowKit
set_option linter.unusedVariables false
set_option linter.unusedSimpArgs false

def anyX (nB:Nat) : List Stg → List LV → Hp → Nat → Option Out
 | [],_,_,_=>none
 | s :: l,args,H,nx=>match stX nB s args H nx with
  | some o=>some o
  | none=>anyX nB l args H nx
theorem anyX_ok {P:Program} {nB B:Nat} {w0:World} {f:FuncId} : ∀ {l:List Stg},(∀ s ∈ l,FnOkW P nB B w0 f (stX nB s)) → FnOkW P nB B w0 f (anyX nB l)
 | [],_=>fun args H nx out e hn=>by cases e
 | s :: l,h=>fun args H nx out e hn=>by
  unfold anyX at e
  split at e
  ·rename_i o ho
   cases e
   exact h s (List.mem_cons_self ..) args H nx _ ho hn
  ·exact anyX_ok (fun t ht=>h t (List.mem_cons_of_mem _ ht)) args H nx out e hn
abbrev akF : FuncId:=21
abbrev opF : FuncId:=70
abbrev ryF : FuncId:=75
abbrev odF : FuncId:=41
abbrev svF : FuncId:=20
def skL : List Stg:=[sk0,sk1,sk2,sk3,sk4,sk5,sk6,sk7,sk8,sk9,sk10,sk11,sk12,sk13,sk14,sk15,sv0]
def soL : List Stg:=[so0,so1,so2,so3,so4,so5,so6,so7,so8,so9,so10,so11,so12,so13,so14,so15,sv1]
def srL : List Stg:=[sr0,sr1,sr2,sr3,sr4,sr5,sr6,sr7,sr8,sr9,sr10,sr11,sr12,sr13,sr14,sr15,se0,se1,se2,se3,se4,se5,se6,se7,se8,se9,se10,se11,se12,se13,se14,sv2]
noncomputable def orcT2 : Orc:=withO akF (fallO (anyX GN skL) (cfT1 akF)) (withO opF (fallO (anyX GN soL) (cfT1 opF)) (withO ryF (fallO (anyX GN srL) (cfT1 ryF)) (withO odF (fallO (anyX GN [sv3]) (cfT1 odF)) orcT1)))
noncomputable def cfT2 : FuncId → List LV → Hp → Nat → Option Out:=evFQ Tryz.prog GN 100000 orcT2 60
theorem obT2 : Nat.ble OB akF = false ∧ Nat.ble OB opF = false ∧ Nat.ble OB ryF = false ∧ Nat.ble OB odF = false ∧ Nat.ble OB svF = false:=⟨by kernel_rfl,by kernel_rfl,by kernel_rfl,by kernel_rfl,by kernel_rfl⟩
theorem noH_T2 : NoH orcT2:=noH_with obT2.1 (noH_with obT2.2.1 (noH_with obT2.2.2.1 (noH_with obT2.2.2.2.1 noH_T1)))
theorem glSz : Tryz.prog.globals.size ≤ GN:=Nat.le_of_ble_eq_true (by kernel_rfl)
section
variable {w:World} (hW:HashW w) (hC:CurveW w) (hO:OldW w)
include hW hC hO
theorem stgs_ok : (∀ s ∈ skL,FnOkW Tryz.prog GN w.heap.size w akF (stX GN s)) ∧ (∀ s ∈ soL,FnOkW Tryz.prog GN w.heap.size w opF (stX GN s)) ∧ (∀ s ∈ srL,FnOkW Tryz.prog GN w.heap.size w ryF (stX GN s)) ∧ FnOkW Tryz.prog GN w.heap.size w odF (stX GN sv3):=by
 have hc:=cfT1_ok hW hC hO
 refine ⟨fun s hs=>?_,fun s hs=>?_,fun s hs=>?_,stX_ok glSz hc sv3 obT2.2.2.2.1 sv3_run⟩
 ·simp only [skL,List.mem_cons,List.not_mem_nil,or_false] at hs
  rcases hs with rfl | rfl | rfl | rfl | rfl | rfl | rfl | rfl | rfl | rfl | rfl | rfl | rfl | rfl | rfl | rfl | rfl
  ·exact stX_ok glSz hc sk0 obT2.1 sk0_run
  ·exact stX_ok glSz hc sk1 obT2.1 sk1_run
  ·exact stX_ok glSz hc sk2 obT2.1 sk2_run
  ·exact stX_ok glSz hc sk3 obT2.1 sk3_run
  ·exact stX_ok glSz hc sk4 obT2.1 sk4_run
  ·exact stX_ok glSz hc sk5 obT2.1 sk5_run
  ·exact stX_ok glSz hc sk6 obT2.1 sk6_run
  ·exact stX_ok glSz hc sk7 obT2.1 sk7_run
  ·exact stX_ok glSz hc sk8 obT2.1 sk8_run
  ·exact stX_ok glSz hc sk9 obT2.1 sk9_run
  ·exact stX_ok glSz hc sk10 obT2.1 sk10_run
  ·exact stX_ok glSz hc sk11 obT2.1 sk11_run
  ·exact stX_ok glSz hc sk12 obT2.1 sk12_run
  ·exact stX_ok glSz hc sk13 obT2.1 sk13_run
  ·exact stX_ok glSz hc sk14 obT2.1 sk14_run
  ·exact stX_ok glSz hc sk15 obT2.1 sk15_run
  ·exact stX_ok glSz hc sv0 obT2.1 sv0_run
 ·simp only [soL,List.mem_cons,List.not_mem_nil,or_false] at hs
  rcases hs with rfl | rfl | rfl | rfl | rfl | rfl | rfl | rfl | rfl | rfl | rfl | rfl | rfl | rfl | rfl | rfl | rfl
  ·exact stX_ok glSz hc so0 obT2.2.1 so0_run
  ·exact stX_ok glSz hc so1 obT2.2.1 so1_run
  ·exact stX_ok glSz hc so2 obT2.2.1 so2_run
  ·exact stX_ok glSz hc so3 obT2.2.1 so3_run
  ·exact stX_ok glSz hc so4 obT2.2.1 so4_run
  ·exact stX_ok glSz hc so5 obT2.2.1 so5_run
  ·exact stX_ok glSz hc so6 obT2.2.1 so6_run
  ·exact stX_ok glSz hc so7 obT2.2.1 so7_run
  ·exact stX_ok glSz hc so8 obT2.2.1 so8_run
  ·exact stX_ok glSz hc so9 obT2.2.1 so9_run
  ·exact stX_ok glSz hc so10 obT2.2.1 so10_run
  ·exact stX_ok glSz hc so11 obT2.2.1 so11_run
  ·exact stX_ok glSz hc so12 obT2.2.1 so12_run
  ·exact stX_ok glSz hc so13 obT2.2.1 so13_run
  ·exact stX_ok glSz hc so14 obT2.2.1 so14_run
  ·exact stX_ok glSz hc so15 obT2.2.1 so15_run
  ·exact stX_ok glSz hc sv1 obT2.2.1 sv1_run
 ·simp only [srL,List.mem_cons,List.not_mem_nil,or_false] at hs
  rcases hs with rfl | rfl | rfl | rfl | rfl | rfl | rfl | rfl | rfl | rfl | rfl | rfl | rfl | rfl | rfl | rfl | rfl | rfl | rfl | rfl | rfl | rfl | rfl | rfl | rfl | rfl | rfl | rfl | rfl | rfl | rfl | rfl
  ·exact stX_ok glSz hc sr0 obT2.2.2.1 sr0_run
  ·exact stX_ok glSz hc sr1 obT2.2.2.1 sr1_run
  ·exact stX_ok glSz hc sr2 obT2.2.2.1 sr2_run
  ·exact stX_ok glSz hc sr3 obT2.2.2.1 sr3_run
  ·exact stX_ok glSz hc sr4 obT2.2.2.1 sr4_run
  ·exact stX_ok glSz hc sr5 obT2.2.2.1 sr5_run
  ·exact stX_ok glSz hc sr6 obT2.2.2.1 sr6_run
  ·exact stX_ok glSz hc sr7 obT2.2.2.1 sr7_run
  ·exact stX_ok glSz hc sr8 obT2.2.2.1 sr8_run
  ·exact stX_ok glSz hc sr9 obT2.2.2.1 sr9_run
  ·exact stX_ok glSz hc sr10 obT2.2.2.1 sr10_run
  ·exact stX_ok glSz hc sr11 obT2.2.2.1 sr11_run
  ·exact stX_ok glSz hc sr12 obT2.2.2.1 sr12_run
  ·exact stX_ok glSz hc sr13 obT2.2.2.1 sr13_run
  ·exact stX_ok glSz hc sr14 obT2.2.2.1 sr14_run
  ·exact stX_ok glSz hc sr15 obT2.2.2.1 sr15_run
  ·exact stX_ok glSz hc se0 obT2.2.2.1 se0_run
  ·exact stX_ok glSz hc se1 obT2.2.2.1 se1_run
  ·exact stX_ok glSz hc se2 obT2.2.2.1 se2_run
  ·exact stX_ok glSz hc se3 obT2.2.2.1 se3_run
  ·exact stX_ok glSz hc se4 obT2.2.2.1 se4_run
  ·exact stX_ok glSz hc se5 obT2.2.2.1 se5_run
  ·exact stX_ok glSz hc se6 obT2.2.2.1 se6_run
  ·exact stX_ok glSz hc se7 obT2.2.2.1 se7_run
  ·exact stX_ok glSz hc se8 obT2.2.2.1 se8_run
  ·exact stX_ok glSz hc se9 obT2.2.2.1 se9_run
  ·exact stX_ok glSz hc se10 obT2.2.2.1 se10_run
  ·exact stX_ok glSz hc se11 obT2.2.2.1 se11_run
  ·exact stX_ok glSz hc se12 obT2.2.2.1 se12_run
  ·exact stX_ok glSz hc se13 obT2.2.2.1 se13_run
  ·exact stX_ok glSz hc se14 obT2.2.2.1 se14_run
  ·exact stX_ok glSz hc sv2 obT2.2.2.1 sv2_run
theorem orcT2_ok : OrcOkW Tryz.prog GN w.heap.size w orcT2:=by
 have hc:=cfT1_ok hW hC hO
 obtain ⟨h1,h2,h3,h4⟩:=stgs_ok hW hC hO
 refine withO_ok (fallO_ok (anyX_ok h1) (fun args H nx out e hn=>hc akF args H nx out obT2.1 e hn)) ?_
 refine withO_ok (fallO_ok (anyX_ok h2) (fun args H nx out e hn=>hc opF args H nx out obT2.2.1 e hn)) ?_
 refine withO_ok (fallO_ok (anyX_ok h3) (fun args H nx out e hn=>hc ryF args H nx out obT2.2.2.1 e hn)) ?_
 refine withO_ok (fallO_ok (anyX_ok (fun s hs=>by obtain rfl:=List.mem_singleton.1 hs; exact h4)) (fun args H nx out e hn=>hc odF args H nx out obT2.2.2.2.1 e hn)) ?_
 exact orcT1_ok hW hC hO
theorem cfT2_ok : CallOkW Tryz.prog GN w.heap.size w cfT2:=by
 unfold cfT2
 rw [evFQ_evF]
 exact evF_okW (by kernel_rfl) (Nat.le_refl _) noGo szOB noH_T2 (orcT2_ok hW hC hO) 60
end
set_option maxRecDepth 100000 in
theorem servers_run (t1 t2 t3 t4 t5 t6 t7:TypeId) : isTrueO (cfT2 svF [] (GH t1 t2 t3 t4 t5 t6 t7) GN) = true:=by kernel_rfl
theorem servers_any (w:World) (hW:HashW w) (hC:CurveW w) (hO:OldW w) : Calls Tryz.prog svF #[] w fun e w'=>e = .returned (.bool true) ∧ Below w.heap.size w w':=by
 obtain ⟨t1,t2,t3,t4,t5,t6,t7,hg⟩:=grows hW hC
 have hr:=servers_run t1 t2 t3 t4 t5 t6 t7
 cases ho : cfT2 svF [] (GH t1 t2 t3 t4 t5 t6 t7) GN with
 | none=>rw [ho] at hr; cases hr
 | some out =>
  rw [ho] at hr
  have hv : out.v = .v (.bool true) ∧ GN ≤ out.nx:=by
   unfold isTrueO at hr
   split at hr
   ·rename_i e; cases e; exact ⟨rfl,Nat.le_of_ble_eq_true hr⟩
   ·cases hr
  obtain ⟨_,h3⟩:=cfT2_ok hW hC hO svF [] _ _ out obT2.2.2.2.2 ho hv.2
  refine (h3 (nu0 t1 t2 t3 t4 t5 t6 t7) [] w (fun i hi _=>?_) (VRs.nil_iff.2 rfl) (fun i k _ hk=>gh_hrf hg i k trivial hk) (fun i k l _ hi hk _=>?_) (fun i j ki kj li lj _ _ _ _ h4 h5 h6=>?_) (fun i k hk=>gh_low hk) (fun g hg'=>?_) (Below.refl _ w)).mono ?_
  ·unfold nu0; rw [if_neg (by omega)]
  ·have:=gh_low hk; omega
  ·rw [← nu0_some h4,← nu0_some h5,h6]
  ·have hs : Tryz.prog.globals.size = GN:=by kernel_rfl
   rw [hs] at hg'
   exact ⟨_,by unfold nu0; rw [if_pos hg']⟩
  rintro e w' ⟨v',ν',rfl,hp⟩
  have h1:=hp.val
  rw [hv.1] at h1
  simp only [VR] at h1
  rw [h1.1]
  exact ⟨rfl,hp.below⟩
def srvO : List LV → Hp → Nat → Option Out:=fun args H nx=>match args with
 | []=>some ⟨.v (.bool true),[],nx,none⟩
 | _=>none
noncomputable def orcT3 : Orc:=withO svF srvO orcT2
noncomputable def cfT3 : FuncId → List LV → Hp → Nat → Option Out:=evFQ Tryz.prog GN 100000 orcT3 60
theorem noH_T3 : NoH orcT3:=noH_with obT2.2.2.2.2 noH_T2
section
variable {w:World} (hW:HashW w) (hC:CurveW w) (hO:OldW w)
include hW hC hO
theorem srv_ok : OneOk GN w svF srvO:=by
 intro args H nx out h
 unfold srvO at h
 split at h
 ·rw [val_inv h]
  exact orc_val ⟨_,Tryz.func20,by kernel_rfl,by kernel_rfl⟩ (fun ν vs w' hvs hH hb=>by
   obtain rfl:=VRs.nil_iff.1 hvs
   exact ⟨.bool true,by simp [VR,plainV],servers_any w' (hW.below hb) (hC.below hb) (hO.below hb)⟩)
 ·cases h
theorem orcT3_ok : OrcOkW Tryz.prog GN w.heap.size w orcT3:=withO_ok (srv_ok hW hC hO).wide (orcT2_ok hW hC hO)
theorem cfT3_ok : CallOkW Tryz.prog GN w.heap.size w cfT3:=by
 unfold cfT3
 rw [evFQ_evF]
 exact evF_okW (by kernel_rfl) (Nat.le_refl _) noGo szOB noH_T3 (orcT3_ok hW hC hO) 60
theorem evT3_ok {GE:Env → Prop} : EvOk Tryz.prog GE GN w.heap.size w cfT3:=by
 refine ⟨cfT3_ok hW hC hO,?_⟩
 unfold cfT3
 rw [evFQ_evF]
 exact noOps szOB noH_T3
end
end Go.Proofs.YtjpfhhndjpdmoaaGreatDoor

namespace Go.Proofs.YtjpfhhndjpdmoaaGreatDoor
open Go.RowKit
set_option linter.unusedVariables false
set_option linter.unusedSimpArgs false

def outB : Dl → List LV
 | [(_,some b)]=>b.cells
 | _=>[]
def agQ : Nat → List LV
 | 0=>outB sk0.d
 | 1=>outB sk1.d
 | 2=>outB sk2.d
 | 3=>outB sk3.d
 | 4=>outB sk4.d
 | 5=>outB sk5.d
 | 6=>outB sk6.d
 | 7=>outB sk7.d
 | 8=>outB sk8.d
 | 9=>outB sk9.d
 | 10=>outB sk10.d
 | 11=>outB sk11.d
 | 12=>outB sk12.d
 | 13=>outB sk13.d
 | 14=>outB sk14.d
 | 15=>outB sk15.d
 | _=>[]
def agS : Nat → List LV
 | 0=>outB sr0.d
 | 1=>outB sr1.d
 | 2=>outB sr2.d
 | 3=>outB sr3.d
 | 4=>outB sr4.d
 | 5=>outB sr5.d
 | 6=>outB sr6.d
 | 7=>outB sr7.d
 | 8=>outB sr8.d
 | 9=>outB sr9.d
 | 10=>outB sr10.d
 | 11=>outB sr11.d
 | 12=>outB sr12.d
 | 13=>outB sr13.d
 | 14=>outB sr14.d
 | 15=>outB sr15.d
 | _=>[]
def agCfg : List LV:=[(.slice 4551 0 1 1)] ++ (q8 [3,0,0,0,0,0,0,0,0,0,0,0,0,0,0,0,0,0,0,0,0,0,0,0,0,0,0,0,0,0,0,2] ++ ([(.slice 4552 0 1 1),(.v (.int .i64 5))] ++ (q8 [0,0,0,0,0,0,0,0,0,0,0,0,0,0,0,0,0,0,0,0,0,0,0,0,0,0,0,0,0,0,0,0] ++ ([(.v (.bool false)),(.v (.slice none 0 0))] ++ (q8 [0,0,0,0,0,0,0,0,0,0,0,0,0,0,0,0,0,0,0,0,0,0,0,0,0,0,0,0,0,0,0,0] ++ ([(.v (.int .i64 0)),(.v (.int .i64 0)),(.v (.string ⟨#[]⟩)),(.v (.string ⟨#[]⟩)),(.v (.int .i64 0)),(.v (.int .i64 0)),(.v (.slice none 0 0)),(.v (.bool false)),(.v (.int .i64 0)),(.v (.int .i64 0))] ++ (q8 [5,0,0,0,0,0,0,0,0,0,0,0,0,0,0,0,0,0,0,0,0,0,0,0,0,0,0,0,0,0,0,0])))))))
def agPick (l:Dl) : List Nat → List (Nat × Blk)
 | []=>[]
 | i :: r=>match l.find? (fun p=>Nat.beq p.1 i) with
  | some (j,some b)=>(j,b) :: agPick l r
  | _=>agPick l r
def agCD : List (Nat × Blk):=agPick cfgD [4551,3088,4552,1628]
def agRow : Nat → Nat → List LV
 | _,0=>[]
 | f,n + 1=>.buf (5700 + (f + f)) 0 46 1 :: .buf (5701 + (f + f)) 0 56 1 :: agRow (f + 1) n
def agTk : Nat → Nat → List LV
 | _,0=>[]
 | f,n + 1=>.ptr (5600 + f) 0 :: agTk (f + 1) n
def agKd : Nat → Nat → List (Nat × Blk)
 | _,0=>[]
 | f,n + 1=>(5700 + (f + f),⟨5,false,true,agQ f⟩) :: (5701 + (f + f),⟨5,false,true,agS f⟩) :: agKd (f + 1) n
def agFirst (a i:Nat) : Nat:=match Nat.ble (i + 1) a with | true=>0 | false=>i - a
def agKept (a i:Nat) : LV:=match Nat.ble (i + 1) a with | true=>.buf 5476 0 (i + 1) 2 | false=>.buf 5476 2 a 2
def agCells (a i:Nat) : List LV:=.buf 4580 0 1 1 :: (agCfg ++ [goI 1000,goI 100,goI a,goI 10,goI (i + 1),.buf 5007 0 (i + 1) 1,agKept a i,.v (.slice none 0 0)])
def agD (a i:Nat) : List (Nat × Blk):=(4581,⟨92,true,false,agCells a i⟩) :: (4580,⟨5,false,false,q8 [115]⟩) :: (4614,⟨5,false,true,agQ 0⟩) :: (5478,⟨5,false,true,agS 0⟩) :: (5007,⟨120,false,true,agTk 0 (i + 1)⟩) :: (5476,⟨147,false,true,agRow (agFirst a i) (i + 1 - agFirst a i)⟩) :: (agCD ++ agKd (i + 1 - a) (i + 1 - (i + 1 - a)))
def agT (a:Nat) (x:LV) (r:List (Nat × LV)) : List (Nat × LV):=(0,goI a) :: (1,x) :: (8,.ptr 4581 0) :: (10,.buf 4614 0 46 1) :: (11,.buf 5478 0 56 1) :: r
def agX (lo hi:Nat) : LV:=.sym 1000001 .i64 lo hi []
def agPat0 (a:Nat) : Pat:=⟨agT a (agX 0 15) [],agD a 0,6000⟩
def agPat (a i:Nat) (x:LV) : Pat:=⟨agT a x [(12,goI i)],agD a i,6000⟩
def agPatC : Pat:=⟨[(0,.sym 1000000 .i64 1 8 []),(1,agX 0 15),(6,.ptr 4554 0),(7,.v (.bool true))],(4554,⟨30,true,false,agCfg⟩) :: agCD,4555⟩
def agTC (a:Nat) : List (Nat × LV):=[(0,goI a),(1,agX 0 15),(6,.ptr 4554 0),(7,.v (.bool true))]
def agBase : List Nat:=[1000001,4581,4580,4551,3088,4552,1628,4614,5478]
def agSelf : List Nat → Sg → Sg
 | [],σ=>σ
 | i :: r,σ=>(i,.num i) :: agSelf r σ
def agOld : Nat → Sg → Sg
 | 0,σ=>σ
 | n + 1,σ=>(5600 + n,.num (5600 + n)) :: (5700 + (n + n),.num (5700 + (n + n))) :: (5701 + (n + n),.num (5701 + (n + n))) :: agOld n σ
def agSgC : Sg:=agSelf [1000000,1000001,4554,4551,3088,4552,1628] []
def agSg0 : Sg:=agSelf agBase [(5007,.num 5007),(5476,.num 5476),(5600,.num 5005),(5700,.num 5474),(5701,.num 5064)]
def agSgI (i:Nat) : Sg:=agSelf agBase ((5007,.num 5007) :: (5476,.num 5476) :: agOld (i + 1) [])
def agSgR (a i:Nat) : Sg:=agSelf agBase ((5007,.num (6425 + Nat.min (i + 1) a)) :: (5476,.num (6894 + Nat.min (i + 1) a)) :: (5600 + (i + 1),.num (6423 + Nat.min (i + 1) a)) :: (5700 + (i + 1 + (i + 1)),.num (6892 + Nat.min (i + 1) a)) :: (5701 + (i + 1 + (i + 1)),.num (6482 + Nat.min (i + 1) a)) :: agOld (i + 1) [])
abbrev agF : FuncId:=7
noncomputable def agB : Code:=Cd.bodyOf Tryz.prog agF
noncomputable def agC1 : Code:=Cd.drop 1 agB
noncomputable def agC2 : Code:=Cd.b agC1
noncomputable def agC3 : Code:=Cd.drop 4 agC2
noncomputable def agL : Code:=Cd.a (Cd.a (Cd.b (Cd.a agC3)))
noncomputable def agTl : Code:=Cd.b agC3
noncomputable def agPreC (t1 t2 t3 t4 t5 t6 t7:TypeId) : Bool:=okS GN agSgC ⟨[],[]⟩ agPatC .normal GN (evPre Tryz.prog GN cfT3 100000 0 agC1 ⟨136,trOf [(0,.sym 1000000 .i64 1 8 []),(1,agX 0 15)],GH t1 t2 t3 t4 t5 t6 t7,GN,[]⟩)
abbrev gS : Nat:=8
def agSt (t:TypeId) (T:List (Nat × LV)) (D:List (Nat × Blk)) (nx:Nat) : St:=⟨136,trOf T,(hpOf D).set gS (some ⟨t,true,false,q32 startS⟩),nx,[]⟩
noncomputable def agPre (t:TypeId) (a:Nat) : Bool:=okS GN agSg0 ⟨[],[]⟩ (agPat0 a) .normal 4555 (evPre Tryz.prog GN cfT3 1000 4 agC2 (agSt t (agTC a) agPatC.D 4555))
noncomputable def agPre1 (a:Nat) : Bool:=okS GN (agSgI 0) ⟨[],[]⟩ (agPat a 0 (agX 0 15)) .normal 6000 (evPre Tryz.prog GN cfT3 1000 0 (Cd.a agC3) (stOf 136 (agPat0 a)))
noncomputable def agRnd (t:TypeId) (a i:Nat) : Bool:=okS GN (agSgR a i) ⟨[],[]⟩ (agPat a (i + 1) (agX (i + 1) 15)) .normal 6000 (evCQ Tryz.prog GN cfT3 1000 agL (agSt t (agT a (agX (i + 1) 15) [(12,goI i)]) (agD a i) 6000))
noncomputable def agExt (a i:Nat) : Bool:=okS GN (agSgI i) ⟨[],[]⟩ (agPat a i (agX i i)) (.exit 0) 6000 (evCQ Tryz.prog GN cfT3 1000 agL (stOf 136 (agPat a i (agX i i))))
noncomputable def agEnd (t:TypeId) (a i:Nat) : Bool:=okE Tryz.prog 6000 Tryz.f7.results.toList (evCQ Tryz.prog GN cfT3 1000 agTl (agSt t (agT a (goI i) [(12,goI i)]) (agD a i) 6000))
def agUp (n:Nat) (p:Nat → Bool) : Bool:=match n with | 0=>true | k + 1=>p k && agUp k p
theorem agUp_ok {p:Nat → Bool} : ∀ {n:Nat},agUp n p = true → ∀ j,j < n → p j = true
 | 0,_,j,h=>by omega
 | n + 1,h,j,hj=>by
  simp only [agUp,Bool.and_eq_true] at h
  by_cases e : j = n
  ·subst e; exact h.1
  ·exact agUp_ok h.2 j (by omega)
end Go.Proofs.YtjpfhhndjpdmoaaGreatDoor
