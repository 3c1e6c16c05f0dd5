/- Part of the proof: EvCl,EvCm,EvCf,EvI,EvLw. No conditions of its own. -/
import Derived.Test.YtjpfhhndjpdmoaaGreatDoorF26
import Derived.Test.YtjpfhhndjpdmoaaGreatDoorF27
namespace Go.Proofs.YtjpfhhndjpdmoaaGreatDoor
open Go.RowKit
set_option linter.unusedVariables false
set_option linter.unusedSimpArgs false

def q64 (l:List Nat) : List LV:=l.map fun (q:Nat)=>LV.v (.int .u64 (q:Int))
def q32 (l:List UInt32) : List LV:=l.map fun q=>LV.v (.int .u32 (q.toNat : Int))
def gD (t1 t2 t3 t4 t5 t6 t7:TypeId) : Dl:=[(1,some ⟨t1,true,false,q64 (nL N256)⟩),(2,some ⟨t2,true,false,q64 (nL GX)⟩),(3,some ⟨t3,true,false,q64 (nL GY)⟩),(6,some ⟨t4,true,false,q64 (nL P256)⟩),(7,some ⟨t5,true,false,q64 (nL B256)⟩),(8,some ⟨t6,true,false,q32 startS⟩),(10,some ⟨t7,true,false,q32 roundsS⟩)]
def GH (t1 t2 t3 t4 t5 t6 t7:TypeId) : Hp:=Hp.app .nil (gD t1 t2 t3 t4 t5 t6 t7)
abbrev GN : Nat:=13
def sgs : List Stg:=[sg0,sg1,sg2,sg3,sg4,sg5,sg6,sg7,sg8,sg9,sg10,sg11,sg12,sg13,sg14]
def orcS : Orc:=stageO [84,91,54,55] sgs orcB
def isTrueO : Option Out → Bool
 | some ⟨.v (.bool true),_,nx,_⟩=>Nat.ble GN nx
 | _=>false
theorem peers_run (t1 t2 t3 t4 t5 t6 t7:TypeId) : isTrueO (evFQ Tryz.prog GN 100000 orcS 60 12 [] (GH t1 t2 t3 t4 t5 t6 t7) GN) = true:=by kernel_rfl
end Go.Proofs.YtjpfhhndjpdmoaaGreatDoor

namespace Go.Proofs.YtjpfhhndjpdmoaaGreatDoor
open Go.RowKit
set_option linter.unusedVariables false
set_option linter.unusedSimpArgs false

theorem noGoB : (Tryz.prog.funcs.toList.all fun fn=>!(fn.name == "runtime.NumGoroutine")) = true:=by kernel_rfl
theorem noGo : ∀ (f:FuncId) (fn:Func),Tryz.prog.funcs[f]? = some fn → (fn.name == "runtime.NumGoroutine") = false:=by
 intro f fn h
 have h1 : fn ∈ Tryz.prog.funcs.toList:=by
  rw [Array.getElem?_eq_some_iff] at h
  obtain ⟨hf,rfl⟩:=h
  exact Array.getElem_mem_toList hf
 have h2:=List.all_eq_true.1 noGoB fn h1
 simpa using h2
theorem szOB : Tryz.prog.funcs.size ≤ OB:=Nat.le_of_ble_eq_true (by kernel_rfl)
theorem noH_S : NoH orcS:=noH_stage (by kernel_rfl) noH_B
theorem sgs_ok {w:World} (hW:HashW w) (hC:CurveW w) : ∀ s ∈ sgs,FnOk Tryz.prog GN w.heap.size w s.f (stO s):=by
 have h1 : CallOk Tryz.prog GN w.heap.size w orcC:=orcB_ok hW hC
 have h2 : CallOk Tryz.prog GN w.heap.size w (evFQ Tryz.prog 13 100000 orcB 60):=by
  rw [evFQ_evF]
  exact evF_ok (by kernel_rfl) (Nat.le_refl _) noGo szOB noH_B (orcB_ok hW hC) 60
 intro s hs
 simp only [sgs,List.mem_cons,List.not_mem_nil,or_false] at hs
 rcases hs with rfl | rfl | rfl | rfl | rfl | rfl | rfl | rfl | rfl | rfl | rfl | rfl | rfl | rfl | rfl
 ·exact stO_ok h1 _ (by kernel_rfl) sg0_run
 ·exact stO_ok h1 _ (by kernel_rfl) sg1_run
 ·exact stO_ok h1 _ (by kernel_rfl) sg2_run
 ·exact stO_ok h2 _ (by kernel_rfl) sg3_run
 ·exact stO_ok h1 _ (by kernel_rfl) sg4_run
 ·exact stO_ok h1 _ (by kernel_rfl) sg5_run
 ·exact stO_ok h2 _ (by kernel_rfl) sg6_run
 ·exact stO_ok h2 _ (by kernel_rfl) sg7_run
 ·exact stO_ok h1 _ (by kernel_rfl) sg8_run
 ·exact stO_ok h1 _ (by kernel_rfl) sg9_run
 ·exact stO_ok h2 _ (by kernel_rfl) sg10_run
 ·exact stO_ok h2 _ (by kernel_rfl) sg11_run
 ·exact stO_ok h1 _ (by kernel_rfl) sg12_run
 ·exact stO_ok h1 _ (by kernel_rfl) sg13_run
 ·exact stO_ok h2 _ (by kernel_rfl) sg14_run
theorem orcS_ok {w:World} (hW:HashW w) (hC:CurveW w) : OrcOk Tryz.prog GN w.heap.size w orcS:=stageO_ok (sgs_ok hW hC) (orcB_ok hW hC)
theorem callS_ok {w:World} (hW:HashW w) (hC:CurveW w) : CallOk Tryz.prog GN w.heap.size w (evFQ Tryz.prog GN 100000 orcS 60):=by
 rw [evFQ_evF]
 exact evF_ok (by kernel_rfl) (Nat.le_refl _) noGo szOB noH_S (orcS_ok hW hC) 60
/-! ### the package variables -/
theorem row_blk {ν : Env} {w:World} {g:Nat} {t:TypeId} {vs:List Value} {cells:List LV} (h:Row w g t vs.toArray) (hv:VRs ν cells vs) (ha:cells.all LV.isOne = true) : BlkR ν ⟨g,cells.length,0⟩ ⟨t,true,false,cells⟩ w.heap[g]?:=by
 have hl : vs.length = cells.length:=by rw [hv.length]
 refine ⟨vs.toArray,(0,0),h.heap,by simpa using hl,fun _=>⟨rfl,rfl⟩,⟨[],vs,[],by simp,rfl,hv⟩,ha,.inl rfl,fun _=>rfl⟩
theorem q64_vrs {ν : Env} (l:List Nat) : VRs ν (q64 l) (l.map Q):=ints_ok l
theorem q32_vrs {ν : Env} : ∀ (l:List UInt32),VRs ν (q32 l) (l.map D)
 | []=>VRs.nil_iff.2 rfl
 | q :: l=>VRs.cons_iff.2 ⟨_,_,rfl,by simp [VR,plainV,D],q32_vrs l⟩
theorem q64_one : ∀ (l:List Nat),(q64 l).all LV.isOne = true
 | []=>rfl
 | q :: l=>by simp only [q64,List.map_cons,List.all_cons,LV.isOne,Bool.true_and]; exact q64_one l
theorem q32_one : ∀ (l:List UInt32),(q32 l).all LV.isOne = true
 | []=>rfl
 | q :: l=>by simp only [q32,List.map_cons,List.all_cons,LV.isOne,Bool.true_and]; exact q32_one l
def gB (t1 t2 t3 t4 t5 t6 t7:TypeId) : List (Nat × Blk):=[(1,⟨t1,true,false,q64 (nL N256)⟩),(2,⟨t2,true,false,q64 (nL GX)⟩),(3,⟨t3,true,false,q64 (nL GY)⟩),(6,⟨t4,true,false,q64 (nL P256)⟩),(7,⟨t5,true,false,q64 (nL B256)⟩),(8,⟨t6,true,false,q32 startS⟩),(10,⟨t7,true,false,q32 roundsS⟩)]
def gSz : List (Nat × Blk) → Nat → Nat
 | [],_=>0
 | (j,k) :: l,i=>if i = j then k.cells.length else gSz l i
def nu0 (t1 t2 t3 t4 t5 t6 t7:TypeId) : Env:=fun i=>if i < GN then some ⟨i,gSz (gB t1 t2 t3 t4 t5 t6 t7) i,0⟩ else none
structure GRows (w:World) (t1 t2 t3 t4 t5 t6 t7:TypeId) : Prop where
 r1 : Row w 1 t1 (AQ (nL N256))
 r2 : Row w 2 t2 (AQ (nL GX))
 r3 : Row w 3 t3 (AQ (nL GY))
 r4 : Row w 6 t4 (AQ (nL P256))
 r5 : Row w 7 t5 (AQ (nL B256))
 r6 : Row w 8 t6 (AD startS)
 r7 : Row w 10 t7 (AD roundsS)
theorem grows {w:World} (hW:HashW w) (hC:CurveW w) : ∃ t1 t2 t3 t4 t5 t6 t7,GRows w t1 t2 t3 t4 t5 t6 t7:=by
 obtain ⟨t1,h1⟩:=hC.order
 obtain ⟨t2,h2⟩:=hC.baseX
 obtain ⟨t3,h3⟩:=hC.baseY
 obtain ⟨t4,h4⟩:=hC.prime
 obtain ⟨t5,h5⟩:=hC.coeff
 obtain ⟨t6,h6⟩:=hW.starts
 obtain ⟨t7,h7⟩:=hW.rnds
 exact ⟨t1,t2,t3,t4,t5,t6,t7,h1,h2,h3,h4,h5,h6,h7⟩
section
variable {w:World} {t1 t2 t3 t4 t5 t6 t7:TypeId}
theorem gh_mem {i:Nat} {k:Blk} (h:(GH t1 t2 t3 t4 t5 t6 t7).get i = some k) : (i,k) ∈ gB t1 t2 t3 t4 t5 t6 t7:=hpOf_get h
theorem gh_low {i:Nat} {k:Blk} (h:(GH t1 t2 t3 t4 t5 t6 t7).get i = some k) : i < GN:=by
 have hm:=gh_mem h
 simp only [gB,List.mem_cons,List.not_mem_nil,or_false,Prod.mk.injEq] at hm
 rcases hm with ⟨rfl,_⟩ | ⟨rfl,_⟩ | ⟨rfl,_⟩ | ⟨rfl,_⟩ | ⟨rfl,_⟩ | ⟨rfl,_⟩ | ⟨rfl,_⟩ <;> decide
theorem nu0_some {i:Nat} {l:Loc} (h:nu0 t1 t2 t3 t4 t5 t6 t7 i = some l) : l.addr = i:=by
 unfold nu0 at h
 split at h
 ·cases h; rfl
 ·cases h
theorem gh_hrf (h:GRows w t1 t2 t3 t4 t5 t6 t7) : HRF (nu0 t1 t2 t3 t4 t5 t6 t7) (GH t1 t2 t3 t4 t5 t6 t7) none w:=by
 intro i k _ hk
 have hm:=gh_mem hk
 simp only [gB,List.mem_cons,List.not_mem_nil,or_false,Prod.mk.injEq] at hm
 rcases hm with ⟨rfl,rfl⟩ | ⟨rfl,rfl⟩ | ⟨rfl,rfl⟩ | ⟨rfl,rfl⟩ | ⟨rfl,rfl⟩ | ⟨rfl,rfl⟩ | ⟨rfl,rfl⟩
 ·exact ⟨_,rfl,row_blk h.r1 (q64_vrs _) (q64_one _)⟩
 ·exact ⟨_,rfl,row_blk h.r2 (q64_vrs _) (q64_one _)⟩
 ·exact ⟨_,rfl,row_blk h.r3 (q64_vrs _) (q64_one _)⟩
 ·exact ⟨_,rfl,row_blk h.r4 (q64_vrs _) (q64_one _)⟩
 ·exact ⟨_,rfl,row_blk h.r5 (q64_vrs _) (q64_one _)⟩
 ·exact ⟨_,rfl,row_blk h.r6 (q32_vrs _) (q32_one _)⟩
 ·exact ⟨_,rfl,row_blk h.r7 (q32_vrs _) (q32_one _)⟩
theorem closed_call (hW:HashW w) (hC:CurveW w) (hg:GRows w t1 t2 t3 t4 t5 t6 t7) {f:FuncId} (hob:Nat.ble OB f = false) {args:List LV} {vs:List Value} {out:Out} (h:evFQ Tryz.prog GN 100000 orcS 60 f args (GH t1 t2 t3 t4 t5 t6 t7) GN = some out) (hnx:GN ≤ out.nx)
  (hvs:VRs (nu0 t1 t2 t3 t4 t5 t6 t7) args vs) : Calls Tryz.prog f vs.toArray w (fun e w'=>∃ v' ν',e = .returned v' ∧ OpPost GN w.heap.size w (nu0 t1 t2 t3 t4 t5 t6 t7) ν' (GH t1 t2 t3 t4 t5 t6 t7) GN out w w' v'):=by
 obtain ⟨_,_,h3⟩:=callS_ok hW hC f args _ _ out hob h hnx
 refine h3 _ vs w (fun i hi _=>?_) hvs (gh_hrf hg) (fun i k l _ hi hk _=>?_) (fun i j ki kj li lj _ _ h4 h5 h6=>?_) (fun i k hk=>gh_low hk) (fun g hg'=>?_) (Below.refl _ w)
 ·unfold nu0; rw [if_neg (by omega)]
 ·have:=gh_low hk; omega
 ·rw [← nu0_some h4,← nu0_some h5,h6]
 ·have hs : Tryz.prog.globals.size = GN:=by kernel_rfl
  rw [hs] at hg'
  exact ⟨_,by unfold nu0; rw [if_pos hg']⟩
end
end Go.Proofs.YtjpfhhndjpdmoaaGreatDoor

namespace Go.Proofs.YtjpfhhndjpdmoaaGreatDoor
open Go.RowKit
set_option linter.unusedVariables false
def caseVs (nm:ByteArray) (sz wt:Int) : List Value:=List.replicate 64 (.int .u8 0) ++ [.bool false,.string nm,.int .i64 sz,.int .i64 wt]
def cfgTl : List LV:=[(.slice 4549 0 1 1),(.v (.int .u8 3)),(.v (.int .u8 0)),(.v (.int .u8 0)),(.v (.int .u8 0)),(.v (.int .u8 0)),(.v (.int .u8 0)),(.v (.int .u8 0)),(.v (.int .u8 0)),(.v (.int .u8 0)),(.v (.int .u8 0)),(.v (.int .u8 0)),(.v (.int .u8 0)),(.v (.int .u8 0)),(.v (.int .u8 0)),(.v (.int .u8 0)),(.v (.int .u8 0)),(.v (.int .u8 0)),(.v (.int .u8 0)),(.v (.int .u8 0)),(.v (.int .u8 0)),(.v (.int .u8 0)),(.v (.int .u8 0)),(.v (.int .u8 0)),(.v (.int .u8 0)),(.v (.int .u8 0)),(.v (.int .u8 0)),(.v (.int .u8 0)),(.v (.int .u8 0)),(.v (.int .u8 0)),(.v (.int .u8 0)),(.v (.int .u8 0)),(.v (.int .u8 3)),(.slice 4550 0 1 1),(.v (.int .i64 5)),(.v (.int .u8 0)),(.v (.int .u8 0)),(.v (.int .u8 0)),(.v (.int .u8 0)),(.v (.int .u8 0)),(.v (.int .u8 0)),(.v (.int .u8 0)),(.v (.int .u8 0)),(.v (.int .u8 0)),(.v (.int .u8 0)),(.v (.int .u8 0)),(.v (.int .u8 0)),(.v (.int .u8 0)),(.v (.int .u8 0)),(.v (.int .u8 0)),(.v (.int .u8 0)),(.v (.int .u8 0)),(.v (.int .u8 0)),(.v (.int .u8 0)),(.v (.int .u8 0)),(.v (.int .u8 0)),(.v (.int .u8 0)),(.v (.int .u8 0)),(.v (.int .u8 0)),(.v (.int .u8 0)),(.v (.int .u8 0)),(.v (.int .u8 0)),(.v (.int .u8 0)),(.v (.int .u8 0)),(.v (.int .u8 0)),(.v (.int .u8 0)),(.v (.int .u8 0)),(.v (.bool false)),(.v (.slice none 0 0)),(.v (.int .u8 0)),(.v (.int .u8 0)),(.v (.int .u8 0)),(.v (.int .u8 0)),(.v (.int .u8 0)),(.v (.int .u8 0)),(.v (.int .u8 0)),(.v (.int .u8 0)),(.v (.int .u8 0)),(.v (.int .u8 0)),(.v (.int .u8 0)),(.v (.int .u8 0)),(.v (.int .u8 0)),(.v (.int .u8 0)),(.v (.int .u8 0)),(.v (.int .u8 0)),(.v (.int .u8 0)),(.v (.int .u8 0)),(.v (.int .u8 0)),(.v (.int .u8 0)),(.v (.int .u8 0)),(.v (.int .u8 0)),(.v (.int .u8 0)),(.v (.int .u8 0)),(.v (.int .u8 0)),(.v (.int .u8 0)),(.v (.int .u8 0)),(.v (.int .u8 0)),(.v (.int .u8 0)),(.v (.int .u8 0)),(.v (.int .u8 0)),(.v (.int .u8 0)),(.v (.int .i64 0)),(.v (.int .i64 0)),(.v (.string ⟨#[]⟩)),(.v (.string ⟨#[]⟩)),(.v (.int .i64 0)),(.v (.int .i64 0)),(.v (.slice none 0 0)),(.v (.bool false)),(.v (.int .i64 0)),(.v (.int .i64 0)),(.v (.int .u8 0)),(.v (.int .u8 0)),(.v (.int .u8 0)),(.v (.int .u8 0)),(.v (.int .u8 0)),(.v (.int .u8 0)),(.v (.int .u8 0)),(.v (.int .u8 0)),(.v (.int .u8 0)),(.v (.int .u8 0)),(.v (.int .u8 0)),(.v (.int .u8 0)),(.v (.int .u8 0)),(.v (.int .u8 0)),(.v (.int .u8 0)),(.v (.int .u8 0)),(.v (.int .u8 0)),(.v (.int .u8 0)),(.v (.int .u8 0)),(.v (.int .u8 0)),(.v (.int .u8 0)),(.v (.int .u8 0)),(.v (.int .u8 0)),(.v (.int .u8 0)),(.v (.int .u8 0)),(.v (.int .u8 0)),(.v (.int .u8 0)),(.v (.int .u8 0)),(.v (.int .u8 0)),(.v (.int .u8 0)),(.v (.int .u8 0)),(.v (.int .u8 0))]
def cfgB : List LV:=[(.slice 4551 0 1 1),(.v (.int .u8 3)),(.v (.int .u8 0)),(.v (.int .u8 0)),(.v (.int .u8 0)),(.v (.int .u8 0)),(.v (.int .u8 0)),(.v (.int .u8 0)),(.v (.int .u8 0)),(.v (.int .u8 0)),(.v (.int .u8 0)),(.v (.int .u8 0)),(.v (.int .u8 0)),(.v (.int .u8 0)),(.v (.int .u8 0)),(.v (.int .u8 0)),(.v (.int .u8 0)),(.v (.int .u8 0)),(.v (.int .u8 0)),(.v (.int .u8 0)),(.v (.int .u8 0)),(.v (.int .u8 0)),(.v (.int .u8 0)),(.v (.int .u8 0)),(.v (.int .u8 0)),(.v (.int .u8 0)),(.v (.int .u8 0)),(.v (.int .u8 0)),(.v (.int .u8 0)),(.v (.int .u8 0)),(.v (.int .u8 0)),(.v (.int .u8 0)),(.v (.int .u8 2)),(.slice 4552 0 1 1),(.v (.int .i64 5)),(.v (.int .u8 0)),(.v (.int .u8 0)),(.v (.int .u8 0)),(.v (.int .u8 0)),(.v (.int .u8 0)),(.v (.int .u8 0)),(.v (.int .u8 0)),(.v (.int .u8 0)),(.v (.int .u8 0)),(.v (.int .u8 0)),(.v (.int .u8 0)),(.v (.int .u8 0)),(.v (.int .u8 0)),(.v (.int .u8 0)),(.v (.int .u8 0)),(.v (.int .u8 0)),(.v (.int .u8 0)),(.v (.int .u8 0)),(.v (.int .u8 0)),(.v (.int .u8 0)),(.v (.int .u8 0)),(.v (.int .u8 0)),(.v (.int .u8 0)),(.v (.int .u8 0)),(.v (.int .u8 0)),(.v (.int .u8 0)),(.v (.int .u8 0)),(.v (.int .u8 0)),(.v (.int .u8 0)),(.v (.int .u8 0)),(.v (.int .u8 0)),(.v (.int .u8 0)),(.v (.bool false)),(.v (.slice none 0 0)),(.v (.int .u8 0)),(.v (.int .u8 0)),(.v (.int .u8 0)),(.v (.int .u8 0)),(.v (.int .u8 0)),(.v (.int .u8 0)),(.v (.int .u8 0)),(.v (.int .u8 0)),(.v (.int .u8 0)),(.v (.int .u8 0)),(.v (.int .u8 0)),(.v (.int .u8 0)),(.v (.int .u8 0)),(.v (.int .u8 0)),(.v (.int .u8 0)),(.v (.int .u8 0)),(.v (.int .u8 0)),(.v (.int .u8 0)),(.v (.int .u8 0)),(.v (.int .u8 0)),(.v (.int .u8 0)),(.v (.int .u8 0)),(.v (.int .u8 0)),(.v (.int .u8 0)),(.v (.int .u8 0)),(.v (.int .u8 0)),(.v (.int .u8 0)),(.v (.int .u8 0)),(.v (.int .u8 0)),(.v (.int .u8 0)),(.v (.int .u8 0)),(.v (.int .u8 0)),(.v (.int .i64 0)),(.v (.int .i64 0)),(.v (.string ⟨#[]⟩)),(.v (.string ⟨#[]⟩)),(.v (.int .i64 0)),(.v (.int .i64 0)),(.v (.slice none 0 0)),(.v (.bool false)),(.v (.int .i64 0)),(.v (.int .i64 0)),(.v (.int .u8 5)),(.v (.int .u8 0)),(.v (.int .u8 0)),(.v (.int .u8 0)),(.v (.int .u8 0)),(.v (.int .u8 0)),(.v (.int .u8 0)),(.v (.int .u8 0)),(.v (.int .u8 0)),(.v (.int .u8 0)),(.v (.int .u8 0)),(.v (.int .u8 0)),(.v (.int .u8 0)),(.v (.int .u8 0)),(.v (.int .u8 0)),(.v (.int .u8 0)),(.v (.int .u8 0)),(.v (.int .u8 0)),(.v (.int .u8 0)),(.v (.int .u8 0)),(.v (.int .u8 0)),(.v (.int .u8 0)),(.v (.int .u8 0)),(.v (.int .u8 0)),(.v (.int .u8 0)),(.v (.int .u8 0)),(.v (.int .u8 0)),(.v (.int .u8 0)),(.v (.int .u8 0)),(.v (.int .u8 0)),(.v (.int .u8 0)),(.v (.int .u8 0))]
def cfgV (nm:ByteArray) (sz wt:Int) : LV:=.tup [.agg (.v (.string nm) :: (cfgTl ++ [.v (.int .i64 sz),.v (.int .i64 wt)])),.agg cfgB,.v (.bool true)]
def cfgD : Dl:=[(4552,some ⟨22,true,false,[(.buf 1628 0 293 1)]⟩),(3088,some ⟨5,false,false,(q8 [48,130,1,29,48,129,197,160,3,2,1,2,2,1,2,48,10,6,8,42,134,72,206,61,4,3,2,48,13,48,11,6,3,85,4,3,12,4,114,111,111,116,48,7,2,1,0,2,2,3,232,48,15,48,13,6,3,85,4,3,12,6,115,101,114,118,101,114,48,89,48,19,6,7,42,134,72,206,61,2,1,6,8,42,134,72,206,61,3,1,7,3,66,0,4,159,176,243,232,3,133,114,170,205,88,177,60,228,219,248,241,146,30,63,184,32,221,197,79,18,193,110,130,137,152,224,2,161,196,92,237,119,195,217,74,220,219,113,119,88,114,103,131,213,114,48,139,82,23,186,234,112,133,69,215,1,96,118,95,163,43,48,41,48,12,6,3,85,29,19,1,1,255,4,2,48,0,48,13,6,3,85,29,15,1,1,255,4,3,2,1,1,48,10,6,3,85,29,37,4,3,2,1,1,48,10,6,8,42,134,72,206,61,4,3,2,3,71,0,48,68,2,32,2,34,66,41,235,228,92,206,230,200,151,34,60,21,101,206,145,1,66,245,200,224,43,39,93,251,82,150,178,12,120,170,2,32,117,119,67,63,35,179,44,227,0,160,55,29,86,202,121,61,50,160,53,184,20,10,160,82,66,7,85,0,99,149,77,62])⟩),(4551,some ⟨22,true,false,[(.buf 3088 0 289 1)]⟩),(1628,some ⟨5,false,false,(q8 [48,130,1,33,48,129,201,160,3,2,1,2,2,1,1,48,10,6,8,42,134,72,206,61,4,3,2,48,13,48,11,6,3,85,4,3,12,4,114,111,111,116,48,7,2,1,0,2,2,3,232,48,13,48,11,6,3,85,4,3,12,4,114,111,111,116,48,89,48,19,6,7,42,134,72,206,61,2,1,6,8,42,134,72,206,61,3,1,7,3,66,0,4,153,95,123,98,33,154,66,70,244,115,118,65,26,205,177,105,5,93,141,222,239,84,122,208,225,12,44,85,188,77,193,111,188,193,162,112,89,74,172,83,188,101,97,201,95,58,170,119,18,71,62,143,159,77,83,173,225,7,124,85,137,115,128,207,163,49,48,47,48,18,6,3,85,29,19,1,1,255,4,8,48,6,1,1,255,2,1,0,48,13,6,3,85,29,15,1,1,255,4,3,2,1,3,48,10,6,3,85,29,37,4,3,2,1,0,48,10,6,8,42,134,72,206,61,4,3,2,3,71,0,48,68,2,32,73,126,189,214,73,0,24,180,105,76,79,117,199,4,42,163,36,158,134,107,209,115,7,23,154,161,77,109,218,250,142,77,2,32,5,102,29,61,220,168,13,196,62,169,37,98,146,163,244,234,25,68,159,188,31,67,233,198,239,15,128,45,229,26,77,37])⟩),(4550,some ⟨22,true,false,[(.buf 1628 0 293 1)]⟩),(4548,some ⟨5,false,false,(q8 [48,130,1,29,48,129,197,160,3,2,1,2,2,1,3,48,10,6,8,42,134,72,206,61,4,3,2,48,13,48,11,6,3,85,4,3,12,4,114,111,111,116,48,7,2,1,0,2,2,3,232,48,15,48,13,6,3,85,4,3,12,6,99,108,105,101,110,116,48,89,48,19,6,7,42,134,72,206,61,2,1,6,8,42,134,72,206,61,3,1,7,3,66,0,4,209,46,211,16,55,59,18,74,208,42,35,62,143,215,225,45,31,169,165,160,17,73,87,91,63,187,26,189,16,208,44,23,211,197,1,216,233,202,145,210,176,54,219,188,205,234,144,21,120,180,24,182,122,190,85,22,65,127,138,163,231,233,60,140,163,43,48,41,48,12,6,3,85,29,19,1,1,255,4,2,48,0,48,13,6,3,85,29,15,1,1,255,4,3,2,1,1,48,10,6,3,85,29,37,4,3,2,1,2,48,10,6,8,42,134,72,206,61,4,3,2,3,71,0,48,68,2,32,27,72,221,59,124,122,62,181,67,95,240,80,3,4,190,79,141,58,87,79,125,164,96,216,32,187,13,172,22,180,101,67,2,32,114,163,207,240,172,169,107,97,57,196,24,100,130,113,111,156,236,144,172,235,115,189,119,193,11,95,245,236,134,166,192,121])⟩),(4549,some ⟨22,true,false,[(.buf 4548 0 289 1)]⟩)]
end Go.Proofs.YtjpfhhndjpdmoaaGreatDoor

namespace Go.Proofs.YtjpfhhndjpdmoaaGreatDoor
open Go.RowKit
set_option linter.unusedVariables false
set_option linter.unusedSectionVars false
set_option linter.unusedSimpArgs false
set_option autoImplicit false

def SB : Nat:=1000000
inductive Src where
 | num (j:Nat)
 | lit (n:Nat)
abbrev Sg:=List (Nat × Src)
def lkS : Sg → Nat → Option Src
 | [],_=>none
 | (i,x) :: l,n=>match Nat.beq i n with | true=>some x | false=>lkS l n
def srcB (nB:Nat) (σ : Sg) (b:Nat) : Option Nat:=match lkS σ b with
 | some (.num j)=>some j
 | some (.lit _)=>none
 | none=>match Nat.ble (b + 1) nB with | true=>some b | false=>none
def mapB (nB:Nat) (σ : Sg) (b c:Nat) : Bool:=match srcB nB σ b with
 | some j=>Nat.beq j c
 | none=>false
noncomputable def envS (nB:Nat) (σ : Sg) (ν : Env) : Env:=fun i=>match lkS σ i with
 | some (.num j)=>ν j
 | some (.lit n)=>some ⟨n,0,0⟩
 | none=>if i < nB then ν i else none
theorem srcB_ok {nB:Nat} {σ : Sg} {b c:Nat} (h:srcB nB σ b = some c) (ν : Env) : envS nB σ ν b = ν c:=by
 unfold srcB at h
 unfold envS
 cases hl : lkS σ b with
 | some x =>
  cases x with
  | num j=>rw [hl] at h; cases h; rfl
  | lit n=>rw [hl] at h; cases h
 | none =>
  rw [hl] at h
  simp only at h
  split at h
  ·rename_i hb; cases h; exact if_pos (Nat.le_of_ble_eq_true hb)
  ·cases h
theorem mapB_ok {nB:Nat} {σ : Sg} {b c:Nat} (h:mapB nB σ b c = true) (ν : Env) : envS nB σ ν b = ν c:=by
 unfold mapB at h
 split at h
 ·rename_i j hj
  rw [nbeq h] at hj
  exact srcB_ok hj ν
 ·cases h
def neN (nB:Nat) (σ : Sg) (lo hi:Nat) (ne':List Nat) : List Nat → Bool
 | []=>true
 | e :: ne=>(match lkS σ e with
  | some (.num f)=>ne'.contains f
  | some (.lit m)=>Nat.ble (m + 1) lo || Nat.ble (hi + 1) m
  | none=>false) && neN nB σ lo hi ne' ne
def neL (σ : Sg) (n:Nat) : List Nat → Bool
 | []=>true
 | e :: ne=>(match lkS σ e with
  | some (.lit m)=>Nat.ble (m + 1) n || Nat.ble (n + 1) m
  | _=>false) && neL σ n ne
def litS (σ : Sg) (b n:Nat) : Bool:=match lkS σ b with | some (.lit m)=>Nat.beq m n | _=>false
def u8L : List UInt8 → List LV
 | []=>[]
 | b :: l=>.v (.int .u8 b.toNat) :: u8L l
structure Kn where
 G : List (Nat × Nat × Nat × List Nat)
 E : List (Nat × Nat)
def eqNs : List Nat → List Nat → Bool
 | [],[]=>true
 | a :: l,b :: m=>Nat.beq a b && eqNs l m
 | _,_=>false
theorem eqNs_ok : ∀ {l m:List Nat},eqNs l m = true → l = m
 | [],[],_=>rfl
 | a :: l,b :: m,h=>by
  simp only [eqNs,Bool.and_eq_true] at h
  rw [nbeq h.1,eqNs_ok h.2]
 | [],_ :: _,h=>by cases h
 | _ :: _,[],h=>by cases h
def hasG : List (Nat × Nat × Nat × List Nat) → Nat → Nat → Nat → List Nat → Bool
 | [],_,_,_,_=>false
 | (b',lo',hi',ne') :: G,b,lo,hi,ne=>((Nat.beq b' b && Nat.beq lo' lo) && (Nat.beq hi' hi && eqNs ne' ne)) || hasG G b lo hi ne
def hasE : List (Nat × Nat) → Nat → Nat → Bool
 | [],_,_=>false
 | (b',c') :: E,b,c=>(Nat.beq b' b && Nat.beq c' c) || hasE E b c
def SymOk (ν : Env) (b lo hi:Nat) (ne:List Nat) : Prop:=∃ l,ν b = some l ∧ lo ≤ l.addr ∧ l.addr ≤ hi ∧ ∀ c ∈ ne,∃ l2,ν c = some l2 ∧ l.addr ≠ l2.addr
theorem hasG_ok {b lo hi:Nat} {ne:List Nat} : ∀ {G:List (Nat × Nat × Nat × List Nat)},hasG G b lo hi ne = true → (b,lo,hi,ne) ∈ G
 | [],h=>by cases h
 | (b',lo',hi',ne') :: G,h=>by
  simp only [hasG,Bool.or_eq_true,Bool.and_eq_true] at h
  rcases h with ⟨⟨h1,h2⟩,h3,h4⟩ | h
  ·rw [nbeq h1,nbeq h2,nbeq h3,eqNs_ok h4]; exact List.mem_cons_self ..
  ·exact List.mem_cons_of_mem _ (hasG_ok h)
theorem hasE_ok {b c:Nat} : ∀ {E:List (Nat × Nat)},hasE E b c = true → (b,c) ∈ E
 | [],h=>by cases h
 | (b',c') :: E,h=>by
  simp only [hasE,Bool.or_eq_true,Bool.and_eq_true] at h
  rcases h with ⟨h1,h2⟩ | h
  ·rw [nbeq h1,nbeq h2]; exact List.mem_cons_self ..
  ·exact List.mem_cons_of_mem _ (hasE_ok h)
def KnOk (nB:Nat) (σ : Sg) (κ : Kn) (ν : Env) : Prop:=(∀ b lo hi ne,(b,lo,hi,ne) ∈ κ.G → SymOk (envS nB σ ν) b lo hi ne) ∧ ∀ b c,(b,c) ∈ κ.E → ∃ l l',envS nB σ ν b = some l ∧ ν c = some l' ∧ l.addr = l'.addr
theorem KnOk.nil (nB:Nat) (σ : Sg) (ν : Env) : KnOk nB σ ⟨[],[]⟩ ν:=⟨fun _ _ _ _ h=>(by cases h),fun _ _ h=>(by cases h)⟩
section
variable (nB:Nat) (σ : Sg) (κ : Kn)
mutual
def insV : LV → LV → Bool
 | .v x,.v y=>eqV x y
 | .ptr b o,.ptr c p=>mapB nB σ b c && Nat.beq o p
 | .slice b o n k,.slice c p m q=>(mapB nB σ b c && Nat.beq o p) && (Nat.beq n m && Nat.beq k q)
 | .buf b o n k,.buf c p m q=>(mapB nB σ b c && Nat.beq o p) && (Nat.beq n m && Nat.beq k q)
 | .emp,.emp=>true
 | .sym b k lo hi ne,.sym c k' lo' hi' ne'=>(Nat.beq (kindN k) (kindN k') && Nat.ble hi (topK k)) && ((mapB nB σ b c && (Nat.ble lo lo' && (Nat.ble hi' hi && neN nB σ lo' hi' ne' ne))) || (hasG κ.G b lo hi ne && (mapB nB σ b c || hasE κ.E b c)))
 | .sym b k lo hi ne,.v (.int k' (.ofNat n))=>(litS σ b n && Nat.beq (kindN k) (kindN k')) && ((Nat.ble lo n && (Nat.ble n hi && Nat.ble hi (topK k))) && neL σ n ne)
 | .outS b,.outS c=>mapB nB σ b c && (mapB nB σ (b + 1) (c + 1) && mapB nB σ (b + 2) (c + 2))
 | .outP b,.outP c=>mapB nB σ b c
 | .str l,.str m=>insL l m
 | .str l,.v (.string s)=>insL l (u8L s.data.toList)
 | .agg l,.agg m=>insL l m
 | .tup l,.tup m=>insL l m
 | .ifc t x,.ifc u y=>Nat.beq t u && insV x y
 | _,_=>false
def insL : List LV → List LV → Bool
 | [],[]=>true
 | x :: l,y :: m=>insV x y && insL l m
 | _,_=>false
end
end
theorem u8L_eq : ∀ l : List UInt8,u8L l = l.map fun b=>LV.v (.int .u8 b.toNat)
 | []=>rfl
 | b :: l=>by rw [u8L,u8L_eq l]; rfl
section
variable {nB:Nat} {σ : Sg} {κ : Kn} {ν : Env}
theorem neN_ok {lo hi:Nat} {ne':List Nat} {a:Nat} (h1:lo ≤ a) (h2:a ≤ hi) (hs:∀ c ∈ ne',∃ l2,ν c = some l2 ∧ a ≠ l2.addr) : ∀ {ne:List Nat},neN nB σ lo hi ne' ne = true → ∀ c ∈ ne,∃ l2,envS nB σ ν c = some l2 ∧ a ≠ l2.addr
 | [],_,c,hc=>by cases hc
 | e :: ne,h,c,hc=>by
  simp only [neN,Bool.and_eq_true] at h
  rcases List.mem_cons.1 hc with rfl | hc
  ·have h3:=h.1
   split at h3
   ·rename_i f hf
    obtain ⟨l2,g1,g2⟩:=hs f (List.contains_iff_mem.1 h3)
    exact ⟨l2,by unfold envS; rw [hf]; exact g1,g2⟩
   ·rename_i m hm
    refine ⟨⟨m,0,0⟩,by unfold envS; rw [hm],?_⟩
    simp only [Bool.or_eq_true] at h3
    show a ≠ m
    rcases h3 with h3 | h3
    ·have:=Nat.le_of_ble_eq_true h3; omega
    ·have:=Nat.le_of_ble_eq_true h3; omega
   ·cases h3
  ·exact neN_ok h1 h2 hs h.2 c hc
theorem neL_ok {n:Nat} : ∀ {ne:List Nat},neL σ n ne = true → ∀ c ∈ ne,∃ l2,envS nB σ ν c = some l2 ∧ n ≠ l2.addr
 | [],_,c,hc=>by cases hc
 | e :: ne,h,c,hc=>by
  simp only [neL,Bool.and_eq_true] at h
  rcases List.mem_cons.1 hc with rfl | hc
  ·have h3:=h.1
   split at h3
   ·rename_i m hm
    refine ⟨⟨m,0,0⟩,by unfold envS; rw [hm],?_⟩
    simp only [Bool.or_eq_true] at h3
    show n ≠ m
    rcases h3 with h3 | h3
    ·have:=Nat.le_of_ble_eq_true h3; omega
    ·have:=Nat.le_of_ble_eq_true h3; omega
   ·cases h3
  ·exact neL_ok h.2 c hc
mutual
theorem insV_ok (hκ : KnOk nB σ κ ν) : ∀ {x y:LV} {v:Value},insV nB σ κ x y = true → VR ν y v → VR (envS nB σ ν) x v
 | .v x,y,v,h,hv=>by
  cases y <;> simp only [insV] at h <;> first | (cases h; done) | skip
  rename_i y
  obtain rfl:=eqV_ok h
  simpa [VR] using hv
 | .ptr b o,y,v,h,hv=>by
  cases y <;> simp only [insV,Bool.and_eq_true] at h <;> first | (cases h; done) | skip
  simp only [VR] at hv ⊢
  obtain ⟨l,h1,h2⟩:=hv
  exact ⟨l,by rw [mapB_ok h.1 ν]; exact h1,by rw [nbeq h.2]; exact h2⟩
 | .slice b o n k,y,v,h,hv=>by
  cases y <;> simp only [insV,Bool.and_eq_true] at h <;> first | (cases h; done) | skip
  simp only [VR] at hv ⊢
  obtain ⟨l,h1,h2⟩:=hv
  exact ⟨l,by rw [mapB_ok h.1.1 ν]; exact h1,by rw [nbeq h.1.2,nbeq h.2.1,nbeq h.2.2]; exact h2⟩
 | .buf b o n k,y,v,h,hv=>by
  cases y <;> simp only [insV,Bool.and_eq_true] at h <;> first | (cases h; done) | skip
  simp only [VR] at hv ⊢
  obtain ⟨l,c,h1,h2⟩:=hv
  exact ⟨l,c,by rw [mapB_ok h.1.1 ν]; exact h1,by rw [nbeq h.1.2,nbeq h.2.1,nbeq h.2.2]; exact h2⟩
 | .emp,y,v,h,hv=>by
  cases y <;> simp only [insV] at h <;> first | (cases h; done) | skip
  simpa [VR] using hv
 | .sym b k lo hi ne,y,v,h,hv=>by
  cases y with
  | sym c k' lo' hi' ne' =>
   simp only [insV,Bool.and_eq_true,Bool.or_eq_true] at h
   obtain ⟨⟨h2,h5⟩,h⟩:=h
   obtain rfl:=kindN_inj h2
   simp only [VR] at hv ⊢
   obtain ⟨l,g1,g2,g3,g4,g5,g6⟩:=hv
   rcases h with ⟨h1,h3,h4,h6⟩ | ⟨h1,h3⟩
   ·exact ⟨l,by rw [mapB_ok h1 ν]; exact g1,g2,Nat.le_trans (Nat.le_of_ble_eq_true h3) g3,Nat.le_trans g4 (Nat.le_of_ble_eq_true h4),Nat.le_of_ble_eq_true h5,neN_ok g3 g4 g6 h6⟩
   ·obtain ⟨l2,q1,q2,q3,q4⟩:=hκ.1 b lo hi ne (hasG_ok h1)
    have he : l2.addr = l.addr:=by
     rcases h3 with h3 | h3
     ·rw [mapB_ok h3 ν,g1] at q1; cases q1; rfl
     ·obtain ⟨l3,l4,p1,p2,p3⟩:=hκ.2 b c (hasE_ok h3)
      rw [q1] at p1; cases p1
      rw [g1] at p2; cases p2
      exact p3
    exact ⟨l2,q1,by rw [he]; exact g2,q2,q3,Nat.le_of_ble_eq_true h5,q4⟩
  | v y =>
   cases y with
   | int k' z =>
    cases z with
    | ofNat n =>
     simp only [insV,Bool.and_eq_true] at h
     obtain ⟨⟨h1,h2⟩,⟨h3,h4,h5⟩,h6⟩:=h
     obtain rfl:=kindN_inj h2
     simp only [VR] at hv ⊢
     have hl : lkS σ b = some (.lit n):=by
      unfold litS at h1
      split at h1
      ·rename_i m hm; rw [nbeq h1] at hm; exact hm
      ·cases h1
     exact ⟨⟨n,0,0⟩,by unfold envS; rw [hl],hv.1,Nat.le_of_ble_eq_true h3,Nat.le_of_ble_eq_true h4,Nat.le_of_ble_eq_true h5,neL_ok h6⟩
    | negSucc n=>simp [insV] at h
   | _=>simp [insV] at h
  | _=>simp [insV] at h
 | .str l,y,v,h,hv=>by
  cases y with
  | str m =>
   simp only [insV] at h
   simp only [VR] at hv ⊢
   obtain ⟨bs,h1,h2⟩:=hv
   exact ⟨bs,h1,insL_ok hκ h h2⟩
  | v y =>
   cases y with
   | string s =>
    simp only [insV] at h
    simp only [VR] at hv ⊢
    refine ⟨s.data.toList,by rw [hv.1],insL_ok hκ h ?_⟩
    rw [u8L_eq]
    exact bytes_vrs _
   | _=>simp [insV] at h
  | _=>simp [insV] at h
 | .agg l,y,v,h,hv=>by
  cases y <;> simp only [insV] at h <;> first | (cases h; done) | skip
  simp only [VR] at hv ⊢
  obtain ⟨vs,h1,h2⟩:=hv
  exact ⟨vs,h1,insL_ok hκ h h2⟩
 | .tup l,y,v,h,hv=>by
  cases y <;> simp only [insV] at h <;> first | (cases h; done) | skip
  simp only [VR] at hv ⊢
  obtain ⟨vs,h1,h2⟩:=hv
  exact ⟨vs,h1,insL_ok hκ h h2⟩
 | .fn f l,y,v,h,hv=>by
  cases y <;> simp [insV] at h
 | .ifc t x,y,v,h,hv=>by
  cases y <;> simp only [insV,Bool.and_eq_true] at h <;> first | (cases h; done) | skip
  simp only [VR] at hv ⊢
  obtain ⟨u,h1,h2⟩:=hv
  exact ⟨u,by rw [nbeq h.1]; exact h1,insV_ok hκ h.2 h2⟩
 | .outS b,y,v,h,hv=>by
  cases y <;> simp only [insV,Bool.and_eq_true] at h <;> first | (cases h; done) | skip
  simp only [VR] at hv ⊢
  obtain ⟨l,m,f,h1,h2,h3,h4⟩:=hv
  exact ⟨l,m,f,by rw [mapB_ok h.1 ν]; exact h1,by rw [mapB_ok h.2.1 ν]; exact h2,by rw [mapB_ok h.2.2 ν]; exact h3,h4⟩
 | .outP b,y,v,h,hv=>by
  cases y <;> simp only [insV] at h <;> first | (cases h; done) | skip
  simp only [VR] at hv ⊢
  obtain ⟨l,h1,h2⟩:=hv
  exact ⟨l,by rw [mapB_ok h ν]; exact h1,h2⟩
theorem insL_ok (hκ : KnOk nB σ κ ν) : ∀ {l m:List LV} {vs:List Value},insL nB σ κ l m = true → VRs ν m vs → VRs (envS nB σ ν) l vs
 | [],m,vs,h,hv=>by
  cases m with
  | nil=>rw [VRs.nil_iff.1 hv]; exact VRs.nil_iff.2 rfl
  | cons y m=>simp [insL] at h
 | x :: l,m,vs,h,hv=>by
  cases m with
  | nil=>simp [insL] at h
  | cons y m =>
   simp only [insL,Bool.and_eq_true] at h
   obtain ⟨u,us,rfl,h2,h3⟩:=VRs.cons_iff.1 hv
   exact VRs.cons_iff.2 ⟨u,us,rfl,insV_ok hκ h.1 h2,insL_ok hκ h.2 h3⟩
end
theorem insV_one : ∀ {x y:LV},insV nB σ κ x y = true → y.isOne = true → x.isOne = true
 | .v _,_,_,_=>rfl
 | .ptr _ _,_,_,_=>rfl
 | .slice _ _ _ _,_,_,_=>rfl
 | .buf _ _ _ _,_,_,_=>rfl
 | .emp,_,_,_=>rfl
 | .sym _ _ _ _ _,_,_,_=>rfl
 | .str _,_,_,_=>rfl
 | .outS _,_,_,_=>rfl
 | .outP _,_,_,_=>rfl
 | .fn _ _,_,_,_=>rfl
 | .ifc _ _,_,_,_=>rfl
 | .agg l,y,h,h1=>by cases y <;> simp [insV] at h; simp [LV.isOne] at h1
 | .tup l,y,h,h1=>by cases y <;> simp [insV] at h; simp [LV.isOne] at h1
theorem insL_one : ∀ {l m:List LV},insL nB σ κ l m = true → m.all LV.isOne = true → l.all LV.isOne = true ∧ l.length = m.length
 | [],[],_,_=>⟨rfl,rfl⟩
 | [],_ :: _,h,_=>by simp [insL] at h
 | _ :: _,[],h,_=>by simp [insL] at h
 | x :: l,y :: m,h,h1=>by
  simp only [insL,Bool.and_eq_true] at h
  simp only [List.all_cons,Bool.and_eq_true] at h1
  obtain ⟨g1,g2⟩:=insL_one h.2 h1.2
  exact ⟨by simp [insV_one h.1 h1.1,g1],by simp [g2]⟩
end
def insB (nB:Nat) (σ : Sg) (κ : Kn) (k k':Blk) : Bool:=(Nat.beq k.elem k'.elem && (k.exact == k'.exact)) && ((k.mrk || !k'.mrk) && insL nB σ κ k.cells k'.cells)
theorem insB_ok {nB:Nat} {σ : Sg} {κ : Kn} {ν : Env} {k k':Blk} {l:Loc} {o:Option Obj} (hκ : KnOk nB σ κ ν) (h:insB nB σ κ k k' = true) (hb:BlkR ν l k' o) : BlkR (envS nB σ ν) l k o:=by
 simp only [insB,Bool.and_eq_true] at h
 obtain ⟨⟨h1,h2⟩,h3,h4⟩:=h
 obtain ⟨c,fr,g1,g2,g3,⟨pre,vs,rest,g4,g40,g5⟩,g6,g7,g8⟩:=hb
 obtain ⟨q1,q2⟩:=insL_one h4 g6
 have e2 : k.exact = k'.exact:=eq_of_beq h2
 refine ⟨c,fr,by rw [nbeq h1]; exact g1,g2,fun he=>by rw [q2]; exact g3 (by rw [← e2]; exact he),⟨pre,vs,rest,g4,g40,insL_ok hκ h4 g5⟩,q1,g7,fun hm=>g8 ?_⟩
 rw [hm] at h3
 simpa using h3
structure Pat where
 T : List (Nat × LV)
 D : List (Nat × Blk)
 nx : Nat
def trOf (l:List (Nat × LV)) : Tr LV:=l.foldr (fun p t=>t.set p.1 (some p.2)) .nil
theorem trOf_get : ∀ {l:List (Nat × LV)} {t:Nat} {x:LV},(trOf l).get t = some x → (t,x) ∈ l
 | [],t,x,h=>by
  have : (trOf []).get t = none:=Tr.get_nil t
  rw [this] at h; cases h
 | (i,y) :: l,t,x,h=>by
  have e : (trOf ((i,y) :: l)).get t = if t = i then some y else (trOf l).get t:=by
   show ((trOf l).set i (some y)).get t = _
   rw [Tr.get_set]
  rw [e] at h
  split at h
  ·rename_i e; subst e; cases h; exact List.mem_cons_self ..
  ·exact List.mem_cons_of_mem _ (trOf_get h)
def stOf (nt:Nat) (t:Pat) : St:=⟨nt,trOf t.T,hpOf t.D,t.nx,[]⟩
def insT (nB:Nat) (σ : Sg) (κ : Kn) (T:Tr LV) : List (Nat × LV) → Bool
 | []=>true
 | (i,x) :: l=>(match T.get i with | some y=>insV nB σ κ x y | none=>false) && insT nB σ κ T l
def notIn (j:Nat) : List Nat → Bool
 | []=>true
 | i :: l=>(Nat.ble (i + 1) j || Nat.ble (j + 1) i) && notIn j l
def insD (nB:Nat) (σ : Sg) (κ : Kn) (nx:Nat) (H:Hp) : List Nat → List (Nat × Blk) → Bool
 | _,[]=>true
 | seen,(i,k) :: D=>(match srcB nB σ i with
  | some j=>(match H.get j with | some k'=>insB nB σ κ k k' | none=>false) && ((notIn j seen && (Nat.ble (i + 1) nx && (Nat.ble (i + 1) nB || Nat.ble nB j))) && insD nB σ κ nx H (j :: seen) D)
  | none=>false)
def insK (nB nx:Nat) : Sg → Bool
 | []=>true
 | (i,_) :: σ=>(Nat.ble nB i && (Nat.ble (i + 1) nx || Nat.ble SB i)) && insK nB nx σ
def insS (nB:Nat) (σ : Sg) (κ : Kn) (t:Pat) (s:St) : Bool:=(insK nB t.nx σ && Nat.ble nB t.nx) && (insD nB σ κ t.nx s.H [] t.D && insT nB σ κ s.T t.T)
def Free (ν : Env) (nx:Nat) : Prop:=∀ i,nx ≤ i → i < SB → ν i = none
theorem insT_ok {nB:Nat} {σ : Sg} {κ : Kn} {T:Tr LV} : ∀ {l:List (Nat × LV)},insT nB σ κ T l = true → ∀ i x,(i,x) ∈ l → ∃ y,T.get i = some y ∧ insV nB σ κ x y = true
 | [],_,i,x,hm=>by cases hm
 | (j,z) :: l,h,i,x,hm=>by
  simp only [insT,Bool.and_eq_true] at h
  rcases List.mem_cons.1 hm with e | hm
  ·obtain ⟨rfl,rfl⟩:=Prod.mk.inj e
   have h1:=h.1
   split at h1
   ·rename_i y hy; exact ⟨y,hy,h1⟩
   ·cases h1
  ·exact insT_ok h.2 i x hm
theorem notIn_ok {j:Nat} : ∀ {l:List Nat},notIn j l = true → j ∉ l
 | [],_=>by simp
 | i :: l,h=>by
  simp only [notIn,Bool.and_eq_true,Bool.or_eq_true] at h
  intro hm
  rcases List.mem_cons.1 hm with rfl | hm
  ·rcases h.1 with h1 | h1
   ·have:=Nat.le_of_ble_eq_true h1; omega
   ·have:=Nat.le_of_ble_eq_true h1; omega
  ·exact notIn_ok h.2 hm
theorem insD_ok {nB:Nat} {σ : Sg} {κ : Kn} {nx:Nat} {H:Hp} : ∀ {D:List (Nat × Blk)} {seen:List Nat},insD nB σ κ nx H seen D = true →
  (∀ i k,(i,k) ∈ D → ∃ j k',srcB nB σ i = some j ∧ H.get j = some k' ∧ insB nB σ κ k k' = true ∧ i < nx ∧ (nB ≤ i → nB ≤ j) ∧ j ∉ seen) ∧
  (∀ i k i' k' j,(i,k) ∈ D → (i',k') ∈ D → srcB nB σ i = some j → srcB nB σ i' = some j → i = i')
 | [],seen,_=>⟨fun i k hm=>(by cases hm),fun i k i' k' j hm=>(by cases hm)⟩
 | (a,b) :: D,seen,h=>by
  simp only [insD] at h
  split at h
  ·rename_i j hj
   simp only [Bool.and_eq_true,Bool.or_eq_true] at h
   obtain ⟨h1,⟨h2,h3,h4⟩,h5⟩:=h
   obtain ⟨q1,q2⟩:=insD_ok h5
   have hd : ∃ k',H.get j = some k' ∧ insB nB σ κ b k' = true:=by
    split at h1
    ·rename_i k' hk'; exact ⟨k',hk',h1⟩
    ·cases h1
   obtain ⟨k',hk',hb⟩:=hd
   have hlow : nB ≤ a → nB ≤ j:=fun ha=>by
    rcases h4 with h4 | h4
    ·have:=Nat.le_of_ble_eq_true h4; omega
    ·exact Nat.le_of_ble_eq_true h4
   refine ⟨fun i k hm=>?_,fun i k i' k2' j' hm hm' e1 e2=>?_⟩
   ·rcases List.mem_cons.1 hm with e | hm
    ·obtain ⟨rfl,rfl⟩:=Prod.mk.inj e
     exact ⟨j,k',hj,hk',hb,Nat.le_of_ble_eq_true h3,hlow,notIn_ok h2⟩
    ·obtain ⟨j2,k2,g1,g2,g3,g4,g5,g6⟩:=q1 i k hm
     exact ⟨j2,k2,g1,g2,g3,g4,g5,fun hh=>g6 (List.mem_cons_of_mem _ hh)⟩
   ·rcases List.mem_cons.1 hm with e | hm2
    ·obtain ⟨rfl,rfl⟩:=Prod.mk.inj e
     rcases List.mem_cons.1 hm' with e' | hm2'
     ·exact (Prod.mk.inj e').1.symm
     ·obtain ⟨j2,k2,g1,g2,g3,g4,g5,g6⟩:=q1 i' k2' hm2'
      rw [hj] at e1; cases e1
      rw [e2] at g1; cases g1
      exact absurd (List.mem_cons_self ..) g6
    ·rcases List.mem_cons.1 hm' with e' | hm2'
     ·obtain ⟨rfl,rfl⟩:=Prod.mk.inj e'
      obtain ⟨j2,k2,g1,g2,g3,g4,g5,g6⟩:=q1 i k hm2
      rw [hj] at e2; cases e2
      rw [e1] at g1; cases g1
      exact absurd (List.mem_cons_self ..) g6
     ·exact q2 i k i' k2' j' hm2 hm2' e1 e2
  ·cases h
theorem insK_ok {nB nx:Nat} : ∀ {σ : Sg},insK nB nx σ = true → ∀ i x,lkS σ i = some x → nB ≤ i ∧ (i < nx ∨ SB ≤ i)
 | [],_,i,x,h=>by cases h
 | (j,y) :: σ,h,i,x,hl=>by
  simp only [insK,Bool.and_eq_true,Bool.or_eq_true] at h
  simp only [lkS] at hl
  split at hl
  ·rename_i hb
   obtain rfl:=nbeq hb
   refine ⟨Nat.le_of_ble_eq_true h.1.1,?_⟩
   rcases h.1.2 with h1 | h1
   ·exact .inl (Nat.le_of_ble_eq_true h1)
   ·exact .inr (Nat.le_of_ble_eq_true h1)
  ·exact insK_ok h.2 i x hl
section
variable {P:Program} {GE:Env → Prop} [hGE : GEok P GE] {nB B:Nat} {w0:World}
theorem insS_K {σ : Sg} {κ : Kn} {s:St} {t:Pat} (h:insS nB σ κ t s = true) : insK nB t.nx σ = true:=by
 simp only [insS,Bool.and_eq_true] at h
 exact h.1.1
theorem glob_envS {nx:Nat} {σ : Sg} {ν : Env} (hg:P.globals.size ≤ nB) (hK:insK nB nx σ = true) (h:GlobE P ν) : GlobE P (envS nB σ ν):=by
 intro g hgg
 obtain ⟨sz,hsz⟩:=h g hgg
 refine ⟨sz,?_⟩
 unfold envS
 cases hl : lkS σ g with
 | some x=>have:=(insK_ok hK g x hl).1; omega
 | none=>show (if g < nB then ν g else none) = _; rw [if_pos (by omega)]; exact hsz
theorem ins_ok {GE2:Env → Prop} {ν : Env} {σ : Sg} {κ : Kn} {s:St} {t:Pat} {a:Act} {w:World} (hκ : KnOk nB σ κ ν) (hs:StR P GE nB B w0 ν s a w) (hG:GE2 (envS nB σ ν)) (h:insS nB σ κ t s = true) : StR P GE2 nB B w0 (envS nB σ ν) (stOf s.nt t) a w ∧ Free (envS nB σ ν) t.nx:=by
 simp only [insS,Bool.and_eq_true] at h
 obtain ⟨⟨h1,h2⟩,h3,h4⟩:=h
 have hK:=insK_ok h1
 obtain ⟨hD,hI⟩:=insD_ok h3
 have h2':=Nat.le_of_ble_eq_true h2
 refine ⟨⟨fun i k _ hk=>?_,fun i k l _ hi hk hl=>?_,fun i j ki kj li lj hi hj hli hlj he=>?_,fun i k hk=>?_,hG,hs.below,fun i x hx=>?_,hs.sz,hs.df,fun i hi=>by cases hi⟩,fun i hi hSB=>?_⟩
 ·obtain ⟨j,k',g1,g2,g3,_⟩:=hD i k (hpOf_get hk)
  obtain ⟨l,q1,q2⟩:=hs.hr j k' trivial g2
  exact ⟨l,by rw [srcB_ok g1]; exact q1,insB_ok hκ g3 q2⟩
 ·obtain ⟨j,k',g1,g2,g3,g4,g5,_⟩:=hD i k (hpOf_get hk)
  rw [srcB_ok g1] at hl
  exact hs.low j k' l trivial (g5 hi) g2 hl
 ·obtain ⟨j1,k1,g1,g2,_⟩:=hD i ki (hpOf_get hi)
  obtain ⟨j2,k2,q1,q2,_⟩:=hD j kj (hpOf_get hj)
  rw [srcB_ok g1] at hli
  rw [srcB_ok q1] at hlj
  have:=hs.inj j1 j2 k1 k2 li lj g2 q2 hli hlj he
  subst this
  exact hI i ki j kj j1 (hpOf_get hi) (hpOf_get hj) g1 q1
 ·obtain ⟨j,k',g1,g2,g3,g4,_⟩:=hD i k (hpOf_get hk)
  exact g4
 ·obtain ⟨y,g1,g2⟩:=insT_ok h4 i x (trOf_get hx)
  exact insV_ok hκ g2 (hs.tr i y g1)
 ·unfold envS
  cases hl : lkS σ i with
  | some x=>have:=(hK i x hl).2; omega
  | none=>show (if i < nB then ν i else none) = none; rw [if_neg (by omega)]
def exB : Ex → Ex → Bool
 | .normal,.normal=>true
 | .exit i,.exit j=>Nat.beq i j
 | .ret,.ret=>true
 | _,_=>false
theorem exB_ok {x y:Ex} (h:exB x y = true) : x = y:=by
 cases x <;> cases y <;> simp only [exB] at h <;> first | rfl | (cases h; done) | rw [nbeq h]
def okS (nB:Nat) (σ : Sg) (κ : Kn) (t:Pat) (x:Ex) (nx:Nat) : Option (Ex × St) → Bool
 | some (y,s)=>(exB y x && (Nat.ble s.nx SB && Nat.ble nx s.nx)) && insS nB σ κ t s
 | none=>false
theorem stretch {GE2:Env → Prop} {callf:FuncId → List LV → Hp → Nat → Option Out} (hm:P.follows .mixedOrders = true) (hc:EvOk P GE nB B w0 callf) (hB:B ≤ w0.heap.size) {n:Nat} {c:Code} {s:St} {t:Pat} {σ : Sg} {x:Ex} (h:okS nB σ ⟨[],[]⟩ t x s.nx (evCQ P nB callf n c s) = true)
  (hG:∀ ν',GE ν' → insK nB t.nx σ = true → GE2 (envS nB σ ν')) {ν : Env} {a:Act} {w:World} (hs:StR P GE nB B w0 ν s a w) (hf:Free ν s.nx) : c.wp P (fun e a' w'=>e = exR x ∧ ∃ ν',StR P GE2 nB B w0 ν' (stOf s.nt t) a' w' ∧ Free ν' t.nx) a w:=by
 rw [evCQ_eq,evCK_eq] at h
 cases hev : evC P nB callf n c s with
 | none=>rw [hev] at h; cases h
 | some r =>
  obtain ⟨y,s'⟩:=r
  rw [hev] at h
  simp only [okS,Bool.and_eq_true] at h
  obtain ⟨⟨h1,h2,h3⟩,h4⟩:=h
  obtain rfl:=exB_ok h1
  refine wp_mono ((code_all hm hc hB n).1 c s s' y hev ν a w hs (fun i q1 q2=>hf i q1 (by have:=Nat.le_of_ble_eq_true h2; omega))) ?_
  rintro e a' w' ⟨rfl,ν',g1,g2⟩
  have:=ins_ok (KnOk.nil _ _ _) g1 (hG ν' g1.glob (insS_K h4)) h4
  rw [g2.nt] at this
  exact ⟨rfl,_,this⟩
end
end Go.Proofs.YtjpfhhndjpdmoaaGreatDoor

namespace Go.Proofs.YtjpfhhndjpdmoaaGreatDoor
open Go.RowKit
set_option linter.unusedVariables false
set_option linter.unusedSectionVars false
set_option linter.unusedSimpArgs false
set_option autoImplicit false

namespace Cd
def isSeq : Code → Bool | .seq _ _=>true | _=>false
def isLoop : Code → Bool | .loop _=>true | _=>false
def isBlock : Code → Bool | .block _ _=>true | _=>false
def isCond : Code → Bool | .cond _ _ _=>true | _=>false
def a : Code → Code
 | .seq a _=>a
 | .loop a=>a
 | .block _ a=>a
 | .cond _ a _=>a
 | c=>c
def b : Code → Code
 | .seq _ b=>b
 | .cond _ _ b=>b
 | c=>c
def id : Code → Nat
 | .block i _=>i
 | _=>0
def drop : Nat → Code → Code
 | 0,c=>b c
 | n + 1,c=>drop n (b c)
def bodyOf (P:Program) (f:FuncId) : Code:=match P.funcs[f]? with
 | some fn=>match fn.body with
  | some c=>c
  | none=>.skip
 | none=>.skip
end Cd
section
variable {P:Program}
theorem wpSeq {c:Code} {Q:Exit → Act → World → Prop} {a:Act} {w:World} (h:Cd.isSeq c = true) (hw:(Cd.a c).wp P (Exit.then ((Cd.b c).wp P Q) Q) a w) : c.wp P Q a w:=by
 cases c <;> first | (exact wp_seq hw) | (cases h)
theorem wpLoop {c:Code} {Q:Exit → Act → World → Prop} {a:Act} {w:World} (h:Cd.isLoop c = true) (hw:LoopW P (Cd.a c) Q a w) : c.wp P Q a w:=by
 cases c <;> first | (exact wp_of_loopW hw) | (cases h)
theorem wpBlock {c:Code} {Q:Exit → Act → World → Prop} {a:Act} {w:World} (h:Cd.isBlock c = true) (hw:(Cd.a c).wp P (fun e a w=>match e with | .exit i=>if i = Cd.id c then Q .normal a w else Q (.exit i) a w | e=>Q e a w) a w) : c.wp P Q a w:=by
 cases c <;> first | (cases h; done) | skip
 rename_i i c
 apply wp_block
 refine wp_mono hw ?_
 intro e a w hq
 cases e <;> first | exact hq | skip
variable {GE:Env → Prop} [hGE : GEok P GE] {nB B:Nat} {w0:World}
def EndT (P:Program) (GE:Env → Prop) (nB B:Nat) (w0:World) (rs:List ResultVar) : Exit → Act → World → Prop:=fun e a' w'=>(e = .normal ∨ e = .ret) ∧ ∃ ν' s',StR P GE nB B w0 ν' s' a' w' ∧ resL P s'.T s'.H rs = some [.v (.bool true)]
theorem law_wp {f:FuncId} {fn:Func} {c:Code} (hfn:P.funcs[f]? = some fn) (hbody:fn.body = some c) {vs:List Value} {w:World}
  (h:c.wp P (EndT P GE nB B w0 fn.results.toList) { tmps:=vs.toArray ++ Array.replicate (fn.ntmps - vs.toArray.size) undef,defers:=[] } w) : Calls P f vs.toArray w (fun e w'=>e = .returned (.bool true) ∧ Below B w0 w'):=by
 refine calls_of_wp hfn hbody (wp_mono h ?_)
 rintro e a' w' ⟨he,ν',s',hs,hr⟩
 obtain ⟨v,hv,hvv⟩:=results_ok hs hr
 have hv' : v = .bool true:=by
  simp only [oneL,VR] at hvv
  exact hvv.1
 subst hv'
 rcases he with rfl | rfl
 ·exact ⟨hs.df,_,hv,rfl,hs.below⟩
 ·exact ⟨hs.df,_,hv,rfl,hs.below⟩
theorem entry {args:List LV} {vs:List Value} {H:Hp} {nx nt:Nat} {ν : Env} {w:World} (hv:VRs ν args vs) (hH:HRF ν H none w) (hlow:LowF nB B ν H none) (hinj:InjH ν H) (hid:∀ i k,H.get i = some k → i < nx) (hg:GE ν) (hb:Below B w0 w) :
  StR P GE nB B w0 ν ⟨args.length + (nt - args.length),argsT 0 args .nil,H,nx,[]⟩ { tmps:=vs.toArray ++ Array.replicate (nt - vs.toArray.size) undef,defers:=[] } w:=by
 have hlen:=hv.length
 refine ⟨hH,hlow,hinj,hid,hg,hb,fun t l ht=>?_,by simp [hlen],rfl,fun i hi=>by cases hi⟩
 simp only at ht
 rw [argsT_get] at ht
 split at ht
 ·rename_i hc
  obtain ⟨y,hy,hvv⟩:=hv.get t l (by simpa using ht)
  have hlt : t < vs.length:=(List.getElem?_eq_some_iff.1 hy).1
  simp only [Array.getD_eq_getD_getElem?]
  rw [Array.getElem?_append_left (by simpa using hlt)]
  simp only [List.getElem?_toArray,hy,Option.getD_some]
  exact hvv
 ·rw [Tr.get_nil] at ht; cases ht
def okE (P:Program) (nx:Nat) (rs:List ResultVar) : Option (Ex × St) → Bool
 | some (.normal,s) | some (.ret,s)=>(Nat.ble s.nx SB && Nat.ble nx s.nx) && (match resL P s.T s.H rs with | some [.v (.bool true)]=>true | _=>false)
 | _=>false
theorem stretchE {callf:FuncId → List LV → Hp → Nat → Option Out} (hm:P.follows .mixedOrders = true) (hc:EvOk P GE nB B w0 callf) (hB:B ≤ w0.heap.size) {n:Nat} {c:Code} {s:St} {rs:List ResultVar} (h:okE P s.nx rs (evCQ P nB callf n c s) = true)
  {ν : Env} {a:Act} {w:World} (hs:StR P GE nB B w0 ν s a w) (hf:Free ν s.nx) : c.wp P (EndT P GE nB B w0 rs) a w:=by
 rw [evCQ_eq,evCK_eq] at h
 cases hev : evC P nB callf n c s with
 | none=>rw [hev] at h; cases h
 | some r =>
  obtain ⟨y,s'⟩:=r
  rw [hev] at h
  have key : ∀ (h2:Nat.ble s'.nx SB = true) (h3:(match resL P s'.T s'.H rs with | some [.v (.bool true)]=>true | _=>false) = true) (hy:exR y = .normal ∨ exR y = .ret),c.wp P (EndT P GE nB B w0 rs) a w:=by
   intro h2 h3 hy
   refine wp_mono ((code_all hm hc hB n).1 c s s' y hev ν a w hs (fun i q1 q2=>hf i q1 (by have:=Nat.le_of_ble_eq_true h2; omega))) ?_
   rintro e a' w' ⟨rfl,ν',g1,g2⟩
   refine ⟨hy,ν',s',g1,?_⟩
   split at h3
   ·rename_i e; exact e
   ·cases h3
  cases y with
  | normal =>
   simp only [okE,Bool.and_eq_true] at h
   exact key h.1.1 h.2 (.inl rfl)
  | ret =>
   simp only [okE,Bool.and_eq_true] at h
   exact key h.1.1 h.2 (.inr rfl)
  | exit i=>simp [okE] at h
noncomputable def evPre (P:Program) (nB:Nat) (callf:FuncId → List LV → Hp → Nat → Option Out) (lf:Nat) : Nat → Code → St → Option (Ex × St)
 | 0,c,s=>match Cd.isSeq c with
  | true=>match evCQ P nB callf lf (Cd.a c) s with
   | some (.normal,s')=>some (.normal,s')
   | _=>none
  | false=>none
 | n + 1,c,s=>match Cd.isSeq c with
  | true=>match evCQ P nB callf lf (Cd.a c) s with
   | some (.normal,s')=>evPre P nB callf lf n (Cd.b c) s'
   | _=>none
  | false=>none
theorem evPre_ok {callf:FuncId → List LV → Hp → Nat → Option Out} (hm:P.follows .mixedOrders = true) (hc:EvOk P GE nB B w0 callf) (hB:B ≤ w0.heap.size) {lf:Nat} {Q:Exit → Act → World → Prop} : ∀ (n:Nat) (c:Code) (s s':St) (x:Ex),evPre P nB callf lf n c s = some (x,s') →
  s.nx ≤ s'.nx ∧ ∀ {ν : Env} {a:Act} {w:World},StR P GE nB B w0 ν s a w → (∀ i,s.nx ≤ i → i < s'.nx → ν i = none) → (∀ a' w' ν',StR P GE nB B w0 ν' s' a' w' → s'.nt = s.nt → (Cd.drop n c).wp P Q a' w') → c.wp P Q a w
 | 0,c,s,s',x,h=>by
  simp only [evPre] at h
  split at h
  ·rename_i hq
   split at h
   ·rename_i s1 h1
    cases h
    rw [evCQ_eq,evCK_eq] at h1
    refine ⟨evC_mono h1,fun {ν a w} hs hf hK=>?_⟩
    refine wpSeq hq (wp_mono ((code_all hm hc hB lf).1 _ s _ .normal h1 ν a w hs hf) ?_)
    rintro e a' w' ⟨rfl,ν',g1,g2⟩
    exact hK a' w' ν' g1 g2.nt
   ·cases h
  ·cases h
 | n + 1,c,s,s',x,h=>by
  simp only [evPre] at h
  split at h
  ·rename_i hq
   split at h
   ·rename_i s1 h1
    rw [evCQ_eq,evCK_eq] at h1
    have m1:=evC_mono h1
    obtain ⟨m2,ih⟩:=evPre_ok hm hc hB (Q:=Q) n (Cd.b c) s1 s' x h
    refine ⟨Nat.le_trans m1 m2,fun {ν a w} hs hf hK=>?_⟩
    refine wpSeq hq (wp_mono ((code_all hm hc hB lf).1 _ s _ .normal h1 ν a w hs (fun i q1 q2=>hf i q1 (by omega))) ?_)
    rintro e a' w' ⟨rfl,ν',g1,g2⟩
    exact ih g1 (free_of g2 m2 hf) (fun a2 w2 ν2 q1 q2=>hK a2 w2 ν2 q1 (q2.trans g2.nt))
   ·cases h
  ·cases h
theorem pre_ok {GE2:Env → Prop} {callf:FuncId → List LV → Hp → Nat → Option Out} (hm:P.follows .mixedOrders = true) (hc:EvOk P GE nB B w0 callf) (hB:B ≤ w0.heap.size) {lf n:Nat} {c:Code} {s:St} {t:Pat} {σ : Sg} (h:okS nB σ ⟨[],[]⟩ t .normal s.nx (evPre P nB callf lf n c s) = true)
  (hG:∀ ν',GE ν' → insK nB t.nx σ = true → GE2 (envS nB σ ν')) {Q:Exit → Act → World → Prop} {ν : Env} {a:Act} {w:World} (hs:StR P GE nB B w0 ν s a w) (hf:Free ν s.nx)
  (hK:∀ a' w' ν',StR P GE2 nB B w0 ν' (stOf s.nt t) a' w' → Free ν' t.nx → (Cd.drop n c).wp P Q a' w') : c.wp P Q a w:=by
 cases hev : evPre P nB callf lf n c s with
 | none=>rw [hev] at h; cases h
 | some r =>
  obtain ⟨y,s'⟩:=r
  rw [hev] at h
  simp only [okS,Bool.and_eq_true] at h
  obtain ⟨⟨h1,h2,h3⟩,h4⟩:=h
  have h2':=Nat.le_of_ble_eq_true h2
  refine (evPre_ok hm hc hB n c s s' y hev).2 hs (fun i q1 q2=>hf i q1 (by omega)) (fun a' w' ν' g1 g2=>?_)
  have:=ins_ok (KnOk.nil _ _ _) g1 (hG ν' g1.glob (insS_K h4)) h4
  rw [g2] at this
  exact hK a' w' _ this.1 this.2
theorem StR.slots {GE2:Env → Prop} {ν ν' : Env} {s:St} {a:Act} {w:World} (hs:StR P GE nB B w0 ν s a w) (he:Ext ν ν') (hi:∀ i,i < s.nx → ν' i = ν i) (hG:GE2 ν') {T:List (Nat × LV)} (hT:∀ t x,(t,x) ∈ T → VR ν' x (a.tmps.getD t undef)) : StR P GE2 nB B w0 ν' ⟨s.nt,trOf T,s.H,s.nx,[]⟩ a w:=by
 refine ⟨fun i k hf hk=>?_,fun i k l hf h1 hk hl=>?_,fun i j ki kj li lj h1 h2 h3 h4 h5=>?_,hs.ids,hG,hs.below,fun t x hx=>hT t x (trOf_get hx),hs.sz,hs.df,fun i hi=>by cases hi⟩
 ·obtain ⟨l,q1,q2⟩:=hs.hr i k hf hk
  exact ⟨l,he i l q1,q2.ext he⟩
 ·rw [hi i (hs.ids i k hk)] at hl
  exact hs.low i k l hf h1 hk hl
 ·rw [hi i (hs.ids i ki h1)] at h3
  rw [hi j (hs.ids j kj h2)] at h4
  exact hs.inj i j ki kj li lj h1 h2 h3 h4 h5
end
end Go.Proofs.YtjpfhhndjpdmoaaGreatDoor
