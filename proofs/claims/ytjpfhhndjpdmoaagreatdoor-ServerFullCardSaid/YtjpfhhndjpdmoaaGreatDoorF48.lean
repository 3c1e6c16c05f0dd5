/- Part of the proof: ServerFull,Door,Laid,LaidP,LaidW. No conditions of its own. -/
import Derived.Test.YtjpfhhndjpdmoaaGreatDoorF38
import Derived.Test.YtjpfhhndjpdmoaaGreatDoorF39
import Derived.Test.YtjpfhhndjpdmoaaGreatDoorF40
import Derived.Test.YtjpfhhndjpdmoaaGreatDoorF41
import Derived.Test.YtjpfhhndjpdmoaaGreatDoorF42
import Derived.Test.YtjpfhhndjpdmoaaGreatDoorF43
import Derived.Test.YtjpfhhndjpdmoaaGreatDoorF44
import Derived.Test.YtjpfhhndjpdmoaaGreatDoorF45
import Derived.Test.YtjpfhhndjpdmoaaGreatDoorF46
import Derived.Test.YtjpfhhndjpdmoaaGreatDoorF47
import Derived.ChangeOld
import Derived.OpenShut
import Derived.ProofKit
import Derived.ShutString
import Derived.LaidMore
import Derived.Lay
import Derived.SevenTiedAt
import Derived.Stop.Joined
import Derived.LaidSub
import Derived.LaidHandle
namespace Go.Proofs.YtjpfhhndjpdmoaaGreatDoor
open Go.RowKit
set_option linter.unusedVariables false
set_option linter.unusedSimpArgs false

/-! ### what was reckoned,together -/
theorem fu_a (t:TypeId) (i:Nat) (h:i < 20) : fuAll1 t i = true:=by
 have e : ∀ b,b ≤ i → b + (i - b) = i:=fun b hb=>by omega
 by_cases h1 : i < 5
 ·have:=agUp_ok (fu_a0 t) i h1
  simp only [Nat.zero_add] at this
  exact this
 by_cases h2 : i < 10
 ·have:=agUp_ok (fu_a1 t) (i - 5) (by omega)
  simp only [e 5 (by omega)] at this
  exact this
 by_cases h3 : i < 15
 ·have:=agUp_ok (fu_a2 t) (i - 10) (by omega)
  simp only [e 10 (by omega)] at this
  exact this
 ·have:=agUp_ok (fu_a3 t) (i - 15) (by omega)
  simp only [e 15 (by omega)] at this
  exact this
theorem fu_bc (t:TypeId) (n:Nat) (h1:1 ≤ n) (h2:n ≤ 20) : (fuAll2 t n = true ∧ fuAll3 t n = true) ∧ (agUp 20 (fuAll4 n) = true ∧ agUp 19 (fuAll5 n) = true):=by
 have : n = 1 ∨ n = 2 ∨ n = 3 ∨ n = 4 ∨ n = 5 ∨ n = 6 ∨ n = 7 ∨ n = 8 ∨ n = 9 ∨ n = 10 ∨ n = 11 ∨ n = 12 ∨ n = 13 ∨ n = 14 ∨ n = 15 ∨ n = 16 ∨ n = 17 ∨ n = 18 ∨ n = 19 ∨ n = 20:=by omega
 rcases this with rfl | rfl | rfl | rfl | rfl | rfl | rfl | rfl | rfl | rfl | rfl | rfl | rfl | rfl | rfl | rfl | rfl | rfl | rfl | rfl
 ·exact ⟨⟨fu_b1 t,fu_c1 t⟩,fu_d1,fu_e1⟩
 ·exact ⟨⟨fu_b2 t,fu_c2 t⟩,fu_d2,fu_e2⟩
 ·exact ⟨⟨fu_b3 t,fu_c3 t⟩,fu_d3,fu_e3⟩
 ·exact ⟨⟨fu_b4 t,fu_c4 t⟩,fu_d4,fu_e4⟩
 ·exact ⟨⟨fu_b5 t,fu_c5 t⟩,fu_d5,fu_e5⟩
 ·exact ⟨⟨fu_b6 t,fu_c6 t⟩,fu_d6,fu_e6⟩
 ·exact ⟨⟨fu_b7 t,fu_c7 t⟩,fu_d7,fu_e7⟩
 ·exact ⟨⟨fu_b8 t,fu_c8 t⟩,fu_d8,fu_e8⟩
 ·exact ⟨⟨fu_b9 t,fu_c9 t⟩,fu_d9,fu_e9⟩
 ·exact ⟨⟨fu_b10 t,fu_c10 t⟩,fu_d10,fu_e10⟩
 ·exact ⟨⟨fu_b11 t,fu_c11 t⟩,fu_d11,fu_e11⟩
 ·exact ⟨⟨fu_b12 t,fu_c12 t⟩,fu_d12,fu_e12⟩
 ·exact ⟨⟨fu_b13 t,fu_c13 t⟩,fu_d13,fu_e13⟩
 ·exact ⟨⟨fu_b14 t,fu_c14 t⟩,fu_d14,fu_e14⟩
 ·exact ⟨⟨fu_b15 t,fu_c15 t⟩,fu_d15,fu_e15⟩
 ·exact ⟨⟨fu_b16 t,fu_c16 t⟩,fu_d16,fu_e16⟩
 ·exact ⟨⟨fu_b17 t,fu_c17 t⟩,fu_d17,fu_e17⟩
 ·exact ⟨⟨fu_b18 t,fu_c18 t⟩,fu_d18,fu_e18⟩
 ·exact ⟨⟨fu_b19 t,fu_c19 t⟩,fu_d19,fu_e19⟩
 ·exact ⟨⟨fu_b20 t,fu_c20 t⟩,fu_d20,fu_e20⟩

/-! ### the numbers -/
def fuZ (z:Int) : Int:=IntKind.i64.wrap (1 + IntKind.i64.wrap ((IntKind.u64.wrap z).tmod 20))
def fuZm (z:Int) : Int:=IntKind.i64.wrap ((IntKind.u64.wrap z).tmod 5)
theorem fuZ_ok (z:Int) : ∃ n : Nat,fuZ z = (n:Int) ∧ 1 ≤ n ∧ n ≤ 20:=by
 obtain ⟨h1,h2⟩:=ag_mod z 20 (by omega) (by omega)
 unfold fuZ
 have e1 : IntKind.i64.wrap ((IntKind.u64.wrap z).tmod 20) = (IntKind.u64.wrap z).tmod 20:=by rw [IntKind.wrap_i64]; omega
 rw [e1]
 have e2 : IntKind.i64.wrap (1 + (IntKind.u64.wrap z).tmod 20) = 1 + (IntKind.u64.wrap z).tmod 20:=by rw [IntKind.wrap_i64]; omega
 rw [e2]
 exact ⟨(1 + (IntKind.u64.wrap z).tmod 20).toNat,by omega,by omega,by omega⟩
theorem fuZm_ok (z:Int) : ∃ n : Nat,fuZm z = (n:Int) ∧ n ≤ 4:=by
 obtain ⟨h1,h2⟩:=ag_mod z 5 (by omega) (by omega)
 unfold fuZm
 have e1 : IntKind.i64.wrap ((IntKind.u64.wrap z).tmod 5) = (IntKind.u64.wrap z).tmod 5:=by rw [IntKind.wrap_i64]; omega
 rw [e1]
 exact ⟨((IntKind.u64.wrap z).tmod 5).toNat,by omega,by omega⟩
/-! ### the beginning -/
def fuTl : List (Nat × LV):=[(8,.ptr 4554 0),(9,.v (.bool true))]
def fuPatC : Pat:=⟨fuTl,(4554,⟨30,true,false,agCfg⟩) :: agCD,4555⟩
def fuSgC : Sg:=agSelf [4554,4551,3088,4552,1628] []
def fuSgD : Sg:=agSelf [1000000,1000001,1000002,1000003,1000004,4554,4551,3088,4552,1628] []
def fuS0 (t1 t2 t3 t4 t5 t6 t7:TypeId) (a b c:Int) : St:=⟨146,argsT 0 [.v (.int .i64 a),.v (.int .i64 b),.v (.int .i64 c)] .nil,GH t1 t2 t3 t4 t5 t6 t7,GN,[]⟩
set_option maxRecDepth 100000 in
theorem fu_preC (t1 t2 t3 t4 t5 t6 t7:TypeId) (a b c:Int) : okS GN fuSgC ⟨[],[]⟩ fuPatC .normal GN (evPre Tryz.prog GN cfT4 100000 1 fuB (fuS0 t1 t2 t3 t4 t5 t6 t7 a b c)) = true:=by kernel_rfl
def fuK0 (a b c:Int) : List (Nat × Value):=[(0,.int .i64 a),(1,.int .i64 b),(2,.int .i64 c)]
set_option maxRecDepth 100000 in
theorem fu_preT (t1 t2 t3 t4 t5 t6 t7:TypeId) (a b c:Int) : ((evPre Tryz.prog GN cfT4 100000 1 fuB (fuS0 t1 t2 t3 t4 t5 t6 t7 a b c)).map fun r=>(fuK0 a b c).map fun q=>r.2.T.get q.1) = some ((fuK0 a b c).map fun q=>some (.v q.2)):=by kernel_rfl
noncomputable def fuC1 : Code:=Cd.drop 1 fuB
noncomputable def fuC2 : Code:=Cd.b fuC1
def fuK1 (a b c:Int) : List (Nat × LV):=(0,.v (.int .i64 a)) :: (1,.v (.int .i64 b)) :: (2,.v (.int .i64 c)) :: fuTl
theorem fu_num (cf:FuncId → List LV → Hp → Nat → Option Out) (H:Hp) (a b c:Int) : ((evC Tryz.prog GN cf 9 (Cd.a fuC1) ⟨146,trOf (fuK1 a b c),H,4555,[]⟩).map fun r=>(exB r.1 .normal,(fuK1 (fuZ a) (fuZ b) (fuZm c)).map (fun q=>r.2.T.get q.1),r.2.nx,r.2.nt)) = some (true,(fuK1 (fuZ a) (fuZ b) (fuZm c)).map (fun q=>some q.2),4555,146):=by kernel_rfl
theorem fu_numH (cf:FuncId → List LV → Hp → Nat → Option Out) (H:Hp) (a b c:Int) : ((evC Tryz.prog GN cf 9 (Cd.a fuC1) ⟨146,trOf (fuK1 a b c),H,4555,[]⟩).map fun r=>r.2.H) = some H:=by kernel_rfl
def fuT2 : List (Nat × LV):=(0,fuN 1 20) :: (1,fuY) :: (2,fuM) :: fuTl
def fuPat0 : Pat:=⟨[(0,fuN 1 20),(1,fuY),(2,fuM),(10,.ptr 4581 0)],fuD (fuN 1 20) fuY 0,6000⟩
noncomputable def fuPre (t:TypeId) : Bool:=okS GN (fuSgI 0) ⟨[],[]⟩ fuPat0 .normal 4555 (evPre Tryz.prog GN cfT4 1000 1 fuC2 ⟨146,trOf fuT2,(hpOf fuPatC.D).set gS (some ⟨t,true,false,q32 startS⟩),4555,[]⟩)
theorem fu_pre (t:TypeId) : fuPre t = true:=by kernel_rfl
noncomputable def fuPre1 : Bool:=okS GN (fuSgI 0) ⟨[],[]⟩ (fuPat 0 20 0) .normal 6000 (evPre Tryz.prog GN cfT4 1000 0 (Cd.a fuC3) (stOf 146 fuPat0))
theorem fu_pre1 : fuPre1 = true:=by kernel_rfl
theorem fuPC_ge : (fuPatC.D.all fun p=>Nat.ble GN p.1) = true:=by kernel_rfl
section
variable {w:World} (hW:HashW w) (hC:CurveW w) (hO:OldW w) (hE:ErrW w) {n L m:Nat} (hn1:1 ≤ n) (hn2:n ≤ 20) (hL1:1 ≤ L) (hL2:L ≤ 20) (hm2:m ≤ 4)
include hW hC hO hE hn1 hn2 hL1 hL2 hm2
omit hm2 in
theorem full_c {ν8 : Env} {a8:Act} {w8:World} (hs8:FuR w (fuL0 n L m) ν8 (stOf 146 (fuPat2 n (n + m))) a8 w8) (hf8:Free ν8 6000) : fuC4.wp Tryz.prog (EndT Tryz.prog AgG GN w.heap.size w Tryz.f9.results.toList) a8 w8:=by
 have hE4:=evT4_ok (GE:=FuG (fuL0 n L m)) hW hC hO hE
 -- the first talk's end
 have q0:=hs8.tr 0 (goI n) rfl
 have q1:=hs8.tr 1 fuY rfl
 have q10:=hs8.tr 10 (.ptr 4581 0) rfl
 have hs9:=hs8.slots (GE2:=FuG (fuL0 n L m)) (ν':=ν8) (T:=[(0,goI n),(1,fuY),(10,.ptr 4581 0)]) (fun _ _ h=>h) (fun _ _=>rfl) hs8.glob (fun t z hz=>by
  simp only [List.mem_cons,List.not_mem_nil,or_false,Prod.mk.injEq] at hz
  rcases hz with ⟨rfl,rfl⟩ | ⟨rfl,rfl⟩ | ⟨rfl,rfl⟩
  ·exact q0
  ·exact q1
  ·exact q10)
 obtain ⟨t',hs10⟩:=fu_with hW hs9 (fuPat2_ge n n hn2)
 have hall:=(fu_bc t' n hn1 hn2).1.2
 unfold fuAll3 at hall
 simp only [Bool.and_eq_true] at hall
 obtain ⟨⟨hnak,htk0⟩,_⟩:=hall
 unfold fuNak at hnak
 refine pre_ok (GE:=FuG (fuL0 n L m)) (GE2:=FuG (fuL3 n L)) (callf:=cfT4) (lf:=1000) (n:=1) (c:=fuC4) (s:=fuSt t' [(0,goI n),(1,fuY),(10,.ptr 4581 0)] (fuPat2 n n).D) (t:=fuPat4 n 0 fuY []) (σ:=fuSg4 n) (by kernel_rfl) hE4 (Nat.le_refl _) hnak (fun ν' g1 g2=>fuG_env g1 g2 (fun ν hG q hq=>by
  simp only [fuL3,List.mem_cons,List.not_mem_nil,or_false] at hq
  rcases hq with rfl | rfl | rfl
  ·exact (envS_num (j:=1000000) (by kernel_rfl) ν).trans (hG.at_ (1000000,n) (by simp [fuL0]))
  ·exact (envS_num (j:=1000001) (by kernel_rfl) ν).trans (hG.at_ (1000001,L) (by simp [fuL0]))
  ·exact (envS_num (j:=1000004) (by kernel_rfl) ν).trans (hG.at_ (1000004,L - 1) (by simp [fuL0])))) hs10 hf8 (fun a11 w11 ν11 hs11 hf11=>?_)
 show fuC5.wp Tryz.prog _ a11 w11
 refine wpSeq (c:=fuC5) (by kernel_rfl) ?_
 unfold fuTick0 at htk0
 have hE5:=evT4_ok (GE:=FuG (fuL3 n L)) hW hC hO hE
 refine pre_ok (GE:=FuG (fuL3 n L)) (GE2:=FuG (fuL3 n L)) (callf:=cfT4) (lf:=1000) (n:=0) (c:=Cd.a fuC5) (s:=stOf 146 (fuPat4 n 0 fuY [])) (t:=fuPat4 n 0 fuY [(15,goI 0)]) (σ:=fuSg5 n) (by kernel_rfl) hE5 (Nat.le_refl _) htk0 (fun ν' g1 g2=>fuG_env g1 g2 (fu_self3 n L n _ rfl)) hs11 hf11 (fun a12 w12 ν12 hs12 hf12=>?_)
 refine wpBlock (by kernel_rfl) (wpLoop (by kernel_rfl) ?_)
 have hd : ∀ k,k < 20 → fuAll4 n k = true:=fun k hk=>agUp_ok (fu_bc t' n hn1 hn2).2.1 k hk
 refine fu_ticks hW hC hO hE hn2 hL1 hL2 (Q:=_) hd (fun k hk=>agUp_ok (fu_bc t' n hn1 hn2).2.2 k hk) (fun ν13 a13 w13 hs13 hf13=>?_) (L - 1) 0 (by omega) _ a12 w12 hs12 hf12
 show (if 2 = Cd.id (Cd.drop 0 (Cd.a fuC5)) then _ else _)
 rw [if_pos (by kernel_rfl)]
 exact fu_end hW hC hO hE hn2 hL1 hL2 hd (fun t=>by
  have:=(fu_bc t n hn1 hn2).1.2
  unfold fuAll3 at this
  simp only [Bool.and_eq_true] at this
  exact this.2) hs13 hf13
theorem full_b {ν5 : Env} {a2:Act} {w2:World} (hs4:FuR w (fuL0 n L m) ν5 ⟨146,trOf fuT2,hpOf fuPatC.D,4555,[]⟩ a2 w2) (hf4:Free ν5 4555) : fuC2.wp Tryz.prog (EndT Tryz.prog AgG GN w.heap.size w Tryz.f9.results.toList) a2 w2:=by
 have hE4:=evT4_ok (GE:=FuG (fuL0 n L m)) hW hC hO hE
 have hself : ∀ ν,FuG (fuL0 n L m) ν → ∀ q ∈ fuL0 n L m,envS GN (fuSgI 0) ν q.1 = some ⟨q.2,0,0⟩:=fu_self n L m 0 _ (.inl rfl) rfl
 obtain ⟨t,hs5⟩:=fu_withN (nx:=4555) hW hs4 fuPC_ge (by decide)
 have hp:=fu_pre t
 unfold fuPre at hp
 refine pre_ok (GE:=FuG (fuL0 n L m)) (GE2:=FuG (fuL0 n L m)) (callf:=cfT4) (lf:=1000) (n:=1) (c:=fuC2) (s:=⟨146,trOf fuT2,(hpOf fuPatC.D).set gS (some ⟨t,true,false,q32 startS⟩),4555,[]⟩) (t:=fuPat0) (σ:=fuSgI 0) (by kernel_rfl) hE4 (Nat.le_refl _) hp (fun ν' g1 g2=>fuG_env g1 g2 hself) hs5 hf4 (fun a6 w6 ν6 hs6 hf6=>?_)
 show fuC3.wp Tryz.prog _ a6 w6
 refine wpSeq (c:=fuC3) (by kernel_rfl) ?_
 have hp1:=fu_pre1
 unfold fuPre1 at hp1
 refine pre_ok (GE:=FuG (fuL0 n L m)) (GE2:=FuG (fuL0 n L m)) (callf:=cfT4) (lf:=1000) (n:=0) (c:=Cd.a fuC3) (s:=stOf 146 fuPat0) (t:=fuPat 0 20 0) (σ:=fuSgI 0) (by kernel_rfl) hE4 (Nat.le_refl _) hp1 (fun ν' g1 g2=>fuG_env g1 g2 hself) hs6 hf6 (fun a7 w7 ν7 hs7 hf7=>?_)
 refine wpBlock (by kernel_rfl) (wpLoop (by kernel_rfl) ?_)
 refine fu_loop1 hW hC hO hE hn2 hm2 hL1 hL2 (Q:=_) (fun t i hi=>fu_a t i hi) (fun t=>(fu_bc t n hn1 hn2).1.1) (fun ν8 a8 w8 hs8 hf8=>?_) n 0 (by omega) ν7 a7 w7 hs7 hf7
 show (if 0 = Cd.id (Cd.drop 0 (Cd.a fuC3)) then _ else _)
 rw [if_pos (by kernel_rfl)]
 exact full_c hW hC hO hE hn1 hn2 hL1 hL2 hs8 hf8
end
theorem full_law (a b c:Int) (wa:(Lit.int .i64 a).wf = true) (wb:(Lit.int .i64 b).wf = true) (wc:(Lit.int .i64 c).wf = true) (w:World) (hW:HashW w) (hC:CurveW w) (hO:OldW w) (hE:ErrW w) : Calls Tryz.prog fuF #[.int .i64 a,.int .i64 b,.int .i64 c] w fun e w'=>e = .returned (.bool true) ∧ Below w.heap.size w w':=by
 obtain ⟨t1,t2,t3,t4,t5,t6,t7,hg⟩:=grows hW hC
 refine law_wp (nB:=GN) (B:=w.heap.size) (w0:=w) (GE:=AgG) (c:=fuB) Tryz.func9 (by kernel_rfl) (vs:=[.int .i64 a,.int .i64 b,.int .i64 c]) ?_
 have hs:=start hg (l:=[]) (nt:=Tryz.f9.ntmps) (N:=146) (args:=[.v (.int .i64 a),.v (.int .i64 b),.v (.int .i64 c)]) (vs:=[.int .i64 a,.int .i64 b,.int .i64 c]) (by kernel_rfl) (VRs.cons_iff.2 ⟨_,_,rfl,by simp [VR,plainV],VRs.cons_iff.2 ⟨_,_,rfl,by simp [VR,plainV],VRs.cons_iff.2 ⟨_,_,rfl,by simp [VR,plainV],VRs.nil_iff.2 rfl⟩⟩⟩)
 have hf:=nuS_free (t1:=t1) (t2:=t2) (t3:=t3) (t4:=t4) (t5:=t5) (t6:=t6) (t7:=t7) []
 have hgS:=gS_lt
 have hs0:=hs.env (GE2:=AgG) (fun _ _ h=>h) (fun _ _=>rfl) ⟨hs.glob,by
  unfold nuS
  rw [if_pos hgS]
  unfold nu0
  rw [if_pos hgS]
  rfl⟩
 have hEG:=evT4_ok (GE:=AgG) hW hC hO hE
 refine pre_okK (w0:=w) (GE:=AgG) (GE2:=AgG) hEG (lf:=100000) (n:=1) (c:=fuB) (s:=fuS0 t1 t2 t3 t4 t5 t6 t7 a b c) (t:=fuPatC) (σ:=fuSgC) (fu_preC t1 t2 t3 t4 t5 t6 t7 a b c) (fu_preT t1 t2 t3 t4 t5 t6 t7 a b c) (fun ν' g1 g2=>agG_env g1 g2) hs0 hf (fun a1 w1 ν1 hs1 hf1 hK=>?_)
 show fuC1.wp Tryz.prog _ a1 w1
 have k0:=hK (0,.int .i64 a) (by simp [fuK0])
 have k1:=hK (1,.int .i64 b) (by simp [fuK0])
 have k2:=hK (2,.int .i64 c) (by simp [fuK0])
 have hs2:=hs1.slots (GE2:=AgG) (ν':=envS GN fuSgC ν1) (T:=fuK1 a b c) (fun _ _ h=>h) (fun _ _=>rfl) hs1.glob (fun t z hz=>by
  simp only [fuK1,List.mem_cons,Prod.mk.injEq] at hz
  rcases hz with ⟨rfl,rfl⟩ | ⟨rfl,rfl⟩ | ⟨rfl,rfl⟩ | hz
  ·rw [k0]; simp [VR,plainV]
  ·rw [k1]; simp [VR,plainV]
  ·rw [k2]; simp [VR,plainV]
  ·have e : ∀ t z,(t,z) ∈ fuTl → (trOf fuTl).get t = some z:=fun t z hm=>by
    simp only [fuTl,List.mem_cons,List.not_mem_nil,or_false,Prod.mk.injEq] at hm
    rcases hm with ⟨rfl,rfl⟩ | ⟨rfl,rfl⟩ <;> rfl
   exact hs1.tr t z (e t z hz))
 refine one_K (w0:=w) (GE:=AgG) hEG (lf:=9) (c:=fuC1) (s:=⟨146,trOf (fuK1 a b c),hpOf fuPatC.D,4555,[]⟩) (by kernel_rfl) (K:=fuK1 (fuZ a) (fuZ b) (fuZm c)) (fu_num _ _ a b c) (fu_numH _ _ a b c) hs2 (fun a2 w2 hs3=>?_)
 show fuC2.wp Tryz.prog _ a2 w2
 obtain ⟨n,hn,hn1,hn2⟩:=fuZ_ok a
 obtain ⟨L,hL,hL1,hL2⟩:=fuZ_ok b
 obtain ⟨m,hm,hm2⟩:=fuZm_ok c
 have u0:=hs3.tr 0 (.v (.int .i64 (fuZ a))) rfl
 have u1:=hs3.tr 1 (.v (.int .i64 (fuZ b))) rfl
 have u2:=hs3.tr 2 (.v (.int .i64 (fuZm c))) rfl
 simp only [VR] at u0 u1 u2
 rw [hn] at u0
 rw [hL] at u1
 rw [hm] at u2
 -- the names
 have hsb : SB = 1000000:=rfl
 have hnone : ∀ k,SB ≤ k → envS GN fuSgC ν1 k = none:=fun k hk=>by
  have e : ∀ j,j < 1000000 → Nat.beq j k = false:=fun j hj=>by
   cases hb : Nat.beq j k with
   | false=>rfl
   | true=>have:=nbeq hb; omega
  have hl : lkS fuSgC k = none:=by
   simp only [fuSgC,agSelf,lkS]
   rw [e _ (by omega),e _ (by omega),e _ (by omega),e _ (by omega),e _ (by omega)]
  have hGN : GN < 1000000:=by decide
  unfold envS
  rw [hl]
  show (if k < GN then ν1 k else none) = none
  rw [if_neg (by omega)]
 have hlow : ∀ p ∈ fuL0 n L m,SB ≤ p.1:=fun p hp=>by
  simp only [fuL0,List.mem_cons,List.not_mem_nil,or_false] at hp
  rcases hp with rfl | rfl | rfl | rfl | rfl
  ·show SB ≤ 1000000; omega
  ·show SB ≤ 1000001; omega
  ·show SB ≤ 1000002; omega
  ·show SB ≤ 1000003; omega
  ·show SB ≤ 1000004; omega
 have hx:=fuSet_ext (ν:=envS GN fuSgC ν1) (l:=fuL0 n L m) (fun p hp=>hnone _ (hlow p hp))
 have hlo:=fuSet_low (ν:=envS GN fuSgC ν1) hlow
 have hG4 : FuG (fuL0 n L m) (fuSet (envS GN fuSgC ν1) (fuL0 n L m)):=⟨GEok.mono (P:=Tryz.prog) _ _ hx hs3.glob,fun q hq=>by
  simp only [fuL0,List.mem_cons,List.not_mem_nil,or_false] at hq
  rcases hq with rfl | rfl | rfl | rfl | rfl
  ·show fuSet _ (fuL0 n L m) 1000000 = some ⟨n,0,0⟩; rfl
  ·show fuSet _ (fuL0 n L m) 1000001 = some ⟨L,0,0⟩; rfl
  ·show fuSet _ (fuL0 n L m) 1000002 = some ⟨m,0,0⟩; rfl
  ·show fuSet _ (fuL0 n L m) 1000003 = some ⟨n + m,0,0⟩; rfl
  ·show fuSet _ (fuL0 n L m) 1000004 = some ⟨L - 1,0,0⟩; rfl⟩
 have hs4:=hs3.slots (GE2:=FuG (fuL0 n L m)) (ν':=fuSet (envS GN fuSgC ν1) (fuL0 n L m)) (T:=fuT2) hx (fun i hi=>hlo i (Nat.lt_of_lt_of_le hi (by show 4555 ≤ SB; omega))) hG4 (fun t z hz=>by
  simp only [fuT2,List.mem_cons,Prod.mk.injEq] at hz
  rcases hz with ⟨rfl,rfl⟩ | ⟨rfl,rfl⟩ | ⟨rfl,rfl⟩ | hz
  ·rw [u0.1]; exact fu_sym (n:=n) (by simp [fuL0]) hn1 hn2 (by omega) _ hG4
  ·rw [u1.1]; exact fu_sym (n:=L) (by simp [fuL0]) hL1 hL2 (by omega) _ hG4
  ·rw [u2.1]; exact fu_sym (n:=m) (by simp [fuL0]) (Nat.zero_le _) hm2 (by omega) _ hG4
  ·have e : ∀ t z,(t,z) ∈ fuTl → (trOf (fuK1 (fuZ a) (fuZ b) (fuZm c))).get t = some z:=fun t z hm=>by
    simp only [fuTl,List.mem_cons,List.not_mem_nil,or_false,Prod.mk.injEq] at hm
    rcases hm with ⟨rfl,rfl⟩ | ⟨rfl,rfl⟩ <;> rfl
   exact VR.ext hx _ _ (hs3.tr t z (e t z hz)))
 have hf4 : Free (fuSet (envS GN fuSgC ν1) (fuL0 n L m)) 4555:=fun i g1 g2=>by rw [hlo i g2]; exact hf1 i g1 g2
 exact full_b hW hC hO hE hn1 hn2 hL1 hL2 hm2 hs4 hf4
end Go.Proofs.YtjpfhhndjpdmoaaGreatDoor

namespace Go.Proofs.YtjpfhhndjpdmoaaGreatDoor
open Go.RowKit

section
variable {H:Type} {enc:TypeId × Value → H} {P:Program} {w:World} {base:Nat} {spare:Nat → Bool} {held:Bool}
end
end Go.Proofs.YtjpfhhndjpdmoaaGreatDoor

/- A slice of bytes that came in as a cell of a struct. -/
namespace Go.Proofs.YtjpfhhndjpdmoaaGreatDoor
open Go.RowKit
section
variable {H:Type} {enc:TypeId × Value → H} {P:Program} {w:World} {held:Bool}
end
end Go.Proofs.YtjpfhhndjpdmoaaGreatDoor

namespace Go.Proofs.YtjpfhhndjpdmoaaGreatDoor
open Go.RowKit

theorem laid_row {P:Program} {W:World} {nm:String} {g:Nat} {cs:Array Value} {vs:List Value} {ps:List MemPlace} (hg:P.globalNamed nm = some g) (hv:W.var? P nm = some cs) (hcs:cs.toList = vs) (hpos:0 < vs.length)
  (hm:∀ b off,MemPlace.cell b off ∈ ps → (∃ c t,W.heap[b]? = some (.cells c t (0,0)))) (hp:∀ x,x ∈ MemPlace.row ⟨g,0,none⟩ cs.size → x ∈ ps) : ∃ t,Row W g t vs.toArray:=by
 have hsz : 0 < cs.size:=by rw [← Array.length_toList,hcs]; exact hpos
 obtain ⟨c,t,hh⟩:=hm g 0 (hp _ (List.mem_map.2 ⟨0,List.mem_range.2 hsz,by simp⟩))
 simp only [World.var?,hg,Option.bind_some,hh,Option.some.injEq] at hv
 subst hv
 refine ⟨t,.of_heap ?_⟩
 rw [hh,← hcs]
def numsOf {H:Type} : List (DataW H) → List Int
 | []=>[]
 | .lit (.int _ z) :: r=>z :: numsOf r
 | _ :: r=>numsOf r
def partsOf {H:Type} : DataW H → List (DataW H)
 | .agg l=>l
 | _=>[]
abbrev hashLaid : List (String × DataW Unit):=[("tollgate/hash.start",Rows.laid_tollgate_hash_start),("tollgate/hash.rounds",Rows.laid_tollgate_hash_rounds),("unicode/utf8.acceptRanges",Rows.laid_unicode_utf8_acceptRanges),("unicode/utf8.first",Rows.laid_unicode_utf8_first)]
theorem start_nums : (Rows.laid_tollgate_hash_start : DataW Unit) = .agg ((startS.map fun x=>(x.toNat : Int)).map fun z=>.lit (.int .u32 z)):=by kernel_rfl
theorem rounds_nums : (Rows.laid_tollgate_hash_rounds : DataW Unit) = .agg ((roundsS.map fun x=>(x.toNat : Int)).map fun z=>.lit (.int .u32 z)):=by kernel_rfl
end Go.Proofs.YtjpfhhndjpdmoaaGreatDoor

namespace Go.Proofs.YtjpfhhndjpdmoaaGreatDoor
open Go.RowKit
set_option linter.unusedVariables false

theorem laid_int {H:Type} {enc:TypeId × Value → H} {P:Program} {w:World} {base fuel n:Nat} {sp:Nat → Bool} {held:Bool} {t e:TypeId} {k:IntKind} {cs:List Value} {zs:List Int} {p:List MemPlace}
  (ht:P.underlying t = some (.array n e)) (he:P.underlying e = some (.int k)) (hc:P.cellsOf e = 1) (hct:P.cellsOf t = n)
  (h:DataW.trod enc P w base sp held fuel t cs = some (.agg (zs.map fun z=>.lit (.int k z)),p)) : cs = zs.map (.int k):=by
 obtain ⟨xs,m,_,ex,hl,hxs,hel⟩:=DataW.trod_array ht h
 have e3 : xs.map (·.1) = zs.map fun z=>(DataW.lit (.int k z) : DataW H):=(DataW.agg.inj (Prod.mk.inj ex).1).symm
 have hz : zs.length = n:=by have:=congrArg List.length e3; simpa [hxs] using this.symm
 rw [hct] at hl
 apply List.ext_getElem (by simp; omega)
 intro i h1 h2
 have hi : i < n:=by omega
 have hE:=hel i hi
 rw [hc,Nat.mul_one,List.getElem?_eq_getElem (by omega)] at hE
 obtain ⟨z,e1,e2,_⟩:=DataW.trod_int he hE
 have e4:=congrArg (fun l:List (DataW H)=>l[i]?) e3
 simp only [List.getElem?_map] at e4
 rw [List.getElem?_eq_getElem (by omega:i < xs.length),List.getElem?_eq_getElem (by omega:i < zs.length),e2] at e4
 simp only [Option.map_some,Option.some.injEq,DataW.lit.injEq,Lit.int.injEq,true_and] at e4
 have h0 : ((cs.drop i).take 1)[0]? = some (.int k z):=by rw [e1]; rfl
 have h5 : cs[i]? = some (.int k z):=by simpa using h0
 rw [List.getElem?_eq_getElem h1] at h5
 rw [Option.some.inj h5,e4]
 simp
theorem laid_mem {P:Program} {W:World} : ∀ {l:List (String × DataW Unit)} {ps:List MemPlace},DataW.LaidVars P W l ps → ∀ (n:String) (d:DataW Unit),(n,d) ∈ l →
  ∃ g t cs fuel p,P.globalNamed n = some g ∧ (P.globals[g]?).map (·.type) = some t ∧ W.var? P n = some cs ∧ DataW.trod (fun _=>()) P W 0 (fun _=>true) false fuel t cs.toList = some (d,p) ∧ ∀ x ∈ MemPlace.row ⟨g,0,none⟩ cs.size,x ∈ ps
 | [],ps,h,n,d,hm=>by cases hm
 | (n',d') :: r,ps,h,n,d,hm=>by
  obtain ⟨g,t,cs,fuel,p,q,hg,ht,hv,hd,hr,hps⟩:=h
  rcases List.mem_cons.1 hm with e | hm
  ·obtain ⟨rfl,rfl⟩:=Prod.mk.inj e
   exact ⟨g,t,cs,fuel,p,hg,ht,hv,hd,fun x hx=>by rw [hps]; simp [hx]⟩
  ·obtain ⟨g2,t2,cs2,fuel2,p2,h1,h2,h3,h4,h5⟩:=laid_mem hr n d hm
   exact ⟨g2,t2,cs2,fuel2,p2,h1,h2,h3,h4,fun x hx=>by rw [hps]; simp [h5 x hx]⟩
theorem laid_nums {P:Program} {W:World} {l:List (String × DataW Unit)} (h:laidMetH P l W) {nm:String} {d:DataW Unit} {k:IntKind} {zs:List Int} {g n:Nat} {t e:TypeId} (hm:(nm,d) ∈ l) (hh:d.handleName?.isNone = true) (hd:d = .agg (zs.map fun z=>.lit (.int k z)))
  (hg:P.globalNamed nm = some g) (hty:(P.globals[g]?).map (·.type) = some t) (ht:P.underlying t = some (.array n e)) (he:P.underlying e = some (.int k)) (hc:P.cellsOf e = 1) (hct:P.cellsOf t = n) (hpos:0 < zs.length) : ∃ t,Row W g t (zs.map (.int k)).toArray:=by
 obtain ⟨⟨ps,hL,_,hM⟩,_⟩:=laidMetH_iff.1 h
 obtain ⟨g2,t2,cs,fuel,p,h1,h2,h3,h4,h5⟩:=laid_mem hL nm d (List.mem_filter.2 ⟨hm,hh⟩)
 obtain rfl:=Option.some.inj (hg.symm.trans h1)
 obtain rfl:=Option.some.inj (hty.symm.trans h2)
 rw [hd] at h4
 exact laid_row hg h3 (laid_int ht he hc hct h4) (by simpa using hpos) (fun b off hb=>(hM b off hb).1) h5
theorem nums64 (l:List Nat) : ((l.map fun (q:Nat)=>(q:Int)).map (.int .u64)) = l.map Q:=by rw [List.map_map]; rfl
theorem prime_nums : (Rows.laid_tollgate_curve_prime : DataW Unit) = .agg (((nL P256).map fun (q:Nat)=>(q:Int)).map fun z=>.lit (.int .u64 z)):=by kernel_rfl
theorem order_nums : (Rows.laid_tollgate_curve_order : DataW Unit) = .agg (((nL N256).map fun (q:Nat)=>(q:Int)).map fun z=>.lit (.int .u64 z)):=by kernel_rfl
theorem coeff_nums : (Rows.laid_tollgate_curve_coeff : DataW Unit) = .agg (((nL B256).map fun (q:Nat)=>(q:Int)).map fun z=>.lit (.int .u64 z)):=by kernel_rfl
theorem baseX_nums : (Rows.laid_tollgate_curve_baseX : DataW Unit) = .agg (((nL GX).map fun (q:Nat)=>(q:Int)).map fun z=>.lit (.int .u64 z)):=by kernel_rfl
theorem baseY_nums : (Rows.laid_tollgate_curve_baseY : DataW Unit) = .agg (((nL GY).map fun (q:Nat)=>(q:Int)).map fun z=>.lit (.int .u64 z)):=by kernel_rfl
theorem peer_laid {W:World} {l:List (String × DataW Unit)} (h:laidMetH Tryz.prog l W)
  (m1:("tollgate/hash.start",Rows.laid_tollgate_hash_start) ∈ l) (m2:("tollgate/hash.rounds",Rows.laid_tollgate_hash_rounds) ∈ l) (m3:("tollgate/curve.prime",Rows.laid_tollgate_curve_prime) ∈ l) (m4:("tollgate/curve.order",Rows.laid_tollgate_curve_order) ∈ l)
  (m5:("tollgate/curve.coeff",Rows.laid_tollgate_curve_coeff) ∈ l) (m6:("tollgate/curve.baseX",Rows.laid_tollgate_curve_baseX) ∈ l) (m7:("tollgate/curve.baseY",Rows.laid_tollgate_curve_baseY) ∈ l) : HashW W ∧ CurveW W:=by
 refine ⟨⟨?_,?_⟩,⟨?_,?_,?_,?_,?_⟩⟩
 ·obtain ⟨t,ht⟩:=laid_nums h m1 (by kernel_rfl) start_nums (show _ = some 8 by kernel_rfl) (show _ = some 298 by kernel_rfl) Tryz.underlying298 Tryz.underlying210 (by kernel_rfl) (by kernel_rfl) (by decide)
  exact ⟨t,by rw [List.map_map] at ht; exact ht⟩
 ·obtain ⟨t,ht⟩:=laid_nums h m2 (by kernel_rfl) rounds_nums (show _ = some 10 by kernel_rfl) (show _ = some 276 by kernel_rfl) Tryz.underlying276 Tryz.underlying210 (by kernel_rfl) (by kernel_rfl) (by decide)
  exact ⟨t,by rw [List.map_map] at ht; exact ht⟩
 ·obtain ⟨t,ht⟩:=laid_nums h m4 (by kernel_rfl) order_nums (show _ = some 1 by kernel_rfl) (show _ = some 177 by kernel_rfl) Tryz.underlying177 Tryz.underlying49 (by kernel_rfl) (by kernel_rfl) (by simp [nL])
  exact ⟨t,by rw [nums64] at ht; exact ht⟩
 ·obtain ⟨t,ht⟩:=laid_nums h m6 (by kernel_rfl) baseX_nums (show _ = some 2 by kernel_rfl) (show _ = some 177 by kernel_rfl) Tryz.underlying177 Tryz.underlying49 (by kernel_rfl) (by kernel_rfl) (by simp [nL])
  exact ⟨t,by rw [nums64] at ht; exact ht⟩
 ·obtain ⟨t,ht⟩:=laid_nums h m7 (by kernel_rfl) baseY_nums (show _ = some 3 by kernel_rfl) (show _ = some 177 by kernel_rfl) Tryz.underlying177 Tryz.underlying49 (by kernel_rfl) (by kernel_rfl) (by simp [nL])
  exact ⟨t,by rw [nums64] at ht; exact ht⟩
 ·obtain ⟨t,ht⟩:=laid_nums h m3 (by kernel_rfl) prime_nums (show _ = some 6 by kernel_rfl) (show _ = some 177 by kernel_rfl) Tryz.underlying177 Tryz.underlying49 (by kernel_rfl) (by kernel_rfl) (by simp [nL])
  exact ⟨t,by rw [nums64] at ht; exact ht⟩
 ·obtain ⟨t,ht⟩:=laid_nums h m5 (by kernel_rfl) coeff_nums (show _ = some 7 by kernel_rfl) (show _ = some 177 by kernel_rfl) Tryz.underlying177 Tryz.underlying49 (by kernel_rfl) (by kernel_rfl) (by simp [nL])
  exact ⟨t,by rw [nums64] at ht; exact ht⟩
end Go.Proofs.YtjpfhhndjpdmoaaGreatDoor

namespace Go.Proofs.YtjpfhhndjpdmoaaGreatDoor
open Go.RowKit
set_option linter.unusedVariables false

theorem laidMet_layW {P:Program} {w0:World} {laid:List (String × DataW Unit)} (args:Array Value) (hf:w0.layFits P laid [] = true) (hi:w0.layIfaces P laid (w0.layVars P laid) = true) : laidMet P laid ((w0.layVars P laid).forCall (fun _ _=>0) ⟨#[],args,[]⟩).memory:=by
 have e1 : (laid.filter fun x=>(laid.map (·.1)).contains x.1) = laid:=List.filter_eq_self.2 fun x hx=>List.contains_iff_mem.2 (List.mem_map.2 ⟨x,hx,rfl⟩)
 have e2 : (laid.filter fun x=>!(laid.map (·.1)).contains x.1) = []:=List.filter_eq_nil_iff.2 fun x hx=>by rw [List.contains_iff_mem.2 (List.mem_map.2 ⟨x,hx,rfl⟩)]; simp
 have h : laidMet P laid (w0.layVars P laid):=laidMet_layVars (w0:=w0) (laid.map (·.1)) [] (by rw [e1]) (by rw [e1]; exact hf) (by rw [e1]; exact hi) (by rw [e2]; exact LaidIn.none)
 exact h.of_heap (by simp [World.memory,World.forCall,Input.heap])
noncomputable def errTy : Nat:=((List.range Tryz.prog.types.size).filter fun t=>Tryz.prog.rowNamed t [101,114,114,111,114]).headD 0
noncomputable def errU : Nat:=((Tryz.prog.cutTypes.find? (·.1 == "internal/reflectlite.rtype")).map (·.2)).getD 0
noncomputable def errWorld (os:Os) : World :=
 let w0:=World.holding Tryz.prog os ⟨#[],#[],[]⟩
 { w0 with heap:=w0.heap.modify 0 fun
   | .cells _ t frozen=>.cells #[.iface errU (.agg #[typeHandle Tryz.prog errTy])] t frozen
   | o=>o }
noncomputable def peerWorld (os:Os) (l:List (String × DataW Unit)) : World:=(errWorld os).layVars Tryz.prog (l.filter fun x=>x.2.handleName?.isNone)
theorem peerWorld_os (os:Os) (l:List (String × DataW Unit)) : (peerWorld os l).os = os:=World.layVars_os _ _ _
end Go.Proofs.YtjpfhhndjpdmoaaGreatDoor
