/- Part of the proof: ServerAgain,Door,Laid,LaidP,LaidW. No conditions of its own. -/
import Derived.Test.YtjpfhhndjpdmoaaGreatDoorS42
import Derived.Test.YtjpfhhndjpdmoaaGreatDoorS43
import Derived.Test.YtjpfhhndjpdmoaaGreatDoorS44
import Derived.Test.YtjpfhhndjpdmoaaGreatDoorS45
import Derived.Test.YtjpfhhndjpdmoaaGreatDoorS46
import Derived.Test.YtjpfhhndjpdmoaaGreatDoorS47
import Derived.Test.YtjpfhhndjpdmoaaGreatDoorS48
import Derived.ChangeOld
import Derived.OpenShut
import Derived.ProofKit
import Derived.ShutString
import Derived.LaidMore
import Derived.Lay
import Derived.SevenTiedAt
import Derived.Stop.Joined
import Derived.LaidSub
import Derived.LaidHandle
namespace Go.Proofs.YtjpfhhndjpdmoaaGreatDoor
open Go.RowKit
set_option linter.unusedVariables false
set_option linter.unusedSimpArgs false

/-! ### what was reckoned,together -/
theorem oneTo {p:Nat → Prop} (h1:p 1) (h2:p 2) (h3:p 3) (h4:p 4) (h5:p 5) (h6:p 6) (h7:p 7) (h8:p 8) (a:Nat) (ha:1 ≤ a) (hb:a ≤ 8) : p a:=by
 have : a = 1 ∨ a = 2 ∨ a = 3 ∨ a = 4 ∨ a = 5 ∨ a = 6 ∨ a = 7 ∨ a = 8:=by omega
 rcases this with rfl | rfl | rfl | rfl | rfl | rfl | rfl | rfl <;> assumption
theorem ag_pre (t:TypeId) : ∀ a,1 ≤ a → a ≤ 8 → agPre t a = true:=oneTo (ag_pre1 t) (ag_pre2 t) (ag_pre3 t) (ag_pre4 t) (ag_pre5 t) (ag_pre6 t) (ag_pre7 t) (ag_pre8 t)
theorem ag_preb : ∀ a,1 ≤ a → a ≤ 8 → agPre1 a = true:=oneTo ag_preb1 ag_preb2 ag_preb3 ag_preb4 ag_preb5 ag_preb6 ag_preb7 ag_preb8
theorem ag_rnd (t:TypeId) : ∀ a,1 ≤ a → a ≤ 8 → agUp 15 (agRnd t a) = true:=oneTo (ag_rnd1 t) (ag_rnd2 t) (ag_rnd3 t) (ag_rnd4 t) (ag_rnd5 t) (ag_rnd6 t) (ag_rnd7 t) (ag_rnd8 t)
theorem ag_ext : ∀ a,1 ≤ a → a ≤ 8 → agUp 16 (agExt a) = true:=oneTo ag_ext1 ag_ext2 ag_ext3 ag_ext4 ag_ext5 ag_ext6 ag_ext7 ag_ext8
theorem ag_end (t:TypeId) : ∀ a,1 ≤ a → a ≤ 8 → agUp 16 (agEnd t a) = true:=oneTo (ag_end1 t) (ag_end2 t) (ag_end3 t) (ag_end4 t) (ag_end5 t) (ag_end6 t) (ag_end7 t) (ag_end8 t)

/-! ### the numbers -/
def AgG (ν : Env) : Prop:=GlobE Tryz.prog ν ∧ ν gS = some ⟨gS,8,0⟩
instance agG_ok : GEok Tryz.prog AgG:=⟨fun ν ν' h hG=>⟨(globOk Tryz.prog).mono ν ν' h hG.1,h _ _ hG.2⟩,fun _ h=>h.1⟩
theorem gS_lt : gS < GN:=by decide
theorem agG_env {nx:Nat} {ν : Env} {σ : Sg} (h:AgG ν) (hK:insK GN nx σ = true) : AgG (envS GN σ ν):=by
 refine ⟨glob_envS (Nat.le_of_ble_eq_true (by kernel_rfl)) hK h.1,?_⟩
 have hg:=gS_lt
 unfold envS
 cases hl : lkS σ gS with
 | some x=>have:=(insK_ok hK gS x hl).1; omega
 | none=>show (if gS < GN then ν gS else none) = _; rw [if_pos hg]; exact h.2
abbrev AgR (w0:World) (ν : Env) (s:St) (a:Act) (w:World) : Prop:=StR Tryz.prog AgG GN w0.heap.size w0 ν s a w
section
variable {w0 w:World} {ν : Env} {act:Act}
theorem ag_with {T:List (Nat × LV)} {Ds:List (Nat × Blk)} {nx:Nat} (hW:HashW w0) (hs:AgR w0 ν ⟨136,trOf T,hpOf Ds,nx,[]⟩ act w) (hD:∀ p ∈ Ds,GN ≤ p.1) (hnx:GN ≤ nx) : ∃ t,AgR w0 ν (agSt t T Ds nx) act w:=by
 have hg:=gS_lt
 have hW' : HashW w:=hW.below hs.below
 obtain ⟨t,ht⟩:=hW'.starts
 have hlt : gS < w0.heap.size:=hW.start.lt
 have hge : ∀ i k,(hpOf Ds).get i = some k → GN ≤ i:=fun i k hk=>hD _ (hpOf_get hk)
 have key : ∀ i k,(agSt t T Ds nx).H.get i = some k → (i = gS ∧ k = ⟨t,true,false,q32 startS⟩) ∨ (i ≠ gS ∧ (hpOf Ds).get i = some k):=fun i k hk=>by
  simp only [agSt] at hk
  rw [Tr.get_set] at hk
  split at hk
  ·rename_i e; cases hk; exact .inl ⟨e,rfl⟩
  ·rename_i e; exact .inr ⟨e,hk⟩
 refine ⟨t,⟨fun i k hf hk=>?_,fun i k l hf hi hk hl=>?_,fun i j ki kj li lj hi hj hli hlj he=>?_,fun i k hk=>?_,hs.glob,hs.below,hs.tr,hs.sz,hs.df,hs.wrs⟩⟩
 ·rcases key i k hk with ⟨rfl,rfl⟩ | ⟨_,hk'⟩
  ·exact ⟨_,hs.glob.2,row_blk (vs:=startS.map D) ht (q32_vrs _) (q32_one _)⟩
  ·exact hs.hr i k hf hk'
 ·rcases key i k hk with ⟨rfl,rfl⟩ | ⟨_,hk'⟩
  ·omega
  ·exact hs.low i k l hf hi hk' hl
 ·rcases key i ki hi with ⟨rfl,rfl⟩ | ⟨e1,h1⟩
  ·rcases key j kj hj with ⟨rfl,rfl⟩ | ⟨e2,h2⟩
   ·rfl
   ·have:=hs.low j kj lj trivial (hge j kj h2) h2 hlj
    rw [hs.glob.2] at hli; cases hli
    simp only at he
    omega
  ·rcases key j kj hj with ⟨rfl,rfl⟩ | ⟨e2,h2⟩
   ·have:=hs.low i ki li trivial (hge i ki h1) h1 hli
    rw [hs.glob.2] at hlj; cases hlj
    simp only at he
    omega
   ·exact hs.inj i j ki kj li lj h1 h2 hli hlj he
 ·rcases key i k hk with ⟨rfl,rfl⟩ | ⟨_,hk'⟩
  ·show gS < nx; omega
  ·exact hs.ids i k hk'
end
theorem agKd_ge : ∀ n f,∀ p ∈ agKd f n,GN ≤ p.1
 | 0,f,p,h=>by cases h
 | n + 1,f,p,h=>by
  simp only [agKd,List.mem_cons] at h
  rcases h with rfl | rfl | h
  ·show 13 ≤ _; omega
  ·show 13 ≤ _; omega
  ·exact agKd_ge n (f + 1) p h
theorem agCD_ge : ∀ p ∈ agCD,GN ≤ p.1:=by
 have h : agCD.all (fun p=>Nat.ble GN p.1) = true:=by kernel_rfl
 intro p hp
 exact Nat.le_of_ble_eq_true (List.all_eq_true.1 h p hp)
theorem agD_ge (a i:Nat) : ∀ p ∈ agD a i,GN ≤ p.1:=by
 intro p h
 simp only [agD,List.mem_cons,List.mem_append] at h
 rcases h with rfl | rfl | rfl | rfl | rfl | rfl | h | h
 ·show 13 ≤ 4581; omega
 ·show 13 ≤ 4580; omega
 ·show 13 ≤ 4614; omega
 ·show 13 ≤ 5478; omega
 ·show 13 ≤ 5007; omega
 ·show 13 ≤ 5476; omega
 ·exact agCD_ge p h
 ·exact agKd_ge _ _ p h
theorem agPC_ge : ∀ p ∈ agPatC.D,GN ≤ p.1:=by
 intro p h
 simp only [agPatC,List.mem_cons] at h
 rcases h with rfl | h
 ·show 13 ≤ 4554; omega
 ·exact agCD_ge p h
section
variable {w0 w:World} {ν : Env} {act:Act}
theorem ag_re {a i:Nat} {x y:LV} (hs:AgR w0 ν (stOf 136 (agPat a i x)) act w) (hy:VR ν y (act.tmps.getD 1 undef)) : AgR w0 ν (stOf 136 (agPat a i y)) act w:=by
 have h0:=hs.tr 0 (goI a) rfl
 have h8:=hs.tr 8 (.ptr 4581 0) rfl
 have h10:=hs.tr 10 (.buf 4614 0 46 1) rfl
 have h11:=hs.tr 11 (.buf 5478 0 56 1) rfl
 have h12:=hs.tr 12 (goI i) rfl
 exact hs.slots (GE2:=AgG) (ν':=ν) (T:=agT a y [(12,goI i)]) (fun _ _ h=>h) (fun _ _=>rfl) hs.glob (fun t z hz=>by
  simp only [agT,List.mem_cons,List.not_mem_nil,or_false,Prod.mk.injEq] at hz
  rcases hz with ⟨rfl,rfl⟩ | ⟨rfl,rfl⟩ | ⟨rfl,rfl⟩ | ⟨rfl,rfl⟩ | ⟨rfl,rfl⟩ | ⟨rfl,rfl⟩
  ·exact h0
  ·exact hy
  ·exact h8
  ·exact h10
  ·exact h11
  ·exact h12)
theorem ag_sym {lo hi b:Nat} {v:Value} (h:VR ν (.sym b .i64 lo hi []) v) : ∃ n : Nat,v = .int .i64 (n:Int) ∧ lo ≤ n ∧ n ≤ hi ∧ ∀ lo' hi',lo' ≤ n → n ≤ hi' → hi' ≤ 1000 → VR ν (.sym b .i64 lo' hi' []) v:=by
 simp only [VR] at h
 obtain ⟨l,h1,h2,h3,h4,_⟩:=h
 refine ⟨l.addr,h2,h3,h4,fun lo' hi' g1 g2 g3=>?_⟩
 simp only [VR]
 exact ⟨l,h1,h2,g1,g2,Nat.le_trans g3 (by decide),fun c hc=>by cases hc⟩
theorem ag_lit {n:Nat} {v:Value} (h:v = .int .i64 (n:Int)) : VR ν (goI n) v:=by
 subst h
 exact goI_ok n
end
section
variable {w0:World} (hW:HashW w0) (hC:CurveW w0) (hO:OldW w0)
include hW hC hO
theorem ag_body {t:TypeId} {a i:Nat} (h:agRnd t a i = true) {ν : Env} {act:Act} {w:World} (hs:AgR w0 ν (agSt t (agT a (agX (i + 1) 15) [(12,goI i)]) (agD a i) 6000) act w) (hf:Free ν 6000) : agL.wp Tryz.prog (fun e a' w'=>e = .normal ∧ ∃ ν',AgR w0 ν' (stOf 136 (agPat a (i + 1) (agX (i + 1) 15))) a' w' ∧ Free ν' 6000) act w:=by
 unfold agRnd at h
 exact stretch (GE:=AgG) (GE2:=AgG) (n:=1000) (c:=agL) (s:=agSt t (agT a (agX (i + 1) 15) [(12,goI i)]) (agD a i) 6000) (t:=agPat a (i + 1) (agX (i + 1) 15)) (σ:=agSgR a i) (x:=.normal) (by kernel_rfl) (evT3_ok hW hC hO) (Nat.le_refl _) h (fun ν' h1 h2=>agG_env h1 h2) hs hf
theorem ag_leave {a i:Nat} (h:agExt a i = true) {ν : Env} {act:Act} {w:World} (hs:AgR w0 ν (stOf 136 (agPat a i (agX i i))) act w) (hf:Free ν 6000) : agL.wp Tryz.prog (fun e a' w'=>e = .exit 0 ∧ ∃ ν',AgR w0 ν' (stOf 136 (agPat a i (agX i i))) a' w' ∧ Free ν' 6000) act w:=by
 unfold agExt at h
 exact stretch (GE:=AgG) (GE2:=AgG) (n:=1000) (c:=agL) (s:=stOf 136 (agPat a i (agX i i))) (t:=agPat a i (agX i i)) (σ:=agSgI i) (x:=.exit 0) (by kernel_rfl) (evT3_ok hW hC hO) (Nat.le_refl _) h (fun ν' h1 h2=>agG_env h1 h2) hs hf
theorem ag_loop {Q:Exit → Act → World → Prop} {a:Nat} (ha:1 ≤ a) (hb:a ≤ 8) (hQ:∀ t i ν act w,i < 16 → AgR w0 ν (agSt t (agT a (goI i) [(12,goI i)]) (agD a i) 6000) act w → Free ν 6000 → Q (.exit 0) act w) : ∀ d i,i + d = 15 → ∀ ν act w,AgR w0 ν (stOf 136 (agPat a i (agX i 15))) act w → Free ν 6000 → LoopW Tryz.prog agL Q act w:=by
 intro d
 induction d with
 | zero =>
  intro i hi ν act w hs hf
  obtain ⟨n,hn,h1,h2,h3⟩:=ag_sym (hs.tr 1 (agX i 15) rfl)
  obtain rfl : n = i:=by omega
  refine loopW_round (wp_mono (ag_leave hW hC hO (agUp_ok (ag_ext a ha hb) n (by omega)) (ag_re hs (h3 n n (Nat.le_refl _) (Nat.le_refl _) (by omega))) hf) ?_)
  rintro e a' w' ⟨rfl,ν',g1,g2⟩
  obtain ⟨m,hm,k1,k2,_⟩:=ag_sym (g1.tr 1 (agX n n) rfl)
  obtain rfl : m = n:=by omega
  obtain ⟨t,ht⟩:=ag_with hW (ag_re g1 (ag_lit hm)) (agD_ge a m) (show GN ≤ 6000 by decide)
  exact hQ t m _ _ _ (by omega) ht g2
 | succ d ih =>
  intro i hi ν act w hs hf
  obtain ⟨n,hn,h1,h2,h3⟩:=ag_sym (hs.tr 1 (agX i 15) rfl)
  by_cases e : n = i
  ·subst e
   refine loopW_round (wp_mono (ag_leave hW hC hO (agUp_ok (ag_ext a ha hb) n (by omega)) (ag_re hs (h3 n n (Nat.le_refl _) (Nat.le_refl _) (by omega))) hf) ?_)
   rintro e a' w' ⟨rfl,ν',g1,g2⟩
   obtain ⟨m,hm,k1,k2,_⟩:=ag_sym (g1.tr 1 (agX n n) rfl)
   obtain rfl : m = n:=by omega
   obtain ⟨t,ht⟩:=ag_with hW (ag_re g1 (ag_lit hm)) (agD_ge a m) (show GN ≤ 6000 by decide)
   exact hQ t m _ _ _ (by omega) ht g2
  ·obtain ⟨t,ht⟩:=ag_with hW (ag_re hs (h3 (i + 1) 15 (by omega) h2 (by omega))) (agD_ge a i) (show GN ≤ 6000 by decide)
   refine loopW_round (wp_mono (ag_body hW hC hO (agUp_ok (ag_rnd t a ha hb) i (by omega)) ht hf) ?_)
   rintro e a' w' ⟨rfl,ν',g1,g2⟩
   exact ih (i + 1) (by omega) _ _ _ g1 g2
end
/-! ### the beginning -/
def agZ0 (z:Int) : Int:=IntKind.i64.wrap (1 + IntKind.i64.wrap ((IntKind.u64.wrap z).tmod 8))
def agZ1 (z:Int) : Int:=IntKind.i64.wrap ((IntKind.u64.wrap z).tmod 16)
theorem ag_mod (z k:Int) (hk:0 < k) (hk2:k ≤ 1000) : 0 ≤ (IntKind.u64.wrap z).tmod k ∧ (IntKind.u64.wrap z).tmod k < k:=by
 have h0 : 0 ≤ IntKind.u64.wrap z:=by
  unfold IntKind.wrap
  simp only [show IntKind.u64.signed = false from rfl,Bool.false_and,Bool.false_eq_true,if_false]
  exact Int.emod_nonneg _ (by decide)
 rw [Int.tmod_eq_emod_of_nonneg h0]
 exact ⟨Int.emod_nonneg _ (by omega),Int.emod_lt_of_pos _ hk⟩
theorem agZ0_ok (z:Int) : ∃ n : Nat,agZ0 z = (n:Int) ∧ 1 ≤ n ∧ n ≤ 8:=by
 obtain ⟨h1,h2⟩:=ag_mod z 8 (by omega) (by omega)
 unfold agZ0
 have e1 : IntKind.i64.wrap ((IntKind.u64.wrap z).tmod 8) = (IntKind.u64.wrap z).tmod 8:=by rw [IntKind.wrap_i64]; omega
 rw [e1]
 have e2 : IntKind.i64.wrap (1 + (IntKind.u64.wrap z).tmod 8) = 1 + (IntKind.u64.wrap z).tmod 8:=by rw [IntKind.wrap_i64]; omega
 rw [e2]
 exact ⟨(1 + (IntKind.u64.wrap z).tmod 8).toNat,by omega,by omega,by omega⟩
theorem agZ1_ok (z:Int) : ∃ n : Nat,agZ1 z = (n:Int) ∧ n ≤ 15:=by
 obtain ⟨h1,h2⟩:=ag_mod z 16 (by omega) (by omega)
 unfold agZ1
 have e1 : IntKind.i64.wrap ((IntKind.u64.wrap z).tmod 16) = (IntKind.u64.wrap z).tmod 16:=by rw [IntKind.wrap_i64]; omega
 rw [e1]
 exact ⟨((IntKind.u64.wrap z).tmod 16).toNat,by omega,by omega⟩
noncomputable def agHead (cf:FuncId → List LV → Hp → Nat → Option Out) (s:St) : Option (Ex × St):=match evC Tryz.prog GN cf 9 (Cd.a agB) s with
 | some (.normal,s1)=>evC Tryz.prog GN cf 9 (Cd.a (Cd.b agB)) s1
 | _=>none
def agS0 (t1 t2 t3 t4 t5 t6 t7:TypeId) (a b:Int) : St:=⟨136,argsT 0 [.v (.int .i64 a),.v (.int .i64 b)] .nil,GH t1 t2 t3 t4 t5 t6 t7,GN,[]⟩
def agHR (r:Option (Ex × St)) : Option (Bool × Option LV × Option LV × Nat × Nat):=r.map fun r=>(exB r.1 .normal,r.2.T.get 0,r.2.T.get 1,r.2.nx,r.2.nt)
theorem agHead_T (cf:FuncId → List LV → Hp → Nat → Option Out) (t1 t2 t3 t4 t5 t6 t7:TypeId) (a b:Int) : agHR (agHead cf (agS0 t1 t2 t3 t4 t5 t6 t7 a b)) = some (true,some (.v (.int .i64 (agZ0 a))),some (.v (.int .i64 (agZ1 b))),GN,136):=by kernel_rfl
theorem agHead_H (cf:FuncId → List LV → Hp → Nat → Option Out) (t1 t2 t3 t4 t5 t6 t7:TypeId) (a b:Int) : (agHead cf (agS0 t1 t2 t3 t4 t5 t6 t7 a b)).map (fun r=>r.2.H) = some (GH t1 t2 t3 t4 t5 t6 t7):=by kernel_rfl
theorem again_law (a b:Int) (wa:(Lit.int .i64 a).wf = true) (wb:(Lit.int .i64 b).wf = true) (w:World) (hW:HashW w) (hC:CurveW w) (hO:OldW w) : Calls Tryz.prog agF #[.int .i64 a,.int .i64 b] w fun e w'=>e = .returned (.bool true) ∧ Below w.heap.size w w':=by
 obtain ⟨t1,t2,t3,t4,t5,t6,t7,hg⟩:=grows hW hC
 refine law_wp (nB:=GN) (B:=w.heap.size) (w0:=w) (GE:=AgG) (c:=agB) Tryz.func7 (by kernel_rfl) (vs:=[.int .i64 a,.int .i64 b]) ?_
 have hs:=start hg (l:=[]) (nt:=Tryz.f7.ntmps) (N:=136) (args:=[.v (.int .i64 a),.v (.int .i64 b)]) (vs:=[.int .i64 a,.int .i64 b]) (by kernel_rfl) (VRs.cons_iff.2 ⟨_,_,rfl,by simp [VR,plainV],VRs.cons_iff.2 ⟨_,_,rfl,by simp [VR,plainV],VRs.nil_iff.2 rfl⟩⟩)
 have hf:=nuS_free (t1:=t1) (t2:=t2) (t3:=t3) (t4:=t4) (t5:=t5) (t6:=t6) (t7:=t7) []
 have hE:=evT3_ok (GE:=GlobE Tryz.prog) hW hC hO
 have hEG:=evT3_ok (GE:=AgG) hW hC hO
 have hT:=agHead_T cfT3 t1 t2 t3 t4 t5 t6 t7 a b
 have hH:=agHead_H cfT3 t1 t2 t3 t4 t5 t6 t7 a b
 unfold agHead at hT hH
 cases h1 : evC Tryz.prog GN cfT3 9 (Cd.a agB) (agS0 t1 t2 t3 t4 t5 t6 t7 a b) with
 | none=>rw [h1] at hT; cases hT
 | some r1 =>
  obtain ⟨x1,s1⟩:=r1
  rw [h1] at hT hH
  cases x1 with
  | exit i=>cases hT
  | ret=>cases hT
  | normal =>
   simp only at hT hH
   cases h2 : evC Tryz.prog GN cfT3 9 (Cd.a (Cd.b agB)) s1 with
   | none=>rw [h2] at hT; cases hT
   | some r2 =>
    obtain ⟨x2,s2⟩:=r2
    rw [h2] at hT hH
    simp only [agHR,Option.map_some,Option.some.injEq,Prod.mk.injEq] at hT hH
    obtain ⟨hx,hT0,hT1,hnx,hnt⟩:=hT
    obtain rfl:=exB_ok hx
    have m1:=evC_mono h1
    have m2:=evC_mono h2
    have hn0 : (agS0 t1 t2 t3 t4 t5 t6 t7 a b).nx = GN:=rfl
    refine wpSeq (by kernel_rfl) (wp_mono ((code_all (by kernel_rfl) hE (Nat.le_refl _) 9).1 _ _ _ .normal h1 _ _ _ hs (fun i g1 g2=>by omega)) ?_)
    rintro e a1 w1 ⟨rfl,ν1,hs1,hf1⟩
    refine wpSeq (by kernel_rfl) (wp_mono ((code_all (by kernel_rfl) hE (Nat.le_refl _) 9).1 _ _ _ .normal h2 _ _ _ hs1 (fun i g1 g2=>by omega)) ?_)
    rintro e a2 w2 ⟨rfl,ν2,hs2,hf2⟩
    have hfr : Free ν2 GN:=fun i g1 g2=>by
     rw [hf2.ext i (by omega),hf1.ext i (by omega)]
     exact hf i g1 g2
    have hfS : ∀ i,SB ≤ i → ν2 i = none:=fun i g1=>by
     have hsb : GN < SB:=by decide
     rw [hf2.ext i (by omega),hf1.ext i (by omega)]
     unfold nuS
     rw [if_neg (by omega),if_pos g1]
     rfl
    have hgS2 : ν2 gS = some ⟨gS,8,0⟩:=by
     have hg:=gS_lt
     rw [hf2.ext gS (by omega),hf1.ext gS (by omega)]
     unfold nuS
     rw [if_pos hg]
     unfold nu0
     rw [if_pos hg]
     rfl
    obtain ⟨n,hn,hn1,hn2⟩:=agZ0_ok a
    obtain ⟨m,hm,hm2⟩:=agZ1_ok b
    have v0:=hs2.tr 0 _ hT0
    have v1:=hs2.tr 1 _ hT1
    simp only [VR] at v0 v1
    rw [hn] at v0
    rw [hm] at v1
    -- the names
    let ν3 : Env:=fun i=>if i = 1000000 then some ⟨n,0,0⟩ else if i = 1000001 then some ⟨m,0,0⟩ else ν2 i
    have e0 : ν3 1000000 = some ⟨n,0,0⟩:=rfl
    have e1 : ν3 1000001 = some ⟨m,0,0⟩:=rfl
    have hx3 : Ext ν2 ν3:=fun i l hl=>by
     show (if i = 1000000 then some ⟨n,0,0⟩ else if i = 1000001 then some ⟨m,0,0⟩ else ν2 i) = some l
     by_cases hi : SB ≤ i
     ·rw [hfS i hi] at hl; cases hl
     ·have hsb : SB = 1000000:=rfl
      rw [if_neg (by omega),if_neg (by omega)]; exact hl
    have hl3 : ∀ i,i < SB → ν3 i = ν2 i:=fun i hi=>by
     show (if i = 1000000 then some ⟨n,0,0⟩ else if i = 1000001 then some ⟨m,0,0⟩ else ν2 i) = ν2 i
     have hsb : SB = 1000000:=rfl
     rw [if_neg (by omega),if_neg (by omega)]
    have hs3:=hs2.slots (GE2:=AgG) (ν':=ν3) (T:=[(0,.sym 1000000 .i64 1 8 []),(1,agX 0 15)]) hx3 (fun i hi=>hl3 i (Nat.lt_of_lt_of_le hi (by rw [hnx]; exact Nat.le_of_ble_eq_true rfl))) ⟨GEok.mono (P:=Tryz.prog) _ _ hx3 hs2.glob,hx3 _ _ hgS2⟩ (fun t x hx=>by
     simp only [List.mem_cons,List.not_mem_nil,or_false,Prod.mk.injEq] at hx
     rcases hx with ⟨rfl,rfl⟩ | ⟨rfl,rfl⟩
     ·rw [v0.1]; exact vr_sym e0 hn1 hn2 (by decide) (fun c hc=>by cases hc)
     ·rw [v1.1]; exact vr_sym e1 (Nat.zero_le _) hm2 (by decide) (fun c hc=>by cases hc))
    have hfr3 : Free ν3 GN:=fun i g1 g2=>by rw [hl3 i g2]; exact hfr i g1 g2
    rw [hH,hnt,hnx] at hs3
    show agC1.wp Tryz.prog _ a2 w2
    have hpc:=ag_preC t1 t2 t3 t4 t5 t6 t7
    unfold agPreC at hpc
    refine pre_ok (GE:=AgG) (GE2:=AgG) (callf:=cfT3) (lf:=100000) (n:=0) (c:=agC1) (s:=⟨136,trOf [(0,.sym 1000000 .i64 1 8 []),(1,agX 0 15)],GH t1 t2 t3 t4 t5 t6 t7,GN,[]⟩) (t:=agPatC) (σ:=agSgC) (by kernel_rfl) hEG (Nat.le_refl _) hpc (fun ν' g1 g2=>agG_env g1 g2) hs3 hfr3 (fun a4 w4 ν4 hs4 hf4=>?_)
    show agC2.wp Tryz.prog _ a4 w4
    have hs4' : AgR w ν4 (stOf 136 agPatC) a4 w4:=hs4
    obtain ⟨k,hk,hk1,hk2,_⟩:=ag_sym (hs4'.tr 0 (.sym 1000000 .i64 1 8 []) rfl)
    have u1:=hs4'.tr 1 (agX 0 15) rfl
    have u6:=hs4'.tr 6 (.ptr 4554 0) rfl
    have u7:=hs4'.tr 7 (.v (.bool true)) rfl
    have hs5 : AgR w ν4 ⟨136,trOf (agTC k),hpOf agPatC.D,4555,[]⟩ a4 w4:=hs4'.slots (GE2:=AgG) (ν':=ν4) (T:=agTC k) (fun _ _ h=>h) (fun _ _=>rfl) hs4'.glob (fun t z hz=>by
     simp only [agTC,List.mem_cons,List.not_mem_nil,or_false,Prod.mk.injEq] at hz
     rcases hz with ⟨rfl,rfl⟩ | ⟨rfl,rfl⟩ | ⟨rfl,rfl⟩ | ⟨rfl,rfl⟩
     ·exact ag_lit hk
     ·exact u1
     ·exact u6
     ·exact u7)
    obtain ⟨t,hs6⟩:=ag_with hW hs5 agPC_ge (show GN ≤ 4555 by decide)
    have hp:=ag_pre t k hk1 hk2
    unfold agPre at hp
    refine pre_ok (GE:=AgG) (GE2:=AgG) (callf:=cfT3) (lf:=1000) (n:=4) (c:=agC2) (s:=agSt t (agTC k) agPatC.D 4555) (t:=agPat0 k) (σ:=agSg0) (by kernel_rfl) hEG (Nat.le_refl _) hp (fun ν' g1 g2=>agG_env g1 g2) hs6 hf4 (fun a7 w7 ν7 hs7 hf7=>?_)
    show agC3.wp Tryz.prog _ a7 w7
    refine wpSeq (c:=agC3) (by kernel_rfl) ?_
    have hs7' : AgR w ν7 (stOf 136 (agPat0 k)) a7 w7:=hs7
    have hq:=ag_preb k hk1 hk2
    unfold agPre1 at hq
    refine pre_ok (GE:=AgG) (GE2:=AgG) (callf:=cfT3) (lf:=1000) (n:=0) (c:=Cd.a agC3) (s:=stOf 136 (agPat0 k)) (t:=agPat k 0 (agX 0 15)) (σ:=agSgI 0) (by kernel_rfl) hEG (Nat.le_refl _) hq (fun ν' g1 g2=>agG_env g1 g2) hs7' hf7 (fun a8 w8 ν8 hs8 hf8=>?_)
    refine wpBlock (by kernel_rfl) (wpLoop (by kernel_rfl) ?_)
    refine ag_loop hW hC hO (Q:=_) hk1 hk2 (fun t' i ν' a' w' hi hsE hfE=>?_) 15 0 rfl ν8 a8 w8 hs8 hf8
    show (if 0 = Cd.id (Cd.drop 0 (Cd.a agC3)) then _ else _)
    rw [if_pos (by kernel_rfl)]
    have hend:=agUp_ok (ag_end t' k hk1 hk2) i hi
    unfold agEnd at hend
    exact stretchE (GE:=AgG) (n:=1000) (c:=agTl) (s:=agSt t' (agT k (goI i) [(12,goI i)]) (agD k i) 6000) (by kernel_rfl) hEG (Nat.le_refl _) hend hsE hfE
end Go.Proofs.YtjpfhhndjpdmoaaGreatDoor

namespace Go.Proofs.YtjpfhhndjpdmoaaGreatDoor
open Go.RowKit

section
variable {H:Type} {enc:TypeId × Value → H} {P:Program} {w:World} {base:Nat} {spare:Nat → Bool} {held:Bool}
end
end Go.Proofs.YtjpfhhndjpdmoaaGreatDoor

/- A slice of bytes that came in as a cell of a struct. -/
namespace Go.Proofs.YtjpfhhndjpdmoaaGreatDoor
open Go.RowKit
section
variable {H:Type} {enc:TypeId × Value → H} {P:Program} {w:World} {held:Bool}
end
end Go.Proofs.YtjpfhhndjpdmoaaGreatDoor

namespace Go.Proofs.YtjpfhhndjpdmoaaGreatDoor
open Go.RowKit

theorem laid_row {P:Program} {W:World} {nm:String} {g:Nat} {cs:Array Value} {vs:List Value} {ps:List MemPlace} (hg:P.globalNamed nm = some g) (hv:W.var? P nm = some cs) (hcs:cs.toList = vs) (hpos:0 < vs.length)
  (hm:∀ b off,MemPlace.cell b off ∈ ps → (∃ c t,W.heap[b]? = some (.cells c t (0,0)))) (hp:∀ x,x ∈ MemPlace.row ⟨g,0,none⟩ cs.size → x ∈ ps) : ∃ t,Row W g t vs.toArray:=by
 have hsz : 0 < cs.size:=by rw [← Array.length_toList,hcs]; exact hpos
 obtain ⟨c,t,hh⟩:=hm g 0 (hp _ (List.mem_map.2 ⟨0,List.mem_range.2 hsz,by simp⟩))
 simp only [World.var?,hg,Option.bind_some,hh,Option.some.injEq] at hv
 subst hv
 refine ⟨t,.of_heap ?_⟩
 rw [hh,← hcs]
def numsOf {H:Type} : List (DataW H) → List Int
 | []=>[]
 | .lit (.int _ z) :: r=>z :: numsOf r
 | _ :: r=>numsOf r
def partsOf {H:Type} : DataW H → List (DataW H)
 | .agg l=>l
 | _=>[]
abbrev hashLaid : List (String × DataW Unit):=[("tollgate/hash.start",Rows.laid_tollgate_hash_start),("tollgate/hash.rounds",Rows.laid_tollgate_hash_rounds),("unicode/utf8.acceptRanges",Rows.laid_unicode_utf8_acceptRanges),("unicode/utf8.first",Rows.laid_unicode_utf8_first)]
theorem start_nums : (Rows.laid_tollgate_hash_start : DataW Unit) = .agg ((startS.map fun x=>(x.toNat : Int)).map fun z=>.lit (.int .u32 z)):=by kernel_rfl
theorem rounds_nums : (Rows.laid_tollgate_hash_rounds : DataW Unit) = .agg ((roundsS.map fun x=>(x.toNat : Int)).map fun z=>.lit (.int .u32 z)):=by kernel_rfl
end Go.Proofs.YtjpfhhndjpdmoaaGreatDoor

namespace Go.Proofs.YtjpfhhndjpdmoaaGreatDoor
open Go.RowKit
set_option linter.unusedVariables false

theorem laid_int {H:Type} {enc:TypeId × Value → H} {P:Program} {w:World} {base fuel n:Nat} {sp:Nat → Bool} {held:Bool} {t e:TypeId} {k:IntKind} {cs:List Value} {zs:List Int} {p:List MemPlace}
  (ht:P.underlying t = some (.array n e)) (he:P.underlying e = some (.int k)) (hc:P.cellsOf e = 1) (hct:P.cellsOf t = n)
  (h:DataW.trod enc P w base sp held fuel t cs = some (.agg (zs.map fun z=>.lit (.int k z)),p)) : cs = zs.map (.int k):=by
 obtain ⟨xs,m,_,ex,hl,hxs,hel⟩:=DataW.trod_array ht h
 have e3 : xs.map (·.1) = zs.map fun z=>(DataW.lit (.int k z) : DataW H):=(DataW.agg.inj (Prod.mk.inj ex).1).symm
 have hz : zs.length = n:=by have:=congrArg List.length e3; simpa [hxs] using this.symm
 rw [hct] at hl
 apply List.ext_getElem (by simp; omega)
 intro i h1 h2
 have hi : i < n:=by omega
 have hE:=hel i hi
 rw [hc,Nat.mul_one,List.getElem?_eq_getElem (by omega)] at hE
 obtain ⟨z,e1,e2,_⟩:=DataW.trod_int he hE
 have e4:=congrArg (fun l:List (DataW H)=>l[i]?) e3
 simp only [List.getElem?_map] at e4
 rw [List.getElem?_eq_getElem (by omega:i < xs.length),List.getElem?_eq_getElem (by omega:i < zs.length),e2] at e4
 simp only [Option.map_some,Option.some.injEq,DataW.lit.injEq,Lit.int.injEq,true_and] at e4
 have h0 : ((cs.drop i).take 1)[0]? = some (.int k z):=by rw [e1]; rfl
 have h5 : cs[i]? = some (.int k z):=by simpa using h0
 rw [List.getElem?_eq_getElem h1] at h5
 rw [Option.some.inj h5,e4]
 simp
theorem laid_mem {P:Program} {W:World} : ∀ {l:List (String × DataW Unit)} {ps:List MemPlace},DataW.LaidVars P W l ps → ∀ (n:String) (d:DataW Unit),(n,d) ∈ l →
  ∃ g t cs fuel p,P.globalNamed n = some g ∧ (P.globals[g]?).map (·.type) = some t ∧ W.var? P n = some cs ∧ DataW.trod (fun _=>()) P W 0 (fun _=>true) false fuel t cs.toList = some (d,p) ∧ ∀ x ∈ MemPlace.row ⟨g,0,none⟩ cs.size,x ∈ ps
 | [],ps,h,n,d,hm=>by cases hm
 | (n',d') :: r,ps,h,n,d,hm=>by
  obtain ⟨g,t,cs,fuel,p,q,hg,ht,hv,hd,hr,hps⟩:=h
  rcases List.mem_cons.1 hm with e | hm
  ·obtain ⟨rfl,rfl⟩:=Prod.mk.inj e
   exact ⟨g,t,cs,fuel,p,hg,ht,hv,hd,fun x hx=>by rw [hps]; simp [hx]⟩
  ·obtain ⟨g2,t2,cs2,fuel2,p2,h1,h2,h3,h4,h5⟩:=laid_mem hr n d hm
   exact ⟨g2,t2,cs2,fuel2,p2,h1,h2,h3,h4,fun x hx=>by rw [hps]; simp [h5 x hx]⟩
theorem laid_nums {P:Program} {W:World} {l:List (String × DataW Unit)} (h:laidMetH P l W) {nm:String} {d:DataW Unit} {k:IntKind} {zs:List Int} {g n:Nat} {t e:TypeId} (hm:(nm,d) ∈ l) (hh:d.handleName?.isNone = true) (hd:d = .agg (zs.map fun z=>.lit (.int k z)))
  (hg:P.globalNamed nm = some g) (hty:(P.globals[g]?).map (·.type) = some t) (ht:P.underlying t = some (.array n e)) (he:P.underlying e = some (.int k)) (hc:P.cellsOf e = 1) (hct:P.cellsOf t = n) (hpos:0 < zs.length) : ∃ t,Row W g t (zs.map (.int k)).toArray:=by
 obtain ⟨⟨ps,hL,_,hM⟩,_⟩:=laidMetH_iff.1 h
 obtain ⟨g2,t2,cs,fuel,p,h1,h2,h3,h4,h5⟩:=laid_mem hL nm d (List.mem_filter.2 ⟨hm,hh⟩)
 obtain rfl:=Option.some.inj (hg.symm.trans h1)
 obtain rfl:=Option.some.inj (hty.symm.trans h2)
 rw [hd] at h4
 exact laid_row hg h3 (laid_int ht he hc hct h4) (by simpa using hpos) (fun b off hb=>(hM b off hb).1) h5
theorem nums64 (l:List Nat) : ((l.map fun (q:Nat)=>(q:Int)).map (.int .u64)) = l.map Q:=by rw [List.map_map]; rfl
theorem prime_nums : (Rows.laid_tollgate_curve_prime : DataW Unit) = .agg (((nL P256).map fun (q:Nat)=>(q:Int)).map fun z=>.lit (.int .u64 z)):=by kernel_rfl
theorem order_nums : (Rows.laid_tollgate_curve_order : DataW Unit) = .agg (((nL N256).map fun (q:Nat)=>(q:Int)).map fun z=>.lit (.int .u64 z)):=by kernel_rfl
theorem coeff_nums : (Rows.laid_tollgate_curve_coeff : DataW Unit) = .agg (((nL B256).map fun (q:Nat)=>(q:Int)).map fun z=>.lit (.int .u64 z)):=by kernel_rfl
theorem baseX_nums : (Rows.laid_tollgate_curve_baseX : DataW Unit) = .agg (((nL GX).map fun (q:Nat)=>(q:Int)).map fun z=>.lit (.int .u64 z)):=by kernel_rfl
theorem baseY_nums : (Rows.laid_tollgate_curve_baseY : DataW Unit) = .agg (((nL GY).map fun (q:Nat)=>(q:Int)).map fun z=>.lit (.int .u64 z)):=by kernel_rfl
theorem peer_laid {W:World} {l:List (String × DataW Unit)} (h:laidMetH Tryz.prog l W)
  (m1:("tollgate/hash.start",Rows.laid_tollgate_hash_start) ∈ l) (m2:("tollgate/hash.rounds",Rows.laid_tollgate_hash_rounds) ∈ l) (m3:("tollgate/curve.prime",Rows.laid_tollgate_curve_prime) ∈ l) (m4:("tollgate/curve.order",Rows.laid_tollgate_curve_order) ∈ l)
  (m5:("tollgate/curve.coeff",Rows.laid_tollgate_curve_coeff) ∈ l) (m6:("tollgate/curve.baseX",Rows.laid_tollgate_curve_baseX) ∈ l) (m7:("tollgate/curve.baseY",Rows.laid_tollgate_curve_baseY) ∈ l) : HashW W ∧ CurveW W:=by
 refine ⟨⟨?_,?_⟩,⟨?_,?_,?_,?_,?_⟩⟩
 ·obtain ⟨t,ht⟩:=laid_nums h m1 (by kernel_rfl) start_nums (show _ = some 8 by kernel_rfl) (show _ = some 298 by kernel_rfl) Tryz.underlying298 Tryz.underlying210 (by kernel_rfl) (by kernel_rfl) (by decide)
  exact ⟨t,by rw [List.map_map] at ht; exact ht⟩
 ·obtain ⟨t,ht⟩:=laid_nums h m2 (by kernel_rfl) rounds_nums (show _ = some 10 by kernel_rfl) (show _ = some 276 by kernel_rfl) Tryz.underlying276 Tryz.underlying210 (by kernel_rfl) (by kernel_rfl) (by decide)
  exact ⟨t,by rw [List.map_map] at ht; exact ht⟩
 ·obtain ⟨t,ht⟩:=laid_nums h m4 (by kernel_rfl) order_nums (show _ = some 1 by kernel_rfl) (show _ = some 177 by kernel_rfl) Tryz.underlying177 Tryz.underlying49 (by kernel_rfl) (by kernel_rfl) (by simp [nL])
  exact ⟨t,by rw [nums64] at ht; exact ht⟩
 ·obtain ⟨t,ht⟩:=laid_nums h m6 (by kernel_rfl) baseX_nums (show _ = some 2 by kernel_rfl) (show _ = some 177 by kernel_rfl) Tryz.underlying177 Tryz.underlying49 (by kernel_rfl) (by kernel_rfl) (by simp [nL])
  exact ⟨t,by rw [nums64] at ht; exact ht⟩
 ·obtain ⟨t,ht⟩:=laid_nums h m7 (by kernel_rfl) baseY_nums (show _ = some 3 by kernel_rfl) (show _ = some 177 by kernel_rfl) Tryz.underlying177 Tryz.underlying49 (by kernel_rfl) (by kernel_rfl) (by simp [nL])
  exact ⟨t,by rw [nums64] at ht; exact ht⟩
 ·obtain ⟨t,ht⟩:=laid_nums h m3 (by kernel_rfl) prime_nums (show _ = some 6 by kernel_rfl) (show _ = some 177 by kernel_rfl) Tryz.underlying177 Tryz.underlying49 (by kernel_rfl) (by kernel_rfl) (by simp [nL])
  exact ⟨t,by rw [nums64] at ht; exact ht⟩
 ·obtain ⟨t,ht⟩:=laid_nums h m5 (by kernel_rfl) coeff_nums (show _ = some 7 by kernel_rfl) (show _ = some 177 by kernel_rfl) Tryz.underlying177 Tryz.underlying49 (by kernel_rfl) (by kernel_rfl) (by simp [nL])
  exact ⟨t,by rw [nums64] at ht; exact ht⟩
end Go.Proofs.YtjpfhhndjpdmoaaGreatDoor

namespace Go.Proofs.YtjpfhhndjpdmoaaGreatDoor
open Go.RowKit
set_option linter.unusedVariables false

theorem laidMet_layW {P:Program} {w0:World} {laid:List (String × DataW Unit)} (args:Array Value) (hf:w0.layFits P laid [] = true) (hi:w0.layIfaces P laid (w0.layVars P laid) = true) : laidMet P laid ((w0.layVars P laid).forCall (fun _ _=>0) ⟨#[],args,[]⟩).memory:=by
 have e1 : (laid.filter fun x=>(laid.map (·.1)).contains x.1) = laid:=List.filter_eq_self.2 fun x hx=>List.contains_iff_mem.2 (List.mem_map.2 ⟨x,hx,rfl⟩)
 have e2 : (laid.filter fun x=>!(laid.map (·.1)).contains x.1) = []:=List.filter_eq_nil_iff.2 fun x hx=>by rw [List.contains_iff_mem.2 (List.mem_map.2 ⟨x,hx,rfl⟩)]; simp
 have h : laidMet P laid (w0.layVars P laid):=laidMet_layVars (w0:=w0) (laid.map (·.1)) [] (by rw [e1]) (by rw [e1]; exact hf) (by rw [e1]; exact hi) (by rw [e2]; exact LaidIn.none)
 exact h.of_heap (by simp [World.memory,World.forCall,Input.heap])
noncomputable def errTy : Nat:=((List.range Tryz.prog.types.size).filter fun t=>Tryz.prog.rowNamed t [101,114,114,111,114]).headD 0
noncomputable def errU : Nat:=((Tryz.prog.cutTypes.find? (·.1 == "internal/reflectlite.rtype")).map (·.2)).getD 0
noncomputable def errWorld (os:Os) : World :=
 let w0:=World.holding Tryz.prog os ⟨#[],#[],[]⟩
 { w0 with heap:=w0.heap.modify 0 fun
   | .cells _ t frozen=>.cells #[.iface errU (.agg #[typeHandle Tryz.prog errTy])] t frozen
   | o=>o }
noncomputable def peerWorld (os:Os) (l:List (String × DataW Unit)) : World:=(errWorld os).layVars Tryz.prog (l.filter fun x=>x.2.handleName?.isNone)
theorem peerWorld_os (os:Os) (l:List (String × DataW Unit)) : (peerWorld os l).os = os:=World.layVars_os _ _ _
end Go.Proofs.YtjpfhhndjpdmoaaGreatDoor
