/- Part of the proof: EvSr,EvRx,EvSv,Sa8,EvSu. No conditions of its own. -/
import Derived.Test.YtjpfhhndjpdmoaaGreatDoorF30
namespace Go.Proofs.YtjpfhhndjpdmoaaGreatDoor
open Go.RowKit
set_option linter.unusedVariables false
set_option linter.unusedSectionVars false
set_option linter.unusedSimpArgs false

def rsIn (H:Hp) (T:Tr LV) : Option (Nat × Nat × Nat × Nat × Nat):=match T.get 6 with
 | some (.fn (.func f) [.ptr bs 0,.ptr bn 0])=>match H.get bs,H.get bn with
  | some ⟨t1,true,false,[.buf b off len 1]⟩,some ⟨t2,true,false,[.v (.int .i64 (.ofNat c))]⟩ =>
   match (Nat.beq f chF && (Nat.beq t1 22 && Nat.beq t2 3)) && (Nat.beq c 253 && (Nat.ble 1 len && Nat.ble len 253)) with
   | true=>some (bs,bn,b,off,len)
   | false=>none
  | some ⟨t1,true,false,[.slice b off len cap]⟩,some ⟨t2,true,false,[.v (.int .i64 (.ofNat c))]⟩ =>
   match ((Nat.beq f chF && (Nat.beq t1 22 && Nat.beq t2 3)) && (Nat.beq c 253 && (Nat.ble 1 len && Nat.ble len 253))) && (Nat.ble len cap && Nat.ble cap 1000) with
   | true=>some (bs,bn,b,off,len)
   | false=>none
  | _,_=>none
 | _=>none
theorem rsIn_ok {H:Hp} {T:Tr LV} {bs bn b off len:Nat} (h:rsIn H T = some (bs,bn,b,off,len)) :
  T.get 6 = some (.fn (.func chF) [.ptr bs 0,.ptr bn 0]) ∧ (∃ x,(x = .buf b off len 1 ∨ ∃ cap,x = .slice b off len cap ∧ len ≤ cap ∧ cap ≤ 1000) ∧ H.get bs = some ⟨22,true,false,[x]⟩) ∧ H.get bn = some ⟨3,true,false,[.v (.int .i64 253)]⟩ ∧ 0 < len ∧ len ≤ 253:=by
 unfold rsIn at h
 split at h
 ·rename_i f bs' bn' h1
  split at h
  ·rename_i t1 b' off' len' t2 c h2 h3
   split at h
   ·rename_i hb
    cases h
    simp only [Bool.and_eq_true] at hb
    obtain ⟨⟨e1,e2,e3⟩,e4,e5,e6⟩:=hb
    have e1:=nbeq e1
    have e2:=nbeq e2
    have e3:=nbeq e3
    have e4:=nbeq e4
    subst e1 e2 e3 e4
    exact ⟨h1,⟨_,.inl rfl,h2⟩,h3,Nat.le_of_ble_eq_true e5,Nat.le_of_ble_eq_true e6⟩
   ·cases h
  ·rename_i t1 b' off' len' cap t2 c h2 h3
   split at h
   ·rename_i hb
    cases h
    simp only [Bool.and_eq_true] at hb
    obtain ⟨⟨⟨e1,e2,e3⟩,e4,e5,e6⟩,e7,e8⟩:=hb
    have e1:=nbeq e1
    have e2:=nbeq e2
    have e3:=nbeq e3
    have e4:=nbeq e4
    subst e1 e2 e3 e4
    exact ⟨h1,⟨_,.inr ⟨cap,rfl,Nat.le_of_ble_eq_true e7,Nat.le_of_ble_eq_true e8⟩,h2⟩,h3,Nat.le_of_ble_eq_true e5,Nat.le_of_ble_eq_true e6⟩
   ·cases h
  ·cases h
 ·cases h
noncomputable def evRsplit (nB:Nat) (callf:FuncId → List LV → Hp → Nat → Option Out) (args:List LV) (H:Hp) (nx:Nat) : Option Out :=
 match evPre Tryz.prog nB callf 100 1 rsB ⟨args.length + (15 - args.length),argsT 0 args .nil,H,nx,[]⟩ with
 | some (.normal,s1)=>match evCQ Tryz.prog nB callf 100 (Cd.a (Cd.a rsC3)) s1 with
  | some (.normal,s2)=>match rsIn s2.H s2.T with
   | some (bs,bn,b,off,len)=>match evCQ Tryz.prog nB callf 100 (.region 4 rsO true) ⟨s2.nt,(s2.T.set 7 (some (.slice b off len len))).set 4 (some (.slice b off len len)),s2.H,s2.nx,[]⟩ with
    | some (.normal,s4)=>match !(s4.wr.any (Nat.beq bs)) && (!(s4.wr.any (Nat.beq bn)) && Nat.beq s2.nt 15) with
     | true=>match evCQ Tryz.prog nB callf 100 rsEn ⟨s2.nt,s2.T,s4.H,s4.nx,[]⟩ with
      | some (.ret,s6)=>match resL Tryz.prog s6.T s6.H Tryz.f44.results.toList with
       | some rs=>some ⟨oneL rs,olds nx s6.H (s6.wr ++ (s4.wr ++ s2.wr)) .nil ++ reach nx s6.H (s6.nx + 100000) ((oneL rs).ids ++ idsD (olds nx s6.H (s6.wr ++ (s4.wr ++ s2.wr)) .nil)) .nil [],s6.nx,none⟩
       | none=>none
      | _=>none
     | false=>none
    | _=>none
   | none=>none
  | _=>none
 | _=>none
section
variable {nB B:Nat} {w0:World} {callf:FuncId → List LV → Hp → Nat → Option Out}
set_option maxRecDepth 100000 in
theorem rsplit_ok (hc:EvOk Tryz.prog (GlobE Tryz.prog) nB B w0 callf) (hB:B ≤ w0.heap.size) : FnOk Tryz.prog nB B w0 rsF (evRsplit nB callf):=by
 intro args H nx out h hnx
 unfold evRsplit at h
 split at h
 ·rename_i s1 h1
  split at h
  ·rename_i s2 h2
   split at h
   ·rename_i bs bn b off len h3
    split at h
    ·rename_i s4 h4
     split at h
     ·rename_i hchk
      split at h
      ·rename_i s6 h6
       split at h
       ·rename_i rs hres
        cases h
        simp only [Bool.and_eq_true] at hchk
        obtain ⟨c1,c2,c3⟩:=hchk
        have c1:=any_no c1
        have c2:=any_no c2
        have c3:=nbeq c3
        obtain ⟨i1,⟨x,ix,i2⟩,i3,i4,i5⟩:=rsIn_ok h3
        rw [evCQ_eq,evCK_eq] at h2 h4 h6
        have hev : evReg Tryz.prog nB callf rsO true ⟨s2.nt,(s2.T.set 7 (some (.slice b off len len))).set 4 (some (.slice b off len len)),s2.H,s2.nx,[]⟩ = some s4:=by
         simp only [evC] at h4
         split at h4
         ·rename_i s5 h5
          cases h4
          exact h5
         ·cases h4
        have m2 : s1.nx ≤ s2.nx:=evC_mono h2
        have m4 : s2.nx ≤ s4.nx:=by have:=evC_mono h4; exact this
        have m6 : s4.nx ≤ s6.nx:=by have:=evC_mono h6; exact this
        have hm : Tryz.prog.follows .mixedOrders = true:=by kernel_rfl
        refine ⟨⟨_,Tryz.func44,by kernel_rfl,by kernel_rfl⟩,rfl,fun ν vs w hν hvs hH hlow hinj hid hg hb=>?_⟩
        have hν' : ∀ i,nx ≤ i → i < s6.nx → ν i = none:=hν
        refine (callsIn_wide (n:=5)).1 (callsIn_of_wp_marks (c:=rsB) Tryz.func44 (by kernel_rfl) trivial ?_ rfl)
        refine wpIn_wide.2 ?_
        have hs0:=entry (P:=Tryz.prog) (GE:=GlobE Tryz.prog) (nt:=15) hvs hH hlow hinj hid hg hb
        have hnt : Tryz.f44.ntmps = 15:=by kernel_rfl
        rw [hnt]
        obtain ⟨m1,hpre⟩:=evPre_okF hm hc hB (Q:=bodyPostM Fence.wide 5 Tryz.prog Tryz.f44 fun e w'=>∃ v' ν',e = .returned v' ∧ OpPost nB B w0 ν ν' H nx ⟨oneL rs,olds nx s6.H (s6.wr ++ (s4.wr ++ s2.wr)) .nil ++ reach nx s6.H (s6.nx + 100000) ((oneL rs).ids ++ idsD (olds nx s6.H (s6.wr ++ (s4.wr ++ s2.wr)) .nil)) .nil [],s6.nx,none⟩ w w' v') 1 rsB _ s1 .normal h1
        have m1' : nx ≤ s1.nx:=m1
        refine hpre hs0 (fun i q1 q2=>hν' i q1 (by omega)) (fun a1 w1 ν1 hs1 hf1=>?_)
        have f1:=free_of (s2:=s6) hf1 (by omega) hν'
        refine wpSeq (c:=rsC3) (by kernel_rfl) ?_
        refine wpSeq (c:=Cd.a rsC3) (by kernel_rfl) ?_
        refine wp_mono ((code_all hm hc hB 100).1 _ s1 s2 .normal h2 ν1 a1 w1 hs1 (fun i q1 q2=>f1 i q1 (by omega))) ?_
        rintro e a2 w2 ⟨rfl,ν2,hs2,hf2⟩
        have f2:=free_of (s2:=s6) hf2 (by omega) f1
        show (Cd.b (Cd.a rsC3)).wp Tryz.prog _ a2 w2
        refine wpBlock (by kernel_rfl) ?_
        refine rs_loop hc hB ix i1 i2 i3 i4 i5 c3 hev c1 c2 hs2 (fun i q1 q2=>f2 i q1 (by omega)) (fun a3 w3 ν3 D hs3 hD hdef hdo hf3=>?_)
        have f3:=free_of (s2:=s6) hf3 (by show s4.nx ≤ s6.nx; omega) f2
        show rsEn.wp Tryz.prog _ a3 w3
        have hs3' : StR Tryz.prog (GlobE Tryz.prog) nB B w0 ν3 ⟨s2.nt,s2.T,s4.H,s4.nx,[]⟩ (Act.bare a3) w3:=⟨hs3.hr,hs3.low,hs3.inj,hs3.ids,hs3.glob,hs3.below,hs3.tr,hs3.sz,hs3.df,fun i hi=>by cases hi⟩
        refine wp_mono (flat_ok hc hB 100 rsEn _ s6 .ret rsEn_flat h6 ν3 a3 w3 hs3' f3) ?_
        rintro e a6 w6 ⟨rfl,hd6,ν6,hs6,hf6⟩
        have hD6 : w6.heap[D]? = some (.deferred (some [])):=hf6.others hs3' rfl hdo (fun c t fr e=>by cases e)
        have hwD : w.heap.size ≤ D:=Nat.le_trans hf1.size (Nat.le_trans hf2.size hD)
        have hBD : B ≤ D:=Nat.le_trans (Nat.le_trans hB hb.size) hwD
        show LeavesInM Fence.wide 5 Tryz.prog _ a6.tmps _ a6.defers .returning w6
        rw [hd6,hdef]
        refine ⟨by simp [markOf],.inl ⟨D,_,rfl,run_takeDeferred hD6,?_⟩⟩
        have hgr:=grownBy_putObj' w6 D (.deferred none)
        have hFall:=((hf1.trans hf2).trans hf3).trans (hf6.addWr (s:=⟨s2.nt,s2.T,s4.H,s4.nx,s4.wr ++ s2.wr⟩) (T2':=s6.T) hs3.wrs)
        have hs6' : StR Tryz.prog (GlobE Tryz.prog) nB B w0 ν6 ⟨s2.nt,s6.T,s6.H,s6.nx,s6.wr ++ (s4.wr ++ s2.wr)⟩ (Act.bare a6) w6:=⟨hs6.hr,hs6.low,hs6.inj,hs6.ids,hs6.glob,hs6.below,hs6.tr,hs6.sz.trans hf6.nt,hs6.df,fun i hi=>by
         rcases List.mem_append.1 hi with q | q
         ·exact hs6.wrs i q
         ·have q' : i < s4.nx:=hs3.wrs i q
          show i < s6.nx
          omega⟩
        have hs7:=hs6'.grown (Nat.le_trans hB hs6.below.size) hgr (fun r e=>by cases e; exact ⟨hBD,_,hD6,rfl⟩)
        have hF7:=hFall.grown hgr (fun r e=>by cases e; exact hwD)
        obtain ⟨v,hv,hvv⟩:=results_ok hs7 hres
        refine ⟨v,hv,v,ν6,rfl,?_⟩
        exact post_fin hs7 hF7 hvv
       ·cases h
      ·cases h
     ·cases h
    ·cases h
   ·cases h
  ·cases h
 ·cases h
end
end Go.Proofs.YtjpfhhndjpdmoaaGreatDoor

namespace Go.Proofs.YtjpfhhndjpdmoaaGreatDoor
open Go.RowKit
set_option linter.unusedVariables false
set_option linter.unusedSimpArgs false
set_option linter.unusedSectionVars false
set_option autoImplicit false

/-! ### the numbers,guessed -/
def addSg (nB:Nat) (σ : Sg) (b c:Nat) : Sg:=match Nat.ble (b + 1) nB with
 | true=>σ
 | false=>match lkS σ b with
  | some _=>σ
  | none=>(b,.num c) :: σ
mutual
def mchV (nB:Nat) : LV → LV → Sg → Sg
 | .ptr b _,.ptr c _,σ=>addSg nB σ b c
 | .slice b _ _ _,.slice c _ _ _,σ=>addSg nB σ b c
 | .buf b _ _ _,.buf c _ _ _,σ=>addSg nB σ b c
 | .sym b _ _ _ _,.sym c _ _ _ _,σ=>addSg nB σ b c
 | .fn _ l,.fn _ m,σ=>mchL nB l m σ
 | .agg l,.agg m,σ=>mchL nB l m σ
 | .tup l,.tup m,σ=>mchL nB l m σ
 | .str l,.str m,σ=>mchL nB l m σ
 | .ifc _ x,.ifc _ y,σ=>mchV nB x y σ
 | _,_,σ=>σ
def mchL (nB:Nat) : List LV → List LV → Sg → Sg
 | x :: l,y :: m,σ=>mchL nB l m (mchV nB x y σ)
 | _,_,σ=>σ
end
def mchD (nB:Nat) (H:Hp) : List (Nat × Blk) → Sg → Sg
 | [],σ=>σ
 | (i,k) :: D,σ=>mchD nB H D (match lkS σ i with
  | some (.num j)=>match H.get j with
   | some k'=>mchL nB k.cells k'.cells σ
   | none=>σ
  | _=>σ)
/-! ### values renamed -/
def renN (s0 nx:Nat) (σ : Sg) (i:Nat) : Nat:=match Nat.ble s0 i with
 | true=>Nat.add nx (Nat.sub i s0)
 | false=>match lkS σ i with
  | some (.num j)=>j
  | _=>i
def numOk (nB s0 s1:Nat) (σ : Sg) (i:Nat) : Bool:=(Nat.ble s0 i && Nat.ble (i + 1) s1) || (Nat.ble (i + 1) s0 && (match lkS σ i with
 | some (.num _)=>true
 | some (.lit _)=>false
 | none=>Nat.ble (i + 1) nB))
section
variable (s0 nx:Nat) (σ : Sg)
mutual
def renV : LV → LV
 | .v x=>.v x
 | .ptr b o=>.ptr (renN s0 nx σ b) o
 | .slice b o n c=>.slice (renN s0 nx σ b) o n c
 | .buf b o n c=>.buf (renN s0 nx σ b) o n c
 | .emp=>.emp
 | .sym b k lo hi ne=>.sym (renN s0 nx σ b) k lo hi (ne.map (renN s0 nx σ))
 | .outS b=>.outS b
 | .outP b=>.outP b
 | .str l=>.str (renL l)
 | .fn f l=>.fn f (renL l)
 | .ifc t x=>.ifc t (renV x)
 | .agg l=>.agg (renL l)
 | .tup l=>.tup (renL l)
def renL : List LV → List LV
 | []=>[]
 | x :: l=>renV x :: renL l
end
end
section
variable (nB s0 s1:Nat) (σ : Sg)
mutual
def goodV : LV → Bool
 | .v _ | .emp=>true
 | .ptr b _=>numOk nB s0 s1 σ b
 | .slice b _ _ _=>numOk nB s0 s1 σ b
 | .buf b _ _ _=>numOk nB s0 s1 σ b
 | .sym b _ _ _ ne=>numOk nB s0 s1 σ b && ne.all (numOk nB s0 s1 σ)
 | .outS _ | .outP _=>false
 | .str l=>goodL l
 | .fn _ l=>goodL l
 | .ifc _ x=>goodV x
 | .agg l=>goodL l
 | .tup l=>goodL l
def goodL : List LV → Bool
 | []=>true
 | x :: l=>goodV x && goodL l
end
end
section
variable {nB s0 s1 nx:Nat} {σ : Sg} {ν ν' : Env}
mutual
theorem renV_ok (h:∀ i,numOk nB s0 s1 σ i = true → ν' (renN s0 nx σ i) = ν i) : ∀ {x:LV} {y:Value},goodV nB s0 s1 σ x = true → VR ν x y → VR ν' (renV s0 nx σ x) y
 | .v x,y,hg,hv=>by simpa [VR,renV] using hv
 | .ptr b o,y,hg,hv=>by
  simp only [goodV] at hg
  simp only [VR,renV] at hv ⊢
  rw [h b hg]; exact hv
 | .slice b o n c,y,hg,hv=>by
  simp only [goodV] at hg
  simp only [VR,renV] at hv ⊢
  rw [h b hg]; exact hv
 | .buf b o n c,y,hg,hv=>by
  simp only [goodV] at hg
  simp only [VR,renV] at hv ⊢
  rw [h b hg]; exact hv
 | .emp,y,hg,hv=>by simpa [VR,renV] using hv
 | .sym b k lo hi ne,y,hg,hv=>by
  simp only [goodV,Bool.and_eq_true,List.all_eq_true] at hg
  simp only [VR,renV] at hv ⊢
  obtain ⟨l,g1,g2,g3,g4,g5,g6⟩:=hv
  refine ⟨l,by rw [h b hg.1]; exact g1,g2,g3,g4,g5,fun c hc=>?_⟩
  obtain ⟨d,hd,rfl⟩:=List.mem_map.1 hc
  rw [h d (hg.2 d hd)]
  exact g6 d hd
 | .outS b,y,hg,hv=>by simp [goodV] at hg
 | .outP b,y,hg,hv=>by simp [goodV] at hg
 | .str l,y,hg,hv=>by
  simp only [goodV] at hg
  simp only [VR,renV] at hv ⊢
  obtain ⟨bs,g1,g2⟩:=hv
  exact ⟨bs,g1,renL_ok h hg g2⟩
 | .fn f l,y,hg,hv=>by
  simp only [goodV] at hg
  simp only [VR,renV] at hv ⊢
  obtain ⟨vs,g1,g2⟩:=hv
  exact ⟨vs,g1,renL_ok h hg g2⟩
 | .ifc t x,y,hg,hv=>by
  simp only [goodV] at hg
  simp only [VR,renV] at hv ⊢
  obtain ⟨v,g1,g2⟩:=hv
  exact ⟨v,g1,renV_ok h hg g2⟩
 | .agg l,y,hg,hv=>by
  simp only [goodV] at hg
  simp only [VR,renV] at hv ⊢
  obtain ⟨vs,g1,g2⟩:=hv
  exact ⟨vs,g1,renL_ok h hg g2⟩
 | .tup l,y,hg,hv=>by
  simp only [goodV] at hg
  simp only [VR,renV] at hv ⊢
  obtain ⟨vs,g1,g2⟩:=hv
  exact ⟨vs,g1,renL_ok h hg g2⟩
theorem renL_ok (h:∀ i,numOk nB s0 s1 σ i = true → ν' (renN s0 nx σ i) = ν i) : ∀ {l:List LV} {vs:List Value},goodL nB s0 s1 σ l = true → VRs ν l vs → VRs ν' (renL s0 nx σ l) vs
 | [],vs,_,hv=>by rw [VRs.nil_iff.1 hv]; exact VRs.nil_iff.2 rfl
 | x :: l,vs,hg,hv=>by
  simp only [goodL,Bool.and_eq_true] at hg
  obtain ⟨u,us,rfl,h1,h2⟩:=VRs.cons_iff.1 hv
  exact VRs.cons_iff.2 ⟨u,us,rfl,renV_ok h hg.1 h1,renL_ok h hg.2 h2⟩
end
theorem renV_one : ∀ (x:LV),(renV s0 nx σ x).isOne = x.isOne
 | .v _ | .ptr _ _ | .slice _ _ _ _ | .buf _ _ _ _ | .emp | .sym _ _ _ _ _ | .outS _ | .outP _ | .str _ | .fn _ _ | .ifc _ _ | .agg _ | .tup _=>rfl
theorem renL_one : ∀ (l:List LV),(renL s0 nx σ l).all LV.isOne = l.all LV.isOne
 | []=>rfl
 | x :: l=>by simp only [renL,List.all_cons,renV_one,renL_one l]
theorem renL_len : ∀ (l:List LV),(renL s0 nx σ l).length = l.length
 | []=>rfl
 | x :: l=>by simp only [renL,List.length_cons,renL_len l]
end
/-! ### what has changed,renamed -/
def renB (s0 nx:Nat) (σ : Sg) (k:Blk) : Blk:=⟨k.elem,k.exact,k.mrk,renL s0 nx σ k.cells⟩
def renD (s0 nx:Nat) (σ : Sg) : Dl → Dl
 | []=>[]
 | (i,some k) :: d=>(renN s0 nx σ i,some (renB s0 nx σ k)) :: renD s0 nx σ d
 | (i,none) :: d=>(renN s0 nx σ i,none) :: renD s0 nx σ d
def goodD (nB s0 s1:Nat) (σ : Sg) : Dl → Bool
 | []=>true
 | (i,some k) :: d=>(numOk nB s0 s1 σ i && goodL nB s0 s1 σ k.cells) && goodD nB s0 s1 σ d
 | (i,none) :: d=>numOk nB s0 s1 σ i && goodD nB s0 s1 σ d
def apartN (i:Nat) : List Nat → Bool
 | []=>true
 | j :: l=>(Nat.ble (i + 1) j || Nat.ble (j + 1) i) && apartN i l
def nodupN : List Nat → Bool
 | []=>true
 | i :: l=>apartN i l && nodupN l
theorem apartN_ok {i:Nat} : ∀ {l:List Nat},apartN i l = true → i ∉ l
 | [],_=>by simp
 | j :: l,h=>by
  simp only [apartN,Bool.and_eq_true,Bool.or_eq_true] at h
  intro hm
  rcases List.mem_cons.1 hm with rfl | hm
  ·rcases h.1 with h1 | h1
   ·have:=Nat.le_of_ble_eq_true h1; omega
   ·have:=Nat.le_of_ble_eq_true h1; omega
  ·exact apartN_ok h.2 hm
theorem mem_keys {i:Nat} {x:Option Blk} : ∀ {d:Dl},(i,x) ∈ d → i ∈ keysD d
 | [],h=>by cases h
 | (j,y) :: d,h=>by
  simp only [keysD,List.mem_cons]
  rcases List.mem_cons.1 h with e | h
  ·cases e; exact .inl rfl
  ·exact .inr (mem_keys h)
theorem dget_mem {i:Nat} {x:Option Blk} : ∀ {d:Dl},dget d i = some x → (i,x) ∈ d
 | [],h=>by simp [dget] at h
 | (j,y) :: d,h=>by
  simp only [dget] at h
  cases hd : dget d i with
  | some z =>
   rw [hd] at h
   simp only [Option.some.injEq] at h
   subst h
   exact List.mem_cons_of_mem _ (dget_mem hd)
  | none =>
   rw [hd] at h
   by_cases e : i = j
   ·rw [if_pos e] at h
    cases h
    subst e
    exact List.mem_cons_self ..
   ·rw [if_neg e] at h; cases h
theorem dget_of {i:Nat} {x:Option Blk} : ∀ {d:Dl},nodupN (keysD d) = true → (i,x) ∈ d → dget d i = some x
 | [],_,h=>by cases h
 | (j,y) :: d,hn,h=>by
  simp only [keysD,nodupN,Bool.and_eq_true] at hn
  simp only [dget]
  rcases List.mem_cons.1 h with e | h
  ·cases e
   cases hd : dget d i with
   | some z=>exact absurd (mem_keys (dget_mem hd)) (apartN_ok hn.1)
   | none=>simp
  ·rw [dget_of hn.2 h]
theorem renD_mem {s0 nx:Nat} {σ : Sg} {j:Nat} {x:Option Blk} : ∀ {d:Dl},(j,x) ∈ renD s0 nx σ d → ∃ i y,(i,y) ∈ d ∧ j = renN s0 nx σ i ∧ x = y.map (renB s0 nx σ)
 | [],h=>by cases h
 | (i,some k) :: d,h=>by
  simp only [renD] at h
  rcases List.mem_cons.1 h with e | h
  ·cases e; exact ⟨i,some k,List.mem_cons_self ..,rfl,rfl⟩
  ·obtain ⟨i',y,h1,h2,h3⟩:=renD_mem h
   exact ⟨i',y,List.mem_cons_of_mem _ h1,h2,h3⟩
 | (i,none) :: d,h=>by
  simp only [renD] at h
  rcases List.mem_cons.1 h with e | h
  ·cases e; exact ⟨i,none,List.mem_cons_self ..,rfl,rfl⟩
  ·obtain ⟨i',y,h1,h2,h3⟩:=renD_mem h
   exact ⟨i',y,List.mem_cons_of_mem _ h1,h2,h3⟩
theorem mem_renD {s0 nx:Nat} {σ : Sg} {i:Nat} {y:Option Blk} : ∀ {d:Dl},(i,y) ∈ d → (renN s0 nx σ i,y.map (renB s0 nx σ)) ∈ renD s0 nx σ d
 | [],h=>by cases h
 | (j,some k) :: d,h=>by
  simp only [renD]
  rcases List.mem_cons.1 h with e | h
  ·cases e; exact List.mem_cons_self ..
  ·exact List.mem_cons_of_mem _ (mem_renD h)
 | (j,none) :: d,h=>by
  simp only [renD]
  rcases List.mem_cons.1 h with e | h
  ·cases e; exact List.mem_cons_self ..
  ·exact List.mem_cons_of_mem _ (mem_renD h)
theorem keys_renD {s0 nx:Nat} {σ : Sg} : ∀ (d:Dl),keysD (renD s0 nx σ d) = (keysD d).map (renN s0 nx σ)
 | []=>rfl
 | (i,some k) :: d=>by simp only [renD,keysD,List.map_cons,keys_renD d]
 | (i,none) :: d=>by simp only [renD,keysD,List.map_cons,keys_renD d]
theorem nodup_of_map {f:Nat → Nat} : ∀ {l:List Nat},nodupN (l.map f) = true → nodupN l = true
 | [],_=>rfl
 | i :: l,h=>by
  simp only [List.map_cons,nodupN,Bool.and_eq_true] at h ⊢
  refine ⟨?_,nodup_of_map h.2⟩
  have key : ∀ {l:List Nat},apartN (f i) (l.map f) = true → apartN i l = true:=by
   intro l
   induction l with
   | nil=>intro _; rfl
   | cons j l ih =>
    intro h
    simp only [List.map_cons,apartN,Bool.and_eq_true,Bool.or_eq_true] at h ⊢
    refine ⟨?_,ih h.2⟩
    have hne : i ≠ j:=by
     rintro rfl
     rcases h.1 with h1 | h1
     ·have:=Nat.le_of_ble_eq_true h1; omega
     ·have:=Nat.le_of_ble_eq_true h1; omega
    rcases Nat.lt_or_gt_of_ne hne with h1 | h1
    ·exact .inl (Nat.ble_eq_true_of_le (by omega))
    ·exact .inr (Nat.ble_eq_true_of_le (by omega))
  exact key h.1
theorem goodD_mem {nB s0 s1:Nat} {σ : Sg} {i:Nat} {y:Option Blk} : ∀ {d:Dl},goodD nB s0 s1 σ d = true → (i,y) ∈ d → numOk nB s0 s1 σ i = true ∧ ∀ k,y = some k → goodL nB s0 s1 σ k.cells = true
 | [],_,h=>by cases h
 | (j,some k) :: d,hg,h=>by
  simp only [goodD,Bool.and_eq_true] at hg
  rcases List.mem_cons.1 h with e | h
  ·cases e; exact ⟨hg.1.1,fun k' e=>by cases e; exact hg.1.2⟩
  ·exact goodD_mem hg.2 h
 | (j,none) :: d,hg,h=>by
  simp only [goodD,Bool.and_eq_true] at hg
  rcases List.mem_cons.1 h with e | h
  ·cases e; exact ⟨hg.1,fun k' e=>by cases e⟩
  ·exact goodD_mem hg.2 h
def tgtS (nx:Nat) : Sg → Bool
 | []=>true
 | (_,.num j) :: σ=>(Nat.ble (j + 1) nx) && tgtS nx σ
 | (_,.lit _) :: _=>false
theorem tgtS_ok {nx:Nat} : ∀ {σ : Sg} {i:Nat} {x:Src},tgtS nx σ = true → lkS σ i = some x → ∃ j,x = .num j ∧ j < nx
 | [],i,x,_,h=>by cases h
 | (k,.num j) :: σ,i,x,hg,h=>by
  simp only [tgtS,Bool.and_eq_true] at hg
  simp only [lkS] at h
  split at h
  ·cases h; exact ⟨j,rfl,Nat.le_of_ble_eq_true hg.1⟩
  ·exact tgtS_ok hg.2 h
 | (k,.lit j) :: σ,i,x,hg,h=>by cases hg
def stX (nB:Nat) (s:Stg) (args:List LV) (H:Hp) (nx:Nat) : Option Out :=
 let σ:=mchD nB H s.D (mchL nB s.a args [])
 match ((insK nB s.nx σ && tgtS nx σ) && (insL nB σ ⟨[],[]⟩ s.a args && insD nB σ ⟨[],[]⟩ s.nx H [] s.D)) && ((goodV nB s.nx s.nx' σ s.v && goodD nB s.nx s.nx' σ s.d) && (nodupN (keysD (renD s.nx nx σ s.d)) && (Nat.ble s.nx' SB && (Nat.ble nB s.nx && Nat.ble nB nx)))) with
 | true=>some ⟨renV s.nx nx σ s.v,renD s.nx nx σ s.d,Nat.add nx (Nat.sub s.nx' s.nx),none⟩
 | false=>none
section
variable {P:Program} {nB B:Nat} {w0:World}
theorem stX_ok (hP:P.globals.size ≤ nB) {callf:FuncId → List LV → Hp → Nat → Option Out} (hc:CallOkW P nB B w0 callf) (s:Stg) (hob:Nat.ble OB s.f = false) (hr:stB s (callf s.f s.a (hpOf s.D) s.nx) = true) : FnOkW P nB B w0 s.f (stX nB s):=by
 intro args H nx out h hnx
 obtain ⟨h1,h2⟩:=stB_ok hr
 unfold stX at h
 generalize hσ : mchD nB H s.D (mchL nB s.a args []) = σ at h
 simp only at h
 split at h
 ·rename_i hb
  cases h
  simp only [Bool.and_eq_true] at hb
  obtain ⟨⟨⟨hK,hT⟩,hL,hD⟩,⟨hGv,hGd⟩,hN,hSB,hnB,hnBx⟩:=hb
  have hK':=insK_ok hK
  obtain ⟨hD1,hD2⟩:=insD_ok hD
  have hSB:=Nat.le_of_ble_eq_true hSB
  have hnB:=Nat.le_of_ble_eq_true hnB
  have hnBx:=Nat.le_of_ble_eq_true hnBx
  obtain ⟨g1,g2⟩:=hc _ _ _ _ _ hob h1 h2
  refine ⟨g1,fun ν vs w hν hvs hH hlow hinj hid hg hbl=>?_⟩
  have e0 : ∀ i,lkS σ i = none → envS nB σ ν i = if i < nB then ν i else none:=fun i hi=>by unfold envS; rw [hi]
  have e1 : ∀ i j,lkS σ i = some (.num j) → envS nB σ ν i = ν j:=fun i j hi=>by unfold envS; rw [hi]
  have hH0 : HRF (envS nB σ ν) (hpOf s.D) none w:=fun i k _ hk=>by
   obtain ⟨j,k',q1,q2,q3,_⟩:=hD1 i k (hpOf_get hk)
   obtain ⟨l,p1,p2⟩:=hH j k' trivial q2
   exact ⟨l,by rw [srcB_ok q1]; exact p1,insB_ok (KnOk.nil _ _ _) q3 p2⟩
  refine (g2 (envS nB σ ν) vs w (fun i q1 q2=>?_) (insL_ok (KnOk.nil _ _ _) hL hvs) hH0 (fun i k l _ hi hk hl=>?_) (fun i j ki kj li lj _ _ h3 h4 h5 h6 h7=>?_) (fun i k hk=>?_) (glob_envS hP hK hg) hbl).mono ?_
  ·cases hl : lkS σ i with
   | some x =>
    have q1' : s.nx ≤ i:=q1
    have q2' : i < s.nx':=q2
    rcases (hK' i x hl).2 with q | q <;> omega
   | none=>rw [e0 i hl,if_neg (by have:s.nx ≤ i:=q1; omega)]
  ·obtain ⟨j,k',q1,q2,q3,q4,q5,_⟩:=hD1 i k (hpOf_get hk)
   rw [srcB_ok q1] at hl
   exact hlow j k' l trivial (q5 hi) q2 hl
  ·obtain ⟨j1,k1,p1,p2,_⟩:=hD1 i ki (hpOf_get h3)
   obtain ⟨j2,k2,q1,q2,_⟩:=hD1 j kj (hpOf_get h4)
   rw [srcB_ok p1] at h5
   rw [srcB_ok q1] at h6
   have:=hinj j1 j2 k1 k2 li lj trivial trivial p2 q2 h5 h6 h7
   subst this
   exact hD2 i ki j kj j1 (hpOf_get h3) (hpOf_get h4) p1 q1
  ·obtain ⟨j,k',q1,q2,q3,q4,_⟩:=hD1 i k (hpOf_get hk)
   exact q4
  rintro e w' ⟨v',ν0,rfl,hp⟩
  have hext : ∀ i,¬ (s.nx ≤ i ∧ i < s.nx') → ν0 i = envS nB σ ν i:=hp.ext
  have hnx2 : Nat.add nx (Nat.sub s.nx' s.nx) = nx + (s.nx' - s.nx):=rfl
  -- the numbers behind the call
  let ν1 : Env:=fun i=>if nx ≤ i ∧ i < nx + (s.nx' - s.nx) then ν0 (i - nx + s.nx) else ν i
  have n1 : ∀ i,s.nx ≤ i → i < s.nx' → renN s.nx nx σ i = nx + (i - s.nx) ∧ ν1 (renN s.nx nx σ i) = ν0 i:=fun i q1 q2=>by
   have er : renN s.nx nx σ i = nx + (i - s.nx):=by unfold renN; rw [Nat.ble_eq_true_of_le q1]; rfl
   refine ⟨er,?_⟩
   rw [er]
   show (if nx ≤ nx + (i - s.nx) ∧ nx + (i - s.nx) < nx + (s.nx' - s.nx) then ν0 (nx + (i - s.nx) - nx + s.nx) else ν _) = ν0 i
   rw [if_pos (by omega),show nx + (i - s.nx) - nx + s.nx = i by omega]
  have n2 : ∀ i j,i < s.nx → lkS σ i = some (.num j) → renN s.nx nx σ i = j ∧ ν1 j = ν0 i:=fun i j q1 q2=>by
   have hb : Nat.ble s.nx i = false:=by
    cases hb : Nat.ble s.nx i with
    | false=>rfl
    | true=>have:=Nat.le_of_ble_eq_true hb; omega
   have er : renN s.nx nx σ i = j:=by unfold renN; rw [hb,q2]
   refine ⟨er,?_⟩
   obtain ⟨j',ej,hj⟩:=tgtS_ok hT q2
   cases ej
   show (if nx ≤ j ∧ j < nx + (s.nx' - s.nx) then ν0 (j - nx + s.nx) else ν j) = ν0 i
   rw [if_neg (by omega),hext i (by omega),e1 i j q2]
  have hren : ∀ i,numOk nB s.nx s.nx' σ i = true → ν1 (renN s.nx nx σ i) = ν0 i:=fun i hi=>by
   unfold numOk at hi
   simp only [Bool.or_eq_true,Bool.and_eq_true] at hi
   rcases hi with ⟨q1,q2⟩ | ⟨q1,q2⟩
   ·exact (n1 i (Nat.le_of_ble_eq_true q1) (Nat.le_of_ble_eq_true q2)).2
   ·have q1:=Nat.le_of_ble_eq_true q1
    cases hl : lkS σ i with
    | some x =>
     cases x with
     | num j=>obtain ⟨a1,a2⟩:=n2 i j (by omega) hl; rw [a1,a2]
     | lit n=>rw [hl] at q2; cases q2
    | none =>
     rw [hl] at q2
     have q2 : i + 1 ≤ nB:=Nat.le_of_ble_eq_true q2
     have hb : Nat.ble s.nx i = false:=by
      cases hb : Nat.ble s.nx i with
      | false=>rfl
      | true=>have:=Nat.le_of_ble_eq_true hb; omega
     have er : renN s.nx nx σ i = i:=by unfold renN; rw [hb,hl]
     rw [er,hext i (by omega),e0 i hl,if_pos (by omega)]
     show (if nx ≤ i ∧ i < nx + (s.nx' - s.nx) then ν0 (i - nx + s.nx) else ν i) = ν i
     rw [if_neg (by omega)]
  have hNd : nodupN (keysD s.d) = true:=nodup_of_map (by rw [← keys_renD]; exact hN)
  -- what stands behind a renamed change
  have back : ∀ {j:Nat} {x:Option Blk},dget (renD s.nx nx σ s.d) j = some x → ∃ i y,dget s.d i = some y ∧ j = renN s.nx nx σ i ∧ x = y.map (renB s.nx nx σ) ∧ numOk nB s.nx s.nx' σ i = true ∧ ∀ k,y = some k → goodL nB s.nx s.nx' σ k.cells = true:=by
   intro j x hj
   obtain ⟨i,y,q1,q2,q3⟩:=renD_mem (dget_mem hj)
   obtain ⟨q4,q5⟩:=goodD_mem hGd q1
   exact ⟨i,y,dget_of hNd q1,q2,q3,q4,q5⟩
  have fore : ∀ {i:Nat} {y:Option Blk},dget s.d i = some y → dget (renD s.nx nx σ s.d) (renN s.nx nx σ i) = some (y.map (renB s.nx nx σ)):=fun hi=>dget_of hN (mem_renD (dget_mem hi))
  -- old numbers of the change
  have oldN : ∀ i,i < s.nx → (dget s.d i).isSome = true → ∃ j,lkS σ i = some (.num j) ∧ nB ≤ i ∧ nB ≤ j ∧ (H.get j).isSome = true ∧ renN s.nx nx σ i = j ∧ j < nx ∧ envS nB σ ν i = ν j:=by
   intro i hi hd
   obtain ⟨q1,q2⟩:=hp.old i hi hd
   obtain ⟨k,hk⟩:=Option.isSome_iff_exists.1 q2
   obtain ⟨j,k',p1,p2,p3,p4,p5,_⟩:=hD1 i k (hpOf_get hk)
   have hl : lkS σ i = some (.num j):=by
    unfold srcB at p1
    split at p1
    ·rename_i j' hj'; cases p1; exact hj'
    ·cases p1
    ·rename_i hn
     split at p1
     ·rename_i hb; have:=Nat.le_of_ble_eq_true hb; omega
     ·cases p1
   exact ⟨j,hl,q1,p5 q1,by rw [p2]; rfl,(n2 i j hi hl).1,hid j k' p2,e1 i j hl⟩
  have big : ∀ i,numOk nB s.nx s.nx' σ i = true → (dget s.d i).isSome = true → nx ≤ renN s.nx nx σ i → s.nx ≤ i ∧ i < s.nx':=by
   intro i hi hd hge
   by_cases hlt : i < s.nx
   ·obtain ⟨j,_,_,_,_,q1,q2,_⟩:=oldN i hlt hd
    rw [q1] at hge
    omega
   ·exact ⟨by omega,hp.new i (by show s.nx ≤ i; omega) hd⟩
  have small : ∀ i,numOk nB s.nx s.nx' σ i = true → renN s.nx nx σ i < nx → i < s.nx:=by
   intro i hi hlt
   by_cases h3 : i < s.nx
   ·exact h3
   ·have hb : Nat.ble s.nx i = true:=Nat.ble_eq_true_of_le (by omega)
    have : renN s.nx nx σ i = nx + (i - s.nx):=by unfold renN; rw [hb]; rfl
    omega
  refine ⟨v',ν1,rfl,fun i hi=>?_,renV_ok hren hGv hp.val,fun j k hj=>?_,fun a ha hno=>?_,fun j k l hj hd hl=>?_,fun i j ki kj li lj hi hj h3 h4 h5 h6 h7=>?_,fun j hj hd=>?_,fun j hj hd=>?_,hp.below,hp.size⟩
  ·show (if nx ≤ i ∧ i < nx + (s.nx' - s.nx) then ν0 (i - nx + s.nx) else ν i) = ν i
   rw [if_neg (by rw [hnx2] at hi; exact hi)]
  ·obtain ⟨i,y,q1,rfl,q3,q4,q5⟩:=back hj
   cases y with
   | none=>cases q3
   | some k0 =>
    cases q3
    obtain ⟨l,p1,c,fr,b1,b2,b3,⟨pre,vs,rest,b4,b5,b6⟩,b7,b8,b9⟩:=hp.blk i k0 q1
    refine ⟨l,by rw [hren i q4]; exact p1,c,fr,b1,b2,fun he=>?_,⟨pre,vs,rest,b4,b5,renL_ok hren (q5 k0 rfl) b6⟩,?_,b8,b9⟩
    ·obtain ⟨c1,c2⟩:=b3 he
     exact ⟨by show (renL s.nx nx σ k0.cells).length = l.sz; rw [renL_len]; exact c1,c2⟩
    ·show (renL s.nx nx σ k0.cells).all LV.isOne = true
     rw [renL_one]; exact b7
  ·refine hp.frame a ha (fun i l hi hd hl=>?_)
   obtain ⟨j,q1,q2,q3,q4,q5,q6,q7⟩:=oldN i hi hd
   obtain ⟨y,hy⟩:=Option.isSome_iff_exists.1 hd
   refine hno j l q6 ?_ (by rw [← q7]; exact hl)
   have:=fore hy
   rw [q5] at this
   rw [this]; rfl
  ·obtain ⟨i,y,q1,rfl,q3,q4,q5⟩:=back hd
   cases y with
   | none=>cases q3
   | some k0 =>
    obtain ⟨r1,r2⟩:=big i q4 (by rw [q1]; rfl) hj
    rw [hren i q4] at hl
    rcases hp.fresh i k0 l r1 q1 hl with h3 | ⟨i2,l2,a1,a2,a3,a4⟩
    ·exact .inl h3
    ·obtain ⟨j2,b1,b2,b3,b4,b5,b6,b7⟩:=oldN i2 a1 (by rw [a2]; rfl)
     refine .inr ⟨j2,l2,b6,?_,by rw [← b7]; exact a3,a4⟩
     have:=fore a2
     rw [b5] at this
     exact this
  ·obtain ⟨i1,y1,q1,rfl,q3,q4,_⟩:=back h3
   obtain ⟨i2,y2,p1,rfl,p3,p4,_⟩:=back h4
   cases y1 with
   | none=>cases q3
   | some k1 =>
    cases y2 with
    | none=>cases p3
    | some k2 =>
     obtain ⟨r1,_⟩:=big i1 q4 (by rw [q1]; rfl) hi
     obtain ⟨r2,_⟩:=big i2 p4 (by rw [p1]; rfl) hj
     rw [hren i1 q4] at h5
     rw [hren i2 p4] at h6
     have:=hp.inj i1 i2 k1 k2 li lj r1 r2 q1 p1 h5 h6 h7
     rw [this]
  ·obtain ⟨x,hx⟩:=Option.isSome_iff_exists.1 hd
   obtain ⟨i,y,q1,rfl,q3,q4,_⟩:=back hx
   obtain ⟨j,b1,b2,b3,b4,b5,b6,b7⟩:=oldN i (small i q4 hj) (by rw [q1]; rfl)
   rw [b5]
   exact ⟨b3,b4⟩
  ·obtain ⟨x,hx⟩:=Option.isSome_iff_exists.1 hd
   obtain ⟨i,y,q1,rfl,q3,q4,_⟩:=back hx
   obtain ⟨r1,r2⟩:=big i q4 (by rw [q1]; rfl) hj
   show renN s.nx nx σ i < Nat.add nx (Nat.sub s.nx' s.nx)
   rw [(n1 i r1 r2).1,hnx2]
   omega
 ·cases h
end
end Go.Proofs.YtjpfhhndjpdmoaaGreatDoor

namespace Go.Proofs.YtjpfhhndjpdmoaaGreatDoor
open Go.RowKit
set_option linter.unusedVariables false
set_option linter.unusedSimpArgs false

abbrev moF : FuncId:=115
abbrev reF : FuncId:=144
noncomputable def orcT0 : Orc:=withO moF pressMO (withO reF repO orcS)
noncomputable def cfT0 : FuncId → List LV → Hp → Nat → Option Out:=evFQ Tryz.prog GN 100000 orcT0 60
noncomputable def orcT1 : Orc:=withO rsF (fallO (evRsplit GN cfT0) (cfT0 rsF)) orcT0
noncomputable def cfT1 : FuncId → List LV → Hp → Nat → Option Out:=evFQ Tryz.prog GN 100000 orcT1 60
theorem obTT : Nat.ble OB moF = false ∧ Nat.ble OB reF = false ∧ Nat.ble OB rsF = false:=⟨by kernel_rfl,by kernel_rfl,by kernel_rfl⟩
theorem noH_T0 : NoH orcT0:=noH_with obTT.1 (noH_with obTT.2.1 noH_S)
theorem noH_T1 : NoH orcT1:=noH_with obTT.2.2 noH_T0
section
variable {w:World} (hW:HashW w) (hC:CurveW w) (hO:OldW w)
include hW hC hO
theorem orcT0_ok : OrcOkW Tryz.prog GN w.heap.size w orcT0:=withO_ok (pressM_ok hO).wide (withO_ok rep_ok.wide (CallOk.wide (orcS_ok hW hC)))
theorem cfT0_ok : CallOkW Tryz.prog GN w.heap.size w cfT0:=by
 unfold cfT0
 rw [evFQ_evF]
 exact evF_okW (by kernel_rfl) (Nat.le_refl _) noGo szOB noH_T0 (orcT0_ok hW hC hO) 60
theorem evT0_ok : EvOk Tryz.prog (GlobE Tryz.prog) GN w.heap.size w cfT0:=by
 refine ⟨cfT0_ok hW hC hO,?_⟩
 unfold cfT0
 rw [evFQ_evF]
 exact noOps szOB noH_T0
theorem orcT1_ok : OrcOkW Tryz.prog GN w.heap.size w orcT1 :=
 withO_ok (fallO_ok (FnOk.wide (rsplit_ok (evT0_ok hW hC hO) (Nat.le_refl _))) (fun args H nx out e hn=>cfT0_ok hW hC hO rsF args H nx out obTT.2.2 e hn)) (orcT0_ok hW hC hO)
theorem cfT1_ok : CallOkW Tryz.prog GN w.heap.size w cfT1:=by
 unfold cfT1
 rw [evFQ_evF]
 exact evF_okW (by kernel_rfl) (Nat.le_refl _) noGo szOB noH_T1 (orcT1_ok hW hC hO) 60
end
end Go.Proofs.YtjpfhhndjpdmoaaGreatDoor

namespace Go.Proofs.YtjpfhhndjpdmoaaGreatDoor
open Go.RowKit
def sv0 : Stg:=⟨21,[(.slice 4582 0 1 1),(.v (.int .i64 1)),(.v (.string ⟨#[]⟩)),(.v (.bool false)),(.buf 4589 0 8 1)],[(4582,⟨5,true,true,(q8 [115])⟩),(4589,⟨5,false,true,(q8 [2,0,0,8,1,98,111,98])⟩)],4590,(.buf 4614 0 48 1),[(4614,some ⟨5,false,true,(q8 [1,1,0,48,1,0,7,0,0,0,0,0,0,0,0,0,0,0,0,0,79,10,2,0,0,8,1,98,111,98,80,18,167,71,6,171,7,101,214,217,224,92,164,238,129,190,224,34])⟩)],4762⟩
theorem sv0_run : stB sv0 (cfT1 sv0.f sv0.a (hpOf sv0.D) sv0.nx) = true:=by kernel_rfl
def sv1 : Stg:=⟨70,[(.buf 4614 0 48 1),(.buf 4580 0 1 1)],[(4614,⟨5,false,true,(q8 [1,1,0,48,1,0,7,0,0,0,0,0,0,0,0,0,0,0,0,0,79,10,2,0,0,8,1,98,111,98,80,18,167,71,6,171,7,101,214,217,224,92,164,238,129,190,224,34])⟩),(4580,⟨5,false,false,(q8 [115])⟩)],4763,(.tup [(.agg [(.v (.int .i64 1)),(.v (.int .i64 1)),(.v (.int .u8 1)),(.v (.int .u8 0)),(.v (.int .u8 7)),(.v (.int .u8 0)),(.v (.int .u8 0)),(.v (.int .u8 0)),(.v (.int .u8 0)),(.v (.int .u8 0)),(.v (.int .u8 0)),(.v (.int .u8 0)),(.v (.int .u8 0)),(.v (.int .u8 0)),(.v (.int .u8 0)),(.v (.int .u8 0)),(.v (.int .u8 0)),(.v (.int .u8 0)),(.buf 4782 0 1 2)]),(.v (.int .i64 0))]),[(4768,some ⟨5,false,false,(q8 [2,0,0,8,1,98,111,98])⟩),(4782,some ⟨105,false,false,[(.v (.int .i64 79)),(.buf 4768 0 8 1),(.v (.int .i64 0)),(.v (.slice none 0 0))]⟩)],4942⟩
theorem sv1_run : stB sv1 (cfT1 sv1.f sv1.a (hpOf sv1.D) sv1.nx) = true:=by kernel_rfl
def sv2 : Stg:=⟨75,[(.agg [(.v (.int .i64 11)),(.v (.int .i64 1)),(.v (.int .u8 0)),(.v (.int .u8 0)),(.v (.int .u8 0)),(.v (.int .u8 0)),(.v (.int .u8 0)),(.v (.int .u8 0)),(.v (.int .u8 0)),(.v (.int .u8 0)),(.v (.int .u8 0)),(.v (.int .u8 0)),(.v (.int .u8 0)),(.v (.int .u8 0)),(.v (.int .u8 0)),(.v (.int .u8 0)),(.v (.int .u8 0)),(.v (.int .u8 0)),(.buf 5032 0 2 2)]),(.agg (q8 [1,0,7,0,0,0,0,0,0,0,0,0,0,0,0,0])),(.buf 4580 0 1 1)],[(5032,⟨105,false,false,[(.v (.int .i64 24)),(.buf 5017 0 8 1),(.v (.int .i64 79)),(.buf 5029 0 6 1)]⟩),(5017,⟨5,false,true,(q8 [0,0,0,0,0,0,0,1])⟩),(5029,⟨5,false,false,(q8 [1,1,0,6,13,32])⟩),(4580,⟨5,false,false,(q8 [115])⟩)],5034,(.tup [(.buf 5056 0 56 1),(.v (.int .i64 0))]),[(5056,some ⟨5,false,true,(q8 [11,1,0,56,211,187,131,81,244,94,52,204,108,203,217,141,154,250,234,96,24,10,0,0,0,0,0,0,0,1,79,8,1,1,0,6,13,32,80,18,43,243,13,158,195,32,102,25,190,179,211,71,170,227,233,183])⟩)],5464⟩
theorem sv2_run : stB sv2 (cfT1 sv2.f sv2.a (hpOf sv2.D) sv2.nx) = true:=by kernel_rfl
def sv3 : Stg:=⟨41,[(.buf 5470 0 56 1),(.agg (q8 [1,0,7,0,0,0,0,0,0,0,0,0,0,0,0,0])),(.slice 5472 0 1 1)],[(5470,⟨5,false,false,(q8 [11,1,0,56,211,187,131,81,244,94,52,204,108,203,217,141,154,250,234,96,24,10,0,0,0,0,0,0,0,1,79,8,1,1,0,6,13,32,80,18,43,243,13,158,195,32,102,25,190,179,211,71,170,227,233,183])⟩),(5472,⟨5,true,true,(q8 [115])⟩)],5473,(.tup [(.agg [(.v (.int .i64 11)),(.v (.int .i64 1)),(.v (.int .u8 211)),(.v (.int .u8 187)),(.v (.int .u8 131)),(.v (.int .u8 81)),(.v (.int .u8 244)),(.v (.int .u8 94)),(.v (.int .u8 52)),(.v (.int .u8 204)),(.v (.int .u8 108)),(.v (.int .u8 203)),(.v (.int .u8 217)),(.v (.int .u8 141)),(.v (.int .u8 154)),(.v (.int .u8 250)),(.v (.int .u8 234)),(.v (.int .u8 96)),(.buf 5647 0 2 2)]),(.v (.int .i64 0))]),[(5483,some ⟨5,false,false,(q8 [1,1,0,6,13,32])⟩),(5479,some ⟨5,false,false,(q8 [0,0,0,0,0,0,0,1])⟩),(5647,some ⟨105,false,false,[(.v (.int .i64 24)),(.buf 5479 0 8 1),(.v (.int .i64 79)),(.buf 5483 0 6 1),(.v (.int .i64 0)),(.v (.slice none 0 0))]⟩)],5923⟩
theorem sv3_run : stB sv3 (cfT1 sv3.f sv3.a (hpOf sv3.D) sv3.nx) = true:=by kernel_rfl
end Go.Proofs.YtjpfhhndjpdmoaaGreatDoor

namespace Go.Proofs.YtjpfhhndjpdmoaaGreatDoor
open Go.RowKit
set_option linter.unusedVariables false
set_option linter.unusedSimpArgs false

def anyX (nB:Nat) : List Stg → List LV → Hp → Nat → Option Out
 | [],_,_,_=>none
 | s :: l,args,H,nx=>match stX nB s args H nx with
  | some o=>some o
  | none=>anyX nB l args H nx
theorem anyX_ok {P:Program} {nB B:Nat} {w0:World} {f:FuncId} : ∀ {l:List Stg},(∀ s ∈ l,FnOkW P nB B w0 f (stX nB s)) → FnOkW P nB B w0 f (anyX nB l)
 | [],_=>fun args H nx out e hn=>by cases e
 | s :: l,h=>fun args H nx out e hn=>by
  unfold anyX at e
  split at e
  ·rename_i o ho
   cases e
   exact h s (List.mem_cons_self ..) args H nx _ ho hn
  ·exact anyX_ok (fun t ht=>h t (List.mem_cons_of_mem _ ht)) args H nx out e hn
abbrev akF : FuncId:=21
abbrev opF : FuncId:=70
abbrev ryF : FuncId:=75
abbrev odF : FuncId:=41
abbrev svF : FuncId:=20
noncomputable def orcV2 : Orc:=withO akF (fallO (anyX GN [sv0]) (cfT1 akF)) (withO opF (fallO (anyX GN [sv1]) (cfT1 opF)) (withO ryF (fallO (anyX GN [sv2]) (cfT1 ryF)) (withO odF (fallO (anyX GN [sv3]) (cfT1 odF)) orcT1)))
noncomputable def cfV2 : FuncId → List LV → Hp → Nat → Option Out:=evFQ Tryz.prog GN 100000 orcV2 60
theorem obT2 : Nat.ble OB akF = false ∧ Nat.ble OB opF = false ∧ Nat.ble OB ryF = false ∧ Nat.ble OB odF = false ∧ Nat.ble OB svF = false:=⟨by kernel_rfl,by kernel_rfl,by kernel_rfl,by kernel_rfl,by kernel_rfl⟩
theorem noH_V2 : NoH orcV2:=noH_with obT2.1 (noH_with obT2.2.1 (noH_with obT2.2.2.1 (noH_with obT2.2.2.2.1 noH_T1)))
theorem glSz : Tryz.prog.globals.size ≤ GN:=Nat.le_of_ble_eq_true (by kernel_rfl)
section
variable {w:World} (hW:HashW w) (hC:CurveW w) (hO:OldW w)
include hW hC hO
theorem orcV2_ok : OrcOkW Tryz.prog GN w.heap.size w orcV2:=by
 have hc:=cfT1_ok hW hC hO
 refine withO_ok (fallO_ok (anyX_ok (fun s hs=>by obtain rfl:=List.mem_singleton.1 hs; exact stX_ok glSz hc sv0 obT2.1 sv0_run)) (fun args H nx out e hn=>hc akF args H nx out obT2.1 e hn)) ?_
 refine withO_ok (fallO_ok (anyX_ok (fun s hs=>by obtain rfl:=List.mem_singleton.1 hs; exact stX_ok glSz hc sv1 obT2.2.1 sv1_run)) (fun args H nx out e hn=>hc opF args H nx out obT2.2.1 e hn)) ?_
 refine withO_ok (fallO_ok (anyX_ok (fun s hs=>by obtain rfl:=List.mem_singleton.1 hs; exact stX_ok glSz hc sv2 obT2.2.2.1 sv2_run)) (fun args H nx out e hn=>hc ryF args H nx out obT2.2.2.1 e hn)) ?_
 refine withO_ok (fallO_ok (anyX_ok (fun s hs=>by obtain rfl:=List.mem_singleton.1 hs; exact stX_ok glSz hc sv3 obT2.2.2.2.1 sv3_run)) (fun args H nx out e hn=>hc odF args H nx out obT2.2.2.2.1 e hn)) ?_
 exact orcT1_ok hW hC hO
theorem cfV2_ok : CallOkW Tryz.prog GN w.heap.size w cfV2:=by
 unfold cfV2
 rw [evFQ_evF]
 exact evF_okW (by kernel_rfl) (Nat.le_refl _) noGo szOB noH_V2 (orcV2_ok hW hC hO) 60
end
set_option maxRecDepth 100000 in
theorem servers_run (t1 t2 t3 t4 t5 t6 t7:TypeId) : isTrueO (cfV2 svF [] (GH t1 t2 t3 t4 t5 t6 t7) GN) = true:=by kernel_rfl
theorem servers_any (w:World) (hW:HashW w) (hC:CurveW w) (hO:OldW w) : Calls Tryz.prog svF #[] w fun e w'=>e = .returned (.bool true) ∧ Below w.heap.size w w':=by
 obtain ⟨t1,t2,t3,t4,t5,t6,t7,hg⟩:=grows hW hC
 have hr:=servers_run t1 t2 t3 t4 t5 t6 t7
 cases ho : cfV2 svF [] (GH t1 t2 t3 t4 t5 t6 t7) GN with
 | none=>rw [ho] at hr; cases hr
 | some out =>
  rw [ho] at hr
  have hv : out.v = .v (.bool true) ∧ GN ≤ out.nx:=by
   unfold isTrueO at hr
   split at hr
   ·rename_i e; cases e; exact ⟨rfl,Nat.le_of_ble_eq_true hr⟩
   ·cases hr
  obtain ⟨_,h3⟩:=cfV2_ok hW hC hO svF [] _ _ out obT2.2.2.2.2 ho hv.2
  refine (h3 (nu0 t1 t2 t3 t4 t5 t6 t7) [] w (fun i hi _=>?_) (VRs.nil_iff.2 rfl) (fun i k _ hk=>gh_hrf hg i k trivial hk) (fun i k l _ hi hk _=>?_) (fun i j ki kj li lj _ _ _ _ h4 h5 h6=>?_) (fun i k hk=>gh_low hk) (fun g hg'=>?_) (Below.refl _ w)).mono ?_
  ·unfold nu0; rw [if_neg (by omega)]
  ·have:=gh_low hk; omega
  ·rw [← nu0_some h4,← nu0_some h5,h6]
  ·have hs : Tryz.prog.globals.size = GN:=by kernel_rfl
   rw [hs] at hg'
   exact ⟨_,by unfold nu0; rw [if_pos hg']⟩
  rintro e w' ⟨v',ν',rfl,hp⟩
  have h1:=hp.val
  rw [hv.1] at h1
  simp only [VR] at h1
  rw [h1.1]
  exact ⟨rfl,hp.below⟩
def srvO : List LV → Hp → Nat → Option Out:=fun args H nx=>match args with
 | []=>some ⟨.v (.bool true),[],nx,none⟩
 | _=>none
section
variable {w:World} (hW:HashW w) (hC:CurveW w) (hO:OldW w)
include hW hC hO
theorem srv_ok : OneOk GN w svF srvO:=by
 intro args H nx out h
 unfold srvO at h
 split at h
 ·rw [val_inv h]
  exact orc_val ⟨_,Tryz.func20,by kernel_rfl,by kernel_rfl⟩ (fun ν vs w' hvs hH hb=>by
   obtain rfl:=VRs.nil_iff.1 hvs
   exact ⟨.bool true,by simp [VR,plainV],servers_any w' (hW.below hb) (hC.below hb) (hO.below hb)⟩)
 ·cases h
end
end Go.Proofs.YtjpfhhndjpdmoaaGreatDoor
