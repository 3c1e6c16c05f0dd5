/- Part of the proof: EvSt,Sg0,Sg1,Sg2,Sg3,Sg4. No conditions of its own. -/
import Derived.Test.YtjpfhhndjpdmoaaGreatDoorS27
namespace Go.Proofs.YtjpfhhndjpdmoaaGreatDoor
open Go.RowKit
set_option linter.unusedVariables false
set_option linter.unusedSimpArgs false
set_option autoImplicit false

def q8 (l:List Nat) : List LV:=l.map fun q=>LV.v (.int .u8 (.ofNat q))
def eqN : List UInt8 → List UInt8 → Bool
 | [],[]=>true
 | a :: l,b :: m=>Nat.beq a.toNat b.toNat && eqN l m
 | _,_=>false
theorem nbeq {a b:Nat} (h:Nat.beq a b = true) : a = b:=Nat.eq_of_beq_eq_true h
theorem eqN_ok : ∀ {l m:List UInt8},eqN l m = true → l = m
 | [],[],_=>rfl
 | a :: l,b :: m,h=>by
  simp only [eqN,Bool.and_eq_true] at h
  rw [UInt8.toNat_inj.1 (nbeq h.1),eqN_ok h.2]
 | [],_ :: _,h=>by cases h
 | _ :: _,[],h=>by cases h
def eqI : Int → Int → Bool
 | .ofNat a,.ofNat b=>Nat.beq a b
 | .negSucc a,.negSucc b=>Nat.beq a b
 | _,_=>false
theorem eqI_ok {a b:Int} (h:eqI a b = true) : a = b:=by
 cases a <;> cases b <;> first | (rw [nbeq (show Nat.beq _ _ = true from h)]) | cases h
def eqV : Value → Value → Bool
 | .bool a,.bool b=>a == b
 | .int k m,.int k' n=>Nat.beq (kindN k) (kindN k') && eqI m n
 | .string a,.string b=>eqN a.data.toList b.data.toList
 | .pointer none,.pointer none=>true
 | .slice none 0 0,.slice none 0 0=>true
 | .nilFunc,.nilFunc=>true
 | .nilIface,.nilIface=>true
 | _,_=>false
theorem eqV_ok {x y:Value} (h:eqV x y = true) : x = y:=by
 unfold eqV at h
 split at h
 ·rw [eq_of_beq h]
 ·simp only [Bool.and_eq_true] at h
  rw [kindN_inj h.1,eqI_ok h.2]
 ·rename_i a b
  obtain ⟨⟨a⟩⟩:=a
  obtain ⟨⟨b⟩⟩:=b
  rw [show a = b from eqN_ok h]
 all_goals first | rfl | cases h
mutual
def eqLV : LV → LV → Bool
 | .v x,.v y=>eqV x y
 | .ptr b o,.ptr c p=>Nat.beq b c && Nat.beq o p
 | .slice b o n c,.slice b' o' n' c'=>(Nat.beq b b' && Nat.beq o o') && (Nat.beq n n' && Nat.beq c c')
 | .buf b o n c,.buf b' o' n' c'=>(Nat.beq b b' && Nat.beq o o') && (Nat.beq n n' && Nat.beq c c')
 | .emp,.emp=>true
 | .sym b k lo hi ne,.sym b' k' lo' hi' ne'=>(Nat.beq b b' && Nat.beq (kindN k) (kindN k')) && (Nat.beq lo lo' && (Nat.beq hi hi' && (ne == ne')))
 | .str l,.str m=>eqLs l m
 | .outS b,.outS c=>Nat.beq b c
 | .outP b,.outP c=>Nat.beq b c
 | .agg l,.agg m=>eqLs l m
 | .tup l,.tup m=>eqLs l m
 | .ifc t x,.ifc u y=>Nat.beq t u && eqLV x y
 | _,_=>false
def eqLs : List LV → List LV → Bool
 | [],[]=>true
 | x :: l,y :: m=>eqLV x y && eqLs l m
 | _,_=>false
end
mutual
theorem eqLV_ok : ∀ {x y:LV},eqLV x y = true → x = y
 | .v x,y,h=>by
  cases y <;> simp only [eqLV] at h <;> first | cases h | rw [eqV_ok h]
 | .ptr b o,y,h=>by
  cases y <;> simp only [eqLV,Bool.and_eq_true] at h <;> first | cases h; done | rw [nbeq h.1,nbeq h.2]
 | .slice b o n c,y,h=>by
  cases y <;> simp only [eqLV,Bool.and_eq_true] at h <;> first | cases h; done | rw [nbeq h.1.1,nbeq h.1.2,nbeq h.2.1,nbeq h.2.2]
 | .buf b o n c,y,h=>by
  cases y <;> simp only [eqLV,Bool.and_eq_true] at h <;> first | cases h; done | rw [nbeq h.1.1,nbeq h.1.2,nbeq h.2.1,nbeq h.2.2]
 | .emp,y,h=>by
  cases y <;> simp only [eqLV] at h <;> first | rfl | cases h
 | .sym b k lo hi ne,y,h=>by
  cases y <;> simp only [eqLV,Bool.and_eq_true] at h <;> first | cases h; done | rw [nbeq h.1.1,kindN_inj h.1.2,nbeq h.2.1,nbeq h.2.2.1,eq_of_beq h.2.2.2]
 | .str l,y,h=>by
  cases y <;> simp only [eqLV] at h <;> first | (rw [eqLs_ok h]) | cases h
 | .agg l,y,h=>by
  cases y <;> simp only [eqLV] at h <;> first | (rw [eqLs_ok h]) | cases h
 | .tup l,y,h=>by
  cases y <;> simp only [eqLV] at h <;> first | (rw [eqLs_ok h]) | cases h
 | .fn f l,y,h=>by
  cases y <;> simp only [eqLV] at h <;> cases h
 | .ifc t x,y,h=>by
  cases y <;> simp only [eqLV,Bool.and_eq_true] at h <;> first | (cases h; done) | rw [nbeq h.1,eqLV_ok h.2]
 | .outS b,y,h=>by
  cases y <;> simp only [eqLV] at h <;> first | (cases h; done) | rw [nbeq h]
 | .outP b,y,h=>by
  cases y <;> simp only [eqLV] at h <;> first | (cases h; done) | rw [nbeq h]
theorem eqLs_ok : ∀ {l m:List LV},eqLs l m = true → l = m
 | [],m,h=>by cases m <;> first | rfl | cases h
 | x :: l,m,h=>by
  cases m with
  | nil=>cases h
  | cons y m =>
   simp only [eqLs,Bool.and_eq_true] at h
   rw [eqLV_ok h.1,eqLs_ok h.2]
end
def eqB (k k':Blk) : Bool:=(Nat.beq k.elem k'.elem && (k.exact == k'.exact)) && ((k.mrk == k'.mrk) && eqLs k.cells k'.cells)
theorem eqB_ok {k k':Blk} (h:eqB k k' = true) : k = k':=by
 cases k; cases k'
 simp only [eqB,Bool.and_eq_true] at h
 rw [show _ = _ from nbeq h.1.1,show _ = _ from eq_of_beq h.1.2,show _ = _ from eq_of_beq h.2.1,show _ = _ from eqLs_ok h.2.2]
def eqD : Dl → Dl → Bool
 | [],[]=>true
 | (i,some k) :: l,(j,some k') :: m=>(Nat.beq i j && eqB k k') && eqD l m
 | (i,none) :: l,(j,none) :: m=>Nat.beq i j && eqD l m
 | _,_=>false
theorem eqD_ok : ∀ {l m:Dl},eqD l m = true → l = m
 | [],[],_=>rfl
 | (i,some k) :: l,(j,some k') :: m,h=>by
  simp only [eqD,Bool.and_eq_true] at h
  rw [nbeq h.1.1,eqB_ok h.1.2,eqD_ok h.2]
 | (i,none) :: l,(j,none) :: m,h=>by
  simp only [eqD,Bool.and_eq_true] at h
  rw [nbeq h.1,eqD_ok h.2]
 | [],_ :: _,h=>by cases h
 | (_,some _) :: _,[],h=>by cases h
 | (_,none) :: _,[],h=>by cases h
 | (_,some _) :: _,(_,none) :: _,h=>by cases h
 | (_,none) :: _,(_,some _) :: _,h=>by cases h
structure Stg where
 f : FuncId
 a : List LV
 D : List (Nat × Blk)
 nx : Nat
 v : LV
 d : Dl
 nx' : Nat
def hpOf (D:List (Nat × Blk)) : Hp:=Hp.app .nil (D.map fun p=>(p.1,some p.2))
def subB (H:Hp) : List (Nat × Blk) → Bool
 | []=>true
 | (i,k) :: D=>(match H.get i with | some k'=>eqB k k' | none=>false) && subB H D
def stO (s:Stg) (args:List LV) (H:Hp) (nx:Nat) : Option Out:=match (eqLs s.a args && Nat.beq s.nx nx) && subB H s.D with
 | true=>some ⟨s.v,s.d,s.nx',none⟩
 | false=>none
def stB (s:Stg) : Option Out → Bool
 | some ⟨v,d,nx,none⟩=>(eqLV v s.v && eqD d s.d) && (Nat.beq nx s.nx' && Nat.ble s.nx s.nx')
 | _=>false
theorem stB_ok {s:Stg} {r:Option Out} (h:stB s r = true) : r = some ⟨s.v,s.d,s.nx',none⟩ ∧ s.nx ≤ s.nx':=by
 unfold stB at h
 split at h
 ·simp only [Bool.and_eq_true] at h
  rw [eqLV_ok h.1.1,eqD_ok h.1.2,nbeq h.2.1]
  exact ⟨rfl,Nat.le_of_ble_eq_true h.2.2⟩
 ·cases h
theorem subB_ok {H:Hp} : ∀ {D:List (Nat × Blk)},subB H D = true → ∀ i k,(i,k) ∈ D → H.get i = some k
 | [],_,i,k,hm=>by cases hm
 | (j,k') :: D,h,i,k,hm=>by
  simp only [subB,Bool.and_eq_true] at h
  rcases List.mem_cons.1 hm with e | hm
  ·obtain ⟨e1,e2⟩:=Prod.mk.inj e
   rw [e1,e2]
   have h1:=h.1
   cases hj : H.get j with
   | none=>rw [hj] at h1; cases h1
   | some k''=>rw [hj] at h1; rw [eqB_ok h1]
  ·exact subB_ok h.2 i k hm
theorem hpOf_get {D:List (Nat × Blk)} {i:Nat} {k:Blk} (h:(hpOf D).get i = some k) : (i,k) ∈ D:=by
 unfold hpOf at h
 rw [get_app] at h
 have key : ∀ (D:List (Nat × Blk)) (x:Option Blk),dget (D.map fun p=>(p.1,some p.2)) i = some x → x = some k → (i,k) ∈ D:=by
  intro D
  induction D with
  | nil=>intro x h; cases h
  | cons p D ih =>
   intro x h hx
   obtain ⟨j,b⟩:=p
   subst hx
   simp only [List.map_cons,dget] at h
   split at h
   ·rename_i y hy
    cases h
    exact List.mem_cons_of_mem _ (ih _ hy rfl)
   ·split at h
    ·rename_i hj
     cases h
     subst hj
     exact List.mem_cons_self ..
    ·cases h
 split at h
 ·rename_i x hx
  exact key D x hx h
 ·cases h
section
variable {P:Program} {nB B:Nat} {w0:World}
def FnOk (P:Program) (nB B:Nat) (w0:World) (f:FuncId) (g:List LV → Hp → Nat → Option Out) : Prop :=
 ∀ args H nx out,g args H nx = some out → nx ≤ out.nx → FnHas P f ∧ out.foot = none ∧ ∀ (ν : Env) (vs:List Value) (w:World),(∀ i,nx ≤ i → i < out.nx → ν i = none) → VRs ν args vs → HRF ν H none w → LowF nB B ν H none → InjH ν H → (∀ i k,H.get i = some k → i < nx) → GlobE P ν → Below B w0 w →
  Calls P f vs.toArray w (fun e w'=>∃ v' ν',e = .returned v' ∧ OpPost nB B w0 ν ν' H nx out w w' v')
theorem stO_ok {callf:FuncId → List LV → Hp → Nat → Option Out} (hc:CallOk P nB B w0 callf) (s:Stg) (hob:Nat.ble OB s.f = false) (hr:stB s (callf s.f s.a (hpOf s.D) s.nx) = true) : FnOk P nB B w0 s.f (stO s):=by
 intro args H nx out h hnx
 obtain ⟨h1,h2⟩:=stB_ok hr
 unfold stO at h
 split at h
 ·rename_i hb
  cases h
  simp only [Bool.and_eq_true] at hb
  have ha:=eqLs_ok hb.1.1
  have hn:=nbeq hb.1.2
  subst hn
  have hsub : ∀ i k,(hpOf s.D).get i = some k → H.get i = some k:=fun i k hg=>subB_ok hb.2 i k (hpOf_get hg)
  obtain ⟨g1,g2,g3⟩:=hc _ _ _ _ _ hob h1 h2
  refine ⟨g1,rfl,fun ν vs w hν hvs hH hlow hinj hid hg hbl=>?_⟩
  rw [← ha] at hvs
  refine (g3 ν vs w hν hvs (fun i k hf hk=>hH i k hf (hsub i k hk)) (fun i k l hf hi hk hl=>hlow i k l hf hi (hsub i k hk) hl) (fun i j ki kj li lj h3 h4 h5 h6 h7=>hinj i j ki kj li lj (hsub _ _ h3) (hsub _ _ h4) h5 h6 h7) (fun i k hk=>hid i k (hsub i k hk)) hg hbl).mono ?_
  rintro e w' ⟨v',ν',rfl,hp⟩
  refine ⟨v',ν',rfl,hp.ext,hp.val,hp.blk,hp.frame,hp.fresh,hp.inj,fun i hi hd=>?_,hp.new,hp.below,hp.size⟩
  obtain ⟨q1,q2⟩:=hp.old i hi hd
  refine ⟨q1,?_⟩
  obtain ⟨k,hk⟩:=Option.isSome_iff_exists.1 q2
  rw [hsub i k hk]
  all_goals rfl
 ·cases h
def anyO : List Stg → FuncId → List LV → Hp → Nat → Option Out
 | [],_,_,_,_=>none
 | s :: l,f,args,H,nx=>match Nat.beq f s.f with
  | true=>match stO s args H nx with
   | some o=>some o
   | none=>anyO l f args H nx
  | false=>anyO l f args H nx
theorem anyO_ok {l:List Stg} (h:∀ s ∈ l,FnOk P nB B w0 s.f (stO s)) (f:FuncId) : FnOk P nB B w0 f (anyO l f):=by
 induction l with
 | nil=>intro args H nx out h; cases h
 | cons s l ih =>
  intro args H nx out h1
  unfold anyO at h1
  have ih':=ih (fun t ht=>h t (List.mem_cons_of_mem _ ht))
  split at h1
  ·rename_i hf
   have hf:=nbeq hf
   subst hf
   split at h1
   ·rename_i o ho
    cases h1
    exact h s (List.mem_cons_self ..) args H nx out ho
   ·exact ih' args H nx out h1
  ·exact ih' args H nx out h1
def stageO (fs:List FuncId) (l:List Stg) (orc:Orc) : Orc:=fun f=>match fs.any (Nat.beq f) with
 | true=>some (anyO l f)
 | false=>orc f
theorem stageO_ok {fs:List FuncId} {l:List Stg} {orc:Orc} (h:∀ s ∈ l,FnOk P nB B w0 s.f (stO s)) (ho:OrcOk P nB B w0 orc) : OrcOk P nB B w0 (stageO fs l orc):=by
 intro f args H nx out hob h1
 have h2 : (match stageO fs l orc f with | some g=>g args H nx | none=>none) = some out:=h1
 unfold stageO at h2
 cases hf : fs.any (Nat.beq f) with
 | true =>
  rw [hf] at h2
  exact anyO_ok h f args H nx out h2
 | false =>
  rw [hf] at h2
  exact ho f args H nx out hob h2
theorem noH_stage {fs:List FuncId} {l:List Stg} {orc:Orc} (h:(fs.all fun g=>!Nat.ble OB g) = true) (ho:NoH orc) : NoH (stageO fs l orc):=by
 intro f hf
 unfold stageO
 have hn : fs.any (Nat.beq f) = false:=by
  rw [List.any_eq_false]
  intro g hg hb
  have h1:=List.all_eq_true.1 h g hg
  rw [← nbeq hb,hf] at h1
  simp at h1
 rw [hn]
 exact ho f hf
end
end Go.Proofs.YtjpfhhndjpdmoaaGreatDoor

namespace Go.Proofs.YtjpfhhndjpdmoaaGreatDoor
open Go.RowKit
def sg0 : Stg:=⟨84,[(.agg (q8 [3,0,0,0,0,0,0,0,0,0,0,0,0,0,0,0,0,0,0,0,0,0,0,0,0,0,0,0,0,0,0,1])),(.agg (q8 [107,23,209,242,225,44,66,71,248,188,230,229,99,164,64,242,119,3,125,129,45,235,51,160,244,161,57,69,216,152,194,150,79,227,66,226,254,26,127,155,142,231,235,74,124,15,158,22,43,206,51,87,107,49,94,206,203,182,64,104,55,191,81,245]))],[],21,(.agg (q8 [153,95,123,98,33,154,66,70,244,115,118,65,26,205,177,105,5,93,141,222,239,84,122,208,225,12,44,85,188,77,193,111,188,193,162,112,89,74,172,83,188,101,97,201,95,58,170,119,18,71,62,143,159,77,83,173,225,7,124,85,137,115,128,207])),[],21⟩
theorem sg0_run : stB sg0 (orcC sg0.f sg0.a (hpOf sg0.D) sg0.nx) = true:=by kernel_rfl
end Go.Proofs.YtjpfhhndjpdmoaaGreatDoor

namespace Go.Proofs.YtjpfhhndjpdmoaaGreatDoor
open Go.RowKit
def sg1 : Stg:=⟨84,[(.agg (q8 [3,0,0,0,0,0,0,0,0,0,0,0,0,0,0,0,0,0,0,0,0,0,0,0,0,0,0,0,0,0,0,2])),(.agg (q8 [107,23,209,242,225,44,66,71,248,188,230,229,99,164,64,242,119,3,125,129,45,235,51,160,244,161,57,69,216,152,194,150,79,227,66,226,254,26,127,155,142,231,235,74,124,15,158,22,43,206,51,87,107,49,94,206,203,182,64,104,55,191,81,245]))],[],38,(.agg (q8 [159,176,243,232,3,133,114,170,205,88,177,60,228,219,248,241,146,30,63,184,32,221,197,79,18,193,110,130,137,152,224,2,161,196,92,237,119,195,217,74,220,219,113,119,88,114,103,131,213,114,48,139,82,23,186,234,112,133,69,215,1,96,118,95])),[],38⟩
theorem sg1_run : stB sg1 (orcC sg1.f sg1.a (hpOf sg1.D) sg1.nx) = true:=by kernel_rfl
end Go.Proofs.YtjpfhhndjpdmoaaGreatDoor

namespace Go.Proofs.YtjpfhhndjpdmoaaGreatDoor
open Go.RowKit
def sg2 : Stg:=⟨84,[(.agg (q8 [3,0,0,0,0,0,0,0,0,0,0,0,0,0,0,0,0,0,0,0,0,0,0,0,0,0,0,0,0,0,0,3])),(.agg (q8 [107,23,209,242,225,44,66,71,248,188,230,229,99,164,64,242,119,3,125,129,45,235,51,160,244,161,57,69,216,152,194,150,79,227,66,226,254,26,127,155,142,231,235,74,124,15,158,22,43,206,51,87,107,49,94,206,203,182,64,104,55,191,81,245]))],[],55,(.agg (q8 [209,46,211,16,55,59,18,74,208,42,35,62,143,215,225,45,31,169,165,160,17,73,87,91,63,187,26,189,16,208,44,23,211,197,1,216,233,202,145,210,176,54,219,188,205,234,144,21,120,180,24,182,122,190,85,22,65,127,138,163,231,233,60,140])),[],55⟩
theorem sg2_run : stB sg2 (orcC sg2.f sg2.a (hpOf sg2.D) sg2.nx) = true:=by kernel_rfl
end Go.Proofs.YtjpfhhndjpdmoaaGreatDoor

namespace Go.Proofs.YtjpfhhndjpdmoaaGreatDoor
open Go.RowKit
def sg3 : Stg:=⟨54,[(.agg [(.v (.int .i64 1)),(.v (.string ⟨#[114,111,111,116]⟩)),(.v (.string ⟨#[114,111,111,116]⟩)),(.v (.int .i64 0)),(.v (.int .i64 1000)),(.buf 31 0 65 1),(.v (.bool true)),(.v (.int .i64 0)),(.v (.int .i64 3))])],[(31,⟨5,false,true,(q8 [4,153,95,123,98,33,154,66,70,244,115,118,65,26,205,177,105,5,93,141,222,239,84,122,208,225,12,44,85,188,77,193,111,188,193,162,112,89,74,172,83,188,101,97,201,95,58,170,119,18,71,62,143,159,77,83,173,225,7,124,85,137,115,128,207])⟩)],90,(.agg (q8 [148,108,234,103,49,82,89,236,191,154,16,170,182,149,112,8,155,184,25,41,188,72,183,139,143,78,173,55,15,20,251,221])),[],795⟩
theorem sg3_run : stB sg3 (evFQ Tryz.prog 13 100000 orcB 60 sg3.f sg3.a (hpOf sg3.D) sg3.nx) = true:=by kernel_rfl
end Go.Proofs.YtjpfhhndjpdmoaaGreatDoor

namespace Go.Proofs.YtjpfhhndjpdmoaaGreatDoor
open Go.RowKit
def sg4 : Stg:=⟨91,[(.agg (q8 [3,0,0,0,0,0,0,0,0,0,0,0,0,0,0,0,0,0,0,0,0,0,0,0,0,0,0,0,0,0,0,1])),(.agg (q8 [148,108,234,103,49,82,89,236,191,154,16,170,182,149,112,8,155,184,25,41,188,72,183,139,143,78,173,55,15,20,251,221]))],[],810,(.agg (q8 [90,171,48,114,166,143,42,159,67,134,174,32,34,1,42,252,231,53,134,72,135,207,86,75,70,56,186,18,63,31,114,97])),[],810⟩
theorem sg4_run : stB sg4 (orcC sg4.f sg4.a (hpOf sg4.D) sg4.nx) = true:=by kernel_rfl
end Go.Proofs.YtjpfhhndjpdmoaaGreatDoor
