/- Part of the proof: Hof,MacPad,Conv,Free. No conditions of its own. -/
import Derived.Test.YtjpfhhndjpdmoaaGreatDoorF20
import Derived.Laws.CopyOwn
import Derived.Deep.Draws
namespace Go.Proofs.YtjpfhhndjpdmoaaGreatDoor
open Go.RowKit
set_option linter.unusedVariables false
set_option linter.unusedSimpArgs false

theorem PartsW.below {w w':World} {bad bad':Nat → Prop} {vp:Value} {ps:List (List UInt8)} (h:PartsW w bad vp ps) (hb:Below w.heap.size w w') (hi:∀ k,¬ bad k → ¬ bad' k) : PartsW w' bad' vp ps:=by
 obtain ⟨a,cap,rfl,hc⟩:=h
 refine ⟨a,cap,rfl,fun i p hp=>?_⟩
 obtain ⟨b,o,v,h1,h2,h3,h4,h5⟩:=hc i p hp
 exact ⟨b,o,v,h1,(hb.cell (World.block_lt_of_cell? w _ h2)).trans h2,hi _ h3,h4.below hb,fun ad had=>hi _ (h5 ad had)⟩
theorem OwnW.nil (w:World) (B0:Nat) : OwnW w B0 (.slice none 0 0) []:=.inl ⟨rfl,rfl⟩
structure HashW (w:World) : Prop where
 starts : ∃ t,Row w 8 t (AD startS)
 rnds : ∃ t,Row w 10 t (AD roundsS)
theorem HashW.start {w:World} (h:HashW w) : Row w 8 h.starts.choose (AD startS):=h.starts.choose_spec
theorem HashW.rounds {w:World} (h:HashW w) : Row w 10 h.rnds.choose (AD roundsS):=h.rnds.choose_spec
theorem HashW.below {w w':World} (h:HashW w) (hb:Below w.heap.size w w') : HashW w':=⟨⟨_,Row.below h.start hb h.start.lt⟩,⟨_,Row.below h.rounds hb h.rounds.lt⟩⟩
theorem StW.new {w:World} {B0 g:Nat} (h:Row w g 300 (stC startS (.slice none 0 0) 0)) (hg:B0 ≤ g) : StW w B0 g (.slice none 0 0) []:=⟨h,OwnW.nil w B0,hg⟩
set_option maxRecDepth 100000 in
set_option maxHeartbeats 4000000 in
theorem hof_any (w:World) (vp:Value) (ps:List (List UInt8)) (hv:HashW w) (hp:PartsW w (fun k=>w.heap.size ≤ k) vp ps) (hl:ps.flatten.length ≤ 1000000) (hn:ps.length ≤ 1000) :
  Calls Tryz.prog 100 #[vp] w fun e w'=>e = .returned (.agg (AB (shaS ps.flatten))) ∧ Below w.heap.size w w':=by
 have HV:=Lib.hid hv
 have HP:=Lib.hid hp
 have hlt : 10 < w.heap.size:=hv.rounds.lt
 have hvp : ∃ a n c,vp = .slice a n c:=let ⟨a,c,h,_⟩:=hp; ⟨a,_,c,h⟩
 obtain ⟨a,n,c,rfl⟩:=hvp
 clear hv hp
 go_enter Tryz.func100,Tryz.ntmps100
 go_upto_region 1 with (fail)
 obtain ⟨w0,hw0⟩ : ∃ W,W = w.alloc (.cells #[.int .u8 0,.int .u8 0,.int .u8 0,.int .u8 0,.int .u8 0,.int .u8 0,.int .u8 0,.int .u8 0,.int .u8 0,.int .u8 0,.int .u8 0,.int .u8 0,.int .u8 0,.int .u8 0,.int .u8 0,.int .u8 0,.int .u8 0,.int .u8 0,.int .u8 0,.int .u8 0,.int .u8 0,.int .u8 0,.int .u8 0,.int .u8 0,.int .u8 0,.int .u8 0,.int .u8 0,.int .u8 0,.int .u8 0,.int .u8 0,.int .u8 0,.int .u8 0] 24):=⟨_,rfl⟩
 rw [← hw0]
 have hB0 : Below w.heap.size w w0:=by rw [hw0]; exact (Below.refl _ w).alloc (Nat.le_refl _) _
 have hr0 : RowN w0 w.heap.size 24 32:=by rw [hw0]; exact RowN.newAt w _ _ _ rfl
 have hs0 : w0.heap.size = w.heap.size + 1:=by rw [hw0]; simp
 clear hw0
 have HB0:=Lib.hid hB0
 have HR0:=Lib.hid hr0
 have HV0:=Lib.hid (HV.out.below hB0)
 have hlt0 : 10 < w0.heap.size:=by omega
 have HP0:=Lib.hid (HP.out.below (bad':=fun k=>w.heap.size ≤ k) hB0 (fun _ h=>h))
 clear hB0 hr0
 go_wp2_with (go_at_call 161; refine (hnew_any w0 HV0.out.start).mono ?_; rintro e w1 ⟨g,rfl,hg,hr1,hB1⟩)
 have HR1:=Lib.hid hr1
 have HB1:=Lib.hid hB1
 have hgs:=hr1.lt
 have hs1:=hB1.size
 clear hr1 hB1
 refine (put_any w1 w0.heap.size g (.slice none 0 0) (.slice a n c) [] ps (HV0.out.below HB1.out).rounds hlt0 hs1 (StW.new HR1.out hg) (HP0.out.below HB1.out (fun k hk e=>by exact e.elim (fun e=>hk (by rw [e]; exact Nat.le_trans HB0.out.size hg)) (fun e=>nomatch e))) hl hn).mono ?_
 rintro e w2 ⟨rfl,v,hS2,hA2⟩
 have hB2 : Below w0.heap.size w1 w2:=hA2.belowB hg (fun k e=>by cases e) hs1
 have HB2:=Lib.hid (HB1.out.trans hB2)
 have HS2:=Lib.hid hS2
 have hs2:=hB2.size
 have HV2:=Lib.hid (HV0.out.below HB2.out)
 clear hS2 hA2 hB2
 go_wp2_with fail
 refine (sum_any w2 w0.heap.size g v ps.flatten HV2.out.rounds (by simpa using HS2.out) hl).mono ?_
 rintro e w3 ⟨rfl,hB3⟩
 have HB3:=Lib.hid (HB0.out.trans ((HB2.out.trans (hB3.mono (Nat.le_trans hs1 hs2))).mono HB0.out.size))
 obtain ⟨z,hz,hzs⟩:=HR0.out.below (HB2.out.trans (hB3.mono (Nat.le_trans hs1 hs2))) (by omega)
 obtain ⟨X,hX⟩ : ∃ X,X = shaS ps.flatten:=⟨_,rfl⟩
 have hs32 : X.length = 32:=by rw [hX]; exact shaS_len _
 rw [← hX]
 have hs32':=(AB_size X).trans hs32
 have hsb:=sub_all (AB X) 32 hs32'
 have hov : over z 0 (AB X) = AB X:=over_all _ _ (hzs.trans hs32'.symm)
 have hzlt:=hz.lt
 have HX:=Lib.hid hX
 clear hB3 hX
 go_wp2_with fail
 exact ret_row (.inl rfl) rfl w.heap.size _ _ 32 _ rfl (hz.setRow _) Tryz.underlying24 rfl (by kernel_rfl) hs32' ⟨by rw [HX.out],bSetRow HB3.out (Nat.le_refl _) _⟩
end Go.Proofs.YtjpfhhndjpdmoaaGreatDoor

namespace Go.Proofs.YtjpfhhndjpdmoaaGreatDoor
open Go.RowKit
set_option linter.unusedVariables false
set_option linter.unusedSimpArgs false

def mixK (Z:List UInt8) (x:UInt8) (i:Nat) : List UInt8:=(Z.take i).map (fun b=>xr b x) ++ Z.drop i
def padK (l:List UInt8) (x:UInt8) : List UInt8:=(l ++ List.replicate (64 - l.length) 0).map fun b=>xr b x
theorem mixK_len (Z:List UInt8) (x:UInt8) (i:Nat) : (mixK Z x i).length = Z.length:=by
 unfold mixK; simp; omega
theorem mixK_all (Z:List UInt8) (x:UInt8) (n:Nat) (h:Z.length = n) : mixK Z x n = Z.map fun b=>xr b x:=by
 subst h
 unfold mixK; simp
theorem mixK_step (Z:List UInt8) (x:UInt8) (i:Nat) (h:i < Z.length) : (mixK Z x i).set i (xr (gb (mixK Z x i) i) x) = mixK Z x (i + 1):=by
 have e : Z.drop i = gb Z i :: Z.drop (i + 1):=by
  rw [List.drop_eq_getElem_cons h]; simp [gb,h]
 have hl : ((Z.take i).map fun b=>xr b x).length = i:=by simp; omega
 have e2 : Z.take (i + 1) = Z.take i ++ [gb Z i]:=by
  rw [List.take_add_one,List.getElem?_eq_getElem h]; simp [gb,h]
 have e3 : gb (mixK Z x i) i = gb Z i:=by
  unfold mixK
  rw [e]
  simp only [gb,List.getD_eq_getElem?_getD]
  rw [List.getElem?_append_right (by omega),hl]
  simp
 rw [e3]
 unfold mixK
 rw [e2,e,List.set_append_right _ _ (by omega),hl,List.map_append]
 simp
theorem padK_len (l:List UInt8) (x:UInt8) (h:l.length ≤ 64) : (padK l x).length = 64:=by
 unfold padK; simp; omega
theorem info_u8H : (Tryz.prog.info? 5).map (fun i=>(i.zero,i.size,i.bytes)) = some (some (.int .u8 0),1,1):=by kernel_rfl
theorem made64 : madeCells (Value.int .u8 0).cells (Int.toNat 64 * 1) = AB (List.replicate 64 0):=by kernel_rfl
theorem make64 (w:World) : (Instr.makeSlice 22 (.int .i64 64) (.int .i64 64)).run Tryz.prog w = .ok (.slice (some ⟨w.heap.size,0,none⟩) 64 64) (w.alloc (.cells (AB (List.replicate 64 0)) 5)):=by
 obtain ⟨i0,hi,hz0,hz1,hz2⟩:=info_parts info_u8H
 have:=run_make (P:=Tryz.prog) w 22 5 i0 (.int .u8 0) Tryz.underlying22 hi hz0 .i64 .i64 64 64 (by decide) (by decide) (by rw [hz2]; decide) (by decide)
 rw [this,hz1]
 exact congrArg (fun c=>Result.ok (Value.slice (some ⟨w.heap.size,0,none⟩) 64 64) (w.alloc (.cells c 5))) (made64:madeCells (Value.int .u8 0).cells (Int.toNat 64 * 1) = AB (List.replicate 64 0))
theorem splice_pad (l:List UInt8) : splice ((List.replicate 64 (0 : UInt8)).map B) 0 (l.map B) = (l ++ List.replicate (64 - l.length) 0).map B:=by
 unfold splice
 rw [List.take_zero,List.nil_append,Nat.zero_add,List.length_map,List.map_replicate,List.drop_replicate,List.map_append,List.map_replicate]
attribute [local go_sem] make64
set_option maxRecDepth 100000 in
set_option maxHeartbeats 4000000 in
theorem mpad_any (w:World) (v:Value) (l:List UInt8) (x:UInt8) (hv:SlB w v l) (hl:l.length ≤ 64) :
  Calls Tryz.prog 186 #[v,B x] w fun e w'=>e = .returned (.slice (some ⟨w.heap.size,0,none⟩) 64 64) ∧ Row w' w.heap.size 5 (AB (padK l x)) ∧ Below w.heap.size w w':=by
 obtain ⟨a,cap,rfl,h1,h2,h3,h4⟩:=hv
 have hc2 : (l.map B).length = Nat.min l.length 64:=by rw [List.length_map]; show l.length = min l.length 64; omega
 have hc3 : ∀ w0 : World,Below w.heap.size w w0 → 0 < (l.map B).length → (some ⟨w.heap.size,0,none⟩ : Option Addr) = some ⟨w.heap.size,0,none⟩ ∧ ∃ ad,a = some ad ∧ ∀ j v,(l.map B)[j]? = some v → w0.cell? (ad.add j) = some v:=by
  intro w0 hb0 hpos
  rw [List.length_map] at hpos
  cases ha : a with
  | none=>exact absurd (h3 ha) (by omega)
  | some ad =>
   refine ⟨rfl,ad,rfl,fun j u hu=>?_⟩
   have hj : j < l.length:=by simpa using (List.getElem?_eq_some_iff.1 hu).1
   obtain ⟨hm,hc⟩:=h4 ad ha
   have hcj:=hc j hj
   have hcw:=(hb0.cell (World.block_lt_of_cell? w ⟨ad.block,ad.off + j,none⟩ hcj)).trans hcj
   have e : ad.add j = ⟨ad.block,ad.off + j,none⟩:=by
    obtain ⟨ab,ao,am⟩:=ad
    obtain rfl : am = none:=hm
    exact Addr.add_lit _ _ _
   rw [e,hcw]
   simpa [gb,hj] using hu
 have hc4 : 0 + (l.map B).length ≤ ((List.replicate 64 (0 : UInt8)).map B).length:=by rw [List.length_map,List.length_map,List.length_replicate]; omega
 have hc5 : ∀ u ∈ l.map B,u.oneCell' = true:=by intro u hu; obtain ⟨z,_,rfl⟩:=List.mem_map.1 hu; rfl
 have HC2:=Lib.hid hc2
 have HC3:=Lib.hid hc3
 have HC4:=Lib.hid hc4
 have HC5:=Lib.hid hc5
 have HL:=Lib.hid hl
 have HB1:=Lib.hid ((Below.refl w.heap.size w).alloc (Nat.le_refl _) (.cells (AB (List.replicate 64 0)) 5))
 clear hc2 hc3 hc4 hc5 h1 h2 h3 h4 hl
 go_enter Tryz.func186,Tryz.ntmps186
 go_wp2_with (refine wpList_copy_splice rfl (.tmp 8) (.tmp 9) 22 22 rfl 5 Tryz.underlying22 (by kernel_rfl) (some ⟨w.heap.size,0,none⟩) a 64 64 l.length cap rfl rfl w.heap.size 0 ((List.replicate 64 (0 : UInt8)).map B) 5 (heap_alloc_new w _) (l.map B) HC2.out (HC3.out _ HB1.out) HC4.out HC5.out w.heap.size w HB1.out (Nat.le_refl _) ?_)
 intro W1 hW1 hbW1
 obtain ⟨Z,hZ⟩ : ∃ Z,Z = l ++ List.replicate (64 - l.length) 0:=⟨_,rfl⟩
 have hZl : Z.length = 64:=by have:=HL.out; rw [hZ]; simp; omega
 have hr : Row W1 w.heap.size 5 (AB Z):=by
  rw [hZ,AB,← splice_pad l]; exact Row.of_heap hW1.out
 have HR:=Lib.hid hr
 have HBW:=Lib.hid hbW1
 have HZ:=Lib.hid hZ
 have HZl:=Lib.hid hZl
 clear hW1 hr hbW1 hZ hZl
 go_wp2_with fail
 go_loopg [13] 64 (fun gk t13 wx=>∃ (i:Nat),gk + i = 64 ∧ t13 = .int .i64 (i:Int) ∧ Row wx w.heap.size 5 (AB (mixK Z x i)) ∧ Below w.heap.size w wx)
 case atStart=>exact ⟨0,by omega,rfl,HR.out,HBW.out⟩
 case round =>
  obtain ⟨i,hi,rfl,hr,hB⟩:=hrel
  have HB:=Lib.hid hB
  clear hB
  by_cases h64 : i < 64
  ·have c5 : (i:Int) < 64:=by omega
   have c6 : (0 : Int) ≤ (i:Int):=by omega
   have hlen:=(mixK_len Z x i).trans HZl.out
   have hlt:=hr.lt
   have HST:=Lib.hid (mixK_step Z x i (by rw [HZl.out]; exact h64))
   obtain ⟨M,hM⟩ : ∃ M,M = mixK Z x i:=⟨_,rfl⟩
   rw [← hM] at hr hlen HST
   clear hM
   go_wp2_with fail
   go_roundg (gk - 1)
   case measure=>omega
   case rel=>exact ⟨i + 1,by omega,by go_num,by rw [← HST.out]; exact hr.setByte i _,HB.out.setCell (Nat.le_refl _) _⟩
  ·obtain rfl : i = 64:=by omega
   have c5 : ¬ ((64 : Nat) : Int) < 64:=by omega
   go_wp2_with fail
   go_ret
   exact ⟨rfl,by rw [padK,← HZ.out,← mixK_all Z x 64 HZl.out]; exact hr,HB.out⟩
end Go.Proofs.YtjpfhhndjpdmoaaGreatDoor

namespace Go.Proofs.YtjpfhhndjpdmoaaGreatDoor
open Go.RowKit

section
variable {P:Program}
end
end Go.Proofs.YtjpfhhndjpdmoaaGreatDoor

namespace Go.Proofs.YtjpfhhndjpdmoaaGreatDoor
open Go.RowKit

abbrev Facts:=Tmp → World → Prop
def PreF (W:World) (ops:Array Oper) (R:Facts) (o:Oper) (w:World) : Prop:=Below W.heap.size W w ∧ ∀ d,d ∈ o.looksAt ops → R d w
def isF (fs:List Tmp) (o:Oper) : Bool:=match o.dst with | some d=>fs.contains d | none=>false
def isD (fs ds:List Tmp) (o:Oper) : Bool:=match o.dst with | some d=>!fs.contains d && ds.contains d | none=>false
def pvF (P:Program) (W:World) (o:Oper) (a:Act) : Value:=match (execOp a.eval o).run P W with | .ok (.value v) _=>v | _=>undef
def upF (fs:List Tmp) (φ : Tmp → Value → World → Prop) (o:Oper) (v:Value) (R:Facts) : Facts:=fun k=>if o.dst = some k ∧ isF fs o = true then φ k v else R k
def RunsF (P:Program) (o:Oper) (a:Act) (φ : Tmp → Value → World → Prop) (w:World) : Prop :=
 match (execOp a.eval o).run P w with
 | .ok (.value v) w'=>(∀ d,o.dst = some d → φ d v w') ∧ Below w.heap.size w w'
 | .ok (.enter f args) w'=>w' = w ∧ Calls P f args w (fun e w''=>∃ v,e = .returned v ∧ (∀ d,o.dst = some d → φ d v w'') ∧ Below w.heap.size w w'')
 | _=>False
def QuietV (P:Program) (o:Oper) (a:Act) (v:Value) (w:World) : Prop:=o.quietAt P a (fun w'=>Below w.heap.size w w') w v
def StabF (R:Facts) : Prop:=∀ d w w',R d w → Below w.heap.size w w' → R d w'
def StabP (φ : Tmp → Value → World → Prop) : Prop:=∀ d v w w',φ d v w → Below w.heap.size w w' → φ d v w'
def CF (W:World) (R:Facts) (w:World) : Prop:=Below W.heap.size W w ∧ (∀ d,R d w) ∧ StabF R
section
variable {P:Program} {ops:Array Oper} {md:Region.Mode} {W:World} {q:Tmp → Value} {p:Tmp → Value → Prop} {fs ds:List Tmp} {φ : Tmp → Value → World → Prop}
theorem upF_stab {o:Oper} {v:Value} {R:Facts} (h:StabP φ) (hR:StabF R) : StabF (upF fs φ o v R):=fun d w w' hr hb=>by
 unfold upF at hr ⊢
 split
 ·rename_i e; rw [if_pos e] at hr; exact h _ _ _ _ hr hb
 ·rename_i e; rw [if_neg e] at hr; exact hR _ _ _ hr hb
theorem upF_ne {o o':Oper} {v:Value} {R:Facts} (h:∀ d,o.dst = some d → d ∉ o'.looksAt ops) {d:Tmp} (hd:d ∈ o'.looksAt ops) : upF fs φ o v R d = R d:=by
 unfold upF
 rw [if_neg (fun e=>h d e.1 hd)]
theorem upF_comm {o o':Oper} (v u:Value) (R:Facts) (h:∀ d,o.dst = some d → o'.dst ≠ some d) : upF fs φ o' u (upF fs φ o v R) = upF fs φ o v (upF fs φ o' u R):=by
 funext k
 unfold upF
 by_cases h1 : o'.dst = some k ∧ isF fs o' = true
 ·rw [if_pos h1,if_neg (fun e=>h k e.1 h1.1),if_pos h1]
 ·rw [if_neg h1]
  by_cases h2 : o.dst = some k ∧ isF fs o = true
  ·rw [if_pos h2,if_pos h2]
  ·rw [if_neg h2,if_neg h2,if_neg h1]
theorem PreF.weak {o o':Oper} {v:Value} {R:Facts} {w:World} (h:∀ d,o.dst = some d → d ∉ o'.looksAt ops) : PreF W ops (upF fs φ o v R) o' w ↔ PreF W ops R o' w :=
 ⟨fun k=>⟨k.1,fun d hd=>by have:=k.2 d hd; rwa [upF_ne h hd] at this⟩,fun k=>⟨k.1,fun d hd=>by rw [upF_ne h hd]; exact k.2 d hd⟩⟩
def vqF (q:Tmp → Value) (o:Oper) : Value:=match o.dst with | some d=>q d | none=>undef
def condF (P:Program) (ops:Array Oper) (W:World) (q:Tmp → Value) (fs ds:List Tmp) (φ : Tmp → Value → World → Prop) (o:Oper) (a:Act) (R:Facts) : Prop :=
 if isF fs o = true then Region.wanted o (yielded ops a.tmps) = true ∧ ∀ w,PreF W ops R o w → RunsF P o a φ w
 else if isD fs ds o = true then Region.wanted o (yielded ops a.tmps) = true → ∀ w,(execOp a.eval o).run P w = .ok (.value (pvF P W o a)) w
 else Region.wanted o (yielded ops a.tmps) = true → ∀ w,PreF W ops R o w → StabF R → QuietV P o a (vqF q o) w
def admF (P:Program) (ops:Array Oper) (W:World) (q:Tmp → Value) (p:Tmp → Value → Prop) (fs ds:List Tmp) (o:Oper) (a:Act) (v:Value) : Prop :=
 if isF fs o = true then ∀ d,o.dst = some d → p d v
 else if isD fs ds o = true then v = if Region.wanted o (yielded ops a.tmps) then pvF P W o a else undef
 else v = if Region.wanted o (yielded ops a.tmps) then vqF q o else undef
theorem admF_inh (hinh:∀ d,∃ v,p d v) (o:Oper) (a:Act) : ∃ v,admF P ops W q p fs ds o a v:=by
 unfold admF
 split
 ·cases e : o.dst with
  | none=>exact ⟨undef,fun d hd=>by cases hd⟩
  | some d =>
   obtain ⟨v,hv⟩:=hinh d
   exact ⟨v,fun k hk=>by cases hk; exact hv⟩
 ·split
  ·exact ⟨_,rfl⟩
  ·exact ⟨_,rfl⟩
theorem pvF_put {o o':Oper} {a:Act} {u:Value} (hs:∀ cs b,o'.op ≠ .select cs b) (h:∀ d,o.dst = some d → d ∉ o'.looksAt ops) : pvF P W o' (a.put o.dst u) = pvF P W o' a:=by
 unfold pvF
 rw [execOp_put (ops:=ops) o' hs a o.dst u h]
theorem admF_put {o o':Oper} {a:Act} {u v:Value} (hs:∀ cs b,o'.op ≠ .select cs b) (h:∀ d,o.dst = some d → d ∉ o'.looksAt ops) : admF P ops W q p fs ds o' (a.put o.dst u) v ↔ admF P ops W q p fs ds o' a v:=by
 unfold admF
 rw [wanted_put o' a o.dst u h,pvF_put (ops:=ops) hs h]
theorem RunsF_put {o o':Oper} {a:Act} {u:Value} {w:World} (hs:∀ cs b,o'.op ≠ .select cs b) (h:∀ d,o.dst = some d → d ∉ o'.looksAt ops) : RunsF P o' (a.put o.dst u) φ w ↔ RunsF P o' a φ w:=by
 unfold RunsF
 rw [execOp_put (ops:=ops) o' hs a o.dst u h]
theorem QuietV_put {o o':Oper} {a:Act} {u v:Value} {w:World} (hs:∀ cs b,o'.op ≠ .select cs b) (h:∀ d,o.dst = some d → d ∉ o'.looksAt ops) : QuietV P o' (a.put o.dst u) v w ↔ QuietV P o' a v w:=by
 unfold QuietV Oper.quietAt
 rw [execOp_put (ops:=ops) o' hs a o.dst u h]
theorem condF_put {o o':Oper} {a:Act} {u:Value} {R:Facts} (hφ : StabP φ) (hR:StabF R) (hs:∀ cs b,o'.op ≠ .select cs b) (h:∀ d,o.dst = some d → d ∉ o'.looksAt ops) :
  condF P ops W q fs ds φ o' (a.put o.dst u) (upF fs φ o u R) ↔ condF P ops W q fs ds φ o' a R:=by
 unfold condF
 rw [wanted_put o' a o.dst u h]
 split
 ·exact and_congr_right fun _=>forall_congr' fun w=>by rw [PreF.weak h,RunsF_put hs h]
 split
 ·rw [pvF_put (ops:=ops) hs h,execOp_put (ops:=ops) o' hs a o.dst u h]
 ·refine forall_congr' fun _=>forall_congr' fun w=>?_
  rw [PreF.weak h,QuietV_put hs h]
  exact ⟨fun k e _=>k e (upF_stab hφ hR),fun k e _=>k e hR⟩
def fOp (P:Program) (ops:Array Oper) (W:World) (q:Tmp → Value) (p:Tmp → Value → Prop) (fs ds:List Tmp) (φ : Tmp → Value → World → Prop) (i:Nat) (K:Act → Facts → Prop) (a:Act) (R:Facts) : Prop :=
 match ops[i]? with
 | none=>False
 | some o=>condF P ops W q fs ds φ o a R ∧ ∀ v,admF P ops W q p fs ds o a v → K (a.put o.dst v) (upF fs φ o v R)
theorem fOp_some {i:Nat} {o:Oper} {K:Act → Facts → Prop} {a:Act} {R:Facts} (hi:ops[i]? = some o) :
  fOp P ops W q p fs ds φ i K a R = (condF P ops W q fs ds φ o a R ∧ ∀ v,admF P ops W q p fs ds o a v → K (a.put o.dst v) (upF fs φ o v R)):=by
 unfold fOp
 simp only [hi]
def wpAnyF (P:Program) (md:Region.Mode) (ops:Array Oper) (W:World) (q:Tmp → Value) (p:Tmp → Value → Prop) (fs ds:List Tmp) (φ : Tmp → Value → World → Prop) (n:Nat) (L:Array Bool → Act → Facts → Prop) : Nat → Array Bool → Act → Facts → Prop
 | 0,listed,a,R=>L listed a R
 | f + 1,listed,a,R=>Region.ready md ops listed ≠ [] ∧ ∀ i ∈ Region.ready md ops listed,i < n ∧ fOp P ops W q p fs ds φ i (wpAnyF P md ops W q p fs ds φ n L f (listed.setIfInBounds i true)) a R
theorem CF.pre {R:Facts} {o:Oper} {w:World} (h:CF W R w) : PreF W ops R o w:=⟨h.1,fun d _=>h.2.1 d⟩
theorem CF.ext {R:Facts} {w w':World} (h:CF W R w) (hb:Below w.heap.size w w') : CF W R w':=⟨h.1.trans (hb.mono h.1.size),fun d=>h.2.2 d _ _ (h.2.1 d) hb,h.2.2⟩
theorem CF.up {R:Facts} {w:World} {o:Oper} {v:Value} (hφ : StabP φ) (h:CF W R w) (hv:isF fs o = true → ∀ d,o.dst = some d → φ d v w) : CF W (upF fs φ o v R) w:=by
 refine ⟨h.1,fun d=>?_,upF_stab hφ h.2.2⟩
 unfold upF
 split
 ·rename_i e; exact hv e.2 d e.1
 ·exact h.2.1 d
theorem wpOp_of_fOp (hφ : StabP φ) (hp:∀ d v w,φ d v w → p d v) {i:Nat} {K:Act → Facts → Prop} {K':Act → World → Prop} {Q':Exit → Act → World → Prop} {a:Act} {R:Facts} {w:World}
  (hw:CF W R w) (h:∀ a' R' w',CF W R' w' → K a' R' → K' a' w') (hh:fOp P ops W q p fs ds φ i K a R) : wpOp P ops Q' i K' a w:=by
 unfold wpOp
 cases ho : ops[i]? with
 | none=>unfold fOp at hh; simp only [ho] at hh
 | some o =>
  rw [fOp_some ho] at hh
  obtain ⟨hc,hK⟩:=hh
  simp only
  unfold condF at hc
  cases hf : isF fs o with
  | true =>
   rw [if_pos hf] at hc
   rw [if_pos hc.1]
   left
   have hr:=hc.2 w hw.pre
   unfold RunsF at hr
   unfold Oper.wp
   generalize (execOp a.eval o).run P w = r at hr
   cases r with
   | halt x w'=>exact hr.elim
   | ok nx w' =>
    cases nx with
    | value v =>
     rw [Oper.upon_value]
     exact h _ _ _ ((hw.ext hr.2).up hφ fun _=>hr.1) (hK v (by unfold admF; rw [if_pos hf]; exact fun d hd=>hp _ _ _ (hr.1 d hd)))
    | enter f args =>
     obtain ⟨e,hr⟩:=hr
     rw [Oper.upon_enter,e]
     refine hr.mono ?_
     rintro e w'' ⟨v,rfl,h1,h2⟩
     exact h _ _ _ ((hw.ext h2).up hφ fun _=>h1) (hK v (by unfold admF; rw [if_pos hf]; exact fun d hd=>hp _ _ _ (h1 d hd)))
    | _=>exact hr.elim
  | false =>
   rw [if_neg (by rw [hf]; decide)] at hc
   cases hdd : isD fs ds o with
   | true =>
    rw [if_pos hdd] at hc
    have hadm : admF P ops W q p fs ds o a (if Region.wanted o (yielded ops a.tmps) then pvF P W o a else undef):=by
     unfold admF
     rw [if_neg (by rw [hf]; decide),if_pos hdd]
    cases hwa : Region.wanted o (yielded ops a.tmps) with
    | true =>
     rw [if_pos hwa] at hadm
     rw [if_pos rfl]
     left
     unfold Oper.wp
     rw [hc hwa w,Oper.upon_value]
     exact h _ _ _ (hw.up hφ fun e=>(by rw [hf] at e; cases e)) (hK _ hadm)
    | false =>
     rw [if_neg (by rw [hwa]; decide)] at hadm
     rw [if_neg (by decide)]
     exact h _ _ _ (hw.up hφ fun e=>(by rw [hf] at e; cases e)) (hK undef hadm)
   | false =>
   rw [if_neg (by rw [hdd]; decide)] at hc
   have hadm : admF P ops W q p fs ds o a (if Region.wanted o (yielded ops a.tmps) then vqF q o else undef):=by
    unfold admF
    rw [if_neg (by rw [hf]; decide),if_neg (by rw [hdd]; decide)]
   cases hwa : Region.wanted o (yielded ops a.tmps) with
   | true =>
    rw [if_pos rfl]
    left
    have hk:=hK (vqF q o) (by rwa [if_pos hwa] at hadm)
    refine Oper.wp_of_quiet (C:=fun w'=>Below w.heap.size w w' ∧ CF W R w') (K:=fun a'=>K a' (upF fs φ o (vqF q o) R)) ⟨Below.refl _ _,hw⟩ (fun a' w' hw' hk=>h a' _ w' (hw'.2.up hφ fun e=>(by rw [hf] at e; cases e)) hk) ⟨vqF q o,fun w' hw'=>?_,hk⟩
    have hq:=hc hwa w' hw'.2.pre hw.2.2
    unfold QuietV Oper.quietAt at hq
    unfold Oper.quietAt
    generalize (execOp a.eval o).run P w' = r at hq
    cases r with
    | halt x w'=>exact hq.elim
    | ok nx w2 =>
     cases nx <;> simp only [Oper.quietUpon] at hq ⊢ <;> first | exact hq | exact ⟨hq.1,hq.2.mono fun e w'' he=>⟨he.1,hw'.1.trans (he.2.mono hw'.1.size),hw'.2.ext he.2⟩⟩
   | false =>
    rw [if_neg (by decide)]
    exact h _ _ _ (hw.up hφ fun e=>(by rw [hf] at e; cases e)) (hK undef (by rwa [if_neg (by rw [hwa]; decide)] at hadm))
theorem wpAny_of_F (hφ : StabP φ) (hp:∀ d v w,φ d v w → p d v) {n g:Nat} {L:Array Bool → Act → Facts → Prop} {Q':Exit → Act → World → Prop} (hL:∀ listed a R w,CF W R w → L listed a R → wpAny P md ops Q' g listed a w) :
  ∀ (f:Nat) (listed:Array Bool) (a:Act) (R:Facts) (w:World),CF W R w → wpAnyF P md ops W q p fs ds φ n L f listed a R → wpAny P md ops Q' (f + g) listed a w
 | 0,listed,a,R,w,hw,h=>by rw [Nat.zero_add]; exact hL _ _ _ _ hw h
 | f + 1,listed,a,R,w,hw,h=>by
  rw [show f + 1 + g = (f + g) + 1 by omega]
  exact ⟨fun h0=>absurd h0 h.1,fun i hi=>wpOp_of_fOp hφ hp hw (fun a' R' w' hw' h'=>wpAny_of_F hφ hp hL f _ a' R' w' hw' h') (h.2 i hi).2⟩
theorem wpAnyF_first (hφ : StabP φ) (hinh:∀ d,∃ v,p d v) {n i:Nat} {oi:Oper} {L:Array Bool → Act → Facts → Prop} (hi:ops[i]? = some oi) (hsel:∀ (j:Nat) (o:Oper) cs b,ops[j]? = some o → o.op ≠ .select cs b)
  (hs:Region.sinkB md ops n = true) (hc:Region.chainB md ops n = true) (hn:n < ops.size) (hin:i < n)
  (hdone:∀ listed a R,L listed a R → ∀ j ∈ Region.ready md ops listed,n ≤ j) :
  ∀ (f:Nat) (listed:Array Bool) (a:Act) (R:Facts),StabF R → HeadInv md ops n listed →
   (∀ j oj,ops[j]? = some oj → j ≠ i → listed.getD j true = false → (∀ e ∈ oj.after,Region.binds md e = true → e.on ≠ i) → oi.apart ops oj = true) →
   i ∈ Region.ready md ops listed → condF P ops W q fs ds φ oi a R →
   (∀ v,admF P ops W q p fs ds oi a v → wpAnyF P md ops W q p fs ds φ n L f (listed.setIfInBounds i true) (a.put oi.dst v) (upF fs φ oi v R)) → wpAnyF P md ops W q p fs ds φ n L (f + 1) listed a R:=by
 intro f
 induction f with
 | zero =>
  intro listed a R hR inv _ hr hy H
  refine ⟨fun h=>(by rw [h] at hr; cases hr),fun j hj=>?_⟩
  have hjn : j < n:=by
   rcases Nat.lt_or_ge j n with h | h
   ·exact h
   ·exact absurd hj (tail_waits hs hc hn inv _ i rfl hin (mem_ready.1 hr).1 j h)
  refine ⟨hjn,?_⟩
  by_cases hji : j = i
  ·subst hji; rw [fOp_some hi]; exact ⟨hy,H⟩
  ·obtain ⟨v,hv⟩:=admF_inh (P:=P) (ops:=ops) (W:=W) (q:=q) (fs:=fs) (ds:=ds) hinh oi a
   have:=hdone _ _ _ (H v hv) j (ready_mono hj hji)
   omega
 | succ f ih =>
  intro listed a R hR inv hfree hr hy H
  have hun:=(mem_ready.1 hr).1
  refine ⟨fun h=>(by rw [h] at hr; cases hr),fun j hj=>?_⟩
  have hjn : j < n:=by
   rcases Nat.lt_or_ge j n with h | h
   ·exact h
   ·exact absurd hj (tail_waits hs hc hn inv _ i rfl hin hun j h)
  refine ⟨hjn,?_⟩
  by_cases hji : j = i
  ·subst hji; rw [fOp_some hi]; exact ⟨hy,H⟩
  ·obtain ⟨hjun,oj,hoj,hall⟩:=mem_ready.1 hj
   have hnot : ∀ e ∈ oj.after,Region.binds md e = true → e.on ≠ i:=fun e he hb heq=>by
    have h1:=hall e he hb
    rw [heq,getD_both hun] at h1
    cases h1
   have hap:=hfree j oj hoj hji hjun hnot
   obtain ⟨a1,a2,a3⟩:=Oper.apart_spec hap
   have hsi:=fun cs b=>hsel i oi cs b hi
   have hsj:=fun cs b=>hsel j oj cs b hoj
   have hfree' : ∀ k ok,ops[k]? = some ok → k ≠ i → (listed.setIfInBounds j true).getD k true = false →
     (∀ e ∈ ok.after,Region.binds md e = true → e.on ≠ i) → oi.apart ops ok = true:=fun k ok hk hki hun hno=>by
    refine hfree k ok hk hki ?_ hno
    by_cases hjk : j = k
    ·subst hjk; exact hjun
    ·rw [getD_set_ne true hjk] at hun; exact hun
   have HJ : ∀ v,admF P ops W q p fs ds oi a v → condF P ops W q fs ds φ oj a R ∧ ∀ u,admF P ops W q p fs ds oj a u → wpAnyF P md ops W q p fs ds φ n L f ((listed.setIfInBounds i true).setIfInBounds j true) ((a.put oi.dst v).put oj.dst u) (upF fs φ oj u (upF fs φ oi v R)):=fun v hv=>by
    have h1:=((H v hv).2 j (ready_mono hj hji)).2
    rw [fOp_some hoj,condF_put hφ hR hsj a1] at h1
    exact ⟨h1.1,fun u hu=>h1.2 u ((admF_put hsj a1).2 hu)⟩
   rw [fOp_some hoj]
   obtain ⟨v0,hv0⟩:=admF_inh (P:=P) (ops:=ops) (W:=W) (q:=q) (fs:=fs) (ds:=ds) hinh oi a
   refine ⟨(HJ v0 hv0).1,fun u hu=>?_⟩
   refine ih (listed.setIfInBounds j true) _ _ (upF_stab hφ hR) (inv.set hj hjn) hfree' (ready_mono hr (Ne.symm hji)) ((condF_put hφ hR hsi a3).2 hy) fun v hv=>?_
   have h2:=(HJ v ((admF_put hsi a3).1 hv)).2 u hu
   rw [Array.setIfInBounds_comm _ _ hji,← Act.put_comm a v u a2,← upF_comm v u R a2]
   exact h2
def wpFq (P:Program) (ops:Array Oper) (W:World) (q:Tmp → Value) (p:Tmp → Value → Prop) (fs ds:List Tmp) (φ : Tmp → Value → World → Prop) (L:Act → Facts → Prop) : List Oper → Act → Facts → Prop
 | [],a,R=>L a R
 | o :: l,a,R=>condF P ops W q fs ds φ o a R ∧ ∀ v,admF P ops W q p fs ds o a v → wpFq P ops W q p fs ds φ L l (a.put o.dst v) (upF fs φ o v R)
theorem wpAnyF_lex (hφ : StabP φ) (hinh:∀ d,∃ v,p d v) {n g:Nat} {Lq:Act → Facts → Prop} (hsel:Region.noSelect ops = true) (hs:Region.sinkB md ops n = true) (hc:Region.chainB md ops n = true) (hn:n < ops.size) :
  ∀ (l:List Oper) (k:Nat) (listed:Array Bool) (a:Act) (R:Facts),StabF R → (∀ j,j < l.length → l[j]? = ops[k + j]?) → k + l.length = n → HeadInv md ops n listed →
  Region.lexHead md ops g l.length k listed = true → wpFq P ops W q p fs ds φ Lq l a R →
  wpAnyF P md ops W q p fs ds φ n (fun listed' a' R'=>Region.seqB md ops g n listed' = true ∧ Lq a' R') l.length listed a R
 | [],k,listed,a,R,_,_,hk,_,hB,h=>by
  have : k = n:=by simpa using hk
  subst this
  exact ⟨by simpa [Region.lexHead] using hB,h⟩
 | o :: l,k,listed,a,R,hR,hl,hk,inv,hB,h=>by
  have h0 : ops[k]? = some o:=by simpa using (hl 0 (by simp)).symm
  simp only [List.length_cons,Region.lexHead,Bool.and_eq_true] at hB
  obtain ⟨⟨hr,hf⟩,hB'⟩:=hB
  have hkn : k < n:=by simp only [List.length_cons] at hk; omega
  have hr' : k ∈ Region.ready md ops listed:=by simpa using hr
  exact wpAnyF_first hφ hinh h0 (Region.noSelect_spec hsel) hs hc hn hkn (fun listed' a' R' hL=>seqB_ready hL.1) l.length listed a R hR inv (Region.free_spec h0 hf) hr' h.1
   fun v hv=>wpAnyF_lex hφ hinh hsel hs hc hn l (k + 1) _ _ _ (upF_stab hφ hR) (fun j hj=>by have:=hl (j + 1) (by simp; omega); simpa [Nat.add_assoc,Nat.add_comm 1 j] using this) (by simp only [List.length_cons] at hk; omega) (inv.set hr' hkn) hB' (h.2 v hv)
end
end Go.Proofs.YtjpfhhndjpdmoaaGreatDoor

/- A region with free operations: the walk in the order of the text,and its steps. -/
namespace Go.Proofs.YtjpfhhndjpdmoaaGreatDoor
open Go.RowKit

def PreV (W:World) (ops:Array Oper) (φ : Tmp → Value → World → Prop) (ν : Tmp → Value) (done:List Tmp) (o:Oper) (w:World) : Prop:=Below W.heap.size W w ∧ ∀ d,d ∈ done → (o.looksAt ops).contains d = true → φ d (ν d) w
def Grows (C:World → Prop) : Prop:=∀ w w',C w → Below w.heap.size w w' → C w'
def wpF (P:Program) (ops:Array Oper) (W:World) (fs ds:List Tmp) (φ : Tmp → Value → World → Prop) (ν : Tmp → Value) (E:Act → List Tmp → Prop) : List Tmp → List Oper → Act → Prop
 | done,[],a=>E a done
 | done,o :: l,a=>if isF fs o = true then (Region.wanted o (yielded ops a.tmps) = true ∧ (∀ w,PreV W ops φ ν done o w → RunsF P o a φ w) ∧ wpF P ops W fs ds φ ν E (o.dst.toList ++ done) l (a.put o.dst (vqF ν o)))
  else if isD fs ds o = true then (∃ v,(Region.wanted o (yielded ops a.tmps) = true → ∀ w,(execOp a.eval o).run P w = .ok (.value v) w) ∧ wpF P ops W fs ds φ ν E done l (a.put o.dst (if Region.wanted o (yielded ops a.tmps) then v else undef)))
  else ∃ a1,(∀ C,(∀ w,C w → PreV W ops φ ν done o w) → Grows C → wpQuiet P ops C (fun a'=>a' = a1) [o] a) ∧ wpF P ops W fs ds φ ν E done l a1
def clearF (fs:List Tmp) (a:Act) : Act:=fs.foldl (fun a d=>a.put (some d) undef) a
theorem clearF_get (d:Tmp) : ∀ (fs:List Tmp) (a:Act),d ∉ fs → (clearF fs a).tmps[d]? = a.tmps[d]?
 | [],_,_=>rfl
 | k :: fs,a,h=>by
  have h1 : d ∉ fs:=fun e=>h (List.mem_cons_of_mem _ e)
  have h2 : some k ≠ some d:=fun e=>h (by rw [Option.some.inj e]; exact List.mem_cons_self)
  exact (clearF_get d fs (a.put (some k) undef) h1).trans (put_get_ne a (some k) undef h2)
section
variable {P:Program} {ops:Array Oper} {md:Region.Mode} {W:World} {q:Tmp → Value} {p:Tmp → Value → Prop} {fs ds:List Tmp} {φ : Tmp → Value → World → Prop}
theorem singleQ {C:World → Prop} {o:Oper} {a a1:Act} (h:wpQuiet P ops C (fun a'=>a' = a1) [o] a) :
  if Region.wanted o (yielded ops a.tmps) = true then ∃ v,(∀ w,C w → o.quietAt P a C w v) ∧ a.put o.dst v = a1 else a.put o.dst undef = a1:=by
 unfold wpQuiet at h
 split
 ·rename_i hw
  rw [if_pos hw] at h
  exact h
 ·rename_i hw
  rw [if_neg hw] at h
  exact h
theorem singleQ_put {C:World → Prop} {o:Oper} {a a1:Act} (h:wpQuiet P ops C (fun a'=>a' = a1) [o] a) : ∃ v,a1 = a.put o.dst v:=by
 have:=singleQ h
 split at this
 ·obtain ⟨v,_,h2⟩:=this; exact ⟨v,h2.symm⟩
 ·exact ⟨undef,this.symm⟩
theorem wpF_keeps {ν : Tmp → Value} {F:(Tmp → Value) → Act} {D:List Tmp} {d:Tmp} : ∀ (l:List Oper) (done:List Tmp) (a:Act),l.all (fun o'=>o'.dst != some d) = true → wpF P ops W fs ds φ ν (fun a' D'=>a' = F ν ∧ D' = D) done l a → (F ν).tmps[d]? = a.tmps[d]?
 | [],_,a,_,h=>by
  have h : a = F ν:=h.1
  rw [h]
 | o :: l,done,a,hd,h=>by
  simp only [List.all_cons,Bool.and_eq_true,bne_iff_ne] at hd
  unfold wpF at h
  split at h
  ·exact (wpF_keeps l _ _ hd.2 h.2.2).trans (put_get_ne a _ _ hd.1)
  split at h
  ·obtain ⟨v,_,h2⟩:=h
   exact (wpF_keeps l _ _ hd.2 h2).trans (put_get_ne a _ _ hd.1)
  ·obtain ⟨a1,h1,h2⟩:=h
   obtain ⟨v,rfl⟩:=singleQ_put (h1 (fun _=>False) (fun _ e=>e.elim) (fun _ _ e _=>e.elim))
   exact (wpF_keeps l _ _ hd.2 h2).trans (put_get_ne a _ _ hd.1)
theorem wpFq_of (hφ : StabP φ) {F:(Tmp → Value) → Act} {D:List Tmp} (hq:∀ ν,(∀ d,p d (ν d)) → ∀ d,d ∉ fs → d ∉ ds → (F ν).tmps[d]?.getD undef = q d) : ∀ (l:List Oper) (done:List Tmp) (a:Act) (ν0 : Tmp → Value) (R:Facts),(∀ d,p d (ν0 d)) → dstB l a.tmps.size = true → (∀ d,d ∈ done → ∀ o,o ∈ l → o.dst ≠ some d) →
  (∀ d,d ∈ done → ∀ w,R d w → φ d (ν0 d) w) → (∀ ν,(∀ d,p d (ν d)) → (∀ d,d ∈ done → ν d = ν0 d) → wpF P ops W fs ds φ ν (fun a' D'=>a' = F ν ∧ D' = D) done l a) →
  wpFq P ops W q p fs ds φ (fun a' R'=>∃ ν,(∀ d,p d (ν d)) ∧ a' = F ν ∧ ∀ d,d ∈ D → ∀ w,R' d w → φ d (ν d) w) l a R
 | [],done,a,ν0,R,hp0,_,_,hR,h=>by
  obtain ⟨h1,h2⟩:=h ν0 hp0 (fun _ _=>rfl)
  subst h2
  exact ⟨ν0,hp0,h1,hR⟩
 | o :: l,done,a,ν0,R,hp0,hd,hdj,hR,h=>by
  simp only [dstB,Bool.and_eq_true] at hd
  obtain ⟨hd1,hd2⟩:=hd
  obtain ⟨d,hdst⟩ : ∃ d,o.dst = some d:=by
   cases e : o.dst with
   | none=>rw [e] at hd1; cases hd1
   | some d=>exact ⟨d,rfl⟩
  rw [hdst] at hd1
  simp only [Bool.and_eq_true,decide_eq_true_eq] at hd1
  have hdl : ∀ o',o' ∈ l → o'.dst ≠ some d:=fun o' ho'=>by
   have:=List.all_eq_true.1 hd1.2 o' ho'
   simpa using this
  have hpre : ∀ w,PreF W ops R o w → PreV W ops φ ν0 done o w:=fun w hw=>⟨hw.1,fun k hk hl=>hR k hk w (hw.2 k (by simpa using hl))⟩
  unfold wpFq
  cases hf : isF fs o with
  | true =>
   have hν : ∀ ν : Tmp → Value,(∀ d,p d (ν d)) → (∀ k,k ∈ done → ν k = ν0 k) → _:=fun ν hp hν=>by
    have:=h ν hp hν
    unfold wpF at this
    rw [if_pos hf] at this
    exact this
   refine ⟨?_,fun v hv=>?_⟩
   ·unfold condF
    rw [if_pos hf]
    obtain ⟨h1,h2,_⟩:=hν ν0 hp0 (fun _ _=>rfl)
    exact ⟨h1,fun w hw=>h2 w (hpre w hw)⟩
   ·have hdd : d ∉ done:=fun e=>hdj d e o List.mem_cons_self hdst
    refine wpFq_of hφ hq l (o.dst.toList ++ done) _ (fun k=>if k = d then v else ν0 k) _ (fun k=>?_) (by rw [put_size]; exact hd2) ?_ ?_ ?_
    ·unfold admF at hv
     rw [if_pos hf] at hv
     by_cases e : k = d
     ·subst e; rw [if_pos rfl]; exact hv _ hdst
     ·rw [if_neg e]; exact hp0 k
    ·intro k hk o' ho'
     rw [hdst] at hk
     simp only [Option.toList_some,List.cons_append,List.nil_append,List.mem_cons] at hk
     rcases hk with rfl | hk
     ·exact hdl o' ho'
     ·exact hdj k hk o' (List.mem_cons_of_mem _ ho')
    ·intro k hk w hw
     rw [hdst] at hk
     simp only [Option.toList_some,List.cons_append,List.nil_append,List.mem_cons] at hk
     unfold upF at hw
     by_cases e : k = d
     ·subst e
      rw [if_pos ⟨hdst,hf⟩] at hw
      rw [if_pos rfl]
      exact hw
     ·rw [if_neg (fun e'=>e (Option.some.inj (hdst.symm.trans e'.1)).symm)] at hw
      rw [if_neg e]
      exact hR k (hk.resolve_left e) w hw
    ·intro ν hpν hag
     rw [hdst] at hag
     simp only [Option.toList_some,List.cons_append,List.nil_append,List.mem_cons] at hag
     have hvd : ν d = v:=by have:=hag d (.inl rfl); rwa [if_pos rfl] at this
     have h3:=(hν ν hpν (fun k hk=>by
      have:=hag k (.inr hk)
      rwa [if_neg (by rintro rfl; exact hdd hk)] at this)).2.2
     have e : vqF ν o = v:=by unfold vqF; rw [hdst]; exact hvd
     rw [e] at h3
     exact h3
  | false =>
   have hdf : d ∉ fs:=by
    have:=hf
    unfold isF at this
    rw [hdst] at this
    simpa using this
   cases hdd : isD fs ds o with
   | true =>
    have hν : ∀ ν : Tmp → Value,(∀ d,p d (ν d)) → (∀ k,k ∈ done → ν k = ν0 k) → _:=fun ν hp hν=>by
     have:=h ν hp hν
     unfold wpF at this
     rw [if_neg (by rw [hf]; decide),if_pos hdd] at this
     exact this
    have hpv : ∀ v,(∀ w,(execOp a.eval o).run P w = .ok (.value v) w) → v = pvF P W o a:=fun v hv=>by
     unfold pvF
     rw [hv]
    refine ⟨?_,fun v hv=>?_⟩
    ·unfold condF
     rw [if_neg (by rw [hf]; decide),if_pos hdd]
     intro hw w
     obtain ⟨v,h1,_⟩:=hν ν0 hp0 (fun _ _=>rfl)
     rw [← hpv v (h1 hw)]
     exact h1 hw w
    ·unfold admF at hv
     rw [if_neg (by rw [hf]; decide),if_pos hdd] at hv
     have hup : upF fs φ o v R = R:=by
      funext k
      unfold upF
      rw [if_neg (fun e=>by rw [hf] at e; cases e.2)]
     rw [hup]
     refine wpFq_of hφ hq l done _ ν0 R hp0 (by rw [put_size]; exact hd2) (fun k hk o' ho'=>hdj k hk o' (List.mem_cons_of_mem _ ho')) hR fun ν hp hν'=>?_
     obtain ⟨u,h1,h2⟩:=hν ν hp hν'
     have e : v = if Region.wanted o (yielded ops a.tmps) then u else undef:=by
      by_cases hw : Region.wanted o (yielded ops a.tmps) = true
      ·rw [if_pos hw] at hv ⊢
       rw [hv,hpv u (h1 hw)]
      ·rw [if_neg hw] at hv ⊢
       exact hv
     rw [e]
     exact h2
   | false =>
   have hds : d ∉ ds:=by
    have:=hdd
    unfold isD at this
    rw [hdst] at this
    simp only [Bool.and_eq_false_iff,Bool.not_eq_false'] at this
    rcases this with h1 | h1
    ·exact absurd (by simpa using h1) hdf
    ·simpa using h1
   have hone : ∀ ν : Tmp → Value,(∀ d,p d (ν d)) → (∀ k,k ∈ done → ν k = ν0 k) → ∃ a1,(∀ C,(∀ w,C w → PreV W ops φ ν done o w) → Grows C → wpQuiet P ops C (fun a'=>a' = a1) [o] a) ∧ wpF P ops W fs ds φ ν (fun a' D'=>a' = F ν ∧ D' = D) done l a1 ∧ (Region.wanted o (yielded ops a.tmps) = true → a1.tmps[d]? = some (q d)):=fun ν hpν hν=>by
    have h1:=h ν hpν hν
    unfold wpF at h1
    rw [if_neg (by rw [hf]; decide),if_neg (by rw [hdd]; decide)] at h1
    obtain ⟨a1,h2,h3⟩:=h1
    refine ⟨a1,h2,h3,fun hw=>?_⟩
    have h4:=wpF_keeps l _ _ hd1.2 h3
    obtain ⟨v,rfl⟩:=singleQ_put (h2 (fun _=>False) (fun _ e=>e.elim) (fun _ _ e _=>e.elim))
    have h5 : (a.put o.dst v).tmps[d]? = some v:=by rw [hdst]; simp [Act.put,hd1.1]
    rw [h5] at h4
    have h6:=hq ν hpν d hdf hds
    rw [h4] at h6
    rw [h5,← h6]
    rfl
   have hput : ∀ (a1:Act) (v:Value),a1 = a.put o.dst v → a1.tmps[d]? = some (q d) → v = q d:=fun a1 v e h1=>by
    rw [e,hdst] at h1
    simpa [Act.put,hd1.1] using h1
   have hvq : vqF q o = q d:=by unfold vqF; rw [hdst]
   refine ⟨?_,fun v hv=>?_⟩
   ·unfold condF
    rw [if_neg (by rw [hf]; decide),if_neg (by rw [hdd]; decide)]
    intro hw w hp hst
    obtain ⟨a1,h2,_,h4⟩:=hone ν0 hp0 (fun _ _=>rfl)
    have hp':=hpre w hp
    have h5:=singleQ (h2 (fun w'=>Below w.heap.size w w') (fun w' hw'=>⟨hp'.1.trans (hw'.mono hp'.1.size),fun k hk hl=>hφ _ _ _ _ (hp'.2 k hk hl) hw'⟩) (fun _ _ h1 h2=>h1.trans (h2.mono h1.size)))
    rw [if_pos hw] at h5
    obtain ⟨u,h6,h7⟩:=h5
    obtain rfl:=hput a1 u h7.symm (h4 hw)
    rw [hvq]
    exact h6 w (Below.refl _ _)
   ·unfold admF at hv
    rw [if_neg (by rw [hf]; decide),if_neg (by rw [hdd]; decide)] at hv
    have hup : upF fs φ o v R = R:=by
     funext k
     unfold upF
     rw [if_neg (fun e=>by rw [hf] at e; cases e.2)]
    rw [hup]
    refine wpFq_of hφ hq l done _ ν0 R hp0 (by rw [put_size]; exact hd2) (fun k hk o' ho'=>hdj k hk o' (List.mem_cons_of_mem _ ho')) hR fun ν hpν hν=>?_
    obtain ⟨a1,h2,h3,h4⟩:=hone ν hpν hν
    have h5:=singleQ (h2 (fun _=>False) (fun _ e=>e.elim) (fun _ _ e _=>e.elim))
    have e : a.put o.dst v = a1:=by
     by_cases hw : Region.wanted o (yielded ops a.tmps) = true
     ·rw [if_pos hw] at h5 hv
      obtain ⟨u,_,h7⟩:=h5
      obtain rfl:=hput a1 u h7.symm (h4 hw)
      rw [hv,hvq]
      exact h7
     ·rw [if_neg hw] at h5 hv
      rw [hv]
      exact h5
    rw [e]
    exact h3
theorem wp_region_freeD {id:Nat} {Q:Exit → Act → World → Prop} {a:Act} {w:World} {l:List Oper} (n:Nat) (fs ds:List Tmp) (p:Tmp → Value → Prop) (φ : Tmp → Value → World → Prop) (hm:P.follows .mixedOrders = true) (hB:Region.lexTailB .any l.toArray n = true) (hd:dstB (l.take n) a.tmps.size = true) (hφ : StabP φ)
  (hp:∀ d v w,φ d v w → p d v) (hinh:∀ d,∃ v,p d v)
  (h:∃ (F:(Tmp → Value) → Act) (D:List Tmp),(∀ ν,(∀ d,p d (ν d)) → wpF P l.toArray w.drew fs ds φ ν (fun a' D'=>a' = F ν ∧ D' = D) [] (l.take n) a) ∧ (∀ ν ν',clearF (fs ++ ds) (F ν) = clearF (fs ++ ds) (F ν')) ∧
   ∀ ν w',(∀ d,p d (ν d)) → Below w.drew.heap.size w.drew w' → (∀ d,d ∈ D → φ d (ν d) w') → wpList P l.toArray Q (l.drop n) (F ν) w') : (Code.region id l.toArray true).wp P Q a w:=by
 simp only [Region.lexTailB,Bool.and_eq_true,decide_eq_true_eq] at hB
 obtain ⟨⟨⟨⟨hsel,hn⟩,hs⟩,hc⟩,hlex⟩:=hB
 obtain ⟨F,D,hF,hcl,hT⟩:=h
 obtain ⟨ν0,hν0⟩ : ∃ ν0 : Tmp → Value,∀ d,p d (ν0 d):=⟨fun d=>Classical.choose (hinh d),fun d=>Classical.choose_spec (hinh d)⟩
 have hn' : n < l.length:=by simpa using hn
 have htl : (l.take n).length = n:=by simp; omega
 have hdl : (l.drop n).length = l.toArray.size - n:=by simp
 have inv0 : HeadInv .any l.toArray n (Array.replicate l.toArray.size false) :=
  ⟨by simp,fun j oj _ hl=>(by rw [getD_replicate_false] at hl; cases hl),fun t _ ht=>getD_in (by simpa using ht) (getD_replicate_false _ _)⟩
 have hst : StabF (fun _ _=>True):=fun _ _ _ _ _=>trivial
 have H:=wpAnyF_lex (p:=p) (md:=.any) (g:=l.toArray.size - n) hφ hinh hsel hs hc hn (l.take n) 0 _ a (fun _ _=>True) hst (fun j hj=>by
  have hj' : j < n:=by rw [htl] at hj; exact hj
  simp [hj']) (by simpa using htl) inv0 (by rw [htl]; exact hlex)
  (wpFq_of (P:=P) (W:=w.drew) (F:=F) (D:=D) (fs:=fs) (ds:=ds) (p:=p) (q:=fun d=>(F ν0).tmps[d]?.getD undef) hφ (fun ν _ d hdf hdd=>by
   have hn : d ∉ fs ++ ds:=fun e=>(List.mem_append.1 e).elim hdf hdd
   rw [← clearF_get d (fs ++ ds) (F ν) hn,hcl ν ν0,clearF_get d (fs ++ ds) _ hn]) (l.take n) [] a ν0 (fun _ _=>True) hν0 hd (fun _ e=>by cases e) (fun _ e=>by cases e) (fun ν hpν _=>hF ν hpν))
 have hcf : CF w.drew (fun _ _=>True) w.drew:=⟨Below.refl _ _,fun _=>trivial,hst⟩
 refine wp_region_any hm ?_
 have:=wpAny_of_F (P:=P) (ops:=l.toArray) (md:=.any) (W:=w.drew) (fs:=fs) (ds:=ds) (Q':=Q) (g:=l.toArray.size - n) hφ hp (fun listed a' R w' hw' hL=>by
  have:=wpAny_of_seq (P:=P) (ops:=l.toArray) (md:=.any) (Q':=Q) (l.drop n) n listed a' w' (fun j=>by simp [List.getElem?_drop]) (by rw [hdl]; exact hL.1) (by
   obtain ⟨ν,hpν,rfl,hR⟩:=hL.2
   exact hT ν w' hpν hw'.1 (fun d hd=>hR d hd w' (hw'.2.1 d)))
  rwa [hdl] at this) _ _ _ _ w.drew hcf H
 rw [htl,show n + (l.toArray.size - n) = l.toArray.size by omega] at this
 exact this
theorem wp_region_free {id:Nat} {Q:Exit → Act → World → Prop} {a:Act} {w:World} {l:List Oper} (n:Nat) (fs:List Tmp) (φ : Tmp → Value → World → Prop) (hm:P.follows .mixedOrders = true) (hB:Region.lexTailB .any l.toArray n = true) (hd:dstB (l.take n) a.tmps.size = true) (hφ : StabP φ)
  (h:∃ (F:(Tmp → Value) → Act) (D:List Tmp),(∀ ν,wpF P l.toArray w.drew fs [] φ ν (fun a' D'=>a' = F ν ∧ D' = D) [] (l.take n) a) ∧ (∀ ν ν',clearF fs (F ν) = clearF fs (F ν')) ∧
   ∀ ν w',Below w.drew.heap.size w.drew w' → (∀ d,d ∈ D → φ d (ν d) w') → wpList P l.toArray Q (l.drop n) (F ν) w') : (Code.region id l.toArray true).wp P Q a w :=
 let ⟨F,D,h1,h2,h3⟩:=h
 wp_region_freeD n fs [] (fun _ _=>True) φ hm hB hd hφ (fun _ _ _ _=>trivial) (fun _=>⟨undef,trivial⟩) ⟨F,D,fun ν _=>h1 ν,by rw [List.append_nil]; exact h2,fun ν w' _=>h3 ν w'⟩
def tupG (v:Value) (i:Nat) : Value:=match v with | .tuple vs=>vs.getD i undef | _=>undef
/-! ### steps -/
variable {ν : Tmp → Value} {E:Act → List Tmp → Prop} {done:List Tmp} {o:Oper} {l:List Oper} {a:Act}
theorem wpF_nil (h:E a done) : wpF P ops W fs ds φ ν E done [] a:=h
theorem wpF_q (hf:(isF fs o || isD fs ds o) = false) {a1:Act} (h1:∀ C,(∀ w,C w → PreV W ops φ ν done o w) → Grows C → wpQuiet P ops C (fun a'=>a' = a1) [o] a) (h2:wpF P ops W fs ds φ ν E done l a1) : wpF P ops W fs ds φ ν E done (o :: l) a:=by
 rw [Bool.or_eq_false_iff] at hf
 unfold wpF
 rw [if_neg (by rw [hf.1]; decide),if_neg (by rw [hf.2]; decide)]
 exact ⟨a1,h1,h2⟩
theorem wpF_free (f:FuncId) (args:Array Value) (hf:isF fs o = true) (hw:Region.wanted o (yielded ops a.tmps) = true) 
  (hc:∀ w,Below W.heap.size W w → (∀ d,d ∈ done → (o.looksAt ops).contains d = true → φ d (ν d) w) → Calls P f args w (fun e w''=>∃ v,e = .returned v ∧ (∀ d,o.dst = some d → φ d v w'') ∧ Below w.heap.size w w''))
  (hrun:∀ w,(execOp a.eval o).run P w = .ok (.enter f args) w)
  (h:wpF P ops W fs ds φ ν E (o.dst.toList ++ done) l (a.put o.dst (vqF ν o))) : wpF P ops W fs ds φ ν E done (o :: l) a:=by
 unfold wpF
 rw [if_pos hf]
 refine ⟨hw,fun w hp=>?_,h⟩
 unfold RunsF
 rw [hrun]
 exact ⟨rfl,hc w hp.1 hp.2⟩
variable {C:World → Prop} {K:Act → Prop}
theorem qf_loadA (ty:TypeId) (x:Operand) (ho:o.op = .load ty x) (g off:Nat) (hx:a.eval x = .pointer (some ⟨g,off,none⟩)) (t:TypeId) (cs:Array Value) (hC:∀ w,C w → PreV W ops φ ν done o w) (hr:Row W g t cs)
  (h1:∀ w,(isAgg ty).run P w = .ok true w) (sz:Nat) (h2:∀ w,(sizeOf ty).run P w = .ok sz w) (hs:off + sz ≤ cs.size) (v:Array Value) (hv:sub cs off sz = v) (hk:K (a.put o.dst (.agg v))) : o.quiet P a C K:=by
 refine ⟨.agg v,fun w' hw'=>?_,hk⟩
 have hr':=Row.below hr (hC w' hw').1 hr.lt
 have hl:=run_loadCells_sub (P:=P) w' g off sz t cs hr' hs
 rw [hv] at hl
 unfold Oper.quietAt execOp
 simp only [ho,hx]
 simp [Instr.loadAt,Instr.sureAddr,loadVar,Sem.run_bind,h1,h2,hl,Oper.quietUpon]
theorem qf_load1 (ty:TypeId) (x:Operand) (ho:o.op = .load ty x) (g off:Nat) (hx:a.eval x = .pointer (some ⟨g,off,none⟩)) (t:TypeId) (cs:Array Value) (hC:∀ w,C w → PreV W ops φ ν done o w) (hr:Row W g t cs)
  (h1:∀ w,(isAgg ty).run P w = .ok false w) (v:Value) (hv:cs[off]? = some v) (hk:K (a.put o.dst v)) : o.quiet P a C K:=by
 refine ⟨v,fun w' hw'=>?_,hk⟩
 have hc:=(Row.below hr (hC w' hw').1 hr.lt).cell off
 rw [hv] at hc
 unfold Oper.quietAt execOp
 simp only [ho,hx]
 simp [Instr.loadAt,Instr.sureAddr,loadVar,Sem.run_bind,h1,run_load,hc,Oper.quietUpon]
end
section
variable {P:Program} {ops:Array Oper} {W:World} {fs ds:List Tmp} {φ : Tmp → Value → World → Prop} {ν : Tmp → Value} {E:Act → List Tmp → Prop} {done:List Tmp} {o:Oper} {l:List Oper} {a:Act}
theorem wpF_alloc (hf:isF fs o = true) (hw:Region.wanted o (yielded ops a.tmps) = true)
  (hr:∀ w,Below W.heap.size W w → (∀ d,d ∈ done → (o.looksAt ops).contains d = true → φ d (ν d) w) → ∃ v w',(execOp a.eval o).run P w = .ok (.value v) w' ∧ (∀ d,o.dst = some d → φ d v w') ∧ Below w.heap.size w w')
  (h:wpF P ops W fs ds φ ν E (o.dst.toList ++ done) l (a.put o.dst (vqF ν o))) : wpF P ops W fs ds φ ν E done (o :: l) a:=by
 unfold wpF
 rw [if_pos hf]
 refine ⟨hw,fun w hp=>?_,h⟩
 obtain ⟨v,w',h1,h2,h3⟩:=hr w hp.1 hp.2
 unfold RunsF
 rw [h1]
 exact ⟨h2,h3⟩
end
end Go.Proofs.YtjpfhhndjpdmoaaGreatDoor
