/- Part of the proof: Put. No conditions of its own. -/
import Derived.Test.YtjpfhhndjpdmoaaGreatDoorS20
namespace Go.Proofs.YtjpfhhndjpdmoaaGreatDoor
open Go.RowKit
set_option linter.unusedVariables false
set_option linter.unusedSimpArgs false

theorem stC_oP {h x:List UInt32} {b:List UInt8} {v:Value} {n:Int} : over (stC h v n) 0 (AD (pressS x b)) = stC (pressS x b) v n:=stC_oh _ rfl
theorem stC_g8 {h:List UInt32} {v:Value} {n:Int} (q:8 < (stC h v n).size) : (stC h v n)[8] = v:=by
 have:=stC_8 (h:=h) (v:=v) (n:=n)
 rw [Array.getElem?_eq_getElem q] at this
 exact Option.some.inj this
theorem stC_g9 {h:List UInt32} {v:Value} {n:Int} (q:9 < (stC h v n).size) : (stC h v n)[9] = .int .i64 n:=by
 have:=stC_9 (h:=h) (v:=v) (n:=n)
 rw [Array.getElem?_eq_getElem q] at this
 exact Option.some.inj this
theorem stC_start : stC startS (.slice none 0 0) 0 = #[.int .u32 1779033703,.int .u32 3144134277,.int .u32 1013904242,.int .u32 2773480762,.int .u32 1359893119,.int .u32 2600822924,.int .u32 528734635,.int .u32 1541459225,.slice none 0 0,.int .i64 0]:=by kernel_rfl
theorem AD_start : AD startS = #[.int .u32 1779033703,.int .u32 3144134277,.int .u32 1013904242,.int .u32 2773480762,.int .u32 1359893119,.int .u32 2600822924,.int .u32 528734635,.int .u32 1541459225]:=by kernel_rfl
set_option maxRecDepth 100000 in
set_option maxHeartbeats 4000000 in
theorem hnew_any {tg:TypeId} (w:World) (hv:Row w 8 tg (AD startS)) : Calls Tryz.prog 161 #[] w fun e w'=>∃ g,e = .returned (.pointer (some ⟨g,0,none⟩)) ∧ w.heap.size ≤ g ∧ Row w' g 300 (stC startS (.slice none 0 0) 0) ∧ Below w.heap.size w w':=by
 rw [AD_start] at hv
 go_enter Tryz.func161,Tryz.ntmps161
 go_wp2_with fail
 go_ret
 exact ⟨w.heap.size,rfl,Nat.le_refl _,by rw [stC_start]; exact Row.new _ _ _,(Below.refl _ _).alloc (Nat.le_refl _) _⟩
structure MidW (w:World) (B0 g:Nat) (h:List UInt32) (v:Value) (n:Nat) (l:List UInt8) : Prop where
 row : Row w g 300 (stC h v n)
 own : OwnW w B0 v l
 ge : B0 ≤ g
def StW (w:World) (B0 g:Nat) (v:Value) (L:List UInt8) : Prop:=MidW w B0 g (hS L) v L.length (waitS L)
structure Apart (w0:World) (g:Nat) (x:Option Nat) (w:World) (v:Value) : Prop where
 os : w.os = w0.os
 tape : w.tape = w0.tape
 output : w.output = w0.output
 size : w0.heap.size ≤ w.heap.size
 block : ∀ k,k < w0.heap.size → k ≠ g → some k ≠ x → w.heap[k]? = w0.heap[k]?
 fresh : v.ownBlock = x ∨ ∀ k,v.ownBlock = some k → w0.heap.size ≤ k
theorem Apart.refl (w:World) (g:Nat) (v:Value) : Apart w g v.ownBlock w v:=⟨rfl,rfl,rfl,Nat.le_refl _,fun _ _ _ _=>rfl,.inl rfl⟩
theorem Apart.below {w0 w w':World} {g:Nat} {x:Option Nat} {v:Value} (h:Apart w0 g x w v) (hb:Below w.heap.size w w') : Apart w0 g x w' v :=
 ⟨hb.os.trans h.os,hb.tape.trans h.tape,hb.output.trans h.output,Nat.le_trans h.size hb.size,fun k h1 h2 h3=>(hb.block k (Nat.lt_of_lt_of_le h1 h.size)).trans (h.block k h1 h2 h3),h.fresh⟩
theorem Apart.self {w0 w w':World} {g:Nat} {x:Option Nat} {v:Value} (h:Apart w0 g x w v) (hg:w.grownBy w' (some g)) : Apart w0 g x w' v :=
 ⟨hg.os.trans h.os,hg.tape.trans h.tape,hg.output.trans h.output,Nat.le_trans h.size hg.size,fun k h1 h2 h3=>(hg.block k (Nat.lt_of_lt_of_le h1 h.size) (fun e=>h2 (Option.some.inj e))).trans (h.block k h1 h2 h3),h.fresh⟩
theorem Apart.wait {w0 w w':World} {g:Nat} {x:Option Nat} {v v':Value} (h:Apart w0 g x w v) (hg:w.grownBy w' v.ownBlock) (hv:v'.ownBlock = v.ownBlock ∨ v'.ownBlock = some w.heap.size) : Apart w0 g x w' v':=by
 refine ⟨hg.os.trans h.os,hg.tape.trans h.tape,hg.output.trans h.output,Nat.le_trans h.size hg.size,fun k h1 h2 h3=>(hg.block k (Nat.lt_of_lt_of_le h1 h.size) (fun e=>?_)).trans (h.block k h1 h2 h3),?_⟩
 ·rcases h.fresh with hf | hf
  ·exact h3 (e.trans hf)
  ·have:=hf k e.symm; omega
 ·rcases hv with hv | hv
  ·rw [hv]; exact h.fresh
  ·exact .inr fun k hk=>by rw [hv] at hk; have:=Option.some.inj hk; have:=h.size; omega
theorem Apart.same {w0 w:World} {g:Nat} {x:Option Nat} {v v':Value} (h:Apart w0 g x w v) (hv:v'.ownBlock = v.ownBlock) : Apart w0 g x w v' :=
 ⟨h.os,h.tape,h.output,h.size,h.block,by rw [hv]; exact h.fresh⟩
theorem Apart.belowB {w0 w:World} {g B0:Nat} {x:Option Nat} {v:Value} (h:Apart w0 g x w v) (hg:B0 ≤ g) (hx:∀ k,x = some k → B0 ≤ k) (hB:B0 ≤ w0.heap.size) : Below B0 w0 w :=
 ⟨h.os,h.tape,h.output,h.size,fun k hk=>h.block k (by omega) (by omega) (fun e=>by have:=hx k e.symm; omega)⟩
theorem OwnW.ne {w:World} {B0 g:Nat} {v:Value} {l:List UInt8} {t:TypeId} {cs:Array Value} (h:OwnW w B0 v l) (hr:Row w g t cs) (ht:t ≠ 5) : v.ownBlock ≠ some g:=fun e=>by
 rcases h.row with e1 | ⟨b,c,e1,_,hr'⟩
 ·rw [e1] at e; cases e
 ·rw [e1] at e
  obtain rfl:=Option.some.inj e
  have h1:=hr.heap
  rw [hr'.heap] at h1
  simp only [Option.some.injEq,Obj.cells.injEq] at h1
  exact ht h1.2.1.symm
section
variable {w w':World} {B0 g:Nat} {h h':List UInt32} {v v':Value} {n m:Nat} {l l':List UInt8}
theorem MidW.self (k:MidW w B0 g h v n l) (hg:w.grownBy w' (some g)) (hr:Row w' g 300 (stC h' v m)) : MidW w' B0 g h' v m l:=by
 refine ⟨hr,k.own.congr fun b hb=>?_,k.ge⟩
 have hne:=k.own.ne k.row (by decide)
 rcases k.own.row with e | ⟨b',cs,e,_,hr'⟩
 ·rw [e] at hb; cases hb
 ·rw [e] at hb
  obtain rfl:=Option.some.inj hb
  exact hg.block _ hr'.lt (fun e2=>hne (e.trans e2))
theorem MidW.below (k:MidW w B0 g h v n l) (hb:Below w.heap.size w w') : MidW w' B0 g h v n l:=⟨Row.below k.row hb k.row.lt,k.own.below hb,k.ge⟩
theorem MidW.wait (k:MidW w B0 g h v n l) (ho:OwnW w' B0 v' l') (hg:w.grownBy w' v.ownBlock) : MidW (w'.setCell ⟨g,8,none⟩ v') B0 g h v' n l':=by
 have hne:=k.own.ne k.row (by decide)
 have hr : Row w' g 300 (stC h v n):=(row_congr (hg.block _ k.row.lt (fun e=>hne e.symm))).trans k.row
 refine ⟨by have:=hr.set 8 v'; rwa [stC_s8] at this,?_,k.ge⟩
 have hne':=ho.ne hr (by decide)
 exact ho.congr fun b hb=>heap_setCell_other w' _ b v' (fun e=>hne' (by rw [hb]; exact congrArg some e))
end
theorem grownBy_setW (w:World) (g i:Nat) (v:Value) : w.grownBy (w.setCell ⟨g,i,none⟩ v) (some g) :=
 ⟨rfl,rfl,rfl,by simp,fun k hk hne=>heap_setCell_other w _ k v (fun e=>hne (by rw [e]))⟩
theorem MidW.set9 {w:World} {B0 g n:Nat} {h:List UInt32} {v:Value} {l:List UInt8} (k:MidW w B0 g h v n l) (m:Nat) : MidW (w.setCell ⟨g,9,none⟩ (.int .i64 (m:Int))) B0 g h v m l :=
 k.self (grownBy_setW w g 9 _) (by have:=k.row.set 9 (.int .i64 (m:Int)); rwa [stC_s9] at this)
theorem MidW.rowK {w w':World} {B0 g n:Nat} {h:List UInt32} {v:Value} {l:List UInt8} (k:MidW w B0 g h v n l) (hg:w.grownBy w' v.ownBlock) : Row w' g 300 (stC h v n) :=
 (row_congr (hg.block _ k.row.lt (fun e=>k.own.ne k.row (by decide) e.symm))).trans k.row
theorem wpl_appW {w:World} {ops:Array Oper} {rest:List Oper} {o:Oper} {a:Act} {Q:Exit → Act → World → Prop} (hgd:o.guard = none) (s x:Operand)
  (ho:o.op = .call { callee:=.builtin .append,args:=#[s,x],argTypes:=#[22,22] })
  (B0:Nat) (v:Value) (l:List UInt8) (hs:a.eval s = v) (h:OwnW w B0 v l) (vx:Value) (m:List UInt8) (hx:a.eval x = vx) (hS:SlB w vx m) (hlen:l.length + m.length ≤ 1000000000) (hbase:B0 ≤ w.heap.size)
  (hK:∀ v' w',OwnW w' B0 v' (l ++ m) → w.grownBy w' v.ownBlock → (v'.ownBlock = v.ownBlock ∨ v'.ownBlock = some w.heap.size) → wpList Tryz.prog ops Q rest (a.put o.dst v') w') : wpList Tryz.prog ops Q (o :: rest) a w :=
 wpList_plain hgd fun _ hk=>by
  obtain ⟨v',w',hr,h1,h2,h3⟩:=run_appW w B0 v l h vx m hS hlen hbase o.type
  unfold Oper.wp execOp
  simp only [ho,resolve,invoke,builtin,Sem.run_bind,Sem.run_pure,Result.andThen_ok,List.map_toArray,List.map_cons,List.map_nil,hs,hx,hr]
  exact hk _ _ (hK v' w' h1 h2 h3)
theorem grownBy_setRW (w:World) (g:Nat) (cs:Array Value) : w.grownBy (w.setRow g cs) (some g) :=
 ⟨rfl,rfl,rfl,by simp,fun k _ hne=>setRow_other w g k cs (fun e=>hne (by rw [e]))⟩
theorem MidW.cut {w:World} {B0 g n:Nat} {h:List UInt32} {v v':Value} {l l':List UInt8} (k:MidW w B0 g h v n l) (ho:OwnW w B0 v' l') : MidW (w.setCell ⟨g,8,none⟩ v') B0 g h v' n l':=k.wait ho (World.grownBy.refl w _)
def PartsW (w:World) (bad:Nat → Prop) (vp:Value) (ps:List (List UInt8)) : Prop :=
 ∃ a cap,vp = .slice a ps.length cap ∧ ∀ i p,ps[i]? = some p → ∃ b o v,a = some ⟨b,o,none⟩ ∧ w.cell? ⟨b,o + i,none⟩ = some v ∧ ¬ bad b ∧ SlB w v p ∧ ∀ ad,addrV v = some ad → ¬ bad ad.block
theorem SlB.apart {w0 w:World} {g:Nat} {x:Option Nat} {v u:Value} {p:List UInt8} (h:SlB w0 u p) (hA:Apart w0 g x w v) (hb:∀ ad,addrV u = some ad → ¬ (ad.block = g ∨ x = some ad.block)) : SlB w u p:=by
 obtain ⟨a,cap,rfl,h1,h2,h3,h4⟩:=h
 refine ⟨a,cap,rfl,h1,h2,h3,fun ad had=>⟨(h4 ad had).1,fun i hi=>?_⟩⟩
 have hc:=(h4 ad had).2 i hi
 have hn:=hb ad had
 have hlt:=World.block_lt_of_cell? w0 ⟨ad.block,ad.off + i,none⟩ hc
 have:=hA.block ad.block hlt (fun e=>hn (.inl e)) (fun e=>hn (.inr e.symm))
 rw [show w.cell? ⟨ad.block,ad.off + i,none⟩ = w0.cell? ⟨ad.block,ad.off + i,none⟩ by simp [World.cell?,this]]
 exact hc
attribute [local go_sem ↓] stC_8 stC_9
attribute [local go_sem] stC_g8 stC_g9 stC_sz stC_s8 stC_s9 stC_oP
set_option maxRecDepth 100000 in
set_option maxHeartbeats 4000000 in
theorem put_any {tg:TypeId} (w:World) (B0 g:Nat) (v0 vp:Value) (L:List UInt8) (ps:List (List UInt8)) (hv:Row w 10 tg (AD roundsS)) (hv0:10 < B0) (hB0:B0 ≤ w.heap.size) (h:StW w B0 g v0 L) (hp:PartsW w (fun k=>k = g ∨ v0.ownBlock = some k) vp ps) (hl:(L ++ ps.flatten).length ≤ 1000000) (hn:ps.length ≤ 1000) :
  Calls Tryz.prog 162 #[.pointer (some ⟨g,0,none⟩),vp] w fun e w'=>e = .returned (.tuple #[]) ∧ ∃ v,StW w' B0 g v (L ++ ps.flatten) ∧ Apart w g v0.ownBlock w' v:=by
 obtain ⟨a,cap,rfl,hcell⟩:=hp
 have hgB : B0 ≤ g:=h.ge
 have hx : ∀ k,v0.ownBlock = some k → B0 ≤ k:=fun k hk=>by
  rcases h.own.row with e | ⟨b,cs,e,hb,_⟩
  ·rw [e] at hk; cases hk
  ·rw [e] at hk; obtain rfl:=Option.some.inj hk; exact hb
 have HVA:=Lib.hid (fun (W:World) (v':Value) (hA:Apart w g v0.ownBlock W v')=>(row_congr (hA.block _ hv.lt (by omega) (fun e=>by have:=hx _ e.symm; omega))).trans hv)
 have HC:=Lib.hid hcell
 have HS:=Lib.hid h
 have HV:=Lib.hid hv
 have HL:=Lib.hid hl
 clear hcell h hv hl hx
 go_enter Tryz.func162,Tryz.ntmps162
 go_wp2_with fail
 go_loopg [10] ps.length (fun gk t10 wr=>∃ (i:Nat) (v:Value),gk + i = ps.length ∧ t10 = .int .i64 (i:Int) ∧ StW wr B0 g v (L ++ (ps.take i).flatten) ∧ Apart w g v0.ownBlock wr v)
 case atStart=>exact ⟨0,v0,by omega,rfl,by simpa using HS.out,Apart.refl _ _ _⟩
 case round =>
  obtain ⟨i,v,hi,rfl,hS,hA⟩:=hrel
  by_cases hlt : i < ps.length
  ·obtain ⟨p,hpi⟩ : ∃ p,ps[i]? = some p:=⟨_,List.getElem?_eq_getElem hlt⟩
   obtain ⟨b,o,u,rfl,hc,hb,hu,hub⟩:=HC.out i p hpi
   have hcb:=hA.block b (World.block_lt_of_cell? w _ hc) (fun e=>hb (.inl e)) (fun e=>hb (.inr e.symm))
   have hc' : wr.cell? ⟨b,o + i,none⟩ = some u:=by rw [← hc]; simp [World.cell?,hcb]
   have hu':=hu.apart hA hub
   obtain ⟨X,hX⟩ : ∃ X,X = L ++ (ps.take i).flatten:=⟨_,rfl⟩
   have htk : L ++ (ps.take (i + 1)).flatten = X ++ p:=by
    rw [List.take_add_one,hpi,hX]; simp
   have hYl : (X ++ p).length ≤ 1000000:=by
    have h1:=HL.out
    have h2 : (L ++ ps.flatten) = (L ++ (ps.take (i + 1)).flatten) ++ (ps.drop (i + 1)).flatten:=by
     rw [List.append_assoc,← List.flatten_append,List.take_append_drop]
    rw [h2,htk,List.length_append] at h1
    omega
   rw [← hX] at hS
   have z0 : (0 : Int) ≤ (i:Int):=by omega
   have z1 : (i:Int) < (ps.length : Int):=by omega
   have z2 : ((i:Int)).toNat = i:=by omega
   have hr:=hS.row
   have HX:=Lib.hid (⟨htk,hYl,hX⟩ : _ ∧ _ ∧ _)
   obtain ⟨ua,uc,rfl,_⟩:=id hu'
   have q1 : (X.length : Int) + (p.length : Int) ≤ 1000000:=by rw [List.length_append] at hYl; omega
   have q2 : (p.length : Int) ≤ 1000000:=by omega
   have HS1:=Lib.hid hS
   have HA1:=Lib.hid hA
   have HU0:=Lib.hid (fun (W:World) (v':Value) (hA:Apart w g v0.ownBlock W v')=>hu.apart hA hub)
   obtain ⟨l1,hl1⟩ : ∃ l,l = waitS X ++ p:=⟨_,rfl⟩
   have HL1:=Lib.hid hl1
   clear hS hA hu' hu hub hc hcb hX htk hYl hb hpi hl1
   have hN : (X.length : Int) + (p.length : Int) = ((X.length + p.length : Nat) : Int):=by omega
   have M4:=HS1.out.set9 (X.length + p.length)
   rw [← hN] at M4
   have HM4:=Lib.hid M4
   have HA4:=Lib.hid (HA1.out.self (grownBy_setW wr g 9 (.int .i64 ((X.length : Int) + (p.length : Int)))))
   have HU4:=Lib.hid (HU0.out _ _ HA4.out)
   have hwl : (waitS X).length + p.length ≤ 1000000000:=by rw [waitS_len]; omega
   have hB4 : B0 ≤ (wr.setCell ⟨g,9,none⟩ (.int .i64 ((X.length : Int) + (p.length : Int)))).heap.size:=by have:=HA1.out.size; simp; omega
   have HWL:=Lib.hid (⟨hwl,hB4⟩ : _ ∧ _)
   clear M4 hN hwl hB4
   go_wp2_with (at_builtin; refine wpl_appW rfl (.tmp 27) (.tmp 28) rfl B0 v (waitS X) rfl HM4.out.own _ p rfl HU4.out HWL.out.1 HWL.out.2 ?_; intro v1 w1 ho1 hg1 hf1; have ho1 : OwnW w1 B0 v1 l1:=HL1.out ▸ ho1; obtain ⟨a1,c1,rfl,_⟩:=ho1.slb; have hr1:=HM4.out.rowK hg1; have HM5:=Lib.hid (HM4.out.wait ho1 hg1); have HA5:=Lib.hid ((HA4.out.wait hg1 hf1).self (grownBy_setW w1 g 8 (.slice a1 l1.length c1))); clear ho1 hg1 hf1)
   refine gen_wpR (fun w5=>MidW w5 B0 g (hS X) (.slice a1 l1.length c1) (X.length + p.length) l1 ∧ Apart w g v0.ownBlock w5 (.slice a1 l1.length c1)) ⟨HM5.out,HA5.out⟩ ?_
   clear HM5 HA5 hr1 HM4 HA4 HU4 HU0 HWL HS1 HA1 hr
   rintro w5 ⟨hM,hA⟩
   obtain ⟨Y,hY⟩ : ∃ Y,Y = X ++ p:=⟨_,rfl⟩
   have hYn : X.length + p.length = Y.length:=by rw [hY,List.length_append]
   have h0 : hS X = pressAll startS (X.length / 64) Y:=by
    rw [hY,pressAll_pre _ _ _ _ (by omega)]; rfl
   have hl0 : l1 = Y.drop (64 * (X.length / 64)):=by
    rw [HL1.out,hY,List.drop_append_of_le_length (by omega)]; rfl
   rw [hYn,h0] at hM
   have HY:=Lib.hid (⟨hY,hYn,hl0⟩ : _ ∧ _ ∧ _)
   have HM:=Lib.hid hM
   have HA:=Lib.hid hA
   have hX64 : X.length / 64 ≤ Y.length / 64:=by omega
   clear hM hA hY hYn h0 hl0
   go_loopg [] (Y.length / 64 - X.length / 64) (fun gk wx=>∃ (k:Nat) (v:Value) (l:List UInt8),gk + k = Y.length / 64 ∧ l = Y.drop (64 * k) ∧ MidW wx B0 g (pressAll startS k Y) v Y.length l ∧ Apart w g v0.ownBlock wx v)
   case atStart=>exact ⟨X.length / 64,_,l1,by omega,HY.out.2.2,HM.out,HA.out⟩
   case round =>
    clear HM HA
    obtain ⟨k,v2,l,hk,hlk,hM,hA⟩:=hrel
    obtain ⟨a2,c2,rfl,hlc,hcm,_⟩:=hM.own.slb
    have hll : l.length = Y.length - 64 * k:=by rw [hlk,List.length_drop]
    have hr:=hM.row
    by_cases h64 : 64 ≤ l.length
    ·have x1 : (64 : Int) ≤ (l.length : Int):=by omega
     have x2 : (64 : Int) ≤ (c2:Int):=by omega
     obtain ⟨b2,o2,c2',e2,-,-,-,-⟩:=hM.own.slb.addr (by omega)
     obtain ⟨rfl,-,rfl⟩:=Value.slice.inj e2
     obtain ⟨hh,hhe⟩ : ∃ h,h = pressAll startS k Y:=⟨_,rfl⟩
     rw [← hhe] at hM hr
     have hh8 : hh.length = 8:=by rw [hhe]; exact pressAll_len _ _ rfl _
     have hsub:=stC_f8 hh (.slice (some ⟨b2,o2,none⟩) l.length c2) (Y.length : Int) hh8
     have hsz : 0 + 8 ≤ (stC hh (.slice (some ⟨b2,o2,none⟩) l.length c2) (Y.length : Int)).size:=by rw [stC_sz]; decide
     have hc8:=stC_8 (h:=hh) (v:=.slice (some ⟨b2,o2,none⟩) l.length c2) (n:=(Y.length : Int))
     have hglt:=hr.lt
     have hvr:=HVA.out _ _ hA
     have HPR:=Lib.hid (fun (w':World) (hb':Below wr.heap.size wr w')=>press_any hh (.slice (some ⟨b2,o2,none⟩) 64 c2) (l.take 64) w' (Row.below hvr hb' (Row.lt hvr)) hh8 ((hM.own.slb.below hb').take 64 h64) (by rw [List.length_take]; omega))
     have HM:=Lib.hid hM
     have HA:=Lib.hid hA
     have HK:=Lib.hid (⟨hlk,hll,hhe⟩ : _ ∧ _ ∧ _)
     clear hM hA hlk hll hhe hvr e2 hh8
     go_wp2_with fail
     refine wp_region_qtail (Below wr.heap.size wr) 11 (by kernel_rfl) (by kernel_rfl) (Below.refl _ _).drew ?_
     simp only [List.take_succ_cons,List.take_zero,List.drop_succ_cons,List.drop_zero]
     iterate 4 (first | go_big_quiet_skip | (go_big_quiet_want; go_big_quiet_op; first | go_big_quiet_on | (refine ⟨_,fun _ _=>rfl,?_⟩; go_big_quiet_on)) | (go_big_quiet_want; apply qb_load1 _ _ rfl _ _ rfl; rotate_left 2; (focus (intro _; simp [go_sem]; done)); rotate_right 2; assumption; assumption; assumption; (simp only [Act.put,lS]; go_big_quiet_on)) | (go_big_quiet_want; apply qb_loadA _ _ rfl _ _ rfl (sz:=16); rotate_left 2; (focus (intro _; simp [go_sem]; done)); (focus (intro _; simp [go_sem]; done)); rotate_right 2; assumption; assumption; assumption; assumption; (simp only [Act.put,lS]; go_big_quiet_on)))
     (go_big_quiet_want; apply qb_loadA _ _ rfl _ _ rfl (sz:=8); rotate_left 2; (focus (intro _; simp [go_sem]; done)); (focus (intro _; simp [go_sem]; done)); rotate_right 2; assumption; assumption; assumption; assumption; (simp only [Act.put,lS]; go_big_quiet_on))
     iterate 5 (first | go_big_quiet_skip | (go_big_quiet_want; go_big_quiet_op; first | go_big_quiet_on | (refine ⟨_,fun _ _=>rfl,?_⟩; go_big_quiet_on)) | (go_big_quiet_want; apply qb_load1 _ _ rfl _ _ rfl; rotate_left 2; (focus (intro _; simp [go_sem]; done)); rotate_right 2; assumption; assumption; assumption; (simp only [Act.put,lS]; go_big_quiet_on)) | (go_big_quiet_want; apply qb_loadA _ _ rfl _ _ rfl (sz:=16); rotate_left 2; (focus (intro _; simp [go_sem]; done)); (focus (intro _; simp [go_sem]; done)); rotate_right 2; assumption; assumption; assumption; assumption; (simp only [Act.put,lS]; go_big_quiet_on)))
     (go_big_quiet_want; refine qb_call _ _ ?_ _ HPR.out (Nat.le_refl _) ?_; (focus (intro w; simp [go_sem]; done)); (simp only [Act.put,lS]; go_big_quiet_on))
     refine wpQuiet_nil ?_
     intro w' hw'
     have M7:=HM.out.below hw'
     have HA7:=Lib.hid (HA.out.below hw')
     have hr7:=M7.row
     have HM7:=Lib.hid M7
     clear M7 hw' hsub hsz hc8 hglt hr HPR HM HA
     obtain ⟨hP,hPe⟩ : ∃ h,h = pressS hh (l.take 64):=⟨_,rfl⟩
     have M8:=HM7.out.self (h':=hP) (m:=Y.length) (v:=.slice (some ⟨b2,o2,none⟩) l.length c2) (grownBy_setRW w' g _) (hr7.setRow _)
     have HM8:=Lib.hid M8
     have HPe:=Lib.hid hPe
     have HNX:=Lib.hid (show pressAll startS (k + 1) Y = hP ∧ l.drop 64 = Y.drop (64 * (k + 1)) from ⟨by rw [pressAll_snoc,← HK.out.1,← HK.out.2.2]; exact hPe.symm,by rw [HK.out.1,List.drop_drop]; congr 1⟩)
     have hPl : hP.length = 8:=by rw [hPe]; rfl
     have q5 : (AD hP).size = 8:=by rw [AD_size]; exact hPl
     have q6 : allOne (AD hP) = true:=List.all_eq_true.2 fun u hu=>by
      obtain ⟨y,_,rfl⟩:=List.mem_map.1 (by simpa [AD] using hu)
      rfl
     have q7 : ∀ (h:List UInt32) (v:Value) (n:Int),over (stC h v n) 0 (AD hP) = stC hP v n:=fun h v n=>stC_oh hP hPl
     rw [← hPe]
     clear M8 hPe hPl
     by_cases hc64 : c2 = 64
     ·subst hc64
      have hl64 : l.length = 64:=by omega
      have hl0 : l.drop 64 = []:=List.drop_eq_nil_of_le (by omega)
      have ho:=OwnW.zero HM8.out.own
      have HF:=Lib.hid (show MidW ((w'.setRow g (stC hP (.slice (some ⟨b2,o2,none⟩) l.length 64) (Y.length : Int))).setCell ⟨g,8,none⟩ (.slice (some ⟨b2,o2,none⟩) 0 0)) B0 g hP (.slice (some ⟨b2,o2,none⟩) 0 0) Y.length (l.drop 64) ∧ Apart w g v0.ownBlock ((w'.setRow g (stC hP (.slice (some ⟨b2,o2,none⟩) l.length 64) (Y.length : Int))).setCell ⟨g,8,none⟩ (.slice (some ⟨b2,o2,none⟩) 0 0)) (.slice (some ⟨b2,o2,none⟩) 0 0) from ⟨by rw [hl0]; exact HM8.out.cut ho,Apart.same ((HA7.out.self (grownBy_setRW w' g _)).self (grownBy_setW _ g 8 _)) rfl⟩)
      rw [hl64] at HF
      clear hl0 ho
      go_wp2_with fail
      go_roundg (Y.length / 64 - (k + 1))
      case measure=>have:=HK.out.2.1; omega
      case rel=>exact ⟨k + 1,_,l.drop 64,by have:=HK.out.2.1; omega,HNX.out.2,by rw [HNX.out.1]; exact HF.out.1,HF.out.2⟩
     ·have HF:=Lib.hid (show MidW ((w'.setRow g (stC hP (.slice (some ⟨b2,o2,none⟩) l.length c2) (Y.length : Int))).setCell ⟨g,8,none⟩ (.slice (some ⟨b2,o2 + 64,none⟩) (l.length - 64) (c2 - 64))) B0 g hP (.slice (some ⟨b2,o2 + 64,none⟩) (l.length - 64) (c2 - 64)) Y.length (l.drop 64) ∧ Apart w g v0.ownBlock ((w'.setRow g (stC hP (.slice (some ⟨b2,o2,none⟩) l.length c2) (Y.length : Int))).setCell ⟨g,8,none⟩ (.slice (some ⟨b2,o2 + 64,none⟩) (l.length - 64) (c2 - 64))) (.slice (some ⟨b2,o2 + 64,none⟩) (l.length - 64) (c2 - 64)) from ⟨HM8.out.cut (HM8.out.own.drop (n:=64) h64),Apart.same ((HA7.out.self (grownBy_setRW w' g _)).self (grownBy_setW _ g 8 _)) rfl⟩)
      go_wp2_with fail
      go_roundg (Y.length / 64 - (k + 1))
      case measure=>have:=HK.out.2.1; omega
      case rel=>exact ⟨k + 1,_,l.drop 64,by have:=HK.out.2.1; omega,HNX.out.2,by rw [HNX.out.1]; exact HF.out.1,HF.out.2⟩
    ·have x1 : ¬ (64 : Int) ≤ (l.length : Int):=by omega
     have hk64 : k = Y.length / 64:=by omega
     have HF:=Lib.hid (show StW wr B0 g (.slice a2 l.length c2) (L ++ (ps.take (i + 1)).flatten) ∧ Apart w g v0.ownBlock wr (.slice a2 l.length c2) from ⟨by
      rw [HX.out.1,← HY.out.1]
      unfold StW
      have:=hM
      rw [hlk,hk64] at this
      rw [hlk,hk64]
      exact this,hA⟩)
     clear hM hA hlk hll hk64
     go_wp2_with fail
     go_roundg (ps.length - (i + 1))
     case measure=>omega
     case rel=>exact ⟨i + 1,_,by omega,by go_num,HF.out.1,HF.out.2⟩
  ·obtain rfl : i = ps.length:=by omega
   have z1 : ¬ (ps.length : Int) < (ps.length : Int):=by omega
   rw [List.take_length] at hS
   have HF:=Lib.hid (⟨hS,hA⟩ : _ ∧ _)
   clear hS hA
   go_wp2_with fail
   go_end0
   exact ⟨rfl,v,HF.out.1,HF.out.2⟩
end Go.Proofs.YtjpfhhndjpdmoaaGreatDoor
