/- Part of the proof: Put,Sum. No conditions of its own. -/
import Derived.Test.YtjpfhhndjpdmoaaGreatDoorF19
namespace Go.Proofs.YtjpfhhndjpdmoaaGreatDoor
open Go.RowKit
set_option linter.unusedVariables false
set_option linter.unusedSimpArgs false

theorem stC_oP {h x:List UInt32} {b:List UInt8} {v:Value} {n:Int} : over (stC h v n) 0 (AD (pressS x b)) = stC (pressS x b) v n:=stC_oh _ rfl
theorem stC_g8 {h:List UInt32} {v:Value} {n:Int} (q:8 < (stC h v n).size) : (stC h v n)[8] = v:=by
 have:=stC_8 (h:=h) (v:=v) (n:=n)
 rw [Array.getElem?_eq_getElem q] at this
 exact Option.some.inj this
theorem stC_g9 {h:List UInt32} {v:Value} {n:Int} (q:9 < (stC h v n).size) : (stC h v n)[9] = .int .i64 n:=by
 have:=stC_9 (h:=h) (v:=v) (n:=n)
 rw [Array.getElem?_eq_getElem q] at this
 exact Option.some.inj this
theorem stC_start : stC startS (.slice none 0 0) 0 = #[.int .u32 1779033703,.int .u32 3144134277,.int .u32 1013904242,.int .u32 2773480762,.int .u32 1359893119,.int .u32 2600822924,.int .u32 528734635,.int .u32 1541459225,.slice none 0 0,.int .i64 0]:=by kernel_rfl
theorem AD_start : AD startS = #[.int .u32 1779033703,.int .u32 3144134277,.int .u32 1013904242,.int .u32 2773480762,.int .u32 1359893119,.int .u32 2600822924,.int .u32 528734635,.int .u32 1541459225]:=by kernel_rfl
set_option maxRecDepth 100000 in
set_option maxHeartbeats 4000000 in
theorem hnew_any {tg:TypeId} (w:World) (hv:Row w 8 tg (AD startS)) : Calls Tryz.prog 161 #[] w fun e w'=>∃ g,e = .returned (.pointer (some ⟨g,0,none⟩)) ∧ w.heap.size ≤ g ∧ Row w' g 300 (stC startS (.slice none 0 0) 0) ∧ Below w.heap.size w w':=by
 rw [AD_start] at hv
 go_enter Tryz.func161,Tryz.ntmps161
 go_wp2_with fail
 go_ret
 exact ⟨w.heap.size,rfl,Nat.le_refl _,by rw [stC_start]; exact Row.new _ _ _,(Below.refl _ _).alloc (Nat.le_refl _) _⟩
structure MidW (w:World) (B0 g:Nat) (h:List UInt32) (v:Value) (n:Nat) (l:List UInt8) : Prop where
 row : Row w g 300 (stC h v n)
 own : OwnW w B0 v l
 ge : B0 ≤ g
def StW (w:World) (B0 g:Nat) (v:Value) (L:List UInt8) : Prop:=MidW w B0 g (hS L) v L.length (waitS L)
structure Apart (w0:World) (g:Nat) (x:Option Nat) (w:World) (v:Value) : Prop where
 os : w.os = w0.os
 tape : w.tape = w0.tape
 output : w.output = w0.output
 size : w0.heap.size ≤ w.heap.size
 block : ∀ k,k < w0.heap.size → k ≠ g → some k ≠ x → w.heap[k]? = w0.heap[k]?
 fresh : v.ownBlock = x ∨ ∀ k,v.ownBlock = some k → w0.heap.size ≤ k
theorem Apart.refl (w:World) (g:Nat) (v:Value) : Apart w g v.ownBlock w v:=⟨rfl,rfl,rfl,Nat.le_refl _,fun _ _ _ _=>rfl,.inl rfl⟩
theorem Apart.below {w0 w w':World} {g:Nat} {x:Option Nat} {v:Value} (h:Apart w0 g x w v) (hb:Below w.heap.size w w') : Apart w0 g x w' v :=
 ⟨hb.os.trans h.os,hb.tape.trans h.tape,hb.output.trans h.output,Nat.le_trans h.size hb.size,fun k h1 h2 h3=>(hb.block k (Nat.lt_of_lt_of_le h1 h.size)).trans (h.block k h1 h2 h3),h.fresh⟩
theorem Apart.self {w0 w w':World} {g:Nat} {x:Option Nat} {v:Value} (h:Apart w0 g x w v) (hg:w.grownBy w' (some g)) : Apart w0 g x w' v :=
 ⟨hg.os.trans h.os,hg.tape.trans h.tape,hg.output.trans h.output,Nat.le_trans h.size hg.size,fun k h1 h2 h3=>(hg.block k (Nat.lt_of_lt_of_le h1 h.size) (fun e=>h2 (Option.some.inj e))).trans (h.block k h1 h2 h3),h.fresh⟩
theorem Apart.wait {w0 w w':World} {g:Nat} {x:Option Nat} {v v':Value} (h:Apart w0 g x w v) (hg:w.grownBy w' v.ownBlock) (hv:v'.ownBlock = v.ownBlock ∨ v'.ownBlock = some w.heap.size) : Apart w0 g x w' v':=by
 refine ⟨hg.os.trans h.os,hg.tape.trans h.tape,hg.output.trans h.output,Nat.le_trans h.size hg.size,fun k h1 h2 h3=>(hg.block k (Nat.lt_of_lt_of_le h1 h.size) (fun e=>?_)).trans (h.block k h1 h2 h3),?_⟩
 ·rcases h.fresh with hf | hf
  ·exact h3 (e.trans hf)
  ·have:=hf k e.symm; omega
 ·rcases hv with hv | hv
  ·rw [hv]; exact h.fresh
  ·exact .inr fun k hk=>by rw [hv] at hk; have:=Option.some.inj hk; have:=h.size; omega
theorem Apart.same {w0 w:World} {g:Nat} {x:Option Nat} {v v':Value} (h:Apart w0 g x w v) (hv:v'.ownBlock = v.ownBlock) : Apart w0 g x w v' :=
 ⟨h.os,h.tape,h.output,h.size,h.block,by rw [hv]; exact h.fresh⟩
theorem Apart.belowB {w0 w:World} {g B0:Nat} {x:Option Nat} {v:Value} (h:Apart w0 g x w v) (hg:B0 ≤ g) (hx:∀ k,x = some k → B0 ≤ k) (hB:B0 ≤ w0.heap.size) : Below B0 w0 w :=
 ⟨h.os,h.tape,h.output,h.size,fun k hk=>h.block k (by omega) (by omega) (fun e=>by have:=hx k e.symm; omega)⟩
theorem OwnW.ne {w:World} {B0 g:Nat} {v:Value} {l:List UInt8} {t:TypeId} {cs:Array Value} (h:OwnW w B0 v l) (hr:Row w g t cs) (ht:t ≠ 5) : v.ownBlock ≠ some g:=fun e=>by
 rcases h.row with e1 | ⟨b,c,e1,_,hr'⟩
 ·rw [e1] at e; cases e
 ·rw [e1] at e
  obtain rfl:=Option.some.inj e
  have h1:=hr.heap
  rw [hr'.heap] at h1
  simp only [Option.some.injEq,Obj.cells.injEq] at h1
  exact ht h1.2.1.symm
section
variable {w w':World} {B0 g:Nat} {h h':List UInt32} {v v':Value} {n m:Nat} {l l':List UInt8}
theorem MidW.self (k:MidW w B0 g h v n l) (hg:w.grownBy w' (some g)) (hr:Row w' g 300 (stC h' v m)) : MidW w' B0 g h' v m l:=by
 refine ⟨hr,k.own.congr fun b hb=>?_,k.ge⟩
 have hne:=k.own.ne k.row (by decide)
 rcases k.own.row with e | ⟨b',cs,e,_,hr'⟩
 ·rw [e] at hb; cases hb
 ·rw [e] at hb
  obtain rfl:=Option.some.inj hb
  exact hg.block _ hr'.lt (fun e2=>hne (e.trans e2))
theorem MidW.below (k:MidW w B0 g h v n l) (hb:Below w.heap.size w w') : MidW w' B0 g h v n l:=⟨Row.below k.row hb k.row.lt,k.own.below hb,k.ge⟩
theorem MidW.wait (k:MidW w B0 g h v n l) (ho:OwnW w' B0 v' l') (hg:w.grownBy w' v.ownBlock) : MidW (w'.setCell ⟨g,8,none⟩ v') B0 g h v' n l':=by
 have hne:=k.own.ne k.row (by decide)
 have hr : Row w' g 300 (stC h v n):=(row_congr (hg.block _ k.row.lt (fun e=>hne e.symm))).trans k.row
 refine ⟨by have:=hr.set 8 v'; rwa [stC_s8] at this,?_,k.ge⟩
 have hne':=ho.ne hr (by decide)
 exact ho.congr fun b hb=>heap_setCell_other w' _ b v' (fun e=>hne' (by rw [hb]; exact congrArg some e))
end
theorem grownBy_setW (w:World) (g i:Nat) (v:Value) : w.grownBy (w.setCell ⟨g,i,none⟩ v) (some g) :=
 ⟨rfl,rfl,rfl,by simp,fun k hk hne=>heap_setCell_other w _ k v (fun e=>hne (by rw [e]))⟩
theorem MidW.set9 {w:World} {B0 g n:Nat} {h:List UInt32} {v:Value} {l:List UInt8} (k:MidW w B0 g h v n l) (m:Nat) : MidW (w.setCell ⟨g,9,none⟩ (.int .i64 (m:Int))) B0 g h v m l :=
 k.self (grownBy_setW w g 9 _) (by have:=k.row.set 9 (.int .i64 (m:Int)); rwa [stC_s9] at this)
theorem MidW.rowK {w w':World} {B0 g n:Nat} {h:List UInt32} {v:Value} {l:List UInt8} (k:MidW w B0 g h v n l) (hg:w.grownBy w' v.ownBlock) : Row w' g 300 (stC h v n) :=
 (row_congr (hg.block _ k.row.lt (fun e=>k.own.ne k.row (by decide) e.symm))).trans k.row
theorem wpl_appW {w:World} {ops:Array Oper} {rest:List Oper} {o:Oper} {a:Act} {Q:Exit → Act → World → Prop} (hgd:o.guard = none) (s x:Operand)
  (ho:o.op = .call { callee:=.builtin .append,args:=#[s,x],argTypes:=#[22,22] })
  (B0:Nat) (v:Value) (l:List UInt8) (hs:a.eval s = v) (h:OwnW w B0 v l) (vx:Value) (m:List UInt8) (hx:a.eval x = vx) (hS:SlB w vx m) (hlen:l.length + m.length ≤ 1000000000) (hbase:B0 ≤ w.heap.size)
  (hK:∀ v' w',OwnW w' B0 v' (l ++ m) → w.grownBy w' v.ownBlock → (v'.ownBlock = v.ownBlock ∨ v'.ownBlock = some w.heap.size) → wpList Tryz.prog ops Q rest (a.put o.dst v') w') : wpList Tryz.prog ops Q (o :: rest) a w :=
 wpList_plain hgd fun _ hk=>by
  obtain ⟨v',w',hr,h1,h2,h3⟩:=run_appW w B0 v l h vx m hS hlen hbase o.type
  unfold Oper.wp execOp
  simp only [ho,resolve,invoke,builtin,Sem.run_bind,Sem.run_pure,Result.andThen_ok,List.map_toArray,List.map_cons,List.map_nil,hs,hx,hr]
  exact hk _ _ (hK v' w' h1 h2 h3)
theorem grownBy_setRW (w:World) (g:Nat) (cs:Array Value) : w.grownBy (w.setRow g cs) (some g) :=
 ⟨rfl,rfl,rfl,by simp,fun k _ hne=>setRow_other w g k cs (fun e=>hne (by rw [e]))⟩
theorem MidW.cut {w:World} {B0 g n:Nat} {h:List UInt32} {v v':Value} {l l':List UInt8} (k:MidW w B0 g h v n l) (ho:OwnW w B0 v' l') : MidW (w.setCell ⟨g,8,none⟩ v') B0 g h v' n l':=k.wait ho (World.grownBy.refl w _)
def PartsW (w:World) (bad:Nat → Prop) (vp:Value) (ps:List (List UInt8)) : Prop :=
 ∃ a cap,vp = .slice a ps.length cap ∧ ∀ i p,ps[i]? = some p → ∃ b o v,a = some ⟨b,o,none⟩ ∧ w.cell? ⟨b,o + i,none⟩ = some v ∧ ¬ bad b ∧ SlB w v p ∧ ∀ ad,addrV v = some ad → ¬ bad ad.block
theorem SlB.apart {w0 w:World} {g:Nat} {x:Option Nat} {v u:Value} {p:List UInt8} (h:SlB w0 u p) (hA:Apart w0 g x w v) (hb:∀ ad,addrV u = some ad → ¬ (ad.block = g ∨ x = some ad.block)) : SlB w u p:=by
 obtain ⟨a,cap,rfl,h1,h2,h3,h4⟩:=h
 refine ⟨a,cap,rfl,h1,h2,h3,fun ad had=>⟨(h4 ad had).1,fun i hi=>?_⟩⟩
 have hc:=(h4 ad had).2 i hi
 have hn:=hb ad had
 have hlt:=World.block_lt_of_cell? w0 ⟨ad.block,ad.off + i,none⟩ hc
 have:=hA.block ad.block hlt (fun e=>hn (.inl e)) (fun e=>hn (.inr e.symm))
 rw [show w.cell? ⟨ad.block,ad.off + i,none⟩ = w0.cell? ⟨ad.block,ad.off + i,none⟩ by simp [World.cell?,this]]
 exact hc
attribute [local go_sem ↓] stC_8 stC_9
attribute [local go_sem] stC_g8 stC_g9 stC_sz stC_s8 stC_s9 stC_oP
set_option maxRecDepth 100000 in
set_option maxHeartbeats 4000000 in
theorem put_any {tg:TypeId} (w:World) (B0 g:Nat) (v0 vp:Value) (L:List UInt8) (ps:List (List UInt8)) (hv:Row w 10 tg (AD roundsS)) (hv0:10 < B0) (hB0:B0 ≤ w.heap.size) (h:StW w B0 g v0 L) (hp:PartsW w (fun k=>k = g ∨ v0.ownBlock = some k) vp ps) (hl:(L ++ ps.flatten).length ≤ 1000000) (hn:ps.length ≤ 1000) :
  Calls Tryz.prog 162 #[.pointer (some ⟨g,0,none⟩),vp] w fun e w'=>e = .returned (.tuple #[]) ∧ ∃ v,StW w' B0 g v (L ++ ps.flatten) ∧ Apart w g v0.ownBlock w' v:=by
 obtain ⟨a,cap,rfl,hcell⟩:=hp
 have hgB : B0 ≤ g:=h.ge
 have hx : ∀ k,v0.ownBlock = some k → B0 ≤ k:=fun k hk=>by
  rcases h.own.row with e | ⟨b,cs,e,hb,_⟩
  ·rw [e] at hk; cases hk
  ·rw [e] at hk; obtain rfl:=Option.some.inj hk; exact hb
 have HVA:=Lib.hid (fun (W:World) (v':Value) (hA:Apart w g v0.ownBlock W v')=>(row_congr (hA.block _ hv.lt (by omega) (fun e=>by have:=hx _ e.symm; omega))).trans hv)
 have HC:=Lib.hid hcell
 have HS:=Lib.hid h
 have HV:=Lib.hid hv
 have HL:=Lib.hid hl
 clear hcell h hv hl hx
 go_enter Tryz.func162,Tryz.ntmps162
 go_wp2_with fail
 go_loopg [10] ps.length (fun gk t10 wr=>∃ (i:Nat) (v:Value),gk + i = ps.length ∧ t10 = .int .i64 (i:Int) ∧ StW wr B0 g v (L ++ (ps.take i).flatten) ∧ Apart w g v0.ownBlock wr v)
 case atStart=>exact ⟨0,v0,by omega,rfl,by simpa using HS.out,Apart.refl _ _ _⟩
 case round =>
  obtain ⟨i,v,hi,rfl,hS,hA⟩:=hrel
  by_cases hlt : i < ps.length
  ·obtain ⟨p,hpi⟩ : ∃ p,ps[i]? = some p:=⟨_,List.getElem?_eq_getElem hlt⟩
   obtain ⟨b,o,u,rfl,hc,hb,hu,hub⟩:=HC.out i p hpi
   have hcb:=hA.block b (World.block_lt_of_cell? w _ hc) (fun e=>hb (.inl e)) (fun e=>hb (.inr e.symm))
   have hc' : wr.cell? ⟨b,o + i,none⟩ = some u:=by rw [← hc]; simp [World.cell?,hcb]
   have hu':=hu.apart hA hub
   obtain ⟨X,hX⟩ : ∃ X,X = L ++ (ps.take i).flatten:=⟨_,rfl⟩
   have htk : L ++ (ps.take (i + 1)).flatten = X ++ p:=by
    rw [List.take_add_one,hpi,hX]; simp
   have hYl : (X ++ p).length ≤ 1000000:=by
    have h1:=HL.out
    have h2 : (L ++ ps.flatten) = (L ++ (ps.take (i + 1)).flatten) ++ (ps.drop (i + 1)).flatten:=by
     rw [List.append_assoc,← List.flatten_append,List.take_append_drop]
    rw [h2,htk,List.length_append] at h1
    omega
   rw [← hX] at hS
   have z0 : (0 : Int) ≤ (i:Int):=by omega
   have z1 : (i:Int) < (ps.length : Int):=by omega
   have z2 : ((i:Int)).toNat = i:=by omega
   have hr:=hS.row
   have HX:=Lib.hid (⟨htk,hYl,hX⟩ : _ ∧ _ ∧ _)
   obtain ⟨ua,uc,rfl,_⟩:=id hu'
   have q1 : (X.length : Int) + (p.length : Int) ≤ 1000000:=by rw [List.length_append] at hYl; omega
   have q2 : (p.length : Int) ≤ 1000000:=by omega
   have HS1:=Lib.hid hS
   have HA1:=Lib.hid hA
   have HU0:=Lib.hid (fun (W:World) (v':Value) (hA:Apart w g v0.ownBlock W v')=>hu.apart hA hub)
   obtain ⟨l1,hl1⟩ : ∃ l,l = waitS X ++ p:=⟨_,rfl⟩
   have HL1:=Lib.hid hl1
   clear hS hA hu' hu hub hc hcb hX htk hYl hb hpi hl1
   have hN : (X.length : Int) + (p.length : Int) = ((X.length + p.length : Nat) : Int):=by omega
   have M4:=HS1.out.set9 (X.length + p.length)
   rw [← hN] at M4
   have HM4:=Lib.hid M4
   have HA4:=Lib.hid (HA1.out.self (grownBy_setW wr g 9 (.int .i64 ((X.length : Int) + (p.length : Int)))))
   have HU4:=Lib.hid (HU0.out _ _ HA4.out)
   have hwl : (waitS X).length + p.length ≤ 1000000000:=by rw [waitS_len]; omega
   have hB4 : B0 ≤ (wr.setCell ⟨g,9,none⟩ (.int .i64 ((X.length : Int) + (p.length : Int)))).heap.size:=by have:=HA1.out.size; simp; omega
   have HWL:=Lib.hid (⟨hwl,hB4⟩ : _ ∧ _)
   clear M4 hN hwl hB4
   go_wp2_with (at_builtin; refine wpl_appW rfl (.tmp 27) (.tmp 28) rfl B0 v (waitS X) rfl HM4.out.own _ p rfl HU4.out HWL.out.1 HWL.out.2 ?_; intro v1 w1 ho1 hg1 hf1; have ho1 : OwnW w1 B0 v1 l1:=HL1.out ▸ ho1; obtain ⟨a1,c1,rfl,_⟩:=ho1.slb; have hr1:=HM4.out.rowK hg1; have HM5:=Lib.hid (HM4.out.wait ho1 hg1); have HA5:=Lib.hid ((HA4.out.wait hg1 hf1).self (grownBy_setW w1 g 8 (.slice a1 l1.length c1))); clear ho1 hg1 hf1)
   refine gen_wpR (fun w5=>MidW w5 B0 g (hS X) (.slice a1 l1.length c1) (X.length + p.length) l1 ∧ Apart w g v0.ownBlock w5 (.slice a1 l1.length c1)) ⟨HM5.out,HA5.out⟩ ?_
   clear HM5 HA5 hr1 HM4 HA4 HU4 HU0 HWL HS1 HA1 hr
   rintro w5 ⟨hM,hA⟩
   obtain ⟨Y,hY⟩ : ∃ Y,Y = X ++ p:=⟨_,rfl⟩
   have hYn : X.length + p.length = Y.length:=by rw [hY,List.length_append]
   have h0 : hS X = pressAll startS (X.length / 64) Y:=by
    rw [hY,pressAll_pre _ _ _ _ (by omega)]; rfl
   have hl0 : l1 = Y.drop (64 * (X.length / 64)):=by
    rw [HL1.out,hY,List.drop_append_of_le_length (by omega)]; rfl
   rw [hYn,h0] at hM
   have HY:=Lib.hid (⟨hY,hYn,hl0⟩ : _ ∧ _ ∧ _)
   have HM:=Lib.hid hM
   have HA:=Lib.hid hA
   have hX64 : X.length / 64 ≤ Y.length / 64:=by omega
   clear hM hA hY hYn h0 hl0
   go_loopg [] (Y.length / 64 - X.length / 64) (fun gk wx=>∃ (k:Nat) (v:Value) (l:List UInt8),gk + k = Y.length / 64 ∧ l = Y.drop (64 * k) ∧ MidW wx B0 g (pressAll startS k Y) v Y.length l ∧ Apart w g v0.ownBlock wx v)
   case atStart=>exact ⟨X.length / 64,_,l1,by omega,HY.out.2.2,HM.out,HA.out⟩
   case round =>
    clear HM HA
    obtain ⟨k,v2,l,hk,hlk,hM,hA⟩:=hrel
    obtain ⟨a2,c2,rfl,hlc,hcm,_⟩:=hM.own.slb
    have hll : l.length = Y.length - 64 * k:=by rw [hlk,List.length_drop]
    have hr:=hM.row
    by_cases h64 : 64 ≤ l.length
    ·have x1 : (64 : Int) ≤ (l.length : Int):=by omega
     have x2 : (64 : Int) ≤ (c2:Int):=by omega
     obtain ⟨b2,o2,c2',e2,-,-,-,-⟩:=hM.own.slb.addr (by omega)
     obtain ⟨rfl,-,rfl⟩:=Value.slice.inj e2
     obtain ⟨hh,hhe⟩ : ∃ h,h = pressAll startS k Y:=⟨_,rfl⟩
     rw [← hhe] at hM hr
     have hh8 : hh.length = 8:=by rw [hhe]; exact pressAll_len _ _ rfl _
     have hsub:=stC_f8 hh (.slice (some ⟨b2,o2,none⟩) l.length c2) (Y.length : Int) hh8
     have hsz : 0 + 8 ≤ (stC hh (.slice (some ⟨b2,o2,none⟩) l.length c2) (Y.length : Int)).size:=by rw [stC_sz]; decide
     have hc8:=stC_8 (h:=hh) (v:=.slice (some ⟨b2,o2,none⟩) l.length c2) (n:=(Y.length : Int))
     have hglt:=hr.lt
     have hvr:=HVA.out _ _ hA
     have HPR:=Lib.hid (fun (w':World) (hb':Below wr.heap.size wr w')=>press_any hh (.slice (some ⟨b2,o2,none⟩) 64 c2) (l.take 64) w' (Row.below hvr hb' (Row.lt hvr)) hh8 ((hM.own.slb.below hb').take 64 h64) (by rw [List.length_take]; omega))
     have HM:=Lib.hid hM
     have HA:=Lib.hid hA
     have HK:=Lib.hid (⟨hlk,hll,hhe⟩ : _ ∧ _ ∧ _)
     clear hM hA hlk hll hhe hvr e2 hh8
     go_wp2_with fail
     refine wp_region_qtail (Below wr.heap.size wr) 11 (by kernel_rfl) (by kernel_rfl) (Below.refl _ _).drew ?_
     simp only [List.take_succ_cons,List.take_zero,List.drop_succ_cons,List.drop_zero]
     iterate 4 (first | go_big_quiet_skip | (go_big_quiet_want; go_big_quiet_op; first | go_big_quiet_on | (refine ⟨_,fun _ _=>rfl,?_⟩; go_big_quiet_on)) | (go_big_quiet_want; apply qb_load1 _ _ rfl _ _ rfl; rotate_left 2; (focus (intro _; simp [go_sem]; done)); rotate_right 2; assumption; assumption; assumption; (simp only [Act.put,lS]; go_big_quiet_on)) | (go_big_quiet_want; apply qb_loadA _ _ rfl _ _ rfl (sz:=16); rotate_left 2; (focus (intro _; simp [go_sem]; done)); (focus (intro _; simp [go_sem]; done)); rotate_right 2; assumption; assumption; assumption; assumption; (simp only [Act.put,lS]; go_big_quiet_on)))
     (go_big_quiet_want; apply qb_loadA _ _ rfl _ _ rfl (sz:=8); rotate_left 2; (focus (intro _; simp [go_sem]; done)); (focus (intro _; simp [go_sem]; done)); rotate_right 2; assumption; assumption; assumption; assumption; (simp only [Act.put,lS]; go_big_quiet_on))
     iterate 5 (first | go_big_quiet_skip | (go_big_quiet_want; go_big_quiet_op; first | go_big_quiet_on | (refine ⟨_,fun _ _=>rfl,?_⟩; go_big_quiet_on)) | (go_big_quiet_want; apply qb_load1 _ _ rfl _ _ rfl; rotate_left 2; (focus (intro _; simp [go_sem]; done)); rotate_right 2; assumption; assumption; assumption; (simp only [Act.put,lS]; go_big_quiet_on)) | (go_big_quiet_want; apply qb_loadA _ _ rfl _ _ rfl (sz:=16); rotate_left 2; (focus (intro _; simp [go_sem]; done)); (focus (intro _; simp [go_sem]; done)); rotate_right 2; assumption; assumption; assumption; assumption; (simp only [Act.put,lS]; go_big_quiet_on)))
     (go_big_quiet_want; refine qb_call _ _ ?_ _ HPR.out (Nat.le_refl _) ?_; (focus (intro w; simp [go_sem]; done)); (simp only [Act.put,lS]; go_big_quiet_on))
     refine wpQuiet_nil ?_
     intro w' hw'
     have M7:=HM.out.below hw'
     have HA7:=Lib.hid (HA.out.below hw')
     have hr7:=M7.row
     have HM7:=Lib.hid M7
     clear M7 hw' hsub hsz hc8 hglt hr HPR HM HA
     obtain ⟨hP,hPe⟩ : ∃ h,h = pressS hh (l.take 64):=⟨_,rfl⟩
     have M8:=HM7.out.self (h':=hP) (m:=Y.length) (v:=.slice (some ⟨b2,o2,none⟩) l.length c2) (grownBy_setRW w' g _) (hr7.setRow _)
     have HM8:=Lib.hid M8
     have HPe:=Lib.hid hPe
     have HNX:=Lib.hid (show pressAll startS (k + 1) Y = hP ∧ l.drop 64 = Y.drop (64 * (k + 1)) from ⟨by rw [pressAll_snoc,← HK.out.1,← HK.out.2.2]; exact hPe.symm,by rw [HK.out.1,List.drop_drop]; congr 1⟩)
     have hPl : hP.length = 8:=by rw [hPe]; rfl
     have q5 : (AD hP).size = 8:=by rw [AD_size]; exact hPl
     have q6 : allOne (AD hP) = true:=List.all_eq_true.2 fun u hu=>by
      obtain ⟨y,_,rfl⟩:=List.mem_map.1 (by simpa [AD] using hu)
      rfl
     have q7 : ∀ (h:List UInt32) (v:Value) (n:Int),over (stC h v n) 0 (AD hP) = stC hP v n:=fun h v n=>stC_oh hP hPl
     rw [← hPe]
     clear M8 hPe hPl
     by_cases hc64 : c2 = 64
     ·subst hc64
      have hl64 : l.length = 64:=by omega
      have hl0 : l.drop 64 = []:=List.drop_eq_nil_of_le (by omega)
      have ho:=OwnW.zero HM8.out.own
      have HF:=Lib.hid (show MidW ((w'.setRow g (stC hP (.slice (some ⟨b2,o2,none⟩) l.length 64) (Y.length : Int))).setCell ⟨g,8,none⟩ (.slice (some ⟨b2,o2,none⟩) 0 0)) B0 g hP (.slice (some ⟨b2,o2,none⟩) 0 0) Y.length (l.drop 64) ∧ Apart w g v0.ownBlock ((w'.setRow g (stC hP (.slice (some ⟨b2,o2,none⟩) l.length 64) (Y.length : Int))).setCell ⟨g,8,none⟩ (.slice (some ⟨b2,o2,none⟩) 0 0)) (.slice (some ⟨b2,o2,none⟩) 0 0) from ⟨by rw [hl0]; exact HM8.out.cut ho,Apart.same ((HA7.out.self (grownBy_setRW w' g _)).self (grownBy_setW _ g 8 _)) rfl⟩)
      rw [hl64] at HF
      clear hl0 ho
      go_wp2_with fail
      go_roundg (Y.length / 64 - (k + 1))
      case measure=>have:=HK.out.2.1; omega
      case rel=>exact ⟨k + 1,_,l.drop 64,by have:=HK.out.2.1; omega,HNX.out.2,by rw [HNX.out.1]; exact HF.out.1,HF.out.2⟩
     ·have HF:=Lib.hid (show MidW ((w'.setRow g (stC hP (.slice (some ⟨b2,o2,none⟩) l.length c2) (Y.length : Int))).setCell ⟨g,8,none⟩ (.slice (some ⟨b2,o2 + 64,none⟩) (l.length - 64) (c2 - 64))) B0 g hP (.slice (some ⟨b2,o2 + 64,none⟩) (l.length - 64) (c2 - 64)) Y.length (l.drop 64) ∧ Apart w g v0.ownBlock ((w'.setRow g (stC hP (.slice (some ⟨b2,o2,none⟩) l.length c2) (Y.length : Int))).setCell ⟨g,8,none⟩ (.slice (some ⟨b2,o2 + 64,none⟩) (l.length - 64) (c2 - 64))) (.slice (some ⟨b2,o2 + 64,none⟩) (l.length - 64) (c2 - 64)) from ⟨HM8.out.cut (HM8.out.own.drop (n:=64) h64),Apart.same ((HA7.out.self (grownBy_setRW w' g _)).self (grownBy_setW _ g 8 _)) rfl⟩)
      go_wp2_with fail
      go_roundg (Y.length / 64 - (k + 1))
      case measure=>have:=HK.out.2.1; omega
      case rel=>exact ⟨k + 1,_,l.drop 64,by have:=HK.out.2.1; omega,HNX.out.2,by rw [HNX.out.1]; exact HF.out.1,HF.out.2⟩
    ·have x1 : ¬ (64 : Int) ≤ (l.length : Int):=by omega
     have hk64 : k = Y.length / 64:=by omega
     have HF:=Lib.hid (show StW wr B0 g (.slice a2 l.length c2) (L ++ (ps.take (i + 1)).flatten) ∧ Apart w g v0.ownBlock wr (.slice a2 l.length c2) from ⟨by
      rw [HX.out.1,← HY.out.1]
      unfold StW
      have:=hM
      rw [hlk,hk64] at this
      rw [hlk,hk64]
      exact this,hA⟩)
     clear hM hA hlk hll hk64
     go_wp2_with fail
     go_roundg (ps.length - (i + 1))
     case measure=>omega
     case rel=>exact ⟨i + 1,_,by omega,by go_num,HF.out.1,HF.out.2⟩
  ·obtain rfl : i = ps.length:=by omega
   have z1 : ¬ (ps.length : Int) < (ps.length : Int):=by omega
   rw [List.take_length] at hS
   have HF:=Lib.hid (⟨hS,hA⟩ : _ ∧ _)
   clear hS hA
   go_wp2_with fail
   go_end0
   exact ⟨rfl,v,HF.out.1,HF.out.2⟩
end Go.Proofs.YtjpfhhndjpdmoaaGreatDoor

namespace Go.Proofs.YtjpfhhndjpdmoaaGreatDoor
open Go.RowKit
set_option linter.unusedVariables false
set_option linter.unusedSimpArgs false

def l8P (n r:Nat) : List UInt8:=(List.range r).map fun j=>UInt8.ofNat (n * 8 / 2 ^ (56 - 8 * j))
theorem l8P_len (n r:Nat) : (l8P n r).length = r:=by simp [l8P]
theorem l8P_step (n r:Nat) : l8P n r ++ [UInt8.ofNat (n * 8 / 2 ^ (56 - 8 * r))] = l8P n (r + 1):=by simp [l8P,List.range_succ]
def endS (L:List UInt8) : List UInt8:=(waitS L ++ [0x80] ++ List.replicate ((119 - L.length % 64) % 64) 0) ++ l8P L.length 8
theorem padS_end (L:List UInt8) : padS L.length L = L.take (64 * (L.length / 64)) ++ endS L:=by
 unfold padS endS waitS l8P
 simp only [List.append_assoc,List.cons_append,List.nil_append]
 rw [← List.append_assoc (List.take _ L),List.take_append_drop]
theorem endS_len (L:List UInt8) : (endS L).length = L.length % 64 + 1 + (119 - L.length % 64) % 64 + 8:=by
 unfold endS
 simp only [List.length_append,waitS_len,List.length_cons,List.length_nil,List.length_replicate,l8P_len]
theorem endS_64 (L:List UInt8) : (endS L).length % 64 = 0:=by rw [endS_len]; omega
theorem pressAll_end (L:List UInt8) : pressAll startS ((padS L.length L).length / 64) (padS L.length L) = pressAll (hS L) ((endS L).length / 64) (endS L):=by
 have h1 : (padS L.length L).length = 64 * (L.length / 64) + (endS L).length:=by
  rw [padS_end,List.length_append,List.length_take]; omega
 have h2 : (padS L.length L).length / 64 = L.length / 64 + (endS L).length / 64:=by rw [h1]; omega
 rw [h2,pressAll_add]
 congr 1
 ·unfold hS
  have e : padS L.length L = L ++ (0x80 :: (List.replicate ((119 - L.length % 64) % 64) 0 ++ l8P L.length 8)):=rfl
  rw [e,pressAll_pre _ _ _ _ (by omega)]
 ·rw [padS_end,List.drop_append_of_le_length (by rw [List.length_take]; omega),List.drop_eq_nil_of_le (by rw [List.length_take]; omega)]
  rfl
theorem SlB.dropW {w:World} {b o c n:Nat} {l:List UInt8} (h:SlB w (.slice (some ⟨b,o,none⟩) l.length c) l) (hn:n ≤ l.length) : SlB w (.slice (some ⟨b,o + n,none⟩) (l.length - n) (c - n)) (l.drop n):=by
 obtain ⟨a',cap,e,h1,h2,h3,h4⟩:=h
 obtain ⟨rfl,_,rfl⟩:=Value.slice.inj e
 refine ⟨_,_,by rw [List.length_drop],by rw [List.length_drop]; omega,by omega,(fun e=>by cases e),fun ad had=>?_⟩
 obtain rfl:=Option.some.inj had
 refine ⟨rfl,fun i hi=>?_⟩
 rw [List.length_drop] at hi
 have:=(h4 _ rfl).2 (n + i) (by omega)
 show w.cell? ⟨b,o + n + i,none⟩ = _
 rw [Nat.add_assoc,this]
 simp [gb]
theorem SlB.zeroW (w:World) (b o:Nat) : SlB w (.slice (some ⟨b,o,none⟩) 0 0) [] :=
 ⟨_,0,rfl,Nat.le_refl _,Nat.zero_le _,(fun h=>by cases h),fun ad had=>by
  obtain rfl:=Option.some.inj had
  exact ⟨rfl,fun i hi=>absurd hi (Nat.not_lt_zero i)⟩⟩
structure SvSt (w:World) (g6:Nat) (v:Value) (l:List UInt8) (H:List UInt32) (wr:World) : Prop where
 r6 : Row wr g6 298 (AD H)
 slb : SlB wr v l
 row : RowN wr w.heap.size 24 32
 bel : Below w.heap.size w wr
 lt : w.heap.size < g6
theorem SvSt.step {w wr w':World} {g6 b o c:Nat} {l:List UInt8} {H:List UInt32} (k:SvSt w g6 (.slice (some ⟨b,o,none⟩) l.length c) l H wr) (hb:Below wr.heap.size wr w') (P:List UInt32) : SvSt w g6 (.slice (some ⟨b,o,none⟩) l.length c) l P (w'.setRow g6 (AD P)):=by
 have hr:=Row.below k.r6 hb k.r6.lt
 have hs:=k.slb.below hb
 have hlt:=k.lt
 refine ⟨hr.setRow _,?_,?_,bSetRow (k.bel.trans (hb.mono k.bel.size)) (Nat.le_of_lt hlt) _,hlt⟩
 ·obtain ⟨a',cap,e,h1,h2,h3,h4⟩:=hs
  refine ⟨a',cap,e,h1,h2,h3,fun ad had=>⟨(h4 ad had).1,fun i hi=>?_⟩⟩
  have hc:=(h4 ad had).2 i hi
  have hne : ad.block ≠ g6:=fun e=>by
   rw [show (⟨ad.block,ad.off + i,none⟩ : Addr) = ⟨g6,ad.off + i,none⟩ by rw [e],hr.cell] at hc
   by_cases hi8 : ad.off + i < H.length
   ·rw [AD_get _ _ hi8] at hc
    simp at hc
   ·rw [Array.getElem?_eq_none (by rw [AD_size]; omega)] at hc
    cases hc
  rw [show (w'.setRow g6 (AD P)).cell? ⟨ad.block,ad.off + i,none⟩ = w'.cell? ⟨ad.block,ad.off + i,none⟩ by simp [World.cell?,setRow_other w' g6 ad.block (AD P) hne]]
  exact hc
 ·obtain ⟨cs,h1,h2⟩:=k.row.below hb k.row.lt
  exact ⟨cs,h1.setRowOther g6 _ (by omega),h2⟩
structure SuSt (w wr:World) (v:Value) (l:List UInt8) : Prop where
 buf : Buf 5 wr w.heap.size v l
 row : RowN wr w.heap.size 24 32
 bel : Below w.heap.size w wr
theorem SuSt.app {w wr w':World} {v v':Value} {l l':List UInt8} {o:Obj} (k:SuSt w wr v l) (hb:Buf 5 w' w.heap.size v' l') (hg:(wr.alloc o).grownBy w' v.ownBlock) : SuSt w w' v' l':=by
 refine ⟨hb,?_,(k.bel.alloc k.bel.size o).grown hg (by have:=k.bel.size; simp; omega) (fun j e=>(k.buf.lt j e).1)⟩
 obtain ⟨cs,h1,h2⟩:=k.row
 refine ⟨cs,?_,h2⟩
 have h3:=h1.alloc o
 exact (row_congr (hg.block _ h3.lt (fun e=>ownsRow_ne k.buf h1 (by decide) e.symm))).trans h3
theorem SuSt.below {w wr w':World} {v:Value} {l:List UInt8} (k:SuSt w wr v l) (hb:Below wr.heap.size wr w') : SuSt w w' v l :=
 ⟨World.ownsRow.kept k.buf (⟨hb.os,hb.tape,hb.output,hb.size,fun j hj _=>hb.block j hj⟩ : wr.grownBy w' none) (by cases v.ownBlock <;> simp),k.row.below hb k.row.lt,k.bel.trans (hb.mono k.bel.size)⟩
def b7 (H:List UInt32) : List UInt8:=bytesS H ++ List.replicate (32 - 4 * H.length) 0
theorem bytesS_len (H:List UInt32) : (bytesS H).length = 4 * H.length:=by
 induction H with
 | nil=>rfl
 | cons x H ih=>rw [show bytesS (x :: H) = [UInt8.ofNat (x.toNat / 16777216),UInt8.ofNat (x.toNat / 65536),UInt8.ofNat (x.toNat / 256),UInt8.ofNat x.toNat] ++ bytesS H from rfl,List.length_append,ih]; simp; omega
theorem shaS_len (l:List UInt8) : (shaS l).length = 32:=by
 unfold shaS; rw [bytesS_len,pressAll_len _ _ rfl]
theorem bytesS_snoc (H:List UInt32) (x:UInt32) : bytesS (H ++ [x]) = bytesS H ++ [UInt8.ofNat (x.toNat / 16777216),UInt8.ofNat (x.toNat / 65536),UInt8.ofNat (x.toNat / 256),UInt8.ofNat x.toNat]:=by
 unfold bytesS; rw [List.flatMap_append]; rfl
theorem b7_len (H:List UInt32) (h:H.length ≤ 8) : (b7 H).length = 32:=by
 unfold b7; rw [List.length_append,bytesS_len,List.length_replicate]; omega
theorem b7_all (H:List UInt32) (h:H.length = 8) : b7 H = bytesS H:=by
 unfold b7; rw [h]; simp
theorem set4 (P Z:List UInt8) (a b c d:UInt8) (n:Nat) (h:P.length = n) : ((((P ++ 0 :: 0 :: 0 :: 0 :: Z).set n a).set (n + 1) b).set (n + 2) c).set (n + 3) d = P ++ a :: b :: c :: d :: Z:=by
 subst h
 simp
theorem b7_step (H:List UInt32) (r:Nat) (h8:H.length = 8) (h:r < 8) : ((((b7 (H.take r)).set (4 * r) (UInt8.ofNat ((gw H r).toNat / 16777216))).set (4 * r + 1) (UInt8.ofNat ((gw H r).toNat / 65536))).set (4 * r + 2) (UInt8.ofNat ((gw H r).toNat / 256))).set (4 * r + 3) (UInt8.ofNat (gw H r).toNat) = b7 (H.take (r + 1)):=by
 have e : H.take (r + 1) = H.take r ++ [gw H r]:=by
  rw [List.take_add_one,gw,List.getD_eq_getElem?_getD,List.getElem?_eq_getElem (by omega)]; rfl
 have l1 : (H.take r).length = r:=by rw [List.length_take]; omega
 rw [e]
 unfold b7
 rw [bytesS_snoc,List.length_append,l1]
 have e2 : List.replicate (32 - 4 * r) (0 : UInt8) = 0 :: 0 :: 0 :: 0 :: List.replicate (32 - 4 * (r + 1)) 0:=by
  rw [show 32 - 4 * r = (32 - 4 * (r + 1)) + 1 + 1 + 1 + 1 by omega]; rfl
 rw [e2,set4 _ _ _ _ _ _ _ (by rw [bytesS_len,l1])]
 simp
theorem zw32 : AB (b7 []) = #[.int .u8 0,.int .u8 0,.int .u8 0,.int .u8 0,.int .u8 0,.int .u8 0,.int .u8 0,.int .u8 0,.int .u8 0,.int .u8 0,.int .u8 0,.int .u8 0,.int .u8 0,.int .u8 0,.int .u8 0,.int .u8 0,.int .u8 0,.int .u8 0,.int .u8 0,.int .u8 0,.int .u8 0,.int .u8 0,.int .u8 0,.int .u8 0,.int .u8 0,.int .u8 0,.int .u8 0,.int .u8 0,.int .u8 0,.int .u8 0,.int .u8 0,.int .u8 0]:=by kernel_rfl
structure S7St (w:World) (g6 g7:Nat) (H Q:List UInt32) (wr:World) : Prop where
 r7 : Row wr g7 24 (AB (b7 Q))
 r6 : Row wr g6 298 (AD H)
 row : RowN wr w.heap.size 24 32
 bel : Below w.heap.size w wr
 lt : w.heap.size < g7
theorem S7St.step4 {w wr:World} {g6 g7 e0 e1 e2 e3:Nat} {H Q Q':List UInt32} {Y:List UInt8} {y0 y1 y2 y3:UInt8} (k:S7St w g6 g7 H Q wr) (hr:Row wr g7 24 (AB Y)) (he:(((Y.set e0 y0).set e1 y1).set e2 y2).set e3 y3 = b7 Q') :
  S7St w g6 g7 H Q' ((((wr.setCell ⟨g7,e0,none⟩ (B y0)).setCell ⟨g7,e1,none⟩ (B y1)).setCell ⟨g7,e2,none⟩ (B y2)).setCell ⟨g7,e3,none⟩ (B y3)):=by
 have hne : g6 ≠ g7:=fun e=>by
  have h1:=k.r6.heap
  rw [e,hr.heap] at h1
  simp only [Option.some.injEq,Obj.cells.injEq] at h1
  exact absurd h1.2.1 (by decide)
 have hlt:=k.lt
 refine ⟨by rw [← he]; exact (((hr.setByte e0 y0).setByte e1 y1).setByte e2 y2).setByte e3 y3,?_,?_,?_,hlt⟩
 ·exact (((k.r6.setOther _ _ hne).setOther _ _ hne).setOther _ _ hne).setOther _ _ hne
 ·have h0 : w.heap.size ≠ g7:=Nat.ne_of_lt hlt
  exact (((k.row.setOther _ _ h0).setOther _ _ h0).setOther _ _ h0).setOther _ _ h0
 ·have h0 : w.heap.size ≤ g7:=Nat.le_of_lt hlt
  exact (((k.bel.setCell h0 _).setCell h0 _).setCell h0 _).setCell h0 _
attribute [local go_sem ↓] stC_8 stC_9
attribute [local go_sem] stC_g8 stC_g9 stC_sz
theorem u8wrapS (n:Nat) : IntKind.u8.wrap (n:Int) = ((UInt8.ofNat n).toNat : Int):=by
 simp [IntKind.wrap,IntKind.bits,IntKind.signed]
set_option maxRecDepth 100000 in
set_option maxHeartbeats 4000000 in
theorem sum_any {tg:TypeId} (w:World) (B0 g:Nat) (v0:Value) (L:List UInt8) (hv:Row w 10 tg (AD roundsS)) (h:StW w B0 g v0 L) (hl:L.length ≤ 1000000) :
  Calls Tryz.prog 163 #[.pointer (some ⟨g,0,none⟩)] w fun e w'=>e = .returned (.agg (AB (shaS L))) ∧ Below w.heap.size w w':=by
 have HS:=Lib.hid h
 have HV:=Lib.hid hv
 obtain ⟨a0,c0,rfl,_⟩:=h.own.slb
 have hg:=Row.lt h.row
 have n2 : (L.length : Int) ≤ 1000000:=by omega
 clear h hv
 go_enter Tryz.func163,Tryz.ntmps163
 go_upto_region 3 with (fail)
 obtain ⟨w0,hw0⟩ : ∃ W,W = w.alloc (.cells #[.int .u8 0,.int .u8 0,.int .u8 0,.int .u8 0,.int .u8 0,.int .u8 0,.int .u8 0,.int .u8 0,.int .u8 0,.int .u8 0,.int .u8 0,.int .u8 0,.int .u8 0,.int .u8 0,.int .u8 0,.int .u8 0,.int .u8 0,.int .u8 0,.int .u8 0,.int .u8 0,.int .u8 0,.int .u8 0,.int .u8 0,.int .u8 0,.int .u8 0,.int .u8 0,.int .u8 0,.int .u8 0,.int .u8 0,.int .u8 0,.int .u8 0,.int .u8 0] 24):=⟨_,rfl⟩
 rw [← hw0]
 have hB0 : Below w.heap.size w w0:=by rw [hw0]; exact (Below.refl _ w).alloc (Nat.le_refl _) _
 have hr0 : RowN w0 w.heap.size 24 32:=by rw [hw0]; exact RowN.newAt w _ _ _ rfl
 have hs0 : w0.heap.size = w.heap.size + 1:=by rw [hw0]; simp
 clear hw0
 have M0:=HS.out.below hB0
 have hr:=M0.row
 have HB0:=Lib.hid hB0
 have HR0:=Lib.hid hr0
 have HW0:=Lib.hid (M0.own.slb.below ((Below.refl _ w0).alloc (Nat.le_refl _) (.cells #[] 5)))
 have hwl : (waitS L).length ≤ 63:=by rw [waitS_len]; omega
 have hsz : w.heap.size ≤ w0.heap.size:=hB0.size
 clear M0 hB0 hr0
 go_wp2_with (at_builtin; refine wpl_appendS rfl (.tmp 13) (.tmp 17) 22 rfl Tryz.underlying22 info_u8S w.heap.size _ [] rfl (Buf.empty _ _ _ hs0.symm (by omega)) _ (waitS L) rfl HW0.out (by simp; omega) (by simp; omega) ?_)
 intro v1 w1 hb1 hg1
 obtain ⟨a1,c1,rfl,_⟩:=hb1.slb
 have hB1 : Below w.heap.size w w1:=(HB0.out.alloc hsz _).grown hg1 (by simp; omega) (fun k e=>by simp [Value.ownBlock] at e; omega)
 have HS1:=Lib.hid (show SuSt w w1 (.slice a1 (waitS L).length c1) (waitS L) from ⟨hb1,by
  obtain ⟨cs,h1,h2⟩:=HR0.out
  refine ⟨cs,?_,h2⟩
  have h3:=h1.alloc (.cells #[] 5)
  exact (row_congr (hg1.block _ h3.lt (fun e=>by simp [Value.ownBlock] at e))).trans h3,hB1⟩)
 have hsz1:=hB1.size
 clear hb1 hg1 hB1 HR0 HB0 HW0 hs0 hsz hr
 go_wp2_with (at_builtin; refine wpl_append1 rfl (.tmp 18) (.tmp 19) 22 rfl Tryz.underlying22 info_u8S w.heap.size _ (waitS L) rfl (HS1.out.buf.alloc _) w1.heap.size 128 rfl ?c1 ?c2 ?c3 ?c4)
 case c1=>simp
 case c2=>omega
 case c3=>simp; omega
 case c4 =>
 intro v2 w2 hb2 hg2
 have HS2:=Lib.hid (HS1.out.app hb2 hg2)
 obtain ⟨a2,c2,rfl,_⟩:=hb2.slb
 obtain ⟨l2,hl2⟩ : ∃ l,l = waitS L ++ [128]:=⟨_,rfl⟩
 have hln2 : l2.length = L.length % 64 + 1:=by rw [hl2,List.length_append,waitS_len]; rfl
 rw [← hl2] at HS2 ⊢
 obtain ⟨z,hz⟩ : ∃ z,z = (119 - L.length % 64) % 64:=⟨_,rfl⟩
 have HZ:=Lib.hid hz
 have HL2:=Lib.hid (⟨hl2,hln2⟩ : _ ∧ _)
 clear hb2 hg2 HS1 hsz1 hz hl2 hln2 hwl
 go_wp2_with fail
 go_loopg [3] z (fun gk t3 wr=>∃ (r:Nat) (a:Option Addr) (c:Nat) (l:List UInt8),gk + r = z ∧ t3 = .slice a l.length c ∧ l = l2 ++ List.replicate r 0 ∧ SuSt w wr (.slice a l.length c) l)
 case atStart=>exact ⟨0,a2,c2,l2,by omega,rfl,by simp,HS2.out⟩
 case round =>
  obtain ⟨r,a,c,l,hr,rfl,hle,hS⟩:=hrel
  have hll : l.length = L.length % 64 + 1 + r:=by rw [hle,List.length_append,HL2.out.2,List.length_replicate]
  have HLE:=Lib.hid hle
  have HSS:=Lib.hid hS
  have hz:=HZ.out
  have hsz:=hS.bel.size
  clear hle hS HS2
  by_cases hrz : r < z
  ·have x1 : ((l.length : Int) % 64 != 56) = true:=by rw [bne_iff_ne]; omega
   have x2 : (l.length : Int) ≤ 1000:=by omega
   have x3 : ¬ (l.length : Int) % 64 = 56:=by omega
   have HLL:=Lib.hid hll
   clear hz hll
   go_wp2_with (at_builtin; refine wpl_append1 rfl (.tmp 25) (.tmp 26) 22 rfl Tryz.underlying22 info_u8S w.heap.size _ l rfl (HSS.out.buf.alloc _) wr.heap.size 0 rfl ?c1 ?c2 ?c3 ?c4)
   case c1=>simp
   case c2=>omega
   case c3=>simp; omega
   case c4 =>
   intro v3 w3 hb3 hg3
   have HS3:=Lib.hid (HSS.out.app hb3 hg3)
   obtain ⟨a3,c3,rfl,_⟩:=hb3.slb
   clear hb3 hg3
   go_wp2_with fail
   go_roundg (gk - 1)
   case measure=>omega
   case rel=>exact ⟨r + 1,a3,c3,l ++ [0],by omega,rfl,by rw [HLE.out,List.append_assoc,List.replicate_succ'],HS3.out⟩
  ·obtain rfl : r = z:=by omega
   have x1 : ((l.length : Int) % 64 != 56) = false:=by rw [bne_eq_false_iff_eq]; omega
   have x2 : (l.length : Int) ≤ 1000:=by omega
   have x3 : (l.length : Int) % 64 = 56:=by omega
   have M1:=MidW.below HS.out (HSS.out.bel.mono (Nat.le_refl _))
   have hr:=M1.row
   have n1 : (0 : Int) ≤ (L.length : Int):=by omega
   have n3 : IntKind.u64.wrap (L.length : Int) = (L.length : Int):=by rw [IntKind.wrap_u64]; omega
   have n4 : IntKind.u64.wrap ((L.length : Int) * 8) = (L.length : Int) * 8:=by rw [IntKind.wrap_u64]; omega
   have HLL:=Lib.hid hll
   clear M1 hll hz
   go_wp2_with fail
   clear x1 x3
   go_loopg [3,34] 8 (fun gk t3 t34 wx=>∃ (r:Nat) (a:Option Addr) (c:Nat) (l4:List UInt8),gk + r = 8 ∧ t34 = .int .i64 (r:Int) ∧ t3 = .slice a l4.length c ∧ l4 = l ++ l8P L.length r ∧ SuSt w wx (.slice a l4.length c) l4)
   case atStart=>exact ⟨0,a,c,l,by omega,rfl,rfl,by simp [l8P],HSS.out⟩
   case round =>
    clear hr
    obtain ⟨r,a,c,l4,hr8,rfl,rfl,hl4,hS⟩:=hrel
    have h4l : l4.length = l.length + r:=by rw [hl4,List.length_append,l8P_len]
    have HL4:=Lib.hid hl4
    have HS4:=Lib.hid hS
    have hsz:=hS.bel.size
    have HH:=Lib.hid h4l
    have x4 : (l4.length : Int) ≤ 2000:=by have:=HH.out; omega
    have x5 : l4.length ≤ 2000:=by omega
    clear hl4 hS h4l
    by_cases h8 : r < 8
    ·obtain ⟨e,he⟩ : ∃ e,e = 56 - 8 * r:=⟨_,rfl⟩
     obtain ⟨q,hq⟩ : ∃ q,q = 7 - r:=⟨_,rfl⟩
     have s1 : (7 : Int) - (r:Int) = (q:Int):=by omega
     have s2 : (8 : Int) * (q:Int) = (e:Int):=by omega
     have c1 : (0 : Int) ≤ (e:Int):=by omega
     have c2 : (e:Int) ≤ 56:=by omega
     have c3 : (0 : Int) ≤ (q:Int):=by omega
     have c4 : (q:Int) ≤ 7:=by omega
     have c5 : (r:Int) < 8:=by omega
     have v8 : IntKind.u8.wrap ((L.length : Int) * 8 / 2 ^ e) = ((UInt8.ofNat (L.length * 8 / 2 ^ e)).toNat : Int):=by rw [← u8wrapS]; simp
     obtain ⟨x,hx⟩ : ∃ x,x = UInt8.ofNat (L.length * 8 / 2 ^ e):=⟨_,rfl⟩
     rw [← hx] at v8
     have HST:=Lib.hid (show l4 ++ [x] = l ++ l8P L.length (r + 1) by rw [HL4.out,List.append_assoc,hx,he,l8P_step])
     clear hx he hq
     go_wp2_with (at_builtin; refine wpl_append1 rfl (.tmp 37) (.tmp 44) 22 rfl Tryz.underlying22 info_u8S w.heap.size _ l4 rfl (HS4.out.buf.alloc _) wr.heap.size x rfl ?c1 ?c2 ?c3 ?c4)
     case c1=>simp
     case c2=>omega
     case c3=>simp; omega
     case c4 =>
     intro v3 w3 hb3 hg3
     have HS3:=Lib.hid (HS4.out.app hb3 hg3)
     obtain ⟨a3,c3,rfl,_⟩:=hb3.slb
     clear hb3 hg3
     go_wp2_with fail
     go_roundg (gk - 1)
     case measure=>omega
     case rel=>exact ⟨r + 1,a3,c3,l4 ++ [x],by omega,by go_num,rfl,HST.out,HS3.out⟩
    ·obtain rfl : r = 8:=by omega
     have c5 : ¬ ((8 : Nat) : Int) < 8:=by omega
     obtain ⟨E,hE⟩ : ∃ E,E = endS L:=⟨_,rfl⟩
     have hE4 : l4 = E:=by
      rw [hE,HL4.out,HLE.out,HL2.out.1,HZ.out]; rfl
     subst hE4
     have M1:=MidW.below HS.out (HS4.out.bel.mono (Nat.le_refl _))
     have hr:=M1.row
     have hsub:=stC_f8 (hS L) (.slice a0 (waitS L).length c0) (L.length : Int) (hS_len L)
     have hsz:=stC_sz (h:=hS L) (v:=.slice a0 (waitS L).length c0) (n:=(L.length : Int))
     have hh8 : (AD (hS L)).size = 8:=by rw [AD_size,hS_len]
     have HE:=Lib.hid (⟨hE,endS_64 L⟩ : _ ∧ _)
     clear hE M1
     go_upto_region 13 with (fail)
     obtain ⟨g6,hg6⟩ : ∃ g,g = wr.heap.size:=⟨_,rfl⟩
     have hlt6 : w.heap.size < g6:=by rw [hg6]; exact HS4.out.row.lt
     have hBn : Below wr.heap.size wr ((wr.alloc (.cells (AD (List.replicate 8 0)) 298)).setRow wr.heap.size (AD (hS L))):=bSetRow ((Below.refl _ _).alloc (Nat.le_refl _) _) (Nat.le_refl _) _
     have HS6:=HS4.out.below hBn
     rw [← zw8]
     refine gen_wpR (SvSt w g6 (.slice a l4.length c) l4 (pressAll (hS L) 0 l4)) ⟨by rw [hg6]; exact (Row.new _ _ _).setRow _,HS6.buf.slb,HS6.row,HS6.bel,hlt6⟩ ?_
     rw [← hg6]
     clear hg6 hBn HS6 hr hsub hsz hh8 HS4
     intro w6 hV
     go_loopg [3] (l4.length / 64) (fun gk t3 wx=>∃ (k:Nat) (a:Option Addr) (c:Nat) (l5:List UInt8),gk + k = l4.length / 64 ∧ t3 = .slice a l5.length c ∧ l5 = l4.drop (64 * k) ∧ SvSt w g6 (.slice a l5.length c) l5 (pressAll (hS L) k l4) wx)
     case atStart=>exact ⟨0,a,c,l4,by omega,rfl,by simp,hV⟩
     case round =>
      clear hV
      obtain ⟨k,a5,c6,l5,hk,rfl,hl5,hV⟩:=hrel
      have h5l : l5.length = l4.length - 64 * k:=by rw [hl5,List.length_drop]
      by_cases h0 : 0 < l5.length
      ·have h64 : 64 ≤ l5.length:=by have:=HE.out.2; rw [← HE.out.1] at this; omega
       have x6 : (0 : Int) < (l5.length : Int):=by omega
       have x7 : (64 : Int) ≤ (l5.length : Int):=by omega
       obtain ⟨b5,o5,c6',e5,hcc,-,-,-⟩:=hV.slb.addr h0
       obtain ⟨rfl,-,rfl⟩:=Value.slice.inj e5
       have x8 : (64 : Int) ≤ (c6:Int):=by omega
       have hr6:=hV.r6
       obtain ⟨H,hH⟩ : ∃ H,H = pressAll (hS L) k l4:=⟨_,rfl⟩
       have hH8 : H.length = 8:=by rw [hH]; exact pressAll_len _ _ (hS_len L) _
       rw [← hH] at hr6 hV
       have q1 : (AD H).size = 8:=by rw [AD_size]; exact hH8
       have HPR:=Lib.hid (fun (w':World) (hb':Below wr.heap.size wr w')=>press_any H (.slice (some ⟨b5,o5,none⟩) 64 c6) (l5.take 64) w' (Row.below (Row.below HV.out hV.bel HV.out.lt) hb' (Row.lt (Row.below HV.out hV.bel HV.out.lt))) hH8 ((hV.slb.below hb').take 64 h64) (by rw [List.length_take]; omega))
       obtain ⟨P,hP⟩ : ∃ P,P = pressS H (l5.take 64):=⟨_,rfl⟩
       have hP8 : P.length = 8:=by rw [hP]; rfl
       have q2 : (AD P).size = 8:=by rw [AD_size]; exact hP8
       have q3 : allOne (AD P) = true:=List.all_eq_true.2 fun u hu=>by
        obtain ⟨y,_,rfl⟩:=List.mem_map.1 (by simpa [AD] using hu)
        rfl
       have q4 : over (AD H) 0 (AD P) = AD P:=over_all _ _ (by rw [q1,q2])
       rw [← hP] at HPR
       have HNX:=Lib.hid (show pressAll (hS L) (k + 1) l4 = P ∧ l5.drop 64 = l4.drop (64 * (k + 1)) from ⟨by rw [pressAll_snoc,← hl5,← hH]; exact hP.symm,by rw [hl5,List.drop_drop]; congr 1⟩)
       have HVV:=Lib.hid hV
       have HK:=Lib.hid h5l
       clear hV hl5 hH hP hP8 hH8 h5l e5
       have hsub:=sub_all (AD H) 8 q1
       have hszz : 0 + 8 ≤ (AD H).size:=by rw [q1]; decide
       have hglt:=hr6.lt
       go_wp2_with fail
       refine wp_region_qtail (Below wr.heap.size wr) 3 (by kernel_rfl) (by kernel_rfl) (Below.refl _ _).drew ?_
       simp only [List.take_succ_cons,List.take_zero,List.drop_succ_cons,List.drop_zero]
       (go_big_quiet_want; apply qb_loadA _ _ rfl _ _ rfl (sz:=8); rotate_left 2; (focus (intro _; simp [go_sem]; done)); (focus (intro _; simp [go_sem]; done)); rotate_right 2; assumption; assumption; assumption; assumption; (simp only [Act.put,lS]; go_big_quiet_on))
       iterate 2 (first | go_big_quiet_skip | (go_big_quiet_want; go_big_quiet_op; first | go_big_quiet_on | (refine ⟨_,fun _ _=>rfl,?_⟩; go_big_quiet_on)) | (go_big_quiet_want; apply qb_load1 _ _ rfl _ _ rfl; rotate_left 2; (focus (intro _; simp [go_sem]; done)); rotate_right 2; assumption; assumption; assumption; (simp only [Act.put,lS]; go_big_quiet_on)) | (go_big_quiet_want; apply qb_loadA _ _ rfl _ _ rfl (sz:=16); rotate_left 2; (focus (intro _; simp [go_sem]; done)); (focus (intro _; simp [go_sem]; done)); rotate_right 2; assumption; assumption; assumption; assumption; (simp only [Act.put,lS]; go_big_quiet_on)))
       refine wpQuiet_nil ?_
       intro w' hw'
       have HV7:=Lib.hid (show SvSt w g6 (.slice (some ⟨b5,o5,none⟩) l5.length c6) l5 H w' from ⟨Row.below HVV.out.r6 hw' HVV.out.r6.lt,HVV.out.slb.below hw',HVV.out.row.below hw' HVV.out.row.lt,HVV.out.bel.trans (hw'.mono HVV.out.bel.size),HVV.out.lt⟩)
       have HP7:=Lib.hid (HPR.out w' hw')
       clear hsub hszz hglt hr6 hw' HVV HPR
       go_wp2_with fail
       refine HP7.out.mono ?_
       rintro e w8 ⟨rfl,hB8⟩
       have hr8:=Row.below HV7.out.r6 hB8 HV7.out.r6.lt
       have HV8:=Lib.hid (show SvSt w g6 (.slice (some ⟨b5,o5,none⟩) l5.length c6) l5 P (w8.setRow g6 (AD P)) from HV7.out.step hB8 P)
       clear hB8 HP7
       by_cases hc6 : c6 = 64
       ·subst hc6
        have hl64 : l5.length = 64:=by omega
        have hd0 : l5.drop 64 = []:=List.drop_eq_nil_of_le (by omega)
        have HF:=Lib.hid (show SvSt w g6 (.slice (some ⟨b5,o5,none⟩) 0 0) [] P (w8.setRow g6 (AD P)) from ⟨HV8.out.r6,SlB.zeroW _ _ _,HV8.out.row,HV8.out.bel,HV8.out.lt⟩)
        have HD:=Lib.hid hd0
        clear hd0
        go_wp2_with fail
        go_roundg (l4.length / 64 - (k + 1))
        case measure=>have:=HK.out; omega
        case rel=>exact ⟨k + 1,some ⟨b5,o5,none⟩,0,[],by have:=HK.out; omega,rfl,by rw [← HNX.out.2,HD.out],by rw [HNX.out.1]; exact HF.out⟩
       ·have HF:=Lib.hid (show SvSt w g6 (.slice (some ⟨b5,o5 + 64,none⟩) (l5.drop 64).length (c6 - 64)) (l5.drop 64) P (w8.setRow g6 (AD P)) from ⟨HV8.out.r6,by rw [List.length_drop]; exact HV8.out.slb.dropW h64,HV8.out.row,HV8.out.bel,HV8.out.lt⟩)
        go_wp2_with fail
        go_roundg (l4.length / 64 - (k + 1))
        case measure=>have:=HK.out; omega
        case rel=>exact ⟨k + 1,some ⟨b5,o5 + 64,none⟩,c6 - 64,l5.drop 64,by have:=HK.out; omega,by rw [List.length_drop],HNX.out.2,by rw [HNX.out.1]; exact HF.out⟩
      ·have x6 : ¬ (0 : Int) < (l5.length : Int):=by omega
       have hk64 : k = l4.length / 64:=by have:=HE.out.2; rw [← HE.out.1] at this; omega
       have HX:=Lib.hid (show bytesS (pressAll (hS L) k l4) = shaS L by rw [shaS,pressAll_end,← HE.out.1,hk64])
       obtain ⟨H,hH⟩ : ∃ H,H = pressAll (hS L) k l4:=⟨_,rfl⟩
       have hH8 : H.length = 8:=by rw [hH]; exact pressAll_len _ _ (hS_len L) _
       rw [← hH] at hV HX
       have hr6:=hV.r6
       have q1 : (AD H).size = 8:=by rw [AD_size]; exact hH8
       have HVV:=Lib.hid hV
       have hsub:=sub_all (AD H) 8 q1
       have hglt:=hr6.lt
       have hszw:=hV.bel.size
       clear hV hl5 hH h5l hk64
       go_upto_region 17 with (fail)
       obtain ⟨g7,hg7⟩ : ∃ g,g = wr.heap.size:=⟨_,rfl⟩
       have hlt7 : w.heap.size < g7:=by rw [hg7]; exact HVV.out.row.lt
       have hne7 : g6 ≠ g7:=by rw [hg7]; exact Nat.ne_of_lt hr6.lt
       rw [← zw32]
       refine gen_wpR (S7St w g6 g7 H []) ⟨by rw [hg7]; exact Row.new _ _ _,hr6.alloc _,HVV.out.row.alloc _,(HVV.out.bel.alloc HVV.out.bel.size _),hlt7⟩ ?_
       rw [← hg7]
       clear hg7 hr6 HVV hglt hszw
       intro w7 hV
       have hr6:=hV.r6
       have HVV:=Lib.hid hV
       clear hV
       go_wp2_with fail
       clear hr6 hsub
       go_loopg [61] 8 (fun gk t61 wx=>∃ (r:Nat),gk + r = 8 ∧ t61 = .int .i64 (r:Int) ∧ S7St w g6 g7 H (H.take r) wx)
       case atStart=>exact ⟨0,by omega,rfl,HVV.out⟩
       case round =>
        clear HVV
        obtain ⟨r,hr8,rfl,hV⟩:=hrel
        by_cases h8 : r < 8
        ·have c5 : (r:Int) < 8:=by omega
         have c6 : (0 : Int) ≤ (r:Int):=by omega
         have hrl : r < H.length:=by omega
         obtain ⟨x,hx⟩ : ∃ x,x = gw H r:=⟨_,rfl⟩
         have hgx : H[r] = x:=by rw [hx,gw,List.getD_eq_getElem?_getD,List.getElem?_eq_getElem hrl]; rfl
         obtain ⟨e0,he0⟩ : ∃ e,e = 4 * r:=⟨_,rfl⟩
         have s0 : (4 : Int) * (r:Int) = (e0:Int):=by omega
         obtain ⟨e1,he1⟩ : ∃ e,e = e0 + 1:=⟨_,rfl⟩
         obtain ⟨e2,he2⟩ : ∃ e,e = e0 + 2:=⟨_,rfl⟩
         obtain ⟨e3,he3⟩ : ∃ e,e = e0 + 3:=⟨_,rfl⟩
         have s1 : (e0:Int) + 1 = (e1:Int):=by omega
         have s2 : (e0:Int) + 2 = (e2:Int):=by omega
         have s3 : (e0:Int) + 3 = (e3:Int):=by omega
         have d0 : (e0:Int) ≤ 31:=by omega
         have d1 : (e1:Int) ≤ 31:=by omega
         have d2 : (e2:Int) ≤ 31:=by omega
         have d3 : (e3:Int) ≤ 31:=by omega
         have f0 : e0 < 32:=by omega
         have f1 : e1 < 32:=by omega
         have f2 : e2 < 32:=by omega
         have f3 : e3 < 32:=by omega
         have g0 : (0 : Int) ≤ (e0:Int):=by omega
         have g1 : (0 : Int) ≤ (e1:Int):=by omega
         have g2 : (0 : Int) ≤ (e2:Int):=by omega
         have g3 : (0 : Int) ≤ (e3:Int):=by omega
         have c7 : (r:Int) ≤ 8:=by omega
         have u0 : IntKind.u8.wrap ((x.toNat : Int) / 16777216) = ((UInt8.ofNat (x.toNat / 16777216)).toNat : Int):=by rw [← u8wrapS]; simp
         have u1 : IntKind.u8.wrap ((x.toNat : Int) / 65536) = ((UInt8.ofNat (x.toNat / 65536)).toNat : Int):=by rw [← u8wrapS]; simp
         have u2 : IntKind.u8.wrap ((x.toNat : Int) / 256) = ((UInt8.ofNat (x.toNat / 256)).toNat : Int):=by rw [← u8wrapS]; simp
         have u3 : IntKind.u8.wrap (x.toNat : Int) = ((UInt8.ofNat x.toNat).toNat : Int):=u8wrapS _
         obtain ⟨y0,hy0⟩ : ∃ y,y = UInt8.ofNat (x.toNat / 16777216):=⟨_,rfl⟩
         obtain ⟨y1,hy1⟩ : ∃ y,y = UInt8.ofNat (x.toNat / 65536):=⟨_,rfl⟩
         obtain ⟨y2,hy2⟩ : ∃ y,y = UInt8.ofNat (x.toNat / 256):=⟨_,rfl⟩
         obtain ⟨y3,hy3⟩ : ∃ y,y = UInt8.ofNat x.toNat:=⟨_,rfl⟩
         rw [← hy0] at u0
         rw [← hy1] at u1
         rw [← hy2] at u2
         rw [← hy3] at u3
         have HNX:=Lib.hid (show ((((b7 (H.take r)).set e0 y0).set e1 y1).set e2 y2).set e3 y3 = b7 (H.take (r + 1)) by rw [he1,he2,he3,he0,hy0,hy1,hy2,hy3,hx]; exact b7_step H r hH8 h8)
         have hb32:=b7_len (H.take r) (by rw [List.length_take]; omega)
         obtain ⟨Y,hY⟩ : ∃ Y,Y = b7 (H.take r):=⟨_,rfl⟩
         rw [← hY] at HNX hb32
         have hr7:=hV.r7
         rw [← hY] at hr7
         have hy32:=(AB_size Y).trans hb32
         have HV7:=Lib.hid hV
         have hlt7':=hr7.lt
         clear hV hx hy0 hy1 hy2 hy3 hY he1 he2 he3 he0
         go_wp2_with fail
         go_roundg (gk - 1)
         case measure=>omega
         case rel=>exact ⟨r + 1,by omega,by go_num,HV7.out.step4 hr7 HNX.out⟩
        ·obtain rfl : r = 8:=by omega
         have c5 : ¬ ((8 : Nat) : Int) < 8:=by omega
         have hfl : b7 (H.take 8) = shaS L:=by rw [List.take_of_length_le (by omega),b7_all _ hH8,HX.out]
         have hr7:=hV.r7
         rw [hfl] at hr7
         have hs32 : (shaS L).length = 32:=by rw [← hfl]; exact b7_len _ (by rw [List.length_take]; omega)
         have hs32':=(AB_size (shaS L)).trans hs32
         have hsb:=sub_all (AB (shaS L)) 32 hs32'
         obtain ⟨z,hz,hzs⟩:=hV.row
         have hov : over z 0 (AB (shaS L)) = AB (shaS L):=over_all _ _ (hzs.trans hs32'.symm)
         have hlt7':=hr7.lt
         go_wp2_with fail
         exact ret_row (.inl rfl) rfl w.heap.size _ _ 32 _ rfl (hz.setRow _) Tryz.underlying24 rfl (by kernel_rfl) hs32' ⟨rfl,bSetRow hV.bel (Nat.le_refl _) _⟩
end Go.Proofs.YtjpfhhndjpdmoaaGreatDoor
