/- Part of the proof: Quiet,MontA,MontB,Mul64,RedLaw. No conditions of its own. -/
import Derived.Test.YtjpfhhndjpdmoaaGreatDoorF07
import Derived.Deep.LoopGhost
import Derived.Deep.RegionLaw
import Derived.Shelf.Spec.BitsCarry
import Derived.Test.YtjpfhhndjpdmoaaGreatDoorRows
import Derived.Deep.CutBlock
import Derived.Deep.DeepCutAuto
import Derived.Shelf.Bits.Mul64
namespace Go.Proofs.YtjpfhhndjpdmoaaGreatDoor
open Go.RowKit
section
variable {P:Program} {ops:Array Oper} {md:Region.Mode} {C:World → Prop}
def wpAnyQL (P:Program) (md:Region.Mode) (ops:Array Oper) (C:World → Prop) (n:Nat) (L:Array Bool → Act → Prop) : Nat → Array Bool → Act → Prop
 | 0,listed,a=>L listed a
 | f + 1,listed,a =>
  Region.ready md ops listed ≠ [] ∧ ∀ i ∈ Region.ready md ops listed,i < n ∧ qOp P ops C i (wpAnyQL P md ops C n L f (listed.setIfInBounds i true)) a
theorem wpAny_of_headQ {n g:Nat} {L:Array Bool → Act → Prop} {Q':Exit → Act → World → Prop} (hL:∀ listed a w,C w → L listed a → wpAny P md ops Q' g listed a w) :
  ∀ (f:Nat) (listed:Array Bool) (a:Act) (w:World),C w → wpAnyQL P md ops C n L f listed a → wpAny P md ops Q' (f + g) listed a w
 | 0,listed,a,w,hw,h=>by rw [Nat.zero_add]; exact hL _ _ _ hw h
 | f + 1,listed,a,w,hw,h=>by
  rw [show f + 1 + g = (f + g) + 1 by omega]
  exact ⟨fun h0=>absurd h0 h.1,fun i hi=>wpOp_of_qOp hw (fun a' w' hw' h'=>wpAny_of_headQ hL f _ a' w' hw' h') (h.2 i hi).2⟩
theorem wpAnyQL_first {n i:Nat} {oi:Oper} {v:Value} {L:Array Bool → Act → Prop} (hi:ops[i]? = some oi) (hsel:∀ (j:Nat) (o:Oper) cs b,ops[j]? = some o → o.op ≠ .select cs b)
  (hs:Region.sinkB md ops n = true) (hc:Region.chainB md ops n = true) (hn:n < ops.size) (hin:i < n)
  (hdone:∀ listed a,L listed a → ∀ j ∈ Region.ready md ops listed,n ≤ j) :
  ∀ (f:Nat) (listed:Array Bool) (a:Act),HeadInv md ops n listed →
   (∀ j oj,ops[j]? = some oj → j ≠ i → listed.getD j true = false → (∀ e ∈ oj.after,Region.binds md e = true → e.on ≠ i) → oi.apart ops oj = true) →
   i ∈ Region.ready md ops listed → YieldsIn P ops C oi v a →
   wpAnyQL P md ops C n L f (listed.setIfInBounds i true) (a.put oi.dst v) → wpAnyQL P md ops C n L (f + 1) listed a:=by
 intro f
 induction f with
 | zero =>
  intro listed a inv _ hr hy H
  refine ⟨fun h=>(by rw [h] at hr; cases hr),fun j hj=>?_⟩
  have hjn : j < n:=by
   rcases Nat.lt_or_ge j n with h | h
   ·exact h
   ·exact absurd hj (tail_waits hs hc hn inv _ i rfl hin (mem_ready.1 hr).1 j h)
  refine ⟨hjn,?_⟩
  by_cases hji : j = i
  ·subst hji; exact hy.qOp hi H
  ·have:=hdone _ _ H j (ready_mono hj hji)
   omega
 | succ f ih =>
  intro listed a inv hfree hr hy H
  have hun:=(mem_ready.1 hr).1
  refine ⟨fun h=>(by rw [h] at hr; cases hr),fun j hj=>?_⟩
  have hjn : j < n:=by
   rcases Nat.lt_or_ge j n with h | h
   ·exact h
   ·exact absurd hj (tail_waits hs hc hn inv _ i rfl hin hun j h)
  refine ⟨hjn,?_⟩
  by_cases hji : j = i
  ·subst hji; exact hy.qOp hi H
  ·have h1:=(H.2 j (ready_mono hj hji)).2
   obtain ⟨hjun,oj,hoj,hall⟩:=mem_ready.1 hj
   have hnot : ∀ e ∈ oj.after,Region.binds md e = true → e.on ≠ i:=fun e he hb heq=>by
    have h1:=hall e he hb
    rw [heq,getD_both hun] at h1
    cases h1
   have h2:=qOp_put hoj (hfree j oj hoj hji hjun hnot) (fun cs b=>hsel i oi cs b hi) (fun cs b=>hsel j oj cs b hoj) hy h1
   have hfree' : ∀ k ok,ops[k]? = some ok → k ≠ i → (listed.setIfInBounds j true).getD k true = false →
     (∀ e ∈ ok.after,Region.binds md e = true → e.on ≠ i) → oi.apart ops ok = true:=fun k ok hk hki hun hno=>by
    refine hfree k ok hk hki ?_ hno
    by_cases hjk : j = k
    ·subst hjk; exact hjun
    ·rw [getD_set_ne true hjk] at hun; exact hun
   refine qOp_mono (fun a' h3=>ih (listed.setIfInBounds j true) a' (inv.set hj hjn) hfree' (ready_mono hr (Ne.symm hji)) h3.1 ?_) h2
   rw [Array.setIfInBounds_comm _ _ hji]
   exact h3.2
theorem wpAnyQL_lex {n g:Nat} {Lq:Act → Prop} (hsel:Region.noSelect ops = true) (hs:Region.sinkB md ops n = true) (hc:Region.chainB md ops n = true) (hn:n < ops.size) :
  ∀ (l:List Oper) (k:Nat) (listed:Array Bool) (a:Act),(∀ j,j < l.length → l[j]? = ops[k + j]?) → k + l.length = n → HeadInv md ops n listed →
  Region.lexHead md ops g l.length k listed = true → wpQuiet P ops C Lq l a →
  wpAnyQL P md ops C n (fun listed' a'=>Region.seqB md ops g n listed' = true ∧ Lq a') l.length listed a
 | [],k,listed,a,_,hk,_,hB,h=>by
  have : k = n:=by simpa using hk
  subst this
  exact ⟨by simpa [Region.lexHead] using hB,h⟩
 | o :: l,k,listed,a,hl,hk,inv,hB,h=>by
  have h0 : ops[k]? = some o:=by simpa using (hl 0 (by simp)).symm
  simp only [List.length_cons,Region.lexHead,Bool.and_eq_true] at hB
  obtain ⟨⟨hr,hf⟩,hB'⟩:=hB
  have hkn : k < n:=by simp only [List.length_cons] at hk; omega
  have hr' : k ∈ Region.ready md ops listed:=by simpa using hr
  have hst : qOp P ops C k (wpQuiet P ops C Lq l) a:=by unfold qOp; simp only [h0]; exact h
  obtain ⟨v,hy,hK⟩:=yieldsIn_of_qOp h0 hst
  exact wpAnyQL_first h0 (Region.noSelect_spec hsel) hs hc hn hkn (fun listed' a' hL=>seqB_ready hL.1) l.length listed a inv (Region.free_spec h0 hf) hr' hy
   (wpAnyQL_lex hsel hs hc hn l (k + 1) _ _ (fun j hj=>by have:=hl (j + 1) (by simp; omega); simpa [Nat.add_assoc,Nat.add_comm 1 j] using this) (by simp only [List.length_cons] at hk; omega) (inv.set hr' hkn) hB' hK)
theorem wp_region_qtail (C:World → Prop) {id:Nat} {Q:Exit → Act → World → Prop} {a:Act} {w:World} {l:List Oper} (n:Nat) (hm:P.follows .mixedOrders = true) (hB:Region.lexTailB .any l.toArray n = true) (hC:C w.drew)
  (h:wpQuiet P l.toArray C (fun a'=>∀ w',C w' → wpList P l.toArray Q (l.drop n) a' w') (l.take n) a) : (Code.region id l.toArray true).wp P Q a w:=by
 simp only [Region.lexTailB,Bool.and_eq_true,decide_eq_true_eq] at hB
 obtain ⟨⟨⟨⟨hsel,hn⟩,hs⟩,hc⟩,hlex⟩:=hB
 have hn' : n < l.length:=by simpa using hn
 have htl : (l.take n).length = n:=by simp; omega
 have hdl : (l.drop n).length = l.toArray.size - n:=by simp
 have inv0 : HeadInv .any l.toArray n (Array.replicate l.toArray.size false) :=
  ⟨by simp,fun j oj _ hl=>(by rw [getD_replicate_false] at hl; cases hl),fun t _ ht=>getD_in (by simpa using ht) (getD_replicate_false _ _)⟩
 have H:=wpAnyQL_lex (md:=.any) (C:=C) (g:=l.toArray.size - n) hsel hs hc hn (l.take n) 0 _ a (fun j hj=>by
  have hj' : j < n:=by rw [htl] at hj; exact hj
  simp [hj']) (by simpa using htl) inv0 (by rw [htl]; exact hlex) h
 refine wp_region_any hm ?_
 have:=wpAny_of_headQ (Q':=Q) (g:=l.toArray.size - n) (fun listed a' w' hw' hL=>by
  have:=wpAny_of_seq (md:=.any) (Q':=Q) (l.drop n) n listed a' w' (fun j=>by simp [List.getElem?_drop]) (by rw [hdl]; exact hL.1) (hL.2 w' hw')
  rwa [hdl] at this) _ _ _ w.drew hC H
 rw [htl,show n + (l.toArray.size - n) = l.toArray.size by omega] at this
 exact this
theorem quiet_at_eq (o:Oper) (a:Act) (W:World) (K:Act → Prop) :
  Oper.quiet P o a (fun w'=>w' = W) K = (∃ v,Oper.quietUpon P (fun w'=>w' = W) W v ((execOp a.eval o).run P W) ∧ K (a.put o.dst v)):=by
 unfold Oper.quiet Oper.quietAt
 simp only [forall_eq]
end
attribute [go_sem ↓] quiet_at_eq
end Go.Proofs.YtjpfhhndjpdmoaaGreatDoor

/- Operations of a region that draws its order,in the class of all worlds that are as W below n. -/
namespace Go.Proofs.YtjpfhhndjpdmoaaGreatDoor
open Go.RowKit
/-! ### the class of all worlds that are as W below n -/
section
variable {P:Program} {n:Nat} {W:World} {o:Oper} {a:Act} {K:Act → Prop}
theorem qb_loadA (ty:TypeId) (x:Operand) (ho:o.op = .load ty x) (g off:Nat) (hx:a.eval x = .pointer (some ⟨g,off,none⟩)) (t:TypeId) (cs:Array Value) (hr:Row W g t cs) (hgn:g < n)
  (h1:∀ w,(isAgg ty).run P w = .ok true w) (sz:Nat) (h2:∀ w,(sizeOf ty).run P w = .ok sz w) (hs:off + sz ≤ cs.size) (v:Array Value) (hv:sub cs off sz = v) (hk:K (a.put o.dst (.agg v))) : o.quiet P a (Below n W) K:=by
 refine ⟨.agg v,fun w' hw'=>?_,hk⟩
 have hr':=Row.below hr hw' hgn
 have hl:=run_loadCells_sub (P:=P) w' g off sz t cs hr' hs
 rw [hv] at hl
 unfold Oper.quietAt execOp
 simp only [ho,hx]
 simp [Instr.loadAt,Instr.sureAddr,loadVar,Sem.run_bind,h1,h2,hl,Oper.quietUpon]
theorem qb_load1 (ty:TypeId) (x:Operand) (ho:o.op = .load ty x) (g off:Nat) (hx:a.eval x = .pointer (some ⟨g,off,none⟩)) (t:TypeId) (cs:Array Value) (hr:Row W g t cs) (hgn:g < n)
  (h1:∀ w,(isAgg ty).run P w = .ok false w) (v:Value) (hv:cs[off]? = some v) (hk:K (a.put o.dst v)) : o.quiet P a (Below n W) K:=by
 refine ⟨v,fun w' hw'=>?_,hk⟩
 have hc:=(Row.below hr hw' hgn).cell off
 rw [hv] at hc
 unfold Oper.quietAt execOp
 simp only [ho,hx]
 simp [Instr.loadAt,Instr.sureAddr,loadVar,Sem.run_bind,h1,run_load,hc,Oper.quietUpon]
theorem qb_call (f:FuncId) (args:Array Value) (hrun:∀ w,(execOp a.eval o).run P w = .ok (.enter f args) w) (v:Value)
  (hc:∀ w',Below n W w' → Calls P f args w' (fun e w''=>e = .returned v ∧ Below w'.heap.size w' w'')) (hn:n ≤ W.heap.size) (hk:K (a.put o.dst v)) : o.quiet P a (Below n W) K:=by
 refine ⟨v,fun w' hw'=>?_,hk⟩
 unfold Oper.quietAt
 rw [hrun]
 exact ⟨rfl,(hc w' hw').mono fun e w'' h=>⟨h.1,hw'.trans (h.2.mono (Nat.le_trans hn hw'.size))⟩⟩
end
end Go.Proofs.YtjpfhhndjpdmoaaGreatDoor

namespace Go.Proofs.YtjpfhhndjpdmoaaGreatDoor
open Go.RowKit
set_option linter.unusedVariables false
set_option linter.unusedSimpArgs false

theorem run_add64w (x y c:Nat) (hc:c ≤ 1) (w:World) : (callFunc 188 #[Q x,Q y,Q c]).run Tryz.prog w = .ok (.value (.tuple #[Q ((x + y + c) % 18446744073709551616),Q ((x + y + c) / 18446744073709551616)])) w:=by
 rw [run_callFunc_extern Tryz.func188 (by kernel_rfl) (by kernel_rfl) (by kernel_rfl) (e:=add64Entry) (by kernel_rfl),run_add64 x y c (by omega) (by omega) (by omega) (by omega)]
 simp only [Result.andThen]
 congr 5 <;> omega
theorem run_sub64w (x y b:Nat) (hb:b ≤ 1) (w:World) : (callFunc 189 #[Q x,Q y,Q b]).run Tryz.prog w = .ok (.value (.tuple #[Q ((x + 18446744073709551616 - y - b) % 18446744073709551616),Q (if x < y + b then 1 else 0)])) w:=by
 rw [run_callFunc_extern Tryz.func189 (by kernel_rfl) (by kernel_rfl) (by kernel_rfl) (e:=sub64Entry) (by kernel_rfl),run_sub64 x y b hb]
 rfl
theorem ret_rowT {P:Program} {fn:Func} {p q:Tmp} {ty:TypeId} {tmps:Array Value} {w:World} {R:Ending → World → Prop} {e:Exit} (he:e = .ret ∨ e = .normal) (h:fn.results = #[.cell p ty,.tmp q]) (g:Nat) (t:TypeId) (cs:Array Value) (n:Nat) (d:TypeDesc) (v:Value)
  (hp:tmps.getD p undef = .pointer (some ⟨g,0,none⟩)) (hr:Row w g t cs) (hq:tmps.getD q undef = v)
  (hu:P.underlying ty = some d) (hd:(match d with | .struct _ | .array _ _=>true | _=>false) = true) (hi:(P.info? ty).map (·.size) = some n) (hn:cs.size = n)
  (hR:R (.returned (.tuple #[.agg cs,v])) w) : bodyPost P fn R e { tmps,defers:=[] } w:=by
 have hres : (results fn tmps).run P w = .ok (.tuple #[.agg cs,v]) w:=by
  have hp' : tmps[p]?.getD undef = .pointer (some ⟨g,0,none⟩):=by simpa using hp
  have hq' : tmps[q]?.getD undef = v:=by simpa using hq
  simp [results,h,hp',hq',asAddr,run_loadVar_row w g t ty cs (0,0) d hr.heap hu hd (by rw [hi,hn])]
 rcases he with rfl | rfl <;> exact ⟨rfl,_,hres,hR⟩
theorem Row.setQ {w:World} {b:Nat} {t:TypeId} {l:List Nat} (h:Row w b t (AQ l)) (i:Nat) (x:Nat) : Row (w.setCell ⟨b,i,none⟩ (Q x)) b t (AQ (l.set i x)):=by
 have:=h.set i (Q x)
 rwa [AQ_set] at this
theorem nL_size (n:Nat) : (AQ (nL n)).size = 4:=rfl
theorem sub_nL (n:Nat) : sub (AQ (nL n)) 0 4 = AQ (nL n):=sub_all _ _ rfl
theorem over_nL (z:Array Value) (n:Nat) (h:z.size = 4) : over z 0 (AQ (nL n)) = AQ (nL n):=over_all _ _ h
theorem zer4 : AQ (nK 0 0) = #[.int .u64 0,.int .u64 0,.int .u64 0,.int .u64 0]:=by kernel_rfl
theorem nK_any (n m:Nat) : nK n 0 = nK m 0:=rfl
structure AdSt (w wr:World) (a b s i:Nat) : Prop where
 r2 : Row wr w.heap.size 177 (AQ (nL a))
 r3 : Row wr (w.heap.size + 1) 177 (AQ (nL b))
 r4 : RowN wr (w.heap.size + 1 + 1) 177 4
 r6 : Row wr (w.heap.size + 1 + 1 + 1) 177 (AQ (nK s i))
 bel : Below w.heap.size w wr
set_option maxRecDepth 100000 in
set_option maxHeartbeats 4000000 in
theorem nadd_any (w:World) (a b:Nat) : Calls Tryz.prog 151 #[.agg (AQ (nL a)),.agg (AQ (nL b))] w fun e w'=>e = .returned (.tuple #[.agg (AQ (nL (a + b))),Q (cyS a b 4)]) ∧ Below w.heap.size w w':=by
 have s1:=nL_size a
 have s2:=nL_size b
 obtain ⟨s,hs⟩ : ∃ s,s = (a + b):=⟨_,rfl⟩
 rw [← hs]
 have HS:=Lib.hid hs
 clear hs
 have HA0:=Lib.hid (show AdSt w ((((w.alloc (.cells (AQ (nL a)) 177)).alloc (.cells (AQ (nL b)) 177)).alloc (.cells #[.int .u64 0,.int .u64 0,.int .u64 0,.int .u64 0] 177)).alloc (.cells #[.int .u64 0,.int .u64 0,.int .u64 0,.int .u64 0] 177)) a b s 0 from
  ⟨((Row.new _ _ _).alloc _).alloc _ |>.alloc _,((Row.newAt _ _ _ _ (by simp)).alloc _).alloc _,(RowN.newAt _ _ _ _ (by simp)).alloc _,by rw [nK_any s 0,zer4]; exact Row.newAt _ _ _ _ (by simp),((((Below.refl _ w).alloc (Nat.le_refl _) _).alloc (by simp) _).alloc (by simp; omega) _).alloc (by simp; omega) _⟩)
 have hc0 : cyS a b 0 = 0:=cyS_zero a b
 go_enter Tryz.func151,Tryz.ntmps151
 go_wp2_with fail
 go_loopg [7,9] 4 (fun gk t7 t9 wr=>∃ i : Nat,gk + i = 4 ∧ t7 = Q (cyS a b i) ∧ t9 = .int .i64 (i:Int) ∧ AdSt w wr a b s i)
 case atStart=>exact ⟨0,rfl,by rw [hc0]; rfl,rfl,HA0.out⟩
 case round =>
  clear HA0 hc0
  obtain ⟨i,hi,rfl,rfl,hA⟩:=hrel
  by_cases h4 : i < 4
  ·have i1 : (i:Int) < 4:=by omega
   have i0 : (0 : Int) ≤ (i:Int):=by omega
   have i2 : i < 4:=h4
   have cA : wr.drew.cell? ⟨w.heap.size,i,none⟩ = some (Q (lim a i)):=by rw [hA.r2.drew.cell,AQ_get _ _ h4,nL_get _ _ h4]
   have cB : wr.drew.cell? ⟨w.heap.size + 1,i,none⟩ = some (Q (lim b i)):=by rw [hA.r3.drew.cell,AQ_get _ _ h4,nL_get _ _ h4]
   obtain ⟨x,hx⟩ : ∃ x,x = lim a i:=⟨_,rfl⟩
   obtain ⟨y,hy⟩ : ∃ x,x = lim b i:=⟨_,rfl⟩
   obtain ⟨c,hc⟩ : ∃ x,x = cyS a b i:=⟨_,rfl⟩
   obtain ⟨z,hz⟩ : ∃ x,x = lim s i:=⟨_,rfl⟩
   obtain ⟨d,hd⟩ : ∃ x,x = cyS a b (i + 1):=⟨_,rfl⟩
   have hf : ∀ W,(callFunc 188 #[Q x,Q y,Q c]).run Tryz.prog W = .ok (.value (.tuple #[Q z,Q d])) W:=fun W=>by
    have:=run_add64w x y c (by rw [hc]; exact cyS_le _ _ _) W
    rw [hx,hy,hc,(cyS_step a b i).1,(cyS_step a b i).2,← HS.out,← hx,← hy,← hc,← hz,← hd] at this
    exact this
   rw [← hx] at cA
   rw [← hy] at cB
   rw [← hc]
   clear hx hy hc
   obtain ⟨X,hX⟩ : ∃ X,X = nK s i:=⟨_,rfl⟩
   have hXl : X.length = 4:=by rw [hX]; exact nK_len _ _
   have hXs : (AQ X).size = 4:=by rw [AQ_size]; exact hXl
   have hr6 : Row wr (w.heap.size + 1 + 1 + 1) 177 (AQ X):=by rw [hX]; exact hA.r6
   have hr6d:=hr6.drew
   have hlt6:=hr6.lt
   have f6 : wr.drew.frozen? ⟨w.heap.size + 1 + 1 + 1,i,none⟩ = false:=hr6.drew.frozen i
   have HA:=Lib.hid hA
   have HX:=Lib.hid (show X.set i z = nK s (i + 1) by rw [hX,← nK_step _ _ h4,hz])
   have HI:=Lib.hid (⟨hi,hd⟩ : _ ∧ _)
   clear hA hX hz hi hd h4
   go_wp2_with fail
   go_region_law (fail)
   all_goals
    go_wp2_with fail
    go_roundg (gk - 1)
    case measure=>have:=HI.out; omega
    case rel=>exact ⟨i + 1,by have:=HI.out; omega,by rw [← HI.out.2],by go_num,HA.out.r2.drew.setOther _ _ (by first | (simp; done) | (simp; omega)),HA.out.r3.drew.setOther _ _ (by first | (simp; done) | (simp; omega)),HA.out.r4.drew.setOther _ _ (by first | (simp; done) | (simp; omega)),by rw [← HX.out]; exact hr6d.setQ i z,HA.out.bel.drew.setCell (by simp; omega) _⟩
  ·obtain rfl : i = 4:=by omega
   have i1 : ¬ ((4 : Nat) : Int) < 4:=by omega
   have hr6:=hA.r6
   rw [nK_all] at hr6
   have hlt6:=hr6.lt
   have z1:=nL_size s
   have z2:=sub_nL s
   have z3:=AQ_one (nL s)
   have z4 : w.heap.size + 1 + 1 < wr.heap.size:=hA.r4.lt
   obtain ⟨z,hz,hzs⟩:=hA.r4
   have hov:=over_nL z s hzs
   have hB:=Lib.hid hA.bel
   clear hA hi
   go_wp2_with fail
   refine ret_rowT ?_ rfl (w.heap.size + 1 + 1) 177 (AQ (nL s)) 4 _ (Q (cyS a b 4)) ?_ (hz.setRow _) ?_ Tryz.underlying177 rfl (by kernel_rfl) (nL_size s) ?_
   ·first | exact .inl rfl | exact .inr rfl
   ·rfl
   ·rfl
   ·exact ⟨rfl,bSetRow hB.out (by omega) _⟩
set_option maxRecDepth 100000 in
set_option maxHeartbeats 4000000 in
theorem nsub_any (w:World) (a b:Nat) (hb:b < R256) : Calls Tryz.prog 149 #[.agg (AQ (nL a)),.agg (AQ (nL b))] w fun e w'=>e = .returned (.tuple #[.agg (AQ (nL (a + R256 - b))),Q (boS a b 4)]) ∧ Below w.heap.size w w':=by
 have HBB:=Lib.hid hb
 clear hb
 have s1:=nL_size a
 have s2:=nL_size b
 obtain ⟨s,hs⟩ : ∃ s,s = (a + R256 - b):=⟨_,rfl⟩
 rw [← hs]
 have HS:=Lib.hid hs
 clear hs
 have HA0:=Lib.hid (show AdSt w ((((w.alloc (.cells (AQ (nL a)) 177)).alloc (.cells (AQ (nL b)) 177)).alloc (.cells #[.int .u64 0,.int .u64 0,.int .u64 0,.int .u64 0] 177)).alloc (.cells #[.int .u64 0,.int .u64 0,.int .u64 0,.int .u64 0] 177)) a b s 0 from
  ⟨((Row.new _ _ _).alloc _).alloc _ |>.alloc _,((Row.newAt _ _ _ _ (by simp)).alloc _).alloc _,(RowN.newAt _ _ _ _ (by simp)).alloc _,by rw [nK_any s 0,zer4]; exact Row.newAt _ _ _ _ (by simp),((((Below.refl _ w).alloc (Nat.le_refl _) _).alloc (by simp) _).alloc (by simp; omega) _).alloc (by simp; omega) _⟩)
 have hc0 : boS a b 0 = 0:=boS_zero a b
 go_enter Tryz.func149,Tryz.ntmps149
 go_wp2_with fail
 go_loopg [7,9] 4 (fun gk t7 t9 wr=>∃ i : Nat,gk + i = 4 ∧ t7 = Q (boS a b i) ∧ t9 = .int .i64 (i:Int) ∧ AdSt w wr a b s i)
 case atStart=>exact ⟨0,rfl,by rw [hc0]; rfl,rfl,HA0.out⟩
 case round =>
  clear HA0 hc0
  obtain ⟨i,hi,rfl,rfl,hA⟩:=hrel
  by_cases h4 : i < 4
  ·have i1 : (i:Int) < 4:=by omega
   have i0 : (0 : Int) ≤ (i:Int):=by omega
   have i2 : i < 4:=h4
   have cA : wr.drew.cell? ⟨w.heap.size,i,none⟩ = some (Q (lim a i)):=by rw [hA.r2.drew.cell,AQ_get _ _ h4,nL_get _ _ h4]
   have cB : wr.drew.cell? ⟨w.heap.size + 1,i,none⟩ = some (Q (lim b i)):=by rw [hA.r3.drew.cell,AQ_get _ _ h4,nL_get _ _ h4]
   obtain ⟨x,hx⟩ : ∃ x,x = lim a i:=⟨_,rfl⟩
   obtain ⟨y,hy⟩ : ∃ x,x = lim b i:=⟨_,rfl⟩
   obtain ⟨c,hc⟩ : ∃ x,x = boS a b i:=⟨_,rfl⟩
   obtain ⟨z,hz⟩ : ∃ x,x = lim s i:=⟨_,rfl⟩
   obtain ⟨d,hd⟩ : ∃ x,x = boS a b (i + 1):=⟨_,rfl⟩
   have hf : ∀ W,(callFunc 189 #[Q x,Q y,Q c]).run Tryz.prog W = .ok (.value (.tuple #[Q z,Q d])) W:=fun W=>by
    have:=run_sub64w x y c (by rw [hc]; exact boS_le _ _ _) W
    rw [hx,hy,hc,(boS_step a b i HBB.out h4).1,(boS_step a b i HBB.out h4).2,← HS.out,← hx,← hy,← hc,← hz,← hd] at this
    exact this
   rw [← hx] at cA
   rw [← hy] at cB
   rw [← hc]
   clear hx hy hc
   obtain ⟨X,hX⟩ : ∃ X,X = nK s i:=⟨_,rfl⟩
   have hXl : X.length = 4:=by rw [hX]; exact nK_len _ _
   have hXs : (AQ X).size = 4:=by rw [AQ_size]; exact hXl
   have hr6 : Row wr (w.heap.size + 1 + 1 + 1) 177 (AQ X):=by rw [hX]; exact hA.r6
   have hr6d:=hr6.drew
   have hlt6:=hr6.lt
   have f6 : wr.drew.frozen? ⟨w.heap.size + 1 + 1 + 1,i,none⟩ = false:=hr6.drew.frozen i
   have HA:=Lib.hid hA
   have HX:=Lib.hid (show X.set i z = nK s (i + 1) by rw [hX,← nK_step _ _ h4,hz])
   have HI:=Lib.hid (⟨hi,hd⟩ : _ ∧ _)
   clear hA hX hz hi hd h4
   go_wp2_with fail
   go_region_law (fail)
   all_goals
    go_wp2_with fail
    go_roundg (gk - 1)
    case measure=>have:=HI.out; omega
    case rel=>exact ⟨i + 1,by have:=HI.out; omega,by rw [← HI.out.2],by go_num,HA.out.r2.drew.setOther _ _ (by first | (simp; done) | (simp; omega)),HA.out.r3.drew.setOther _ _ (by first | (simp; done) | (simp; omega)),HA.out.r4.drew.setOther _ _ (by first | (simp; done) | (simp; omega)),by rw [← HX.out]; exact hr6d.setQ i z,HA.out.bel.drew.setCell (by simp; omega) _⟩
  ·obtain rfl : i = 4:=by omega
   have i1 : ¬ ((4 : Nat) : Int) < 4:=by omega
   have hr6:=hA.r6
   rw [nK_all] at hr6
   have hlt6:=hr6.lt
   have z1:=nL_size s
   have z2:=sub_nL s
   have z3:=AQ_one (nL s)
   have z4 : w.heap.size + 1 + 1 < wr.heap.size:=hA.r4.lt
   obtain ⟨z,hz,hzs⟩:=hA.r4
   have hov:=over_nL z s hzs
   have hB:=Lib.hid hA.bel
   clear hA hi
   go_wp2_with fail
   refine ret_rowT ?_ rfl (w.heap.size + 1 + 1) 177 (AQ (nL s)) 4 _ (Q (boS a b 4)) ?_ (hz.setRow _) ?_ Tryz.underlying177 rfl (by kernel_rfl) (nL_size s) ?_
   ·first | exact .inl rfl | exact .inr rfl
   ·rfl
   ·rfl
   ·exact ⟨rfl,bSetRow hB.out (by omega) _⟩
theorem pw_mod (a i:Nat) (h:i < 4) : a % R256 / pw i % 18446744073709551616 = a / pw i % 18446744073709551616:=by
 have : i = 0 ∨ i = 1 ∨ i = 2 ∨ i = 3:=by omega
 have hR : R256 = 115792089237316195423570985008687907853269984665640564039457584007913129639936:=rfl
 rw [hR]
 rcases this with rfl | rfl | rfl | rfl
 ·rw [pw0]; omega
 ·rw [pw1]; omega
 ·rw [pw2]; omega
 ·rw [pw3]; omega
theorem nL_mod (a:Nat) : nL (a % R256) = nL a:=by
 unfold nL
 simp only [lim_eq,pw_mod a 0 (by decide),pw_mod a 1 (by decide),pw_mod a 2 (by decide),pw_mod a 3 (by decide)]
theorem boS_four (a b:Nat) (ha:a < R256) (hb:b < R256) : boS a b 4 = if a < b then 1 else 0:=by
 unfold boS
 rw [pw4,Nat.mod_eq_of_lt ha,Nat.mod_eq_of_lt hb]
theorem cyS_four (a b:Nat) (ha:a < R256) (hb:b < R256) : cyS a b 4 = (a + b) / R256:=by
 unfold cyS
 rw [pw4,Nat.mod_eq_of_lt ha,Nat.mod_eq_of_lt hb]
set_option maxRecDepth 100000 in
set_option maxHeartbeats 4000000 in
theorem nless_any (w:World) (a b:Nat) (ha:a < R256) (hb:b < R256) : Calls Tryz.prog 132 #[.agg (AQ (nL a)),.agg (AQ (nL b))] w fun e w'=>e = .returned (.bool (decide (a < b))) ∧ Below w.heap.size w w':=by
 have s1:=nL_size a
 have s2:=nL_size b
 have s3:=sub_nL a
 have s4:=sub_nL b
 have q1:=AQ_one (nL (a + R256 - b))
 have q2:=nL_size (a + R256 - b)
 have HC:=Lib.hid (fun W=>nsub_any W a b hb)
 have HF:=Lib.hid (boS_four a b ha hb)
 obtain ⟨e,he⟩ : ∃ e,e = boS a b 4:=⟨_,rfl⟩
 rw [← he] at HC HF
 clear ha hb he
 go_enter Tryz.func132,Tryz.ntmps132
 go_wp2_with fail
 refine (HC.out _).mono ?_
 rintro _ w1 ⟨rfl,hB1⟩
 have HB1:=Lib.hid ((((Below.refl _ w).alloc (Nat.le_refl _) _).alloc (by simp) _).trans (hB1.mono (by simp; omega)))
 clear hB1
 by_cases h : a < b
 ·have h1 : e = 1:=by rw [HF.out,if_pos h]
  have HR:=Lib.hid h
  subst h1
  clear h
  go_wp2_with fail
  go_ret
  exact ⟨by rw [decide_eq_true HR.out]; rfl,bSetRow (HB1.out.alloc HB1.out.size _) HB1.out.size _⟩
 ·have h1 : e = 0:=by rw [HF.out,if_neg h]
  have HR:=Lib.hid h
  subst h1
  clear h
  go_wp2_with fail
  go_ret
  exact ⟨by rw [decide_eq_false HR.out]; rfl,bSetRow (HB1.out.alloc HB1.out.size _) HB1.out.size _⟩
end Go.Proofs.YtjpfhhndjpdmoaaGreatDoor

namespace Go.Proofs.YtjpfhhndjpdmoaaGreatDoor
open Go.RowKit
set_option linter.unusedVariables false
set_option linter.unusedSimpArgs false

theorem wp_callQ {o:Oper} {a:Act} {w:World} {K:Act → World → Prop} {Q:Exit → Act → World → Prop} (f:FuncId) (args:Array Value) (hrun:(execOp a.eval o).run Tryz.prog w = .ok (.enter f args) w) (hc:Calls Tryz.prog f args w fun e w'=>∃ v,e = .returned v ∧ K (a.put o.dst v) w') : o.wp Tryz.prog a w K Q:=by
 unfold Oper.wp
 rw [hrun,Oper.upon_enter]
 refine hc.mono ?_
 rintro e w' ⟨v,rfl,h⟩
 exact h
def modL (m neg:Nat) : List Nat:=nL m ++ ([neg] ++ (nL (R256 % m) ++ nL (R256 * R256 % m)))
def modC (m neg:Nat) : Array Value:=AQ (modL m neg)
theorem modC_size (m neg:Nat) : (modC m neg).size = 13:=rfl
theorem modC_m (m neg:Nat) : sub (modC m neg) 0 4 = AQ (nL m):=by
 unfold modC modL sub AQ
 rfl
theorem modC_two (m neg:Nat) : sub (modC m neg) 9 4 = AQ (nL (R256 * R256 % m)):=by
 unfold modC modL sub AQ
 rfl
structure ModW (w:World) (g m neg ri:Nat) : Prop where
 row : Row w g 260 (modC m neg)
 md : MdS m neg ri
theorem ModW.below {w w':World} {g m neg ri:Nat} (h:ModW w g m neg ri) (hb:Below w.heap.size w w') : ModW w' g m neg ri:=⟨h.row.below hb h.row.lt,h.md⟩
theorem shr_low {m a ov:Nat} (hm:m < R256) (ha:a < R256) (hov:ov ≤ 1) (h:a + ov * R256 < m) : ov = 0 ∧ a < m ∧ shrS m (a + ov * R256) = a:=by
 have : ov = 0:=by
  rcases Nat.eq_zero_or_pos ov with h0 | h0
  ·exact h0
  ·obtain rfl : ov = 1:=by omega
   omega
 subst this
 rw [Nat.zero_mul,Nat.add_zero] at h ⊢
 exact ⟨rfl,h,by unfold shrS; rw [if_pos h]⟩
theorem shr_high {m a ov:Nat} (hm:m < R256) (ha:a < R256) (hov:ov ≤ 1) (h2:a + ov * R256 < 2 * m) (h:¬ a + ov * R256 < m) : (ov = 1 ∨ ¬ a < m) ∧ nL (a + R256 - m) = nL (shrS m (a + ov * R256)):=by
 have hs : shrS m (a + ov * R256) = a + ov * R256 - m:=by unfold shrS; rw [if_neg h]
 rcases Nat.eq_zero_or_pos ov with h0 | h0
 ·subst h0
  rw [Nat.zero_mul,Nat.add_zero] at h hs ⊢
  refine ⟨.inr h,?_⟩
  rw [hs,← nL_mod (a + R256 - m),show a + R256 - m = (a - m) + R256 by omega,Nat.add_mod_right,nL_mod]
 ·obtain rfl : ov = 1:=by omega
  rw [Nat.one_mul] at hs ⊢
  exact ⟨.inl rfl,by rw [hs]⟩
structure ModR (w:World) (g m:Nat) (C:Array Value) : Prop where
 row : Row w g 260 C
 sz : C.size = 13
 mm : sub C 0 4 = AQ (nL m)
 low : m < R256
theorem ModR.below {w w':World} {g m:Nat} {C:Array Value} (h:ModR w g m C) (hb:Below w.heap.size w w') : ModR w' g m C:=⟨h.row.below hb h.row.lt,h.sz,h.mm,h.low⟩
set_option maxRecDepth 100000 in
set_option maxHeartbeats 4000000 in
theorem shrink_row (w:World) (g m a ov:Nat) (C:Array Value) (hM:ModR w g m C) (ha:a < R256) (hov:ov ≤ 1) (hT:a + ov * R256 < 2 * m) :
  Calls Tryz.prog 152 #[.pointer (some ⟨g,0,none⟩),.agg (AQ (nL a)),Q ov] w fun e w'=>e = .returned (.agg (AQ (nL (shrS m (a + ov * R256))))) ∧ Below w.heap.size w w':=by
 have s1:=nL_size a
 have s2:=sub_nL a
 have s3:=hM.sz
 have s4:=hM.mm
 have HM:=Lib.hid hM
 have HLT:=Lib.hid hM.row.lt
 have HC:=Lib.hid (fun W=>nsub_any W a m hM.low)
 have HF:=Lib.hid (boS_four a m ha hM.low)
 have HV:=Lib.hid (⟨hM.low,ha,hov,hT⟩ : _ ∧ _ ∧ _ ∧ _)
 obtain ⟨e,he⟩ : ∃ e,e = boS a m 4:=⟨_,rfl⟩
 obtain ⟨s,hs⟩ : ∃ s,s = a + R256 - m:=⟨_,rfl⟩
 rw [← he] at HC HF
 rw [← hs] at HC
 have HS:=Lib.hid hs
 have q1:=AQ_one (nL s)
 have q2:=nL_size s
 have q3:=sub_nL s
 have q4:=AQ_one (nL a)
 have q5:=over_nL #[.int .u64 0,.int .u64 0,.int .u64 0,.int .u64 0] s rfl
 have z44 : 0 + 4 ≤ (AQ (nL a)).size:=by rw [s1]; decide
 clear hM ha hov hT he hs
 go_enter Tryz.func152,Tryz.ntmps152
 go_upto_region 1 with (fail)
 obtain ⟨w0,hw0⟩ : ∃ W,W = (w.alloc (.cells (AQ (nL a)) 177)).alloc (.cells #[.int .u64 0,.int .u64 0,.int .u64 0,.int .u64 0] 177):=⟨_,rfl⟩
 rw [← hw0]
 have HR:=Lib.hid (show Row w0 w.heap.size 177 (AQ (nL a)) ∧ RowN w0 (w.heap.size + 1) 177 4 ∧ Below w.heap.size w w0 from by
  rw [hw0]
  exact ⟨(Row.new _ _ _).alloc _,RowN.newAt _ _ _ _ (by simp),((Below.refl _ w).alloc (Nat.le_refl _) _).alloc (by simp) _⟩)
 clear hw0
 have hra0:=HR.out.1
 have hrm0:=(HM.out.below HR.out.2.2).row
 have hra:=HR.out.1.drew
 have hla : w.heap.size < w0.heap.size:=HR.out.1.lt
 have hrm:=(HM.out.below HR.out.2.2).row.drew
 have hlm : g < w0.heap.size:=(HM.out.below HR.out.2.2).row.lt
 go_cut [7,8] (fun t7 t8 wx=>∃ g7,t7 = .pointer (some ⟨g7,0,none⟩) ∧ t8 = Q e ∧ Row wx g7 177 (AQ (nL s)) ∧ Row wx w.heap.size 177 (AQ (nL a)) ∧ RowN wx (w.heap.size + 1) 177 4 ∧ Below w.heap.size w wx)
 case first =>
  go_region_law (first
   | (refine wp_callQ 149 #[.agg (AQ (nL a)),.agg (AQ (nL m))] ?_ ?_
      (focus (simp [go_sem]; done))
      refine (HC.out _).mono ?_
      rintro _ w2 ⟨rfl,hB⟩
      refine ⟨_,rfl,?_⟩
      have hra2:=(show Row w2 w.heap.size 177 (AQ (nL a)) from by first | exact hra.below hB hra.lt | exact (hra.alloc _).below hB (hra.alloc _).lt | exact ((HR.out.1.alloc _).drew).below hB ((HR.out.1.alloc _).drew).lt)
      have HN2:=Lib.hid (show RowN w2 (w.heap.size + 1) 177 4 ∧ Below w.heap.size w w2 from by
       first
        | exact ⟨HR.out.2.1.drew.below hB HR.out.2.1.lt,HR.out.2.2.drew.trans (hB.mono HR.out.2.2.size)⟩
        | exact ⟨(HR.out.2.1.drew.alloc _).below hB (HR.out.2.1.drew.alloc _).lt,(HR.out.2.2.drew.alloc HR.out.2.2.size _).trans (hB.mono (by have:=HR.out.2.2.size; simp; omega))⟩)
      (first
       | (have hz2:=(show Row w2 w0.heap.size 177 #[.int .u64 0,.int .u64 0,.int .u64 0,.int .u64 0] from by first | exact (Row.new w0.drew 177 #[.int .u64 0,.int .u64 0,.int .u64 0,.int .u64 0]).below hB (Row.new w0.drew 177 #[.int .u64 0,.int .u64 0,.int .u64 0,.int .u64 0]).lt | exact (Row.new w0 177 #[.int .u64 0,.int .u64 0,.int .u64 0,.int .u64 0]).drew.below hB (Row.new w0 177 #[.int .u64 0,.int .u64 0,.int .u64 0,.int .u64 0]).lt)
          have hzl2:=hz2.lt)
       | skip)
      clear hB)
   | fail)
  all_goals
   go_wp2_with fail
   go_meet
   case rel =>
    first
     | exact ⟨w2.heap.size,rfl,rfl,(Row.new _ _ _).setRow _,(hra2.alloc _).setRowOther _ _ (by have:=hra2.lt; omega),(HN2.out.1.alloc _).setRowOther _ _ (by have:=HN2.out.1.lt; omega),bSetRow (HN2.out.2.alloc HN2.out.2.size _) HN2.out.2.size _⟩
     | exact ⟨w0.heap.size,rfl,rfl,hz2.setRow _,hra2.setRowOther _ _ (by omega),HN2.out.1.setRowOther _ _ (by have:=HR.out.2.1.lt; omega),bSetRow HN2.out.2 (by omega) _⟩
 case rest =>
  obtain ⟨g7,rfl,rfl,h7,hra3,hn3,hB3⟩:=hcut
  obtain ⟨z,hz,hzs⟩:=hn3
  have hl7:=h7.lt
  have hla3:=hra3.lt
  have hlz:=hz.lt
  have HB3:=Lib.hid hB3
  have ov1:=over_nL z a hzs
  have ov2:=over_nL z s hzs
  clear hra hra0 hrm hrm0 hla hlm hB3 HR
  by_cases hlow : a + ov * R256 < m
  ·obtain ⟨rfl,h2,h3⟩:=shr_low HV.out.1 HV.out.2.1 HV.out.2.2.1 hlow
   obtain rfl : e = 1:=by rw [HF.out,if_pos h2]
   have H3:=Lib.hid h3
   clear hlow h2 h3
   go_wp2_with fail
   exact ret_row (.inl rfl) rfl (w.heap.size + 1) _ _ 4 _ rfl (hz.setRow _) Tryz.underlying177 rfl (by kernel_rfl) s1 ⟨by rw [H3.out],bSetRow HB3.out (by omega) _⟩
  ·obtain ⟨h2,h3⟩:=shr_high HV.out.1 HV.out.2.1 HV.out.2.2.1 HV.out.2.2.2 hlow
   rw [← HS.out] at h3
   have H3:=Lib.hid h3
   clear hlow h3
   rcases h2 with rfl | h2
   ·go_wp2_with fail
    exact ret_row (.inl rfl) rfl (w.heap.size + 1) _ _ 4 _ rfl (hz.setRow _) Tryz.underlying177 rfl (by kernel_rfl) q2 ⟨by rw [← H3.out],bSetRow HB3.out (by omega) _⟩
   ·obtain rfl : e = 0:=by rw [HF.out,if_neg h2]
    clear h2
    go_wp2_with fail
    all_goals exact ret_row (.inl rfl) rfl (w.heap.size + 1) _ _ 4 _ rfl (hz.setRow _) Tryz.underlying177 rfl (by kernel_rfl) q2 ⟨by rw [← H3.out],bSetRow HB3.out (by omega) _⟩
theorem shrink_any (w:World) (g m neg ri a ov:Nat) (hM:ModW w g m neg ri) (ha:a < R256) (hov:ov ≤ 1) (hT:a + ov * R256 < 2 * m) :
  Calls Tryz.prog 152 #[.pointer (some ⟨g,0,none⟩),.agg (AQ (nL a)),Q ov] w fun e w'=>e = .returned (.agg (AQ (nL (shrS m (a + ov * R256))))) ∧ Below w.heap.size w w' :=
 shrink_row w g m a ov _ ⟨hM.row,modC_size m neg,modC_m m neg,hM.md.low⟩ ha hov hT
end Go.Proofs.YtjpfhhndjpdmoaaGreatDoor

namespace Go.Proofs.YtjpfhhndjpdmoaaGreatDoor
open Go.RowKit Go.Lib
set_option linter.unusedVariables false
set_option linter.unusedSimpArgs false
set_option maxRecDepth 100000 in
set_option maxHeartbeats 1000000 in
theorem mul64_any (x y:Nat) (hx:x < 18446744073709551616) (hy:y < 18446744073709551616) (w:World) :
  Calls Tryz.prog 187 #[Q x,Q y] w fun e w'=>e = .returned (.tuple #[Q (x * y / 18446744073709551616),Q (x * y % 18446744073709551616)]) ∧ w' = w:=by
 obtain ⟨bd,bt,bw,hhi⟩:=Lib.mul64_hi x y hx hy
 have ba:=Lib.half_mul_le (a:=x / 4294967296) (b:=y / 4294967296) (by omega) (by omega)
 have bb:=Lib.half_mul_le (a:=x / 4294967296) (b:=y % 4294967296) (by omega) (by omega)
 have bc:=Lib.half_mul_le (a:=x % 4294967296) (b:=y / 4294967296) (by omega) (by omega)
 have ba' : x / 4294967296 * (y / 4294967296) < 18446744073709551616:=by omega
 have bb' : x / 4294967296 * (y % 4294967296) < 18446744073709551616:=by omega
 have bc' : x % 4294967296 * (y / 4294967296) < 18446744073709551616:=by omega
 have bh1 : x / 4294967296 * (y / 4294967296) + (x / 4294967296 * (y % 4294967296) + x % 4294967296 * (y % 4294967296) / 4294967296) / 4294967296 < 18446744073709551616:=by omega
 have bh : x / 4294967296 * (y / 4294967296) + (x / 4294967296 * (y % 4294967296) + x % 4294967296 * (y % 4294967296) / 4294967296) / 4294967296 + ((x / 4294967296 * (y % 4294967296) + x % 4294967296 * (y % 4294967296) / 4294967296) % 4294967296 + x % 4294967296 * (y / 4294967296)) / 4294967296 < 18446744073709551616:=by omega
 go_enter Tryz.func187,Tryz.ntmps187
 go_wp2
 -- the walk's numbers,folded from the inside out: each step of the school method is a natural number that does not wrap
 simp only [Mul64.maskN x hx,Mul64.maskN y hy,Mul64.divN,Mul64.mulN,Mul64.addN,Mul64.wrapN _ bd,Mul64.wrapN _ bb',Mul64.wrapN _ bt,Mul64.maskN _ bt,Mul64.wrapN _ bc',Mul64.wrapN _ bw,Mul64.wrapN _ ba',Mul64.wrapN _ bh1,Mul64.wrapN _ bh,Mul64.wrapM (x * y)]
 rw [hhi]
 go_ret2
 exact ⟨rfl,rfl⟩
end Go.Proofs.YtjpfhhndjpdmoaaGreatDoor

namespace Go.Proofs.YtjpfhhndjpdmoaaGreatDoor
set_option linter.unusedVariables false

theorem addMul (P t c:Nat) : (((P % 18446744073709551616 + t) % 18446744073709551616 + c) % 18446744073709551616 = (P + t + c) % 18446744073709551616) ∧
  (P / 18446744073709551616 + (P % 18446744073709551616 + t) / 18446744073709551616 + ((P % 18446744073709551616 + t) % 18446744073709551616 + c) / 18446744073709551616 = (P + t + c) / 18446744073709551616):=by
 constructor <;> omega
theorem mul_max {x y:Nat} (hx:x < 18446744073709551616) (hy:y < 18446744073709551616) : x * y ≤ 340282366920938463426481119284349108225:=by
 have : x * y ≤ 18446744073709551615 * 18446744073709551615:=Nat.mul_le_mul (by omega) (by omega)
 exact this
theorem addMul_lt {x y t c:Nat} (hx:x < 18446744073709551616) (hy:y < 18446744073709551616) (ht:t < 18446744073709551616) (hc:c < 18446744073709551616) : (x * y + t + c) / 18446744073709551616 < 18446744073709551616:=by
 have h:=mul_max hx hy
 rw [Nat.div_lt_iff_lt_mul (by decide)]
 have e : (18446744073709551616 : Nat) * 18446744073709551616 = 340282366920938463463374607431768211456:=rfl
 rw [e]
 omega
def caS (T x a i:Nat) : Nat:=(T % pw i + x * (a % pw i)) / pw i
theorem caS_zero (T x a:Nat) : caS T x a 0 = 0:=by unfold caS; rw [pw0,Nat.mod_one,Nat.mod_one,Nat.mul_zero]
theorem caS_lt (T x a i:Nat) (hx:x < 18446744073709551616) : caS T x a i < 18446744073709551616:=by
 unfold caS
 have h:=pw_pos i
 have h1:=Nat.mod_lt T h
 have h2:=Nat.mod_lt a h
 rw [Nat.div_lt_iff_lt_mul h]
 have h3 : x * (a % pw i) ≤ 18446744073709551615 * (pw i - 1):=Nat.mul_le_mul (by omega) (by omega)
 omega
theorem caS_step (T x a i:Nat) : (x * lim a i + lim T i + caS T x a i) % 18446744073709551616 = lim (T + x * a) i ∧ (x * lim a i + lim T i + caS T x a i) / 18446744073709551616 = caS T x a (i + 1):=by
 have h:=pw_pos i
 have hT:=mod_pw_succ T i
 have ha:=mod_pw_succ a i
 obtain ⟨P,hP⟩ : ∃ P,P = pw i:=⟨_,rfl⟩
 obtain ⟨V,hV⟩ : ∃ V,V = T % P + x * (a % P):=⟨_,rfl⟩
 have hca : caS T x a i = V / P:=by rw [hV,hP]; rfl
 have hVd:=Nat.div_add_mod V P
 have hr : V % P < P:=Nat.mod_lt _ (by rw [hP]; exact h)
 rw [← hP] at h hT ha
 have hs : T % pw (i + 1) + x * (a % pw (i + 1)) = (x * lim a i + lim T i + V / P) * P + V % P:=by
  rw [hT,ha,Nat.mul_add,Nat.add_mul,Nat.add_mul,← Nat.mul_assoc x (lim a i) P,Nat.mul_comm (V / P) P]
  omega
 have hd : (T % pw (i + 1) + x * (a % pw (i + 1))) / P = x * lim a i + lim T i + V / P:=by
  rw [hs,Nat.mul_comm _ P,Nat.mul_add_div h,Nat.div_eq_of_lt hr,Nat.add_zero]
 rw [hca]
 constructor
 ·obtain ⟨M,hM⟩ : ∃ M,M = pw (i + 1):=⟨_,rfl⟩
  have hMP : M = P * 18446744073709551616:=by rw [hM,pw_succ,hP]
  have h1 : (x * a) % M = (x * (a % M)) % M:=by rw [Nat.mul_mod x a,Nat.mul_mod x (a % M),Nat.mod_mod]
  have e2 : (T + x * a) % M = (T % M + x * (a % M)) % M:=by rw [Nat.add_mod,h1,Nat.add_mod_mod]
  rw [← hM] at hd
  have e3 : lim (T + x * a) i = (T + x * a) % M / P:=by
   rw [lim_eq,← hP,hMP,Nat.mod_mul_right_div_self]
  rw [e3,e2]
  have e4 : (T % M + x * (a % M)) % M / P = (T % M + x * (a % M)) / P % 18446744073709551616:=by
   conv=>lhs; rw [hMP]
   rw [← hMP,hMP,Nat.mod_mul_right_div_self]
  rw [e4,hd]
 ·have e : caS T x a (i + 1) = (T % pw (i + 1) + x * (a % pw (i + 1))) / P / 18446744073709551616:=by
   rw [Nat.div_div_eq_div_mul,hP,← pw_succ]
   rfl
  rw [e,hd]
theorem caS_four (T x a:Nat) (ha:a < R256) : T / R256 + caS T x a 4 = (T + x * a) / R256:=by
 unfold caS
 rw [pw4,Nat.mod_eq_of_lt ha]
 have hd:=Nat.div_add_mod T R256
 have e : T + x * a = R256 * (T / R256) + (T % R256 + x * a):=by omega
 conv=>rhs; rw [e]
 rw [Nat.mul_add_div (by decide)]
def rowT (T v:Nat) : List Nat:=[lim T 0,lim T 1,lim T 2,lim T 3,T / R256,v]
def row1 (S T v i:Nat) : List Nat:=[if 0 < i then lim S 0 else lim T 0,if 1 < i then lim S 1 else lim T 1,if 2 < i then lim S 2 else lim T 2,if 3 < i then lim S 3 else lim T 3,T / R256,v]
theorem row1_step (S T v i:Nat) (h:i < 4) : (row1 S T v i).set i (lim S i) = row1 S T v (i + 1):=by
 have : i = 0 ∨ i = 1 ∨ i = 2 ∨ i = 3:=by omega
 rcases this with rfl | rfl | rfl | rfl <;> rfl
theorem row1_get (S T v i:Nat) (h:i < 4) : (row1 S T v i).getD i 0 = lim T i:=by
 have : i = 0 ∨ i = 1 ∨ i = 2 ∨ i = 3:=by omega
 rcases this with rfl | rfl | rfl | rfl <;> rfl
def rowS (S:Nat) : List Nat:=[lim S 0,lim S 1,lim S 2,lim S 3,S / R256 % 18446744073709551616,S / R256 / 18446744073709551616]
theorem row1_four (S T v:Nat) : ((row1 S T v 4).set 4 (S / R256 % 18446744073709551616)).set 5 (S / R256 / 18446744073709551616) = rowS S:=rfl
def row2 (S W i:Nat) : List Nat:=[if 1 < i then lim W 1 else lim S 0,if 2 < i then lim W 2 else lim S 1,if 3 < i then lim W 3 else lim S 2,lim S 3,S / R256 % 18446744073709551616,S / R256 / 18446744073709551616]
theorem row2_one (S W:Nat) : row2 S W 1 = rowS S:=rfl
theorem row2_step (S W i:Nat) (h0:1 ≤ i) (h:i < 4) : (row2 S W i).set (i - 1) (lim W i) = row2 S W (i + 1):=by
 have : i = 1 ∨ i = 2 ∨ i = 3:=by omega
 rcases this with rfl | rfl | rfl <;> rfl
theorem row2_get (S W i:Nat) (h0:1 ≤ i) (h:i < 4) : (row2 S W i).getD i 0 = lim S i:=by
 have : i = 1 ∨ i = 2 ∨ i = 3:=by omega
 rcases this with rfl | rfl | rfl <;> rfl
theorem lim_succ (W j:Nat) : lim (W / 18446744073709551616) j = lim W (j + 1):=by
 rw [lim_eq,lim_eq,Nat.div_div_eq_div_mul,pw_succ,Nat.mul_comm]
theorem row2_four (S W Y:Nat) (hY:Y = W / R256) : ((row2 S W 4).set 3 (Y % 18446744073709551616)).set 4 (Y / 18446744073709551616) = rowT (W / 18446744073709551616) (S / R256 / 18446744073709551616):=by
 unfold rowT
 rw [lim_succ,lim_succ,lim_succ]
 have e1 : lim (W / 18446744073709551616) 3 = Y % 18446744073709551616:=by rw [lim_succ,lim_eq,pw4,hY]
 have e2 : W / 18446744073709551616 / R256 = Y / 18446744073709551616:=by rw [hY,Nat.div_div_eq_div_mul,Nat.div_div_eq_div_mul,Nat.mul_comm]
 rw [e1,e2]
 rfl
theorem lim0_mod (S:Nat) : lim S 0 = S % 18446744073709551616:=by rw [lim_eq,pw0,Nat.div_one]
theorem S_high {T x a:Nat} (hT:T < 2 * R256) (hx:x < 18446744073709551616) (ha:a < R256) : (T + x * a) / R256 ≤ 18446744073709551616:=by
 have h : x * a ≤ 18446744073709551615 * R256:=Nat.mul_le_mul (by omega) (by omega)
 have : (T + x * a) / R256 < 18446744073709551617:=by
  rw [Nat.div_lt_iff_lt_mul (by decide)]
  omega
 omega
end Go.Proofs.YtjpfhhndjpdmoaaGreatDoor
