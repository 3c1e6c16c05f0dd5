/- Part of the proof: NumK,CurveA. No conditions of its own. -/
import Derived.Stop.BytesEq
import Derived.Test.YtjpfhhndjpdmoaaGreatDoorF10
namespace Go.Proofs.YtjpfhhndjpdmoaaGreatDoor
open Go.RowKit
set_option linter.unusedVariables false
set_option linter.unusedSimpArgs false

/-! ### numbers held against one another -/
theorem all_range_eqN : ∀ (xs ys:List Nat),xs.length = ys.length → ((List.range xs.length).all fun i=>xs.getD i 0 == ys.getD i 0) = (xs == ys)
 | [],[],_=>rfl
 | x :: xs,y :: ys,h=>by
  have ih:=all_range_eqN xs ys (by simpa using h)
  rw [List.length_cons,List.range_succ_eq_map,List.all_cons,List.all_map]
  simp only [List.getD_cons_zero,Function.comp_def,List.getD_cons_succ,ih]
  simp [List.cons_beq_cons]
 | [],_ :: _,h=>by simp at h
 | _ :: _,[],h=>by simp at h
theorem run_equalIn_quads {P:Program} (w:World) (d:Nat) (t e:TypeId) (n:Nat) (ht:P.underlying t = some (.array n e)) (he:P.underlying e = some (.int .u64)) (hsz:∀ w,(sizeOf e).run P w = .ok 1 w)
  (xs ys:List Nat) (hx:xs.length = n) (hy:ys.length = n) :
  (Op.equalIn (d + 2) t (.agg (AQ xs)) (.agg (AQ ys))).run P w = .ok (xs == ys) w:=by
 unfold AQ
 rw [← all_range_eqN xs ys (hx.trans hy.symm),hx,List.range_eq_range',Op.equalIn]
 simp only [Sem.run_bind,run_underlying ht,Result.andThen_ok,hsz,Std.Legacy.Range.forIn_eq_forIn_range',Std.Legacy.Range.size,Nat.sub_zero,Nat.add_sub_cancel,Nat.div_one]
 have hl : ∀ i ∈ List.range' 0 n 1,i < n:=fun i hi=>by simpa using (List.mem_range'_1.1 hi).2
 generalize List.range' 0 n 1 = l at hl ⊢
 induction l with
 | nil=>simp
 | cons i l ih =>
  have hi : i < n:=hl i (by simp)
  have px : (part e (xs.map Q).toArray (i * 1)).run P w = .ok (Q (xs.getD i 0)) w:=by
   simp [part,isAgg,run_underlying he,List.getD,List.getElem?_eq_getElem (show i < xs.length by omega)]
  have py : (part e (ys.map Q).toArray (i * 1)).run P w = .ok (Q (ys.getD i 0)) w:=by
   simp [part,isAgg,run_underlying he,List.getD,List.getElem?_eq_getElem (show i < ys.length by omega)]
  have pe : (Op.equalIn (d + 1) e (Q (xs.getD i 0)) (Q (ys.getD i 0))).run P w = .ok (xs.getD i 0 == ys.getD i 0) w:=by
   rw [run_equalIn_int w d e .u64 .u64 _ _ he]
   congr 1
   rw [Bool.eq_iff_iff]
   simp
   omega
  simp only [List.forIn_cons,Sem.run_bind,px,py,pe,Result.andThen_ok,List.all_cons]
  cases hb : (xs.getD i 0 == ys.getD i 0)
  ·simp
  ·simp only [Bool.not_true,Bool.false_eq_true,if_false,Sem.run_pure,Result.andThen_ok,Bool.true_and]
   exact ih fun j hj=>hl j (by simp [hj])
theorem nL_inj {a b:Nat} (ha:a < R256) (hb:b < R256) (h:nL a = nL b) : a = b:=by
 have h1:=lim_sum0 a ha
 have h2:=lim_sum0 b hb
 unfold nL at h
 simp only [List.cons.injEq,and_true] at h
 obtain ⟨e0,e1,e2,e3⟩:=h
 rw [e0,e1,e2,e3] at h1
 omega
theorem equal_num (a b:Nat) (ha:a < R256) (hb:b < R256) (w:World) : (Op.equalIn 10000 177 (.agg (AQ (nL a))) (.agg (AQ (nL b)))).run Tryz.prog w = .ok (decide (a = b)) w:=by
 rw [run_equalIn_quads w 9998 177 49 4 Tryz.underlying177 Tryz.underlying49 (fun _=>by kernel_rfl) _ _ rfl rfl]
 congr 1
 rw [Bool.eq_iff_iff]
 simp only [beq_iff_eq,decide_eq_true_eq]
 exact ⟨nL_inj ha hb,fun h=>by rw [h]⟩
theorem zer4n : #[Value.int .u64 0,.int .u64 0,.int .u64 0,.int .u64 0] = AQ (nL 0):=by kernel_rfl
theorem one4n : #[Value.int .u64 1,.int .u64 0,.int .u64 0,.int .u64 0] = AQ (nL 1):=by kernel_rfl
theorem equal_num0 (a:Nat) (ha:a < R256) (w:World) : (Op.equalIn 10000 177 (.agg (AQ (nL a))) (.agg #[.int .u64 0,.int .u64 0,.int .u64 0,.int .u64 0])).run Tryz.prog w = .ok (decide (a = 0)) w:=by
 rw [zer4n]; exact equal_num a 0 ha (by decide) w
theorem equal_num1 (a:Nat) (ha:a < R256) (w:World) : (Op.equalIn 10000 177 (.agg (AQ (nL a))) (.agg #[.int .u64 1,.int .u64 0,.int .u64 0,.int .u64 0])).run Tryz.prog w = .ok (decide (a = 1)) w:=by
 rw [one4n]; exact equal_num a 1 ha (by decide) w

/-! ### regions -/
theorem at_world {P:Program} {c:Code} {Q:Exit → Act → World → Prop} {a:Act} {E:World} (K:World → Prop) (hK:K E) (h:∀ W,K W → c.wp P Q a W) : c.wp P Q a E:=h E hK
section
variable {P:Program} {ops:Array Oper} {Q:Exit → Act → World → Prop}
def textB (ops:Array Oper) : Nat → Nat → Array Bool → Bool
 | 0,_,_=>true
 | f + 1,k,listed=>(Region.ready .any ops listed).contains k && textB ops f (k + 1) (listed.setIfInBounds k true)
theorem wpList_of_any : ∀ (l:List Oper) (k:Nat) (listed:Array Bool) (a:Act) (w:World),(∀ j,l[j]? = ops[k + j]?) → textB ops l.length k listed = true →
  wpAny P .any ops Q l.length listed a w → wpList P ops Q l a w
 | [],_,_,_,_,_,_,h=>h.2
 | o :: l,k,listed,a,w,hl,hB,h=>by
  have h0 : ops[k]? = some o:=by simpa using (hl 0).symm
  simp only [List.length_cons,textB,Bool.and_eq_true] at hB
  have hk : k ∈ Region.ready .any ops listed:=by simpa using hB.1
  have h1:=wpOp_mono (fun a' w' h'=>wpList_of_any l (k + 1) _ a' w' (fun j=>by have:=hl (j + 1); simpa [Nat.add_assoc,Nat.add_comm 1 j] using this) hB.2 h') (h.2 k hk)
  unfold wpOp at h1
  simp only [h0] at h1
  exact h1
theorem wpAny_alloc {a:Act} {W:World} {l:List Oper} (n:Nat) (ks1 ks2:List Nat) (l1:List Oper) (ob:Nat → Obj)
  (hB:allocB .any l.toArray n ks1 ks2 = true) (hl:ks1.map (fun k=>l.toArray[k]?) = l1.map some) (hal:∀ k,k ∈ ks2 → ∀ o,l.toArray[k]? = some o → AlF P l.toArray o (ob k)) (hd:dstB l1 a.tmps.size = true)
  (h:∃ aF,(∀ R,wpQuiet P l.toArray (CC W R) (fun a'=>a' = aF) l1 a) ∧ wpAl l.toArray W ob (fun a' R=>∀ w',CC W R w' → wpList P l.toArray Q (l.drop n) a' w') ks2 aF (fun _=>none)) :
  wpAny P .any l.toArray Q l.toArray.size (Array.replicate l.toArray.size false) a W:=by
 simp only [allocB,Bool.and_eq_true,decide_eq_true_eq,List.all_eq_true,List.mem_range] at hB
 obtain ⟨⟨⟨⟨⟨⟨hsel,hn⟩,hs⟩,hc⟩,hpi⟩,hlen⟩,hin⟩:=hB
 obtain ⟨aF,hq,hA⟩:=h
 have hn' : n < l.length:=by simpa using hn
 have hdl : (l.drop n).length = l.toArray.size - n:=by simp
 have inv0 : HeadInv .any l.toArray n (Array.replicate l.toArray.size false) :=
  ⟨by simp,fun j oj _ hl=>(by rw [getD_replicate_false] at hl; cases hl),fun t _ ht=>getD_in (by simpa using ht) (getD_replicate_false _ _)⟩
 have hal' : ∀ j o,j < n → l.toArray[j]? = some o → isAl o = true → AlF P l.toArray o (ob j):=fun j o hjn hj ha=>by
  have h1:=hin j hjn
  rw [alAt_some hj,ha] at h1
  exact hal j (by simpa using h1) o hj
 have H:=wpAnyA_pi (P:=P) (md:=.any) (W:=W) (ob:=ob) (g:=l.toArray.size - n) (Lq:=fun a' R=>∀ w',CC W R w' → wpList P l.toArray Q (l.drop n) a' w') (ks2:=ks2) hsel hs hc hn (R:=fun _=>none) ks1 _ a inv0 hpi
  (wpQR_of (P:=P) (W:=W) (aF:=aF) hA ks1 l1 a hl hd hq)
 have:=wpAny_of_A (P:=P) (Q':=Q) (g:=l.toArray.size - n) hal' (fun listed a' R w' hw' hL=>by
  have:=wpAny_of_seq (md:=.any) (Q':=Q) (l.drop n) n listed a' w' (fun j=>by simp [List.getElem?_drop]) (by rw [hdl]; exact hL.1) (hL.2 w' hw')
  rwa [hdl] at this) _ _ _ _ W (⟨Below.refl _ _,fun g o hg=>by cases hg⟩ : CC W (fun _=>none) W) H
 rw [hlen,show n + (l.toArray.size - n) = l.toArray.size by omega] at this
 exact this
theorem wpList_of_quiet {C:World → Prop} {rest:List Oper} : ∀ (l:List Oper) (a:Act) (w:World),C w → wpQuiet P ops C (fun a'=>∀ w',C w' → wpList P ops Q rest a' w') l a → wpList P ops Q (l ++ rest) a w
 | [],a,w,hw,h=>h w hw
 | o :: l,a,w,hw,h=>by
  unfold wpQuiet at h
  rw [List.cons_append]
  unfold wpList
  split at h
  ·rename_i hwa
   rw [if_pos hwa]
   exact .inl (Oper.wp_of_quiet hw (fun a' w' hw' hk=>wpList_of_quiet l a' w' hw' hk) h)
  ·rename_i hwa
   rw [if_neg hwa]
   exact wpList_of_quiet l _ w hw h
theorem wp_region_lex {id:Nat} {a:Act} {w:World} {l:List Oper} (n:Nat)
  (h:wpQuiet P l.toArray (CC w (fun _=>none)) (fun a'=>∀ w',CC w (fun _=>none) w' → wpList P l.toArray Q (l.drop n) a' w') (l.take n) a) : (Code.region id l.toArray false).wp P Q a w:=by
 refine wp_region_lit ?_
 have:=wpList_of_quiet (P:=P) (ops:=l.toArray) (Q:=Q) (rest:=l.drop n) (l.take n) a w (⟨Below.refl _ _,fun g o hg=>by cases hg⟩ : CC w (fun _=>none) w) h
 rwa [List.take_append_drop] at this
theorem wp_region_num {id:Nat} {a:Act} {w:World} {o0:Oper} {l:List Oper} (n:Nat) (ks1 ks2:List Nat) (ob:Nat → Obj)
  (hB:allocB .any (o0 :: l).toArray n ks1 ks2 = true) (hT:textB (o0 :: l).toArray (o0 :: l).length 0 (Array.replicate (o0 :: l).length false) = true) (hk:ks1.all (fun k=>decide (k < (o0 :: l).length)) = true) (hd:dstB (ks1.map (fun k=>(o0 :: l).getD k o0)) a.tmps.size = true) (hal:∀ k,k ∈ ks2 → ∀ o,(o0 :: l).toArray[k]? = some o → AlF P (o0 :: l).toArray o (ob k))
  (h:∃ aF,(∀ R,wpQuiet P (o0 :: l).toArray (CC w R) (fun a'=>a' = aF) (ks1.map (fun k=>(o0 :: l).getD k o0)) a) ∧ wpAl (o0 :: l).toArray w ob (fun a' R=>∀ w',CC w R w' → wpList P (o0 :: l).toArray Q ((o0 :: l).drop n) a' w') ks2 aF (fun _=>none)) :
  (Code.region id (o0 :: l).toArray false).wp P Q a w:=by
 have:=wpAny_alloc (P:=P) (Q:=Q) n ks1 ks2 _ ob hB (picks_map o0 ks1 hk) hal hd h
 refine wp_region_lit (wpList_of_any (ops:=(o0 :: l).toArray) (o0 :: l) 0 (Array.replicate (o0 :: l).length false) a w (fun j=>by rw [Nat.zero_add]; simp) hT ?_)
 simpa using this
end
theorem qa_pure {P:Program} {W:World} {R:Fresh} {o:Oper} {a:Act} {K:Act → Prop} (v:Value) (hrun:∀ w,(execOp a.eval o).run P w = .ok (.value v) w) (hk:K (a.put o.dst v)) : o.quiet P a (CC W R) K:=by
 refine ⟨v,fun w' hw'=>?_,hk⟩
 unfold Oper.quietAt
 rw [hrun]
 exact ⟨rfl,rfl⟩
theorem wpAl_consP {ops:Array Oper} {W:World} {ob:Nat → Obj} {Lq:Act → Fresh → Prop} {k:Nat} {ks:List Nat} {a:Act} {R:Fresh} {o:Oper} (ho:ops[k]? = some o)
  (h:∀ g,W.heap.size ≤ g → R g = none → wpAl ops W ob Lq ks (a.put o.dst (.pointer (some ⟨g,0,none⟩))) (upd R g (ob k))) : wpAl ops W ob Lq (k :: ks) a R:=wpAl_cons ho h
theorem alF_of {P:Program} {ops:Array Oper} {dst:Option Tmp} {ty t:TypeId} {pos:String} {after:Array Edge} (cs:Array Value) (h:∀ (ρ : Operand → Value) (w:World),(execOp ρ { dst,op:=.alloc ty,type:=t,pos,after,guard:=none }).run P w = .ok (.value (ptr w.heap.size)) (w.alloc (.cells cs ty))) :
  AlF P ops { dst,op:=.alloc ty,type:=t,pos,after,guard:=none } (.cells cs ty):=⟨fun _=>rfl,h⟩

/-! ### rows of numbers,triples,points -/
def t3C (x y z:Nat) : Array Value:=AQ (nL x ++ (nL y ++ nL z))
def ptC (a b:List UInt8) : Array Value:=AB (a ++ b)
theorem t3C_size (x y z:Nat) : (t3C x y z).size = 12:=rfl
theorem t3C_one (x y z:Nat) : allOne (t3C x y z) = true:=AQ_one _
theorem t3C_x (x y z:Nat) : sub (t3C x y z) 0 4 = AQ (nL x):=by unfold t3C sub AQ; rfl
theorem t3C_y (x y z:Nat) : sub (t3C x y z) 4 4 = AQ (nL y):=by unfold t3C sub AQ; rfl
theorem t3C_z (x y z:Nat) : sub (t3C x y z) 8 4 = AQ (nL z):=by unfold t3C sub AQ; rfl
theorem t3C_all (x y z:Nat) : sub (t3C x y z) 0 12 = t3C x y z:=sub_all _ _ rfl
theorem over_num (x y:Nat) : over (AQ (nL x)) 0 (AQ (nL y)) = AQ (nL y):=over_all _ _ rfl
theorem over_t3 (x y z a b c:Nat) : over (t3C x y z) 0 (t3C a b c) = t3C a b c:=over_all _ _ rfl
theorem over_lit4 (a b c d:Value) (x:Nat) : over #[a,b,c,d] 0 (AQ (nL x)) = AQ (nL x):=over_all _ _ rfl
theorem t3C_zero : t3C 0 0 0 = #[.int .u64 0,.int .u64 0,.int .u64 0,.int .u64 0,.int .u64 0,.int .u64 0,.int .u64 0,.int .u64 0,.int .u64 0,.int .u64 0,.int .u64 0,.int .u64 0]:=by kernel_rfl
theorem nAQ_zero : AQ (nL 0) = #[.int .u64 0,.int .u64 0,.int .u64 0,.int .u64 0]:=by kernel_rfl
theorem rowZ (w:World) (g:Nat) (t:TypeId) (h:g = w.heap.size) : Row (w.alloc (.cells #[.int .u64 0,.int .u64 0,.int .u64 0,.int .u64 0] t)) g t (AQ (nL 0)):=by rw [nAQ_zero]; exact Row.newAt _ _ _ _ h
theorem rowZ3 (w:World) (g:Nat) (t:TypeId) (h:g = w.heap.size) : Row (w.alloc (.cells #[.int .u64 0,.int .u64 0,.int .u64 0,.int .u64 0,.int .u64 0,.int .u64 0,.int .u64 0,.int .u64 0,.int .u64 0,.int .u64 0,.int .u64 0,.int .u64 0] t)) g t (t3C 0 0 0):=by rw [t3C_zero]; exact Row.newAt _ _ _ _ h
def fC (g:Nat) : Array Value:=#[.pointer (some ⟨g,0,none⟩)]
theorem fC_ptr (g:Nat) : (fC g)[0]? = some (.pointer (some ⟨g,0,none⟩)):=rfl
def HasP (cs:Array Value) (off n:Nat) (v:Array Value) : Prop:=off + n ≤ cs.size ∧ sub cs off n = v
theorem hp_num (x:Nat) : HasP (AQ (nL x)) 0 4 (AQ (nL x)):=⟨Nat.le_refl 4,sub_nL x⟩
theorem hp_tx (x y z:Nat) : HasP (t3C x y z) 0 4 (AQ (nL x)):=⟨by rw [t3C_size]; decide,t3C_x x y z⟩
theorem hp_ty (x y z:Nat) : HasP (t3C x y z) 4 4 (AQ (nL y)):=⟨by rw [t3C_size]; decide,t3C_y x y z⟩
theorem hp_tz (x y z:Nat) : HasP (t3C x y z) 8 4 (AQ (nL z)):=⟨by rw [t3C_size]; decide,t3C_z x y z⟩
theorem hp_t (x y z:Nat) : HasP (t3C x y z) 0 12 (t3C x y z):=⟨by rw [t3C_size]; decide,t3C_all x y z⟩
theorem hp_f (g:Nat) : HasP (fC g) 0 1 (fC g):=⟨Nat.le_refl 1,sub_all _ _ rfl⟩
theorem hp_b {l:List UInt8} {n:Nat} (h:l.length = n) : HasP (AB l) 0 n (AB l):=⟨by rw [AB_size]; omega,sub_all _ _ (by rw [AB_size]; exact h)⟩
theorem hp_pa {a b:List UInt8} (ha:a.length = 32) (hb:b.length = 32) : HasP (ptC a b) 0 32 (AB a):=⟨by unfold ptC; rw [AB_size]; simp; omega,by unfold ptC; rw [sub_AB]; simp [ha]⟩
theorem hp_pb {a b:List UInt8} (ha:a.length = 32) (hb:b.length = 32) : HasP (ptC a b) 32 32 (AB b):=⟨by unfold ptC; rw [AB_size]; simp; omega,by unfold ptC; rw [sub_AB]; congr 1; rw [show (32 : Nat) = a.length from ha.symm,List.drop_left,ha,List.take_of_length_le (by omega)]⟩
theorem hp_p {a b:List UInt8} (ha:a.length = 32) (hb:b.length = 32) : HasP (ptC a b) 0 64 (ptC a b):=⟨by unfold ptC; rw [AB_size]; simp; omega,sub_all _ _ (by unfold ptC; rw [AB_size]; simp; omega)⟩
theorem ptC_size {a b:List UInt8} (ha:a.length = 32) (hb:b.length = 32) : (ptC a b).size = 64:=by unfold ptC; rw [AB_size]; simp; omega
theorem ptC_one (a b:List UInt8) : allOne (ptC a b) = true:=allOne_AB _
def AggT (P:Program) (ty:TypeId) (n:Nat) : Prop:=(∀ w,(isAgg ty).run P w = .ok true w) ∧ ∀ w,(sizeOf ty).run P w = .ok n w
def OneT (P:Program) (ty:TypeId) : Prop:=∀ w,(isAgg ty).run P w = .ok false w
theorem at_num : AggT Tryz.prog 177 4:=⟨fun _=>by kernel_rfl,fun _=>by kernel_rfl⟩
theorem at_t3 : AggT Tryz.prog 247 12:=⟨fun _=>by kernel_rfl,fun _=>by kernel_rfl⟩
theorem at_f : AggT Tryz.prog 243 1:=⟨fun _=>by kernel_rfl,fun _=>by kernel_rfl⟩
theorem at_b32 : AggT Tryz.prog 24 32:=⟨fun _=>by kernel_rfl,fun _=>by kernel_rfl⟩
theorem at_pt : AggT Tryz.prog 169 64:=⟨fun _=>by kernel_rfl,fun _=>by kernel_rfl⟩
theorem ot_mod : OneT Tryz.prog 175:=fun _=>by kernel_rfl
section
variable {P:Program} {W:World} {R:Fresh} {o:Oper} {a:Act} {K:Act → Prop}
theorem qn_load {ty:TypeId} {x:Operand} {g off n:Nat} {t:TypeId} {cs v:Array Value} (hT:AggT P ty n) (ho:o.op = .load ty x) (hx:a.eval x = .pointer (some ⟨g,off,none⟩)) (hr:Row W g t cs) (hv:HasP cs off n v) (hk:K (a.put o.dst (.agg v))) : o.quiet P a (CC W R) K :=
 qa_loadA ty x ho g off hx t cs hr hT.1 n hT.2 hv.1 v hv.2 hk
theorem qn_load1 {ty:TypeId} {x:Operand} {g off:Nat} {t:TypeId} {cs:Array Value} {v:Value} (hT:OneT P ty) (ho:o.op = .load ty x) (hx:a.eval x = .pointer (some ⟨g,off,none⟩)) (hr:Row W g t cs) (hv:cs[off]? = some v) (hk:K (a.put o.dst v)) : o.quiet P a (CC W R) K :=
 qa_load1 ty x ho g off hx t cs hr hT v hv hk
end
attribute [go_sem] over_lit4 t3C_size t3C_one t3C_x t3C_y t3C_z t3C_all over_num over_t3 nL_size sub_nL AQ_one equal_num equal_num0 equal_num1

/-! ### the contracts of a modulus -/
section
variable {w:World} {g m neg ri a b x:Nat}
theorem addM_lt (h:0 < m) : addM m a b < m:=Nat.mod_lt _ h
theorem subM_lt (h:0 < m) : subM m a b < m:=Nat.mod_lt _ h
theorem mulM_lt (h:0 < m) : mulM m a b < m:=Nat.mod_lt _ h
theorem MdS.pos (h:MdS m neg ri) : 0 < m:=by have:=h.big; omega
theorem mul_x (h:ModW w g m neg ri) (ha:a < R256) (hb:b < R256) (hx:x = mulM m a b) : Calls Tryz.prog 95 #[.pointer (some ⟨g,0,none⟩),.agg (AQ (nL a)),.agg (AQ (nL b))] w fun e w'=>e = .returned (.agg (AQ (nL x))) ∧ Below w.heap.size w w':=by
 subst hx; exact mul_any w g m neg ri a b h ha hb
theorem add_x (h:ModW w g m neg ri) (ha:a < R256) (hb:b < R256) (hx:x = addM m a b) : Calls Tryz.prog 96 #[.pointer (some ⟨g,0,none⟩),.agg (AQ (nL a)),.agg (AQ (nL b))] w fun e w'=>e = .returned (.agg (AQ (nL x))) ∧ Below w.heap.size w w':=by
 subst hx; exact add_any w g m neg ri a b h ha hb
theorem sub_x (h:ModW w g m neg ri) (ha:a < R256) (hb:b < R256) (hx:x = subM m a b) : Calls Tryz.prog 150 #[.pointer (some ⟨g,0,none⟩),.agg (AQ (nL a)),.agg (AQ (nL b))] w fun e w'=>e = .returned (.agg (AQ (nL x))) ∧ Below w.heap.size w w':=by
 subst hx; exact sub_any w g m neg ri a b h ha hb
theorem rest_x (h:ModW w g m neg ri) (ha:a < R256) (hx:x = a % m) : Calls Tryz.prog 92 #[.pointer (some ⟨g,0,none⟩),.agg (AQ (nL a))] w fun e w'=>e = .returned (.agg (AQ (nL x))) ∧ Below w.heap.size w w':=by
 subst hx; exact rest_any w g m neg ri a h ha
end
end Go.Proofs.YtjpfhhndjpdmoaaGreatDoor

namespace Go.Proofs.YtjpfhhndjpdmoaaGreatDoor
open Go.RowKit
set_option linter.unusedVariables false
set_option linter.unusedSimpArgs false

def twM (m a:Nat) : Nat:=addM m a a
def thM (m a:Nat) : Nat:=addM m (addM m a a) a
theorem twM_lt {m a:Nat} (h:0 < m) : twM m a < m:=addM_lt h
theorem thM_lt {m a:Nat} (h:0 < m) : thM m a < m:=addM_lt h
set_option maxRecDepth 100000 in
set_option maxHeartbeats 4000000 in
theorem twice_x {w:World} {g m neg ri a x:Nat} (hM:ModW w g m neg ri) (ha:a < R256) (hx:x = twM m a) : Calls Tryz.prog 183 #[.agg (fC g),.agg (AQ (nL a))] w fun e w'=>e = .returned (.agg (AQ (nL x))) ∧ Below w.heap.size w w':=by
 have HM:=Lib.hid (show ∀ W,Below w.heap.size w W → ModW W g m neg ri from fun W hb=>hM.below hb)
 have HP:=Lib.hid hM.md.pos
 have HL:=Lib.hid hM.md.low
 clear hM
 have b_a:=ha
 have HX:=Lib.hid hx
 clear ha hx
 go_enter Tryz.func183,Tryz.ntmps183
 go_upto_region 1 with (fail)
 refine at_world (fun W=>Row W w.heap.size 243 (fC g) ∧ Row W (w.heap.size + 1) 177 (AQ (nL a)) ∧ Row W (w.heap.size + 1 + 1) 177 (AQ (nL 0)) ∧ Below w.heap.size w W) (⟨(((Row.newAt _ _ _ _ rfl).alloc _).alloc _),((Row.newAt _ _ _ _ (by simp)).alloc _),(by rw [nAQ_zero]; exact (Row.newAt _ _ _ _ (by simp))),((((Below.refl _ w).alloc (Nat.le_refl _) _).alloc (by simp) _).alloc (by simp; omega) _)⟩) ?_
 rintro W1 ⟨i1_2,i1_3,i1_4,hB1⟩
 obtain ⟨x9,h9⟩ : ∃ x,x = addM m a a:=⟨_,rfl⟩
 have b_x9 : x9 < R256:=by rw [h9]; exact Nat.lt_trans (addM_lt HP.out) HL.out
 have H9:=Lib.hid h9
 clear h9
 refine wp_region_num 5 [0,1,2,3,4] [] (fun _=>.cells #[] 0) (by kernel_rfl) (by kernel_rfl) (by kernel_rfl) (by kernel_rfl) ?hal ?h
 case hal =>
  intro k hk o ho
  cases hk
 case h =>
 apply Exists.intro
 refine ⟨fun R=>?_,?_⟩
 ·simp only [List.map_cons,List.map_nil,List.getD_cons_zero,List.getD_cons_succ]
  (first | go_big_quiet_skip | (go_big_quiet_want; go_big_quiet_op; first | go_big_quiet_on | (refine ⟨_,fun _ _=>rfl,?_⟩; go_big_quiet_on)))
  (go_big_quiet_want; apply qn_load1 ot_mod rfl rfl i1_2 (fC_ptr g); (simp only [Act.put,lS]; go_big_quiet_on))
  (go_big_quiet_want; apply qn_load at_num rfl rfl i1_3 (hp_num a); (simp only [Act.put,lS]; go_big_quiet_on))
  (go_big_quiet_want; apply qn_load at_num rfl rfl i1_3 (hp_num a); (simp only [Act.put,lS]; go_big_quiet_on))
  (go_big_quiet_want; refine qa_call _ _ ?_ _ (fun w' hb=>add_x (HM.out _ (hB1.trans (hb.mono hB1.size))) b_a b_a H9.out) ?_; (focus (intro w; simp [go_sem]; done)); (simp only [Act.put,lS]; go_big_quiet_on))
  exact wpQuiet_nil rfl
 ·intro w2 hcc
  replace i1_2:=i1_2.below hcc.1 i1_2.lt
  replace i1_3:=i1_3.below hcc.1 i1_3.lt
  replace i1_4:=i1_4.below hcc.1 i1_4.lt
  have hg_le : w.heap.size ≤ w2.heap.size:=Nat.le_trans hB1.size hcc.1.size
  replace hB1:=hB1.trans (hcc.1.mono hB1.size)
  clear hcc hg_le
  have lt_4:=i1_4.lt
  go_wp2_with fail
  exact ret_row (by first | exact .inl rfl | exact .inr rfl) rfl ((w.heap.size + 1 + 1)) 177 (AQ (nL x9)) 4 _ rfl (i1_4.setRow _) Tryz.underlying177 rfl (by kernel_rfl) rfl ⟨by rw [HX.out,twM]; rw [H9.out],(bSetRow hB1 (by omega) _)⟩
set_option maxRecDepth 100000 in
set_option maxHeartbeats 4000000 in
theorem thrice_x {w:World} {g m neg ri a x:Nat} (hM:ModW w g m neg ri) (ha:a < R256) (hx:x = thM m a) : Calls Tryz.prog 182 #[.agg (fC g),.agg (AQ (nL a))] w fun e w'=>e = .returned (.agg (AQ (nL x))) ∧ Below w.heap.size w w':=by
 have HM:=Lib.hid (show ∀ W,Below w.heap.size w W → ModW W g m neg ri from fun W hb=>hM.below hb)
 have HP:=Lib.hid hM.md.pos
 have HL:=Lib.hid hM.md.low
 clear hM
 have b_a:=ha
 have HX:=Lib.hid hx
 clear ha hx
 go_enter Tryz.func182,Tryz.ntmps182
 go_upto_region 1 with (fail)
 refine at_world (fun W=>Row W w.heap.size 243 (fC g) ∧ Row W (w.heap.size + 1) 177 (AQ (nL a)) ∧ Row W (w.heap.size + 1 + 1) 177 (AQ (nL 0)) ∧ Below w.heap.size w W) (⟨(((Row.newAt _ _ _ _ rfl).alloc _).alloc _),((Row.newAt _ _ _ _ (by simp)).alloc _),(by rw [nAQ_zero]; exact (Row.newAt _ _ _ _ (by simp))),((((Below.refl _ w).alloc (Nat.le_refl _) _).alloc (by simp) _).alloc (by simp; omega) _)⟩) ?_
 rintro W1 ⟨i1_2,i1_3,i1_4,hB1⟩
 replace i1_2:=i1_2.drew
 replace i1_3:=i1_3.drew
 replace i1_4:=i1_4.drew
 replace hB1:=hB1.drew
 obtain ⟨x11,h11⟩ : ∃ x,x = addM m a a:=⟨_,rfl⟩
 have b_x11 : x11 < R256:=by rw [h11]; exact Nat.lt_trans (addM_lt HP.out) HL.out
 have H11:=Lib.hid h11
 clear h11
 obtain ⟨x13,h13⟩ : ∃ x,x = addM m x11 a:=⟨_,rfl⟩
 have b_x13 : x13 < R256:=by rw [h13]; exact Nat.lt_trans (addM_lt HP.out) HL.out
 have H13:=Lib.hid h13
 clear h13
 refine wp_region_allocs 9 [0,1,2,3,4,5,6,7,8] [] (fun _=>.cells #[] 0) (by kernel_rfl) (by kernel_rfl) (by kernel_rfl) (by kernel_rfl) ?hal ?h
 case hal =>
  intro k hk o ho
  cases hk
 case h =>
 apply Exists.intro
 refine ⟨fun R=>?_,?_⟩
 ·simp only [List.map_cons,List.map_nil,List.getD_cons_zero,List.getD_cons_succ]
  (first | go_big_quiet_skip | (go_big_quiet_want; go_big_quiet_op; first | go_big_quiet_on | (refine ⟨_,fun _ _=>rfl,?_⟩; go_big_quiet_on)))
  (go_big_quiet_want; apply qn_load1 ot_mod rfl rfl i1_2 (fC_ptr g); (simp only [Act.put,lS]; go_big_quiet_on))
  (first | go_big_quiet_skip | (go_big_quiet_want; go_big_quiet_op; first | go_big_quiet_on | (refine ⟨_,fun _ _=>rfl,?_⟩; go_big_quiet_on)))
  (go_big_quiet_want; apply qn_load1 ot_mod rfl rfl i1_2 (fC_ptr g); (simp only [Act.put,lS]; go_big_quiet_on))
  (go_big_quiet_want; apply qn_load at_num rfl rfl i1_3 (hp_num a); (simp only [Act.put,lS]; go_big_quiet_on))
  (go_big_quiet_want; apply qn_load at_num rfl rfl i1_3 (hp_num a); (simp only [Act.put,lS]; go_big_quiet_on))
  (go_big_quiet_want; refine qa_call _ _ ?_ _ (fun w' hb=>add_x (HM.out _ (hB1.trans (hb.mono hB1.size))) b_a b_a H11.out) ?_; (focus (intro w; simp [go_sem]; done)); (simp only [Act.put,lS]; go_big_quiet_on))
  (go_big_quiet_want; apply qn_load at_num rfl rfl i1_3 (hp_num a); (simp only [Act.put,lS]; go_big_quiet_on))
  (go_big_quiet_want; refine qa_call _ _ ?_ _ (fun w' hb=>add_x (HM.out _ (hB1.trans (hb.mono hB1.size))) b_x11 b_a H13.out) ?_; (focus (intro w; simp [go_sem]; done)); (simp only [Act.put,lS]; go_big_quiet_on))
  exact wpQuiet_nil rfl
 ·intro w2 hcc
  replace i1_2:=i1_2.below hcc.1 i1_2.lt
  replace i1_3:=i1_3.below hcc.1 i1_3.lt
  replace i1_4:=i1_4.below hcc.1 i1_4.lt
  have hg_le : w.heap.size ≤ w2.heap.size:=Nat.le_trans hB1.size hcc.1.size
  replace hB1:=hB1.trans (hcc.1.mono hB1.size)
  clear hcc hg_le
  have lt_4:=i1_4.lt
  go_wp2_with fail
  exact ret_row (by first | exact .inl rfl | exact .inr rfl) rfl ((w.heap.size + 1 + 1)) 177 (AQ (nL x13)) 4 _ rfl (i1_4.setRow _) Tryz.underlying177 rfl (by kernel_rfl) rfl ⟨by rw [HX.out,thM]; rw [H13.out,H11.out],(bSetRow hB1 (by omega) _)⟩
end Go.Proofs.YtjpfhhndjpdmoaaGreatDoor
