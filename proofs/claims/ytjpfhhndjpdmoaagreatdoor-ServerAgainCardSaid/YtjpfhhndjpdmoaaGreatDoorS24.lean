/- Part of the proof: MacLab,CurveG,CurveH,SignA,Repeat. No conditions of its own. -/
import Derived.Lib.AppendStr
import Derived.Test.YtjpfhhndjpdmoaaGreatDoorS23
import Derived.Lib.MakeNoZero
namespace Go.Proofs.YtjpfhhndjpdmoaaGreatDoor
open Go.RowKit
set_option linter.unusedVariables false
set_option linter.unusedSimpArgs false

def preS : List UInt8:=[116,108,115,49,51,32]
def labI (ls ctx:List UInt8) (n:Nat) : List UInt8:=[UInt8.ofNat (n / 256),UInt8.ofNat n,UInt8.ofNat (preS ++ ls).length] ++ (preS ++ ls) ++ [UInt8.ofNat ctx.length] ++ ctx
def labS (key ls ctx:List UInt8) (n:Nat) : List UInt8:=expS key (labI ls ctx n) n
theorem OwnW.addr {w:World} {B0:Nat} {v:Value} {l:List UInt8} (h:OwnW w B0 v l) : ∀ ad,addrV v = some ad → ad.block < w.heap.size:=fun ad had=>by
 rcases h with ⟨rfl,_⟩ | ⟨b,o,cap,cur,rfl,_,hr,_⟩
 ·cases had
 ·obtain rfl:=Option.some.inj had
  exact hr.lt
theorem u8wr (n:Nat) (k:Int) (h:k = (n:Int)) : IntKind.u8.wrap k = ((UInt8.ofNat n).toNat : Int):=by rw [h]; exact u8wrapS n
end Go.Proofs.YtjpfhhndjpdmoaaGreatDoor

namespace Go.Proofs.YtjpfhhndjpdmoaaGreatDoor
open Go.RowKit
set_option linter.unusedVariables false
set_option linter.unusedSimpArgs false

theorem equal_b32 (xs ys:List UInt8) (hx:xs.length = 32) (hy:ys.length = 32) (w:World) :
  (Op.equalIn 10000 24 (.agg (AB xs)) (.agg (AB ys))).run Tryz.prog w = .ok (xs == ys) w :=
 run_equalIn_bytes w 9998 24 5 32 Tryz.underlying24 Tryz.underlying5 (fun _=>by kernel_rfl) xs ys hx hy
theorem run_neq32 {ρ : Operand → Value} {dst:Option Tmp} {x y:Operand} {ty type:TypeId} {pos:String} {after:Array Edge} {guard:Option (Nat × Bool)} {a b:List UInt8} (ha:a.length = 32) (hb:b.length = 32) (hne:(a == b) = false) (hx:ρ x = .agg (AB a)) (hy:ρ y = .agg (AB b)) (w:World) :
  (execOp ρ { dst,op:=.binOp .neq 24 x y ty,type,pos,after,guard }).run Tryz.prog w = .ok (.value (.bool true)) w:=by
 unfold execOp
 simp only [hx,hy]
 simp [go_sem,equal_b32 a b ha hb,hne]

theorem OwnW.low {w:World} {B0 B1:Nat} {v:Value} {l:List UInt8} (h:OwnW w B0 v l) (hb:B1 ≤ B0) : OwnW w B1 v l:=by
 rcases h with h | ⟨b,o,cap,cur,h1,h2,h3⟩
 ·exact .inl h
 ·exact .inr ⟨b,o,cap,cur,h1,Nat.le_trans hb h2,h3⟩
end Go.Proofs.YtjpfhhndjpdmoaaGreatDoor

namespace Go.Proofs.YtjpfhhndjpdmoaaGreatDoor
open Go.RowKit
set_option linter.unusedVariables false
set_option linter.unusedSimpArgs false

theorem OwnW.part {w:World} {B0:Nat} {v:Value} {l m:List UInt8} {k:Nat} (h:OwnW w B0 v l) (hm:(l.drop k).take m.length = m) (hl:k + m.length ≤ l.length) (h0:0 < m.length) :
  ∃ b o cap cur,v = .slice (some ⟨b,o,none⟩) l.length cap ∧ Row w b 5 cur ∧ l.length ≤ cap ∧ cap ≤ maxLen ∧ HasP cur (o + k) m.length (AB m):=by
 rcases h with ⟨rfl,rfl⟩ | ⟨b,o,cap,cur,rfl,_,hr,h1,h2,h3,h4⟩
 ·exact absurd hl (by simp only [List.length_nil]; omega)
 ·refine ⟨b,o,cap,cur,rfl,hr,h1,h3,by omega,?_⟩
  apply Array.ext
  ·simp only [sub,Array.size_extract,AB_size]; omega
  ·intro i hi1 hi2
   have hi : i < m.length:=by rw [AB_size] at hi2; exact hi2
   have e1:=h4 (k + i) (by omega)
   have e2 : gb l (k + i) = gb m i:=by
    have : gb ((l.drop k).take m.length) i = gb l (k + i):=by
     unfold gb
     rw [List.getD_eq_getElem?_getD,List.getD_eq_getElem?_getD,List.getElem?_take,if_pos hi,List.getElem?_drop]
    rw [← this,hm]
   rw [e2] at e1
   have e3 : (sub cur (o + k) m.length)[i]? = (AB m)[i]?:=by
    rw [AB_get m i hi]
    unfold sub
    rw [Array.getElem?_extract,if_pos (by omega),← e1,Nat.add_assoc]
   rw [Array.getElem?_eq_getElem hi1,Array.getElem?_eq_getElem hi2] at e3
   exact Option.some.inj e3
end Go.Proofs.YtjpfhhndjpdmoaaGreatDoor

namespace Go.Proofs.YtjpfhhndjpdmoaaGreatDoor
open Go.RowKit
set_option linter.unusedVariables false
set_option linter.unusedSimpArgs false

theorem of_be {w:World} {a:Nat} (ha:a < R256) : Calls Tryz.prog 93 #[.agg (AB (be32 a))] w fun e w'=>e = .returned (.agg (AQ (nL a))) ∧ Below w.heap.size w w':=by
 have:=of_any w (be32 a) (be32_len a)
 rw [natB_be32 ha] at this
 exact this
theorem ret_Trow {P:Program} {fn:Func} {p q:Tmp} {ty:TypeId} {tmps:Array Value} {w:World} {R:Ending → World → Prop} {e:Exit} (he:e = .ret ∨ e = .normal) (h:fn.results = #[.tmp q,.cell p ty]) (g:Nat) (t:TypeId) (cs:Array Value) (n:Nat) (d:TypeDesc) (v:Value)
  (hp:tmps.getD p undef = .pointer (some ⟨g,0,none⟩)) (hr:Row w g t cs) (hq:tmps.getD q undef = v)
  (hu:P.underlying ty = some d) (hd:(match d with | .struct _ | .array _ _=>true | _=>false) = true) (hi:(P.info? ty).map (·.size) = some n) (hn:cs.size = n)
  (hR:R (.returned (.tuple #[v,.agg cs])) w) : bodyPost P fn R e { tmps,defers:=[] } w:=by
 have hres : (results fn tmps).run P w = .ok (.tuple #[v,.agg cs]) w:=by
  have hp' : tmps[p]?.getD undef = .pointer (some ⟨g,0,none⟩):=by simpa using hp
  have hq' : tmps[q]?.getD undef = v:=by simpa using hq
  simp [results,h,hp',hq',asAddr,run_loadVar_row w g t ty cs (0,0) d hr.heap hu hd (by rw [hi,hn])]
 rcases he with rfl | rfl <;> exact ⟨rfl,_,hres,hR⟩
abbrev MkW (m neg ri:Nat) : Prop:=∀ w,Calls Tryz.prog 143 #[.agg (AQ (nL m))] w fun e w'=>∃ g,e = .returned (.tuple #[.pointer (some ⟨g,0,none⟩),.int .i64 0]) ∧ ModW w' g m neg ri ∧ w.heap.size ≤ g ∧ Below w.heap.size w w'

set_option maxRecDepth 100000 in
set_option maxHeartbeats 4000000 in
theorem order_any {w:World} {m neg ri:Nat} {t1:TypeId} (hO:Row w 1 t1 (AQ (nL m))) (hm:m < R256) (hmk:MkW m neg ri) : Calls Tryz.prog 90 #[] w fun e w'=>∃ g,e = .returned (.tuple #[.pointer (some ⟨g,0,none⟩),.agg (AQ (nL m))]) ∧ ModW w' g m neg ri ∧ Below w.heap.size w w':=by
 have HGO:=Lib.hid (show ∀ W,Below w.heap.size w W → Row W 1 t1 (AQ (nL m)) from fun W hb=>hO.below hb hO.lt)
 have HL:=Lib.hid hm
 have HMK:=Lib.hid hmk
 clear hO hm hmk
 go_enter Tryz.func90,Tryz.ntmps90
 go_upto_region 1 with (fail)
 refine at_world (fun W=>Row W w.heap.size 177 (AQ (nL 0)) ∧ Below w.heap.size w W) (⟨(by rw [nAQ_zero]; exact (Row.newAt _ _ _ _ rfl)),((Below.refl _ w).alloc (Nat.le_refl _) _)⟩) ?_
 rintro W1 ⟨i1_1,hB1⟩
 refine wp_region_num 3 [0,1] [2] (fun _=>.cells (AQ (nL 0)) 177) (by kernel_rfl) (by kernel_rfl) (by kernel_rfl) (by kernel_rfl) ?hal ?h
 case hal =>
  intro k hk o ho
  simp only [List.mem_cons,List.not_mem_nil,or_false] at hk
  subst hk
  ·cases ho; exact alF_of _ (fun _ _=>by kernel_rfl)
 case h =>
 apply Exists.intro
 refine ⟨fun R=>?_,?_⟩
 ·simp only [List.map_cons,List.map_nil,List.getD_cons_zero,List.getD_cons_succ]
  (go_big_quiet_want; refine qa_call _ _ ?_ _ (fun w' hb=>order_gen w' m _ (HGO.out _ (hB1.trans (hb.mono hB1.size)))) ?_; (focus (intro w; simp [go_sem]; done)); (simp only [Act.put,lS]; go_big_quiet_on))
  (go_big_quiet_want; refine qa_call _ _ ?_ _ (fun w' hb=>of_be HL.out) ?_; (focus (intro w; simp [go_sem]; done)); (simp only [Act.put,lS]; go_big_quiet_on))
  exact wpQuiet_nil rfl
 ·refine wpAl_consP rfl ?_
  intro g2 hg2 nng2
  intro w2 hcc
  have ne_1_g2 : w.heap.size ≠ g2:=by have:=i1_1.lt; omega
  replace i1_1:=i1_1.below hcc.1 i1_1.lt
  have j_2 : Row w2 g2 177 (AQ (nL 0)):=.of_heap (hcc.2 g2 _ (by simp [upd]))
  have hg_le : w.heap.size ≤ w2.heap.size:=Nat.le_trans hB1.size hcc.1.size
  have lb_g2 : w.heap.size ≤ g2:=Nat.le_trans hB1.size hg2
  replace hB1:=hB1.trans (hcc.1.mono hB1.size)
  clear hcc hg_le hg2 nng2
  have lt_2:=j_2.lt
  go_upto_region 2 with (fail)
  refine at_world (fun W=>Row W w.heap.size 177 (AQ (nL 0)) ∧ Row W g2 177 (AQ (nL m)) ∧ Below w.heap.size w W) (⟨(i1_1.setRowOther _ _ (by omega)),(j_2.setRow _),(bSetRow hB1 lb_g2 _)⟩) ?_
  clear i1_1 j_2 lt_2 hB1
  rintro W2 ⟨i2_1,i2_2,hB2⟩
  have LT1:=Lib.hid (show w.heap.size < W2.heap.size from i2_1.lt)
  go_wp2_with fail
  refine (HMK.out _).mono ?_
  rintro e W5 ⟨g,rfl,hM,hg,hB5⟩
  replace i2_1:=i2_1.below hB5 i2_1.lt
  replace i2_2:=i2_2.below hB5 i2_2.lt
  have hb6:=hB2.trans (hB5.mono hB2.size)
  have HNG:=Lib.hid (show g ≠ w.heap.size from by have:=LT1.out; omega)
  have HM:=Lib.hid hM
  have HG:=Lib.hid hg
  clear hB5 hB2 hM hg
  go_upto_region 3 with (fail)
  have l1 : w.heap.size < W5.heap.size:=i2_1.lt
  have l2 : g2 < W5.heap.size:=i2_2.lt
  have d1:=i2_1.drew
  have d2:=i2_2.drew
  have hb7:=hb6.drew
  go_region_law (fail)
  all_goals
   go_wp2_with fail
   exact ret_Trow (by first | exact .inl rfl | exact .inr rfl) rfl w.heap.size 177 (AQ (nL m)) 4 _ _ rfl (d1.setRow _) rfl Tryz.underlying177 rfl (by kernel_rfl) rfl ⟨g,rfl,⟨HM.out.row.drew.setRowOther _ _ HNG.out,HM.out.md⟩,bSetRow hb7 (Nat.le_refl _) _⟩
set_option maxRecDepth 100000 in
set_option maxHeartbeats 4000000 in
theorem fine_yes {w:World} {m neg ri:Nat} {t1:TypeId} {lk:List UInt8} (hO:Row w 1 t1 (AQ (nL m))) (hm:m < R256) (hmk:MkW m neg ri) (hlk:lk.length = 32) (hne:(lk == zer32) = false) (hlt:natB lk < m) : Calls Tryz.prog 89 #[.agg (AB lk)] w fun e w'=>e = .returned (.bool true) ∧ Below w.heap.size w w':=by
 have HGO:=Lib.hid (show ∀ W,Below w.heap.size w W → Row W 1 t1 (AQ (nL m)) from fun W hb=>hO.below hb hO.lt)
 have HL:=Lib.hid hm
 have HMK:=Lib.hid hmk
 have HLK:=Lib.hid hlk
 have HNE:=Lib.hid hne
 have HLT:=Lib.hid hlt
 clear hO hm hmk hlk hne hlt
 go_enter Tryz.func89,Tryz.ntmps89
 go_upto_region 1 with (fail)
 refine at_world (fun W=>Row W w.heap.size 24 (AB lk) ∧ Below w.heap.size w W) (⟨(Row.newAt _ _ _ _ rfl),((Below.refl _ w).alloc (Nat.le_refl _) _)⟩) ?_
 rintro W1 ⟨i1_1,hB1⟩
 go_wp2_with fail
 refine (order_any (HGO.out _ hB1) HL.out HMK.out).mono ?_
 rintro e W5 ⟨g,rfl,hM,hB5⟩
 replace i1_1:=i1_1.below hB5 i1_1.lt
 replace hB1:=hB1.trans (hB5.mono hB1.size)
 clear hB5 hM
 go_upto_region 2 with (fail)
 obtain ⟨g4,hg4⟩ : ∃ q_,q_ = W5.heap.size:=⟨_,rfl⟩
 rw [← hg4]
 refine at_world (fun W=>Row W w.heap.size 24 (AB lk) ∧ Row W g4 177 (AQ (nL m)) ∧ Below w.heap.size w W) (⟨((i1_1.alloc _).setRowOther _ _ (by have:=i1_1.lt; omega)),((rowZ _ _ _ hg4).setRow _),(bSetRow (hB1.alloc hB1.size _) (by have:=hB1.size; omega) _)⟩) ?_
 clear i1_1 hB1
 rintro W2 ⟨i2_1,i2_4,hB2⟩
 clear hg4
 replace i2_1:=i2_1.drew
 replace i2_4:=i2_4.drew
 replace hB2:=hB2.drew
 obtain ⟨x14,h14⟩ : ∃ q_,q_ = natB lk:=⟨_,rfl⟩
 have b_x14 : x14 < R256:=by rw [h14]; exact natB_lt32 HLK.out
 have H14:=Lib.hid h14
 clear h14
 refine wp_region_allocs 9 [0,1,2,3,4,5,6,7,8] [] (fun _=>.cells #[] 0) (by kernel_rfl) (by kernel_rfl) (by kernel_rfl) (by kernel_rfl) ?hal ?h
 case hal =>
  intro k hk o ho
  cases hk
 case h =>
 apply Exists.intro
 refine ⟨fun R=>?_,?_⟩
 ·simp only [List.map_cons,List.map_nil,List.getD_cons_zero,List.getD_cons_succ]
  (go_big_quiet_want; apply qn_load at_b32 rfl rfl i2_1 (hp_b HLK.out); (simp only [Act.put,lS]; go_big_quiet_on))
  (go_big_quiet_want; refine qa_pure (.agg (AB zer32)) (fun w=>by kernel_rfl) ?_; (simp only [Act.put,lS]; go_big_quiet_on))
  (go_big_quiet_want; refine qa_pure (.bool true) (run_neq32 HLK.out zer32_len HNE.out rfl rfl) ?_; (simp only [Act.put,lS]; go_big_quiet_on))
  (first | go_big_quiet_skip | (go_big_quiet_want; go_big_quiet_op; first | go_big_quiet_on | (refine ⟨_,fun _ _=>rfl,?_⟩; go_big_quiet_on)))
  (go_big_quiet_want; apply qn_load at_b32 rfl rfl i2_1 (hp_b HLK.out); (simp only [Act.put,lS]; go_big_quiet_on))
  (go_big_quiet_want; refine qa_call _ _ ?_ _ (fun w' hb=>of_x HLK.out H14.out) ?_; (focus (intro w; simp [go_sem]; done)); (simp only [Act.put,lS]; go_big_quiet_on))
  (go_big_quiet_want; apply qn_load at_num rfl rfl i2_4 (hp_num m); (simp only [Act.put,lS]; go_big_quiet_on))
  (go_big_quiet_want; refine qa_call _ _ ?_ _ (fun w' hb=>less_yes b_x14 HL.out (by rw [H14.out]; exact HLT.out)) ?_; (focus (intro w; simp [go_sem]; done)); (simp only [Act.put,lS]; go_big_quiet_on))
  (first | go_big_quiet_skip | (go_big_quiet_want; go_big_quiet_op; first | go_big_quiet_on | (refine ⟨_,fun _ _=>rfl,?_⟩; go_big_quiet_on)))
  exact wpQuiet_nil rfl
 ·intro w2 hcc
  replace i2_1:=i2_1.below hcc.1 i2_1.lt
  replace i2_4:=i2_4.below hcc.1 i2_4.lt
  have hg_le : w.heap.size ≤ w2.heap.size:=Nat.le_trans hB2.size hcc.1.size
  replace hB2:=hB2.trans (hcc.1.mono hB2.size)
  clear hcc hg_le
  go_wp2_with fail
  go_ret
  exact ⟨rfl,hB2⟩
end Go.Proofs.YtjpfhhndjpdmoaaGreatDoor

namespace Go.Proofs.YtjpfhhndjpdmoaaGreatDoor
open Go.RowKit
set_option linter.unusedVariables false
set_option linter.unusedSimpArgs false
set_option maxRecDepth 100000 in
set_option maxHeartbeats 4000000 in
theorem mulU_one (n:Nat) (hn:n < 18446744073709551616) (w:World) :
  Calls Tryz.prog 184 #[.int .u64 1,.int .u64 (n:Int)] w fun e w'=>e = .returned (.tuple #[.int .u64 0,.int .u64 (n:Int)]) ∧ w = w':=by
 have h:=fun W=>mul64_any 1 n (by decide) hn W
 rw [Nat.one_mul,Nat.div_eq_of_lt hn,Nat.mod_eq_of_lt hn] at h
 have HM:=Lib.hid h
 clear h
 go_enter Tryz.func184,Tryz.ntmps184
 go_wp2_with fail
 refine (HM.out _).mono ?_
 rintro e w' ⟨rfl,rfl⟩
 go_wp2_with fail
 go_ret2
 exact ⟨rfl,rfl⟩
theorem run_mnz (n:Nat) (hn:n ≤ 1000) (w:World) : ∃ cs : Array Value,(callFunc 185 #[.int .i64 (n:Int)]).run Tryz.prog w = .ok (.value (.slice (some ⟨w.heap.size,0,none⟩) n cs.size)) (w.drew.drew.alloc (.cells cs 5)) ∧ n ≤ cs.size ∧ cs.size ≤ maxLen:=by
 obtain ⟨cs,hrun,h1,h2⟩:=Lib.run_makeNoZero (P:=Tryz.prog) w #[3] 22 5 Tryz.underlying22 n (by omega)
 refine ⟨cs,?_,h1,h2 (by unfold maxLen; omega)⟩
 rw [run_callFunc_extern Tryz.func185 (by kernel_rfl) (by kernel_rfl) (by kernel_rfl) (e:=Extern.BytealgMakeNoZero.makeNoZero #[3] #[22]) (by kernel_rfl),hrun]
 rfl
theorem wp_copyB {o:Oper} {a:Act} {w:World} {K:Act → World → Prop} {Q:Exit → Act → World → Prop} (hgd:o.guard = none) (d s:Operand) (dT sT:TypeId)
  (ho:o.op = .call { callee:=.builtin .copy,args:=#[d,s],argTypes:=#[dT,sT] }) (elem:TypeId) (hu:Tryz.prog.underlying dT = some (.slice elem)) (hsz:(Tryz.prog.info? elem).map (·.size) = some 1)
  (dp sp:Option Addr) (dLen dCap sLen sCap:Nat) (hd:a.eval d = .slice dp dLen dCap) (hs:a.eval s = .slice sp sLen sCap)
  (g off:Nat) (cur:List Value) (t:TypeId) (hg:w.heap[g]? = some (.cells cur.toArray t (0,0))) (cs:List Value) (hn:cs.length = Nat.min sLen dLen)
  (hpos:0 < cs.length → dp = some ⟨g,off,none⟩ ∧ ∃ ad,sp = some ad ∧ ∀ j v,cs[j]? = some v → w.cell? (ad.add j) = some v)
  (hfit:off + cs.length ≤ cur.length) (h1:∀ v ∈ cs,v.oneCell' = true) (B:Nat) (w0:World) (hb:Below B w0 w) (hBg:B ≤ g)
  (h:∀ w',Hid (w'.heap[g]? = some (.cells (splice cur off cs).toArray t (0,0))) → Below B w0 w' → K (a.put o.dst (goInt cs.length)) w') : o.wp Tryz.prog a w K Q:=by
 have:=step_copy_splice (P:=Tryz.prog) (ops:=#[]) (E:=True) (Q:=Q) hgd d s dT sT ho elem hu hsz dp sp dLen dCap sLen sCap hd hs g off cur t hg cs hn hpos hfit h1 B w0 hb hBg h
 rwa [if_pos (by simp [Region.wanted,hgd])] at this
theorem rep_splice {x:UInt8} {cur:List Value} {j k:Nat} (h:j + (List.replicate k (B x)).length ≤ cur.length) (hc:∀ i,i < j → cur[i]? = some (B x)) : ∀ i,i < j + k → (splice cur j (List.replicate k (B x)))[i]? = some (B x):=by
 rw [List.length_replicate] at h
 intro i hi
 unfold splice
 rw [List.getElem?_append]
 split
 ·rename_i h1
  rw [List.length_take] at h1
  rw [List.getElem?_take,if_pos (by omega)]
  exact hc i (by omega)
 ·rename_i h1
  rw [List.length_take] at h1 ⊢
  rw [List.getElem?_append_left (by rw [List.length_replicate]; omega),List.getElem?_replicate,if_pos (by omega)]
theorem SlB.at0 {w w1:World} {b o c n:Nat} {x:UInt8} (h:SlB w (.slice (some ⟨b,o,none⟩) n c) [x]) (hb:Below w.heap.size w w1) : w1.cell? ⟨b,o + 0,none⟩ = some (B x):=by
 obtain ⟨a2,c2,hv,_,_,_,h4⟩:=h.below hb
 simp only [Value.slice.injEq] at hv
 exact (h4 _ hv.1.symm).2 0 Nat.one_pos
def RpS (x:UInt8) (g C j:Nat) (w:World) : Prop:=∃ cur : List Value,w.heap[g]? = some (.cells cur.toArray 5 (0,0)) ∧ cur.length = C ∧ ∀ i,i < j → cur[i]? = some (B x)
set_option maxRecDepth 100000 in
set_option maxHeartbeats 4000000 in
theorem repeat_any (w:World) (vb:Value) (x:UInt8) (n:Nat) (hb:SlB w vb [x]) (h1:1 ≤ n) (hn:n ≤ 1000) :
  Calls Tryz.prog 144 #[vb,.int .i64 (n:Int)] w fun e w'=>∃ v,e = .returned v ∧ OwnW w' w.heap.size v (List.replicate n x) ∧ Below w.heap.size w w':=by
 obtain ⟨b0,o0,c,rfl,_,_,_,hcell⟩:=hb.addr Nat.one_pos
 have n0 : ¬ (n:Int) < 0:=by omega
 have n1 : ((n:Int) == 0) = false:=by simp; omega
 have n2 : (0 : Int) ≤ (n:Int):=by omega
 have n3 : (n:Int) ≤ 1000:=by omega
 have n4 : ¬ (9223372036854775807 : Int) < (n:Int):=by omega
 have n5 : ¬ (8192 : Int) < (n:Int):=by omega
 have HB:=Lib.hid hb
 have HN:=Lib.hid (⟨h1,hn⟩ : _ ∧ _)
 obtain ⟨cs,hmk,hc1,hc2⟩:=run_mnz n hn w
 obtain ⟨C,hC⟩ : ∃ C,C = cs.size:=⟨_,rfl⟩
 rw [← hC] at hmk hc1 hc2
 have c1 : (n:Int) ≤ (C:Int):=by omega
 have HC:=Lib.hid (⟨hC,hc1,hc2⟩ : _ ∧ _ ∧ _)
 obtain ⟨W1,hW1⟩ : ∃ W,W = w.drew.drew.alloc (.cells cs 5):=⟨_,rfl⟩
 rw [← hW1] at hmk
 have HW:=Lib.hid (show W1.heap[w.heap.size]? = some (.cells cs.toList.toArray 5 (0,0)) ∧ Below w.heap.size w W1 by
  rw [hW1]
  exact ⟨by rw [Array.toArray_toList]; exact heap_alloc_new w.drew.drew _,((Below.refl _ w).drew.drew).alloc (Nat.le_refl _) _⟩)
 clear hb h1 hn hC hc1 hc2 hW1
 go_enter Tryz.func144,Tryz.ntmps144
 go_wp2_with fail
 refine (mulU_one n (by have:=HN.out; omega) _).mono ?_
 rintro e w' ⟨rfl,rfl⟩
 go_upto_region 17 with (fail)
 have HS:=Lib.hid (show cs.toList.length = C from by have:=HC.out.1; simp [this])
 have K2:=Lib.hid (show [B x].length = Nat.min 1 n from by have:=HN.out.1; show 1 = min 1 n; omega)
 have K3:=Lib.hid (show 0 < [B x].length → (some ⟨w.heap.size,0,none⟩ : Option Addr) = some ⟨w.heap.size,0,none⟩ ∧ ∃ ad,(some ⟨b0,o0,none⟩ : Option Addr) = some ad ∧ ∀ j v,[B x][j]? = some v → W1.cell? (ad.add j) = some v from fun _=>⟨rfl,⟨b0,o0,none⟩,rfl,fun j v hj=>by
   have hj0 : j = 0:=by
    rcases Nat.eq_zero_or_pos j with h | h
    ·exact h
    ·rw [List.getElem?_eq_none (by simp; omega)] at hj; cases hj
   subst hj0
   have e : v = B x:=by simpa using hj.symm
   rw [e,Addr.add_lit]
   exact HB.out.at0 HW.out.2⟩)
 have K4:=Lib.hid (show 0 + [B x].length ≤ cs.toList.length from by have:=HC.out; have:=HS.out; have:=HN.out; show 0 + 1 ≤ _; omega)
 have K5:=Lib.hid (show ∀ v ∈ [B x],v.oneCell' = true from by intro v hv; rw [List.mem_singleton.1 hv]; rfl)
 go_wp2_with (refine wpList_copy_splice rfl (.tmp 58) (.tmp 59) 22 22 rfl 5 Tryz.underlying22 (by kernel_rfl) (some ⟨w.heap.size,0,none⟩) (some ⟨b0,o0,none⟩) n n 1 c rfl rfl w.heap.size 0 cs.toList 5 HW.out.1 [B x] K2.out K3.out K4.out K5.out w.heap.size w HW.out.2 (Nat.le_refl _) ?_)
 intro W2 hW2 hb2
 have HR:=Lib.hid (show RpS x w.heap.size C 1 W2 ∧ Below w.heap.size w W2 from ⟨⟨_,hW2.out,by rw [length_splice _ _ _ K4.out]; exact HS.out,fun i hi=>by
  obtain rfl : i = 0:=by omega
  simp [splice]⟩,hb2⟩)
 clear K2 K3 K4 K5
 clear hW2 hb2 hmk
 go_wp2_with fail
 go_loopg [10] n (fun gk t10 wr=>∃ j : Nat,gk + j = n + 1 ∧ (1 ≤ j ∧ j ≤ n) ∧ t10 = .int .i64 (j:Int) ∧ RpS x w.heap.size C j wr ∧ Below w.heap.size w wr)
 case atStart=>exact ⟨1,by have:=HN.out; omega,⟨Nat.le_refl _,HN.out.1⟩,rfl,HR.out.1,HR.out.2⟩
 case round =>
  clear HR
  obtain ⟨j,hj,hj1,rfl,hR,hB⟩:=hrel
  by_cases hlt : j < n
  ·have j1 : (j:Int) < (n:Int):=by omega
   have j2 : ¬ (n:Int) < (j:Int):=by omega
   have j0 : (0 : Int) ≤ (j:Int):=by omega
   have j3 : (j:Int) ≤ (n:Int):=by omega
   obtain ⟨k,hk⟩ : ∃ k,k = Nat.min j (n - j):=⟨_,rfl⟩
   have hnj : ¬ n = j:=by omega
   have hkj : k ≤ j:=by rw [hk]; exact Nat.min_le_left _ _
   have r2 : IntKind.i64.wrap ((j:Int) + (k:Int)) = (j:Int) + (k:Int):=IntWalk.i64_in _ (by omega)
   have HJ:=Lib.hid (⟨hj,hj1,hlt,hj,hk⟩ : _ ∧ _ ∧ _ ∧ _ ∧ _)
   have HR:=Lib.hid hR
   have HB2:=Lib.hid hB
   clear hj hj1 hlt hk hR hB hkj
   go_upto_region 20 with (fail)
   obtain ⟨cur,hcur,hcl,hcx⟩:=HR.out
   have HX:=Lib.hid (show wr.drew.heap[w.heap.size]? = some (.cells cur.toArray 5 (0,0)) ∧ cur.length = C ∧ (∀ i,i < j → cur[i]? = some (B x)) ∧ Below w.heap.size w wr.drew from ⟨hcur,hcl,hcx,HB2.out.drew⟩)
   have K2:=Lib.hid (show (List.replicate k (B x)).length = Nat.min j (n - j) from by rw [List.length_replicate]; exact HJ.out.2.2.2.2)
   have K3:=Lib.hid (show 0 < (List.replicate k (B x)).length → (some ⟨w.heap.size,j,none⟩ : Option Addr) = some ⟨w.heap.size,j,none⟩ ∧ ∃ ad,(some ⟨w.heap.size,0,none⟩ : Option Addr) = some ad ∧ ∀ i v,(List.replicate k (B x))[i]? = some v → wr.drew.cell? (ad.add i) = some v from fun _=>⟨rfl,⟨w.heap.size,0,none⟩,rfl,fun i v hi=>by
    have hik : i < k:=by have:=(List.getElem?_eq_some_iff.1 hi).1; simpa using this
    have hkj : k ≤ j:=by rw [HJ.out.2.2.2.2]; exact Nat.min_le_left _ _
    rw [List.getElem?_replicate,if_pos hik] at hi
    rw [Addr.add_lit,(Row.of_heap HX.out.1).cell,Nat.zero_add,← hi]
    simpa using HX.out.2.2.1 i (by omega)⟩)
   have K4:=Lib.hid (show j + (List.replicate k (B x)).length ≤ cur.length from by
    rw [List.length_replicate]
    have h1:=HJ.out
    have h2 : k ≤ n - j:=by rw [h1.2.2.2.2]; exact Nat.min_le_right _ _
    have h3:=HX.out.2.1
    have h4:=HC.out
    omega)
   have K5:=Lib.hid (show ∀ v ∈ List.replicate k (B x),v.oneCell' = true from by intro v hv; rw [List.eq_of_mem_replicate hv]; rfl)
   clear hcur hcl hcx HR HB2
   go_region_law (first
    | (refine wp_copyB (by rfl) (.tmp 70) (.tmp 73) 22 22 (by rfl) 5 Tryz.underlying22 (by kernel_rfl) (some ⟨w.heap.size,j,none⟩) (some ⟨w.heap.size,0,none⟩) (n - j) (n - j) j n (by kernel_rfl) (by kernel_rfl) w.heap.size j cur 5 HX.out.1 (List.replicate k (B x)) K2.out K3.out K4.out K5.out w.heap.size w HX.out.2.2.2 (Nat.le_refl _) ?_
       intro W7 hW7 hb7
       have HW7:=Lib.hid (show RpS x w.heap.size C (j + k) W7 ∧ Below w.heap.size w W7 from ⟨⟨_,hW7.out,by rw [length_splice _ _ _ K4.out]; exact HX.out.2.1,rep_splice K4.out HX.out.2.2.1⟩,hb7⟩)
       clear hW7 hb7)
    | fail)
   all_goals
    go_wp2_with fail
    go_roundg (gk - k)
    case measure =>
     obtain ⟨a1,a2,a3,_,a5⟩:=HJ.out
     have h2 : k = min j (n - j):=a5
     omega
    case rel =>
     obtain ⟨a1,a2,a3,_,a5⟩:=HJ.out
     have h2 : k = min j (n - j):=a5
     exact ⟨j + k,by omega,by omega,by first | rfl | (simp; done) | go_num,HW7.out.1,HW7.out.2⟩
  ·obtain rfl : j = n:=by omega
   have j1 : ¬ (j:Int) < (j:Int):=by omega
   have HR:=Lib.hid hR
   have HB2:=Lib.hid hB
   clear hj hj1 hlt hR hB
   go_wp2_with fail
   go_ret
   refine ⟨.slice (some ⟨w.heap.size,0,none⟩) j j,rfl,?_,HB2.out⟩
   obtain ⟨cur,h1,h2,h3⟩:=HR.out
   refine .inr ⟨w.heap.size,0,j,cur.toArray,by rw [List.length_replicate],Nat.le_refl _,Row.of_heap h1,by rw [List.length_replicate]; exact Nat.le_refl _,by have:=HC.out; rw [List.size_toArray,h2]; omega,by have:=HN.out; unfold maxLen; omega,fun i hi=>?_⟩
   rw [List.length_replicate] at hi
   have e : gb (List.replicate j x) i = x:=by unfold gb; rw [List.getD_eq_getElem?_getD,List.getElem?_replicate,if_pos hi]; rfl
   rw [e,Nat.zero_add]
   simpa using h3 i hi
end Go.Proofs.YtjpfhhndjpdmoaaGreatDoor
