/- Part of the proof: Nonce. No conditions of its own. -/
import Derived.Test.YtjpfhhndjpdmoaaGreatDoorF22
namespace Go.Proofs.YtjpfhhndjpdmoaaGreatDoor
open Go.RowKit
set_option linter.unusedVariables false
set_option linter.unusedSimpArgs false

def ones32 : List UInt8:=List.replicate 32 1
def nkv (secret h:List UInt8) : Nat → List UInt8 × List UInt8
 | 0=>(zer32,ones32)
 | i + 1=>(macS (nkv secret h i).1 ((nkv secret h i).2 ++ [UInt8.ofNat i] ++ secret ++ h),macS (macS (nkv secret h i).1 ((nkv secret h i).2 ++ [UInt8.ofNat i] ++ secret ++ h)) (nkv secret h i).2)
theorem over_b32 {a b:List UInt8} (ha:a.length = 32) (hb:b.length = 32) : over (AB a) 0 (AB b) = AB b:=over_all _ _ (by rw [AB_size,AB_size,ha,hb])
theorem size_b32 {a:List UInt8} (ha:a.length = 32) : (AB a).size = 32:=by rw [AB_size,ha]
theorem nkv_len1 (s h:List UInt8) (i:Nat) : (nkv s h i).1.length = 32:=by cases i with | zero=>rfl | succ i=>exact macS_len _ _
theorem nkv_len2 (s h:List UInt8) (i:Nat) : (nkv s h i).2.length = 32:=by cases i with | zero=>rfl | succ i=>exact macS_len _ _
theorem parts_row {w:World} {g:Nat} {t:TypeId} {ps:List (List UInt8)} {vs:List Value} {bad:Nat → Prop} (hr:Row w g t vs.toArray) (hg:¬ bad g) (hl:vs.length = ps.length) (h:∀ (i:Nat) (p:List UInt8),ps[i]? = some p → ∃ v,vs[i]? = some v ∧ SlB w v p ∧ ∀ ad,addrV v = some ad → ¬ bad ad.block) : PartsW w bad (.slice (some ⟨g,0,none⟩) ps.length ps.length) ps:=by
 refine ⟨some ⟨g,0,none⟩,ps.length,rfl,fun i p hp=>?_⟩
 obtain ⟨v,h1,h2,h3⟩:=h i p hp
 exact ⟨g,0,v,rfl,by rw [hr.cell,Nat.zero_add]; simpa using h1,hg,h2,h3⟩
theorem slb32 {w:World} {g:Nat} {t:TypeId} {l:List UInt8} (h:Row w g t (AB l)) (hl:l.length = 32) : SlB w (.slice (some ⟨g,0,none⟩) 32 32) l:=by
 have:=h.slW (l:=l) (by omega)
 rwa [hl] at this
theorem parts_four {w:World} {g b1 b2 b3 b4:Nat} {t t1 t2 t3 t4:TypeId} {l1 l3 l4:List UInt8} {x:UInt8} (hr:Row w g t #[.slice (some ⟨b1,0,none⟩) 32 32,.slice (some ⟨b2,0,none⟩) 1 1,.slice (some ⟨b3,0,none⟩) 32 32,.slice (some ⟨b4,0,none⟩) 32 32]) (h1:Row w b1 t1 (AB l1)) (h2:Row w b2 t2 (AB [x])) (h3:Row w b3 t3 (AB l3)) (h4:Row w b4 t4 (AB l4)) (k1:l1.length = 32) (k3:l3.length = 32) (k4:l4.length = 32) : PartsW w (fun k=>w.heap.size ≤ k) (.slice (some ⟨g,0,none⟩) 4 4) [l1,[x],l3,l4] :=
 parts_row (vs:=[.slice (some ⟨b1,0,none⟩) 32 32,.slice (some ⟨b2,0,none⟩) 1 1,.slice (some ⟨b3,0,none⟩) 32 32,.slice (some ⟨b4,0,none⟩) 32 32]) (ps:=[l1,[x],l3,l4]) hr (by have:=hr.lt; omega) rfl (fun i p hp=>by
  have a1:=h1.lt
  have a2:=h2.lt
  have a3:=h3.lt
  have a4:=h4.lt
  match i,hp with
  | 0,hp=>exact ⟨_,rfl,by obtain rfl:=Option.some.inj hp; exact slb32 h1 k1,fun ad had=>by obtain rfl:=Option.some.inj had; show ¬ w.heap.size ≤ b1; omega⟩
  | 1,hp=>exact ⟨_,rfl,by obtain rfl:=Option.some.inj hp; exact h2.slW (l:=[x]) (by simp),fun ad had=>by obtain rfl:=Option.some.inj had; show ¬ w.heap.size ≤ b2; omega⟩
  | 2,hp=>exact ⟨_,rfl,by obtain rfl:=Option.some.inj hp; exact slb32 h3 k3,fun ad had=>by obtain rfl:=Option.some.inj had; show ¬ w.heap.size ≤ b3; omega⟩
  | 3,hp=>exact ⟨_,rfl,by obtain rfl:=Option.some.inj hp; exact slb32 h4 k4,fun ad had=>by obtain rfl:=Option.some.inj had; show ¬ w.heap.size ≤ b4; omega⟩
  | i + 4,hp=>simp at hp)
theorem parts_one {w:World} {g b:Nat} {t t2:TypeId} {l:List UInt8} (hr:Row w g t #[.slice (some ⟨b,0,none⟩) 32 32]) (h:Row w b t2 (AB l)) (hl:l.length = 32) : PartsW w (fun k=>w.heap.size ≤ k) (.slice (some ⟨g,0,none⟩) 1 1) [l] :=
 parts_row (vs:=[.slice (some ⟨b,0,none⟩) 32 32]) (ps:=[l]) hr (by have:=hr.lt; omega) rfl (fun i p hp=>by
  cases i with
  | zero=>exact ⟨_,rfl,by obtain rfl:=Option.some.inj hp; exact slb32 h hl,fun ad had=>by obtain rfl:=Option.some.inj had; have:=h.lt; show ¬ w.heap.size ≤ b; omega⟩
  | succ i=>simp at hp)

set_option maxRecDepth 100000 in
set_option maxHeartbeats 4000000 in
theorem nonce_first {w:World} {m neg ri:Nat} {t1:TypeId} {sec sum:List UInt8} (hO:Row w 1 t1 (AQ (nL m))) (hm:m < R256) (hmk:MkW m neg ri) (hH:HashW w) (hpos:0 < m) (hsec:sec.length = 32) (hsum:sum.length = 32) (hne:(macS (nkv sec (be32 (natB sum % m)) 2).1 (nkv sec (be32 (natB sum % m)) 2).2 == zer32) = false) (hlt:natB (macS (nkv sec (be32 (natB sum % m)) 2).1 (nkv sec (be32 (natB sum % m)) 2).2) < m) : Calls Tryz.prog 91 #[.agg (AB sec),.agg (AB sum)] w fun e w'=>e = .returned (.agg (AB (macS (nkv sec (be32 (natB sum % m)) 2).1 (nkv sec (be32 (natB sum % m)) 2).2))) ∧ Below w.heap.size w w':=by
 have HGO:=Lib.hid (show ∀ W,Below w.heap.size w W → Row W 1 t1 (AQ (nL m)) from fun W hb=>hO.below hb hO.lt)
 have HL:=Lib.hid hm
 have HMK:=Lib.hid hmk
 have HLS:=Lib.hid (⟨hsec,hsum⟩ : _ ∧ _)
 have HHW:=Lib.hid (show ∀ W,Below w.heap.size w W → HashW W from fun W hb=>hH.below hb)
 have HFI:=Lib.hid (⟨hne,hlt⟩ : _ ∧ _)
 have HP:=Lib.hid hpos
 clear hO hm hmk hsec hsum hH hne hlt hpos
 go_enter Tryz.func91,Tryz.ntmps91
 go_upto_region 1 with (fail)
 refine at_world (fun W=>Row W w.heap.size 24 (AB sec) ∧ Row W (w.heap.size + 1) 24 (AB sum) ∧ Row W (w.heap.size + 1 + 1) 24 (AB zer32) ∧ Below w.heap.size w W) (⟨(((Row.newAt _ _ _ _ rfl).alloc _).alloc _),((Row.newAt _ _ _ _ (by simp)).alloc _),(by rw [zer32_eq]; exact (Row.newAt _ _ _ _ (by simp))),((((Below.refl _ w).alloc (Nat.le_refl _) _).alloc (by simp) _).alloc (by simp; omega) _)⟩) ?_
 rintro W1 ⟨i1_2,i1_3,i1_4,hB1⟩
 go_wp2_with fail
 refine (order_any (HGO.out _ hB1) HL.out HMK.out).mono ?_
 rintro e W0 ⟨g,rfl,hM,hB0⟩
 replace i1_2:=i1_2.below hB0 i1_2.lt
 replace i1_3:=i1_3.below hB0 i1_3.lt
 replace i1_4:=i1_4.below hB0 i1_4.lt
 have hA0:=hB1.trans (hB0.mono hB1.size)
 have HA:=Lib.hid hA0
 have HM:=Lib.hid (show ∀ W,Below W0.heap.size W0 W → ModW W g m neg ri from fun W hb=>hM.below hb)
 replace HGO:=Lib.hid (fun W (hb:Below W0.heap.size W0 W)=>HGO.out W (HA.out.trans (hb.mono HA.out.size)))
 replace HHW:=Lib.hid (fun W (hb:Below W0.heap.size W0 W)=>HHW.out W (HA.out.trans (hb.mono HA.out.size)))
 have HLT:=Lib.hid (⟨i1_2.lt,i1_3.lt,i1_4.lt⟩ : _ ∧ _ ∧ _)
 clear hM hB0 hA0 hB1
 go_upto_region 2 with (fail)
 refine at_world (fun W=>Row W w.heap.size 24 (AB sec) ∧ Row W (w.heap.size + 1) 24 (AB sum) ∧ Row W (w.heap.size + 1 + 1) 24 (AB zer32) ∧ Below W0.heap.size W0 W) (⟨((i1_2.alloc _).setRowOther _ _ (by have:=HLT.out; omega)),((i1_3.alloc _).setRowOther _ _ (by have:=HLT.out; omega)),((i1_4.alloc _).setRowOther _ _ (by have:=HLT.out; omega)),(bSetRow ((Below.refl _ W0).alloc (Nat.le_refl _) _) (Nat.le_refl _) _)⟩) ?_
 clear i1_2 i1_3 i1_4
 rintro W2 ⟨i2_2,i2_3,i2_4,hB2⟩
 obtain ⟨x17,h17⟩ : ∃ q_,q_ = natB sum:=⟨_,rfl⟩
 have b_x17 : x17 < R256:=by rw [h17]; exact natB_lt32 HLS.out.2
 have H17:=Lib.hid h17
 clear h17
 obtain ⟨x18,h18⟩ : ∃ q_,q_ = x17 % m:=⟨_,rfl⟩
 have b_x18 : x18 < R256:=by rw [h18]; exact Nat.lt_trans (Nat.mod_lt _ HP.out) HL.out
 have H18:=Lib.hid h18
 clear h18
 have z1:=size_b32 (be32_len x18)
 have z2:=size_b32 zer32_len
 have z3:=over_b32 zer32_len (be32_len x18)
 refine wp_region_num 6 [0,1,2,3,4] [5] (fun _=>.cells (AB zer32) 24) (by kernel_rfl) (by kernel_rfl) (by kernel_rfl) (by kernel_rfl) ?hal ?h
 case hal =>
  intro k hk o ho
  simp only [List.mem_cons,List.not_mem_nil,or_false] at hk
  subst hk
  ·cases ho; exact alF_of _ (fun _ _=>by kernel_rfl)
 case h =>
 apply Exists.intro
 refine ⟨fun R=>?_,?_⟩
 ·simp only [List.map_cons,List.map_nil,List.getD_cons_zero,List.getD_cons_succ]
  (first | go_big_quiet_skip | (go_big_quiet_want; go_big_quiet_op; first | go_big_quiet_on | (refine ⟨_,fun _ _=>rfl,?_⟩; go_big_quiet_on)))
  (go_big_quiet_want; apply qn_load at_b32 rfl rfl i2_3 (hp_b HLS.out.2); (simp only [Act.put,lS]; go_big_quiet_on))
  (go_big_quiet_want; refine qa_call _ _ ?_ _ (fun w' hb=>of_x HLS.out.2 H17.out) ?_; (focus (intro w; simp [go_sem]; done)); (simp only [Act.put,lS]; go_big_quiet_on))
  (go_big_quiet_want; refine qa_call _ _ ?_ _ (fun w' hb=>rest_x (HM.out _ (hB2.trans (hb.mono hB2.size))) b_x17 H18.out) ?_; (focus (intro w; simp [go_sem]; done)); (simp only [Act.put,lS]; go_big_quiet_on))
  (go_big_quiet_want; refine qa_call _ _ ?_ _ (fun w' hb=>bytes_any w' x18) ?_; (focus (intro w; simp [go_sem]; done)); (simp only [Act.put,lS]; go_big_quiet_on))
  exact wpQuiet_nil rfl
 ·refine wpAl_consP rfl ?_
  intro g7 hg7 nng7
  intro w2 hcc
  have ne_2_g7 : w.heap.size ≠ g7:=by have:=i2_2.lt; omega
  have ne_3_g7 : (w.heap.size + 1) ≠ g7:=by have:=i2_3.lt; omega
  have ne_4_g7 : (w.heap.size + 1 + 1) ≠ g7:=by have:=i2_4.lt; omega
  replace i2_2:=i2_2.below hcc.1 i2_2.lt
  replace i2_3:=i2_3.below hcc.1 i2_3.lt
  replace i2_4:=i2_4.below hcc.1 i2_4.lt
  have j_7 : Row w2 g7 24 (AB zer32):=.of_heap (hcc.2 g7 _ (by simp [upd]))
  have hg_le : W0.heap.size ≤ w2.heap.size:=Nat.le_trans hB2.size hcc.1.size
  have lb_g7 : W0.heap.size ≤ g7:=Nat.le_trans hB2.size hg7
  replace hB2:=hB2.trans (hcc.1.mono hB2.size)
  clear hcc hg_le hg7 nng7
  have lt_7:=j_7.lt
  go_upto_region 3 with (fail)
  refine at_world (fun W=>Row W w.heap.size 24 (AB sec) ∧ Row W (w.heap.size + 1) 24 (AB sum) ∧ Row W (w.heap.size + 1 + 1) 24 (AB zer32) ∧ Row W g7 24 (AB (be32 x18)) ∧ Below W0.heap.size W0 W) (⟨(i2_2.setRowOther _ _ (by omega)),(i2_3.setRowOther _ _ (by omega)),(i2_4.setRowOther _ _ (by omega)),(j_7.setRow _),(bSetRow hB2 lb_g7 _)⟩) ?_
  clear i2_2 i2_3 i2_4 j_7 lt_7 z1 z2 z3 hB2
  rintro W3 ⟨i3_2,i3_3,i3_4,i3_7,hB3⟩
  obtain ⟨hh,hhh⟩ : ∃ q_,q_ = be32 x18:=⟨_,rfl⟩
  rw [← hhh] at i3_7
  have HHH:=Lib.hid (⟨hhh,(by rw [hhh]; exact be32_len _)⟩ : hh = be32 x18 ∧ hh.length = 32)
  clear hhh
  go_wp2_with fail
  refine (repeat_any _ _ 1 32 (Row.slW (l:=[1]) (t:=5) (Row.new _ _ _) (by decide)) (by decide) (by decide)).mono ?_
  rintro e W6 ⟨v,rfl,ho,hB6⟩
  replace i3_2:=(i3_2.alloc _).below hB6 (i3_2.alloc _).lt
  replace i3_3:=(i3_3.alloc _).below hB6 (i3_3.alloc _).lt
  replace i3_4:=(i3_4.alloc _).below hB6 (i3_4.alloc _).lt
  replace i3_7:=(i3_7.alloc _).below hB6 (i3_7.alloc _).lt
  replace hB3:=(hB3.alloc hB3.size _).trans (hB6.mono (by have:=hB3.size; simp; omega))
  obtain ⟨bo,oo,co,cu,hv,hro,c1,c2,hpo⟩:=ho.part (m:=ones32) (k:=0) rfl (by decide) (by decide)
  rw [show (List.replicate 32 (1 : UInt8)).length = 32 from rfl] at hv c1
  subst hv
  have zo1 : oo + 32 ≤ cu.size:=hpo.1
  have zo2 : sub cu oo 32 = AB ones32:=hpo.2
  have zo3:=size_b32 (show ones32.length = 32 from rfl)
  have zo4:=over_b32 zer32_len (show ones32.length = 32 from rfl)
  rw [zer32_eq] at zo4
  clear hB6 ho hpo c1
  have lro:=hro.lt
  go_upto_region 4 with (fail)
  obtain ⟨g8,hg8⟩ : ∃ q_,q_ = W6.heap.size:=⟨_,rfl⟩
  obtain ⟨g9,hg9⟩ : ∃ q_,q_ = W6.heap.size + 1:=⟨_,rfl⟩
  rw [← hg9,← hg8]
  have HNE:=Lib.hid (show W0.heap.size ≤ g9 ∧ w.heap.size ≠ g8 ∧ w.heap.size + 1 + 1 ≠ g8 ∧ g7 ≠ g8 ∧ w.heap.size ≠ g9 ∧ w.heap.size + 1 + 1 ≠ g9 ∧ g7 ≠ g9 ∧ g8 ≠ g9 ∧ W0.heap.size ≤ g8 from by have:=hB3.size; have:=i3_2.lt; have:=i3_4.lt; have:=i3_7.lt; omega)
  refine at_world (fun W=>Row W w.heap.size 24 (AB sec) ∧ Row W (w.heap.size + 1 + 1) 24 (AB zer32) ∧ Row W g7 24 (AB hh) ∧ Row W g8 24 (AB zer32) ∧ Row W g9 24 (AB ones32) ∧ Below W0.heap.size W0 W) (⟨((((i3_2.alloc _).alloc _).setRowOther _ _ (by have:=HNE.out; omega)).setRowOther _ _ (by have:=HNE.out; omega)),((((i3_4.alloc _).alloc _).setRowOther _ _ (by have:=HNE.out; omega)).setRowOther _ _ (by have:=HNE.out; omega)),((((i3_7.alloc _).alloc _).setRowOther _ _ (by have:=HNE.out; omega)).setRowOther _ _ (by have:=HNE.out; omega)),(by rw [zer32_eq]; exact (((Row.newAt _ g8 _ _ hg8).alloc _).setRow _).setRowOther _ _ (by have:=HNE.out; omega)),((((Row.newAt _ g9 _ _ (by simp; omega))).setRowOther _ _ (by have:=HNE.out; omega)).setRow _),(bSetRow (bSetRow ((hB3.alloc hB3.size _).alloc (by have:=hB3.size; simp; omega) _) (by have:=HNE.out; omega) _) (by have:=HNE.out; omega) _)⟩) ?_
  clear i3_2 i3_4 i3_7 i3_3 zo1 zo2 zo3 zo4 lro hro c2 hB3
  rintro W4 ⟨i4_2,i4_4,i4_7,i4_8,i4_9,hB4⟩
  clear hg8 hg9
  go_wp2_with fail
  have lb_g9 : W0.heap.size ≤ g9:=by have:=HNE.out; omega
  have lb_g8 : W0.heap.size ≤ g8:=by have:=HNE.out; omega
  go_loopg [25] 2 (fun gk t25 wr=>∃ i : Nat,gk + i = 2 ∧ t25 = .int .i64 (i:Int) ∧ Row wr g8 24 (AB (nkv sec hh i).1) ∧ Row wr g9 24 (AB (nkv sec hh i).2) ∧ Row wr w.heap.size 24 (AB sec) ∧ Row wr (w.heap.size + 1 + 1) 24 (AB zer32) ∧ Row wr g7 24 (AB hh) ∧ Below W0.heap.size W0 wr)
  case atStart=>exact ⟨0,rfl,rfl,i4_8,i4_9,i4_2,i4_4,i4_7,hB4⟩
  case round =>
   clear i4_8 i4_9 i4_2 i4_4 i4_7 hB4
   obtain ⟨i,hi,rfl,r8,r9,r2,r4,r7,hB⟩:=hrel
   by_cases h2 : i < 2
   ·have i1 : (i:Int) < 2:=by omega
    have i0 : (0 : Int) ≤ (i:Int):=by omega
    obtain ⟨K,hK⟩ : ∃ q_,q_ = (nkv sec hh i).1:=⟨_,rfl⟩
    obtain ⟨V,hV⟩ : ∃ q_,q_ = (nkv sec hh i).2:=⟨_,rfl⟩
    obtain ⟨xi,hxi⟩ : ∃ q_,q_ = UInt8.ofNat i:=⟨_,rfl⟩
    have u1:=u8wr i (i:Int) rfl
    rw [← hxi] at u1
    have HKV:=Lib.hid (show K = (nkv sec hh i).1 ∧ V = (nkv sec hh i).2 ∧ K.length = 32 ∧ V.length = 32 from ⟨hK,hV,by rw [hK]; exact nkv_len1 _ _ _,by rw [hV]; exact nkv_len2 _ _ _⟩)
    have HXI:=Lib.hid (⟨hxi,hi,h2⟩ : _ ∧ _ ∧ _)
    rw [← hK] at r8
    rw [← hV] at r9
    clear hK hV hi h2 hxi
    obtain ⟨_,n1,n2,n3,n4,n5,n6,n7,_⟩:=HNE.out
    go_upto_region 7 with (fail)
    refine at_world (fun W=>Row W w.heap.size 24 (AB sec) ∧ Row W (w.heap.size + 1 + 1) 24 (AB zer32) ∧ Row W g7 24 (AB hh) ∧ Row W g8 24 (AB K) ∧ Row W g9 24 (AB V) ∧ Below W0.heap.size W0 W) (⟨r2,r4,r7,r8,r9,hB⟩) ?_
    clear r2 r4 r7 r8 r9 hB
    rintro W5 ⟨i5_2,i5_4,i5_7,i5_8,i5_9,hB5⟩
    replace i5_2:=i5_2.drew
    replace i5_4:=i5_4.drew
    replace i5_7:=i5_7.drew
    replace i5_8:=i5_8.drew
    replace i5_9:=i5_9.drew
    replace hB5:=hB5.drew
    obtain ⟨wz,hwz⟩ : ∃ q_,q_ = w.heap.size:=⟨_,rfl⟩
    refine wp_region_free 8 [32,35] (fun d v w'=>if d = 32 then ∃ g,v = .slice (some ⟨g,0,none⟩) 1 1 ∧ Row w' g 5 (AB [xi]) else ∃ g a,v = .slice (some ⟨g,0,none⟩) 4 4 ∧ Row w' g 22 #[.slice (some ⟨g9,0,none⟩) 32 32,.slice (some ⟨a,0,none⟩) 1 1,.slice (some ⟨wz,0,none⟩) 32 32,.slice (some ⟨g7,0,none⟩) 32 32] ∧ Row w' a 5 (AB [xi])) (by kernel_rfl) (by kernel_rfl) (by kernel_rfl) ?hst ?h
    case hst =>
     intro d v w w' h hb
     by_cases e : d = 32
     ·rw [if_pos e] at h ⊢
      obtain ⟨g,h1,h2⟩:=h
      exact ⟨g,h1,h2.below hb h2.lt⟩
     ·rw [if_neg e] at h ⊢
      obtain ⟨g,a,h1,h2,h3⟩:=h
      exact ⟨g,a,h1,h2.below hb h2.lt,h3.below hb h3.lt⟩
    case h =>
    simp only [List.take_succ_cons,List.take_zero,List.drop_succ_cons,List.drop_zero]
    apply Exists.intro
    apply Exists.intro
    refine ⟨?_,?_,?_⟩
    ·intro ν
     iterate 4 (apply wpF_q rfl; focus (intro C hC hG; (first | go_big_quiet_skip | (go_big_quiet_want; go_big_quiet_op; first | go_big_quiet_on | (refine ⟨_,fun _ _=>rfl,?_⟩; go_big_quiet_on)) | (go_big_quiet_want; apply qf_load1 _ _ rfl _ _ rfl; (exact hC); rotate_left 1; (focus (intro _; simp [go_sem]; done)); rotate_right 1; assumption; assumption; (simp only [Act.put,lS]; go_big_quiet_on)) | (go_big_quiet_want; apply qf_loadA _ _ rfl _ _ rfl (sz:=32); (exact hC); rotate_left 1; (focus (intro _; simp [go_sem]; done)); (focus (intro _; simp [go_sem]; done)); rotate_right 1; assumption; assumption; assumption; (simp only [Act.put,lS]; go_big_quiet_on))); exact wpQuiet_nil rfl))
     apply wpF_alloc rfl rfl
     ·intro w hb _
      refine ⟨.slice (some ⟨w.heap.size,0,none⟩) 1 1,w.alloc (.cells #[B xi] 5),by simp [go_sem],?_,(Below.refl _ w).alloc (Nat.le_refl _) _⟩
      intro d hd
      cases hd
      rw [if_pos rfl]
      exact ⟨_,rfl,Row.new _ _ _⟩
     simp only [Act.put,vqF,pS]
     iterate 2 (apply wpF_q rfl; focus (intro C hC hG; (first | go_big_quiet_skip | (go_big_quiet_want; go_big_quiet_op; first | go_big_quiet_on | (refine ⟨_,fun _ _=>rfl,?_⟩; go_big_quiet_on)) | (go_big_quiet_want; apply qf_load1 _ _ rfl _ _ rfl; (exact hC); rotate_left 1; (focus (intro _; simp [go_sem]; done)); rotate_right 1; assumption; assumption; (simp only [Act.put,lS]; go_big_quiet_on)) | (go_big_quiet_want; apply qf_loadA _ _ rfl _ _ rfl (sz:=32); (exact hC); rotate_left 1; (focus (intro _; simp [go_sem]; done)); (focus (intro _; simp [go_sem]; done)); rotate_right 1; assumption; assumption; assumption; (simp only [Act.put,lS]; go_big_quiet_on))); exact wpQuiet_nil rfl))
     apply wpF_alloc rfl rfl
     ·intro w5 hb hd
      have h32:=hd 32 (by decide) rfl
      rw [if_pos rfl] at h32
      obtain ⟨a,ha,hra⟩:=h32
      refine ⟨.slice (some ⟨w5.heap.size,0,none⟩) 4 4,w5.alloc (.cells #[.slice (some ⟨g9,0,none⟩) 32 32,.slice (some ⟨a,0,none⟩) 1 1,.slice (some ⟨wz,0,none⟩) 32 32,.slice (some ⟨g7,0,none⟩) 32 32] 22),by simp [go_sem,ha,hwz],?_,(Below.refl _ w5).alloc (Nat.le_refl _) _⟩
      intro d hd
      cases hd
      rw [if_neg (by decide)]
      exact ⟨_,a,rfl,Row.new _ _ _,hra.alloc _⟩
     simp only [Act.put,vqF,pS]
     exact wpF_nil ⟨rfl,rfl⟩
    ·intro ν ν'
     kernel_rfl
    ·intro ν w5 hw5 hf
     have h35:=hf 35 (by decide)
     rw [if_neg (by decide)] at h35
     obtain ⟨gp,a,hgp,hrp,hra⟩:=h35
     simp only [hgp]
     replace i5_2:=i5_2.below hw5 i5_2.lt
     replace i5_4:=i5_4.below hw5 i5_4.lt
     replace i5_7:=i5_7.below hw5 i5_7.lt
     replace i5_8:=i5_8.below hw5 i5_8.lt
     replace i5_9:=i5_9.below hw5 i5_9.lt
     replace hB5:=hB5.trans (hw5.mono hB5.size)
     subst hwz
     clear hw5 hf hgp
     have HPW:=Lib.hid (parts_four hrp i5_9 hra i5_2 i5_7 HKV.out.2.2.2 HLS.out.1 HHH.out.2)
     go_wp2_with fail
     refine (mof_any w5 (.slice (some ⟨g8,0,none⟩) 32 32) (.slice (some ⟨gp,0,none⟩) 4 4) K [V,[xi],sec,hh] (HHW.out _ hB5) (slb32 i5_8 HKV.out.2.2.1) (by rw [HKV.out.2.2.1]; decide) HPW.out (by simp [HKV.out.2.2.2,HLS.out.1,HHH.out.2]) (by simp)).mono ?_
     rintro e w6 ⟨rfl,hB6⟩
     replace i5_2:=i5_2.below hB6 i5_2.lt
     replace i5_4:=i5_4.below hB6 i5_4.lt
     replace i5_7:=i5_7.below hB6 i5_7.lt
     replace i5_8:=i5_8.below hB6 i5_8.lt
     replace i5_9:=i5_9.below hB6 i5_9.lt
     replace hB5:=hB5.trans (hB6.mono hB5.size)
     clear hB6 hrp hra
     obtain ⟨M6,hM6⟩ : ∃ q_,q_ = macS K (V ++ [xi] ++ sec ++ hh):=⟨_,rfl⟩
     have em6 : macS K [V,[xi],sec,hh].flatten = M6:=by rw [hM6]; simp
     rw [em6]
     have HM6:=Lib.hid (show M6 = macS K (V ++ [xi] ++ sec ++ hh) ∧ M6.length = 32 from ⟨hM6,by rw [hM6]; exact macS_len _ _⟩)
     clear hM6 em6
     have zm1:=size_b32 HM6.out.2
     have zm2:=size_b32 HKV.out.2.2.1
     have zm3:=over_b32 HKV.out.2.2.1 HM6.out.2
     have lt_8:=i5_8.lt
     go_upto_region 8 with (fail)
     refine at_world (fun W=>Row W w.heap.size 24 (AB sec) ∧ Row W (w.heap.size + 1 + 1) 24 (AB zer32) ∧ Row W g7 24 (AB hh) ∧ Row W g8 24 (AB M6) ∧ Row W g9 24 (AB V) ∧ Below W0.heap.size W0 W) (⟨(i5_2.setRowOther _ _ (by omega)),(i5_4.setRowOther _ _ (by omega)),(i5_7.setRowOther _ _ (by omega)),(i5_8.setRow _),(i5_9.setRowOther _ _ (by omega)),(bSetRow hB5 lb_g8 _)⟩) ?_
     clear i5_2 i5_4 i5_7 i5_8 i5_9 zm1 zm2 zm3 lt_8 hB5
     rintro W7 ⟨i7_2,i7_4,i7_7,i7_8,i7_9,hB7⟩
     replace i7_2:=i7_2.drew
     replace i7_4:=i7_4.drew
     replace i7_7:=i7_7.drew
     replace i7_8:=i7_8.drew
     replace i7_9:=i7_9.drew
     replace hB7:=hB7.drew
     refine wp_region_free 3 [39] (fun d v w'=>∃ g,v = .slice (some ⟨g,0,none⟩) 1 1 ∧ Row w' g 22 #[.slice (some ⟨g9,0,none⟩) 32 32]) (by kernel_rfl) (by kernel_rfl) (by kernel_rfl) ?hst ?h
     case hst =>
      rintro d v w w' ⟨g,h1,h2⟩ hb
      exact ⟨g,h1,h2.below hb h2.lt⟩
     case h =>
     simp only [List.take_succ_cons,List.take_zero,List.drop_succ_cons,List.drop_zero]
     apply Exists.intro
     apply Exists.intro
     refine ⟨?_,?_,?_⟩
     ·intro ν
      iterate 2 (apply wpF_q rfl; focus (intro C hC hG; (first | go_big_quiet_skip | (go_big_quiet_want; go_big_quiet_op; first | go_big_quiet_on | (refine ⟨_,fun _ _=>rfl,?_⟩; go_big_quiet_on)) | (go_big_quiet_want; apply qf_load1 _ _ rfl _ _ rfl; (exact hC); rotate_left 1; (focus (intro _; simp [go_sem]; done)); rotate_right 1; assumption; assumption; (simp only [Act.put,lS]; go_big_quiet_on)) | (go_big_quiet_want; apply qf_loadA _ _ rfl _ _ rfl (sz:=32); (exact hC); rotate_left 1; (focus (intro _; simp [go_sem]; done)); (focus (intro _; simp [go_sem]; done)); rotate_right 1; assumption; assumption; assumption; (simp only [Act.put,lS]; go_big_quiet_on))); exact wpQuiet_nil rfl))
      apply wpF_alloc rfl rfl
      ·intro w hb _
       refine ⟨.slice (some ⟨w.heap.size,0,none⟩) 1 1,w.alloc (.cells #[.slice (some ⟨g9,0,none⟩) 32 32] 22),by simp [go_sem],?_,(Below.refl _ w).alloc (Nat.le_refl _) _⟩
       intro d hd
       cases hd
       exact ⟨_,rfl,Row.new _ _ _⟩
      simp only [Act.put,vqF,pS]
      exact wpF_nil ⟨rfl,rfl⟩
     ·intro ν ν'
      kernel_rfl
     ·intro ν w5 hw5 hf
      obtain ⟨gp,hgp,hrp⟩:=hf 39 (by decide)
      simp only [hgp]
      replace i7_2:=i7_2.below hw5 i7_2.lt
      replace i7_4:=i7_4.below hw5 i7_4.lt
      replace i7_7:=i7_7.below hw5 i7_7.lt
      replace i7_8:=i7_8.below hw5 i7_8.lt
      replace i7_9:=i7_9.below hw5 i7_9.lt
      replace hB7:=hB7.trans (hw5.mono hB7.size)
      clear hw5 hf hgp
      go_wp2_with fail
      refine (mof_any w5 (.slice (some ⟨g8,0,none⟩) 32 32) (.slice (some ⟨gp,0,none⟩) 1 1) M6 [V] (HHW.out _ hB7) (slb32 i7_8 HM6.out.2) (by rw [HM6.out.2]; decide) (parts_one hrp i7_9 HKV.out.2.2.2) (by simp [HKV.out.2.2.2]) (by simp)).mono ?_
      rintro e w6 ⟨rfl,hB6⟩
      replace i7_2:=i7_2.below hB6 i7_2.lt
      replace i7_4:=i7_4.below hB6 i7_4.lt
      replace i7_7:=i7_7.below hB6 i7_7.lt
      replace i7_8:=i7_8.below hB6 i7_8.lt
      replace i7_9:=i7_9.below hB6 i7_9.lt
      replace hB7:=hB7.trans (hB6.mono hB7.size)
      clear hB6 hrp
      obtain ⟨M8,hM8⟩ : ∃ q_,q_ = macS M6 (V):=⟨_,rfl⟩
      have em8 : macS M6 [V].flatten = M8:=by rw [hM8]; simp
      rw [em8]
      have HM8:=Lib.hid (show M8 = macS M6 (V) ∧ M8.length = 32 from ⟨hM8,by rw [hM8]; exact macS_len _ _⟩)
      clear hM8 em8
      have zm1:=size_b32 HM8.out.2
      have zm2:=size_b32 HKV.out.2.2.2
      have zm3:=over_b32 HKV.out.2.2.2 HM8.out.2
      have lt_9:=i7_9.lt
      go_wp2_with fail
      go_roundg (gk - 1)
      case measure=>have:=HXI.out; omega
      case rel =>
       have e1 : (nkv sec hh (i + 1)).1 = M6:=by rw [HM6.out.1,HKV.out.1,HKV.out.2.1,HXI.out.1]; rfl
       have e2 : (nkv sec hh (i + 1)).2 = M8:=by rw [HM8.out.1,← e1,HKV.out.2.1]; rfl
       exact ⟨i + 1,by have:=HXI.out; omega,by go_num,by rw [e1]; exact (i7_8.setRowOther _ _ (by omega)),by rw [e2]; exact (i7_9.setRow _),(i7_2.setRowOther _ _ (by omega)),(i7_4.setRowOther _ _ (by omega)),(i7_7.setRowOther _ _ (by omega)),(bSetRow hB7 lb_g9 _)⟩
   ·obtain rfl : i = 2:=by omega
    have i1 : ¬ ((2 : Nat) : Int) < 2:=by omega
    obtain ⟨K,hK⟩ : ∃ q_,q_ = (nkv sec hh 2).1:=⟨_,rfl⟩
    obtain ⟨V,hV⟩ : ∃ q_,q_ = (nkv sec hh 2).2:=⟨_,rfl⟩
    have HKV:=Lib.hid (show K = (nkv sec hh 2).1 ∧ V = (nkv sec hh 2).2 ∧ K.length = 32 ∧ V.length = 32 from ⟨hK,hV,by rw [hK]; exact nkv_len1 _ _ _,by rw [hV]; exact nkv_len2 _ _ _⟩)
    rw [← hK] at r8
    rw [← hV] at r9
    clear hK hV hi h2
    obtain ⟨_,n1,n2,n3,n4,n5,n6,n7,_⟩:=HNE.out
    go_wp2_with fail
    go_loopg [] 0 (fun gk wr=>gk = 0 ∧ Row wr g8 24 (AB K) ∧ Row wr g9 24 (AB V) ∧ Row wr w.heap.size 24 (AB sec) ∧ Row wr (w.heap.size + 1 + 1) 24 (AB zer32) ∧ Row wr g7 24 (AB hh) ∧ Below W0.heap.size W0 wr)
    case atStart=>exact ⟨rfl,r8,r9,r2,r4,r7,hB⟩
    case round =>
     clear r8 r9 r2 r4 r7 hB
     obtain ⟨_,r8,r9,r2,r4,r7,hB⟩:=hrel
     go_upto_region 10 with (fail)
     refine at_world (fun W=>Row W w.heap.size 24 (AB sec) ∧ Row W (w.heap.size + 1 + 1) 24 (AB zer32) ∧ Row W g7 24 (AB hh) ∧ Row W g8 24 (AB K) ∧ Row W g9 24 (AB V) ∧ Below W0.heap.size W0 W) (⟨r2,r4,r7,r8,r9,hB⟩) ?_
     clear r2 r4 r7 r8 r9 hB
     rintro W5 ⟨i5_2,i5_4,i5_7,i5_8,i5_9,hB5⟩
     replace i5_2:=i5_2.drew
     replace i5_4:=i5_4.drew
     replace i5_7:=i5_7.drew
     replace i5_8:=i5_8.drew
     replace i5_9:=i5_9.drew
     replace hB5:=hB5.drew
     refine wp_region_free 3 [44] (fun d v w'=>∃ g,v = .slice (some ⟨g,0,none⟩) 1 1 ∧ Row w' g 22 #[.slice (some ⟨g9,0,none⟩) 32 32]) (by kernel_rfl) (by kernel_rfl) (by kernel_rfl) ?hst ?h
     case hst =>
      rintro d v w w' ⟨g,h1,h2⟩ hb
      exact ⟨g,h1,h2.below hb h2.lt⟩
     case h =>
     simp only [List.take_succ_cons,List.take_zero,List.drop_succ_cons,List.drop_zero]
     apply Exists.intro
     apply Exists.intro
     refine ⟨?_,?_,?_⟩
     ·intro ν
      iterate 2 (apply wpF_q rfl; focus (intro C hC hG; (first | go_big_quiet_skip | (go_big_quiet_want; go_big_quiet_op; first | go_big_quiet_on | (refine ⟨_,fun _ _=>rfl,?_⟩; go_big_quiet_on)) | (go_big_quiet_want; apply qf_load1 _ _ rfl _ _ rfl; (exact hC); rotate_left 1; (focus (intro _; simp [go_sem]; done)); rotate_right 1; assumption; assumption; (simp only [Act.put,lS]; go_big_quiet_on)) | (go_big_quiet_want; apply qf_loadA _ _ rfl _ _ rfl (sz:=32); (exact hC); rotate_left 1; (focus (intro _; simp [go_sem]; done)); (focus (intro _; simp [go_sem]; done)); rotate_right 1; assumption; assumption; assumption; (simp only [Act.put,lS]; go_big_quiet_on))); exact wpQuiet_nil rfl))
      apply wpF_alloc rfl rfl
      ·intro w hb _
       refine ⟨.slice (some ⟨w.heap.size,0,none⟩) 1 1,w.alloc (.cells #[.slice (some ⟨g9,0,none⟩) 32 32] 22),by simp [go_sem],?_,(Below.refl _ w).alloc (Nat.le_refl _) _⟩
       intro d hd
       cases hd
       exact ⟨_,rfl,Row.new _ _ _⟩
      simp only [Act.put,vqF,pS]
      exact wpF_nil ⟨rfl,rfl⟩
     ·intro ν ν'
      kernel_rfl
     ·intro ν w5 hw5 hf
      obtain ⟨gp,hgp,hrp⟩:=hf 44 (by decide)
      simp only [hgp]
      replace i5_2:=i5_2.below hw5 i5_2.lt
      replace i5_4:=i5_4.below hw5 i5_4.lt
      replace i5_7:=i5_7.below hw5 i5_7.lt
      replace i5_8:=i5_8.below hw5 i5_8.lt
      replace i5_9:=i5_9.below hw5 i5_9.lt
      replace hB5:=hB5.trans (hw5.mono hB5.size)
      clear hw5 hf hgp
      go_wp2_with fail
      refine (mof_any w5 (.slice (some ⟨g8,0,none⟩) 32 32) (.slice (some ⟨gp,0,none⟩) 1 1) K [V] (HHW.out _ hB5) (slb32 i5_8 HKV.out.2.2.1) (by rw [HKV.out.2.2.1]; decide) (parts_one hrp i5_9 HKV.out.2.2.2) (by simp [HKV.out.2.2.2]) (by simp)).mono ?_
      rintro e w6 ⟨rfl,hB6⟩
      replace i5_2:=i5_2.below hB6 i5_2.lt
      replace i5_4:=i5_4.below hB6 i5_4.lt
      replace i5_7:=i5_7.below hB6 i5_7.lt
      replace i5_8:=i5_8.below hB6 i5_8.lt
      replace i5_9:=i5_9.below hB6 i5_9.lt
      replace hB5:=hB5.trans (hB6.mono hB5.size)
      clear hB6 hrp
      obtain ⟨M6,hM6⟩ : ∃ q_,q_ = macS K (V):=⟨_,rfl⟩
      have em6 : macS K [V].flatten = M6:=by rw [hM6]; simp
      rw [em6]
      have HM6:=Lib.hid (show M6 = macS K (V) ∧ M6.length = 32 from ⟨hM6,by rw [hM6]; exact macS_len _ _⟩)
      clear hM6 em6
      have zm1:=size_b32 HM6.out.2
      have zm2:=size_b32 HKV.out.2.2.2
      have zm3:=over_b32 HKV.out.2.2.2 HM6.out.2
      have lt_9:=i5_9.lt
      go_upto_region 11 with (fail)
      refine at_world (fun W=>Row W w.heap.size 24 (AB sec) ∧ Row W (w.heap.size + 1 + 1) 24 (AB zer32) ∧ Row W g7 24 (AB hh) ∧ Row W g8 24 (AB K) ∧ Row W g9 24 (AB M6) ∧ Below W0.heap.size W0 W) (⟨(i5_2.setRowOther _ _ (by omega)),(i5_4.setRowOther _ _ (by omega)),(i5_7.setRowOther _ _ (by omega)),(i5_8.setRowOther _ _ (by omega)),(i5_9.setRow _),(bSetRow hB5 lb_g9 _)⟩) ?_
      clear i5_2 i5_4 i5_7 i5_8 i5_9 zm1 zm2 zm3 lt_9 hB5
      rintro W7 ⟨i7_2,i7_4,i7_7,i7_8,i7_9,hB7⟩
      have zq1:=size_b32 HM6.out.2
      have zq2:=sub_all (AB M6) 32 zq1
      have zq3:=over_b32 zer32_len HM6.out.2
      have zq4:=size_b32 zer32_len
      go_wp2_with fail
      have HEQ:=Lib.hid (show M6 = macS (nkv sec (be32 (natB sum % m)) 2).1 (nkv sec (be32 (natB sum % m)) 2).2 from by rw [HM6.out.1,HKV.out.1,HKV.out.2.1,HHH.out.1,H18.out,H17.out])
      refine (fine_yes (HGO.out _ hB7) HL.out HMK.out HM6.out.2 (by rw [HEQ.out]; exact HFI.out.1) (by rw [HEQ.out]; exact HFI.out.2)).mono ?_
      rintro e w7 ⟨rfl,hBq⟩
      replace i7_9:=i7_9.below hBq i7_9.lt
      replace i7_4:=i7_4.below hBq i7_4.lt
      replace hB7:=hB7.trans (hBq.mono hB7.size)
      have l4:=i7_4.lt
      have l9:=i7_9.lt
      clear hBq i7_2 i7_7 i7_8
      go_wp2_with fail
      exact ret_row (by first | exact .inl rfl | exact .inr rfl) rfl (w.heap.size + 1 + 1) 24 (AB M6) 32 _ rfl (i7_4.setRow _) Tryz.underlying24 rfl (by kernel_rfl) zq1 ⟨by rw [HEQ.out],bSetRow (HA.out.trans (hB7.mono HA.out.size)) (by omega) _⟩
end Go.Proofs.YtjpfhhndjpdmoaaGreatDoor
