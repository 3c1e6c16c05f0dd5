/- Part of the proof: Sum,Hof,MacPad,Conv. No conditions of its own. -/
import Derived.Test.YtjpfhhndjpdmoaaGreatDoorS21
import Derived.Laws.CopyOwn
import Derived.Deep.Draws
namespace Go.Proofs.YtjpfhhndjpdmoaaGreatDoor
open Go.RowKit
set_option linter.unusedVariables false
set_option linter.unusedSimpArgs false

def l8P (n r:Nat) : List UInt8:=(List.range r).map fun j=>UInt8.ofNat (n * 8 / 2 ^ (56 - 8 * j))
theorem l8P_len (n r:Nat) : (l8P n r).length = r:=by simp [l8P]
theorem l8P_step (n r:Nat) : l8P n r ++ [UInt8.ofNat (n * 8 / 2 ^ (56 - 8 * r))] = l8P n (r + 1):=by simp [l8P,List.range_succ]
def endS (L:List UInt8) : List UInt8:=(waitS L ++ [0x80] ++ List.replicate ((119 - L.length % 64) % 64) 0) ++ l8P L.length 8
theorem padS_end (L:List UInt8) : padS L.length L = L.take (64 * (L.length / 64)) ++ endS L:=by
 unfold padS endS waitS l8P
 simp only [List.append_assoc,List.cons_append,List.nil_append]
 rw [← List.append_assoc (List.take _ L),List.take_append_drop]
theorem endS_len (L:List UInt8) : (endS L).length = L.length % 64 + 1 + (119 - L.length % 64) % 64 + 8:=by
 unfold endS
 simp only [List.length_append,waitS_len,List.length_cons,List.length_nil,List.length_replicate,l8P_len]
theorem endS_64 (L:List UInt8) : (endS L).length % 64 = 0:=by rw [endS_len]; omega
theorem pressAll_end (L:List UInt8) : pressAll startS ((padS L.length L).length / 64) (padS L.length L) = pressAll (hS L) ((endS L).length / 64) (endS L):=by
 have h1 : (padS L.length L).length = 64 * (L.length / 64) + (endS L).length:=by
  rw [padS_end,List.length_append,List.length_take]; omega
 have h2 : (padS L.length L).length / 64 = L.length / 64 + (endS L).length / 64:=by rw [h1]; omega
 rw [h2,pressAll_add]
 congr 1
 ·unfold hS
  have e : padS L.length L = L ++ (0x80 :: (List.replicate ((119 - L.length % 64) % 64) 0 ++ l8P L.length 8)):=rfl
  rw [e,pressAll_pre _ _ _ _ (by omega)]
 ·rw [padS_end,List.drop_append_of_le_length (by rw [List.length_take]; omega),List.drop_eq_nil_of_le (by rw [List.length_take]; omega)]
  rfl
theorem SlB.dropW {w:World} {b o c n:Nat} {l:List UInt8} (h:SlB w (.slice (some ⟨b,o,none⟩) l.length c) l) (hn:n ≤ l.length) : SlB w (.slice (some ⟨b,o + n,none⟩) (l.length - n) (c - n)) (l.drop n):=by
 obtain ⟨a',cap,e,h1,h2,h3,h4⟩:=h
 obtain ⟨rfl,_,rfl⟩:=Value.slice.inj e
 refine ⟨_,_,by rw [List.length_drop],by rw [List.length_drop]; omega,by omega,(fun e=>by cases e),fun ad had=>?_⟩
 obtain rfl:=Option.some.inj had
 refine ⟨rfl,fun i hi=>?_⟩
 rw [List.length_drop] at hi
 have:=(h4 _ rfl).2 (n + i) (by omega)
 show w.cell? ⟨b,o + n + i,none⟩ = _
 rw [Nat.add_assoc,this]
 simp [gb]
theorem SlB.zeroW (w:World) (b o:Nat) : SlB w (.slice (some ⟨b,o,none⟩) 0 0) [] :=
 ⟨_,0,rfl,Nat.le_refl _,Nat.zero_le _,(fun h=>by cases h),fun ad had=>by
  obtain rfl:=Option.some.inj had
  exact ⟨rfl,fun i hi=>absurd hi (Nat.not_lt_zero i)⟩⟩
structure SvSt (w:World) (g6:Nat) (v:Value) (l:List UInt8) (H:List UInt32) (wr:World) : Prop where
 r6 : Row wr g6 298 (AD H)
 slb : SlB wr v l
 row : RowN wr w.heap.size 24 32
 bel : Below w.heap.size w wr
 lt : w.heap.size < g6
theorem SvSt.step {w wr w':World} {g6 b o c:Nat} {l:List UInt8} {H:List UInt32} (k:SvSt w g6 (.slice (some ⟨b,o,none⟩) l.length c) l H wr) (hb:Below wr.heap.size wr w') (P:List UInt32) : SvSt w g6 (.slice (some ⟨b,o,none⟩) l.length c) l P (w'.setRow g6 (AD P)):=by
 have hr:=Row.below k.r6 hb k.r6.lt
 have hs:=k.slb.below hb
 have hlt:=k.lt
 refine ⟨hr.setRow _,?_,?_,bSetRow (k.bel.trans (hb.mono k.bel.size)) (Nat.le_of_lt hlt) _,hlt⟩
 ·obtain ⟨a',cap,e,h1,h2,h3,h4⟩:=hs
  refine ⟨a',cap,e,h1,h2,h3,fun ad had=>⟨(h4 ad had).1,fun i hi=>?_⟩⟩
  have hc:=(h4 ad had).2 i hi
  have hne : ad.block ≠ g6:=fun e=>by
   rw [show (⟨ad.block,ad.off + i,none⟩ : Addr) = ⟨g6,ad.off + i,none⟩ by rw [e],hr.cell] at hc
   by_cases hi8 : ad.off + i < H.length
   ·rw [AD_get _ _ hi8] at hc
    simp at hc
   ·rw [Array.getElem?_eq_none (by rw [AD_size]; omega)] at hc
    cases hc
  rw [show (w'.setRow g6 (AD P)).cell? ⟨ad.block,ad.off + i,none⟩ = w'.cell? ⟨ad.block,ad.off + i,none⟩ by simp [World.cell?,setRow_other w' g6 ad.block (AD P) hne]]
  exact hc
 ·obtain ⟨cs,h1,h2⟩:=k.row.below hb k.row.lt
  exact ⟨cs,h1.setRowOther g6 _ (by omega),h2⟩
structure SuSt (w wr:World) (v:Value) (l:List UInt8) : Prop where
 buf : Buf 5 wr w.heap.size v l
 row : RowN wr w.heap.size 24 32
 bel : Below w.heap.size w wr
theorem SuSt.app {w wr w':World} {v v':Value} {l l':List UInt8} {o:Obj} (k:SuSt w wr v l) (hb:Buf 5 w' w.heap.size v' l') (hg:(wr.alloc o).grownBy w' v.ownBlock) : SuSt w w' v' l':=by
 refine ⟨hb,?_,(k.bel.alloc k.bel.size o).grown hg (by have:=k.bel.size; simp; omega) (fun j e=>(k.buf.lt j e).1)⟩
 obtain ⟨cs,h1,h2⟩:=k.row
 refine ⟨cs,?_,h2⟩
 have h3:=h1.alloc o
 exact (row_congr (hg.block _ h3.lt (fun e=>ownsRow_ne k.buf h1 (by decide) e.symm))).trans h3
theorem SuSt.below {w wr w':World} {v:Value} {l:List UInt8} (k:SuSt w wr v l) (hb:Below wr.heap.size wr w') : SuSt w w' v l :=
 ⟨World.ownsRow.kept k.buf (⟨hb.os,hb.tape,hb.output,hb.size,fun j hj _=>hb.block j hj⟩ : wr.grownBy w' none) (by cases v.ownBlock <;> simp),k.row.below hb k.row.lt,k.bel.trans (hb.mono k.bel.size)⟩
def b7 (H:List UInt32) : List UInt8:=bytesS H ++ List.replicate (32 - 4 * H.length) 0
theorem bytesS_len (H:List UInt32) : (bytesS H).length = 4 * H.length:=by
 induction H with
 | nil=>rfl
 | cons x H ih=>rw [show bytesS (x :: H) = [UInt8.ofNat (x.toNat / 16777216),UInt8.ofNat (x.toNat / 65536),UInt8.ofNat (x.toNat / 256),UInt8.ofNat x.toNat] ++ bytesS H from rfl,List.length_append,ih]; simp; omega
theorem shaS_len (l:List UInt8) : (shaS l).length = 32:=by
 unfold shaS; rw [bytesS_len,pressAll_len _ _ rfl]
theorem bytesS_snoc (H:List UInt32) (x:UInt32) : bytesS (H ++ [x]) = bytesS H ++ [UInt8.ofNat (x.toNat / 16777216),UInt8.ofNat (x.toNat / 65536),UInt8.ofNat (x.toNat / 256),UInt8.ofNat x.toNat]:=by
 unfold bytesS; rw [List.flatMap_append]; rfl
theorem b7_len (H:List UInt32) (h:H.length ≤ 8) : (b7 H).length = 32:=by
 unfold b7; rw [List.length_append,bytesS_len,List.length_replicate]; omega
theorem b7_all (H:List UInt32) (h:H.length = 8) : b7 H = bytesS H:=by
 unfold b7; rw [h]; simp
theorem set4 (P Z:List UInt8) (a b c d:UInt8) (n:Nat) (h:P.length = n) : ((((P ++ 0 :: 0 :: 0 :: 0 :: Z).set n a).set (n + 1) b).set (n + 2) c).set (n + 3) d = P ++ a :: b :: c :: d :: Z:=by
 subst h
 simp
theorem b7_step (H:List UInt32) (r:Nat) (h8:H.length = 8) (h:r < 8) : ((((b7 (H.take r)).set (4 * r) (UInt8.ofNat ((gw H r).toNat / 16777216))).set (4 * r + 1) (UInt8.ofNat ((gw H r).toNat / 65536))).set (4 * r + 2) (UInt8.ofNat ((gw H r).toNat / 256))).set (4 * r + 3) (UInt8.ofNat (gw H r).toNat) = b7 (H.take (r + 1)):=by
 have e : H.take (r + 1) = H.take r ++ [gw H r]:=by
  rw [List.take_add_one,gw,List.getD_eq_getElem?_getD,List.getElem?_eq_getElem (by omega)]; rfl
 have l1 : (H.take r).length = r:=by rw [List.length_take]; omega
 rw [e]
 unfold b7
 rw [bytesS_snoc,List.length_append,l1]
 have e2 : List.replicate (32 - 4 * r) (0 : UInt8) = 0 :: 0 :: 0 :: 0 :: List.replicate (32 - 4 * (r + 1)) 0:=by
  rw [show 32 - 4 * r = (32 - 4 * (r + 1)) + 1 + 1 + 1 + 1 by omega]; rfl
 rw [e2,set4 _ _ _ _ _ _ _ (by rw [bytesS_len,l1])]
 simp
theorem zw32 : AB (b7 []) = #[.int .u8 0,.int .u8 0,.int .u8 0,.int .u8 0,.int .u8 0,.int .u8 0,.int .u8 0,.int .u8 0,.int .u8 0,.int .u8 0,.int .u8 0,.int .u8 0,.int .u8 0,.int .u8 0,.int .u8 0,.int .u8 0,.int .u8 0,.int .u8 0,.int .u8 0,.int .u8 0,.int .u8 0,.int .u8 0,.int .u8 0,.int .u8 0,.int .u8 0,.int .u8 0,.int .u8 0,.int .u8 0,.int .u8 0,.int .u8 0,.int .u8 0,.int .u8 0]:=by kernel_rfl
structure S7St (w:World) (g6 g7:Nat) (H Q:List UInt32) (wr:World) : Prop where
 r7 : Row wr g7 24 (AB (b7 Q))
 r6 : Row wr g6 298 (AD H)
 row : RowN wr w.heap.size 24 32
 bel : Below w.heap.size w wr
 lt : w.heap.size < g7
theorem S7St.step4 {w wr:World} {g6 g7 e0 e1 e2 e3:Nat} {H Q Q':List UInt32} {Y:List UInt8} {y0 y1 y2 y3:UInt8} (k:S7St w g6 g7 H Q wr) (hr:Row wr g7 24 (AB Y)) (he:(((Y.set e0 y0).set e1 y1).set e2 y2).set e3 y3 = b7 Q') :
  S7St w g6 g7 H Q' ((((wr.setCell ⟨g7,e0,none⟩ (B y0)).setCell ⟨g7,e1,none⟩ (B y1)).setCell ⟨g7,e2,none⟩ (B y2)).setCell ⟨g7,e3,none⟩ (B y3)):=by
 have hne : g6 ≠ g7:=fun e=>by
  have h1:=k.r6.heap
  rw [e,hr.heap] at h1
  simp only [Option.some.injEq,Obj.cells.injEq] at h1
  exact absurd h1.2.1 (by decide)
 have hlt:=k.lt
 refine ⟨by rw [← he]; exact (((hr.setByte e0 y0).setByte e1 y1).setByte e2 y2).setByte e3 y3,?_,?_,?_,hlt⟩
 ·exact (((k.r6.setOther _ _ hne).setOther _ _ hne).setOther _ _ hne).setOther _ _ hne
 ·have h0 : w.heap.size ≠ g7:=Nat.ne_of_lt hlt
  exact (((k.row.setOther _ _ h0).setOther _ _ h0).setOther _ _ h0).setOther _ _ h0
 ·have h0 : w.heap.size ≤ g7:=Nat.le_of_lt hlt
  exact (((k.bel.setCell h0 _).setCell h0 _).setCell h0 _).setCell h0 _
attribute [local go_sem ↓] stC_8 stC_9
attribute [local go_sem] stC_g8 stC_g9 stC_sz
theorem u8wrapS (n:Nat) : IntKind.u8.wrap (n:Int) = ((UInt8.ofNat n).toNat : Int):=by
 simp [IntKind.wrap,IntKind.bits,IntKind.signed]
set_option maxRecDepth 100000 in
set_option maxHeartbeats 4000000 in
theorem sum_any {tg:TypeId} (w:World) (B0 g:Nat) (v0:Value) (L:List UInt8) (hv:Row w 10 tg (AD roundsS)) (h:StW w B0 g v0 L) (hl:L.length ≤ 1000000) :
  Calls Tryz.prog 163 #[.pointer (some ⟨g,0,none⟩)] w fun e w'=>e = .returned (.agg (AB (shaS L))) ∧ Below w.heap.size w w':=by
 have HS:=Lib.hid h
 have HV:=Lib.hid hv
 obtain ⟨a0,c0,rfl,_⟩:=h.own.slb
 have hg:=Row.lt h.row
 have n2 : (L.length : Int) ≤ 1000000:=by omega
 clear h hv
 go_enter Tryz.func163,Tryz.ntmps163
 go_upto_region 3 with (fail)
 obtain ⟨w0,hw0⟩ : ∃ W,W = w.alloc (.cells #[.int .u8 0,.int .u8 0,.int .u8 0,.int .u8 0,.int .u8 0,.int .u8 0,.int .u8 0,.int .u8 0,.int .u8 0,.int .u8 0,.int .u8 0,.int .u8 0,.int .u8 0,.int .u8 0,.int .u8 0,.int .u8 0,.int .u8 0,.int .u8 0,.int .u8 0,.int .u8 0,.int .u8 0,.int .u8 0,.int .u8 0,.int .u8 0,.int .u8 0,.int .u8 0,.int .u8 0,.int .u8 0,.int .u8 0,.int .u8 0,.int .u8 0,.int .u8 0] 24):=⟨_,rfl⟩
 rw [← hw0]
 have hB0 : Below w.heap.size w w0:=by rw [hw0]; exact (Below.refl _ w).alloc (Nat.le_refl _) _
 have hr0 : RowN w0 w.heap.size 24 32:=by rw [hw0]; exact RowN.newAt w _ _ _ rfl
 have hs0 : w0.heap.size = w.heap.size + 1:=by rw [hw0]; simp
 clear hw0
 have M0:=HS.out.below hB0
 have hr:=M0.row
 have HB0:=Lib.hid hB0
 have HR0:=Lib.hid hr0
 have HW0:=Lib.hid (M0.own.slb.below ((Below.refl _ w0).alloc (Nat.le_refl _) (.cells #[] 5)))
 have hwl : (waitS L).length ≤ 63:=by rw [waitS_len]; omega
 have hsz : w.heap.size ≤ w0.heap.size:=hB0.size
 clear M0 hB0 hr0
 go_wp2_with (at_builtin; refine wpl_appendS rfl (.tmp 13) (.tmp 17) 22 rfl Tryz.underlying22 info_u8S w.heap.size _ [] rfl (Buf.empty _ _ _ hs0.symm (by omega)) _ (waitS L) rfl HW0.out (by simp; omega) (by simp; omega) ?_)
 intro v1 w1 hb1 hg1
 obtain ⟨a1,c1,rfl,_⟩:=hb1.slb
 have hB1 : Below w.heap.size w w1:=(HB0.out.alloc hsz _).grown hg1 (by simp; omega) (fun k e=>by simp [Value.ownBlock] at e; omega)
 have HS1:=Lib.hid (show SuSt w w1 (.slice a1 (waitS L).length c1) (waitS L) from ⟨hb1,by
  obtain ⟨cs,h1,h2⟩:=HR0.out
  refine ⟨cs,?_,h2⟩
  have h3:=h1.alloc (.cells #[] 5)
  exact (row_congr (hg1.block _ h3.lt (fun e=>by simp [Value.ownBlock] at e))).trans h3,hB1⟩)
 have hsz1:=hB1.size
 clear hb1 hg1 hB1 HR0 HB0 HW0 hs0 hsz hr
 go_wp2_with (at_builtin; refine wpl_append1 rfl (.tmp 18) (.tmp 19) 22 rfl Tryz.underlying22 info_u8S w.heap.size _ (waitS L) rfl (HS1.out.buf.alloc _) w1.heap.size 128 rfl ?c1 ?c2 ?c3 ?c4)
 case c1=>simp
 case c2=>omega
 case c3=>simp; omega
 case c4 =>
 intro v2 w2 hb2 hg2
 have HS2:=Lib.hid (HS1.out.app hb2 hg2)
 obtain ⟨a2,c2,rfl,_⟩:=hb2.slb
 obtain ⟨l2,hl2⟩ : ∃ l,l = waitS L ++ [128]:=⟨_,rfl⟩
 have hln2 : l2.length = L.length % 64 + 1:=by rw [hl2,List.length_append,waitS_len]; rfl
 rw [← hl2] at HS2 ⊢
 obtain ⟨z,hz⟩ : ∃ z,z = (119 - L.length % 64) % 64:=⟨_,rfl⟩
 have HZ:=Lib.hid hz
 have HL2:=Lib.hid (⟨hl2,hln2⟩ : _ ∧ _)
 clear hb2 hg2 HS1 hsz1 hz hl2 hln2 hwl
 go_wp2_with fail
 go_loopg [3] z (fun gk t3 wr=>∃ (r:Nat) (a:Option Addr) (c:Nat) (l:List UInt8),gk + r = z ∧ t3 = .slice a l.length c ∧ l = l2 ++ List.replicate r 0 ∧ SuSt w wr (.slice a l.length c) l)
 case atStart=>exact ⟨0,a2,c2,l2,by omega,rfl,by simp,HS2.out⟩
 case round =>
  obtain ⟨r,a,c,l,hr,rfl,hle,hS⟩:=hrel
  have hll : l.length = L.length % 64 + 1 + r:=by rw [hle,List.length_append,HL2.out.2,List.length_replicate]
  have HLE:=Lib.hid hle
  have HSS:=Lib.hid hS
  have hz:=HZ.out
  have hsz:=hS.bel.size
  clear hle hS HS2
  by_cases hrz : r < z
  ·have x1 : ((l.length : Int) % 64 != 56) = true:=by rw [bne_iff_ne]; omega
   have x2 : (l.length : Int) ≤ 1000:=by omega
   have x3 : ¬ (l.length : Int) % 64 = 56:=by omega
   have HLL:=Lib.hid hll
   clear hz hll
   go_wp2_with (at_builtin; refine wpl_append1 rfl (.tmp 25) (.tmp 26) 22 rfl Tryz.underlying22 info_u8S w.heap.size _ l rfl (HSS.out.buf.alloc _) wr.heap.size 0 rfl ?c1 ?c2 ?c3 ?c4)
   case c1=>simp
   case c2=>omega
   case c3=>simp; omega
   case c4 =>
   intro v3 w3 hb3 hg3
   have HS3:=Lib.hid (HSS.out.app hb3 hg3)
   obtain ⟨a3,c3,rfl,_⟩:=hb3.slb
   clear hb3 hg3
   go_wp2_with fail
   go_roundg (gk - 1)
   case measure=>omega
   case rel=>exact ⟨r + 1,a3,c3,l ++ [0],by omega,rfl,by rw [HLE.out,List.append_assoc,List.replicate_succ'],HS3.out⟩
  ·obtain rfl : r = z:=by omega
   have x1 : ((l.length : Int) % 64 != 56) = false:=by rw [bne_eq_false_iff_eq]; omega
   have x2 : (l.length : Int) ≤ 1000:=by omega
   have x3 : (l.length : Int) % 64 = 56:=by omega
   have M1:=MidW.below HS.out (HSS.out.bel.mono (Nat.le_refl _))
   have hr:=M1.row
   have n1 : (0 : Int) ≤ (L.length : Int):=by omega
   have n3 : IntKind.u64.wrap (L.length : Int) = (L.length : Int):=by rw [IntKind.wrap_u64]; omega
   have n4 : IntKind.u64.wrap ((L.length : Int) * 8) = (L.length : Int) * 8:=by rw [IntKind.wrap_u64]; omega
   have HLL:=Lib.hid hll
   clear M1 hll hz
   go_wp2_with fail
   clear x1 x3
   go_loopg [3,34] 8 (fun gk t3 t34 wx=>∃ (r:Nat) (a:Option Addr) (c:Nat) (l4:List UInt8),gk + r = 8 ∧ t34 = .int .i64 (r:Int) ∧ t3 = .slice a l4.length c ∧ l4 = l ++ l8P L.length r ∧ SuSt w wx (.slice a l4.length c) l4)
   case atStart=>exact ⟨0,a,c,l,by omega,rfl,rfl,by simp [l8P],HSS.out⟩
   case round =>
    clear hr
    obtain ⟨r,a,c,l4,hr8,rfl,rfl,hl4,hS⟩:=hrel
    have h4l : l4.length = l.length + r:=by rw [hl4,List.length_append,l8P_len]
    have HL4:=Lib.hid hl4
    have HS4:=Lib.hid hS
    have hsz:=hS.bel.size
    have HH:=Lib.hid h4l
    have x4 : (l4.length : Int) ≤ 2000:=by have:=HH.out; omega
    have x5 : l4.length ≤ 2000:=by omega
    clear hl4 hS h4l
    by_cases h8 : r < 8
    ·obtain ⟨e,he⟩ : ∃ e,e = 56 - 8 * r:=⟨_,rfl⟩
     obtain ⟨q,hq⟩ : ∃ q,q = 7 - r:=⟨_,rfl⟩
     have s1 : (7 : Int) - (r:Int) = (q:Int):=by omega
     have s2 : (8 : Int) * (q:Int) = (e:Int):=by omega
     have c1 : (0 : Int) ≤ (e:Int):=by omega
     have c2 : (e:Int) ≤ 56:=by omega
     have c3 : (0 : Int) ≤ (q:Int):=by omega
     have c4 : (q:Int) ≤ 7:=by omega
     have c5 : (r:Int) < 8:=by omega
     have v8 : IntKind.u8.wrap ((L.length : Int) * 8 / 2 ^ e) = ((UInt8.ofNat (L.length * 8 / 2 ^ e)).toNat : Int):=by rw [← u8wrapS]; simp
     obtain ⟨x,hx⟩ : ∃ x,x = UInt8.ofNat (L.length * 8 / 2 ^ e):=⟨_,rfl⟩
     rw [← hx] at v8
     have HST:=Lib.hid (show l4 ++ [x] = l ++ l8P L.length (r + 1) by rw [HL4.out,List.append_assoc,hx,he,l8P_step])
     clear hx he hq
     go_wp2_with (at_builtin; refine wpl_append1 rfl (.tmp 37) (.tmp 44) 22 rfl Tryz.underlying22 info_u8S w.heap.size _ l4 rfl (HS4.out.buf.alloc _) wr.heap.size x rfl ?c1 ?c2 ?c3 ?c4)
     case c1=>simp
     case c2=>omega
     case c3=>simp; omega
     case c4 =>
     intro v3 w3 hb3 hg3
     have HS3:=Lib.hid (HS4.out.app hb3 hg3)
     obtain ⟨a3,c3,rfl,_⟩:=hb3.slb
     clear hb3 hg3
     go_wp2_with fail
     go_roundg (gk - 1)
     case measure=>omega
     case rel=>exact ⟨r + 1,a3,c3,l4 ++ [x],by omega,by go_num,rfl,HST.out,HS3.out⟩
    ·obtain rfl : r = 8:=by omega
     have c5 : ¬ ((8 : Nat) : Int) < 8:=by omega
     obtain ⟨E,hE⟩ : ∃ E,E = endS L:=⟨_,rfl⟩
     have hE4 : l4 = E:=by
      rw [hE,HL4.out,HLE.out,HL2.out.1,HZ.out]; rfl
     subst hE4
     have M1:=MidW.below HS.out (HS4.out.bel.mono (Nat.le_refl _))
     have hr:=M1.row
     have hsub:=stC_f8 (hS L) (.slice a0 (waitS L).length c0) (L.length : Int) (hS_len L)
     have hsz:=stC_sz (h:=hS L) (v:=.slice a0 (waitS L).length c0) (n:=(L.length : Int))
     have hh8 : (AD (hS L)).size = 8:=by rw [AD_size,hS_len]
     have HE:=Lib.hid (⟨hE,endS_64 L⟩ : _ ∧ _)
     clear hE M1
     go_upto_region 13 with (fail)
     obtain ⟨g6,hg6⟩ : ∃ g,g = wr.heap.size:=⟨_,rfl⟩
     have hlt6 : w.heap.size < g6:=by rw [hg6]; exact HS4.out.row.lt
     have hBn : Below wr.heap.size wr ((wr.alloc (.cells (AD (List.replicate 8 0)) 298)).setRow wr.heap.size (AD (hS L))):=bSetRow ((Below.refl _ _).alloc (Nat.le_refl _) _) (Nat.le_refl _) _
     have HS6:=HS4.out.below hBn
     rw [← zw8]
     refine gen_wpR (SvSt w g6 (.slice a l4.length c) l4 (pressAll (hS L) 0 l4)) ⟨by rw [hg6]; exact (Row.new _ _ _).setRow _,HS6.buf.slb,HS6.row,HS6.bel,hlt6⟩ ?_
     rw [← hg6]
     clear hg6 hBn HS6 hr hsub hsz hh8 HS4
     intro w6 hV
     go_loopg [3] (l4.length / 64) (fun gk t3 wx=>∃ (k:Nat) (a:Option Addr) (c:Nat) (l5:List UInt8),gk + k = l4.length / 64 ∧ t3 = .slice a l5.length c ∧ l5 = l4.drop (64 * k) ∧ SvSt w g6 (.slice a l5.length c) l5 (pressAll (hS L) k l4) wx)
     case atStart=>exact ⟨0,a,c,l4,by omega,rfl,by simp,hV⟩
     case round =>
      clear hV
      obtain ⟨k,a5,c6,l5,hk,rfl,hl5,hV⟩:=hrel
      have h5l : l5.length = l4.length - 64 * k:=by rw [hl5,List.length_drop]
      by_cases h0 : 0 < l5.length
      ·have h64 : 64 ≤ l5.length:=by have:=HE.out.2; rw [← HE.out.1] at this; omega
       have x6 : (0 : Int) < (l5.length : Int):=by omega
       have x7 : (64 : Int) ≤ (l5.length : Int):=by omega
       obtain ⟨b5,o5,c6',e5,hcc,-,-,-⟩:=hV.slb.addr h0
       obtain ⟨rfl,-,rfl⟩:=Value.slice.inj e5
       have x8 : (64 : Int) ≤ (c6:Int):=by omega
       have hr6:=hV.r6
       obtain ⟨H,hH⟩ : ∃ H,H = pressAll (hS L) k l4:=⟨_,rfl⟩
       have hH8 : H.length = 8:=by rw [hH]; exact pressAll_len _ _ (hS_len L) _
       rw [← hH] at hr6 hV
       have q1 : (AD H).size = 8:=by rw [AD_size]; exact hH8
       have HPR:=Lib.hid (fun (w':World) (hb':Below wr.heap.size wr w')=>press_any H (.slice (some ⟨b5,o5,none⟩) 64 c6) (l5.take 64) w' (Row.below (Row.below HV.out hV.bel HV.out.lt) hb' (Row.lt (Row.below HV.out hV.bel HV.out.lt))) hH8 ((hV.slb.below hb').take 64 h64) (by rw [List.length_take]; omega))
       obtain ⟨P,hP⟩ : ∃ P,P = pressS H (l5.take 64):=⟨_,rfl⟩
       have hP8 : P.length = 8:=by rw [hP]; rfl
       have q2 : (AD P).size = 8:=by rw [AD_size]; exact hP8
       have q3 : allOne (AD P) = true:=List.all_eq_true.2 fun u hu=>by
        obtain ⟨y,_,rfl⟩:=List.mem_map.1 (by simpa [AD] using hu)
        rfl
       have q4 : over (AD H) 0 (AD P) = AD P:=over_all _ _ (by rw [q1,q2])
       rw [← hP] at HPR
       have HNX:=Lib.hid (show pressAll (hS L) (k + 1) l4 = P ∧ l5.drop 64 = l4.drop (64 * (k + 1)) from ⟨by rw [pressAll_snoc,← hl5,← hH]; exact hP.symm,by rw [hl5,List.drop_drop]; congr 1⟩)
       have HVV:=Lib.hid hV
       have HK:=Lib.hid h5l
       clear hV hl5 hH hP hP8 hH8 h5l e5
       have hsub:=sub_all (AD H) 8 q1
       have hszz : 0 + 8 ≤ (AD H).size:=by rw [q1]; decide
       have hglt:=hr6.lt
       go_wp2_with fail
       refine wp_region_qtail (Below wr.heap.size wr) 3 (by kernel_rfl) (by kernel_rfl) (Below.refl _ _).drew ?_
       simp only [List.take_succ_cons,List.take_zero,List.drop_succ_cons,List.drop_zero]
       (go_big_quiet_want; apply qb_loadA _ _ rfl _ _ rfl (sz:=8); rotate_left 2; (focus (intro _; simp [go_sem]; done)); (focus (intro _; simp [go_sem]; done)); rotate_right 2; assumption; assumption; assumption; assumption; (simp only [Act.put,lS]; go_big_quiet_on))
       iterate 2 (first | go_big_quiet_skip | (go_big_quiet_want; go_big_quiet_op; first | go_big_quiet_on | (refine ⟨_,fun _ _=>rfl,?_⟩; go_big_quiet_on)) | (go_big_quiet_want; apply qb_load1 _ _ rfl _ _ rfl; rotate_left 2; (focus (intro _; simp [go_sem]; done)); rotate_right 2; assumption; assumption; assumption; (simp only [Act.put,lS]; go_big_quiet_on)) | (go_big_quiet_want; apply qb_loadA _ _ rfl _ _ rfl (sz:=16); rotate_left 2; (focus (intro _; simp [go_sem]; done)); (focus (intro _; simp [go_sem]; done)); rotate_right 2; assumption; assumption; assumption; assumption; (simp only [Act.put,lS]; go_big_quiet_on)))
       refine wpQuiet_nil ?_
       intro w' hw'
       have HV7:=Lib.hid (show SvSt w g6 (.slice (some ⟨b5,o5,none⟩) l5.length c6) l5 H w' from ⟨Row.below HVV.out.r6 hw' HVV.out.r6.lt,HVV.out.slb.below hw',HVV.out.row.below hw' HVV.out.row.lt,HVV.out.bel.trans (hw'.mono HVV.out.bel.size),HVV.out.lt⟩)
       have HP7:=Lib.hid (HPR.out w' hw')
       clear hsub hszz hglt hr6 hw' HVV HPR
       go_wp2_with fail
       refine HP7.out.mono ?_
       rintro e w8 ⟨rfl,hB8⟩
       have hr8:=Row.below HV7.out.r6 hB8 HV7.out.r6.lt
       have HV8:=Lib.hid (show SvSt w g6 (.slice (some ⟨b5,o5,none⟩) l5.length c6) l5 P (w8.setRow g6 (AD P)) from HV7.out.step hB8 P)
       clear hB8 HP7
       by_cases hc6 : c6 = 64
       ·subst hc6
        have hl64 : l5.length = 64:=by omega
        have hd0 : l5.drop 64 = []:=List.drop_eq_nil_of_le (by omega)
        have HF:=Lib.hid (show SvSt w g6 (.slice (some ⟨b5,o5,none⟩) 0 0) [] P (w8.setRow g6 (AD P)) from ⟨HV8.out.r6,SlB.zeroW _ _ _,HV8.out.row,HV8.out.bel,HV8.out.lt⟩)
        have HD:=Lib.hid hd0
        clear hd0
        go_wp2_with fail
        go_roundg (l4.length / 64 - (k + 1))
        case measure=>have:=HK.out; omega
        case rel=>exact ⟨k + 1,some ⟨b5,o5,none⟩,0,[],by have:=HK.out; omega,rfl,by rw [← HNX.out.2,HD.out],by rw [HNX.out.1]; exact HF.out⟩
       ·have HF:=Lib.hid (show SvSt w g6 (.slice (some ⟨b5,o5 + 64,none⟩) (l5.drop 64).length (c6 - 64)) (l5.drop 64) P (w8.setRow g6 (AD P)) from ⟨HV8.out.r6,by rw [List.length_drop]; exact HV8.out.slb.dropW h64,HV8.out.row,HV8.out.bel,HV8.out.lt⟩)
        go_wp2_with fail
        go_roundg (l4.length / 64 - (k + 1))
        case measure=>have:=HK.out; omega
        case rel=>exact ⟨k + 1,some ⟨b5,o5 + 64,none⟩,c6 - 64,l5.drop 64,by have:=HK.out; omega,by rw [List.length_drop],HNX.out.2,by rw [HNX.out.1]; exact HF.out⟩
      ·have x6 : ¬ (0 : Int) < (l5.length : Int):=by omega
       have hk64 : k = l4.length / 64:=by have:=HE.out.2; rw [← HE.out.1] at this; omega
       have HX:=Lib.hid (show bytesS (pressAll (hS L) k l4) = shaS L by rw [shaS,pressAll_end,← HE.out.1,hk64])
       obtain ⟨H,hH⟩ : ∃ H,H = pressAll (hS L) k l4:=⟨_,rfl⟩
       have hH8 : H.length = 8:=by rw [hH]; exact pressAll_len _ _ (hS_len L) _
       rw [← hH] at hV HX
       have hr6:=hV.r6
       have q1 : (AD H).size = 8:=by rw [AD_size]; exact hH8
       have HVV:=Lib.hid hV
       have hsub:=sub_all (AD H) 8 q1
       have hglt:=hr6.lt
       have hszw:=hV.bel.size
       clear hV hl5 hH h5l hk64
       go_upto_region 17 with (fail)
       obtain ⟨g7,hg7⟩ : ∃ g,g = wr.heap.size:=⟨_,rfl⟩
       have hlt7 : w.heap.size < g7:=by rw [hg7]; exact HVV.out.row.lt
       have hne7 : g6 ≠ g7:=by rw [hg7]; exact Nat.ne_of_lt hr6.lt
       rw [← zw32]
       refine gen_wpR (S7St w g6 g7 H []) ⟨by rw [hg7]; exact Row.new _ _ _,hr6.alloc _,HVV.out.row.alloc _,(HVV.out.bel.alloc HVV.out.bel.size _),hlt7⟩ ?_
       rw [← hg7]
       clear hg7 hr6 HVV hglt hszw
       intro w7 hV
       have hr6:=hV.r6
       have HVV:=Lib.hid hV
       clear hV
       go_wp2_with fail
       clear hr6 hsub
       go_loopg [61] 8 (fun gk t61 wx=>∃ (r:Nat),gk + r = 8 ∧ t61 = .int .i64 (r:Int) ∧ S7St w g6 g7 H (H.take r) wx)
       case atStart=>exact ⟨0,by omega,rfl,HVV.out⟩
       case round =>
        clear HVV
        obtain ⟨r,hr8,rfl,hV⟩:=hrel
        by_cases h8 : r < 8
        ·have c5 : (r:Int) < 8:=by omega
         have c6 : (0 : Int) ≤ (r:Int):=by omega
         have hrl : r < H.length:=by omega
         obtain ⟨x,hx⟩ : ∃ x,x = gw H r:=⟨_,rfl⟩
         have hgx : H[r] = x:=by rw [hx,gw,List.getD_eq_getElem?_getD,List.getElem?_eq_getElem hrl]; rfl
         obtain ⟨e0,he0⟩ : ∃ e,e = 4 * r:=⟨_,rfl⟩
         have s0 : (4 : Int) * (r:Int) = (e0:Int):=by omega
         obtain ⟨e1,he1⟩ : ∃ e,e = e0 + 1:=⟨_,rfl⟩
         obtain ⟨e2,he2⟩ : ∃ e,e = e0 + 2:=⟨_,rfl⟩
         obtain ⟨e3,he3⟩ : ∃ e,e = e0 + 3:=⟨_,rfl⟩
         have s1 : (e0:Int) + 1 = (e1:Int):=by omega
         have s2 : (e0:Int) + 2 = (e2:Int):=by omega
         have s3 : (e0:Int) + 3 = (e3:Int):=by omega
         have d0 : (e0:Int) ≤ 31:=by omega
         have d1 : (e1:Int) ≤ 31:=by omega
         have d2 : (e2:Int) ≤ 31:=by omega
         have d3 : (e3:Int) ≤ 31:=by omega
         have f0 : e0 < 32:=by omega
         have f1 : e1 < 32:=by omega
         have f2 : e2 < 32:=by omega
         have f3 : e3 < 32:=by omega
         have g0 : (0 : Int) ≤ (e0:Int):=by omega
         have g1 : (0 : Int) ≤ (e1:Int):=by omega
         have g2 : (0 : Int) ≤ (e2:Int):=by omega
         have g3 : (0 : Int) ≤ (e3:Int):=by omega
         have c7 : (r:Int) ≤ 8:=by omega
         have u0 : IntKind.u8.wrap ((x.toNat : Int) / 16777216) = ((UInt8.ofNat (x.toNat / 16777216)).toNat : Int):=by rw [← u8wrapS]; simp
         have u1 : IntKind.u8.wrap ((x.toNat : Int) / 65536) = ((UInt8.ofNat (x.toNat / 65536)).toNat : Int):=by rw [← u8wrapS]; simp
         have u2 : IntKind.u8.wrap ((x.toNat : Int) / 256) = ((UInt8.ofNat (x.toNat / 256)).toNat : Int):=by rw [← u8wrapS]; simp
         have u3 : IntKind.u8.wrap (x.toNat : Int) = ((UInt8.ofNat x.toNat).toNat : Int):=u8wrapS _
         obtain ⟨y0,hy0⟩ : ∃ y,y = UInt8.ofNat (x.toNat / 16777216):=⟨_,rfl⟩
         obtain ⟨y1,hy1⟩ : ∃ y,y = UInt8.ofNat (x.toNat / 65536):=⟨_,rfl⟩
         obtain ⟨y2,hy2⟩ : ∃ y,y = UInt8.ofNat (x.toNat / 256):=⟨_,rfl⟩
         obtain ⟨y3,hy3⟩ : ∃ y,y = UInt8.ofNat x.toNat:=⟨_,rfl⟩
         rw [← hy0] at u0
         rw [← hy1] at u1
         rw [← hy2] at u2
         rw [← hy3] at u3
         have HNX:=Lib.hid (show ((((b7 (H.take r)).set e0 y0).set e1 y1).set e2 y2).set e3 y3 = b7 (H.take (r + 1)) by rw [he1,he2,he3,he0,hy0,hy1,hy2,hy3,hx]; exact b7_step H r hH8 h8)
         have hb32:=b7_len (H.take r) (by rw [List.length_take]; omega)
         obtain ⟨Y,hY⟩ : ∃ Y,Y = b7 (H.take r):=⟨_,rfl⟩
         rw [← hY] at HNX hb32
         have hr7:=hV.r7
         rw [← hY] at hr7
         have hy32:=(AB_size Y).trans hb32
         have HV7:=Lib.hid hV
         have hlt7':=hr7.lt
         clear hV hx hy0 hy1 hy2 hy3 hY he1 he2 he3 he0
         go_wp2_with fail
         go_roundg (gk - 1)
         case measure=>omega
         case rel=>exact ⟨r + 1,by omega,by go_num,HV7.out.step4 hr7 HNX.out⟩
        ·obtain rfl : r = 8:=by omega
         have c5 : ¬ ((8 : Nat) : Int) < 8:=by omega
         have hfl : b7 (H.take 8) = shaS L:=by rw [List.take_of_length_le (by omega),b7_all _ hH8,HX.out]
         have hr7:=hV.r7
         rw [hfl] at hr7
         have hs32 : (shaS L).length = 32:=by rw [← hfl]; exact b7_len _ (by rw [List.length_take]; omega)
         have hs32':=(AB_size (shaS L)).trans hs32
         have hsb:=sub_all (AB (shaS L)) 32 hs32'
         obtain ⟨z,hz,hzs⟩:=hV.row
         have hov : over z 0 (AB (shaS L)) = AB (shaS L):=over_all _ _ (hzs.trans hs32'.symm)
         have hlt7':=hr7.lt
         go_wp2_with fail
         exact ret_row (.inl rfl) rfl w.heap.size _ _ 32 _ rfl (hz.setRow _) Tryz.underlying24 rfl (by kernel_rfl) hs32' ⟨rfl,bSetRow hV.bel (Nat.le_refl _) _⟩
end Go.Proofs.YtjpfhhndjpdmoaaGreatDoor

namespace Go.Proofs.YtjpfhhndjpdmoaaGreatDoor
open Go.RowKit
set_option linter.unusedVariables false
set_option linter.unusedSimpArgs false

theorem PartsW.below {w w':World} {bad bad':Nat → Prop} {vp:Value} {ps:List (List UInt8)} (h:PartsW w bad vp ps) (hb:Below w.heap.size w w') (hi:∀ k,¬ bad k → ¬ bad' k) : PartsW w' bad' vp ps:=by
 obtain ⟨a,cap,rfl,hc⟩:=h
 refine ⟨a,cap,rfl,fun i p hp=>?_⟩
 obtain ⟨b,o,v,h1,h2,h3,h4,h5⟩:=hc i p hp
 exact ⟨b,o,v,h1,(hb.cell (World.block_lt_of_cell? w _ h2)).trans h2,hi _ h3,h4.below hb,fun ad had=>hi _ (h5 ad had)⟩
theorem OwnW.nil (w:World) (B0:Nat) : OwnW w B0 (.slice none 0 0) []:=.inl ⟨rfl,rfl⟩
structure HashW (w:World) : Prop where
 starts : ∃ t,Row w 8 t (AD startS)
 rnds : ∃ t,Row w 10 t (AD roundsS)
theorem HashW.start {w:World} (h:HashW w) : Row w 8 h.starts.choose (AD startS):=h.starts.choose_spec
theorem HashW.rounds {w:World} (h:HashW w) : Row w 10 h.rnds.choose (AD roundsS):=h.rnds.choose_spec
theorem HashW.below {w w':World} (h:HashW w) (hb:Below w.heap.size w w') : HashW w':=⟨⟨_,Row.below h.start hb h.start.lt⟩,⟨_,Row.below h.rounds hb h.rounds.lt⟩⟩
theorem StW.new {w:World} {B0 g:Nat} (h:Row w g 300 (stC startS (.slice none 0 0) 0)) (hg:B0 ≤ g) : StW w B0 g (.slice none 0 0) []:=⟨h,OwnW.nil w B0,hg⟩
set_option maxRecDepth 100000 in
set_option maxHeartbeats 4000000 in
theorem hof_any (w:World) (vp:Value) (ps:List (List UInt8)) (hv:HashW w) (hp:PartsW w (fun k=>w.heap.size ≤ k) vp ps) (hl:ps.flatten.length ≤ 1000000) (hn:ps.length ≤ 1000) :
  Calls Tryz.prog 100 #[vp] w fun e w'=>e = .returned (.agg (AB (shaS ps.flatten))) ∧ Below w.heap.size w w':=by
 have HV:=Lib.hid hv
 have HP:=Lib.hid hp
 have hlt : 10 < w.heap.size:=hv.rounds.lt
 have hvp : ∃ a n c,vp = .slice a n c:=let ⟨a,c,h,_⟩:=hp; ⟨a,_,c,h⟩
 obtain ⟨a,n,c,rfl⟩:=hvp
 clear hv hp
 go_enter Tryz.func100,Tryz.ntmps100
 go_upto_region 1 with (fail)
 obtain ⟨w0,hw0⟩ : ∃ W,W = w.alloc (.cells #[.int .u8 0,.int .u8 0,.int .u8 0,.int .u8 0,.int .u8 0,.int .u8 0,.int .u8 0,.int .u8 0,.int .u8 0,.int .u8 0,.int .u8 0,.int .u8 0,.int .u8 0,.int .u8 0,.int .u8 0,.int .u8 0,.int .u8 0,.int .u8 0,.int .u8 0,.int .u8 0,.int .u8 0,.int .u8 0,.int .u8 0,.int .u8 0,.int .u8 0,.int .u8 0,.int .u8 0,.int .u8 0,.int .u8 0,.int .u8 0,.int .u8 0,.int .u8 0] 24):=⟨_,rfl⟩
 rw [← hw0]
 have hB0 : Below w.heap.size w w0:=by rw [hw0]; exact (Below.refl _ w).alloc (Nat.le_refl _) _
 have hr0 : RowN w0 w.heap.size 24 32:=by rw [hw0]; exact RowN.newAt w _ _ _ rfl
 have hs0 : w0.heap.size = w.heap.size + 1:=by rw [hw0]; simp
 clear hw0
 have HB0:=Lib.hid hB0
 have HR0:=Lib.hid hr0
 have HV0:=Lib.hid (HV.out.below hB0)
 have hlt0 : 10 < w0.heap.size:=by omega
 have HP0:=Lib.hid (HP.out.below (bad':=fun k=>w.heap.size ≤ k) hB0 (fun _ h=>h))
 clear hB0 hr0
 go_wp2_with (go_at_call 161; refine (hnew_any w0 HV0.out.start).mono ?_; rintro e w1 ⟨g,rfl,hg,hr1,hB1⟩)
 have HR1:=Lib.hid hr1
 have HB1:=Lib.hid hB1
 have hgs:=hr1.lt
 have hs1:=hB1.size
 clear hr1 hB1
 refine (put_any w1 w0.heap.size g (.slice none 0 0) (.slice a n c) [] ps (HV0.out.below HB1.out).rounds hlt0 hs1 (StW.new HR1.out hg) (HP0.out.below HB1.out (fun k hk e=>by exact e.elim (fun e=>hk (by rw [e]; exact Nat.le_trans HB0.out.size hg)) (fun e=>nomatch e))) hl hn).mono ?_
 rintro e w2 ⟨rfl,v,hS2,hA2⟩
 have hB2 : Below w0.heap.size w1 w2:=hA2.belowB hg (fun k e=>by cases e) hs1
 have HB2:=Lib.hid (HB1.out.trans hB2)
 have HS2:=Lib.hid hS2
 have hs2:=hB2.size
 have HV2:=Lib.hid (HV0.out.below HB2.out)
 clear hS2 hA2 hB2
 go_wp2_with fail
 refine (sum_any w2 w0.heap.size g v ps.flatten HV2.out.rounds (by simpa using HS2.out) hl).mono ?_
 rintro e w3 ⟨rfl,hB3⟩
 have HB3:=Lib.hid (HB0.out.trans ((HB2.out.trans (hB3.mono (Nat.le_trans hs1 hs2))).mono HB0.out.size))
 obtain ⟨z,hz,hzs⟩:=HR0.out.below (HB2.out.trans (hB3.mono (Nat.le_trans hs1 hs2))) (by omega)
 obtain ⟨X,hX⟩ : ∃ X,X = shaS ps.flatten:=⟨_,rfl⟩
 have hs32 : X.length = 32:=by rw [hX]; exact shaS_len _
 rw [← hX]
 have hs32':=(AB_size X).trans hs32
 have hsb:=sub_all (AB X) 32 hs32'
 have hov : over z 0 (AB X) = AB X:=over_all _ _ (hzs.trans hs32'.symm)
 have hzlt:=hz.lt
 have HX:=Lib.hid hX
 clear hB3 hX
 go_wp2_with fail
 exact ret_row (.inl rfl) rfl w.heap.size _ _ 32 _ rfl (hz.setRow _) Tryz.underlying24 rfl (by kernel_rfl) hs32' ⟨by rw [HX.out],bSetRow HB3.out (Nat.le_refl _) _⟩
end Go.Proofs.YtjpfhhndjpdmoaaGreatDoor

namespace Go.Proofs.YtjpfhhndjpdmoaaGreatDoor
open Go.RowKit
set_option linter.unusedVariables false
set_option linter.unusedSimpArgs false

def mixK (Z:List UInt8) (x:UInt8) (i:Nat) : List UInt8:=(Z.take i).map (fun b=>xr b x) ++ Z.drop i
def padK (l:List UInt8) (x:UInt8) : List UInt8:=(l ++ List.replicate (64 - l.length) 0).map fun b=>xr b x
theorem mixK_len (Z:List UInt8) (x:UInt8) (i:Nat) : (mixK Z x i).length = Z.length:=by
 unfold mixK; simp; omega
theorem mixK_all (Z:List UInt8) (x:UInt8) (n:Nat) (h:Z.length = n) : mixK Z x n = Z.map fun b=>xr b x:=by
 subst h
 unfold mixK; simp
theorem mixK_step (Z:List UInt8) (x:UInt8) (i:Nat) (h:i < Z.length) : (mixK Z x i).set i (xr (gb (mixK Z x i) i) x) = mixK Z x (i + 1):=by
 have e : Z.drop i = gb Z i :: Z.drop (i + 1):=by
  rw [List.drop_eq_getElem_cons h]; simp [gb,h]
 have hl : ((Z.take i).map fun b=>xr b x).length = i:=by simp; omega
 have e2 : Z.take (i + 1) = Z.take i ++ [gb Z i]:=by
  rw [List.take_add_one,List.getElem?_eq_getElem h]; simp [gb,h]
 have e3 : gb (mixK Z x i) i = gb Z i:=by
  unfold mixK
  rw [e]
  simp only [gb,List.getD_eq_getElem?_getD]
  rw [List.getElem?_append_right (by omega),hl]
  simp
 rw [e3]
 unfold mixK
 rw [e2,e,List.set_append_right _ _ (by omega),hl,List.map_append]
 simp
theorem padK_len (l:List UInt8) (x:UInt8) (h:l.length ≤ 64) : (padK l x).length = 64:=by
 unfold padK; simp; omega
theorem info_u8H : (Tryz.prog.info? 5).map (fun i=>(i.zero,i.size,i.bytes)) = some (some (.int .u8 0),1,1):=by kernel_rfl
theorem made64 : madeCells (Value.int .u8 0).cells (Int.toNat 64 * 1) = AB (List.replicate 64 0):=by kernel_rfl
theorem make64 (w:World) : (Instr.makeSlice 22 (.int .i64 64) (.int .i64 64)).run Tryz.prog w = .ok (.slice (some ⟨w.heap.size,0,none⟩) 64 64) (w.alloc (.cells (AB (List.replicate 64 0)) 5)):=by
 obtain ⟨i0,hi,hz0,hz1,hz2⟩:=info_parts info_u8H
 have:=run_make (P:=Tryz.prog) w 22 5 i0 (.int .u8 0) Tryz.underlying22 hi hz0 .i64 .i64 64 64 (by decide) (by decide) (by rw [hz2]; decide) (by decide)
 rw [this,hz1]
 exact congrArg (fun c=>Result.ok (Value.slice (some ⟨w.heap.size,0,none⟩) 64 64) (w.alloc (.cells c 5))) (made64:madeCells (Value.int .u8 0).cells (Int.toNat 64 * 1) = AB (List.replicate 64 0))
theorem splice_pad (l:List UInt8) : splice ((List.replicate 64 (0 : UInt8)).map B) 0 (l.map B) = (l ++ List.replicate (64 - l.length) 0).map B:=by
 unfold splice
 rw [List.take_zero,List.nil_append,Nat.zero_add,List.length_map,List.map_replicate,List.drop_replicate,List.map_append,List.map_replicate]
attribute [local go_sem] make64
set_option maxRecDepth 100000 in
set_option maxHeartbeats 4000000 in
theorem mpad_any (w:World) (v:Value) (l:List UInt8) (x:UInt8) (hv:SlB w v l) (hl:l.length ≤ 64) :
  Calls Tryz.prog 186 #[v,B x] w fun e w'=>e = .returned (.slice (some ⟨w.heap.size,0,none⟩) 64 64) ∧ Row w' w.heap.size 5 (AB (padK l x)) ∧ Below w.heap.size w w':=by
 obtain ⟨a,cap,rfl,h1,h2,h3,h4⟩:=hv
 have hc2 : (l.map B).length = Nat.min l.length 64:=by rw [List.length_map]; show l.length = min l.length 64; omega
 have hc3 : ∀ w0 : World,Below w.heap.size w w0 → 0 < (l.map B).length → (some ⟨w.heap.size,0,none⟩ : Option Addr) = some ⟨w.heap.size,0,none⟩ ∧ ∃ ad,a = some ad ∧ ∀ j v,(l.map B)[j]? = some v → w0.cell? (ad.add j) = some v:=by
  intro w0 hb0 hpos
  rw [List.length_map] at hpos
  cases ha : a with
  | none=>exact absurd (h3 ha) (by omega)
  | some ad =>
   refine ⟨rfl,ad,rfl,fun j u hu=>?_⟩
   have hj : j < l.length:=by simpa using (List.getElem?_eq_some_iff.1 hu).1
   obtain ⟨hm,hc⟩:=h4 ad ha
   have hcj:=hc j hj
   have hcw:=(hb0.cell (World.block_lt_of_cell? w ⟨ad.block,ad.off + j,none⟩ hcj)).trans hcj
   have e : ad.add j = ⟨ad.block,ad.off + j,none⟩:=by
    obtain ⟨ab,ao,am⟩:=ad
    obtain rfl : am = none:=hm
    exact Addr.add_lit _ _ _
   rw [e,hcw]
   simpa [gb,hj] using hu
 have hc4 : 0 + (l.map B).length ≤ ((List.replicate 64 (0 : UInt8)).map B).length:=by rw [List.length_map,List.length_map,List.length_replicate]; omega
 have hc5 : ∀ u ∈ l.map B,u.oneCell' = true:=by intro u hu; obtain ⟨z,_,rfl⟩:=List.mem_map.1 hu; rfl
 have HC2:=Lib.hid hc2
 have HC3:=Lib.hid hc3
 have HC4:=Lib.hid hc4
 have HC5:=Lib.hid hc5
 have HL:=Lib.hid hl
 have HB1:=Lib.hid ((Below.refl w.heap.size w).alloc (Nat.le_refl _) (.cells (AB (List.replicate 64 0)) 5))
 clear hc2 hc3 hc4 hc5 h1 h2 h3 h4 hl
 go_enter Tryz.func186,Tryz.ntmps186
 go_wp2_with (refine wpList_copy_splice rfl (.tmp 8) (.tmp 9) 22 22 rfl 5 Tryz.underlying22 (by kernel_rfl) (some ⟨w.heap.size,0,none⟩) a 64 64 l.length cap rfl rfl w.heap.size 0 ((List.replicate 64 (0 : UInt8)).map B) 5 (heap_alloc_new w _) (l.map B) HC2.out (HC3.out _ HB1.out) HC4.out HC5.out w.heap.size w HB1.out (Nat.le_refl _) ?_)
 intro W1 hW1 hbW1
 obtain ⟨Z,hZ⟩ : ∃ Z,Z = l ++ List.replicate (64 - l.length) 0:=⟨_,rfl⟩
 have hZl : Z.length = 64:=by have:=HL.out; rw [hZ]; simp; omega
 have hr : Row W1 w.heap.size 5 (AB Z):=by
  rw [hZ,AB,← splice_pad l]; exact Row.of_heap hW1.out
 have HR:=Lib.hid hr
 have HBW:=Lib.hid hbW1
 have HZ:=Lib.hid hZ
 have HZl:=Lib.hid hZl
 clear hW1 hr hbW1 hZ hZl
 go_wp2_with fail
 go_loopg [13] 64 (fun gk t13 wx=>∃ (i:Nat),gk + i = 64 ∧ t13 = .int .i64 (i:Int) ∧ Row wx w.heap.size 5 (AB (mixK Z x i)) ∧ Below w.heap.size w wx)
 case atStart=>exact ⟨0,by omega,rfl,HR.out,HBW.out⟩
 case round =>
  obtain ⟨i,hi,rfl,hr,hB⟩:=hrel
  have HB:=Lib.hid hB
  clear hB
  by_cases h64 : i < 64
  ·have c5 : (i:Int) < 64:=by omega
   have c6 : (0 : Int) ≤ (i:Int):=by omega
   have hlen:=(mixK_len Z x i).trans HZl.out
   have hlt:=hr.lt
   have HST:=Lib.hid (mixK_step Z x i (by rw [HZl.out]; exact h64))
   obtain ⟨M,hM⟩ : ∃ M,M = mixK Z x i:=⟨_,rfl⟩
   rw [← hM] at hr hlen HST
   clear hM
   go_wp2_with fail
   go_roundg (gk - 1)
   case measure=>omega
   case rel=>exact ⟨i + 1,by omega,by go_num,by rw [← HST.out]; exact hr.setByte i _,HB.out.setCell (Nat.le_refl _) _⟩
  ·obtain rfl : i = 64:=by omega
   have c5 : ¬ ((64 : Nat) : Int) < 64:=by omega
   go_wp2_with fail
   go_ret
   exact ⟨rfl,by rw [padK,← HZ.out,← mixK_all Z x 64 HZl.out]; exact hr,HB.out⟩
end Go.Proofs.YtjpfhhndjpdmoaaGreatDoor

namespace Go.Proofs.YtjpfhhndjpdmoaaGreatDoor
open Go.RowKit

section
variable {P:Program}
end
end Go.Proofs.YtjpfhhndjpdmoaaGreatDoor
