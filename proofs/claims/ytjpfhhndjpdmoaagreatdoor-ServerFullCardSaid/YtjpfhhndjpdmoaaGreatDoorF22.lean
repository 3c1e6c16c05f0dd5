/- Part of the proof: MacOf,MacExp,MacLab,CurveG,CurveH,SignA,Repeat. No conditions of its own. -/
import Derived.Test.YtjpfhhndjpdmoaaGreatDoorF21
import Derived.Lib.AppendStr
import Derived.Lib.MakeNoZero
namespace Go.Proofs.YtjpfhhndjpdmoaaGreatDoor
open Go.RowKit
set_option linter.unusedVariables false
set_option linter.unusedSimpArgs false

def macS (key t:List UInt8) : List UInt8:=shaS (padK key 0x5c ++ shaS (padK key 0x36 ++ t))
theorem macS_len (key t:List UInt8) : (macS key t).length = 32:=shaS_len _
theorem PartsW.new1 {w:World} {bad:Nat → Prop} {b p:Nat} {l:List UInt8} {c:Nat} {t:TypeId} (hb:b = w.heap.size) (hbb:¬ bad b) (hp:¬ bad p) (hS:SlB w (.slice (some ⟨p,0,none⟩) l.length c) l) :
  PartsW (w.alloc (.cells #[.slice (some ⟨p,0,none⟩) l.length c] t)) bad (.slice (some ⟨b,0,none⟩) 1 1) [l]:=by
 subst hb
 refine ⟨_,1,rfl,fun i q hq=>?_⟩
 cases i with
 | zero =>
  obtain rfl : l = q:=Option.some.inj hq
  refine ⟨w.heap.size,0,_,rfl,?_,hbb,hS.below ((Below.refl _ w).alloc (Nat.le_refl _) _),fun ad had=>?_⟩
  ·exact (Row.new w _ _).cell 0
  ·obtain rfl:=Option.some.inj had
   exact hp
 | succ i=>cases hq
theorem PartsW.new2 {w:World} {bad:Nat → Prop} {b p q:Nat} {l m:List UInt8} {c d:Nat} {t:TypeId} (hb:b = w.heap.size) (hbb:¬ bad b) (hp:¬ bad p) (hq:¬ bad q) (hS:SlB w (.slice (some ⟨p,0,none⟩) l.length c) l) (hT:SlB w (.slice (some ⟨q,0,none⟩) m.length d) m) :
  PartsW (w.alloc (.cells #[.slice (some ⟨p,0,none⟩) l.length c,.slice (some ⟨q,0,none⟩) m.length d] t)) bad (.slice (some ⟨b,0,none⟩) 2 2) [l,m]:=by
 subst hb
 have hB : Below w.heap.size w (w.alloc (.cells #[.slice (some ⟨p,0,none⟩) l.length c,.slice (some ⟨q,0,none⟩) m.length d] t)):=(Below.refl _ w).alloc (Nat.le_refl _) _
 refine ⟨_,2,rfl,fun i r hr=>?_⟩
 match i,hr with
 | 0,hr =>
  obtain rfl : l = r:=Option.some.inj hr
  exact ⟨w.heap.size,0,_,rfl,(Row.new w _ _).cell 0,hbb,hS.below hB,fun ad had=>by obtain rfl:=Option.some.inj had; exact hp⟩
 | 1,hr =>
  obtain rfl : m = r:=Option.some.inj hr
  exact ⟨w.heap.size,0,_,rfl,(Row.new w _ _).cell 1,hbb,hT.below hB,fun ad had=>by obtain rfl:=Option.some.inj had; exact hq⟩
 | i + 2,hr=>cases hr
theorem Row.slW {w:World} {g:Nat} {t:TypeId} {l:List UInt8} (h:Row w g t (AB l)) (hl:l.length ≤ 1000000) : SlB w (.slice (some ⟨g,0,none⟩) l.length l.length) l:=by
 refine ⟨_,_,rfl,Nat.le_refl _,by unfold maxLen; omega,(fun e=>by cases e),fun ad had=>?_⟩
 obtain rfl:=Option.some.inj had
 refine ⟨rfl,fun i hi=>?_⟩
 show w.cell? ⟨g,0 + i,none⟩ = _
 rw [Nat.zero_add,h.cell]
 exact AB_get l i hi
set_option maxRecDepth 100000 in
set_option maxHeartbeats 4000000 in
theorem mof_any (w:World) (vk vp:Value) (key:List UInt8) (ps:List (List UInt8)) (hv:HashW w) (hk:SlB w vk key) (hkl:key.length ≤ 64) (hp:PartsW w (fun k=>w.heap.size ≤ k) vp ps) (hl:ps.flatten.length ≤ 900000) (hn:ps.length ≤ 1000) :
  Calls Tryz.prog 145 #[vk,vp] w fun e w'=>e = .returned (.agg (AB (macS key ps.flatten))) ∧ Below w.heap.size w w':=by
 obtain ⟨ak,ck,rfl,hk'⟩:=id hk
 clear hk'
 have hvp : ∃ a n c,vp = .slice a n c:=let ⟨a,c,h,_⟩:=hp; ⟨a,_,c,h⟩
 obtain ⟨a,n,c,rfl⟩:=hvp
 have HV:=Lib.hid hv
 have HP:=Lib.hid hp
 have HK:=Lib.hid hk
 have hlt : 10 < w.heap.size:=hv.rounds.lt
 have HLT:=Lib.hid hlt
 have k1 : ¬ (64 : Int) < (key.length : Int):=by omega
 have HKL:=Lib.hid hkl
 clear hv hp hk hlt hkl
 go_enter Tryz.func145,Tryz.ntmps145
 go_upto_region 4 with (fail)
 obtain ⟨w0,hw0⟩ : ∃ W,W = w.alloc (.cells #[.int .u8 0,.int .u8 0,.int .u8 0,.int .u8 0,.int .u8 0,.int .u8 0,.int .u8 0,.int .u8 0,.int .u8 0,.int .u8 0,.int .u8 0,.int .u8 0,.int .u8 0,.int .u8 0,.int .u8 0,.int .u8 0,.int .u8 0,.int .u8 0,.int .u8 0,.int .u8 0,.int .u8 0,.int .u8 0,.int .u8 0,.int .u8 0,.int .u8 0,.int .u8 0,.int .u8 0,.int .u8 0,.int .u8 0,.int .u8 0,.int .u8 0,.int .u8 0] 24):=⟨_,rfl⟩
 rw [← hw0]
 have hB0 : Below w.heap.size w w0:=by rw [hw0]; exact (Below.refl _ w).alloc (Nat.le_refl _) _
 have hr0 : RowN w0 w.heap.size 24 32:=by rw [hw0]; exact RowN.newAt w _ _ _ rfl
 have hs0 : w0.heap.size = w.heap.size + 1:=by rw [hw0]; simp
 clear hw0
 have HB0:=Lib.hid hB0
 have HR0:=Lib.hid hr0
 have HV0:=Lib.hid (HV.out.below hB0)
 have HS0:=Lib.hid hs0
 have HLT0:=Lib.hid (show 10 < w0.heap.size by have:=HLT.out; omega)
 have HK0:=Lib.hid (HK.out.below hB0)
 have HP0:=Lib.hid (HP.out.below (bad':=fun k=>w.heap.size ≤ k) hB0 (fun _ h=>h))
 clear hB0 hr0 hs0
 go_wp2_with (go_at_call 161; refine (hnew_any w0 HV0.out.start).mono ?_; rintro e w1 ⟨g,rfl,hg,hr1,hB1⟩)
 have HR1:=Lib.hid hr1
 have HB1:=Lib.hid hB1
 have HG:=Lib.hid hg
 have HGS:=Lib.hid hr1.lt
 clear hr1 hB1 hg
 have hB01 : Below w0.heap.size w0 w1:=HB1.out
 have HB01:=Lib.hid hB01
 clear hB01
 refine (mpad_any w1 (.slice ak key.length ck) key 0x36 (HK0.out.below HB01.out) HKL.out).mono ?_
 rintro e w2 ⟨rfl,hr2,hB2⟩
 obtain ⟨PI,hPI⟩ : ∃ P,P = padK key 0x36:=⟨_,rfl⟩
 have hPIl : PI.length = 64:=by rw [hPI]; exact padK_len _ _ HKL.out
 rw [← hPI] at hr2
 have HPI:=Lib.hid hPI
 have HPIl:=Lib.hid hPIl
 have HR2:=Lib.hid hr2
 have HB2:=Lib.hid hB2
 clear hr2 hB2 hPI hPIl
 have hs2 : w0.heap.size ≤ w1.heap.size:=HB01.out.size
 have hs3 : w1.heap.size ≤ w2.heap.size:=HB2.out.size
 have HP3:=Lib.hid (show PartsW (w2.alloc (.cells #[.slice (some ⟨w1.heap.size,0,none⟩) 64 64] 22)) (fun k=>k = g ∨ (Value.slice none 0 0).ownBlock = some k) (.slice (some ⟨w2.heap.size,0,none⟩) 1 1) [PI] from by
  have h1:=HR2.out.slW (by rw [HPIl.out]; decide)
  rw [HPIl.out] at h1
  have h2:=PartsW.new1 (w:=w2) (bad:=fun k=>k = g ∨ (Value.slice none 0 0).ownBlock = some k) (l:=PI) (p:=w1.heap.size) (c:=64) (t:=22) rfl (fun e=>e.elim (fun e=>by have:=HGS.out; omega) (fun e=>nomatch e)) (fun e=>e.elim (fun e=>by have:=HGS.out; omega) (fun e=>nomatch e)) (by rw [HPIl.out]; exact h1)
  rwa [HPIl.out] at h2)
 have HB03:=Lib.hid (show Below w0.heap.size w0 (w2.alloc (.cells #[.slice (some ⟨w1.heap.size,0,none⟩) 64 64] 22)) from (HB01.out.trans (HB2.out.mono hs2)).alloc (by omega) _)
 have HR3:=Lib.hid ((Row.below HR1.out HB2.out HGS.out).alloc (.cells #[.slice (some ⟨w1.heap.size,0,none⟩) 64 64] 22))
 have hgB : w0.heap.size ≤ g:=HG.out
 have HGB:=Lib.hid hgB
 clear hs2 hs3 hgB
 go_wp2_with fail
 refine (put_any _ w0.heap.size g (.slice none 0 0) _ [] [PI] (HV0.out.below HB03.out).rounds HLT0.out HB03.out.size (StW.new HR3.out HGB.out) HP3.out (by simp [HPIl.out]) (by simp)).mono ?_
 rintro e w4 ⟨rfl,v4,hS4,hA4⟩
 have hS4' : StW w4 w0.heap.size g v4 PI:=by simpa using hS4
 have HB4:=Lib.hid (HB03.out.trans (hA4.belowB HGB.out (fun k e=>nomatch e) HB03.out.size))
 have HS4:=Lib.hid hS4'
 have HX4:=Lib.hid (show ∀ k,v4.ownBlock = some k → w0.heap.size ≤ k from fun k hk=>by
  rcases hS4'.own.row with e | ⟨b,cs,e,hb,_⟩
  ·rw [e] at hk; cases hk
  ·rw [e] at hk; obtain rfl:=Option.some.inj hk; exact hb)
 have HP4:=Lib.hid (HP0.out.below (bad':=fun k=>k = g ∨ v4.ownBlock = some k) HB4.out (fun k hk e=>e.elim (fun e=>hk (by rw [e]; exact Nat.le_trans HB0.out.size HGB.out)) (fun e=>hk (Nat.le_trans HB0.out.size (HX4.out k e)))))
 clear hS4 hA4 hS4'
 go_wp2_with fail
 refine (put_any w4 w0.heap.size g v4 _ PI ps (HV0.out.below HB4.out).rounds HLT0.out HB4.out.size HS4.out HP4.out (by rw [List.length_append,HPIl.out]; omega) hn).mono ?_
 rintro e w5 ⟨rfl,v5,hS5,hA5⟩
 have HB5:=Lib.hid (HB4.out.trans (hA5.belowB HGB.out HX4.out HB4.out.size))
 have HS5:=Lib.hid hS5
 clear hS5 hA5
 go_wp2_with fail
 refine (sum_any w5 w0.heap.size g v5 (PI ++ ps.flatten) (HV0.out.below HB5.out).rounds HS5.out (by rw [List.length_append,HPIl.out]; omega)).mono ?_
 rintro e w6 ⟨rfl,hB6⟩
 have HB6:=Lib.hid (HB5.out.trans (hB6.mono HB5.out.size))
 obtain ⟨X,hX⟩ : ∃ X,X = shaS (PI ++ ps.flatten):=⟨_,rfl⟩
 have hXl : X.length = 32:=by rw [hX]; exact shaS_len _
 rw [← hX]
 have hXs:=(AB_size X).trans hXl
 have hsb:=sub_all (AB X) 32 hXs
 have hov : ∀ z : Array Value,z.size = 32 → over z 0 (AB X) = AB X:=fun z hz=>over_all _ _ (hz.trans hXs.symm)
 have HX:=Lib.hid hX
 have HXl:=Lib.hid hXl
 have HOV:=Lib.hid hov
 clear hB6 hX hXl hov
 go_upto_region 8 with (fail)
 obtain ⟨g7,hg7⟩ : ∃ g,g = w6.heap.size:=⟨_,rfl⟩
 have hg7B : w0.heap.size ≤ g7:=by rw [hg7]; exact HB6.out.size
 obtain ⟨w7,hw7⟩ : ∃ W,W = ((w6.alloc (.cells #[.int .u8 0,.int .u8 0,.int .u8 0,.int .u8 0,.int .u8 0,.int .u8 0,.int .u8 0,.int .u8 0,.int .u8 0,.int .u8 0,.int .u8 0,.int .u8 0,.int .u8 0,.int .u8 0,.int .u8 0,.int .u8 0,.int .u8 0,.int .u8 0,.int .u8 0,.int .u8 0,.int .u8 0,.int .u8 0,.int .u8 0,.int .u8 0,.int .u8 0,.int .u8 0,.int .u8 0,.int .u8 0,.int .u8 0,.int .u8 0,.int .u8 0,.int .u8 0] 24)).setRow g7 (AB X)):=⟨_,rfl⟩
 rw [← hg7,← hw7]
 have HR7:=Lib.hid (show Row w7 g7 24 (AB X) from by rw [hw7,hg7]; exact (Row.new w6 _ _).setRow _)
 have hlt7:=HR7.out.lt
 have HB7:=Lib.hid (show Below w0.heap.size w0 w7 from by rw [hw7]; exact bSetRow (HB6.out.alloc HB6.out.size _) hg7B _)
 clear hw7 hg7
 have hwz : w0.heap.size < w7.heap.size:=by omega
 obtain ⟨PO,hPO⟩ : ∃ P,P = padK key 0x5c:=⟨_,rfl⟩
 have HPO:=Lib.hid hPO
 have HPOl:=Lib.hid (show PO.length = 64 by rw [hPO]; exact padK_len _ _ HKL.out)
 have HPAD:=Lib.hid (fun (w':World) (hb:Below w7.drew.heap.size w7.drew w')=>(mpad_any w' (.slice ak key.length ck) key 0x5c (HK0.out.below (HB7.out.drew.trans (hb.mono HB7.out.drew.size))) HKL.out).mono (fun e w'' h=>(⟨_,h.1,fun d hd=>by cases hd; exact ⟨w'.heap.size,rfl,hb.size,by rw [hPO]; exact h.2.1⟩,h.2.2⟩ : ∃ v,e = .returned v ∧ (∀ d,some (27 : Tmp) = some d → ∃ p,v = .slice (some ⟨p,0,none⟩) 64 64 ∧ w7.drew.heap.size ≤ p ∧ Row w'' p 5 (AB PO)) ∧ Below w'.heap.size w' w'')))
 clear hPO
 have hr7:=HR7.out
 refine wp_region_free 3 [27] (fun d v w'=>∃ p,v = .slice (some ⟨p,0,none⟩) 64 64 ∧ w7.drew.heap.size ≤ p ∧ Row w' p 5 (AB PO)) (by kernel_rfl) (by kernel_rfl) (by kernel_rfl) ?hst ?h
 case hst =>
  intro d v w w' h hb
  obtain ⟨p,h1,h2,h3⟩:=h
  exact ⟨p,h1,h2,h3.below hb h3.lt⟩
 case h =>
 simp only [List.take_succ_cons,List.take_zero,List.drop_succ_cons,List.drop_zero]
 apply Exists.intro
 apply Exists.intro
 refine ⟨?_,?_,?_⟩
 ·intro ν
  (apply wpF_q rfl; focus (intro C hC hG; (first | go_big_quiet_skip | (go_big_quiet_want; go_big_quiet_op; first | go_big_quiet_on | (refine ⟨_,fun _ _=>rfl,?_⟩; go_big_quiet_on)) | (go_big_quiet_want; apply qf_load1 _ _ rfl _ _ rfl; (exact hC); rotate_left 1; (focus (intro _; simp [go_sem]; done)); rotate_right 1; assumption; assumption; (simp only [Act.put,lS]; go_big_quiet_on)) | (go_big_quiet_want; apply qf_loadA _ _ rfl _ _ rfl (sz:=32); (exact hC); rotate_left 1; (focus (intro _; simp [go_sem]; done)); (focus (intro _; simp [go_sem]; done)); rotate_right 1; assumption; assumption; assumption; (simp only [Act.put,lS]; go_big_quiet_on))); exact wpQuiet_nil rfl))
  (apply wpF_free; (focus rfl); (focus rfl); (exact (fun w hb _=>HPAD.out w hb)); (focus (intro w; simp [go_sem]; done)); simp only [Act.put,vqF,pS])
  (apply wpF_q rfl; focus (intro C hC hG; (first | go_big_quiet_skip | (go_big_quiet_want; go_big_quiet_op; first | go_big_quiet_on | (refine ⟨_,fun _ _=>rfl,?_⟩; go_big_quiet_on)) | (go_big_quiet_want; apply qf_load1 _ _ rfl _ _ rfl; (exact hC); rotate_left 1; (focus (intro _; simp [go_sem]; done)); rotate_right 1; assumption; assumption; (simp only [Act.put,lS]; go_big_quiet_on)) | (go_big_quiet_want; apply qf_loadA _ _ rfl _ _ rfl (sz:=32); (exact hC); rotate_left 1; (focus (intro _; simp [go_sem]; done)); (focus (intro _; simp [go_sem]; done)); rotate_right 1; assumption; assumption; assumption; (simp only [Act.put,lS]; go_big_quiet_on))); exact wpQuiet_nil rfl))
  exact wpF_nil ⟨rfl,rfl⟩
 ·intro ν ν'
  rfl
 ·intro ν w8 hw8 hf
  obtain ⟨p,hp1,hp2,hp3⟩:=hf 27 (by decide)
  rw [hp1]
  clear hp1 hf
  have hR8:=Row.below hr7.drew hw8 hlt7
  have HB8:=Lib.hid (HB7.out.drew.trans (hw8.mono HB7.out.drew.size))
  have hz8:=hw8.size
  have HP8:=Lib.hid (show PartsW (w8.alloc (.cells #[.slice (some ⟨p,0,none⟩) 64 64,.slice (some ⟨g7,0,none⟩) 32 32] 22)) (fun k=>(w8.alloc (.cells #[.slice (some ⟨p,0,none⟩) 64 64,.slice (some ⟨g7,0,none⟩) 32 32] 22)).heap.size ≤ k) (.slice (some ⟨w8.heap.size,0,none⟩) 2 2) [PO,X] from by
   have h1:=hp3.slW (by rw [HPOl.out]; decide)
   have h2:=hR8.slW (by rw [HXl.out]; decide)
   rw [HPOl.out] at h1
   rw [HXl.out] at h2
   have h3:=PartsW.new2 (w:=w8) (bad:=fun k=>w8.heap.size + 1 ≤ k) (l:=PO) (m:=X) (p:=p) (q:=g7) (c:=64) (d:=32) (t:=22) rfl (by omega) (by have:=hp3.lt; omega) (by have:=hR8.lt; omega) (by rw [HPOl.out]; exact h1) (by rw [HXl.out]; exact h2)
   rw [HPOl.out,HXl.out] at h3
   simpa using h3)
  have HB9:=Lib.hid (HB8.out.alloc HB8.out.size (.cells #[.slice (some ⟨p,0,none⟩) 64 64,.slice (some ⟨g7,0,none⟩) 32 32] 22))
  clear hR8 hp3 hr7 hw8
  go_wp2_with fail
  refine (hof_any _ _ [PO,X] (HV0.out.below HB9.out) HP8.out (by simp [HPOl.out,HXl.out]) (by simp)).mono ?_
  rintro e w9 ⟨rfl,hB9⟩
  have HB10:=Lib.hid (HB9.out.trans (hB9.mono HB9.out.size))
  obtain ⟨z,hz,hzs⟩:=HR0.out.below HB10.out (by have:=HS0.out; omega)
  have HF:=Lib.hid (HB0.out.trans (HB10.out.mono HB0.out.size))
  obtain ⟨Y,hY⟩ : ∃ Y,Y = shaS [PO,X].flatten:=⟨_,rfl⟩
  have hYl : Y.length = 32:=by rw [hY]; exact shaS_len _
  have HY:=Lib.hid (show Y = macS key ps.flatten by rw [hY,macS,← HPO.out,← HPI.out,← HX.out]; simp)
  rw [← hY]
  have hYs:=(AB_size Y).trans hYl
  have hsY:=sub_all (AB Y) 32 hYs
  have hov : over z 0 (AB Y) = AB Y:=over_all _ _ (hzs.trans hYs.symm)
  have hzlt:=hz.lt
  clear hB9 hY hsb hlt7 hwz hz8 hYl
  go_wp2_with fail
  exact ret_row (.inl rfl) rfl w.heap.size _ _ 32 _ rfl (hz.setRow _) Tryz.underlying24 rfl (by kernel_rfl) hYs ⟨by rw [HY.out],bSetRow HF.out (Nat.le_refl _) _⟩
end Go.Proofs.YtjpfhhndjpdmoaaGreatDoor

namespace Go.Proofs.YtjpfhhndjpdmoaaGreatDoor
open Go.RowKit
set_option linter.unusedVariables false
set_option linter.unusedSimpArgs false

def expS (key info:List UInt8) (n:Nat) : List UInt8:=(macS key (info ++ [1])).take n
end Go.Proofs.YtjpfhhndjpdmoaaGreatDoor

namespace Go.Proofs.YtjpfhhndjpdmoaaGreatDoor
open Go.RowKit
set_option linter.unusedVariables false
set_option linter.unusedSimpArgs false

def preS : List UInt8:=[116,108,115,49,51,32]
def labI (ls ctx:List UInt8) (n:Nat) : List UInt8:=[UInt8.ofNat (n / 256),UInt8.ofNat n,UInt8.ofNat (preS ++ ls).length] ++ (preS ++ ls) ++ [UInt8.ofNat ctx.length] ++ ctx
def labS (key ls ctx:List UInt8) (n:Nat) : List UInt8:=expS key (labI ls ctx n) n
theorem OwnW.addr {w:World} {B0:Nat} {v:Value} {l:List UInt8} (h:OwnW w B0 v l) : ∀ ad,addrV v = some ad → ad.block < w.heap.size:=fun ad had=>by
 rcases h with ⟨rfl,_⟩ | ⟨b,o,cap,cur,rfl,_,hr,_⟩
 ·cases had
 ·obtain rfl:=Option.some.inj had
  exact hr.lt
theorem u8wr (n:Nat) (k:Int) (h:k = (n:Int)) : IntKind.u8.wrap k = ((UInt8.ofNat n).toNat : Int):=by rw [h]; exact u8wrapS n
end Go.Proofs.YtjpfhhndjpdmoaaGreatDoor

namespace Go.Proofs.YtjpfhhndjpdmoaaGreatDoor
open Go.RowKit
set_option linter.unusedVariables false
set_option linter.unusedSimpArgs false

theorem equal_b32 (xs ys:List UInt8) (hx:xs.length = 32) (hy:ys.length = 32) (w:World) :
  (Op.equalIn 10000 24 (.agg (AB xs)) (.agg (AB ys))).run Tryz.prog w = .ok (xs == ys) w :=
 run_equalIn_bytes w 9998 24 5 32 Tryz.underlying24 Tryz.underlying5 (fun _=>by kernel_rfl) xs ys hx hy
theorem run_neq32 {ρ : Operand → Value} {dst:Option Tmp} {x y:Operand} {ty type:TypeId} {pos:String} {after:Array Edge} {guard:Option (Nat × Bool)} {a b:List UInt8} (ha:a.length = 32) (hb:b.length = 32) (hne:(a == b) = false) (hx:ρ x = .agg (AB a)) (hy:ρ y = .agg (AB b)) (w:World) :
  (execOp ρ { dst,op:=.binOp .neq 24 x y ty,type,pos,after,guard }).run Tryz.prog w = .ok (.value (.bool true)) w:=by
 unfold execOp
 simp only [hx,hy]
 simp [go_sem,equal_b32 a b ha hb,hne]

theorem OwnW.low {w:World} {B0 B1:Nat} {v:Value} {l:List UInt8} (h:OwnW w B0 v l) (hb:B1 ≤ B0) : OwnW w B1 v l:=by
 rcases h with h | ⟨b,o,cap,cur,h1,h2,h3⟩
 ·exact .inl h
 ·exact .inr ⟨b,o,cap,cur,h1,Nat.le_trans hb h2,h3⟩
end Go.Proofs.YtjpfhhndjpdmoaaGreatDoor

namespace Go.Proofs.YtjpfhhndjpdmoaaGreatDoor
open Go.RowKit
set_option linter.unusedVariables false
set_option linter.unusedSimpArgs false

theorem OwnW.part {w:World} {B0:Nat} {v:Value} {l m:List UInt8} {k:Nat} (h:OwnW w B0 v l) (hm:(l.drop k).take m.length = m) (hl:k + m.length ≤ l.length) (h0:0 < m.length) :
  ∃ b o cap cur,v = .slice (some ⟨b,o,none⟩) l.length cap ∧ Row w b 5 cur ∧ l.length ≤ cap ∧ cap ≤ maxLen ∧ HasP cur (o + k) m.length (AB m):=by
 rcases h with ⟨rfl,rfl⟩ | ⟨b,o,cap,cur,rfl,_,hr,h1,h2,h3,h4⟩
 ·exact absurd hl (by simp only [List.length_nil]; omega)
 ·refine ⟨b,o,cap,cur,rfl,hr,h1,h3,by omega,?_⟩
  apply Array.ext
  ·simp only [sub,Array.size_extract,AB_size]; omega
  ·intro i hi1 hi2
   have hi : i < m.length:=by rw [AB_size] at hi2; exact hi2
   have e1:=h4 (k + i) (by omega)
   have e2 : gb l (k + i) = gb m i:=by
    have : gb ((l.drop k).take m.length) i = gb l (k + i):=by
     unfold gb
     rw [List.getD_eq_getElem?_getD,List.getD_eq_getElem?_getD,List.getElem?_take,if_pos hi,List.getElem?_drop]
    rw [← this,hm]
   rw [e2] at e1
   have e3 : (sub cur (o + k) m.length)[i]? = (AB m)[i]?:=by
    rw [AB_get m i hi]
    unfold sub
    rw [Array.getElem?_extract,if_pos (by omega),← e1,Nat.add_assoc]
   rw [Array.getElem?_eq_getElem hi1,Array.getElem?_eq_getElem hi2] at e3
   exact Option.some.inj e3
end Go.Proofs.YtjpfhhndjpdmoaaGreatDoor

namespace Go.Proofs.YtjpfhhndjpdmoaaGreatDoor
open Go.RowKit
set_option linter.unusedVariables false
set_option linter.unusedSimpArgs false

theorem of_be {w:World} {a:Nat} (ha:a < R256) : Calls Tryz.prog 93 #[.agg (AB (be32 a))] w fun e w'=>e = .returned (.agg (AQ (nL a))) ∧ Below w.heap.size w w':=by
 have:=of_any w (be32 a) (be32_len a)
 rw [natB_be32 ha] at this
 exact this
theorem ret_Trow {P:Program} {fn:Func} {p q:Tmp} {ty:TypeId} {tmps:Array Value} {w:World} {R:Ending → World → Prop} {e:Exit} (he:e = .ret ∨ e = .normal) (h:fn.results = #[.tmp q,.cell p ty]) (g:Nat) (t:TypeId) (cs:Array Value) (n:Nat) (d:TypeDesc) (v:Value)
  (hp:tmps.getD p undef = .pointer (some ⟨g,0,none⟩)) (hr:Row w g t cs) (hq:tmps.getD q undef = v)
  (hu:P.underlying ty = some d) (hd:(match d with | .struct _ | .array _ _=>true | _=>false) = true) (hi:(P.info? ty).map (·.size) = some n) (hn:cs.size = n)
  (hR:R (.returned (.tuple #[v,.agg cs])) w) : bodyPost P fn R e { tmps,defers:=[] } w:=by
 have hres : (results fn tmps).run P w = .ok (.tuple #[v,.agg cs]) w:=by
  have hp' : tmps[p]?.getD undef = .pointer (some ⟨g,0,none⟩):=by simpa using hp
  have hq' : tmps[q]?.getD undef = v:=by simpa using hq
  simp [results,h,hp',hq',asAddr,run_loadVar_row w g t ty cs (0,0) d hr.heap hu hd (by rw [hi,hn])]
 rcases he with rfl | rfl <;> exact ⟨rfl,_,hres,hR⟩
abbrev MkW (m neg ri:Nat) : Prop:=∀ w,Calls Tryz.prog 143 #[.agg (AQ (nL m))] w fun e w'=>∃ g,e = .returned (.tuple #[.pointer (some ⟨g,0,none⟩),.int .i64 0]) ∧ ModW w' g m neg ri ∧ w.heap.size ≤ g ∧ Below w.heap.size w w'

set_option maxRecDepth 100000 in
set_option maxHeartbeats 4000000 in
theorem order_any {w:World} {m neg ri:Nat} {t1:TypeId} (hO:Row w 1 t1 (AQ (nL m))) (hm:m < R256) (hmk:MkW m neg ri) : Calls Tryz.prog 90 #[] w fun e w'=>∃ g,e = .returned (.tuple #[.pointer (some ⟨g,0,none⟩),.agg (AQ (nL m))]) ∧ ModW w' g m neg ri ∧ Below w.heap.size w w':=by
 have HGO:=Lib.hid (show ∀ W,Below w.heap.size w W → Row W 1 t1 (AQ (nL m)) from fun W hb=>hO.below hb hO.lt)
 have HL:=Lib.hid hm
 have HMK:=Lib.hid hmk
 clear hO hm hmk
 go_enter Tryz.func90,Tryz.ntmps90
 go_upto_region 1 with (fail)
 refine at_world (fun W=>Row W w.heap.size 177 (AQ (nL 0)) ∧ Below w.heap.size w W) (⟨(by rw [nAQ_zero]; exact (Row.newAt _ _ _ _ rfl)),((Below.refl _ w).alloc (Nat.le_refl _) _)⟩) ?_
 rintro W1 ⟨i1_1,hB1⟩
 refine wp_region_num 3 [0,1] [2] (fun _=>.cells (AQ (nL 0)) 177) (by kernel_rfl) (by kernel_rfl) (by kernel_rfl) (by kernel_rfl) ?hal ?h
 case hal =>
  intro k hk o ho
  simp only [List.mem_cons,List.not_mem_nil,or_false] at hk
  subst hk
  ·cases ho; exact alF_of _ (fun _ _=>by kernel_rfl)
 case h =>
 apply Exists.intro
 refine ⟨fun R=>?_,?_⟩
 ·simp only [List.map_cons,List.map_nil,List.getD_cons_zero,List.getD_cons_succ]
  (go_big_quiet_want; refine qa_call _ _ ?_ _ (fun w' hb=>order_gen w' m _ (HGO.out _ (hB1.trans (hb.mono hB1.size)))) ?_; (focus (intro w; simp [go_sem]; done)); (simp only [Act.put,lS]; go_big_quiet_on))
  (go_big_quiet_want; refine qa_call _ _ ?_ _ (fun w' hb=>of_be HL.out) ?_; (focus (intro w; simp [go_sem]; done)); (simp only [Act.put,lS]; go_big_quiet_on))
  exact wpQuiet_nil rfl
 ·refine wpAl_consP rfl ?_
  intro g2 hg2 nng2
  intro w2 hcc
  have ne_1_g2 : w.heap.size ≠ g2:=by have:=i1_1.lt; omega
  replace i1_1:=i1_1.below hcc.1 i1_1.lt
  have j_2 : Row w2 g2 177 (AQ (nL 0)):=.of_heap (hcc.2 g2 _ (by simp [upd]))
  have hg_le : w.heap.size ≤ w2.heap.size:=Nat.le_trans hB1.size hcc.1.size
  have lb_g2 : w.heap.size ≤ g2:=Nat.le_trans hB1.size hg2
  replace hB1:=hB1.trans (hcc.1.mono hB1.size)
  clear hcc hg_le hg2 nng2
  have lt_2:=j_2.lt
  go_upto_region 2 with (fail)
  refine at_world (fun W=>Row W w.heap.size 177 (AQ (nL 0)) ∧ Row W g2 177 (AQ (nL m)) ∧ Below w.heap.size w W) (⟨(i1_1.setRowOther _ _ (by omega)),(j_2.setRow _),(bSetRow hB1 lb_g2 _)⟩) ?_
  clear i1_1 j_2 lt_2 hB1
  rintro W2 ⟨i2_1,i2_2,hB2⟩
  have LT1:=Lib.hid (show w.heap.size < W2.heap.size from i2_1.lt)
  go_wp2_with fail
  refine (HMK.out _).mono ?_
  rintro e W5 ⟨g,rfl,hM,hg,hB5⟩
  replace i2_1:=i2_1.below hB5 i2_1.lt
  replace i2_2:=i2_2.below hB5 i2_2.lt
  have hb6:=hB2.trans (hB5.mono hB2.size)
  have HNG:=Lib.hid (show g ≠ w.heap.size from by have:=LT1.out; omega)
  have HM:=Lib.hid hM
  have HG:=Lib.hid hg
  clear hB5 hB2 hM hg
  go_upto_region 3 with (fail)
  have l1 : w.heap.size < W5.heap.size:=i2_1.lt
  have l2 : g2 < W5.heap.size:=i2_2.lt
  have d1:=i2_1.drew
  have d2:=i2_2.drew
  have hb7:=hb6.drew
  go_region_law (fail)
  all_goals
   go_wp2_with fail
   exact ret_Trow (by first | exact .inl rfl | exact .inr rfl) rfl w.heap.size 177 (AQ (nL m)) 4 _ _ rfl (d1.setRow _) rfl Tryz.underlying177 rfl (by kernel_rfl) rfl ⟨g,rfl,⟨HM.out.row.drew.setRowOther _ _ HNG.out,HM.out.md⟩,bSetRow hb7 (Nat.le_refl _) _⟩
set_option maxRecDepth 100000 in
set_option maxHeartbeats 4000000 in
theorem fine_yes {w:World} {m neg ri:Nat} {t1:TypeId} {lk:List UInt8} (hO:Row w 1 t1 (AQ (nL m))) (hm:m < R256) (hmk:MkW m neg ri) (hlk:lk.length = 32) (hne:(lk == zer32) = false) (hlt:natB lk < m) : Calls Tryz.prog 89 #[.agg (AB lk)] w fun e w'=>e = .returned (.bool true) ∧ Below w.heap.size w w':=by
 have HGO:=Lib.hid (show ∀ W,Below w.heap.size w W → Row W 1 t1 (AQ (nL m)) from fun W hb=>hO.below hb hO.lt)
 have HL:=Lib.hid hm
 have HMK:=Lib.hid hmk
 have HLK:=Lib.hid hlk
 have HNE:=Lib.hid hne
 have HLT:=Lib.hid hlt
 clear hO hm hmk hlk hne hlt
 go_enter Tryz.func89,Tryz.ntmps89
 go_upto_region 1 with (fail)
 refine at_world (fun W=>Row W w.heap.size 24 (AB lk) ∧ Below w.heap.size w W) (⟨(Row.newAt _ _ _ _ rfl),((Below.refl _ w).alloc (Nat.le_refl _) _)⟩) ?_
 rintro W1 ⟨i1_1,hB1⟩
 go_wp2_with fail
 refine (order_any (HGO.out _ hB1) HL.out HMK.out).mono ?_
 rintro e W5 ⟨g,rfl,hM,hB5⟩
 replace i1_1:=i1_1.below hB5 i1_1.lt
 replace hB1:=hB1.trans (hB5.mono hB1.size)
 clear hB5 hM
 go_upto_region 2 with (fail)
 obtain ⟨g4,hg4⟩ : ∃ q_,q_ = W5.heap.size:=⟨_,rfl⟩
 rw [← hg4]
 refine at_world (fun W=>Row W w.heap.size 24 (AB lk) ∧ Row W g4 177 (AQ (nL m)) ∧ Below w.heap.size w W) (⟨((i1_1.alloc _).setRowOther _ _ (by have:=i1_1.lt; omega)),((rowZ _ _ _ hg4).setRow _),(bSetRow (hB1.alloc hB1.size _) (by have:=hB1.size; omega) _)⟩) ?_
 clear i1_1 hB1
 rintro W2 ⟨i2_1,i2_4,hB2⟩
 clear hg4
 replace i2_1:=i2_1.drew
 replace i2_4:=i2_4.drew
 replace hB2:=hB2.drew
 obtain ⟨x14,h14⟩ : ∃ q_,q_ = natB lk:=⟨_,rfl⟩
 have b_x14 : x14 < R256:=by rw [h14]; exact natB_lt32 HLK.out
 have H14:=Lib.hid h14
 clear h14
 refine wp_region_allocs 9 [0,1,2,3,4,5,6,7,8] [] (fun _=>.cells #[] 0) (by kernel_rfl) (by kernel_rfl) (by kernel_rfl) (by kernel_rfl) ?hal ?h
 case hal =>
  intro k hk o ho
  cases hk
 case h =>
 apply Exists.intro
 refine ⟨fun R=>?_,?_⟩
 ·simp only [List.map_cons,List.map_nil,List.getD_cons_zero,List.getD_cons_succ]
  (go_big_quiet_want; apply qn_load at_b32 rfl rfl i2_1 (hp_b HLK.out); (simp only [Act.put,lS]; go_big_quiet_on))
  (go_big_quiet_want; refine qa_pure (.agg (AB zer32)) (fun w=>by kernel_rfl) ?_; (simp only [Act.put,lS]; go_big_quiet_on))
  (go_big_quiet_want; refine qa_pure (.bool true) (run_neq32 HLK.out zer32_len HNE.out rfl rfl) ?_; (simp only [Act.put,lS]; go_big_quiet_on))
  (first | go_big_quiet_skip | (go_big_quiet_want; go_big_quiet_op; first | go_big_quiet_on | (refine ⟨_,fun _ _=>rfl,?_⟩; go_big_quiet_on)))
  (go_big_quiet_want; apply qn_load at_b32 rfl rfl i2_1 (hp_b HLK.out); (simp only [Act.put,lS]; go_big_quiet_on))
  (go_big_quiet_want; refine qa_call _ _ ?_ _ (fun w' hb=>of_x HLK.out H14.out) ?_; (focus (intro w; simp [go_sem]; done)); (simp only [Act.put,lS]; go_big_quiet_on))
  (go_big_quiet_want; apply qn_load at_num rfl rfl i2_4 (hp_num m); (simp only [Act.put,lS]; go_big_quiet_on))
  (go_big_quiet_want; refine qa_call _ _ ?_ _ (fun w' hb=>less_yes b_x14 HL.out (by rw [H14.out]; exact HLT.out)) ?_; (focus (intro w; simp [go_sem]; done)); (simp only [Act.put,lS]; go_big_quiet_on))
  (first | go_big_quiet_skip | (go_big_quiet_want; go_big_quiet_op; first | go_big_quiet_on | (refine ⟨_,fun _ _=>rfl,?_⟩; go_big_quiet_on)))
  exact wpQuiet_nil rfl
 ·intro w2 hcc
  replace i2_1:=i2_1.below hcc.1 i2_1.lt
  replace i2_4:=i2_4.below hcc.1 i2_4.lt
  have hg_le : w.heap.size ≤ w2.heap.size:=Nat.le_trans hB2.size hcc.1.size
  replace hB2:=hB2.trans (hcc.1.mono hB2.size)
  clear hcc hg_le
  go_wp2_with fail
  go_ret
  exact ⟨rfl,hB2⟩
end Go.Proofs.YtjpfhhndjpdmoaaGreatDoor

namespace Go.Proofs.YtjpfhhndjpdmoaaGreatDoor
open Go.RowKit
set_option linter.unusedVariables false
set_option linter.unusedSimpArgs false
set_option maxRecDepth 100000 in
set_option maxHeartbeats 4000000 in
theorem mulU_one (n:Nat) (hn:n < 18446744073709551616) (w:World) :
  Calls Tryz.prog 184 #[.int .u64 1,.int .u64 (n:Int)] w fun e w'=>e = .returned (.tuple #[.int .u64 0,.int .u64 (n:Int)]) ∧ w = w':=by
 have h:=fun W=>mul64_any 1 n (by decide) hn W
 rw [Nat.one_mul,Nat.div_eq_of_lt hn,Nat.mod_eq_of_lt hn] at h
 have HM:=Lib.hid h
 clear h
 go_enter Tryz.func184,Tryz.ntmps184
 go_wp2_with fail
 refine (HM.out _).mono ?_
 rintro e w' ⟨rfl,rfl⟩
 go_wp2_with fail
 go_ret2
 exact ⟨rfl,rfl⟩
theorem run_mnz (n:Nat) (hn:n ≤ 1000) (w:World) : ∃ cs : Array Value,(callFunc 185 #[.int .i64 (n:Int)]).run Tryz.prog w = .ok (.value (.slice (some ⟨w.heap.size,0,none⟩) n cs.size)) (w.drew.drew.alloc (.cells cs 5)) ∧ n ≤ cs.size ∧ cs.size ≤ maxLen:=by
 obtain ⟨cs,hrun,h1,h2⟩:=Lib.run_makeNoZero (P:=Tryz.prog) w #[3] 22 5 Tryz.underlying22 n (by omega)
 refine ⟨cs,?_,h1,h2 (by unfold maxLen; omega)⟩
 rw [run_callFunc_extern Tryz.func185 (by kernel_rfl) (by kernel_rfl) (by kernel_rfl) (e:=Extern.BytealgMakeNoZero.makeNoZero #[3] #[22]) (by kernel_rfl),hrun]
 rfl
theorem wp_copyB {o:Oper} {a:Act} {w:World} {K:Act → World → Prop} {Q:Exit → Act → World → Prop} (hgd:o.guard = none) (d s:Operand) (dT sT:TypeId)
  (ho:o.op = .call { callee:=.builtin .copy,args:=#[d,s],argTypes:=#[dT,sT] }) (elem:TypeId) (hu:Tryz.prog.underlying dT = some (.slice elem)) (hsz:(Tryz.prog.info? elem).map (·.size) = some 1)
  (dp sp:Option Addr) (dLen dCap sLen sCap:Nat) (hd:a.eval d = .slice dp dLen dCap) (hs:a.eval s = .slice sp sLen sCap)
  (g off:Nat) (cur:List Value) (t:TypeId) (hg:w.heap[g]? = some (.cells cur.toArray t (0,0))) (cs:List Value) (hn:cs.length = Nat.min sLen dLen)
  (hpos:0 < cs.length → dp = some ⟨g,off,none⟩ ∧ ∃ ad,sp = some ad ∧ ∀ j v,cs[j]? = some v → w.cell? (ad.add j) = some v)
  (hfit:off + cs.length ≤ cur.length) (h1:∀ v ∈ cs,v.oneCell' = true) (B:Nat) (w0:World) (hb:Below B w0 w) (hBg:B ≤ g)
  (h:∀ w',Hid (w'.heap[g]? = some (.cells (splice cur off cs).toArray t (0,0))) → Below B w0 w' → K (a.put o.dst (goInt cs.length)) w') : o.wp Tryz.prog a w K Q:=by
 have:=step_copy_splice (P:=Tryz.prog) (ops:=#[]) (E:=True) (Q:=Q) hgd d s dT sT ho elem hu hsz dp sp dLen dCap sLen sCap hd hs g off cur t hg cs hn hpos hfit h1 B w0 hb hBg h
 rwa [if_pos (by simp [Region.wanted,hgd])] at this
theorem rep_splice {x:UInt8} {cur:List Value} {j k:Nat} (h:j + (List.replicate k (B x)).length ≤ cur.length) (hc:∀ i,i < j → cur[i]? = some (B x)) : ∀ i,i < j + k → (splice cur j (List.replicate k (B x)))[i]? = some (B x):=by
 rw [List.length_replicate] at h
 intro i hi
 unfold splice
 rw [List.getElem?_append]
 split
 ·rename_i h1
  rw [List.length_take] at h1
  rw [List.getElem?_take,if_pos (by omega)]
  exact hc i (by omega)
 ·rename_i h1
  rw [List.length_take] at h1 ⊢
  rw [List.getElem?_append_left (by rw [List.length_replicate]; omega),List.getElem?_replicate,if_pos (by omega)]
theorem SlB.at0 {w w1:World} {b o c n:Nat} {x:UInt8} (h:SlB w (.slice (some ⟨b,o,none⟩) n c) [x]) (hb:Below w.heap.size w w1) : w1.cell? ⟨b,o + 0,none⟩ = some (B x):=by
 obtain ⟨a2,c2,hv,_,_,_,h4⟩:=h.below hb
 simp only [Value.slice.injEq] at hv
 exact (h4 _ hv.1.symm).2 0 Nat.one_pos
def RpS (x:UInt8) (g C j:Nat) (w:World) : Prop:=∃ cur : List Value,w.heap[g]? = some (.cells cur.toArray 5 (0,0)) ∧ cur.length = C ∧ ∀ i,i < j → cur[i]? = some (B x)
set_option maxRecDepth 100000 in
set_option maxHeartbeats 4000000 in
theorem repeat_any (w:World) (vb:Value) (x:UInt8) (n:Nat) (hb:SlB w vb [x]) (h1:1 ≤ n) (hn:n ≤ 1000) :
  Calls Tryz.prog 144 #[vb,.int .i64 (n:Int)] w fun e w'=>∃ v,e = .returned v ∧ OwnW w' w.heap.size v (List.replicate n x) ∧ Below w.heap.size w w':=by
 obtain ⟨b0,o0,c,rfl,_,_,_,hcell⟩:=hb.addr Nat.one_pos
 have n0 : ¬ (n:Int) < 0:=by omega
 have n1 : ((n:Int) == 0) = false:=by simp; omega
 have n2 : (0 : Int) ≤ (n:Int):=by omega
 have n3 : (n:Int) ≤ 1000:=by omega
 have n4 : ¬ (9223372036854775807 : Int) < (n:Int):=by omega
 have n5 : ¬ (8192 : Int) < (n:Int):=by omega
 have HB:=Lib.hid hb
 have HN:=Lib.hid (⟨h1,hn⟩ : _ ∧ _)
 obtain ⟨cs,hmk,hc1,hc2⟩:=run_mnz n hn w
 obtain ⟨C,hC⟩ : ∃ C,C = cs.size:=⟨_,rfl⟩
 rw [← hC] at hmk hc1 hc2
 have c1 : (n:Int) ≤ (C:Int):=by omega
 have HC:=Lib.hid (⟨hC,hc1,hc2⟩ : _ ∧ _ ∧ _)
 obtain ⟨W1,hW1⟩ : ∃ W,W = w.drew.drew.alloc (.cells cs 5):=⟨_,rfl⟩
 rw [← hW1] at hmk
 have HW:=Lib.hid (show W1.heap[w.heap.size]? = some (.cells cs.toList.toArray 5 (0,0)) ∧ Below w.heap.size w W1 by
  rw [hW1]
  exact ⟨by rw [Array.toArray_toList]; exact heap_alloc_new w.drew.drew _,((Below.refl _ w).drew.drew).alloc (Nat.le_refl _) _⟩)
 clear hb h1 hn hC hc1 hc2 hW1
 go_enter Tryz.func144,Tryz.ntmps144
 go_wp2_with fail
 refine (mulU_one n (by have:=HN.out; omega) _).mono ?_
 rintro e w' ⟨rfl,rfl⟩
 go_upto_region 17 with (fail)
 have HS:=Lib.hid (show cs.toList.length = C from by have:=HC.out.1; simp [this])
 have K2:=Lib.hid (show [B x].length = Nat.min 1 n from by have:=HN.out.1; show 1 = min 1 n; omega)
 have K3:=Lib.hid (show 0 < [B x].length → (some ⟨w.heap.size,0,none⟩ : Option Addr) = some ⟨w.heap.size,0,none⟩ ∧ ∃ ad,(some ⟨b0,o0,none⟩ : Option Addr) = some ad ∧ ∀ j v,[B x][j]? = some v → W1.cell? (ad.add j) = some v from fun _=>⟨rfl,⟨b0,o0,none⟩,rfl,fun j v hj=>by
   have hj0 : j = 0:=by
    rcases Nat.eq_zero_or_pos j with h | h
    ·exact h
    ·rw [List.getElem?_eq_none (by simp; omega)] at hj; cases hj
   subst hj0
   have e : v = B x:=by simpa using hj.symm
   rw [e,Addr.add_lit]
   exact HB.out.at0 HW.out.2⟩)
 have K4:=Lib.hid (show 0 + [B x].length ≤ cs.toList.length from by have:=HC.out; have:=HS.out; have:=HN.out; show 0 + 1 ≤ _; omega)
 have K5:=Lib.hid (show ∀ v ∈ [B x],v.oneCell' = true from by intro v hv; rw [List.mem_singleton.1 hv]; rfl)
 go_wp2_with (refine wpList_copy_splice rfl (.tmp 58) (.tmp 59) 22 22 rfl 5 Tryz.underlying22 (by kernel_rfl) (some ⟨w.heap.size,0,none⟩) (some ⟨b0,o0,none⟩) n n 1 c rfl rfl w.heap.size 0 cs.toList 5 HW.out.1 [B x] K2.out K3.out K4.out K5.out w.heap.size w HW.out.2 (Nat.le_refl _) ?_)
 intro W2 hW2 hb2
 have HR:=Lib.hid (show RpS x w.heap.size C 1 W2 ∧ Below w.heap.size w W2 from ⟨⟨_,hW2.out,by rw [length_splice _ _ _ K4.out]; exact HS.out,fun i hi=>by
  obtain rfl : i = 0:=by omega
  simp [splice]⟩,hb2⟩)
 clear K2 K3 K4 K5
 clear hW2 hb2 hmk
 go_wp2_with fail
 go_loopg [10] n (fun gk t10 wr=>∃ j : Nat,gk + j = n + 1 ∧ (1 ≤ j ∧ j ≤ n) ∧ t10 = .int .i64 (j:Int) ∧ RpS x w.heap.size C j wr ∧ Below w.heap.size w wr)
 case atStart=>exact ⟨1,by have:=HN.out; omega,⟨Nat.le_refl _,HN.out.1⟩,rfl,HR.out.1,HR.out.2⟩
 case round =>
  clear HR
  obtain ⟨j,hj,hj1,rfl,hR,hB⟩:=hrel
  by_cases hlt : j < n
  ·have j1 : (j:Int) < (n:Int):=by omega
   have j2 : ¬ (n:Int) < (j:Int):=by omega
   have j0 : (0 : Int) ≤ (j:Int):=by omega
   have j3 : (j:Int) ≤ (n:Int):=by omega
   obtain ⟨k,hk⟩ : ∃ k,k = Nat.min j (n - j):=⟨_,rfl⟩
   have hnj : ¬ n = j:=by omega
   have hkj : k ≤ j:=by rw [hk]; exact Nat.min_le_left _ _
   have r2 : IntKind.i64.wrap ((j:Int) + (k:Int)) = (j:Int) + (k:Int):=IntWalk.i64_in _ (by omega)
   have HJ:=Lib.hid (⟨hj,hj1,hlt,hj,hk⟩ : _ ∧ _ ∧ _ ∧ _ ∧ _)
   have HR:=Lib.hid hR
   have HB2:=Lib.hid hB
   clear hj hj1 hlt hk hR hB hkj
   go_upto_region 20 with (fail)
   obtain ⟨cur,hcur,hcl,hcx⟩:=HR.out
   have HX:=Lib.hid (show wr.drew.heap[w.heap.size]? = some (.cells cur.toArray 5 (0,0)) ∧ cur.length = C ∧ (∀ i,i < j → cur[i]? = some (B x)) ∧ Below w.heap.size w wr.drew from ⟨hcur,hcl,hcx,HB2.out.drew⟩)
   have K2:=Lib.hid (show (List.replicate k (B x)).length = Nat.min j (n - j) from by rw [List.length_replicate]; exact HJ.out.2.2.2.2)
   have K3:=Lib.hid (show 0 < (List.replicate k (B x)).length → (some ⟨w.heap.size,j,none⟩ : Option Addr) = some ⟨w.heap.size,j,none⟩ ∧ ∃ ad,(some ⟨w.heap.size,0,none⟩ : Option Addr) = some ad ∧ ∀ i v,(List.replicate k (B x))[i]? = some v → wr.drew.cell? (ad.add i) = some v from fun _=>⟨rfl,⟨w.heap.size,0,none⟩,rfl,fun i v hi=>by
    have hik : i < k:=by have:=(List.getElem?_eq_some_iff.1 hi).1; simpa using this
    have hkj : k ≤ j:=by rw [HJ.out.2.2.2.2]; exact Nat.min_le_left _ _
    rw [List.getElem?_replicate,if_pos hik] at hi
    rw [Addr.add_lit,(Row.of_heap HX.out.1).cell,Nat.zero_add,← hi]
    simpa using HX.out.2.2.1 i (by omega)⟩)
   have K4:=Lib.hid (show j + (List.replicate k (B x)).length ≤ cur.length from by
    rw [List.length_replicate]
    have h1:=HJ.out
    have h2 : k ≤ n - j:=by rw [h1.2.2.2.2]; exact Nat.min_le_right _ _
    have h3:=HX.out.2.1
    have h4:=HC.out
    omega)
   have K5:=Lib.hid (show ∀ v ∈ List.replicate k (B x),v.oneCell' = true from by intro v hv; rw [List.eq_of_mem_replicate hv]; rfl)
   clear hcur hcl hcx HR HB2
   go_region_law (first
    | (refine wp_copyB (by rfl) (.tmp 70) (.tmp 73) 22 22 (by rfl) 5 Tryz.underlying22 (by kernel_rfl) (some ⟨w.heap.size,j,none⟩) (some ⟨w.heap.size,0,none⟩) (n - j) (n - j) j n (by kernel_rfl) (by kernel_rfl) w.heap.size j cur 5 HX.out.1 (List.replicate k (B x)) K2.out K3.out K4.out K5.out w.heap.size w HX.out.2.2.2 (Nat.le_refl _) ?_
       intro W7 hW7 hb7
       have HW7:=Lib.hid (show RpS x w.heap.size C (j + k) W7 ∧ Below w.heap.size w W7 from ⟨⟨_,hW7.out,by rw [length_splice _ _ _ K4.out]; exact HX.out.2.1,rep_splice K4.out HX.out.2.2.1⟩,hb7⟩)
       clear hW7 hb7)
    | fail)
   all_goals
    go_wp2_with fail
    go_roundg (gk - k)
    case measure =>
     obtain ⟨a1,a2,a3,_,a5⟩:=HJ.out
     have h2 : k = min j (n - j):=a5
     omega
    case rel =>
     obtain ⟨a1,a2,a3,_,a5⟩:=HJ.out
     have h2 : k = min j (n - j):=a5
     exact ⟨j + k,by omega,by omega,by first | rfl | (simp; done) | go_num,HW7.out.1,HW7.out.2⟩
  ·obtain rfl : j = n:=by omega
   have j1 : ¬ (j:Int) < (j:Int):=by omega
   have HR:=Lib.hid hR
   have HB2:=Lib.hid hB
   clear hj hj1 hlt hR hB
   go_wp2_with fail
   go_ret
   refine ⟨.slice (some ⟨w.heap.size,0,none⟩) j j,rfl,?_,HB2.out⟩
   obtain ⟨cur,h1,h2,h3⟩:=HR.out
   refine .inr ⟨w.heap.size,0,j,cur.toArray,by rw [List.length_replicate],Nat.le_refl _,Row.of_heap h1,by rw [List.length_replicate]; exact Nat.le_refl _,by have:=HC.out; rw [List.size_toArray,h2]; omega,by have:=HN.out; unfold maxLen; omega,fun i hi=>?_⟩
   rw [List.length_replicate] at hi
   have e : gb (List.replicate j x) i = x:=by unfold gb; rw [List.getD_eq_getElem?_getD,List.getElem?_replicate,if_pos hi]; rfl
   rw [e,Nat.zero_add]
   simpa using h3 i hi
end Go.Proofs.YtjpfhhndjpdmoaaGreatDoor
