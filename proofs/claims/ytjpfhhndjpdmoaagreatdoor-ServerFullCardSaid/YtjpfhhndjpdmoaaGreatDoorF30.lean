/- Part of the proof: OldRot,OldPress,RepN,EvPm,ChunkV,EvSq. No conditions of its own. -/
import Derived.Test.YtjpfhhndjpdmoaaGreatDoorF29
namespace Go.Proofs.YtjpfhhndjpdmoaaGreatDoor
open Go.RowKit
theorem rlM_rr (n:Nat) (x:UInt32) (hn:n ≤ 32) : rlM n x = rr (32 - n) x:=by
 unfold rlM rr
 rw [show 32 - (32 - n) = n by omega]
 exact UInt32.or_comm _ _
set_option maxRecDepth 100000 in
theorem rot_4 (x:UInt32) (w:World) : Calls Tryz.prog 172 #[D x,.int .i64 4] w fun e w'=>e = .returned (D (rlM 4 x)) ∧ w' = w:=by
 obtain ⟨h1,h2⟩:=d_lt x
 have hb : bits .and .u64 4 31 = 4:=by kernel_rfl
 go_enter Tryz.func172,Tryz.ntmps172
 go_wp2
 go_ret
 refine ⟨?_,rfl⟩
 rw [rlM_rr 4 x (by omega),← rr_bits 28 x 16 268435456 rfl rfl]
 rfl
set_option maxRecDepth 100000 in
theorem rot_5 (x:UInt32) (w:World) : Calls Tryz.prog 172 #[D x,.int .i64 5] w fun e w'=>e = .returned (D (rlM 5 x)) ∧ w' = w:=by
 obtain ⟨h1,h2⟩:=d_lt x
 have hb : bits .and .u64 5 31 = 5:=by kernel_rfl
 go_enter Tryz.func172,Tryz.ntmps172
 go_wp2
 go_ret
 refine ⟨?_,rfl⟩
 rw [rlM_rr 5 x (by omega),← rr_bits 27 x 32 134217728 rfl rfl]
 rfl
set_option maxRecDepth 100000 in
theorem rot_6 (x:UInt32) (w:World) : Calls Tryz.prog 172 #[D x,.int .i64 6] w fun e w'=>e = .returned (D (rlM 6 x)) ∧ w' = w:=by
 obtain ⟨h1,h2⟩:=d_lt x
 have hb : bits .and .u64 6 31 = 6:=by kernel_rfl
 go_enter Tryz.func172,Tryz.ntmps172
 go_wp2
 go_ret
 refine ⟨?_,rfl⟩
 rw [rlM_rr 6 x (by omega),← rr_bits 26 x 64 67108864 rfl rfl]
 rfl
set_option maxRecDepth 100000 in
theorem rot_7 (x:UInt32) (w:World) : Calls Tryz.prog 172 #[D x,.int .i64 7] w fun e w'=>e = .returned (D (rlM 7 x)) ∧ w' = w:=by
 obtain ⟨h1,h2⟩:=d_lt x
 have hb : bits .and .u64 7 31 = 7:=by kernel_rfl
 go_enter Tryz.func172,Tryz.ntmps172
 go_wp2
 go_ret
 refine ⟨?_,rfl⟩
 rw [rlM_rr 7 x (by omega),← rr_bits 25 x 128 33554432 rfl rfl]
 rfl
set_option maxRecDepth 100000 in
theorem rot_9 (x:UInt32) (w:World) : Calls Tryz.prog 172 #[D x,.int .i64 9] w fun e w'=>e = .returned (D (rlM 9 x)) ∧ w' = w:=by
 obtain ⟨h1,h2⟩:=d_lt x
 have hb : bits .and .u64 9 31 = 9:=by kernel_rfl
 go_enter Tryz.func172,Tryz.ntmps172
 go_wp2
 go_ret
 refine ⟨?_,rfl⟩
 rw [rlM_rr 9 x (by omega),← rr_bits 23 x 512 8388608 rfl rfl]
 rfl
set_option maxRecDepth 100000 in
theorem rot_10 (x:UInt32) (w:World) : Calls Tryz.prog 172 #[D x,.int .i64 10] w fun e w'=>e = .returned (D (rlM 10 x)) ∧ w' = w:=by
 obtain ⟨h1,h2⟩:=d_lt x
 have hb : bits .and .u64 10 31 = 10:=by kernel_rfl
 go_enter Tryz.func172,Tryz.ntmps172
 go_wp2
 go_ret
 refine ⟨?_,rfl⟩
 rw [rlM_rr 10 x (by omega),← rr_bits 22 x 1024 4194304 rfl rfl]
 rfl
set_option maxRecDepth 100000 in
theorem rot_11 (x:UInt32) (w:World) : Calls Tryz.prog 172 #[D x,.int .i64 11] w fun e w'=>e = .returned (D (rlM 11 x)) ∧ w' = w:=by
 obtain ⟨h1,h2⟩:=d_lt x
 have hb : bits .and .u64 11 31 = 11:=by kernel_rfl
 go_enter Tryz.func172,Tryz.ntmps172
 go_wp2
 go_ret
 refine ⟨?_,rfl⟩
 rw [rlM_rr 11 x (by omega),← rr_bits 21 x 2048 2097152 rfl rfl]
 rfl
set_option maxRecDepth 100000 in
theorem rot_12 (x:UInt32) (w:World) : Calls Tryz.prog 172 #[D x,.int .i64 12] w fun e w'=>e = .returned (D (rlM 12 x)) ∧ w' = w:=by
 obtain ⟨h1,h2⟩:=d_lt x
 have hb : bits .and .u64 12 31 = 12:=by kernel_rfl
 go_enter Tryz.func172,Tryz.ntmps172
 go_wp2
 go_ret
 refine ⟨?_,rfl⟩
 rw [rlM_rr 12 x (by omega),← rr_bits 20 x 4096 1048576 rfl rfl]
 rfl
set_option maxRecDepth 100000 in
theorem rot_14 (x:UInt32) (w:World) : Calls Tryz.prog 172 #[D x,.int .i64 14] w fun e w'=>e = .returned (D (rlM 14 x)) ∧ w' = w:=by
 obtain ⟨h1,h2⟩:=d_lt x
 have hb : bits .and .u64 14 31 = 14:=by kernel_rfl
 go_enter Tryz.func172,Tryz.ntmps172
 go_wp2
 go_ret
 refine ⟨?_,rfl⟩
 rw [rlM_rr 14 x (by omega),← rr_bits 18 x 16384 262144 rfl rfl]
 rfl
set_option maxRecDepth 100000 in
theorem rot_15 (x:UInt32) (w:World) : Calls Tryz.prog 172 #[D x,.int .i64 15] w fun e w'=>e = .returned (D (rlM 15 x)) ∧ w' = w:=by
 obtain ⟨h1,h2⟩:=d_lt x
 have hb : bits .and .u64 15 31 = 15:=by kernel_rfl
 go_enter Tryz.func172,Tryz.ntmps172
 go_wp2
 go_ret
 refine ⟨?_,rfl⟩
 rw [rlM_rr 15 x (by omega),← rr_bits 17 x 32768 131072 rfl rfl]
 rfl
set_option maxRecDepth 100000 in
theorem rot_16 (x:UInt32) (w:World) : Calls Tryz.prog 172 #[D x,.int .i64 16] w fun e w'=>e = .returned (D (rlM 16 x)) ∧ w' = w:=by
 obtain ⟨h1,h2⟩:=d_lt x
 have hb : bits .and .u64 16 31 = 16:=by kernel_rfl
 go_enter Tryz.func172,Tryz.ntmps172
 go_wp2
 go_ret
 refine ⟨?_,rfl⟩
 rw [rlM_rr 16 x (by omega),← rr_bits 16 x 65536 65536 rfl rfl]
 rfl
set_option maxRecDepth 100000 in
theorem rot_17 (x:UInt32) (w:World) : Calls Tryz.prog 172 #[D x,.int .i64 17] w fun e w'=>e = .returned (D (rlM 17 x)) ∧ w' = w:=by
 obtain ⟨h1,h2⟩:=d_lt x
 have hb : bits .and .u64 17 31 = 17:=by kernel_rfl
 go_enter Tryz.func172,Tryz.ntmps172
 go_wp2
 go_ret
 refine ⟨?_,rfl⟩
 rw [rlM_rr 17 x (by omega),← rr_bits 15 x 131072 32768 rfl rfl]
 rfl
set_option maxRecDepth 100000 in
theorem rot_20 (x:UInt32) (w:World) : Calls Tryz.prog 172 #[D x,.int .i64 20] w fun e w'=>e = .returned (D (rlM 20 x)) ∧ w' = w:=by
 obtain ⟨h1,h2⟩:=d_lt x
 have hb : bits .and .u64 20 31 = 20:=by kernel_rfl
 go_enter Tryz.func172,Tryz.ntmps172
 go_wp2
 go_ret
 refine ⟨?_,rfl⟩
 rw [rlM_rr 20 x (by omega),← rr_bits 12 x 1048576 4096 rfl rfl]
 rfl
set_option maxRecDepth 100000 in
theorem rot_21 (x:UInt32) (w:World) : Calls Tryz.prog 172 #[D x,.int .i64 21] w fun e w'=>e = .returned (D (rlM 21 x)) ∧ w' = w:=by
 obtain ⟨h1,h2⟩:=d_lt x
 have hb : bits .and .u64 21 31 = 21:=by kernel_rfl
 go_enter Tryz.func172,Tryz.ntmps172
 go_wp2
 go_ret
 refine ⟨?_,rfl⟩
 rw [rlM_rr 21 x (by omega),← rr_bits 11 x 2097152 2048 rfl rfl]
 rfl
set_option maxRecDepth 100000 in
theorem rot_22 (x:UInt32) (w:World) : Calls Tryz.prog 172 #[D x,.int .i64 22] w fun e w'=>e = .returned (D (rlM 22 x)) ∧ w' = w:=by
 obtain ⟨h1,h2⟩:=d_lt x
 have hb : bits .and .u64 22 31 = 22:=by kernel_rfl
 go_enter Tryz.func172,Tryz.ntmps172
 go_wp2
 go_ret
 refine ⟨?_,rfl⟩
 rw [rlM_rr 22 x (by omega),← rr_bits 10 x 4194304 1024 rfl rfl]
 rfl
set_option maxRecDepth 100000 in
theorem rot_23 (x:UInt32) (w:World) : Calls Tryz.prog 172 #[D x,.int .i64 23] w fun e w'=>e = .returned (D (rlM 23 x)) ∧ w' = w:=by
 obtain ⟨h1,h2⟩:=d_lt x
 have hb : bits .and .u64 23 31 = 23:=by kernel_rfl
 go_enter Tryz.func172,Tryz.ntmps172
 go_wp2
 go_ret
 refine ⟨?_,rfl⟩
 rw [rlM_rr 23 x (by omega),← rr_bits 9 x 8388608 512 rfl rfl]
 rfl
theorem rot_any (n:Nat) (hn:n ∈ turnsN) (x:UInt32) (w:World) : Calls Tryz.prog 172 #[D x,.int .i64 (n:Int)] w fun e w'=>e = .returned (D (rlM n x)) ∧ w' = w:=by
 simp only [turnsN,List.mem_cons,List.not_mem_nil,or_false] at hn
 rcases hn with rfl | rfl | rfl | rfl | rfl | rfl | rfl | rfl | rfl | rfl | rfl | rfl | rfl | rfl | rfl | rfl
 ·exact rot_7 x w
 ·exact rot_12 x w
 ·exact rot_17 x w
 ·exact rot_22 x w
 ·exact rot_5 x w
 ·exact rot_9 x w
 ·exact rot_14 x w
 ·exact rot_20 x w
 ·exact rot_4 x w
 ·exact rot_11 x w
 ·exact rot_16 x w
 ·exact rot_23 x w
 ·exact rot_6 x w
 ·exact rot_10 x w
 ·exact rot_15 x w
 ·exact rot_21 x w
end Go.Proofs.YtjpfhhndjpdmoaaGreatDoor

namespace Go.Proofs.YtjpfhhndjpdmoaaGreatDoor
open Go.RowKit
set_option linter.unusedVariables false
set_option linter.unusedSimpArgs false

theorem at_w64 : AggT Tryz.prog 276 64:=⟨fun _=>by kernel_rfl,fun _=>by kernel_rfl⟩
theorem hp_w {l:List UInt32} {n:Nat} (h:l.length = n) : HasP (AD l) 0 n (AD l):=⟨by rw [AD_size]; omega,sub_all _ _ (by rw [AD_size]; exact h)⟩
theorem zw4 : AD (List.replicate 4 0) = #[.int .u32 0,.int .u32 0,.int .u32 0,.int .u32 0]:=by kernel_rfl
theorem sinesS_len : sinesS.length = 64:=by kernel_rfl
theorem isAgg_u32 (w:World) : (isAgg 210).run Tryz.prog w = .ok false w:=by kernel_rfl
theorem sizeOf_u32 (w:World) : (sizeOf 210).run Tryz.prog w = .ok 1 w:=by kernel_rfl
theorem run_idx64 (l:List UInt32) (hl:l.length = 64) (i:Nat) (hi:i < 64) (w:World) : (Instr.index 276 (.agg (AD l)) (.int .i64 (i:Int))).run Tryz.prog w = .ok (D (gw l i)) w:=by
 have h1 : (0 : Int) ≤ (i:Int):=by omega
 have h2 : (i:Int) < 64:=by omega
 have h3 : l[i]? = some (gw l i):=by simp [gw,hl,hi]
 have h4 : (AD l).size = 64:=by rw [AD_size,hl]
 simp [Instr.index,go_sem,h1,h2,h3,h4,hi,isAgg_u32,sizeOf_u32,run_underlying Tryz.underlying276]
theorem dw_not (a:UInt32) : bits .xor .u32 IntKind.u32.max (a.toNat : Int) = ((cw a).toNat : Int):=by
 have h : IntKind.u32.max = ((4294967295 : UInt32).toNat : Int):=by decide
 have h2 : (4294967295 : UInt32) ^^^ a = ~~~ a:=by
  apply UInt32.toBitVec_inj.1
  simp [UInt32.toBitVec_xor,UInt32.toBitVec_not]
  have : (4294967295#32) = BitVec.allOnes 32:=by decide
  rw [this,BitVec.allOnes_xor]
 rw [h,dw_xor,xw,cw,h2]
theorem le4_bits (x0 x1 x2 x3:UInt8) : bits .or .u32 (bits .or .u32 (bits .or .u32 (x0.toNat : Int) ((x1.toNat : Int) * 256)) ((x2.toNat : Int) * 65536)) ((x3.toNat : Int) * 16777216) = ((le4 x0 x1 x2 x3).toNat : Int):=by
 have h0:=x0.toNat_lt
 have h1:=x1.toNat_lt
 have h2:=x2.toNat_lt
 have h3:=x3.toNat_lt
 have e1 : ((x1.toNat : Int) * 256) = ((x1.toNat * 256 : Nat) : Int):=by omega
 have e2 : ((x2.toNat : Int) * 65536) = ((x2.toNat * 65536 : Nat) : Int):=by omega
 have e3 : ((x3.toNat : Int) * 16777216) = ((x3.toNat * 16777216 : Nat) : Int):=by omega
 have a1:=or_shift x1.toNat x0.toNat 8 (by omega)
 have a2:=or_shift x2.toNat (x1.toNat * 256 + x0.toNat) 16 (by omega)
 have a3:=or_shift x3.toNat (x2.toNat * 65536 + (x1.toNat * 256 + x0.toNat)) 24 (by omega)
 rw [show (2 : Nat) ^ 8 = 256 from rfl,Nat.or_comm] at a1
 rw [show (2 : Nat) ^ 16 = 65536 from rfl,Nat.or_comm] at a2
 rw [show (2 : Nat) ^ 24 = 16777216 from rfl,Nat.or_comm] at a3
 rw [e1,e2,e3,u32_or_nat _ _ (by omega) (by omega),a1,u32_or_nat _ _ (by omega) (by omega),a2,u32_or_nat _ _ (by omega) (by omega),a3]
 unfold le4
 rw [UInt32.toNat_ofNat',Nat.mod_eq_of_lt (by omega)]
 omega
theorem and15 (g:Nat) (h:g < 1000) : bits .and .i64 ((g:Nat) : Int) 15 = ((g % 16 : Nat) : Int):=by
 have key : ((List.range 1000).all fun g=>bits .and .i64 ((g:Nat) : Int) 15 == ((g % 16 : Nat) : Int)) = true:=by kernel_rfl
 exact eq_of_beq (List.all_eq_true.1 key g (List.mem_range.2 h))
theorem and3 (g:Nat) (h:g < 64) : bits .and .i64 ((g:Nat) : Int) 3 = ((g % 4 : Nat) : Int):=by
 have key : ((List.range 64).all fun g=>bits .and .i64 ((g:Nat) : Int) 3 == ((g % 4 : Nat) : Int)) = true:=by kernel_rfl
 exact eq_of_beq (List.all_eq_true.1 key g (List.mem_range.2 h))
theorem or4 (r m:Nat) (hr:r < 4) (hm:m < 4) : bits .or .i64 ((r:Int) * 4) (m:Int) = ((r * 4 + m : Nat) : Int):=by
 have key : ((List.range 4).all fun r=>(List.range 4).all fun m=>bits .or .i64 ((r:Int) * 4) (m:Int) == ((r * 4 + m : Nat) : Int)) = true:=by kernel_rfl
 exact eq_of_beq (List.all_eq_true.1 (List.all_eq_true.1 key r (List.mem_range.2 hr)) m (List.mem_range.2 hm))
theorem turns_at (t:Nat) (ht:t < 16) : ((turnsN.map fun (q:Nat)=>Value.int .i64 (q:Int)).toArray)[t]? = some (.int .i64 ((turnsN.getD t 0 : Nat) : Int)) ∧ turnsN.getD t 0 ∈ turnsN:=by
 have h : t < turnsN.length:=ht
 refine ⟨by simp [List.getD,h],?_⟩
 rw [List.getD_eq_getElem?_getD,List.getElem?_eq_getElem h]
 exact List.getElem_mem h
structure MpSt (w:World) (g4:Nat) (h:List UInt32) (wr:World) : Prop where
 r2 : Row wr w.heap.size 211 (AD h)
 r4 : Row wr g4 211 (AD (List.replicate 4 0))
 bel : Below w.heap.size w wr
 l4 : w.heap.size < g4
theorem MpSt.drew {w wr:World} {g4:Nat} {h:List UInt32} (k:MpSt w g4 h wr) : MpSt w g4 h wr.drew:=⟨k.r2.drew,k.r4.drew,k.bel.drew,k.l4⟩
attribute [local go_sem] dw_xor dw_and dw_or dw_add dw_addm dw_not le4_bits
set_option maxRecDepth 100000 in
set_option maxHeartbeats 4000000 in
theorem pressM_any {tg tu:TypeId} (h:List UInt32) (vb:Value) (b:List UInt8) (w:World) (hv:Row w 4 tg (AD sinesS)) (hu:Row w 5 tu ((turnsN.map fun (q:Nat)=>Value.int .i64 (q:Int)).toArray)) (hh:h.length = 4) (hs:SlB w vb b) (hb:b.length = 64) : Calls Tryz.prog 115 #[.agg (AD h),vb] w fun e w'=>e = .returned (.agg (AD (pressM h b))) ∧ Below w.heap.size w w':=by
 obtain ⟨gb',ob,cp,rfl,hcp,hcm,hbl,hcell⟩:=hs.addr (by omega)
 rw [hb] at hcp ⊢
 have HV:=Lib.hid hv
 have HU:=Lib.hid hu
 have HCELL:=Lib.hid hcell
 have HB:=Lib.hid hb
 have c0 : (64 : Int) ≤ (cp:Int):=by omega
 have hne2 : gb' ≠ w.heap.size:=by omega
 clear hcell hb hs hv hu
 go_enter Tryz.func115,Tryz.ntmps115
 go_wp2_with fail
 obtain ⟨g4,hg4⟩ : ∃ g,g = w.heap.size + 1:=⟨_,rfl⟩
 rw [← hg4]
 refine gen_wpR (MpSt w g4 h) ?_ ?_
 ·rw [← zw4,hg4]
  exact ⟨(Row.new w _ _).alloc _,Row.newAt _ _ _ _ (by simp),((Below.refl _ w).alloc (Nat.le_refl _) _).alloc (by simp) _,by omega⟩
 intro w0 hP
 clear hg4
 have cell : ∀ (j:Nat),j < 4 → w0.drew.cell? ⟨w.heap.size,j,none⟩ = some (D (gw h j)):=fun j hj=>by rw [hP.r2.drew.cell]; exact AD_get _ _ (by omega)
 have hc0:=cell 0 (by omega)
 have hc1:=cell 1 (by omega)
 have hc2:=cell 2 (by omega)
 have hc3:=cell 3 (by omega)
 obtain ⟨h0,e0⟩ : ∃ x,x = gw h 0:=⟨_,rfl⟩
 rw [← e0] at hc0
 obtain ⟨h1,e1⟩ : ∃ x,x = gw h 1:=⟨_,rfl⟩
 rw [← e1] at hc1
 obtain ⟨h2,e2⟩ : ∃ x,x = gw h 2:=⟨_,rfl⟩
 rw [← e2] at hc2
 obtain ⟨h3,e3⟩ : ∃ x,x = gw h 3:=⟨_,rfl⟩
 rw [← e3] at hc3
 have HEG:=Lib.hid (⟨e0,e1,e2,e3⟩ : _ ∧ _ ∧ _ ∧ _)
 have HP:=Lib.hid hP
 clear cell e0 e1 e2 e3 hP
 refine wp_region_qtail (fun w'=>w' = _) 11 (by kernel_rfl) (by kernel_rfl) rfl ?_
 simp only [List.take_succ_cons,List.take_zero,List.drop_succ_cons,List.drop_zero]
 repeat (first | go_big_quiet_skip | (go_big_quiet_want; go_big_quiet_op; go_big_quiet_on))
 refine wpQuiet_nil ?_
 rintro _ rfl
 clear hc0 hc1 hc2 hc3
 go_upto_region 2 with (fail)
 have HP2:=Lib.hid HP.out.drew
 clear HP
 refine wp_region_lex 1 ?_
 simp only [List.take_succ_cons,List.take_zero,List.drop_succ_cons,List.drop_zero]
 (go_big_quiet_want; apply qn_load at_w64 rfl rfl (HV.out.below HP2.out.bel HV.out.lt) (hp_w sinesS_len); (simp only [Act.put,lS]; go_big_quiet_on))
 refine wpQuiet_nil ?_
 intro w2 hcc
 have HP3:=Lib.hid (show MpSt w g4 h w2 from ⟨HP2.out.r2.below hcc.1 HP2.out.r2.lt,HP2.out.r4.below hcc.1 HP2.out.r4.lt,HP2.out.bel.trans (hcc.1.mono HP2.out.bel.size),HP2.out.l4⟩)
 clear hcc HP2
 go_wp2_with fail
 go_loopg [5,6,7,8,23] 64 (fun g t5 t6 t7 t8 t23 wr=>∃ (i:Nat) (v:M4),g + i = 64 ∧ t23 = .int .i64 (i:Int) ∧ v = runM b ⟨h0,h1,h2,h3⟩ i ∧ t5 = D v.x ∧ t6 = D v.y ∧ t7 = D v.z ∧ t8 = D v.w ∧ MpSt w g4 h wr)
 case atStart=>exact ⟨0,⟨h0,h1,h2,h3⟩,by omega,rfl,rfl,rfl,rfl,rfl,rfl,HP3.out⟩
 case round =>
  clear HP3
  obtain ⟨i,⟨vx,vy,vz,vw⟩,hi,rfl,hv,rfl,rfl,rfl,rfl,hP⟩:=hrel
  by_cases hlt : i < 64
  ·have z0 : (0 : Int) ≤ (i:Int):=by omega
   have z1 : (i:Int) < 64:=by omega
   obtain ⟨k,hk⟩ : ∃ k,k = gw sinesS i:=⟨_,rfl⟩
   have hidx : ∀ W,(Instr.index 276 (.agg (AD sinesS)) (.int .i64 (i:Int))).run Tryz.prog W = .ok (D k) W:=fun W=>by rw [hk]; exact run_idx64 sinesS sinesS_len i hlt W
   have HI:=Lib.hid (⟨hi,hlt,hv,hk⟩ : _ ∧ _ ∧ _ ∧ _)
   have HP:=Lib.hid hP
   clear hi hlt hv hk hP
   go_upto_block 2 with (fail)
   go_cut [11,12,29] (fun t11 t12 t29 W=>∃ G : Int,t11 = D (fnM i vy vz vw) ∧ t12 = .int .i64 G ∧ (0 ≤ G ∧ G ≤ 1000) ∧ bits .and .i64 G 15 = ((plM i:Nat) : Int) ∧ W = wr)
   case first =>
    have hm : ∀ g : Nat,g < 1000 → bits .and .i64 ((g:Nat) : Int) 15 = ((g % 16 : Nat) : Int):=and15
    have HM:=Lib.hid hm
    clear hm
    by_cases c1 : (i:Int) < 16
    ·have q1 : (i:Int) / 16 = 0:=by omega
     go_wp2_with fail
     go_meet
     case rel=>exact ⟨(i:Int),by unfold fnM; rw [if_pos (by omega)],rfl,by omega,by rw [HM.out i (by omega)]; unfold plM; rw [if_pos (by omega),Nat.mod_eq_of_lt (by omega)],rfl⟩
    by_cases c2 : (i:Int) < 32
    ·have q1 : (i:Int) / 16 = 1:=by omega
     go_wp2_with fail
     go_meet
     case rel=>exact ⟨5 * (i:Int) + 1,by unfold fnM; rw [if_neg (by omega),if_pos (by omega)],by go_num,by omega,by rw [show 5 * (i:Int) + 1 = ((5 * i + 1 : Nat) : Int) by omega,HM.out _ (by omega)]; unfold plM; rw [if_neg (by omega),if_pos (by omega)],rfl⟩
    by_cases c3 : (i:Int) < 48
    ·have q1 : (i:Int) / 16 = 2:=by omega
     go_wp2_with fail
     go_meet
     case rel=>exact ⟨3 * (i:Int) + 5,by unfold fnM; rw [if_neg (by omega),if_neg (by omega),if_pos (by omega)],by go_num,by omega,by rw [show 3 * (i:Int) + 5 = ((3 * i + 5 : Nat) : Int) by omega,HM.out _ (by omega)]; unfold plM; rw [if_neg (by omega),if_neg (by omega),if_pos (by omega)],rfl⟩
    ·have q1 : (i:Int) / 16 = 3:=by omega
     go_wp2_with fail
     go_meet
     case rel=>exact ⟨7 * (i:Int),by unfold fnM; rw [if_neg (by omega),if_neg (by omega),if_neg (by omega)],by go_num,by omega,by rw [show 7 * (i:Int) = ((7 * i : Nat) : Int) by omega,HM.out _ (by omega)]; unfold plM; rw [if_neg (by omega),if_neg (by omega),if_neg (by omega)],rfl⟩
   case rest =>
    obtain ⟨G,rfl,rfl,⟨G0,G1⟩,hG,rfl⟩:=hcut
    obtain ⟨f,hf⟩ : ∃ f,f = fnM i vy vz vw:=⟨_,rfl⟩
    rw [← hf]
    obtain ⟨g,hg⟩ : ∃ g,g = plM i:=⟨_,rfl⟩
    rw [← hg] at hG
    have hg16 : g < 16:=by rw [hg]; have:=HI.out.2.1; unfold plM; split <;> (try split) <;> (try split) <;> omega
    have g0 : (0 : Int) ≤ (g:Int):=by omega
    have g1 : (g:Int) < 16:=by omega
    have hnc : ¬ cp = 4 * g:=by omega
    have hp:=HP.out
    have hcl : ∀ j,j < 4 → wc.drew.cell? ⟨gb',ob + 4 * g + j,none⟩ = some (B (b.getD (4 * g + j) 0)):=fun j hj=>by
     have h1:=HCELL.out (4 * g + j) (by have:=HB.out; omega)
     rw [← Nat.add_assoc] at h1
     exact (hp.bel.drew.cell (p:=⟨gb',ob + 4 * g + j,none⟩) hbl).trans h1
    obtain ⟨x0,e0⟩ : ∃ x,x = b.getD (4 * g) 0:=⟨_,rfl⟩
    obtain ⟨x1,e1⟩ : ∃ x,x = b.getD (4 * g + 1) 0:=⟨_,rfl⟩
    obtain ⟨x2,e2⟩ : ∃ x,x = b.getD (4 * g + 2) 0:=⟨_,rfl⟩
    obtain ⟨x3,e3⟩ : ∃ x,x = b.getD (4 * g + 3) 0:=⟨_,rfl⟩
    have hc0:=hcl 0 (by omega)
    have hc1:=hcl 1 (by omega)
    have hc2:=hcl 2 (by omega)
    have hc3:=hcl 3 (by omega)
    rw [Nat.add_zero,Nat.add_zero,← e0] at hc0
    rw [← e1] at hc1
    rw [← e2] at hc2
    rw [← e3] at hc3
    have hx0:=x0.toNat_lt
    have hx1:=x1.toNat_lt
    have hx2:=x2.toNat_lt
    have hx3:=x3.toNat_lt
    have HE:=Lib.hid (⟨e0,e1,e2,e3,hf,hg⟩ : _ ∧ _ ∧ _ ∧ _ ∧ _ ∧ _)
    have HGG:=Lib.hid (⟨G0,G1,hg16⟩ : _ ∧ _ ∧ _)
    clear hcl e0 e1 e2 e3 hp hf hg G0 G1 hg16
    go_upto_region 16 with (fail)
    obtain ⟨L,hL⟩ : ∃ L,L = 64 - 4 * g:=⟨_,rfl⟩
    rw [← hL]
    have l0 : (0 : Int) < (L:Int):=by omega
    have l1 : (1 : Int) < (L:Int):=by omega
    have l2 : (2 : Int) < (L:Int):=by omega
    have l3 : (3 : Int) < (L:Int):=by omega
    have n0 : 0 < L:=by omega
    have n1 : 1 < L:=by omega
    have n2 : 2 < L:=by omega
    have n3 : 3 < L:=by omega
    clear hL
    refine wp_region_qtail (fun w'=>w' = _) 28 (by kernel_rfl) (by kernel_rfl) rfl ?_
    simp only [List.take_succ_cons,List.take_zero,List.drop_succ_cons,List.drop_zero]
    repeat (first | go_big_quiet_skip | (go_big_quiet_want; go_big_quiet_op; go_big_quiet_on))
    refine wpQuiet_nil ?_
    rintro _ rfl
    clear hc0 hc1 hc2 hc3 l0 l1 l2 l3 n0 n1 n2 n3
    obtain ⟨r,hr⟩ : ∃ r,r = i / 16:=⟨_,rfl⟩
    obtain ⟨m,hm⟩ : ∃ m,m = i % 4:=⟨_,rfl⟩
    obtain ⟨t,ht⟩ : ∃ t,t = r * 4 + m:=⟨_,rfl⟩
    obtain ⟨n,hn⟩ : ∃ n,n = turnsN.getD t 0:=⟨_,rfl⟩
    have hi64:=HI.out.2.1
    have r4 : r < 4:=by omega
    have m4 : m < 4:=by omega
    have q1 : (i:Int) / 16 = (r:Int):=by omega
    have q2 : bits .and .i64 (i:Int) 3 = (m:Int):=by rw [hm]; exact and3 i hi64
    have q3 : bits .or .i64 ((r:Int) * 4) (m:Int) = (t:Int):=by rw [ht]; exact or4 r m r4 m4
    have q4 : (0 : Int) ≤ (t:Int):=by omega
    have q5 : (t:Int) < 16:=by omega
    have q6 : (0 : Int) ≤ (r:Int):=by omega
    have q7 : (r:Int) < 4:=by omega
    obtain ⟨ht1,ht2⟩:=turns_at t (by omega)
    rw [← hn] at ht1 ht2
    have hct : wc.drew.cell? ⟨5,t,none⟩ = some (.int .i64 (n:Int)):=by
     have h1:=(HU.out.cell t).trans ht1
     exact (HP.out.bel.drew.cell (p:=⟨5,t,none⟩) HU.out.lt).trans h1
    have HT:=Lib.hid (show n = tnM i ∧ n ∈ turnsN from ⟨by rw [hn,ht,hr,hm]; rfl,ht2⟩)
    clear hr hm ht hn hi64 r4 m4 ht1 ht2
    go_wp2_with (first | (refine (rot_any n HT.out.2 (aw f (aw (aw vx k) (le4 x0 x1 x2 x3))) _).mono ?_; rintro e w' ⟨rfl,rfl⟩))
    go_roundg (gk - 1)
    case measure=>have:=HI.out.1; have:=HI.out.2.1; omega
    case rel =>
     have e:=HI.out
     have e2:=HE.out
     refine ⟨i + 1,oneM b i ⟨vx,vy,vz,vw⟩,by omega,by go_num,by rw [e.2.2.1]; rfl,rfl,?_,rfl,rfl,HP.out.drew⟩
     show D _ = D _
     rw [HT.out.1,e2.2.2.2.2.1,e.2.2.2,e2.1,e2.2.1,e2.2.2.1,e2.2.2.2.1,e2.2.2.2.2.2]
     rfl
  ·obtain rfl : i = 64:=by omega
   have z1 : ¬ ((64 : Nat) : Int) < 64:=by omega
   obtain ⟨e0,e1,e2,e3⟩:=HEG.out
   have cell : ∀ (j:Nat),j < 4 → wr.cell? ⟨w.heap.size,j,none⟩ = some (D (gw h j)):=fun j hj=>by rw [hP.r2.cell]; exact AD_get _ _ (by omega)
   have hc0:=cell 0 (by omega)
   rw [← e0] at hc0
   have hc1:=cell 1 (by omega)
   rw [← e1] at hc1
   have hc2:=cell 2 (by omega)
   rw [← e2] at hc2
   have hc3:=cell 3 (by omega)
   rw [← e3] at hc3
   have hr4:=hP.r4
   have HP:=Lib.hid hP
   have HRES:=Lib.hid (show pressM h b = [aw h0 vx,aw h1 vy,aw h2 vz,aw h3 vw] by
    unfold pressM
    rw [← e0,← e1,← e2,← e3,← hv])
   clear cell e0 e1 e2 e3 hP hv
   go_wp2_with fail
   rw [HRES.out]
   exact ret_row (.inl rfl) rfl g4 _ _ 4 _ rfl (hr4.setRow _) Tryz.underlying211 rfl (by kernel_rfl) rfl ⟨rfl,bSetRow HP.out.bel (Nat.le_of_lt HP.out.l4) _⟩
end Go.Proofs.YtjpfhhndjpdmoaaGreatDoor

namespace Go.Proofs.YtjpfhhndjpdmoaaGreatDoor
open Go.RowKit
set_option linter.unusedVariables false
set_option linter.unusedSimpArgs false
set_option maxRecDepth 100000 in
set_option maxHeartbeats 4000000 in
theorem repeat_new (w:World) (vb:Value) (x:UInt8) (n:Nat) (hb:SlB w vb [x]) (h1:1 ≤ n) (hn:n ≤ 1000) :
  Calls Tryz.prog 144 #[vb,.int .i64 (n:Int)] w fun e w'=>e = .returned (.slice (some ⟨w.heap.size,0,none⟩) n n) ∧ (∃ C,n ≤ C ∧ RpS x w.heap.size C n w') ∧ Below w.heap.size w w':=by
 obtain ⟨b0,o0,c,rfl,_,_,_,hcell⟩:=hb.addr Nat.one_pos
 have n0 : ¬ (n:Int) < 0:=by omega
 have n1 : ((n:Int) == 0) = false:=by simp; omega
 have n2 : (0 : Int) ≤ (n:Int):=by omega
 have n3 : (n:Int) ≤ 1000:=by omega
 have n4 : ¬ (9223372036854775807 : Int) < (n:Int):=by omega
 have n5 : ¬ (8192 : Int) < (n:Int):=by omega
 have HB:=Lib.hid hb
 have HN:=Lib.hid (⟨h1,hn⟩ : _ ∧ _)
 obtain ⟨cs,hmk,hc1,hc2⟩:=run_mnz n hn w
 obtain ⟨C,hC⟩ : ∃ C,C = cs.size:=⟨_,rfl⟩
 rw [← hC] at hmk hc1 hc2
 have c1 : (n:Int) ≤ (C:Int):=by omega
 have HC:=Lib.hid (⟨hC,hc1,hc2⟩ : _ ∧ _ ∧ _)
 obtain ⟨W1,hW1⟩ : ∃ W,W = w.drew.drew.alloc (.cells cs 5):=⟨_,rfl⟩
 rw [← hW1] at hmk
 have HW:=Lib.hid (show W1.heap[w.heap.size]? = some (.cells cs.toList.toArray 5 (0,0)) ∧ Below w.heap.size w W1 by
  rw [hW1]
  exact ⟨by rw [Array.toArray_toList]; exact heap_alloc_new w.drew.drew _,((Below.refl _ w).drew.drew).alloc (Nat.le_refl _) _⟩)
 clear hb h1 hn hC hc1 hc2 hW1
 go_enter Tryz.func144,Tryz.ntmps144
 go_wp2_with fail
 refine (mulU_one n (by have:=HN.out; omega) _).mono ?_
 rintro e w' ⟨rfl,rfl⟩
 go_upto_region 17 with (fail)
 have HS:=Lib.hid (show cs.toList.length = C from by have:=HC.out.1; simp [this])
 have K2:=Lib.hid (show [B x].length = Nat.min 1 n from by have:=HN.out.1; show 1 = min 1 n; omega)
 have K3:=Lib.hid (show 0 < [B x].length → (some ⟨w.heap.size,0,none⟩ : Option Addr) = some ⟨w.heap.size,0,none⟩ ∧ ∃ ad,(some ⟨b0,o0,none⟩ : Option Addr) = some ad ∧ ∀ j v,[B x][j]? = some v → W1.cell? (ad.add j) = some v from fun _=>⟨rfl,⟨b0,o0,none⟩,rfl,fun j v hj=>by
   have hj0 : j = 0:=by
    rcases Nat.eq_zero_or_pos j with h | h
    ·exact h
    ·rw [List.getElem?_eq_none (by simp; omega)] at hj; cases hj
   subst hj0
   have e : v = B x:=by simpa using hj.symm
   rw [e,Addr.add_lit]
   exact HB.out.at0 HW.out.2⟩)
 have K4:=Lib.hid (show 0 + [B x].length ≤ cs.toList.length from by have:=HC.out; have:=HS.out; have:=HN.out; show 0 + 1 ≤ _; omega)
 have K5:=Lib.hid (show ∀ v ∈ [B x],v.oneCell' = true from by intro v hv; rw [List.mem_singleton.1 hv]; rfl)
 go_wp2_with (refine wpList_copy_splice rfl (.tmp 58) (.tmp 59) 22 22 rfl 5 Tryz.underlying22 (by kernel_rfl) (some ⟨w.heap.size,0,none⟩) (some ⟨b0,o0,none⟩) n n 1 c rfl rfl w.heap.size 0 cs.toList 5 HW.out.1 [B x] K2.out K3.out K4.out K5.out w.heap.size w HW.out.2 (Nat.le_refl _) ?_)
 intro W2 hW2 hb2
 have HR:=Lib.hid (show RpS x w.heap.size C 1 W2 ∧ Below w.heap.size w W2 from ⟨⟨_,hW2.out,by rw [length_splice _ _ _ K4.out]; exact HS.out,fun i hi=>by
  obtain rfl : i = 0:=by omega
  simp [splice]⟩,hb2⟩)
 clear K2 K3 K4 K5
 clear hW2 hb2 hmk
 go_wp2_with fail
 go_loopg [10] n (fun gk t10 wr=>∃ j : Nat,gk + j = n + 1 ∧ (1 ≤ j ∧ j ≤ n) ∧ t10 = .int .i64 (j:Int) ∧ RpS x w.heap.size C j wr ∧ Below w.heap.size w wr)
 case atStart=>exact ⟨1,by have:=HN.out; omega,⟨Nat.le_refl _,HN.out.1⟩,rfl,HR.out.1,HR.out.2⟩
 case round =>
  clear HR
  obtain ⟨j,hj,hj1,rfl,hR,hB⟩:=hrel
  by_cases hlt : j < n
  ·have j1 : (j:Int) < (n:Int):=by omega
   have j2 : ¬ (n:Int) < (j:Int):=by omega
   have j0 : (0 : Int) ≤ (j:Int):=by omega
   have j3 : (j:Int) ≤ (n:Int):=by omega
   obtain ⟨k,hk⟩ : ∃ k,k = Nat.min j (n - j):=⟨_,rfl⟩
   have hnj : ¬ n = j:=by omega
   have hkj : k ≤ j:=by rw [hk]; exact Nat.min_le_left _ _
   have r2 : IntKind.i64.wrap ((j:Int) + (k:Int)) = (j:Int) + (k:Int):=IntWalk.i64_in _ (by omega)
   have HJ:=Lib.hid (⟨hj,hj1,hlt,hj,hk⟩ : _ ∧ _ ∧ _ ∧ _ ∧ _)
   have HR:=Lib.hid hR
   have HB2:=Lib.hid hB
   clear hj hj1 hlt hk hR hB hkj
   go_upto_region 20 with (fail)
   obtain ⟨cur,hcur,hcl,hcx⟩:=HR.out
   have HX:=Lib.hid (show wr.drew.heap[w.heap.size]? = some (.cells cur.toArray 5 (0,0)) ∧ cur.length = C ∧ (∀ i,i < j → cur[i]? = some (B x)) ∧ Below w.heap.size w wr.drew from ⟨hcur,hcl,hcx,HB2.out.drew⟩)
   have K2:=Lib.hid (show (List.replicate k (B x)).length = Nat.min j (n - j) from by rw [List.length_replicate]; exact HJ.out.2.2.2.2)
   have K3:=Lib.hid (show 0 < (List.replicate k (B x)).length → (some ⟨w.heap.size,j,none⟩ : Option Addr) = some ⟨w.heap.size,j,none⟩ ∧ ∃ ad,(some ⟨w.heap.size,0,none⟩ : Option Addr) = some ad ∧ ∀ i v,(List.replicate k (B x))[i]? = some v → wr.drew.cell? (ad.add i) = some v from fun _=>⟨rfl,⟨w.heap.size,0,none⟩,rfl,fun i v hi=>by
    have hik : i < k:=by have:=(List.getElem?_eq_some_iff.1 hi).1; simpa using this
    have hkj : k ≤ j:=by rw [HJ.out.2.2.2.2]; exact Nat.min_le_left _ _
    rw [List.getElem?_replicate,if_pos hik] at hi
    rw [Addr.add_lit,(Row.of_heap HX.out.1).cell,Nat.zero_add,← hi]
    simpa using HX.out.2.2.1 i (by omega)⟩)
   have K4:=Lib.hid (show j + (List.replicate k (B x)).length ≤ cur.length from by
    rw [List.length_replicate]
    have h1:=HJ.out
    have h2 : k ≤ n - j:=by rw [h1.2.2.2.2]; exact Nat.min_le_right _ _
    have h3:=HX.out.2.1
    have h4:=HC.out
    omega)
   have K5:=Lib.hid (show ∀ v ∈ List.replicate k (B x),v.oneCell' = true from by intro v hv; rw [List.eq_of_mem_replicate hv]; rfl)
   clear hcur hcl hcx HR HB2
   go_region_law (first
    | (refine wp_copyB (by rfl) (.tmp 70) (.tmp 73) 22 22 (by rfl) 5 Tryz.underlying22 (by kernel_rfl) (some ⟨w.heap.size,j,none⟩) (some ⟨w.heap.size,0,none⟩) (n - j) (n - j) j n (by kernel_rfl) (by kernel_rfl) w.heap.size j cur 5 HX.out.1 (List.replicate k (B x)) K2.out K3.out K4.out K5.out w.heap.size w HX.out.2.2.2 (Nat.le_refl _) ?_
       intro W7 hW7 hb7
       have HW7:=Lib.hid (show RpS x w.heap.size C (j + k) W7 ∧ Below w.heap.size w W7 from ⟨⟨_,hW7.out,by rw [length_splice _ _ _ K4.out]; exact HX.out.2.1,rep_splice K4.out HX.out.2.2.1⟩,hb7⟩)
       clear hW7 hb7)
    | fail)
   all_goals
    go_wp2_with fail
    go_roundg (gk - k)
    case measure =>
     obtain ⟨a1,a2,a3,_,a5⟩:=HJ.out
     have h2 : k = min j (n - j):=a5
     omega
    case rel =>
     obtain ⟨a1,a2,a3,_,a5⟩:=HJ.out
     have h2 : k = min j (n - j):=a5
     exact ⟨j + k,by omega,by omega,by first | rfl | (simp; done) | go_num,HW7.out.1,HW7.out.2⟩
  ·obtain rfl : j = n:=by omega
   have j1 : ¬ (j:Int) < (j:Int):=by omega
   have HR:=Lib.hid hR
   have HB2:=Lib.hid hB
   clear hj hj1 hlt hR hB
   go_wp2_with fail
   go_ret
   exact ⟨rfl,⟨C,by have:=HC.out; omega,HR.out⟩,HB2.out⟩
end Go.Proofs.YtjpfhhndjpdmoaaGreatDoor

namespace Go.Proofs.YtjpfhhndjpdmoaaGreatDoor
open Go.RowKit
set_option linter.unusedVariables false
set_option linter.unusedSimpArgs false

structure OldW (w:World) : Prop where
 sines : ∃ t,Row w 4 t (AD sinesS)
 turns : ∃ t,Row w 5 t ((turnsN.map fun (q:Nat)=>Value.int .i64 (q:Int)).toArray)
theorem OldW.below {w w':World} (h:OldW w) (hb:Below w.heap.size w w') : OldW w':=by
 obtain ⟨⟨t1,h1⟩,⟨t2,h2⟩⟩:=h
 exact ⟨⟨t1,h1.below hb h1.lt⟩,⟨t2,h2.below hb h2.lt⟩⟩
def pressMO : List LV → Hp → Nat → Option Out:=fun args H nx=>match args with
 | [.agg cs,x]=>match words4 cs,sliceB H x with
  | some h,some b=>if h.length = 4 ∧ b.length = 64 then some ⟨wordsLV (pressM h b),[],nx,none⟩ else none
  | _,_=>none
 | _=>none
def byteLVs (n:Nat) (b:UInt8) : List LV:=(List.replicate n b).map fun b=>.v (.int .u8 b.toNat)
def repO : List LV → Hp → Nat → Option Out:=fun args H nx=>match args with
 | [x,.v (.int .i64 (.ofNat n))]=>match sliceB H x with
  | some [b]=>if 1 ≤ n ∧ n ≤ 1000 then some ⟨.slice nx 0 n n,[(nx,some ⟨5,false,false,byteLVs n b⟩)],nx + 1,none⟩ else none
  | _=>none
 | _=>none
section
variable {nB:Nat} {w0:World}
theorem pressM_ok (hO:OldW w0) : OneOk nB w0 115 pressMO:=by
 intro args H nx out h
 unfold pressMO at h
 split at h
 ·rename_i cs x
  split at h
  ·rename_i hh b h1 h2
   split at h
   ·rename_i hc
    rw [val_inv h]
    refine orc_val ⟨_,Tryz.func115,by kernel_rfl,by kernel_rfl⟩ (fun ν vs w hvs hH hb=>?_)
    obtain ⟨v1,v2,rfl,g1,g2⟩:=two_val hvs
    simp only [VR] at g1
    obtain ⟨us,rfl,g1⟩:=g1
    rw [words4_ok h1 g1]
    obtain ⟨⟨t1,q1⟩,⟨t2,q2⟩⟩:=hO.below hb
    exact ⟨_,wordsLV_ok _,pressM_any hh v2 b w q1 q2 hc.1 (sliceB_ok hH h2 g2).1 hc.2⟩
   ·cases h
  ·cases h
 ·cases h
theorem byteLVs_one (n:Nat) (b:UInt8) : (byteLVs n b).all LV.isOne = true:=by
 unfold byteLVs
 rw [List.all_map,List.all_eq_true]
 intro x _
 rfl
theorem rep_ok : OneOk nB w0 144 repO:=by
 intro args H nx out h
 unfold repO at h
 split at h
 ·rename_i x n
  split at h
  ·rename_i b hb
   split at h
   ·rename_i hc
    cases h
    refine ⟨⟨_,Tryz.func144,by kernel_rfl,by kernel_rfl⟩,rfl,fun ν vs w hν hvs hH hlow hinj hid hg hbl=>?_⟩
    obtain ⟨v1,v2,rfl,g1,g2⟩:=two_val hvs
    simp only [VR] at g2
    obtain ⟨rfl,_⟩:=g2
    have hs:=(sliceB_ok hH hb g1).1
    refine (repeat_new w v1 b n hs hc.1 hc.2).mono ?_
    rintro e w' ⟨rfl,⟨C,hC,cur,k1,k2,k3⟩,hB⟩
    have hνx : ν nx = none:=hν nx (Nat.le_refl _) (by show nx < nx + 1; omega)
    have hlt : w.heap.size < w'.heap.size:=(Array.getElem?_eq_some_iff.1 k1).1
    refine ⟨_,envNew ν nx ⟨w.heap.size,C,0⟩,rfl,fun i hi=>by unfold envNew; rw [if_neg (by simp at hi; omega)],?_,fun i k h=>?_,fun a ha _=>hB.block a ha,fun i k l hi h hl=>?_,fun i j ki kj li lj _ _ hi hj _ _ _=>?_,fun i hi h=>?_,fun i hi h=>?_,hbl.trans (hB.mono hbl.size),hB.size⟩
    ·simp only [VR]
     exact ⟨_,envNew_self _,rfl⟩
    ·simp only [dget] at h
     split at h
     ·rename_i e; subst e
      cases h
      have hcur : cur = cur.take n ++ cur.drop n:=(List.take_append_drop n cur).symm
      have htk : cur.take n = (List.replicate n b).map fun b=>Value.int .u8 b.toNat:=by
       apply List.ext_getElem?
       intro i
       by_cases hi : i < n
       ·rw [List.getElem?_take_of_lt hi,k3 i hi]
        simp [hi,B]
       ·rw [List.getElem?_eq_none (by rw [List.length_take]; omega),List.getElem?_eq_none (by simp; omega)]
      refine ⟨_,envNew_self _,cur.toArray,(0,0),k1,by simp [k2],fun h=>absurd h (by simp),⟨[],cur.take n,cur.drop n,by simp,rfl,?_⟩,byteLVs_one n b,.inl rfl,fun _=>rfl⟩
      rw [htk]
      exact bytes_vrs _
     ·cases h
    ·simp only [dget] at h
     split at h
     ·rename_i e; subst e
      rw [envNew_self] at hl; cases hl
      exact .inl (Nat.le_refl _)
     ·cases h
    ·simp only [dget] at hi hj
     split at hi
     ·rename_i e1
      split at hj
      ·rename_i e2; rw [e1,e2]
      ·cases hj
     ·cases hi
    ·simp only [dget] at h
     split at h
     ·rename_i e; omega
     ·cases h
    ·simp only [dget] at h
     split at h
     ·rename_i e; show i < nx + 1; omega
     ·cases h
   ·cases h
  ·cases h
 ·cases h
end
end Go.Proofs.YtjpfhhndjpdmoaaGreatDoor

namespace Go.Proofs.YtjpfhhndjpdmoaaGreatDoor
open Go.RowKit Go.Shelf
attribute [local go_sem] Oper.semAt_some

set_option maxRecDepth 100000 in
set_option maxHeartbeats 2000000 in
theorem chunk1_inV (n:Nat) (_hn:1 ≤ n) (l Bs Bn b off len cap:Nat) (hl0:0 < len) (hl253:len ≤ 253) (hlc:len ≤ cap) (hcm:cap ≤ maxLen) (J Jx:List Unit → World → Prop)
  (hY:∀ pre x W,J pre W → pre.length < 1 → YieldAt Fence.wide (n - 1) Tryz.prog l (encU b off len x) W fun e W' =>
   (e = .returned (.bool true) ∧ J (pre ++ [x]) W' ∧ KpC Bs Bn W W') ∨ (e = .returned (.bool false) ∧ Jx (pre ++ [x]) W'))
  (hJd:∀ pre W,J pre W → J pre W.drew)
  (W:World) (hBs:Row W Bs 22 #[.slice (some ⟨b,off,none⟩) len cap]) (hBn:Row W Bn 3 #[.int .i64 253]) (h0:J [] W) :
  CallsIn Fence.wide n Tryz.prog 121 #[.func (.yield l) #[] #[],.pointer (some ⟨Bs,0,none⟩),.pointer (some ⟨Bn,0,none⟩)] W fun e W'=>(∃ v,e = .returned v) ∧
   ((∃ xs,xs = [()] ∧ J xs W') ∨ (∃ pre,True ∧ Jx pre W')):=by
 unfold maxLen at hcm
 refine callsIn_of_wp Tryz.func121 rfl trivial ?_ rfl
 simp only [Tryz.ntmps121,List.size_toArray,List.length_cons,List.length_nil,Nat.reduceAdd,Nat.reduceSub,Array.replicate_succ,Array.replicate_zero,List.push_toArray,List.append_toArray,List.nil_append,List.cons_append]
 gi_wp2
 gi_loopw [4,5] (fun i _ wr=>((i = .int .i64 0 ∧ J [] wr) ∨ (i = .int .i64 253 ∧ J [()] wr)) ∧ Row wr Bs 22 #[.slice (some ⟨b,off,none⟩) len cap] ∧ Row wr Bn 3 #[.int .i64 253])
  (fun i _ _=>254 - (intOf i).toNat)
 case atStart=>exact ⟨.inl ⟨rfl,h0⟩,hBs,hBn⟩
 case round =>
  clear h0 hBs hBn
  obtain ⟨⟨rfl,hJs⟩ | ⟨rfl,hJs⟩,hBs,hBn⟩:=hrel
  ·have ls:=hBs.lt
   have ln:=hBn.lt
   have q1 : (0 : Int) < (len:Int):=by omega
   have q3 : (len:Int) ≤ (cap:Int):=by omega
   have q9 : ¬ cap = 0:=by omega
   have hJd2:=hJd _ _ hJs
   obtain ⟨fn,tmps,assign,body,hy,hR⟩:=hY [] () wr.drew hJd2 (by simp)
   unfold encU at hy
   by_cases hf : len = 253
   ·subst hf
    gi_wp2
    refine wpIn_wide.2 ?_
    refine wp_region_qtail (fun w'=>w' = _) 6 (by kernel_rfl) (by kernel_rfl) rfl ?_
    simp only [List.take_succ_cons,List.take_zero,List.drop_succ_cons,List.drop_zero]
    repeat (first | go_big_quiet_skip | (go_big_quiet_want; go_big_quiet_op; go_big_quiet_on))
    refine wpQuiet_nil ?_
    rintro _ rfl
    go_wp2_with fail
    gi_wp2
    refine hR.mono ?_
    rintro en W3 (⟨rfl,hJ3,hk3⟩ | ⟨rfl,hJx3⟩)
    ·have hBs3:=hk3 _ _ _ (.inl rfl) hBs.drew
     have hBn3:=hk3 _ _ _ (.inr rfl) hBn.drew
     have ls3:=hBs3.lt
     have ln3:=hBn3.lt
     clear hY hJd hJs hJd2 hR hy hk3 hBs hBn
     gi_wp2
     go_roundw
     case rel=>exact ⟨.inr ⟨rfl,hJ3⟩,hBs3,hBn3⟩
     case measure=>simp [intOf]
    ·clear hY hJd hJs hJd2 hR hy hBs hBn
     gi_wp2
     refine bodyPost_ret (results_none rfl _ _ _) rfl ?_
     exact ⟨⟨_,rfl⟩,.inr ⟨_,trivial,hJx3⟩⟩
   ·have f1 : ¬ (253 : Int) ≤ (len:Int):=by omega
    gi_wp2
    refine wpIn_wide.2 ?_
    refine wp_region_qtail (fun w'=>w' = _) 6 (by kernel_rfl) (by kernel_rfl) rfl ?_
    simp only [List.take_succ_cons,List.take_zero,List.drop_succ_cons,List.drop_zero]
    repeat (first | go_big_quiet_skip | (go_big_quiet_want; go_big_quiet_op; go_big_quiet_on))
    refine wpQuiet_nil ?_
    rintro _ rfl
    go_wp2_with fail
    gi_wp2
    refine hR.mono ?_
    rintro en W3 (⟨rfl,hJ3,hk3⟩ | ⟨rfl,hJx3⟩)
    ·have hBs3:=hk3 _ _ _ (.inl rfl) hBs.drew
     have hBn3:=hk3 _ _ _ (.inr rfl) hBn.drew
     have ls3:=hBs3.lt
     have ln3:=hBn3.lt
     clear hY hJd hJs hJd2 hR hy hk3 hBs hBn
     gi_wp2
     go_roundw
     case rel=>exact ⟨.inr ⟨rfl,hJ3⟩,hBs3,hBn3⟩
     case measure=>simp [intOf]
    ·clear hY hJd hJs hJd2 hR hy hBs hBn
     gi_wp2
     refine bodyPost_ret (results_none rfl _ _ _) rfl ?_
     exact ⟨⟨_,rfl⟩,.inr ⟨_,trivial,hJx3⟩⟩
  ·have ls:=hBs.lt
   have q1 : ¬ (253 : Int) < (len:Int):=by omega
   clear hY hJd
   gi_wp2
   go_end0
   exact ⟨⟨_,rfl⟩,.inl hJs⟩
theorem chunk_stopsV (n:Nat) (hn:1 ≤ n) (Bs Bn:Nat) (b off len cap:Nat) (w:World) (hl0:0 < len) (hl253:len ≤ 253) (hlc:len ≤ cap) (hcm:cap ≤ maxLen)
  (hBs:Row w Bs 22 #[.slice (some ⟨b,off,none⟩) len cap]) (hBn:Row w Bn 3 #[.int .i64 253]) :
  SeqStopsK Fence.wide n Tryz.prog 121 #[.pointer (some ⟨Bs,0,none⟩),.pointer (some ⟨Bn,0,none⟩)] (encU b off len) (KpC Bs Bn) (fun ys=>ys = [()]) (fun _=>True) 1 w:=by
 intro l J Jx W hW hJ _ hY h0
 exact chunk1_inV n hn l Bs Bn b off len cap hl0 hl253 hlc hcm J Jx hY (fun pre W h=>hJ pre W _ none h (grownBy_drew' W none) (fun r e=>by cases e)) W (hBs.below hW hBs.lt) (hBn.below hW hBn.lt) h0
end Go.Proofs.YtjpfhhndjpdmoaaGreatDoor

namespace Go.Proofs.YtjpfhhndjpdmoaaGreatDoor
open Go.RowKit
set_option linter.unusedVariables false
set_option linter.unusedSectionVars false
set_option linter.unusedSimpArgs false

abbrev rsF : FuncId:=44
noncomputable def rsB : Code:=Cd.bodyOf Tryz.prog rsF
noncomputable def rsC3 : Code:=Cd.drop 1 rsB
noncomputable def rsR : Code:=Cd.a (Cd.b (Cd.a rsC3))
noncomputable def rsEn : Code:=Cd.b rsC3
theorem rsR_eq : rsR = .rangeFunc (.tmp 6) #[7] (Cd.rfA rsR) (Cd.rfB rsR):=by kernel_rfl
theorem rsA_eq : Cd.rfA rsR = .region 3 (Cd.ops (Cd.rfA rsR)) false:=by kernel_rfl
noncomputable def rsO : Array Oper:=Cd.ops (Cd.a (Cd.rfB rsR))
theorem rsB_eq : Cd.rfB rsR = .block (Cd.id (Cd.rfB rsR)) (.region 4 rsO true):=by kernel_rfl
theorem rsA_one : (Cd.ops (Cd.rfA rsR)).toList.map (fun o=>(o.dst,o.guard,o.op)) = [(some 4,none,.assign (.tmp 7))]:=by kernel_rfl
theorem rsB_nd : rsO.toList.all notDefer = true:=by kernel_rfl
theorem rsEn_flat : flatB rsEn = true:=by kernel_rfl
section
variable {GE:Env → Prop} [hGE : GEok Tryz.prog GE] {nB B:Nat} {w0:World} {callf:FuncId → List LV → Hp → Nat → Option Out}
set_option maxRecDepth 100000 in
theorem rs_loop (hc:EvOk Tryz.prog GE nB B w0 callf) (hB:B ≤ w0.heap.size) {s2 s4:St} {bs bn b off len:Nat} {x:LV} (hxb:x = .buf b off len 1 ∨ ∃ cap,x = .slice b off len cap ∧ len ≤ cap ∧ cap ≤ 1000)
  (hT:s2.T.get 6 = some (.fn (.func chF) [.ptr bs 0,.ptr bn 0])) (hbs:s2.H.get bs = some ⟨22,true,false,[x]⟩) (hbn:s2.H.get bn = some ⟨3,true,false,[.v (.int .i64 253)]⟩)
  (hl0:0 < len) (hl99:len ≤ 253) (hnt:s2.nt = 15)
  (hev:evReg Tryz.prog nB callf rsO true ⟨s2.nt,(s2.T.set 7 (some (.slice b off len len))).set 4 (some (.slice b off len len)),s2.H,s2.nx,[]⟩ = some s4)
  (hwb:bs ∉ s4.wr) (hwn:bn ∉ s4.wr) {ν : Env} {a:Act} {w:World} (hs:StR Tryz.prog GE nB B w0 ν s2 a w) (hν : ∀ i,s2.nx ≤ i → i < s4.nx → ν i = none) {Q:Exit → Act → World → Prop}
  (hQ:∀ a' w' ν' D,StR Tryz.prog GE nB B w0 ν' ⟨s2.nt,s2.T,s4.H,s4.nx,s4.wr ++ s2.wr⟩ (Act.bare a') w' → w.heap.size ≤ D → a'.defers = [markOf D] → w'.heap[D]? = some (.deferred (some [])) → Frg nB ν ν' s2 ⟨s2.nt,s2.T,s4.H,s4.nx,s4.wr ++ s2.wr⟩ w w' → Q .normal a' w') : rsR.wp Tryz.prog Q a w:=by
 obtain ⟨lb,hlb,hBb⟩:=hs.hr bs _ trivial hbs
 obtain ⟨ln,hln,hBn⟩:=hs.hr bn _ trivial hbn
 obtain ⟨vb,hb1,hb2⟩:=one_row hBb
 obtain ⟨vn,hn1,hn2⟩:=one_row hBn
 have hb3 : ∃ lq c,ν b = some lq ∧ vb = .slice (some ⟨lq.addr,lq.base + off,none⟩) len c ∧ len ≤ c ∧ c ≤ 2 ^ 63 - 1:=by
  rcases hxb with rfl | ⟨cap,rfl,k1,k2⟩
  ·simp only [VR] at hb2
   obtain ⟨lq,c,q1,q2,q3,_,q4⟩:=hb2
   exact ⟨lq,c,q1,q2,q3,q4⟩
  ·simp only [VR] at hb2
   obtain ⟨lq,q1,q2⟩:=hb2
   exact ⟨lq,cap,q1,q2,k1,by omega⟩
 simp only [VR] at hn2
 obtain ⟨lq,c,hlq,rfl,hc1,hc3⟩:=hb3
 obtain ⟨rfl,_⟩:=hn2
 have hfn:=hs.tr 6 _ hT
 simp only [VR] at hfn
 obtain ⟨vs,hfv,hvs⟩:=hfn
 obtain ⟨u1,us,rfl,g1,g2⟩:=VRs.cons_iff.1 hvs
 obtain ⟨u2,us',rfl,g3,g4⟩:=VRs.cons_iff.1 g2
 obtain rfl:=VRs.nil_iff.1 g4
 simp only [VR] at g1 g3
 obtain ⟨l1,g1,rfl⟩:=g1
 obtain ⟨l2,g3,rfl⟩:=g3
 rw [hlb] at g1; cases g1
 rw [hln] at g3; cases g3
 rw [one_base hBb,one_base hBn] at hfv
 have hBw : B ≤ w.heap.size:=Nat.le_trans hB hs.below.size
 have hsz : a.tmps.size = 15:=by rw [hs.sz,hnt]
 obtain ⟨y,hy⟩ : ∃ y,y = Value.slice (some ⟨lq.addr,lq.base + off,none⟩) len len:=⟨_,rfl⟩
 obtain ⟨a1,ha1⟩ : ∃ a1 : Act,a1 = { tmps:=(a.tmps.setIfInBounds 7 y).setIfInBounds 4 y,defers:=[] }:=⟨_,rfl⟩
 rw [rsR_eq]
 refine (wpIn_wide (n:=4)).1 ?_
 refine wpIn_rangeFunc_ownG (n:=4) rfl (by omega) (gf:=chF) (lb:=#[.pointer (some ⟨lb.addr,0,none⟩),.pointer (some ⟨ln.addr,0,none⟩)]) hfv trivial (enters_of Tryz.func121 (by kernel_rfl) rfl)
  (chunk_stopsV 3 (by omega) lb.addr ln.addr lq.addr (lq.base + off) len c w hl0 hl99 hc1 (by unfold maxLen; omega) (Row.of_heap hb1) (Row.of_heap hn1)) (fun h k=>KpC.trans h k) (fun W l o o' _ h hc _=>KpC.put W l o o' h hc) (Below.refl _ _) (fun _=>rfl)
  (fun pre W=>(pre = [] → StR Tryz.prog GE nB B w0 ν s2 a W ∧ Frg nB ν ν s2 s2 w W) ∧ (pre ≠ [] → ∃ ν',StR Tryz.prog GE nB B w0 ν' ⟨s2.nt,s2.T,s4.H,s4.nx,s4.wr ++ s2.wr⟩ a W ∧ Frg nB ν ν' s2 ⟨s2.nt,s2.T,s4.H,s4.nx,s4.wr ++ s2.wr⟩ w W))
  (fun _ _ _=>False) ?hI (fun _ _ _ _ _ hs _ _=>hs) ⟨fun _=>⟨hs,Frg.refl hs.wrs hs.ids⟩,fun h=>absurd rfl h⟩ (fun _=>a1) ?assign ?body ?done (fun _ _ _ _ _ _ h _=>h.elim)
 case hI =>
  rintro pre A A' row ⟨h1,h2⟩ hg hr
  have hr1 : ∀ r,row = some r → w.heap.size ≤ r:=fun r e=>(hr r e).1
  have hr2 : ∀ r,row = some r → B ≤ r ∧ ∃ o : Obj,A.heap[r]? = some o ∧ o.isCells = false:=fun r e=>⟨Nat.le_trans hBw (hr r e).1,(hr r e).2⟩
  refine ⟨fun e=>?_,fun e=>?_⟩
  ·obtain ⟨q1,q2⟩:=h1 e
   exact ⟨q1.grown (Nat.le_trans hBw q2.size) hg hr2,q2.grown hg hr1⟩
  ·obtain ⟨ν',q1,q2⟩:=h2 e
   exact ⟨ν',q1.grown (Nat.le_trans hBw q2.size) hg hr2,q2.grown hg hr1⟩
 case assign =>
  intro l x W K hK
  rw [rsA_eq]
  have h1:=rsA_one
  generalize Cd.ops (Cd.rfA rsR) = ops at h1 ⊢
  obtain ⟨L⟩:=ops
  simp only at h1
  rcases L with _ | ⟨o,_ | ⟨o2,L⟩⟩
  ·simp at h1
  ·simp only [List.map_cons,List.map_nil,List.cons.injEq,Prod.mk.injEq,and_true] at h1
   obtain ⟨e1,e2,e3⟩:=h1
   refine region_round (L:=[o]) (fun ⟨_,_,h⟩=>h) (by simp [notDefer,e3]) ?_
   refine wpList_step (fun K' hK'=>?_)
   rw [if_pos (by simp [Region.wanted,e2])]
   unfold Oper.wp
   rw [run_asg e3,Oper.upon_value]
   refine hK' _ _ (wpList_nil ?_)
   have : Act.put { tmps:=(#[7].zip (encU lq.addr (lq.base + off) len x)).foldl (fun t (p,v)=>t.setIfInBounds p v) a.tmps,defers:=[] } o.dst (Act.eval { tmps:=(#[7].zip (encU lq.addr (lq.base + off) len x)).foldl (fun t (p,v)=>t.setIfInBounds p v) a.tmps,defers:=[] } (.tmp 7)) = a1:=by
    rw [ha1,e1,hy]
    simp [encU,Act.put,Act.eval,hsz]
   rw [this]
   exact hK
  ·simp at h1
 case body =>
  rintro l' pre x W ⟨h1,_⟩ hlen
  have hp : pre = []:=List.eq_nil_of_length_eq_zero (by omega)
  subst hp
  obtain ⟨hsW,hfW⟩:=h1 rfl
  rw [rsB_eq]
  refine wpIn_block ?_
  have hnd:=rsB_nd
  obtain ⟨L,hL⟩ : ∃ L : List Oper,rsO = L.toArray:=⟨rsO.toList,by simp⟩
  rw [hL] at hev hnd ⊢
  refine region_drawn_round (by kernel_rfl) (fun ⟨_,_,h⟩=>h) (by simpa using hnd) ?_
  have hs3 : StR Tryz.prog GE nB B w0 ν ⟨s2.nt,(s2.T.set 7 (some (.slice b off len len))).set 4 (some (.slice b off len len)),s2.H,s2.nx,[]⟩ a1 W:=by
   refine ⟨hsW.hr,hsW.low,hsW.inj,hsW.ids,hsW.glob,hsW.below,fun t z ht=>?_,by rw [ha1]; simp [hsz,hnt],by rw [ha1],fun i hi=>by cases hi⟩
   simp only [Tr.get_set] at ht
   have hyv : VR ν (.slice b off len len) y:=by rw [hy]; simp only [VR]; exact ⟨lq,hlq,rfl⟩
   by_cases h9 : t = 4
   ·subst h9
    rw [if_pos rfl] at ht
    cases ht
    rw [ha1]
    simpa [hsz] using hyv
   ·rw [if_neg h9] at ht
    by_cases h57 : t = 7
    ·subst h57
     rw [if_pos rfl] at ht
     cases ht
     rw [ha1]
     simpa [Array.getElem?_setIfInBounds,hsz] using hyv
    ·rw [if_neg h57] at ht
     have:=hsW.tr t z ht
     rw [ha1]
     simp only [Array.getD_eq_getD_getElem?] at this ⊢
     rwa [Array.getElem?_setIfInBounds_ne (Ne.symm h9),Array.getElem?_setIfInBounds_ne (Ne.symm h57)]
  refine draw_okA hc hB hev hs3 hν (fun a' W1 ν' g1 g2=>?_)
  have hext : Ext ν ν':=fun i l hl=>by
   rw [g2.ext i (fun hh=>by rw [hν i hh.1 hh.2] at hl; cases hl)]
   exact hl
  refine ⟨⟨g2.size,fun k o hBk hk hoc=>?_⟩,fun bb t cs hbb hrow=>?_,fun e=>absurd e (by simp),fun _=>⟨ν',⟨g1.hr,g1.low,g1.inj,g1.ids,g1.glob,g1.below,hsW.tr.ext hext,hsW.sz,hsW.df,fun i hi=>?_⟩,hfW.trans (g2.addWr hs.wrs)⟩⟩
  ·refine (g2.frame k (Array.getElem?_eq_some_iff.1 hk).1 (fun i l hi hlt hl e=>?_)).trans hk
   rcases g2.old i hi with q | q | ⟨_,kb,hkb⟩
   ·cases q
   ·have hlt' : i < s2.nx:=hlt
    have q' : s2.nx ≤ i:=q
    omega
   ·obtain ⟨l2,e1,c2,fr,e2,_⟩:=hsW.hr i kb trivial hkb
    rw [hl] at e1; cases e1
    rw [e,hk] at e2
    cases e2
    cases hoc
  ·rcases hbb with rfl | rfl
   ·refine keep_row hs3 g1 g2 hbs hwb (fun v v' hv hv'=>?_) hlb hrow
    rcases hxb with rfl | ⟨cap,rfl,_,_⟩
    ·simp only [VR] at hv hv'
     obtain ⟨l1,c1,e1,rfl,_,e2,_⟩:=hv
     obtain ⟨l2,c2,e3,rfl,_,e4,_⟩:=hv'
     rw [hext _ _ e1] at e3; cases e3
     have : c1 = c2:=by omega
     rw [this]
    ·simp only [VR] at hv hv'
     obtain ⟨l1,e1,rfl⟩:=hv
     obtain ⟨l2,e3,rfl⟩:=hv'
     rw [hext _ _ e1] at e3; cases e3
     rfl
   ·refine keep_row hs3 g1 g2 hbn hwn (fun v v' hv hv'=>?_) hln hrow
    simp only [VR] at hv hv'
    rw [hv.1,hv'.1]
  ·rcases List.mem_append.1 hi with q | q
   ·exact g1.wrs i q
   ·have:=hs.wrs i q
    have:=g2.nx
    show i < s4.nx
    have h3 : s2.nx ≤ s4.nx:=g2.nx
    omega
 case done =>
  rintro D xs W hD hS ⟨_,h2⟩ hdef
  obtain ⟨ν',q1,q2⟩:=h2 (by rw [hS]; simp)
  have hda:=hs.df
  have hbare : ∀ ds,Act.bare { a with defers:=ds } = a:=fun ds=>by
   obtain ⟨tm,df⟩:=a
   simp only at hda
   subst hda
   rfl
  refine hQ _ W ν' D (by rw [hbare]; exact q1) hD (by rw [hda]; rfl) hdef q2
end
end Go.Proofs.YtjpfhhndjpdmoaaGreatDoor
