/- Part of the proof: Half,Bit,NumLaw,Bytes,Of,Halve. No conditions of its own. -/
import Derived.Laws.Bits64b
import Derived.Test.YtjpfhhndjpdmoaaGreatDoorF11
namespace Go.Proofs.YtjpfhhndjpdmoaaGreatDoor
open Go.RowKit
set_option linter.unusedVariables false
set_option linter.unusedSimpArgs false

theorem ba_one (x:Nat) (hx:x < 18446744073709551616) : bits .and .u64 (x:Int) 1 = ((x % 2 : Nat) : Int):=by
 have:=bits_and_u64_nat x 1 hx (by decide)
 rw [show ((1 : Nat) : Int) = 1 from rfl] at this
 rw [this,Nat.and_one_is_mod]
theorem or_top (y b:Nat) (hy:y < 9223372036854775808) (hb:b ≤ 1) : y ||| b * 9223372036854775808 = y + b * 9223372036854775808:=by
 have:=Nat.two_pow_add_eq_or_of_lt (i:=63) (b:=y) (by simpa using hy) b
 rw [Nat.or_comm,show b * 9223372036854775808 = 2 ^ 63 * b from Nat.mul_comm _ _,← this,Nat.add_comm]
theorem bo_half (x b:Nat) (hx:x < 18446744073709551616) (hb:b ≤ 1) : bits .or .u64 ((x:Int) / 2) (IntKind.u64.wrap ((b:Int) * 9223372036854775808)) = ((x / 2 + b * 9223372036854775808 : Nat) : Int):=by
 have e : IntKind.u64.wrap ((b:Int) * 9223372036854775808) = ((b * 9223372036854775808 : Nat) : Int):=by rw [IntKind.wrap_u64]; omega
 have e2 : ((x:Int) / 2) = ((x / 2 : Nat) : Int):=by omega
 rw [e,e2,bits_or_u64_nat _ _ (by omega) (by omega),or_top _ _ (by omega) hb]
def hfL (a top i:Nat) : List Nat:=[if 0 < i then lim (hlf a top) 0 else lim a 0,if 1 < i then lim (hlf a top) 1 else lim a 1,if 2 < i then lim (hlf a top) 2 else lim a 2,if 3 < i then lim (hlf a top) 3 else lim a 3]
theorem hfL_zero (a top:Nat) : hfL a top 0 = nL a:=by simp [hfL,nL]
theorem hfL_four (a top:Nat) : hfL a top 4 = nL (hlf a top):=by simp [hfL,nL]
set_option maxRecDepth 100000 in
set_option maxHeartbeats 4000000 in
theorem half_any (w:World) (a top:Nat) (ha:a < R256) (ht:top ≤ 1) : Calls Tryz.prog 147 #[.agg (AQ (nL a)),Q top] w fun e w'=>e = .returned (.agg (AQ (nL (hlf a top)))) ∧ Below w.heap.size w w':=by
 have HH:=Lib.hid (⟨ha,ht⟩ : _ ∧ _)
 clear ha ht
 go_enter Tryz.func147,Tryz.ntmps147
 go_upto_region 1 with (fail)
 refine at_world (fun W=>Row W w.heap.size 177 (AQ (nL a)) ∧ Row W (w.heap.size + 1) 177 (AQ (nL 0)) ∧ Below w.heap.size w W) ⟨(Row.newAt _ _ _ _ rfl).alloc _,(by rw [nAQ_zero]; exact Row.newAt _ _ _ _ (by simp)),((Below.refl _ w).alloc (Nat.le_refl _) _).alloc (by simp) _⟩ ?_
 rintro W1 ⟨i2,i4,hB⟩
 go_wp2_with fail
 go_loopg [7] 4 (fun gk t7 wr=>∃ i : Nat,gk + i = 4 ∧ t7 = .int .i64 (i:Int) ∧ Row wr w.heap.size 177 (AQ (hfL a top i)) ∧ Row wr (w.heap.size + 1) 177 (AQ (nL 0)) ∧ Below w.heap.size w wr)
 case atStart=>exact ⟨0,rfl,rfl,by rw [hfL_zero]; exact i2,i4,hB⟩
 case round =>
  obtain ⟨i,hi,rfl,r2,r4,hb⟩:=hrel
  have hi4 : i = 0 ∨ i = 1 ∨ i = 2 ∨ i = 3 ∨ i = 4:=by omega
  clear i2 i4 hB
  rcases hi4 with rfl | rfl | rfl | rfl | rfl
  ·have hlt:=r2.lt
   obtain ⟨L,hL⟩ : ∃ L,L = hfL a top 0:=⟨_,rfl⟩
   have e0 : (AQ L)[0]? = some (Q (lim a 0)):=by rw [hL]; simp [hfL,AQ]
   have e1 : (AQ L)[1]? = some (Q (lim a 1)):=by rw [hL]; simp [hfL,AQ]
   obtain ⟨z,hz⟩ : ∃ z,z = lim (hlf a top) 0:=⟨_,rfl⟩
   have HL2:=Lib.hid (show L.set 0 z = hfL a top 1 by rw [hL,hz]; simp [hfL])
   obtain ⟨x,hx⟩ : ∃ x,x = lim a 0:=⟨_,rfl⟩
   obtain ⟨y,hy⟩ : ∃ y,y = lim a 1:=⟨_,rfl⟩
   obtain ⟨b,hb2⟩ : ∃ b,b = y % 2:=⟨_,rfl⟩
   have f1 : bits .and .u64 (y:Int) 1 = (b:Int):=by rw [hb2]; exact ba_one y (by rw [hy]; exact lim_lt _ _)
   have f2 : bits .or .u64 ((x:Int) / 2) (IntKind.u64.wrap ((b:Int) * 9223372036854775808)) = (z:Int):=by rw [bo_half x b (by rw [hx]; exact lim_lt _ _) (by omega),hx,hb2,hy,hz,hlf_0]
   rw [← hy] at e1
   rw [← hL] at r2
   rw [← hx] at e0
   have c0 : wr.cell? ⟨w.heap.size,0,none⟩ = some (Q x):=by rw [r2.cell]; exact e0
   have c1 : wr.cell? ⟨w.heap.size,1,none⟩ = some (Q y):=by rw [r2.cell]; exact e1
   have hx0 : (0 : Int) ≤ (x:Int):=by omega
   have q0 : (AQ L).size = 4:=by rw [hL]; rfl
   clear hy hb2
   clear hL hx hz
   have HI:=Lib.hid hi
   clear hi
   go_wp2_with fail
   go_roundg (gk - 1)
   case measure=>have:=HI.out; omega
   case rel=>exact ⟨1,by have:=HI.out; omega,by first | rfl | go_num,by rw [← HL2.out]; exact r2.setQ 0 z,r4.setOther _ _ (by simp),hb.setCell (by simp) _⟩
  ·have hlt:=r2.lt
   obtain ⟨L,hL⟩ : ∃ L,L = hfL a top 1:=⟨_,rfl⟩
   have e0 : (AQ L)[1]? = some (Q (lim a 1)):=by rw [hL]; simp [hfL,AQ]
   have e1 : (AQ L)[2]? = some (Q (lim a 2)):=by rw [hL]; simp [hfL,AQ]
   obtain ⟨z,hz⟩ : ∃ z,z = lim (hlf a top) 1:=⟨_,rfl⟩
   have HL2:=Lib.hid (show L.set 1 z = hfL a top 2 by rw [hL,hz]; simp [hfL])
   obtain ⟨x,hx⟩ : ∃ x,x = lim a 1:=⟨_,rfl⟩
   obtain ⟨y,hy⟩ : ∃ y,y = lim a 2:=⟨_,rfl⟩
   obtain ⟨b,hb2⟩ : ∃ b,b = y % 2:=⟨_,rfl⟩
   have f1 : bits .and .u64 (y:Int) 1 = (b:Int):=by rw [hb2]; exact ba_one y (by rw [hy]; exact lim_lt _ _)
   have f2 : bits .or .u64 ((x:Int) / 2) (IntKind.u64.wrap ((b:Int) * 9223372036854775808)) = (z:Int):=by rw [bo_half x b (by rw [hx]; exact lim_lt _ _) (by omega),hx,hb2,hy,hz,hlf_1]
   rw [← hy] at e1
   rw [← hL] at r2
   rw [← hx] at e0
   have c0 : wr.cell? ⟨w.heap.size,1,none⟩ = some (Q x):=by rw [r2.cell]; exact e0
   have c1 : wr.cell? ⟨w.heap.size,2,none⟩ = some (Q y):=by rw [r2.cell]; exact e1
   have hx0 : (0 : Int) ≤ (x:Int):=by omega
   have q0 : (AQ L).size = 4:=by rw [hL]; rfl
   clear hy hb2
   clear hL hx hz
   have HI:=Lib.hid hi
   clear hi
   go_wp2_with fail
   go_roundg (gk - 1)
   case measure=>have:=HI.out; omega
   case rel=>exact ⟨2,by have:=HI.out; omega,by first | rfl | go_num,by rw [← HL2.out]; exact r2.setQ 1 z,r4.setOther _ _ (by simp),hb.setCell (by simp) _⟩
  ·have hlt:=r2.lt
   obtain ⟨L,hL⟩ : ∃ L,L = hfL a top 2:=⟨_,rfl⟩
   have e0 : (AQ L)[2]? = some (Q (lim a 2)):=by rw [hL]; simp [hfL,AQ]
   have e1 : (AQ L)[3]? = some (Q (lim a 3)):=by rw [hL]; simp [hfL,AQ]
   obtain ⟨z,hz⟩ : ∃ z,z = lim (hlf a top) 2:=⟨_,rfl⟩
   have HL2:=Lib.hid (show L.set 2 z = hfL a top 3 by rw [hL,hz]; simp [hfL])
   obtain ⟨x,hx⟩ : ∃ x,x = lim a 2:=⟨_,rfl⟩
   obtain ⟨y,hy⟩ : ∃ y,y = lim a 3:=⟨_,rfl⟩
   obtain ⟨b,hb2⟩ : ∃ b,b = y % 2:=⟨_,rfl⟩
   have f1 : bits .and .u64 (y:Int) 1 = (b:Int):=by rw [hb2]; exact ba_one y (by rw [hy]; exact lim_lt _ _)
   have f2 : bits .or .u64 ((x:Int) / 2) (IntKind.u64.wrap ((b:Int) * 9223372036854775808)) = (z:Int):=by rw [bo_half x b (by rw [hx]; exact lim_lt _ _) (by omega),hx,hb2,hy,hz,hlf_2]
   rw [← hy] at e1
   rw [← hL] at r2
   rw [← hx] at e0
   have c0 : wr.cell? ⟨w.heap.size,2,none⟩ = some (Q x):=by rw [r2.cell]; exact e0
   have c1 : wr.cell? ⟨w.heap.size,3,none⟩ = some (Q y):=by rw [r2.cell]; exact e1
   have hx0 : (0 : Int) ≤ (x:Int):=by omega
   have q0 : (AQ L).size = 4:=by rw [hL]; rfl
   clear hy hb2
   clear hL hx hz
   have HI:=Lib.hid hi
   clear hi
   go_wp2_with fail
   go_roundg (gk - 1)
   case measure=>have:=HI.out; omega
   case rel=>exact ⟨3,by have:=HI.out; omega,by first | rfl | go_num,by rw [← HL2.out]; exact r2.setQ 2 z,r4.setOther _ _ (by simp),hb.setCell (by simp) _⟩
  ·have hlt:=r2.lt
   obtain ⟨L,hL⟩ : ∃ L,L = hfL a top 3:=⟨_,rfl⟩
   have e0 : (AQ L)[3]? = some (Q (lim a 3)):=by rw [hL]; simp [hfL,AQ]
   obtain ⟨z,hz⟩ : ∃ z,z = lim (hlf a top) 3:=⟨_,rfl⟩
   have HL2:=Lib.hid (show L.set 3 z = hfL a top 4 by rw [hL,hz]; simp [hfL])
   obtain ⟨x,hx⟩ : ∃ x,x = lim a 3:=⟨_,rfl⟩
   have f2 : bits .or .u64 ((x:Int) / 2) (IntKind.u64.wrap ((top:Int) * 9223372036854775808)) = (z:Int):=by rw [bo_half x top (by rw [hx]; exact lim_lt _ _) HH.out.2,hx,hz,hlf_last _ _ HH.out.1 HH.out.2]
   rw [← hL] at r2
   rw [← hx] at e0
   have c0 : wr.cell? ⟨w.heap.size,3,none⟩ = some (Q x):=by rw [r2.cell]; exact e0
   have hx0 : (0 : Int) ≤ (x:Int):=by omega
   have q0 : (AQ L).size = 4:=by rw [hL]; rfl
   clear hL hx hz
   have HI:=Lib.hid hi
   clear hi
   go_wp2_with fail
   go_roundg (gk - 1)
   case measure=>have:=HI.out; omega
   case rel=>exact ⟨4,by have:=HI.out; omega,by first | rfl | go_num,by rw [← HL2.out]; exact r2.setQ 3 z,r4.setOther _ _ (by simp),hb.setCell (by simp) _⟩
  ·rw [hfL_four] at r2
   have l2:=r2.lt
   have l4:=r4.lt
   go_wp2_with fail
   exact ret_row (by first | exact .inl rfl | exact .inr rfl) rfl (w.heap.size + 1) 177 (AQ (nL (hlf a top))) 4 _ rfl (r4.setRow _) Tryz.underlying177 rfl (by kernel_rfl) rfl ⟨rfl,bSetRow hb (by omega) _⟩
end Go.Proofs.YtjpfhhndjpdmoaaGreatDoor

namespace Go.Proofs.YtjpfhhndjpdmoaaGreatDoor
open Go.RowKit
set_option linter.unusedVariables false
set_option linter.unusedSimpArgs false
theorem bit_law (a k r:Nat) (hr:r < 64) : lim a k / 2 ^ r % 2 = a / 2 ^ (64 * k + r) % 2:=by
 rw [← Nat.toNat_testBit,← Nat.toNat_testBit]
 unfold lim
 rw [show (18446744073709551616 : Nat) = 2 ^ 64 from rfl,← Nat.pow_mul,Nat.testBit_mod_two_pow,Nat.testBit_div_two_pow,Nat.add_comm r]
 simp [hr]
theorem bit_run (z r:Nat) (hz:z < 18446744073709551616) : wrap64 (bits .and .u64 ((z:Int) / 2 ^ r) 1) = ((z / 2 ^ r % 2 : Nat) : Int):=by
 have e : ((z:Int) / 2 ^ r) = ((z / 2 ^ r : Nat) : Int):=by simp
 rw [e,ba_one _ (Nat.lt_of_le_of_lt (Nat.div_le_self _ _) hz)]
 have : z / 2 ^ r % 2 < 2:=Nat.mod_lt _ (by decide)
 generalize z / 2 ^ r % 2 = q at this ⊢
 unfold wrap64
 omega
set_option maxRecDepth 100000 in
set_option maxHeartbeats 4000000 in
theorem bit_any (w:World) (a i:Nat) (hi:i < 256) : Calls Tryz.prog 137 #[.agg (AQ (nL a)),.int .i64 (i:Int)] w fun e w'=>e = .returned (.int .i64 ((a / 2 ^ i % 2 : Nat) : Int)) ∧ Below w.heap.size w w':=by
 have q0 : (0 : Int) ≤ (i:Int):=by omega
 have q1 : (i:Int) < 256:=by omega
 have q2 : (i:Int) / 64 = ((i / 64 : Nat) : Int):=by omega
 have q3 : (i:Int) % 64 = ((i % 64 : Nat) : Int):=by omega
 obtain ⟨k,hk⟩ : ∃ k,k = i / 64:=⟨_,rfl⟩
 obtain ⟨r,hr⟩ : ∃ k,k = i % 64:=⟨_,rfl⟩
 have k4 : k < 4:=by omega
 have k5 : (k:Int) < 4:=by omega
 have r4 : r < 64:=by omega
 rw [← hk] at q2
 rw [← hr] at q3
 have cA : (w.alloc (.cells (AQ (nL a)) 177)).cell? ⟨w.heap.size,k,none⟩ = some (Q (lim a k)):=by rw [(Row.new _ _ _).cell,AQ_get _ _ k4,nL_get _ _ k4]
 have HK:=Lib.hid (⟨hk,hr,hi⟩ : _ ∧ _ ∧ _)
 clear hk hr hi
 obtain ⟨z,hz⟩ : ∃ z,z = lim a k:=⟨_,rfl⟩
 rw [← hz] at cA
 have HZ:=Lib.hid hz
 clear hz
 go_enter Tryz.func137,Tryz.ntmps137
 go_wp2_with fail
 go_ret
 exact ⟨by rw [bit_run z r (by rw [HZ.out]; exact lim_lt _ _),HZ.out,bit_law a k r r4,HK.out.1,HK.out.2.1,show 64 * (i / 64) + i % 64 = i by omega]; rfl,(Below.refl _ w).alloc (Nat.le_refl _) _⟩
end Go.Proofs.YtjpfhhndjpdmoaaGreatDoor

namespace Go.Proofs.YtjpfhhndjpdmoaaGreatDoor
set_option linter.unusedVariables false

def natB (l:List UInt8) : Nat:=l.foldl (fun n x=>n * 256 + x.toNat) 0
def be32 (n:Nat) : List UInt8:=(List.range 32).map fun i=>UInt8.ofNat (n / 256 ^ (31 - i))
theorem be32_len (n:Nat) : (be32 n).length = 32:=by simp [be32]
theorem natB_snoc (l:List UInt8) (x:UInt8) : natB (l ++ [x]) = natB l * 256 + x.toNat:=by unfold natB; rw [List.foldl_append]; rfl
theorem natB_be (n:Nat) : ∀ k,natB ((List.range k).map fun i=>UInt8.ofNat (n / 256 ^ (k - 1 - i))) = n % 256 ^ k:=by
 intro k
 induction k generalizing n with
 | zero=>simp [natB,Nat.mod_one]
 | succ k ih =>
  rw [List.range_succ,List.map_append,List.map_cons,List.map_nil,natB_snoc]
  have e1 : ((List.range k).map fun i=>UInt8.ofNat (n / 256 ^ (k + 1 - 1 - i))) = (List.range k).map fun i=>UInt8.ofNat ((n / 256) / 256 ^ (k - 1 - i)):=by
   apply List.map_congr_left
   intro i hi
   have hik : i < k:=List.mem_range.1 hi
   rw [Nat.div_div_eq_div_mul,← Nat.pow_succ',show (k - 1 - i).succ = k + 1 - 1 - i by omega]
  have e2 : (UInt8.ofNat (n / 256 ^ (k + 1 - 1 - k))).toNat = n % 256:=by
   rw [show k + 1 - 1 - k = 0 by omega,Nat.pow_zero,Nat.div_one]
   simp
  rw [e1,ih (n / 256),e2,Nat.pow_succ]
  rw [Nat.mul_comm (256 ^ k) 256,Nat.mod_mul]
  omega
theorem natB_be32 {n:Nat} (h:n < R256) : natB (be32 n) = n:=by
 have:=natB_be n 32
 rw [Nat.mod_eq_of_lt (by exact h)] at this
 exact this
theorem natB_lt' : ∀ (l:List UInt8) (n:Nat),l.foldl (fun n x=>n * 256 + x.toNat) n < (n + 1) * 256 ^ l.length
 | [],n=>by simp
 | x :: l,n=>by
  rw [List.foldl_cons,List.length_cons,Nat.pow_succ]
  refine Nat.lt_of_lt_of_le (natB_lt' l _) ?_
  rw [Nat.mul_comm (256 ^ l.length) 256,← Nat.mul_assoc]
  refine Nat.mul_le_mul_right _ ?_
  have:=x.toNat_lt
  omega
theorem natB_lt (l:List UInt8) : natB l < 256 ^ l.length:=by
 have:=natB_lt' l 0
 rwa [Nat.zero_add,Nat.one_mul] at this
theorem natB_lt32 {l:List UInt8} (h:l.length = 32) : natB l < R256:=by
 have:=natB_lt l
 rw [h] at this
 exact this
def nOfS (l:List UInt8) (i:Nat) : Nat:=natB (l.take i) * 256 ^ (32 - i)
theorem nOfS_zero (l:List UInt8) : nOfS l 0 = 0:=by simp [nOfS,natB]
theorem nOfS_all {l:List UInt8} (h:l.length = 32) : nOfS l 32 = natB l:=by simp [nOfS,← h]
theorem of_all (A x:Nat) (hx:x < 256) (i j:Nat) (hi:i < 32) (hj:j < 4) :
  lim ((A * 256 + x) * 256 ^ (31 - i)) j = if j = 3 - i / 8 then lim (A * 256 ^ (32 - i)) j + x * 2 ^ (56 - 8 * (i % 8)) else lim (A * 256 ^ (32 - i)) j:=by
 have : i = 0 ∨ i = 1 ∨ i = 2 ∨ i = 3 ∨ i = 4 ∨ i = 5 ∨ i = 6 ∨ i = 7 ∨ i = 8 ∨ i = 9 ∨ i = 10 ∨ i = 11 ∨ i = 12 ∨ i = 13 ∨ i = 14 ∨ i = 15 ∨ i = 16 ∨ i = 17 ∨ i = 18 ∨ i = 19 ∨ i = 20 ∨ i = 21 ∨ i = 22 ∨ i = 23 ∨ i = 24 ∨ i = 25 ∨ i = 26 ∨ i = 27 ∨ i = 28 ∨ i = 29 ∨ i = 30 ∨ i = 31:=by omega
 have hj4 : j = 0 ∨ j = 1 ∨ j = 2 ∨ j = 3:=by omega
 unfold lim
 rcases this with rfl | rfl | rfl | rfl | rfl | rfl | rfl | rfl | rfl | rfl | rfl | rfl | rfl | rfl | rfl | rfl | rfl | rfl | rfl | rfl | rfl | rfl | rfl | rfl | rfl | rfl | rfl | rfl | rfl | rfl | rfl | rfl <;> rcases hj4 with rfl | rfl | rfl | rfl <;> ((first | rw [if_pos (by decide)] | rw [if_neg (by decide)]); simp only [Nat.reduceSub,Nat.reducePow,Nat.reduceMod,Nat.reduceMul]; omega)
end Go.Proofs.YtjpfhhndjpdmoaaGreatDoor

namespace Go.Proofs.YtjpfhhndjpdmoaaGreatDoor
open Go.RowKit
set_option linter.unusedVariables false
set_option linter.unusedSimpArgs false

def byP (n i:Nat) : List UInt8:=(List.range 32).map fun j=>if j < i then UInt8.ofNat (n / 256 ^ (31 - j)) else 0
theorem byP_len (n i:Nat) : (byP n i).length = 32:=by simp [byP]
theorem byP_all (n:Nat) : byP n 32 = be32 n:=by
 unfold byP be32
 apply List.map_congr_left
 intro j hj
 rw [if_pos (List.mem_range.1 hj)]
theorem byP_set (n i:Nat) (hi:i < 32) : (byP n i).set i (UInt8.ofNat (n / 256 ^ (31 - i))) = byP n (i + 1):=by
 apply List.ext_getElem (by simp [byP])
 intro j h1 h2
 have hj : j < 32:=by simpa [byP] using h2
 simp only [byP,List.getElem_set,List.getElem_map,List.getElem_range]
 by_cases h : i = j
 ·subst h; simp
 ·rw [if_neg h]
  by_cases hl : j < i
  ·rw [if_pos hl,if_pos (by omega)]
  ·rw [if_neg hl,if_neg (by omega)]
def zer32 : List UInt8:=List.replicate 32 0
theorem zer32_len : zer32.length = 32:=rfl
theorem byP_zero (n:Nat) : byP n 0 = zer32:=rfl
theorem zer32_eq : AB zer32 = #[.int .u8 0,.int .u8 0,.int .u8 0,.int .u8 0,.int .u8 0,.int .u8 0,.int .u8 0,.int .u8 0,.int .u8 0,.int .u8 0,.int .u8 0,.int .u8 0,.int .u8 0,.int .u8 0,.int .u8 0,.int .u8 0,.int .u8 0,.int .u8 0,.int .u8 0,.int .u8 0,.int .u8 0,.int .u8 0,.int .u8 0,.int .u8 0,.int .u8 0,.int .u8 0,.int .u8 0,.int .u8 0,.int .u8 0,.int .u8 0,.int .u8 0,.int .u8 0]:=by kernel_rfl
theorem by_law (n i:Nat) (hi:i < 32) : lim n (3 - i / 8) / 2 ^ (56 - 8 * (i % 8)) % 256 = n / 256 ^ (31 - i) % 256:=by
 unfold lim
 have e1 : (18446744073709551616 : Nat) ^ (3 - i / 8) * 2 ^ (56 - 8 * (i % 8)) = 256 ^ (31 - i):=by
  rw [show (18446744073709551616 : Nat) = 2 ^ 64 from rfl,show (256 : Nat) = 2 ^ 8 from rfl,← Nat.pow_mul,← Nat.pow_mul,← Nat.pow_add]
  congr 1
  omega
 rw [← e1,← Nat.div_div_eq_div_mul]
 generalize n / 18446744073709551616 ^ (3 - i / 8) = x
 have : 56 - 8 * (i % 8) = 0 ∨ 56 - 8 * (i % 8) = 8 ∨ 56 - 8 * (i % 8) = 16 ∨ 56 - 8 * (i % 8) = 24 ∨ 56 - 8 * (i % 8) = 32 ∨ 56 - 8 * (i % 8) = 40 ∨ 56 - 8 * (i % 8) = 48 ∨ 56 - 8 * (i % 8) = 56:=by omega
 rcases this with h | h | h | h | h | h | h | h <;> rw [h] <;> simp only [Nat.reducePow] <;> omega
theorem by_run (z s:Nat) (x:UInt8) (h:z / 2 ^ s % 256 = x.toNat) : IntKind.u8.wrap ((z:Int) / 2 ^ s) = (x.toNat : Int):=by
 have e : ((z:Int) / 2 ^ s) = ((z / 2 ^ s : Nat) : Int):=by simp
 rw [e,IntKind.wrap_u8,← h]
 generalize z / 2 ^ s = q
 omega
set_option maxRecDepth 100000 in
set_option maxHeartbeats 4000000 in
theorem bytes_any (w:World) (n:Nat) : Calls Tryz.prog 97 #[.agg (AQ (nL n))] w fun e w'=>e = .returned (.agg (AB (be32 n))) ∧ Below w.heap.size w w':=by
 go_enter Tryz.func97,Tryz.ntmps97
 go_upto_region 2 with (fail)
 refine at_world (fun W=>Row W w.heap.size 177 (AQ (nL n)) ∧ Row W (w.heap.size + 1) 24 (AB zer32) ∧ Row W (w.heap.size + 1 + 1) 24 (AB zer32) ∧ Below w.heap.size w W) ⟨((Row.newAt _ _ _ _ rfl).alloc _).alloc _,(by rw [zer32_eq]; exact (Row.newAt _ _ _ _ (by simp)).alloc _),(by rw [zer32_eq]; exact Row.newAt _ _ _ _ (by simp)),(((Below.refl _ w).alloc (Nat.le_refl _) _).alloc (by simp) _).alloc (by simp; omega) _⟩ ?_
 rintro W1 ⟨i1,i2,i3,hB⟩
 go_wp2_with fail
 go_loopg [5] 32 (fun gk t5 wr=>∃ i : Nat,gk + i = 32 ∧ t5 = .int .i64 (i:Int) ∧ Row wr w.heap.size 177 (AQ (nL n)) ∧ Row wr (w.heap.size + 1) 24 (AB zer32) ∧ Row wr (w.heap.size + 1 + 1) 24 (AB (byP n i)) ∧ Below w.heap.size w wr)
 case atStart=>exact ⟨0,rfl,rfl,i1,i2,by rw [byP_zero]; exact i3,hB⟩
 case round =>
  clear i1 i2 i3 hB
  obtain ⟨i,hi,rfl,r1,r2,r3,hb⟩:=hrel
  by_cases h32 : i < 32
  ·have q0 : (0 : Int) ≤ (i:Int):=by omega
   have q1 : (i:Int) < 32:=by omega
   have q1' : i < 32:=by omega
   obtain ⟨q,hq⟩ : ∃ k,k = i / 8:=⟨_,rfl⟩
   obtain ⟨r,hr⟩ : ∃ k,k = i % 8:=⟨_,rfl⟩
   obtain ⟨k,hk⟩ : ∃ k,k = 3 - q:=⟨_,rfl⟩
   obtain ⟨s,hs⟩ : ∃ k,k = 56 - 8 * r:=⟨_,rfl⟩
   have q2 : (i:Int) / 8 = (q:Int):=by omega
   have q3 : (i:Int) % 8 = (r:Int):=by omega
   have q4 : (3 : Int) - (q:Int) = (k:Int):=by omega
   have q5 : (56 : Int) - 8 * (r:Int) = (s:Int):=by omega
   have k4 : k < 4:=by omega
   have k5 : (k:Int) < 4:=by omega
   have s4 : (s:Int) < 64:=by omega
   have k6 : (0 : Int) ≤ (q:Int):=by omega
   have k7 : (q:Int) ≤ 3:=by omega
   have k8 : (0 : Int) ≤ (r:Int):=by omega
   have k9 : (r:Int) ≤ 7:=by omega
   obtain ⟨z,hz⟩ : ∃ z,z = lim n k:=⟨_,rfl⟩
   have cA : wr.cell? ⟨w.heap.size,k,none⟩ = some (Q z):=by rw [r1.cell,AQ_get _ _ k4,nL_get _ _ k4,hz]
   obtain ⟨x,hx⟩ : ∃ x,x = UInt8.ofNat (n / 256 ^ (31 - i)):=⟨_,rfl⟩
   have fx:=by_run z s x (by
    rw [hz,hs,hk,hr,hq,by_law n i h32,hx]
    simp)
   obtain ⟨L,hL⟩ : ∃ L,L = byP n i:=⟨_,rfl⟩
   have HN:=Lib.hid (show L.set i x = byP n (i + 1) by rw [hL,hx]; exact byP_set n i h32)
   have hLl : (AB L).size = 32:=by rw [AB_size,hL]; exact byP_len n i
   rw [← hL] at r3
   have lt3:=r3.lt
   have HI:=Lib.hid hi
   clear hq hr hk hs hz hx hL hi h32
   go_wp2_with fail
   go_roundg (gk - 1)
   case measure=>have:=HI.out; omega
   case rel=>exact ⟨i + 1,by have:=HI.out; omega,by go_num,r1.setOther _ _ (by simp; omega),r2.setOther _ _ (by simp),by rw [← HN.out]; exact r3.setByte i x,hb.setCell (by simp; omega) _⟩
  ·obtain rfl : i = 32:=by omega
   rw [byP_all] at r3
   have q1 : ¬ ((32 : Nat) : Int) < 32:=by omega
   have l2:=r2.lt
   have l3:=r3.lt
   obtain ⟨L,hL⟩ : ∃ L,L = be32 n:=⟨_,rfl⟩
   have hLl : L.length = 32:=by rw [hL]; exact be32_len n
   rw [← hL] at r3
   have HQ:=Lib.hid hL
   have z1 : (AB L).size = 32:=by rw [AB_size]; exact hLl
   have z2:=sub_all (AB L) 32 z1
   have z3 : over (AB zer32) 0 (AB L) = AB L:=over_all _ _ (by rw [z1]; rfl)
   have z4 : (AB zer32).size = 32:=rfl
   clear hL hLl
   go_wp2_with fail
   exact ret_row (by first | exact .inl rfl | exact .inr rfl) rfl (w.heap.size + 1) 24 (AB L) 32 _ rfl (r2.setRow _) Tryz.underlying24 rfl (by kernel_rfl) z1 ⟨by rw [HQ.out],bSetRow hb (by omega) _⟩
end Go.Proofs.YtjpfhhndjpdmoaaGreatDoor

namespace Go.Proofs.YtjpfhhndjpdmoaaGreatDoor
open Go.RowKit
set_option linter.unusedVariables false
set_option linter.unusedSimpArgs false

theorem nOfS_succ (l:List UInt8) (i:Nat) (hi:i < 32) (hl:l.length = 32) : nOfS l (i + 1) = (natB (l.take i) * 256 + (gb l i).toNat) * 256 ^ (31 - i):=by
 have e : l.take (i + 1) = l.take i ++ [gb l i]:=by
  rw [List.take_succ_eq_append_getElem (by omega)]
  simp [gb,show i < l.length by omega]
 unfold nOfS
 rw [e,natB_snoc,show 32 - (i + 1) = 31 - i by omega]
theorem of_or (l:List UInt8) (i:Nat) (hi:i < 32) : lim (nOfS l i) (3 - i / 8) ||| (gb l i).toNat * 2 ^ (56 - 8 * (i % 8)) = lim (nOfS l i) (3 - i / 8) + (gb l i).toNat * 2 ^ (56 - 8 * (i % 8)):=by
 obtain ⟨s,hs⟩ : ∃ s,s = 56 - 8 * (i % 8):=⟨_,rfl⟩
 obtain ⟨k,hk⟩ : ∃ k,k = 3 - i / 8:=⟨_,rfl⟩
 rw [← hs,← hk]
 have e1 : (256 : Nat) ^ (32 - i) = 2 ^ (s + 8) * 18446744073709551616 ^ k:=by
  rw [show (18446744073709551616 : Nat) = 2 ^ 64 from rfl,show (256 : Nat) = 2 ^ 8 from rfl,← Nat.pow_mul,← Nat.pow_mul,← Nat.pow_add]
  congr 1
  omega
 have e2 : lim (nOfS l i) k = 2 ^ (s + 8) * (natB (l.take i) % 2 ^ (56 - s)):=by
  unfold lim nOfS
  rw [e1,← Nat.mul_assoc,Nat.mul_div_cancel _ (Nat.pow_pos (by decide)),show (18446744073709551616 : Nat) = 2 ^ (s + 8) * 2 ^ (56 - s) by rw [← Nat.pow_add,show s + 8 + (56 - s) = 64 by omega],Nat.mul_comm (natB _),Nat.mul_mod_mul_left]
 have hx:=(gb l i).toNat_lt
 have hb : (gb l i).toNat * 2 ^ s < 2 ^ (s + 8):=by
  rw [Nat.pow_add,Nat.mul_comm]
  exact Nat.mul_lt_mul_of_pos_left hx (Nat.pow_pos (by decide))
 rw [e2,Nat.two_pow_add_eq_or_of_lt hb]
theorem of_set (l:List UInt8) (i:Nat) (hi:i < 32) (hl:l.length = 32) : (nL (nOfS l i)).set (3 - i / 8) (lim (nOfS l i) (3 - i / 8) ||| (gb l i).toNat * 2 ^ (56 - 8 * (i % 8))) = nL (nOfS l (i + 1)):=by
 rw [of_or l i hi,nOfS_succ l i hi hl]
 have h:=fun j hj=>of_all (natB (l.take i)) (gb l i).toNat (gb l i).toNat_lt i j hi hj
 have h0:=h 0 (by decide)
 have h1:=h 1 (by decide)
 have h2:=h 2 (by decide)
 have h3:=h 3 (by decide)
 change lim _ 0 = if 0 = 3 - i / 8 then lim (nOfS l i) 0 + _ else lim (nOfS l i) 0 at h0
 change lim _ 1 = if 1 = 3 - i / 8 then lim (nOfS l i) 1 + _ else lim (nOfS l i) 1 at h1
 change lim _ 2 = if 2 = 3 - i / 8 then lim (nOfS l i) 2 + _ else lim (nOfS l i) 2 at h2
 change lim _ 3 = if 3 = 3 - i / 8 then lim (nOfS l i) 3 + _ else lim (nOfS l i) 3 at h3
 unfold nL
 rw [h0,h1,h2,h3]
 have : 3 - i / 8 = 0 ∨ 3 - i / 8 = 1 ∨ 3 - i / 8 = 2 ∨ 3 - i / 8 = 3:=by omega
 rcases this with e | e | e | e <;> rw [e] <;> rfl
theorem of_run (z x s y:Nat) (hz:z < 18446744073709551616) (hx:x < 256) (hs:s ≤ 56) (h:z ||| x * 2 ^ s = y) : bits .or .u64 (z:Int) (IntKind.u64.wrap ((x:Int) * 2 ^ s)) = (y:Int):=by
 have hb : x * 2 ^ s < 18446744073709551616:=by
  refine Nat.lt_of_lt_of_le (Nat.mul_lt_mul_of_pos_right hx (Nat.pow_pos (by decide))) ?_
  rw [show (256 : Nat) = 2 ^ 8 from rfl,← Nat.pow_add]
  exact Nat.pow_le_pow_right (by decide) (show 8 + s ≤ 64 by omega)
 have e : IntKind.u64.wrap ((x:Int) * 2 ^ s) = ((x * 2 ^ s : Nat) : Int):=by
  rw [show ((x:Int) * 2 ^ s) = ((x * 2 ^ s : Nat) : Int) by simp,IntKind.wrap_u64]
  generalize x * 2 ^ s = q at hb ⊢
  omega
 rw [e,bits_or_u64_nat _ _ hz hb,h]
set_option maxRecDepth 100000 in
set_option maxHeartbeats 4000000 in
theorem of_any (w:World) (l:List UInt8) (hl:l.length = 32) : Calls Tryz.prog 93 #[.agg (AB l)] w fun e w'=>e = .returned (.agg (AQ (nL (natB l)))) ∧ Below w.heap.size w w':=by
 have z1 : (AB l).size = 32:=by rw [AB_size]; exact hl
 have z2:=sub_all (AB l) 32 z1
 have HL:=Lib.hid hl
 clear hl
 go_enter Tryz.func93,Tryz.ntmps93
 go_upto_region 2 with (fail)
 refine at_world (fun W=>Row W w.heap.size 24 (AB l) ∧ Row W (w.heap.size + 1) 177 (AQ (nL 0)) ∧ Row W (w.heap.size + 1 + 1) 177 (AQ (nL 0)) ∧ Below w.heap.size w W) ⟨((Row.newAt _ _ _ _ rfl).alloc _).alloc _,(rowZ _ _ _ (by simp)).alloc _,rowZ _ _ _ (by simp),(((Below.refl _ w).alloc (Nat.le_refl _) _).alloc (by simp) _).alloc (by simp; omega) _⟩ ?_
 rintro W1 ⟨i1,i2,i3,hB⟩
 go_wp2_with fail
 go_loopg [7] 32 (fun gk t7 wr=>∃ i : Nat,gk + i = 32 ∧ t7 = .int .i64 (i:Int) ∧ Row wr (w.heap.size + 1) 177 (AQ (nL 0)) ∧ Row wr (w.heap.size + 1 + 1) 177 (AQ (nL (nOfS l i))) ∧ Below w.heap.size w wr)
 case atStart=>exact ⟨0,rfl,rfl,i2,by rw [nOfS_zero]; exact i3,hB⟩
 case round =>
  clear i1 i2 i3 hB
  obtain ⟨i,hi,rfl,r2,r3,hb⟩:=hrel
  by_cases h32 : i < 32
  ·have q0 : (0 : Int) ≤ (i:Int):=by omega
   have q1 : (i:Int) < 32:=by omega
   have q1' : i < 32:=by omega
   obtain ⟨q,hq⟩ : ∃ k,k = i / 8:=⟨_,rfl⟩
   obtain ⟨r,hr⟩ : ∃ k,k = i % 8:=⟨_,rfl⟩
   obtain ⟨k,hk⟩ : ∃ k,k = 3 - q:=⟨_,rfl⟩
   obtain ⟨s,hs⟩ : ∃ k,k = 56 - 8 * r:=⟨_,rfl⟩
   obtain ⟨m8,hm8⟩ : ∃ k,k = 8 * r:=⟨_,rfl⟩
   have g1 : (i:Int).tdiv 8 = (q:Int):=by rw [hq]; rfl
   have g1' : IntKind.i64.wrap ((i:Int).tdiv 8) = (q:Int):=by rw [g1]; exact IntWalk.i64_in _ (by omega)
   have g1q : IntKind.i64.wrap (q:Int) = (q:Int):=IntWalk.i64_in _ (by omega)
   have g2 : IntKind.i64.wrap ((3 : Int) - (q:Int)) = (k:Int):=by rw [show (3 : Int) - (q:Int) = (k:Int) by omega]; exact IntWalk.i64_in _ (by omega)
   have g3 : (i:Int).tmod 8 = (r:Int):=by rw [hr]; rfl
   have g3' : IntKind.i64.wrap ((i:Int).tmod 8) = (r:Int):=by rw [g3]; exact IntWalk.i64_in _ (by omega)
   have g3q : IntKind.i64.wrap (r:Int) = (r:Int):=IntWalk.i64_in _ (by omega)
   have g4 : IntKind.i64.wrap (8 * (r:Int)) = (m8:Int):=by rw [show 8 * (r:Int) = (m8:Int) by omega]; exact IntWalk.i64_in _ (by omega)
   have g5 : IntKind.i64.wrap ((56 : Int) - (m8:Int)) = (s:Int):=by rw [show (56 : Int) - (m8:Int) = (s:Int) by omega]; exact IntWalk.i64_in _ (by omega)
   have k4 : k < 4:=by omega
   have k5 : (k:Int) < 4:=by omega
   have k5' : (0 : Int) ≤ (k:Int):=by omega
   have s4 : (s:Int) < 64:=by omega
   have s5 : (0 : Int) ≤ (s:Int):=by omega
   have s6 : ¬ (s:Int) < 0:=by omega
   obtain ⟨S,hS⟩ : ∃ S,S = nOfS l i:=⟨_,rfl⟩
   obtain ⟨z,hz⟩ : ∃ z,z = lim S k:=⟨_,rfl⟩
   rw [← hS] at r3
   have cA : wr.drew.cell? ⟨w.heap.size + 1 + 1,k,none⟩ = some (Q z):=by rw [r3.drew.cell,AQ_get _ _ k4,nL_get _ _ k4,hz]
   have fA : wr.drew.frozen? ⟨w.heap.size + 1 + 1,k,none⟩ = false:=r3.drew.frozen k
   have hx1:=(gb l i).toNat_lt
   have gx : IntKind.u64.wrap ((gb l i).toNat : Int) = ((gb l i).toNat : Int):=by rw [IntKind.wrap_u64]; omega
   obtain ⟨y,hy⟩ : ∃ y,y = z ||| (gb l i).toNat * 2 ^ s:=⟨_,rfl⟩
   have fx:=of_run z (gb l i).toNat s y (by rw [hz]; exact lim_lt _ _) hx1 (by omega) hy.symm
   have HN:=Lib.hid (show (nL S).set k y = nL (nOfS l (i + 1)) by rw [hy,hz,hS,hk,hs,hq,hr]; exact of_set l i h32 HL.out)
   have r3d:=r3.drew
   have hb':=hb.drew
   have r2d:=r2.drew
   have lt3:=r3.lt
   have HI:=Lib.hid hi
   clear hq hr hk hs hz hS hy hi h32 hm8 hx1
   go_upto_region 5 with (fail)
   refine wp_region_qtail (fun w'=>w' = _) 14 (by kernel_rfl) (by kernel_rfl) rfl ?_
   simp only [List.take_succ_cons,List.take_zero,List.drop_succ_cons,List.drop_zero]
   repeat (first | go_big_quiet_skip | (go_big_quiet_want; go_big_quiet_op; go_big_quiet_on))
   refine wpQuiet_nil ?_
   rintro _ rfl
   have q4 : (AQ (nL S)).size = 4:=rfl
   go_wp2_with fail
   go_roundg (gk - 1)
   case measure=>have:=HI.out; omega
   case rel=>exact ⟨i + 1,by have:=HI.out; omega,by go_num,r2d.setOther _ _ (by simp),by rw [← HN.out]; exact r3d.setQ k y,hb'.setCell (by simp; omega) _⟩
  ·obtain rfl : i = 32:=by omega
   rw [nOfS_all HL.out] at r3
   have q1 : ¬ ((32 : Nat) : Int) < 32:=by omega
   have l2:=r2.lt
   have l3:=r3.lt
   go_wp2_with fail
   exact ret_row (by first | exact .inl rfl | exact .inr rfl) rfl (w.heap.size + 1) 177 (AQ (nL (natB l))) 4 _ rfl (r2.setRow _) Tryz.underlying177 rfl (by kernel_rfl) rfl ⟨rfl,bSetRow hb (by omega) _⟩
end Go.Proofs.YtjpfhhndjpdmoaaGreatDoor

namespace Go.Proofs.YtjpfhhndjpdmoaaGreatDoor
open Go.RowKit
set_option linter.unusedVariables false
set_option linter.unusedSimpArgs false

theorem sum_top {a b:Nat} (ha:a < R256) (hb:b < R256) : (a + b) / R256 ≤ 1:=by
 have : (a + b) / R256 < 2:=Nat.div_lt_of_lt_mul (by omega)
 omega
theorem add_t {w:World} {a b s c:Nat} (ha:a < R256) (hb:b < R256) (hs:s = (a + b) % R256) (hc:c = (a + b) / R256) : Calls Tryz.prog 151 #[.agg (AQ (nL a)),.agg (AQ (nL b))] w fun e w'=>e = .returned (.tuple #[.agg (AQ (nL s)),Q c]) ∧ Below w.heap.size w w':=by
 subst hs hc
 rw [nL_mod,← cyS_four a b ha hb]
 exact nadd_any w a b
theorem sub_t {w:World} {a b x:Nat} (ha:a < R256) (hb:b < R256) (hle:b ≤ a) (hx:x = a - b) : Calls Tryz.prog 149 #[.agg (AQ (nL a)),.agg (AQ (nL b))] w fun e w'=>e = .returned (.tuple #[.agg (AQ (nL x)),.int .u64 0]) ∧ Below w.heap.size w w':=by
 have h:=nsub_any w a b hb
 have e : nL (a + R256 - b) = nL x:=by rw [show a + R256 - b = (a - b) + R256 by omega,← nL_mod ((a - b) + R256),Nat.add_mod_right,nL_mod,hx]
 rw [boS_four a b ha hb,if_neg (by omega),e] at h
 exact h
theorem hlf_lt {a t:Nat} (ha:a < R256) (ht:t ≤ 1) : hlf a t < R256:=by
 unfold hlf
 have : t * R256 ≤ 1 * R256:=Nat.mul_le_mul_right _ ht
 omega
theorem half_x {w:World} {a t x:Nat} (ha:a < R256) (ht:t ≤ 1) (hx:x = hlf a t) : Calls Tryz.prog 147 #[.agg (AQ (nL a)),Q t] w fun e w'=>e = .returned (.agg (AQ (nL x))) ∧ Below w.heap.size w w':=by
 subst hx; exact half_any w a t ha ht
theorem half_0 {w:World} {a x:Nat} (ha:a < R256) (hx:x = hlf a 0) : Calls Tryz.prog 147 #[.agg (AQ (nL a)),.int .u64 0] w fun e w'=>e = .returned (.agg (AQ (nL x))) ∧ Below w.heap.size w w':=by
 subst hx; exact half_any w a 0 ha (by decide)
theorem halveM_lt {m a:Nat} (ha:a < R256) (hm:m < R256) : halveM m a < R256:=by unfold halveM; split <;> omega
theorem hlf_even (a:Nat) : hlf a 0 = a / 2:=by unfold hlf; rw [Nat.zero_mul,Nat.add_zero]
theorem hlf_sum (a:Nat) : hlf (a % R256) (a / R256) = a / 2:=by unfold hlf; rw [Nat.mul_comm,Nat.mod_add_div]
theorem lim0_even (a:Nat) : lim a 0 % 2 = a % 2:=by unfold lim; omega

set_option maxRecDepth 100000 in
set_option maxHeartbeats 4000000 in
theorem halve_even {w:World} {g m neg ri a:Nat} (hM:ModW w g m neg ri) (ha:a < R256) (hp:a % 2 = 0) : Calls Tryz.prog 148 #[.pointer (some ⟨g,0,none⟩),.agg (AQ (nL a))] w fun e w'=>e = .returned (.agg (AQ (nL (halveM m a)))) ∧ Below w.heap.size w w':=by
 have HM:=Lib.hid (show ∀ W,Below w.heap.size w W → ModW W g m neg ri from fun W hb=>hM.below hb)
 have HP:=Lib.hid hM.md.pos
 have HL:=Lib.hid hM.md.low
 clear hM
 have b_a:=ha
 obtain ⟨x0,hx0⟩ : ∃ x,x = lim a 0:=⟨_,rfl⟩
 have f1 : bits .and .u64 (x0:Int) 1 = 0:=by have:=ba_one x0 (by rw [hx0]; exact lim_lt _ _); rw [this,hx0,lim0_even,hp]; rfl
 have HA0:=Lib.hid hx0
 clear hx0
 have HPA:=Lib.hid hp
 clear hp ha
 go_enter Tryz.func148,Tryz.ntmps148
 go_upto_region 1 with (fail)
 refine at_world (fun W=>Row W w.heap.size 177 (AQ (nL a)) ∧ Row W (w.heap.size + 1) 177 (AQ (nL 0)) ∧ Below w.heap.size w W) (⟨((Row.newAt _ _ _ _ rfl).alloc _),(by rw [nAQ_zero]; exact (Row.newAt _ _ _ _ (by simp))),(((Below.refl _ w).alloc (Nat.le_refl _) _).alloc (by simp) _)⟩) ?_
 rintro W1 ⟨i1_3,i1_4,hB1⟩
 have c0 : W1.cell? ⟨w.heap.size,0,none⟩ = some (Q x0):=by rw [i1_3.cell,HA0.out]; rfl
 go_upto_region 2 with (fail)
 refine at_world (fun W=>Row W w.heap.size 177 (AQ (nL a)) ∧ Row W (w.heap.size + 1) 177 (AQ (nL 0)) ∧ Below w.heap.size w W) (⟨i1_3,i1_4,hB1⟩) ?_
 clear i1_3 i1_4 c0 hB1
 rintro W2 ⟨i2_3,i2_4,hB2⟩
 obtain ⟨x12,h12⟩ : ∃ x,x = hlf a 0:=⟨_,rfl⟩
 have b_x12 : x12 < R256:=by rw [h12]; exact hlf_lt b_a (by decide)
 have H12:=Lib.hid h12
 clear h12
 refine wp_region_num 2 [0,1] [] (fun _=>.cells #[] 0) (by kernel_rfl) (by kernel_rfl) (by kernel_rfl) (by kernel_rfl) ?hal ?h
 case hal =>
  intro k hk o ho
  cases hk
 case h =>
 apply Exists.intro
 refine ⟨fun R=>?_,?_⟩
 ·simp only [List.map_cons,List.map_nil,List.getD_cons_zero,List.getD_cons_succ]
  (go_big_quiet_want; apply qn_load at_num rfl rfl i2_3 (hp_num a); (simp only [Act.put,lS]; go_big_quiet_on))
  (go_big_quiet_want; refine qa_call _ _ ?_ _ (fun w' hb=>half_0 b_a H12.out) ?_; (focus (intro w; simp [go_sem]; done)); (simp only [Act.put,lS]; go_big_quiet_on))
  exact wpQuiet_nil rfl
 ·intro w2 hcc
  replace i2_3:=i2_3.below hcc.1 i2_3.lt
  replace i2_4:=i2_4.below hcc.1 i2_4.lt
  have hg_le : w.heap.size ≤ w2.heap.size:=Nat.le_trans hB2.size hcc.1.size
  replace hB2:=hB2.trans (hcc.1.mono hB2.size)
  clear hcc hg_le
  have lt_4:=i2_4.lt
  go_wp2_with fail
  exact ret_row (by first | exact .inl rfl | exact .inr rfl) rfl ((w.heap.size + 1)) 177 (AQ (nL x12)) 4 _ rfl (i2_4.setRow _) Tryz.underlying177 rfl (by kernel_rfl) rfl ⟨by rw [H12.out,hlf_even]; unfold halveM; rw [if_pos HPA.out],(bSetRow hB2 (by omega) _)⟩
set_option maxRecDepth 100000 in
set_option maxHeartbeats 4000000 in
theorem halve_odd {w:World} {g m neg ri a:Nat} (hM:ModW w g m neg ri) (ha:a < R256) (hp:a % 2 = 1) : Calls Tryz.prog 148 #[.pointer (some ⟨g,0,none⟩),.agg (AQ (nL a))] w fun e w'=>e = .returned (.agg (AQ (nL (halveM m a)))) ∧ Below w.heap.size w w':=by
 have HM:=Lib.hid (show ∀ W,Below w.heap.size w W → ModW W g m neg ri from fun W hb=>hM.below hb)
 have HP:=Lib.hid hM.md.pos
 have HL:=Lib.hid hM.md.low
 clear hM
 have b_a:=ha
 obtain ⟨x0,hx0⟩ : ∃ x,x = lim a 0:=⟨_,rfl⟩
 have f1 : bits .and .u64 (x0:Int) 1 = 1:=by have:=ba_one x0 (by rw [hx0]; exact lim_lt _ _); rw [this,hx0,lim0_even,hp]; rfl
 have HA0:=Lib.hid hx0
 clear hx0
 have HPA:=Lib.hid hp
 clear hp ha
 go_enter Tryz.func148,Tryz.ntmps148
 go_upto_region 1 with (fail)
 refine at_world (fun W=>Row W w.heap.size 177 (AQ (nL a)) ∧ Row W (w.heap.size + 1) 177 (AQ (nL 0)) ∧ Below w.heap.size w W) (⟨((Row.newAt _ _ _ _ rfl).alloc _),(by rw [nAQ_zero]; exact (Row.newAt _ _ _ _ (by simp))),(((Below.refl _ w).alloc (Nat.le_refl _) _).alloc (by simp) _)⟩) ?_
 rintro W1 ⟨i1_3,i1_4,hB1⟩
 have c0 : W1.cell? ⟨w.heap.size,0,none⟩ = some (Q x0):=by rw [i1_3.cell,HA0.out]; rfl
 go_upto_region 3 with (fail)
 refine at_world (fun W=>Row W w.heap.size 177 (AQ (nL a)) ∧ Row W (w.heap.size + 1) 177 (AQ (nL 0)) ∧ Below w.heap.size w W) (⟨i1_3,i1_4,hB1⟩) ?_
 clear i1_3 i1_4 c0 hB1
 rintro W2 ⟨i2_3,i2_4,hB2⟩
 obtain ⟨x19,h19⟩ : ∃ x,x = (a + m) % R256:=⟨_,rfl⟩
 obtain ⟨c19,k19⟩ : ∃ x,x = (a + m) / R256:=⟨_,rfl⟩
 have b_x19 : x19 < R256:=by rw [h19]; exact Nat.mod_lt _ (by decide)
 have d_c19 : c19 ≤ 1:=by rw [k19]; exact sum_top b_a HL.out
 have H19:=Lib.hid h19
 have K19:=Lib.hid k19
 clear h19 k19
 have hmm : Row W2.drew g 260 (modC m neg):=(HM.out _ hB2.drew).row
 have hm4:=modC_m m neg
 have hms:=modC_size m neg
 have hml : g < W2.heap.size:=hmm.lt
 have hmu : Row W2 g 260 (modC m neg):=(HM.out _ hB2).row
 have d3:=i2_3.drew
 have lt3 : w.heap.size < W2.heap.size:=i2_3.lt
 have d4:=i2_4.drew
 have lt4 : (w.heap.size + 1) < W2.heap.size:=i2_4.lt
 go_cut [5,6] (fun t5 t6 wx=>∃ g5,t5 = .pointer (some ⟨g5,0,none⟩) ∧ t6 = Q c19 ∧ w.heap.size ≤ g5 ∧ (w.heap.size + 1) ≠ g5 ∧ Row wx g5 177 (AQ (nL x19)) ∧ Row wx (w.heap.size + 1) 177 (AQ (nL 0)) ∧ Below w.heap.size w wx)
 case first =>
  go_region_law (first
   | (refine wp_callQ 151 #[.agg (AQ (nL a)),.agg (AQ (nL m))] ?_ ?_
      (focus (simp [go_sem]; done))
      refine (add_t b_a HL.out H19.out K19.out).mono ?_
      rintro _ w2 ⟨rfl,hB⟩
      refine ⟨_,rfl,?_⟩
      have r4:=(show Row w2 (w.heap.size + 1) 177 (AQ (nL 0)) from by first | exact d4.below hB d4.lt | exact (d4.alloc _).below hB (d4.alloc _).lt)
      have hN2:=Lib.hid (show Below w.heap.size w w2 from by first | exact hB2.drew.trans (hB.mono hB2.size) | exact (hB2.drew.alloc hB2.size _).trans (hB.mono (by have:=hB2.size; simp; omega)))
      have hl2 : W2.heap.size ≤ w2.heap.size:=by have:=hB.size; simp at this; omega
      (first
       | (have hz2:=(show Row w2 W2.heap.size 177 #[.int .u64 0,.int .u64 0,.int .u64 0,.int .u64 0] from by first | exact (Row.new W2.drew 177 #[.int .u64 0,.int .u64 0,.int .u64 0,.int .u64 0]).below hB (Row.new W2.drew 177 #[.int .u64 0,.int .u64 0,.int .u64 0,.int .u64 0]).lt)
          have hzl2:=hz2.lt)
       | skip)
      clear hB)
   | fail)
  all_goals
   go_wp2_with fail
   go_meet
   case rel =>
    first
     | exact ⟨w2.heap.size,rfl,rfl,hN2.out.size,(by have:=r4.lt; omega),(Row.new _ _ _).setRow _,(r4.alloc _).setRowOther _ _ (by have:=r4.lt; omega),bSetRow (hN2.out.alloc hN2.out.size _) hN2.out.size _⟩
     | exact ⟨W2.heap.size,rfl,rfl,hB2.size,(by omega),hz2.setRow _,r4.setRowOther _ _ (by omega),bSetRow hN2.out hB2.size _⟩
 case rest =>
  obtain ⟨g5,rfl,rfl,lb_g5,ne_4_g5,j_5,i3_4,hB3⟩:=hcut
  clear i2_3 i2_4 hB2 d3 d4 lt3 lt4
  clear hmm hm4 hms hml hmu
  go_upto_region 4 with (fail)
  refine at_world (fun W=>Row W (w.heap.size + 1) 177 (AQ (nL 0)) ∧ Row W g5 177 (AQ (nL x19)) ∧ Below w.heap.size w W) (⟨i3_4,j_5,hB3⟩) ?_
  clear i3_4 j_5 hB3
  rintro W4 ⟨i4_4,i4_5,hB4⟩
  obtain ⟨x24,h24⟩ : ∃ x,x = hlf x19 c19:=⟨_,rfl⟩
  have b_x24 : x24 < R256:=by rw [h24]; exact hlf_lt b_x19 d_c19
  have H24:=Lib.hid h24
  clear h24
  refine wp_region_num 3 [0,1,2] [] (fun _=>.cells #[] 0) (by kernel_rfl) (by kernel_rfl) (by kernel_rfl) (by kernel_rfl) ?hal ?h
  case hal =>
   intro k hk o ho
   cases hk
  case h =>
  apply Exists.intro
  refine ⟨fun R=>?_,?_⟩
  ·simp only [List.map_cons,List.map_nil,List.getD_cons_zero,List.getD_cons_succ]
   (go_big_quiet_want; apply qn_load at_num rfl rfl i4_5 (hp_num x19); (simp only [Act.put,lS]; go_big_quiet_on))
   (first | go_big_quiet_skip | (go_big_quiet_want; go_big_quiet_op; first | go_big_quiet_on | (refine ⟨_,fun _ _=>rfl,?_⟩; go_big_quiet_on)))
   (go_big_quiet_want; refine qa_call _ _ ?_ _ (fun w' hb=>half_x b_x19 d_c19 H24.out) ?_; (focus (intro w; simp [go_sem]; done)); (simp only [Act.put,lS]; go_big_quiet_on))
   exact wpQuiet_nil rfl
  ·intro w2 hcc
   replace i4_4:=i4_4.below hcc.1 i4_4.lt
   replace i4_5:=i4_5.below hcc.1 i4_5.lt
   have hg_le : w.heap.size ≤ w2.heap.size:=Nat.le_trans hB4.size hcc.1.size
   replace hB4:=hB4.trans (hcc.1.mono hB4.size)
   clear hcc hg_le
   have lt_4:=i4_4.lt
   go_wp2_with fail
   exact ret_row (by first | exact .inl rfl | exact .inr rfl) rfl ((w.heap.size + 1)) 177 (AQ (nL x24)) 4 _ rfl (i4_4.setRow _) Tryz.underlying177 rfl (by kernel_rfl) rfl ⟨by rw [H24.out,H19.out,K19.out,hlf_sum]; unfold halveM; rw [if_neg (by have:=HPA.out; omega)],(bSetRow hB4 (by omega) _)⟩
theorem halve_x {w:World} {g m neg ri a x:Nat} (hM:ModW w g m neg ri) (ha:a < R256) (hx:x = halveM m a) : Calls Tryz.prog 148 #[.pointer (some ⟨g,0,none⟩),.agg (AQ (nL a))] w fun e w'=>e = .returned (.agg (AQ (nL x))) ∧ Below w.heap.size w w':=by
 subst hx
 rcases Nat.mod_two_eq_zero_or_one a with h | h
 ·exact halve_even hM ha h
 ·exact halve_odd hM ha h
end Go.Proofs.YtjpfhhndjpdmoaaGreatDoor
