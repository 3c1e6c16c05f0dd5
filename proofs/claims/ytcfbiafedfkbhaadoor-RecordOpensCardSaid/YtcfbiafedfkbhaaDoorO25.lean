/- Part of the proof: Split, Gf. No conditions of its own. -/
import Derived.ArgAppend
import Derived.Below
import Derived.BigQuiet
import Derived.BigRegion
import Derived.ChangeOld
import Derived.Deep.CutBlock
import Derived.Deep.DeepCutAuto
import Derived.Deep.Draws
import Derived.Deep.LoopGhost
import Derived.Deep.Quiet
import Derived.Deep.QuietTactic
import Derived.Deep.RegionHeld3
import Derived.Deep.RegionLaw
import Derived.Laws.AppendOwnNone
import Derived.Laws.Bits64
import Derived.Laws.BitsAllLaws
import Derived.Laws.BytesArg
import Derived.Laws.CopyOwn
import Derived.Laws.MakeOwn
import Derived.Lib.AppendStr
import Derived.Lib.AppendZerosOnto
import Derived.Lib.Hide
import Derived.LoopIn
import Derived.LoopNIn
import Derived.Maps.AppendAt
import Derived.OpenShut
import Derived.OrdersIn
import Derived.OwnWalkIn
import Derived.ProofKit
import Derived.RangeFuncBound
import Derived.RangeFuncBox
import Derived.RangeFuncCalls
import Derived.RangeFuncLeaves
import Derived.RangeFuncNested
import Derived.Shelf.Abstract
import Derived.ShutString
import Derived.StillTail
import Derived.TacticsIn
import Derived.TacticsInMore
import Derived.Test.YtcfbiafedfkbhaaDoorProg
import Derived.WalkKit
import Derived.WalkSpells
import Derived.Test.YtcfbiafedfkbhaaDoorO23
namespace Go.Proofs.YtcfbiafedfkbhaaDoor
open Go.RowKit
set_option linter.unusedVariables false
set_option linter.unusedSimpArgs false

theorem toNat_i64W (n : Nat) (h : n < 18446744073709551616) : (BitVec.ofInt 64 (n : Int)).toNat = n := by
  rw [BitVec.toNat_ofInt]; omega
theorem or_lowW (n x : Nat) (hn : n < 16777216) (hx : x < 256) : bits .or .i64 ((n : Int) * 256) (x : Int) = ((n * 256 + x : Nat) : Int) := by
  rw [show ((n : Int) * 256) = ((n * 256 : Nat) : Int) by omega]
  show IntKind.i64.wrap ((BitVec.ofInt 64 ((n * 256 : Nat) : Int) ||| BitVec.ofInt 64 (x : Int)).toNat : Int) = _
  rw [BitVec.toNat_or, toNat_i64W _ (by omega), toNat_i64W x (by omega)]
  have e : n * 256 ||| x = n * 256 + x := by
    have := Nat.shiftLeft_add_eq_or_of_lt (a := n) (b := x) (i := 8) hx
    rw [Nat.shiftLeft_eq] at this
    exact this.symm
  rw [e]
  rw [IntKind.wrap_i64]; omega
structure OneR (l : List UInt8) (N : Nat) : Prop where
  len : l.length = 5 + N
  most : N ≤ 16640
  kind : kindB ((gb l 0).toNat : Int) = true
  v1 : gb l 1 = 3
  v2 : gb l 2 = 3
  size : (gb l 3).toNat * 256 + (gb l 4).toNat = N
set_option maxRecDepth 100000 in
set_option maxHeartbeats 4000000 in
theorem split_ok (w : World) (a : Option Addr) (c N : Nat) (l : List UInt8) (hS : SlB w (.slice a l.length c) l) (h : OneR l N) :
    Calls Tryd.prog 42 #[.slice a l.length c] w fun e w' => (∃ ar cr, e = .returned (.tuple #[.slice a l.length c, .slice ar 0 cr, .int .i64 0])) ∧ Below w.heap.size w w' := by
  have hpos : 0 < l.length := by rw [h.len]; omega
  obtain ⟨a', cap, e, h1, h2, h3, h4⟩ := id hS
  obtain ⟨rfl, _, rfl⟩ := Value.slice.inj e
  cases a with
  | none => exact absurd (h3 rfl) (by omega)
  | some ad =>
  obtain ⟨b, o, sp⟩ := ad
  obtain ⟨hsp, hcs⟩ := h4 _ rfl
  have hsp' : sp = none := hsp
  subst hsp'
  have H := Lib.hid h
  have HC := Lib.hid (show ∀ i, i < l.length → w.cell? ⟨b, o + i, none⟩ = some (B (gb l i)) from hcs)
  have HCAP := Lib.hid h1
  obtain ⟨M, hM⟩ : ∃ M, M = l.length := ⟨_, rfl⟩
  have m1 : (3 : Int) ≤ (M : Int) := by have := h.len; omega
  have m2 : (M : Int) ≤ 16645 := by have := h.len; have := h.most; omega
  have m3 : ¬ (M : Int) < 5 := by have := h.len; omega
  have m4 : (5 : Int) ≤ (M : Int) := by have := h.len; omega
  have m5 : (M : Int) ≤ (c : Int) := by omega
  rw [← hM]
  have HM := Lib.hid hM
  clear hS e h1 h2 h3 h4 h hcs hM hpos
  go_enter Tryd.func42, Tryd.ntmps42
  go_upto_region 2 with (fail)
  have HX := Lib.hid (show w.cell? ⟨b, o, none⟩ = some (B (gb l 0)) ∧ w.cell? ⟨b, o + 1, none⟩ = some (.int .u8 3) ∧ w.cell? ⟨b, o + 2, none⟩ = some (.int .u8 3) ∧ w.cell? ⟨b, o + 3, none⟩ = some (B (gb l 3)) ∧ w.cell? ⟨b, o + 4, none⟩ = some (B (gb l 4)) by
    have hl := H.out.len
    refine ⟨HC.out 0 (by omega), ?_, ?_, HC.out 3 (by omega), HC.out 4 (by omega)⟩
    · have := HC.out 1 (by omega); rw [H.out.v1] at this; exact this
    · have := HC.out 2 (by omega); rw [H.out.v2] at this; exact this)
  go_loopg [14] 3 (fun gk t14 wx => ∃ (i : Nat), gk + i = 3 ∧ t14 = .int .i64 (i : Int) ∧ w = wx)
  case atStart => exact ⟨0, by omega, rfl, rfl⟩
  case round =>
    obtain ⟨i, hi, rfl, hw⟩ := hrel
    subst hw
    have hi4 : i = 0 ∨ i = 1 ∨ i = 2 ∨ i = 3 := by omega
    rcases hi4 with rfl | rfl | rfl | rfl
    · have hc := HX.out.1
      have hk := H.out.kind
      have HK := Lib.hid hk
      clear hk
      obtain ⟨x0, hx0⟩ : ∃ x, x = gb l 0 := ⟨_, rfl⟩
      rw [← hx0] at hc HK
      have t0 := x0.toNat_lt
      clear hx0
      go_wp2_with (go_at_call 29; refine (isKind_any _ _).mono ?_; rintro e w' ⟨rfl, rfl⟩; rw [HK.out])
      go_roundg 2
      case measure => omega
      case rel => exact ⟨1, rfl, rfl, rfl⟩
    · have hc := HX.out.2.1
      go_wp2_with fail
      go_roundg 1
      case measure => omega
      case rel => exact ⟨2, rfl, rfl, rfl⟩
    · have hc := HX.out.2.2.1
      go_wp2_with fail
      go_roundg 0
      case measure => omega
      case rel => exact ⟨3, rfl, rfl, rfl⟩
    · have hc3 : w.drew.cell? ⟨b, o + 3, none⟩ = some (B (gb l 3)) := HX.out.2.2.2.1
      have hc4 : w.drew.cell? ⟨b, o + 4, none⟩ = some (B (gb l 4)) := HX.out.2.2.2.2
      have hor := or_lowW (gb l 3).toNat (gb l 4).toNat (by have := (gb l 3).toNat_lt; omega) (gb l 4).toNat_lt
      rw [H.out.size] at hor
      have HSZ := Lib.hid H.out.size
      obtain ⟨y3, hy3⟩ : ∃ x, x = gb l 3 := ⟨_, rfl⟩
      obtain ⟨y4, hy4⟩ : ∃ x, x = gb l 4 := ⟨_, rfl⟩
      rw [← hy3] at hc3 hor
      rw [← hy4] at hc4 hor
      have n1 : (N : Int) ≤ 16640 := by have := H.out.most; omega
      have n2 : ¬ (16640 : Int) < (N : Int) := by omega
      have n3 : (5 : Int) + (N : Int) = (M : Int) := by have := H.out.len; have := HM.out; omega
      have n4 : ¬ ((M : Int) - 5) < (N : Int) := by omega
      have t3 := y3.toNat_lt
      have t4 := y4.toNat_lt
      clear hy3 hy4
      go_upto_region 9 with (fail)
      refine wp_region_qtail (fun w' => w' = _) 10 (by kernel_rfl) (by kernel_rfl) rfl ?_
      simp only [List.take_succ_cons, List.take_zero, List.drop_succ_cons, List.drop_zero]
      repeat (first | go_big_quiet_skip | (go_big_quiet_want; go_big_quiet_op; go_big_quiet_on))
      refine wpQuiet_nil ?_
      rintro _ rfl
      go_upto_region 14 with (fail)
      by_cases hcM : c = M
      · subst hcM
        refine wp_region_qtail (fun w' => w' = _) 10 (by kernel_rfl) (by kernel_rfl) rfl ?_
        simp only [List.take_succ_cons, List.take_zero, List.drop_succ_cons, List.drop_zero]
        repeat (first | go_big_quiet_skip | (go_big_quiet_want; go_big_quiet_op; go_big_quiet_on))
        refine wpQuiet_nil ?_
        rintro _ rfl
        go_wp2_with fail
        refine bodyPost_ret (results_tmp3 rfl _ _ _) rfl ?_
        exact ⟨⟨_, _, rfl⟩, ((Below.refl _ w).drew).drew⟩
      · have hcM2 : ¬ (c : Int) = (M : Int) := by omega
        have hcM3 : (M : Int) < (c : Int) := by omega
        refine wp_region_qtail (fun w' => w' = _) 10 (by kernel_rfl) (by kernel_rfl) rfl ?_
        simp only [List.take_succ_cons, List.take_zero, List.drop_succ_cons, List.drop_zero]
        repeat (first | go_big_quiet_skip | (go_big_quiet_want; go_big_quiet_op; go_big_quiet_on))
        refine wpQuiet_nil ?_
        rintro _ rfl
        go_wp2_with fail
        refine bodyPost_ret (results_tmp3 rfl _ _ _) rfl ?_
        exact ⟨⟨_, _, rfl⟩, ((Below.refl _ w).drew).drew⟩
set_option maxRecDepth 100000 in
set_option maxHeartbeats 4000000 in
theorem alone_ok (w : World) (a : Option Addr) (c N : Nat) (l : List UInt8) (hS : SlB w (.slice a l.length c) l) (h : OneR l N) :
    Calls Tryd.prog 34 #[.slice a l.length c] w fun e w' => e = .returned (.int .i64 0) ∧ Below w.heap.size w w' := by
  have HS := Lib.hid hS
  have H := Lib.hid h
  clear hS h
  go_enter Tryd.func34, Tryd.ntmps34
  go_wp2_with fail
  refine (split_ok w a c N l HS.out H.out).mono ?_
  rintro e w1 ⟨⟨ar, cr, rfl⟩, hB⟩
  have HB := Lib.hid hB
  clear hB
  go_wp2_with fail
  go_ret
  exact ⟨rfl, HB.out⟩
end Go.Proofs.YtcfbiafedfkbhaaDoor

namespace Go.Proofs.YtcfbiafedfkbhaaDoor.Gf

def R : Nat := 0xE1 * 2 ^ 120
def S (n : Nat) : Nat := if n % 2 = 1 then (n / 2) ^^^ R else n / 2
def Sn : Nat → Nat → Nat
  | 0, b => b
  | i + 1, b => S (Sn i b)
def Pk (a b : Nat) : Nat → Nat
  | 0 => 0
  | k + 1 => if a.testBit (127 - k) then Pk a b k ^^^ Sn k b else Pk a b k
def P (a b : Nat) : Nat := Pk a b 128
def lim : Nat := 2 ^ 128
def e (i : Nat) : Nat := 2 ^ (127 - i)

/-! ### below 2^128 -/
theorem S_lt (n : Nat) (h : n < lim) : S n < lim := by
  unfold S lim at *
  have : n / 2 < 2 ^ 128 := by omega
  split
  · exact Nat.xor_lt_two_pow this (by unfold R; decide)
  · exact this
theorem Sn_lt (i n : Nat) (h : n < lim) : Sn i n < lim := by
  induction i with
  | zero => exact h
  | succ i ih => exact S_lt _ ih
/-! ### two sums that agree on single bits agree -/
theorem split_bit (a k : Nat) (h : a < 2 ^ (k + 1)) : a = (a % 2 ^ k) ^^^ (if a.testBit k then 2 ^ k else 0) := by
  apply Nat.eq_of_testBit_eq
  intro i
  rw [Nat.testBit_xor, Nat.testBit_mod_two_pow]
  by_cases hk : a.testBit k
  · rw [if_pos hk, Nat.testBit_two_pow]
    by_cases h1 : k = i
    · subst h1; simp [hk]
    · by_cases h2 : i < k
      · simp [h1, h2]
      · have : a.testBit i = false := Nat.testBit_lt_two_pow (Nat.lt_of_lt_of_le h (Nat.pow_le_pow_right (by omega) (by omega)))
        simp [h1, h2, this]
  · rw [if_neg hk, Nat.zero_testBit]
    by_cases h2 : i < k
    · simp [h2]
    · by_cases h1 : k = i
      · subst h1; simp [hk]
      · have : a.testBit i = false := Nat.testBit_lt_two_pow (Nat.lt_of_lt_of_le h (Nat.pow_le_pow_right (by omega) (by omega)))
        simp [h2, this]
theorem agree (f g : Nat → Nat) (hf : ∀ a b, f (a ^^^ b) = f a ^^^ f b) (hg : ∀ a b, g (a ^^^ b) = g a ^^^ g b) (h : ∀ i, i < 128 → f (e i) = g (e i)) (a : Nat) (ha : a < lim) : f a = g a := by
  have f0 : f 0 = 0 := by have := hf 0 0; rw [Nat.xor_self, Nat.xor_self] at this; exact this
  have g0 : g 0 = 0 := by have := hg 0 0; rw [Nat.xor_self, Nat.xor_self] at this; exact this
  have : ∀ k, k ≤ 128 → ∀ a, a < 2 ^ k → f a = g a := by
    intro k
    induction k with
    | zero =>
      intro _ a ha
      obtain rfl : a = 0 := by simpa using ha
      rw [f0, g0]
    | succ k ih =>
      intro hk a ha
      have h1 := ih (by omega) (a % 2 ^ k) (Nat.mod_lt _ (Nat.two_pow_pos k))
      have h2 : f (if a.testBit k then 2 ^ k else 0) = g (if a.testBit k then 2 ^ k else 0) := by
        split
        · have := h (127 - k) (by omega)
          unfold e at this
          rwa [show 127 - (127 - k) = k by omega] at this
        · rw [f0, g0]
      rw [split_bit a k ha, hf, hg, h1, h2]
  exact this 128 (Nat.le_refl _) a ha
/-! ### no two elements but nought have the product nought -/
def apL : List Nat → Nat → Nat → Nat
  | [], _, _ => 0
  | m :: M, i, v => if v.testBit (127 - i) then m ^^^ apL M (i + 1) v else apL M (i + 1) v
def ap (M : List Nat) (v : Nat) : Nat := apL M 0 v
def invL : List Nat := [0x10d04d25f93556e69f58ce2f8d035a94, 0x202f566ef59a994991d0e977a9aa5ba7, 0x602f566ef59a994991d0e977a9aa5ba7, 0x3045202cccefc1ee67fd0ac2e3641972, 0x402f566ef59a994991d0e977a9aa5ba7,
  0x5672e0c1d328e3be0d2c5beb59e57554, 0x2045202cccefc1ee67fd0ac2e3641972, 0x187f9b4b8cafcfaf8e88275824a90133, 0x482f566ef59a994991d0e977a9aa5ba7, 0x22da13517461d3ee69739a8be16c1972,
  0x5272e0c1d328e3be0d2c5beb59e57554, 0x6aff55603cd3fceff55228f556d54755, 0x2245202cccefc1ee67fd0ac2e3641972, 0x46fc06025397fc91bb49eab33e4cf467, 0x197f9b4b8cafcfaf8e88275824a90133,
  0x646dca2be3d6cc87d093e2fc4c0f4ad5, 0x48af566ef59a994991d0e977a9aa5ba7, 0x5cea2fd59105659e2d1ccaeb5d2c7d54, 0x229a13517461d3ee69739a8be16c1972, 0x3f46a4c41f7d395874f4e33b9d331780,
  0x5252e0c1d328e3be0d2c5beb59e57554, 0x312701524d961730583bcf844c342240, 0x6aef55603cd3fceff55228f556d54755, 0x144559bb6c9ffcd7bc4c239cf48626f3, 0x224d202cccefc1ee67fd0ac2e3641972,
  0x1a24eaea541cab0f9092b01169688933, 0x46f806025397fc91bb49eab33e4cf467, 0x2c14dba71e26fe964f314b9433eb3eb2, 0x197d9b4b8cafcfaf8e88275824a90133, 0x2561da58536a903fe562896ae4899333,
  0x646cca2be3d6cc87d093e2fc4c0f4ad5, 0x41d77800d619af2838dab35b297373a6, 0x48afd66ef59a994991d0e977a9aa5ba7, 0x5ce7c3e3968e47f62e5390ab45fe70d4, 0x5cea6fd59105659e2d1ccaeb5d2c7d54,
  0x428019a11caacb8824c8241264b2fba6, 0x229a33517461d3ee69739a8be16c1972, 0x258e6f54b84bf6f7ef54f70e70ef2ef3, 0x3f46b4c41f7d395874f4e33b9d331780, 0x1af0929921b9589f9fb368dce89d2373,
  0x5252e8c1d328e3be0d2c5beb59e57554, 0x3bdc8ad604f36599e246fae899f68fc1, 0x312705524d961730583bcf844c342240, 0x38e6217d7e479d8109554569546afc0, 0x6aef57603cd3fceff55228f556d54755,
  0x2bd77bb364ab6b3fc733d8875e039333, 0x144558bb6c9ffcd7bc4c239cf48626f3, 0x698e6217d7fb8627ef6aa903c013fa95, 0x224d20acccefc1ee67fd0ac2e3641972, 0x21ce3a83c07704de74dad50f0d583b32,
  0x1a24eaaa541cab0f9092b01169688933, 0x56f3167fe31312df9eb885b869165d55, 0x46f806225397fc91bb49eab33e4cf467, 0x77dcb1c60e3ad1c9e2190477682adba7, 0x2c14dbb71e26fe964f314b9433eb3eb2,
  0x7348a7e5645f92d076e747a9d181ec26, 0x197d9b438cafcfaf8e88275824a90133, 0x2cfbb4409945161e45d21862e0409b32, 0x2561da5c536a903fe562896ae4899333, 0x36e717e02724b8f1d1527df73b8e8241,
  0x646cca29e3d6cc87d093e2fc4c0f4ad5, 0x7adc3b3404788e11d4cfd6f8f5447467, 0x41d77801d619af2838dab35b297373a6, 0x4a2ade42a1db559927495c4d4e62fc1, 0x48afd66e759a994991d0e977a9aa5ba7,
  0x329f337db88e12004e8e904902080000, 0x5ce7c3e3d68e47f62e5390ab45fe70d4, 0x36e9eb0be64d6b99d3ec2e5e502bb781, 0x5cea6fd5b105659e2d1ccaeb5d2c7d54, 0x4622ba58b211bb21b69fb337b1785627,
  0x428019a10caacb8824c8241264b2fba6, 0x49a065cd7758d5196f0e3578d383201, 0x229a33517c61d3ee69739a8be16c1972, 0x55aabdbeec28a2078079924a4cd2f295, 0x258e6f54bc4bf6f7ef54f70e70ef2ef3,
  0x7986f6afcfc951e9cb9188c1a5beebe7, 0x3f46b4c41d7d395874f4e33b9d331780, 0x2f76850d57908a5e54a716d46cf0bb32, 0x1af0929920b9589f9fb368dce89d2373, 0x489a0b11781e0c1196cc4fdebc394c27,
  0x5252e8c1d3a8e3be0d2c5beb59e57554, 0x72ccff3fd3d186182e1ce9a41041041, 0x3bdc8ad604b36599e246fae899f68fc1, 0x5c33b52f8947e9462158188b7248d294, 0x312705524db61730583bcf844c342240,
  0x79880aa666d696d9c926622882fff1e7, 0x38e6217d7f479d8109554569546afc0, 0x285aabc679b16ad7d6c2852abfdb1eb3, 0x6aef57603cdbfceff55228f556d54755, 0x26d44eb77ddd535ff0b1c738de72bb33,
  0x2bd77bb364af6b3fc733d8875e039333, 0x3cfddc25f2ae2df86391fd8d3387a7c0, 0x144558bb6c9dfcd7bc4c239cf48626f3, 0x457534e82f16f649aa2d862c91005ba7, 0x698e6217d7fa8627ef6aa903c013fa95,
  0x4bf8b9d33b8f38198de17cdee54751e7, 0x224d20acccef41ee67fd0ac2e3641972, 0x634efa836deeebf650dae654442b4894, 0x21ce3a83c07744de74dad50f0d583b32, 0x4bf6a9a1f02e1f698fec4b1a74166be7,
  0x1a24eaaa541c8b0f9092b01169688933, 0x6462e2cc93c28627d2d0526e0d66c2d5, 0x56f3167fe31302df9eb885b869165d55, 0x79b07befedd921e9cd751ec18ebeebe7, 0x46f806225397f491bb49eab33e4cf467,
  0x701c741cbd9fc8b06b94eadf79b8c426, 0x77dcb1c60e3ad5c9e2190477682adba7, 0x44eaa59bd8819a999287fa5ed58ad81, 0x2c14dbb71e26fc964f314b9433eb3eb2, 0x602105ae977251e64834e0c2dd2d5a94,
  0x7348a7e5645f93d076e747a9d181ec26, 0x645919a4b35879f7d7a68d71cb5770d5, 0x197d9b438cafcf2f8e88275824a90133, 0xd94d9da18080030c4db699e5dc0, 0x2cfbb4409945165e45d21862e0409b32, 0x99a6e1cca2f8641a0b0910804c90841,
  0x2561da5c536a901fe562896ae4899333, 0x5f86cdbc744e28fe3430f49ddf071154, 0x36e717e02724b8e1d1527df73b8e8241, 0x51eae8be2fe60df61bf9191de1788d94, 0x646cca29e3d6cc8fd093e2fc4c0f4ad5,
  0x5f67891c31b7edb03c86875f90384d1c, 0x7adc3b3404788e15d4cfd6f8f5447467, 0x36dc3b3404788e15d4cfd6f8f5447461, 0x41d77801d619af2a38dab35b297373a6, 0x35bd0e43ef6cf78dcef750ee63bd3171,
  0x4a2ade42a1db558927495c4d4e62fc1, 0x0]
def sq (a : Nat) : Nat := P a a
theorem xor_lt {a b : Nat} (ha : a < lim) (hb : b < lim) : a ^^^ b < lim := Nat.xor_lt_two_pow ha hb
def sqM : List Nat := (List.range 128).map fun i => sq (e i)
def sqN : Nat → Nat → Nat
  | 0, a => a
  | k + 1, a => sq (sqN k a)
def Says (k : Nat) (M : List Nat) : Prop := ∀ a, a < lim → sqN k a = ap M a
def mul2 (M : List Nat) : List Nat := M.map (ap M)
def sqM7 : List Nat := mul2 (mul2 (mul2 (mul2 (mul2 (mul2 (mul2 sqM))))))
def nm (a : Nat) : Nat → Nat
  | 0 => e 0
  | k + 1 => P (nm a k) (sqN k a)
end Go.Proofs.YtcfbiafedfkbhaaDoor.Gf
