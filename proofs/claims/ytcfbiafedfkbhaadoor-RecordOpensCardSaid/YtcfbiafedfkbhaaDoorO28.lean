/- Part of the proof: RefB. No conditions of its own. -/
import Derived.BigQuiet
import Derived.BigRegion
import Derived.Deep.DeepCutAuto
import Derived.Deep.LoopGhost
import Derived.Deep.Quiet
import Derived.Deep.QuietTactic
import Derived.Lib.Hide
import Derived.StillTail
import Derived.Test.YtcfbiafedfkbhaaDoorProg
import Derived.WalkKit
import Derived.WalkSpells
import Derived.Test.YtcfbiafedfkbhaaDoorO12
import Derived.Test.YtcfbiafedfkbhaaDoorO22
namespace Go.Proofs.YtcfbiafedfkbhaaDoor
open Go.RowKit

def ivP (x : UInt8) : Nat → UInt8
  | 0 => 1
  | i + 1 => ml (ml (ivP x i) (ivP x i)) x
def iv (x : UInt8) : UInt8 := ml (ivP x 7) (ivP x 7)
def rl (x : UInt8) (i : Nat) : UInt8 := orr (shl x (UInt8.ofNat i)) (shr x (UInt8.ofNat (8 - i)))
def afP (x : UInt8) : Nat → UInt8
  | 0 => x
  | i + 1 => xr (afP x i) (rl x (i + 1))
def bx (x : UInt8) : UInt8 := xr (afP (iv x) 4) 0x63

def rlOk (n : Nat) : Bool :=
  let z := UInt8.ofNat n
  (List.range 4).all fun k => bits .or .u8 ((z.toNat : Int) * 2 ^ (k + 1) % 256) ((z.toNat : Int) / 2 ^ (7 - k)) == ((rl z (k + 1)).toNat : Int)
theorem rlOk_all : (List.range 256).all rlOk = true := by decide +kernel
theorem rl_int (z : UInt8) (k : Nat) (h : k < 4) : bits .or .u8 ((z.toNat : Int) * 2 ^ (k + 1) % 256) ((z.toNat : Int) / 2 ^ (7 - k)) = ((rl z (k + 1)).toNat : Int) := by
  have := List.all_eq_true.1 rlOk_all z.toNat (List.mem_range.2 z.toNat_lt)
  simp only [rlOk, UInt8.ofNat_toNat] at this
  exact eq_of_beq (List.all_eq_true.1 this k (List.mem_range.2 h))

set_option maxRecDepth 100000 in
set_option maxHeartbeats 2000000 in
theorem box_any (x : UInt8) (w : World) : Calls Tryd.prog 89 #[B x] w fun e w' => e = .returned (B (bx x)) ∧ Below w.heap.size w w' := by
  go_enter Tryd.func89, Tryd.ntmps89
  go_wp2_with fail
  go_loopg [3, 4] 7 (fun n y i wr => ∃ k : Nat, n + k = 7 ∧ i = .int .i64 k ∧ y = B (ivP x k) ∧ w = wr)
  case atStart => exact ⟨0, by omega, rfl, rfl, rfl⟩
  case round =>
    obtain ⟨k, hk, rfl, rfl, rfl⟩ := hrel
    by_cases h : k < 7
    · have b1 : (k : Int) < 7 := by omega
      go_wp2_with (go_at_call 75; refine (mul_any _ _ _).mono ?_; rintro e w' ⟨rfl, rfl⟩)
      go_roundg (gk - 1)
      case measure => omega
      case rel => exact ⟨k + 1, by omega, by go_num, rfl, rfl⟩
    · obtain rfl : k = 7 := by omega
      go_wp2_with (go_at_call 75; refine (mul_any _ _ _).mono ?_; rintro e w' ⟨rfl, rfl⟩)
      obtain ⟨z, hz⟩ : ∃ z, z = ml (ivP x 7) (ivP x 7) := ⟨_, rfl⟩
      rw [← hz]
      have HZ := Lib.hid hz
      clear hz
      obtain ⟨no, rfl⟩ : ∃ no : Nat, no = gk := ⟨_, rfl⟩
      go_loopg [5, 6] 4 (fun n y i wr => ∃ k : Nat, n + k = 4 ∧ i = .int .i64 (k + 1 : Nat) ∧ y = B (afP z k) ∧ Below w.heap.size w wr)
      case atStart => exact ⟨0, by omega, rfl, rfl, Below.refl _ _⟩
      case round =>
        obtain ⟨k, hk, rfl, rfl, hB⟩ := hrel
        by_cases h : k < 4
        · have b1 : (k : Int) + 1 < 5 := by omega
          obtain ⟨y, hy⟩ : ∃ y, y = afP z k := ⟨_, rfl⟩
          rw [← hy]
          have HY := Lib.hid hy
          clear hy
          go_wp2_with fail
          refine wp_region_qtail (fun w' => w' = _) 10 (by kernel_rfl) (by kernel_rfl) rfl ?_
          simp only [List.take_succ_cons, List.take_zero, List.drop_succ_cons, List.drop_zero]
          repeat (first | go_big_quiet_skip | (go_big_quiet_want; go_big_quiet_op; go_big_quiet_on))
          refine wpQuiet_nil ?_
          rintro _ rfl
          go_wp2_with fail
          go_roundg (gk - 1)
          case measure => omega
          case rel => exact ⟨k + 1, by omega, by go_num, (by rw [rl_int z k h, bx8, HY.out]; rfl), hB.drew⟩
        · obtain rfl : k = 4 := by omega
          have e : bx x = xr (afP z 4) 99 := by rw [HZ.out]; rfl
          have hx : bits .xor .u8 ((afP z 4).toNat : Int) 99 = ((bx x).toNat : Int) := by rw [e, ← bx8]; rfl
          have HX := Lib.hid hx
          clear hx e
          go_wp2_with fail
          go_ret
          exact ⟨ret_u8 HX.out, hB⟩
end Go.Proofs.YtcfbiafedfkbhaaDoor

/- The walk of the document's Table. -/
namespace Go.Proofs.YtcfbiafedfkbhaaDoor
open Go.RowKit

set_option maxRecDepth 100000 in
theorem alloc_tab (w : World) : (Instr.alloc 104 true (.tuple #[])).run Tryd.prog w = .ok (.pointer (some ⟨w.heap.size, 0, none⟩)) (w.alloc (.cells (AB z256) 104)) := by kernel_rfl
theorem exec_alloc_tab (ρ : Operand → Value) (dst : Option Tmp) (type : TypeId) (pos : String) (after : Array Edge) (guard : Option (Nat × Bool)) (w : World) :
    (execOp ρ { dst, op := .alloc 104, type, pos, after, guard }).run Tryd.prog w = .ok (.value (.pointer (some ⟨w.heap.size, 0, none⟩))) (w.alloc (.cells (AB z256) 104)) := by
  unfold execOp
  simp only [Sem.run_bind, alloc_tab, Result.andThen_ok]
  rfl
attribute [go_sem ↓] exec_alloc_tab
theorem z256_len : z256.length = 256 := List.length_replicate

def tbP (k : Nat) : List UInt8 := (List.range 256).map fun i => if i < k then bx (UInt8.ofNat i) else 0
theorem tbP_len (k : Nat) : (tbP k).length = 256 := by simp [tbP]
theorem tbP_zero : tbP 0 = z256 := by
  unfold tbP z256
  rw [List.eq_replicate_iff]
  simp
theorem tbP_step (k : Nat) (h : k < 256) : (tbP k).set k (bx (UInt8.ofNat k)) = tbP (k + 1) := by
  show (tab 256 fun i => if i < k then bx (UInt8.ofNat i) else 0).set k _ = tab 256 fun i => if i < k + 1 then bx (UInt8.ofNat i) else 0
  rw [tab_set]
  apply tab_congr
  intro i hi
  by_cases h1 : i = k
  · subst h1; simp
  · by_cases h2 : i < k
    · simp [h1, h2, show i < k + 1 by omega]
    · simp [h1, h2, show ¬ i < k + 1 by omega]
theorem tb_box : tbP 256 = boxT := by decide +kernel

set_option maxRecDepth 100000 in
set_option maxHeartbeats 2000000 in
theorem table_any (w : World) : Calls Tryd.prog 73 #[] w fun e w' => e = .returned (.agg (AB boxT)) ∧ Below w.heap.size w w' := by
  go_enter Tryd.func73, Tryd.ntmps73
  go_wp2_with fail
  go_loopg [2] 256 (fun n i wr => ∃ k : Nat, n + k = 256 ∧ i = .int .i64 k ∧ RowN wr w.heap.size 104 256 ∧ Row wr (w.heap.size + 1) 104 (AB (tbP k)) ∧ Below w.heap.size w wr)
  case atStart =>
    refine ⟨0, by omega, rfl, ?_, ?_, ?_⟩
    · have := (RowN.newAt w w.heap.size 104 (AB z256) rfl).alloc (.cells (AB z256) 104)
      rwa [AB_size, z256_len] at this
    · rw [tbP_zero]; exact Row.newAt _ _ _ _ (by simp)
    · exact ((Below.refl _ w).alloc (Nat.le_refl _) _).alloc (by simp) _
  case round =>
    obtain ⟨k, hk, rfl, ⟨z, hz, hzs⟩, hT, hB⟩ := hrel
    have hlt := hT.lt
    have hlz := hz.lt
    have hlen := tbP_len k
    by_cases h : k < 256
    · have b1 : (k : Int) < 256 := by omega
      have hv : Value.int .u8 (k : Int) = B (UInt8.ofNat k) := by
        rw [B, UInt8.toNat_ofNat']; congr 1; omega
      have HV := Lib.hid hv
      clear hv
      go_wp2_with fail
      rw [HV.out]
      refine (box_any _ _).mono ?_
      rintro e w' ⟨rfl, hB'⟩
      have hT' := hT.below hB' hlt
      have hz' := hz.below hB' hlz
      have hb' := hB.trans (hB'.mono hB.size)
      have hlt' := hT'.lt
      clear hT hz hB hB' hlt hlz
      go_wp2_with fail
      go_roundg (gk - 1)
      case measure => omega
      case rel => exact ⟨k + 1, by omega, by go_num, ⟨z, hz'.setOther _ _ (by simp), hzs⟩, by rw [← tbP_step k h]; exact hT'.setByte k _, hb'.setCell (by simp) _⟩
    · obtain rfl : k = 256 := by omega
      rw [tb_box] at hT hlen
      go_wp2_with fail
      exact ret_row (.inl rfl) rfl w.heap.size 104 _ 256 _ rfl (hz.setRow _) Tryd.underlying104 rfl (by kernel_rfl) (by rw [AB_size, hlen]) ⟨rfl, bSetRow hB (Nat.le_refl _) _⟩
end Go.Proofs.YtcfbiafedfkbhaaDoor
