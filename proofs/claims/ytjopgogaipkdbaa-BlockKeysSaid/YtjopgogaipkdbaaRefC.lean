/- The walk of the document's Table. -/
import Derived.Test.YtjopgogaipkdbaaRefB
import Derived.Test.YtjopgogaipkdbaaNewSpec
namespace Go.Proofs.Ytjopgogaipkdbaa
open Go.RowKit

set_option maxRecDepth 100000 in
theorem alloc_tab (w : World) : (Instr.alloc 62 true (.tuple #[])).run Try.prog w = .ok (.pointer (some ⟨w.heap.size, 0, none⟩)) (w.alloc (.cells (AB z256) 62)) := by kernel_rfl
theorem exec_alloc_tab (ρ : Operand → Value) (dst : Option Tmp) (type : TypeId) (pos : String) (after : Array Edge) (guard : Option (Nat × Bool)) (w : World) :
    (execOp ρ { dst, op := .alloc 62, type, pos, after, guard }).run Try.prog w = .ok (.value (.pointer (some ⟨w.heap.size, 0, none⟩))) (w.alloc (.cells (AB z256) 62)) := by
  unfold execOp
  simp only [Sem.run_bind, alloc_tab, Result.andThen_ok]
  rfl
attribute [go_sem ↓] exec_alloc_tab
theorem z256_len : z256.length = 256 := List.length_replicate

def tbP (k : Nat) : List UInt8 := (List.range 256).map fun i => if i < k then bx (UInt8.ofNat i) else 0
theorem tbP_len (k : Nat) : (tbP k).length = 256 := by simp [tbP]
theorem tbP_zero : tbP 0 = z256 := by
  unfold tbP z256
  rw [List.eq_replicate_iff]
  simp
theorem tbP_step (k : Nat) (h : k < 256) : (tbP k).set k (bx (UInt8.ofNat k)) = tbP (k + 1) := by
  show (tab 256 fun i => if i < k then bx (UInt8.ofNat i) else 0).set k _ = tab 256 fun i => if i < k + 1 then bx (UInt8.ofNat i) else 0
  rw [tab_set]
  apply tab_congr
  intro i hi
  by_cases h1 : i = k
  · subst h1; simp
  · by_cases h2 : i < k
    · simp [h1, h2, show i < k + 1 by omega]
    · simp [h1, h2, show ¬ i < k + 1 by omega]
theorem tb_box : tbP 256 = boxT := by decide +kernel

set_option maxRecDepth 100000 in
set_option maxHeartbeats 2000000 in
theorem table_any (w : World) : Calls Try.prog 41 #[] w fun e w' => e = .returned (.agg (AB boxT)) ∧ Below w.heap.size w w' := by
  go_enter Try.func41, Try.ntmps41
  go_wp2_with fail
  go_loopg [2] 256 (fun n i wr => ∃ k : Nat, n + k = 256 ∧ i = .int .i64 k ∧ RowN wr w.heap.size 62 256 ∧ Row wr (w.heap.size + 1) 62 (AB (tbP k)) ∧ Below w.heap.size w wr)
  case atStart =>
    refine ⟨0, by omega, rfl, ?_, ?_, ?_⟩
    · have := (RowN.newAt w w.heap.size 62 (AB z256) rfl).alloc (.cells (AB z256) 62)
      rwa [AB_size, z256_len] at this
    · rw [tbP_zero]; exact Row.newAt _ _ _ _ (by simp)
    · exact ((Below.refl _ w).alloc (Nat.le_refl _) _).alloc (by simp) _
  case round =>
    obtain ⟨k, hk, rfl, ⟨z, hz, hzs⟩, hT, hB⟩ := hrel
    have hlt := hT.lt
    have hlz := hz.lt
    have hlen := tbP_len k
    by_cases h : k < 256
    · have b1 : (k : Int) < 256 := by omega
      have hv : Value.int .u8 (k : Int) = B (UInt8.ofNat k) := by
        rw [B, UInt8.toNat_ofNat']; congr 1; omega
      have HV := Lib.hid hv
      clear hv
      go_wp2_with fail
      rw [HV.out]
      refine (box_any _ _).mono ?_
      rintro e w' ⟨rfl, hB'⟩
      have hT' := hT.below hB' hlt
      have hz' := hz.below hB' hlz
      have hb' := hB.trans (hB'.mono hB.size)
      have hlt' := hT'.lt
      clear hT hz hB hB' hlt hlz
      go_wp2_with fail
      go_roundg (gk - 1)
      case measure => omega
      case rel => exact ⟨k + 1, by omega, by go_num, ⟨z, hz'.setOther _ _ (by simp), hzs⟩, by rw [← tbP_step k h]; exact hT'.setByte k _, hb'.setCell (by simp) _⟩
    · obtain rfl : k = 256 := by omega
      rw [tb_box] at hT hlen
      go_wp2_with fail
      exact ret_row (.inl rfl) rfl w.heap.size 62 _ 256 _ rfl (hz.setRow _) Try.underlying62 rfl (by kernel_rfl) (by rw [AB_size, hlen]) ⟨rfl, bSetRow hB (Nat.le_refl _) _⟩
end Go.Proofs.Ytjopgogaipkdbaa
