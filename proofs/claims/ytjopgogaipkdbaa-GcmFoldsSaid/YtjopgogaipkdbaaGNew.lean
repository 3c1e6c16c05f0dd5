/- The walk of gcm's New. -/
import Derived.Test.YtjopgogaipkdbaaPad
import Derived.Test.YtjopgogaipkdbaaNew
import Derived.Test.YtjopgogaipkdbaaNew32
namespace Go.Proofs.Ytjopgogaipkdbaa
open Go.RowKit

/-- The last round by a key. -/
def lastOf (l : List UInt8) : Nat := l.length / 4 + 6
theorem new_any (v : Value) (l : List UInt8) (w : World) (hv : SlB w v l) (hl : l.length = 16 ∨ l.length = 32) :
    Calls Try.prog 14 #[v] w fun e w' => ∃ p, e = .returned (.tuple #[p, .int .i64 0]) ∧ KeyAt 67 23 w' p (expand l) (lastOf l + 1) ∧ Below w.heap.size w w' := by
  rcases hl with h | h
  · have := new_ok v l w hv h
    rwa [show (11 : Nat) = lastOf l + 1 by unfold lastOf; omega] at this
  · have := new_ok32 v l w hv h
    rwa [show (15 : Nat) = lastOf l + 1 by unfold lastOf; omega] at this
/-- The element of a key. -/
def hOf (l : List UInt8) : List UInt8 := sealN (expand l) (lastOf l) (List.replicate 16 0) (lastOf l)
theorem hOf_len (l : List UInt8) : (hOf l).length = 16 := sealN_len _ _ _ _

set_option maxRecDepth 100000 in
theorem built_box16 (k : Nat) (a0 a1 a2 a3 a4 a5 a6 a7 a8 a9 a10 a11 a12 a13 a14 a15 : Value) : Try.prog.built 84 [(0, .pointer (some ⟨k, 0, none⟩)), (1, .agg #[a0, a1, a2, a3, a4, a5, a6, a7, a8, a9, a10, a11, a12, a13, a14, a15])] = some #[.pointer (some ⟨k, 0, none⟩), a0, a1, a2, a3, a4, a5, a6, a7, a8, a9, a10, a11, a12, a13, a14, a15] := by kernel_rfl
theorem built_box (k : Nat) (cs : List Value) (hl : cs.length = 16) : Try.prog.built 84 [(0, .pointer (some ⟨k, 0, none⟩)), (1, .agg cs.toArray)] = some (#[.pointer (some ⟨k, 0, none⟩)] ++ cs.toArray) := by
  match cs, hl with
  | [a0, a1, a2, a3, a4, a5, a6, a7, a8, a9, a10, a11, a12, a13, a14, a15], _ => exact built_box16 k a0 a1 a2 a3 a4 a5 a6 a7 a8 a9 a10 a11 a12 a13 a14 a15
theorem exec_build_box (ρ : Operand → Value) (dst : Option Tmp) (x y : Operand) (type : TypeId) (pos : String) (after : Array Edge) (guard : Option (Nat × Bool)) (w : World) (hx : plainPtr (ρ x) = true) (h0 : offOf (ρ x) = 0) (hy : isAggV (ρ y) = true) (hl : (ρ y).cells.size = 16) :
    (execOp ρ { dst, op := .build 84 #[(0, x), (1, y)], type, pos, after, guard }).run Try.prog w = .ok (.value (.agg (#[ρ x] ++ (ρ y).cells))) w := by
  have hx' := plainPtr_spec hx
  have hy' := isAggV_spec hy
  generalize (ρ y).cells = cs at *
  rw [h0] at hx'
  unfold execOp
  simp only [List.map_toArray, List.map_cons, List.map_nil, Sem.run_bind]
  rw [hx', hy', run_build w 84 _ _ (built_box (blkOf (ρ x)) cs.toList (by simpa using hl))]
  rfl
attribute [local go_sem ↓] exec_build_box
set_option maxRecDepth 100000 in
theorem gnew_bad (v : Value) (l : List UInt8) (w : World) (hv : SlB w v l) (hl : ¬ (l.length = 16 ∨ l.length = 32)) :
    Calls Try.prog 24 #[v] w fun e w' => e = .returned (.tuple #[.pointer none, .int .i64 1]) ∧ Below w.heap.size w w' := by
  have h1 := fun h => hl (.inl h)
  have h2 := fun h => hl (.inr h)
  have HN := Lib.hid (new_bad v l w hv h1 h2)
  clear hl h1 h2 hv
  go_enter Try.func24, Try.ntmps24
  go_wp2_with (go_at_call 14; refine HN.out.mono ?_; rintro e w' ⟨rfl, rfl⟩)
  go_ret2
  exact ⟨rfl, Below.refl _ _⟩
set_option maxRecDepth 100000 in
set_option maxHeartbeats 1000000 in
theorem gnew_ok (v : Value) (l : List UInt8) (w : World) (hv : SlB w v l) (hl : l.length = 16 ∨ l.length = 32) :
    Calls Try.prog 24 #[v] w fun e w' => ∃ p, e = .returned (.tuple #[p, .int .i64 0]) ∧ BoxAt 84 67 23 w' p (expand l) (lastOf l) (hOf l) ∧ Below w.heap.size w w' := by
  have HN := Lib.hid (new_any v l w hv hl)
  obtain ⟨h, hh⟩ : ∃ h, h = hOf l := ⟨_, rfl⟩
  have hhl : h.length = 16 := by rw [hh]; exact hOf_len l
  have hh16 := (AB_size h).trans hhl
  rw [← hh]
  have HH := Lib.hid hh
  clear hl hv hh
  go_enter Try.func24, Try.ntmps24
  go_wp2_with fail
  refine HN.out.mono ?_
  rintro e w1 ⟨p, rfl, hk, hB1⟩
  obtain ⟨kb, hp⟩ : ∃ kb, p = .pointer (some ⟨kb, 0, none⟩) := let ⟨a, _, _, _, h, _⟩ := hk; ⟨a, h⟩
  subst hp
  have HK := Lib.hid hk
  clear hk
  go_wp2_with fail
  refine (seal_any _ (expand l) (lastOf l) (List.replicate 16 0) _ HK.out rfl).mono ?_
  rintro e w2 ⟨rfl, hb2⟩
  rw [show sealN (expand l) (lastOf l) (List.replicate 16 0) (lastOf l) = h from HH.out.symm]
  have hB2 := hB1.trans (hb2.mono hB1.size)
  go_wp2_with fail
  go_ret2
  exact ⟨_, rfl, ⟨w2.heap.size, _, rfl, Row.new _ _ _, (HK.out.below hb2).below ((Below.refl _ _).alloc (Nat.le_refl _) _), hhl⟩, hB2.alloc hB2.size _⟩
end Go.Proofs.Ytjopgogaipkdbaa
