/- What is opened behind a change, as a plain law. -/
import Derived.Test.YtjopgogaipkdbaaSealsLaw
import Derived.Test.YtjopgogaipkdbaaBentLaw
namespace Go.Proofs.Ytjopgogaipkdbaa
open Go.RowKit

theorem seal_back {K : List UInt8} {last : Nat} {h n s b : List UInt8} (hs : 16 ≤ s.length) (e : tagF K last h n (s.take (s.length - 16)) b = s.drop (s.length - 16)) : sealB K last h n (turnF K last n (s.take (s.length - 16))) b = s := by
  have _ := hs
  rw [sealB, turnF_turnF, e, List.take_append_drop]
theorem xr_ne {a x : UInt8} (h : x ≠ 0) : xr a x ≠ a := fun e => h (by
  unfold xr at e
  have h2 := congrArg (fun y => a ^^^ y) e
  simpa [← UInt8.xor_assoc] using h2)
theorem bent_nought {K : List UInt8} {last : Nat} {h nonce l bs A : List UInt8} {k : Nat} {x : UInt8} (hh : h.length = 16) (hA : A = sealB K last h nonce l bs) (hx : x ≠ 0) (hk : k < A.length)
    (e : tagF K last h nonce ((A.set k (xr (gb A k) x)).take ((A.set k (xr (gb A k) x)).length - 16)) bs = (A.set k (xr (gb A k) x)).drop ((A.set k (xr (gb A k) x)).length - 16)) : h = List.replicate 16 0 := by
  have ht := sealB_take K last h nonce l bs
  have hd := sealB_drop K last h nonce l bs
  rw [← hA] at ht hd
  rw [← ht] at hd
  rw [List.length_set] at e
  obtain ⟨m, hm⟩ : ∃ m, m = A.length - 16 := ⟨_, rfl⟩
  rw [← hm] at ht hd e
  by_cases hkm : k < m
  · rw [List.take_set, List.drop_set, if_pos hkm, hd] at e
    refine tag_bent hh (c := A.take m) (i := k) (x := xr (gb A k) x) (by simp; omega) ?_ e.symm
    have : gb (A.take m) k = gb A k := by simp [gb, hkm]
    rw [this]
    exact xr_ne hx
  · exfalso
    rw [List.take_set, List.drop_set, if_neg hkm, List.set_eq_of_length_le (by simp; omega), ← hd] at e
    have h1 := congrArg (fun l => gb l (k - m)) e
    have h2 : gb (A.drop m) (k - m) = gb A k := by simp [gb, show m + (k - m) = k by omega]
    have h3 : gb ((A.drop m).set (k - m) (xr (gb A k) x)) (k - m) = xr (gb A k) x := by
      have : k - m < A.length - m := by omega
      simp [gb, this]
    simp only [h2, h3] at h1
    exact xr_ne hx h1.symm
end Go.Proofs.Ytjopgogaipkdbaa
