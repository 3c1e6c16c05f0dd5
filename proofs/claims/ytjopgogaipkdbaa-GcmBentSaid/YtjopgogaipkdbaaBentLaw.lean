/- Two rows that differ in one part of sixteen have two tags, but by an element that is nought. -/
import Derived.Test.YtjopgogaipkdbaaRefFoldSpec
import Derived.Test.YtjopgogaipkdbaaRefTag
namespace Go.Proofs.Ytjopgogaipkdbaa
open Go.RowKit

theorem tm_inj {a b h : UInt64 × UInt64} (h0 : q2 h ≠ 0) (e : tmQ a h = tmQ b h) : a = b := by
  apply q2_inj
  have e1 : Gf.P (q2 a ^^^ q2 b) (q2 h) = 0 := by
    rw [Gf.P_addl, ← q2_tm, ← q2_tm, e, Nat.xor_self]
  rcases Gf.no_zero _ _ (Gf.xor_lt (q2_lt a) (q2_lt b)) (q2_lt h) e1 with h1 | h1
  · have h2 : q2 a ^^^ (q2 b ^^^ q2 b) = q2 b := by rw [← Nat.xor_assoc, h1, Nat.zero_xor]
    rwa [Nat.xor_self, Nat.xor_zero] at h2
  · exact absurd h1 h0
theorem xorP_canL {y a b : UInt64 × UInt64} (e : xorP y a = xorP y b) : a = b := by
  unfold xorP xq at e
  simp only [Prod.mk.injEq, UInt64.xor_right_inj] at e
  exact Prod.ext e.1 e.2
theorem xorP_canR {y z a : UInt64 × UInt64} (e : xorP y a = xorP z a) : y = z := by
  unfold xorP xq at e
  simp only [Prod.mk.injEq, UInt64.xor_left_inj] at e
  exact Prod.ext e.1 e.2
theorem foldC_same {h y z : UInt64 × UInt64} {c : List UInt8} (h0 : q2 h ≠ 0) (e : foldC h y c = foldC h z c) : y = z := xorP_canR (tm_inj h0 e)
theorem elQ_inj {a b : List UInt8} (ha : a.length = 16) (hb : b.length = 16) (e : elQ a = elQ b) : a = b := by
  rw [← bl_el a ha, ← bl_el b hb, e]
theorem foldC_differ {h y : UInt64 × UInt64} {c d : List UInt8} (h0 : q2 h ≠ 0) (hc : c.length ≤ 16) (hd : d.length ≤ 16) (e : foldC h y c = foldC h y d) : padC c = padC d :=
  elQ_inj (padC_len c hc) (padC_len d hd) (xorP_canL (tm_inj h0 e))
theorem foldK_congr (h : UInt64 × UInt64) (l m : List UInt8) (y : UInt64 × UInt64) : ∀ (n : Nat), (∀ k, k < n → chB l k = chB m k) → foldK h l y (List.range n) = foldK h m y (List.range n) := by
  intro n
  induction n with
  | zero => intro _; rfl
  | succ n ih =>
    intro hk
    rw [List.range_succ, foldK_snoc, foldK_snoc, ih (fun k h => hk k (by omega)), hk n (by omega)]
theorem foldK_inj {h : UInt64 × UInt64} (h0 : q2 h ≠ 0) (l : List UInt8) {y z : UInt64 × UInt64} : ∀ (n : Nat), foldK h l y (List.range n) = foldK h l z (List.range n) → y = z := by
  intro n
  induction n with
  | zero => intro e; exact e
  | succ n ih =>
    intro e
    rw [List.range_succ, foldK_snoc, foldK_snoc] at e
    exact ih (foldC_same h0 e)
theorem foldK_apart {h y : UInt64 × UInt64} (h0 : q2 h ≠ 0) (l m : List UInt8) (x : Nat) (hx : padC (chB l x) ≠ padC (chB m x)) (ho : ∀ k, k ≠ x → chB l k = chB m k) :
    ∀ n, x < n → foldK h l y (List.range n) ≠ foldK h m y (List.range n) := by
  intro n
  induction n with
  | zero => intro h; omega
  | succ n ih =>
    intro hn e
    rw [List.range_succ, foldK_snoc, foldK_snoc] at e
    by_cases hxn : x = n
    · subst hxn
      rw [foldK_congr h l m y x (fun k hk => ho k (by omega))] at e
      exact hx (foldC_differ h0 (by rw [chB_len]; omega) (by rw [chB_len]; omega) e)
    · rw [ho n (by omega)] at e
      exact ih (by omega) (foldC_same h0 e)
theorem blQ_inj {a b : UInt64 × UInt64} (e : blQ a = blQ b) : a = b := by rw [← el_bl a, ← el_bl b, e]
theorem xorL_canR {a b p : List UInt8} (ha : a.length = 16) (hb : b.length = 16) (e : xorL a p = xorL b p) : a = b := by
  apply List.ext_getElem (by omega)
  intro i h1 h2
  have h16 : i < 16 := by omega
  have e1 : xr (gb a i) (gb p i) = xr (gb b i) (gb p i) := by
    have := congrArg (fun l => gb l i) e
    simpa only [xorL, gb_tab _ h16] using this
  have e2 : gb a i = gb b i := by
    unfold xr at e1
    exact UInt8.xor_left_inj _ |>.1 e1
  simpa [gb, h1, h2] using e2
/-- One byte of a row is changed. -/
theorem tag_bent {K : List UInt8} {last : Nat} {h nonce c b : List UInt8} {i : Nat} {x : UInt8} (hh : h.length = 16) (hi : i < c.length) (hx : x ≠ gb c i)
    (e : tagF K last h nonce c b = tagF K last h nonce (c.set i x) b) : h = List.replicate 16 0 := by
  rw [tagF_xor, tagF_xor] at e
  have e := xorL_canR (foldF_len _ _) (foldF_len _ _) e
  unfold foldF at e
  have e := blQ_inj e
  simp only [List.foldl_cons, List.foldl_nil, List.length_set] at e
  by_cases h0 : q2 (elQ h) = 0
  · rw [q2_el h hh] at h0
    rw [← fB_be h hh, h0]
    decide
  · exfalso
    have e := foldK_inj h0 _ _ e
    unfold foldP at e
    rw [List.length_set] at e
    refine foldK_apart h0 c (c.set i x) (i / 16) ?_ ?_ (nCh c.length) (by unfold nCh; omega) e
    · intro hp
      have h1 := congrArg (fun l => gb l (i % 16)) hp
      simp only [gb_padC, gb_chB _ _ _ (Nat.mod_lt i (by omega : 16 > 0)), Nat.div_add_mod] at h1
      apply hx
      rw [h1]
      simp [gb, hi]
    · intro k hk
      unfold chB
      apply List.ext_getElem (by simp)
      intro j h1 h2
      simp only [List.getElem_take, List.getElem_drop]
      rw [List.getElem_set_ne]
      simp at h1
      omega
end Go.Proofs.Ytjopgogaipkdbaa
