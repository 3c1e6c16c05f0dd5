/- 'string(b)' of a slice of bytes; slices of a part of an array. -/
import Derived.Test.YtjopgogaipkdbaaQuiet
import Derived.Test.YtjopgogaipkdbaaNewSpec
import Derived.Test.YtjopgogaipkdbaaKit
import Derived.Laws.BytesArg
import Derived.Deep.Draws
namespace Go.Proofs.Ytjopgogaipkdbaa
open Go.RowKit

theorem strOfNums_S (l : List UInt8) : strOfNums (l.map fun x => (x.toNat : Int)) = ⟨l.toArray⟩ := by
  apply ByteArray.ext
  apply Array.toList_inj.1
  simp only [strOfNums, List.map_map]
  refine (List.map_congr_left fun x _ => ?_).trans (List.map_id l)
  simp
section
variable {P : Program}
theorem run_conv_slb (w : World) (src e dst : TypeId) (hs : P.underlying src = some (.slice e)) (he : P.underlying e = some (.int .u8)) (hd : P.underlying dst = some .string) (v : Value) (l : List UInt8) (h : SlB w v l) :
    (convert src dst v).run P w = .ok (S l) w := by
  obtain ⟨a, cap, rfl, h1, h2, h3, h4⟩ := h
  cases a with
  | none =>
    have : l = [] := List.eq_nil_of_length_eq_zero (by have := h3 rfl; omega)
    subst this
    exact run_convert_bytes_nil w src e hs he _ _ dst hd
  | some ad =>
    obtain ⟨b, o, s⟩ := ad
    obtain ⟨hsp, hc⟩ := h4 _ rfl
    simp only at hsp
    subst hsp
    rw [run_convert_bytes_arg w src e hs he b o l.length cap (l.map fun x => (x.toNat : Int)) (by simp) (fun i hi => by
      rw [hc i hi]
      simp [gb, hi]) dst hd, strOfNums_S]
theorem qb_conv {n : Nat} {W : World} {o : Oper} {a : Act} {K : Act → Prop} (src dst : TypeId) (x : Operand) (ho : o.op = .convert src dst x) (e : TypeId) (hs : P.underlying src = some (.slice e)) (he : P.underlying e = some (.int .u8)) (hd : P.underlying dst = some .string)
    (v : Value) (hx : a.eval x = v) (l : List UInt8) (hS : ∀ w', Below n W w' → SlB w' v l) (hk : K (a.put o.dst (S l))) : o.quiet P a (Below n W) K := by
  refine ⟨S l, fun w' hw' => ?_, hk⟩
  have hr := run_conv_slb (P := P) w' src e dst hs he hd v l (hS w' hw')
  unfold Oper.quietAt execOp
  simp only [ho, hx]
  simp [hr, Oper.quietUpon]
end
/-- The first bytes of an array, as a slice. -/
theorem SlB.of_part {w : World} {g n m : Nat} {t : TypeId} {l : List UInt8} (h : Row w g t (AB l)) (hl : l.length = n) (hm : m ≤ n) (hn : n ≤ maxLen) : SlB w (.slice (some ⟨g, 0, none⟩) m n) (l.take m) := by
  have hlen : (l.take m).length = m := by simp; omega
  refine ⟨some ⟨g, 0, none⟩, n, by rw [hlen], by omega, hn, (fun h => by cases h), fun ad had => ?_⟩
  obtain rfl := Option.some.inj had
  refine ⟨rfl, fun i hi => ?_⟩
  rw [Nat.zero_add, h.byte i (by omega)]
  simp [gb, show i < m by omega]
end Go.Proofs.Ytjopgogaipkdbaa
