/- Strings as lists of bytes. They hold for every program and every world. -/
import Derived.Test.YtjopgogaipkdbaaKit
namespace Go.Proofs.Ytjopgogaipkdbaa
open Go.RowKit

/-- A string as a value. -/
abbrev S (l : List UInt8) : Value := .string ⟨l.toArray⟩
section
variable {P : Program}
theorem run_len_S (t ty : TypeId) (l : List UInt8) (w : World) (h : P.underlying t = some .string) :
    (Builtin.len_ #[t] ty #[.string ⟨l.toArray⟩]).run P w = .ok (.int .i64 (l.length : Int)) w := by
  rw [run_len_string _ _ _ _ h]
  rfl
theorem run_index_S (t : TypeId) (l : List UInt8) (k : IntKind) (i : Int) (w : World) (h : P.underlying t = some .string) (h0 : 0 ≤ i) (h1 : i < l.length) :
    (Instr.index t (.string ⟨l.toArray⟩) (.int k i)).run P w = .ok (B (gb l i.toNat)) w := by
  have hs : ((⟨l.toArray⟩ : ByteArray).size : Int) = l.length := by simp [ByteArray.size]
  rw [run_index_string _ _ _ _ _ h, dif_pos ⟨h0, by rw [hs]; exact h1⟩]
  have h2 : i.toNat < l.length := by omega
  congr 2
  simp only [gb]
  have : (⟨l.toArray⟩ : ByteArray)[i.toNat]'(by simp only [ByteArray.size, List.size_toArray]; exact h2) = l[i.toNat] := rfl
  rw [this]
  simp [h2]
end
attribute [go_sem ↓] run_len_S run_index_S
end Go.Proofs.Ytjopgogaipkdbaa
