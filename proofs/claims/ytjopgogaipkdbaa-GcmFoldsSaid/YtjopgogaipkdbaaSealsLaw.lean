/- What the law's walks of chapter 05 lean on: what a letter's fields read; free operations that hand back new bytes. -/
import Derived.Test.YtjopgogaipkdbaaFree
import Derived.Test.YtjopgogaipkdbaaLetter
import Derived.Test.YtjopgogaipkdbaaGSeal
import Derived.Test.YtjopgogaipkdbaaGOpen
import Derived.Test.YtjopgogaipkdbaaRefTag
namespace Go.Proofs.Ytjopgogaipkdbaa
open Go.RowKit

theorem letC_nonce {key nonce : List UInt8} {short : Bool} {vp vb : Value} (hk : key.length = 32) (hn : nonce.length = 12) : sub (letC key short nonce vp vb) 33 12 = AB nonce := by
  apply Array.ext'
  have h0 : List.drop 33 (List.map B key) = [] := List.drop_of_length_le (by simp [hk])
  simp [sub, letC, AB, List.drop_append, hk, hn, h0]
def bufF (T B0 : Nat) (ls : Tmp → List UInt8) : Tmp → Value → World → Prop := fun d v w => Buf T w B0 v (ls d)
theorem bufF_stab (T B0 : Nat) (ls : Tmp → List UInt8) : StabP (bufF T B0 ls) := fun _ _ _ _ h hb => ownsRow_low h hb
theorem bufX {P : Program} {T B0 : Nat} {ls : Tmp → List UInt8} {d0 : Tmp} {l : List UInt8} {f : FuncId} {args : Array Value} {W w : World} (hb : Below W.heap.size W w) (hB : B0 ≤ W.heap.size) (hl : ls d0 = l)
    (h : Calls P f args w (fun e w' => ∃ v', e = .returned v' ∧ Buf T w' w.heap.size v' l ∧ Below w.heap.size w w')) :
    Calls P f args w (fun e w'' => ∃ v, e = .returned v ∧ (∀ d, some d0 = some d → bufF T B0 ls d v w'') ∧ Below w.heap.size w w'') :=
  h.mono fun e w'' ⟨v, h1, h2, h3⟩ => ⟨v, h1, fun d hd => by
    obtain rfl := Option.some.inj hd
    unfold bufF
    rw [hl]
    exact h2.low (Nat.le_trans hB hb.size), h3⟩
theorem Buf.grow {e : TypeId} {w w' : World} {base : Nat} {v : Value} {l : List UInt8} (h : Buf e w base v l) (hb : Below w.heap.size w w') : Buf e w' base v l := ownsRow_low h hb
theorem bufS {T B0 : Nat} {ls : Tmp → List UInt8} {d : Tmp} {v : Value} {w : World} {l : List UInt8} (h : bufF T B0 ls d v w) (hl : ls d = l) : SlB w v l := hl ▸ h.slb
theorem sealB_take (K : List UInt8) (last : Nat) (h nonce l b : List UInt8) : (sealB K last h nonce l b).take ((sealB K last h nonce l b).length - 16) = turnF K last nonce l := by
  rw [sealB_len, sealB, List.take_append_of_le_length (by rw [turnF_len]; omega), List.take_of_length_le (by rw [turnF_len]; omega)]
theorem sealB_drop (K : List UInt8) (last : Nat) (h nonce l b : List UInt8) : (sealB K last h nonce l b).drop ((sealB K last h nonce l b).length - 16) = tagF K last h nonce (turnF K last nonce l) b := by
  rw [sealB_len, sealB, show l.length + 16 - 16 = (turnF K last nonce l).length by rw [turnF_len]; omega, List.drop_left]
theorem keyOf_len (key : List UInt8) (short : Bool) (hk : key.length = 32) : (keyOf key short).length = 16 ∨ (keyOf key short).length = 32 := by
  unfold keyOf
  cases short with
  | true => left; simp [hk]
  | false => right; simp [hk]
theorem run_extract {P : Program} {o : Oper} {a : Act} (x : Operand) (i : Nat) {v u : Value} {vs : Array Value} (ho : o.op = .extract x i) (hx : a.eval x = v) (hv : v = .tuple vs) (hi : vs[i]? = some u) : ∀ w, (execOp a.eval o).run P w = .ok (.value u) w := fun w => by
  unfold execOp
  simp only [ho, hx, hv]
  simp [Instr.extract, hi]
end Go.Proofs.Ytjopgogaipkdbaa
