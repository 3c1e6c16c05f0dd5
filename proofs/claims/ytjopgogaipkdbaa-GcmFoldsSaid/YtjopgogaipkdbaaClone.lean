/- bytes.Clone. -/
import Derived.Test.YtjopgogaipkdbaaBlockA
import Derived.Test.YtjopgogaipkdbaaApp
import Derived.Test.YtjopgogaipkdbaaNew
namespace Go.Proofs.Ytjopgogaipkdbaa
open Go.RowKit

theorem eql_nil_slice (w : World) (a : Option Addr) (n c : Nat) : (binOp .eql 24 (.slice a n c) (.slice none 0 0)).run Try.prog w = .ok (.bool a.isNone) w := by
  simp only [binOp]
  simp [Op.equal, Op.maxDepth, Lib.run_equalIn_slice_nil w 9999 24 5 a n c 0 0 Try.underlying24]
attribute [local go_sem] eql_nil_slice
set_option maxRecDepth 100000 in
set_option maxHeartbeats 1000000 in
theorem clone_any (v : Value) (l : List UInt8) (w : World) (hv : SlB w v l) (hl : l.length ≤ 140737488355328) : Calls Try.prog 57 #[v] w fun e w' => ∃ v', e = .returned v' ∧ Buf 5 w' w.heap.size v' l ∧ Below w.heap.size w w' := by
  have hv0 := hv
  obtain ⟨a, cap, rfl, h1, h2, h3, h4⟩ := hv
  cases a with
  | none =>
    obtain rfl : cap = 0 := h3 rfl
    have : l = [] := List.eq_nil_of_length_eq_zero (by omega)
    subst this
    go_enter Try.func57, Try.ntmps57
    go_wp2_with fail
    go_ret
    exact ⟨_, rfl, by simpa [Buf] using World.ownsRow_nil w w.heap.size 5 1, Below.refl _ w⟩
  | some ad =>
    have HV := Lib.hid hv0
    clear hv0 h4 h3
    have hB : Below w.heap.size w (w.alloc (.cells #[] 5)) := (Below.refl _ w).alloc (Nat.le_refl _) _
    have hS : SlB (w.alloc (.cells #[] 5)) (.slice (some ad) l.length cap) l := HV.out.below hB
    have HS := Lib.hid hS
    have HB := Lib.hid hB
    clear hS hB
    go_enter Try.func57, Try.ntmps57
    go_wp2_with (at_builtin; refine wpl_appendS rfl (.tmp 5) (.tmp 6) 24 rfl Try.underlying24 info_u8 w.heap.size _ [] rfl (Buf.empty _ _ _ rfl (Nat.le_refl _)) _ l rfl HS.out (by simpa using hl) (by simp) ?_)
    intro v' w' hb hg
    have hBw : Below w.heap.size w w' := HB.out.grown hg (by simp) (fun k e => by simp [Value.ownBlock] at e; omega)
    have Hb := Lib.hid (show Buf 5 w' w.heap.size v' l from hb)
    clear hb hg
    go_wp2_with fail
    go_ret
    exact ⟨_, rfl, Hb.out, hBw⟩
end Go.Proofs.Ytjopgogaipkdbaa
