/- The law GcmSizes: the walk. -/
import Derived.Test.YtjopgogaipkdbaaBoxes
namespace Go.Proofs.Ytjopgogaipkdbaa
open Go.RowKit

set_option maxRecDepth 100000 in
set_option maxHeartbeats 2000000 in
theorem gsizes_ok (a : Option Addr) (cap : Nat) (l : List UInt8) (w : World) (hl : l.length = 16 ∨ l.length = 32) (hv : SlB w (.slice a l.length cap) l) (hcap : l.length ≤ cap) : Calls Try.prog 8 #[.slice a l.length cap] w fun e w' => e = .returned (.bool true) ∧ Below w.heap.size w w' := by
  have HN := Lib.hid (gnew_ok _ l w hv hl)
  have HBX := Lib.hid (fun w => gboxes_any w)
  clear hv
  rcases hl with hl | hl <;> rw [hl] at HN hcap ⊢ <;> clear hl
  all_goals
    go_enter Try.func8, Try.ntmps8
    go_wp2_with (first | (go_at_call 24; refine HN.out.mono ?_; rintro e w1 ⟨p, rfl, hb, hb1⟩; obtain ⟨xb, hp⟩ : ∃ xb, p = .pointer (some ⟨xb, 0, none⟩) := (let ⟨a, _, h, _⟩ := hb; ⟨a, h⟩); subst hp; have HB1 := Lib.hid hb1; clear hb hb1) | (go_at_call 21; refine (HBX.out _).mono ?_; rintro e w2 ⟨rfl, hb2⟩; have HB2 := Lib.hid (HB1.out.trans (hb2.mono HB1.out.size)); clear hb2))
    go_ret
    exact ⟨rfl, HB2.out⟩
set_option maxRecDepth 100000 in
set_option maxHeartbeats 2000000 in
theorem gsizes_bad (a : Option Addr) (cap : Nat) (l : List UInt8) (w : World) (h16 : l.length ≠ 16) (h32 : l.length ≠ 32) (hv : SlB w (.slice a l.length cap) l) (hcap : l.length ≤ cap) : Calls Try.prog 8 #[.slice a l.length cap] w fun e w' => e = .returned (.bool true) ∧ Below w.heap.size w w' := by
  have HN := Lib.hid (gnew_bad _ l w hv (by omega))
  have HN70 : ∀ _ : 70 ≤ l.length, _ := fun h => gnew_bad _ (l.take 70) w (hv.take 70 h) (by simp; omega)
  have HN70 := Lib.hid HN70
  have HBX := Lib.hid (fun w => gboxes_any w)
  have t1 : ((l.length : Int) == 16) = false := by simp; omega
  have t2 : ((l.length : Int) == 32) = false := by simp; omega
  have t3 : ((l.length : Int) != 16) = true := by simp; omega
  have t4 : ((l.length : Int) != 32) = true := by simp; omega
  have t5 : ¬ (l.length : Int) = 16 := by omega
  have t6 : ¬ (l.length : Int) = 32 := by omega
  have hci : (l.length : Int) ≤ (cap : Int) := by omega
  clear hv h16 h32
  rcases Nat.lt_or_ge 70 l.length with hlt | hlt
  · have hl1 : ¬ ((l.length : Int) ≤ 70) := by omega
    have hl2 : (70 : Int) < (l.length : Int) := by omega
    have hl3 : ((70 : Int) : Int) ≤ (cap : Int) := by omega
    have HN7 := Lib.hid (HN70.out (by omega))
    clear HN70 HN hlt hcap
    go_enter Try.func8, Try.ntmps8
    go_wp2_with (first | (go_at_call 24; refine HN7.out.mono ?_; rintro e w1 ⟨rfl, hb1⟩; have HB1 := Lib.hid hb1; clear hb1) | (go_at_call 21; refine (HBX.out _).mono ?_; rintro e w2 ⟨rfl, hb2⟩; have HB2 := Lib.hid (HB1.out.trans (hb2.mono HB1.out.size)); clear hb2))
    go_ret
    exact ⟨rfl, HB2.out⟩
  · have hl1 : (l.length : Int) ≤ 70 := by omega
    have hl2 : ¬ (70 : Int) < (l.length : Int) := by omega
    have hl3 : (0 : Int) ≤ (l.length : Int) := by omega
    clear HN70 hlt hcap
    go_enter Try.func8, Try.ntmps8
    go_wp2_with (first | (go_at_call 24; refine HN.out.mono ?_; rintro e w1 ⟨rfl, hb1⟩; have HB1 := Lib.hid hb1; clear hb1) | (go_at_call 21; refine (HBX.out _).mono ?_; rintro e w2 ⟨rfl, hb2⟩; have HB2 := Lib.hid (HB1.out.trans (hb2.mono HB1.out.size)); clear hb2))
    go_ret
    exact ⟨rfl, HB2.out⟩
theorem gcmSizes_any (v : Value) (l : List UInt8) (w : World) (hv : SlB w v l) : Calls Try.prog 8 #[v] w fun e w' => e = .returned (.bool true) ∧ Below w.heap.size w w' := by
  obtain ⟨a, cap, hvv⟩ : ∃ a c, v = .slice a l.length c := let ⟨a, c, h, _⟩ := hv; ⟨a, c, h⟩
  subst hvv
  have hcap : l.length ≤ cap := by obtain ⟨a', c', h, h1, _⟩ := hv; simp only [Value.slice.injEq] at h; omega
  by_cases h16 : l.length = 16
  · exact gsizes_ok a cap l w (.inl h16) hv hcap
  · by_cases h32 : l.length = 32
    · exact gsizes_ok a cap l w (.inr h32) hv hcap
    · exact gsizes_bad a cap l w h16 h32 hv hcap
end Go.Proofs.Ytjopgogaipkdbaa
