/- The walk of gcm's times, Product. -/
import Derived.Test.YtjopgogaipkdbaaGcmA
namespace Go.Proofs.Ytjopgogaipkdbaa
open Go.RowKit

/-- One step of what is added: times x. -/
def stH (h l : UInt64) : UInt64 := if oddQ l then xq (hf h) polyQ else hf h
def stL (h l : UInt64) : UInt64 := orh l h
def itF (h l : UInt64) : Nat → UInt64 × UInt64
  | 0 => (h, l)
  | k + 1 => (stH (itF h l k).1 (itF h l k).2, stL (itF h l k).1 (itF h l k).2)
/-- The bit j of the first element, from the top. -/
def bitT (x y : UInt64) (j : Nat) : Bool := if j < 64 then bitQ x (63 - j) else bitQ y (127 - j)
def itZ (x y h l : UInt64) : Nat → UInt64 × UInt64
  | 0 => (0, 0)
  | k + 1 => if bitT x y k then (xq (itZ x y h l k).1 (itF h l k).1, xq (itZ x y h l k).2 (itF h l k).2) else itZ x y h l k
theorem half_shr64 (x : UInt64) : (x.toNat : Int) / 2 = ((hf x).toNat : Int) := by rw [hf_nat]; omega
attribute [local go_sem] half_shr64
theorem bq_orh' (y x : UInt64) : bits .or .u64 ((hf y).toNat : Int) (IntKind.u64.wrap ((x.toNat : Int) * 9223372036854775808)) = ((orh y x).toNat : Int) := by
  rw [← half_shr64, bq_orh]
attribute [local go_sem] bq_orh'

set_option maxRecDepth 100000 in
set_option maxHeartbeats 4000000 in
theorem gtimes_any (x y h l : UInt64) (w : World) : Calls Try.prog 47 #[.agg #[Q x, Q y], .agg #[Q h, Q l]] w fun e w' => e = .returned (.agg #[Q (itZ x y h l 128).1, Q (itZ x y h l 128).2]) ∧ Below w.heap.size w w' := by
  go_enter Try.func47, Try.ntmps47
  go_wp2_with fail
  obtain ⟨w0, hw0⟩ : ∃ w0, w0 = (((w.alloc (.cells #[Q x, Q y] 76)).alloc (.cells #[Q h, Q l] 76)).alloc (.cells #[.int .u64 0, .int .u64 0] 76)).alloc (.cells #[.int .u64 0, .int .u64 0] 76) := ⟨_, rfl⟩
  rw [← hw0]
  have h3 : Row w0 (w.heap.size + 1) 76 #[Q h, Q l] := by rw [hw0]; exact ((Row.newAt _ _ _ _ (by simp)).alloc _).alloc _
  have h4 : RowN w0 (w.heap.size + 1 + 1) 76 2 := by rw [hw0]; exact (RowN.newAt _ _ _ #[.int .u64 0, .int .u64 0] (by simp)).alloc _
  have h5 : Row w0 (w.heap.size + 1 + 1 + 1) 76 #[Q 0, Q 0] := by rw [hw0]; exact Row.newAt _ _ _ _ (by simp)
  have hB : Below w.heap.size w w0 := by rw [hw0]; exact (((((Below.refl _ w).alloc (Nat.le_refl _) _).alloc (by simp) _)).alloc (by simp <;> omega) _).alloc (by simp <;> omega) _
  clear hw0
  go_loopg [7, 15] 2 (fun n xv iv wr => ∃ r : Nat, n + r = 2 ∧ iv = .int .i64 r ∧ Row wr (w.heap.size + 1) 76 #[Q (itF h l (64 * r)).1, Q (itF h l (64 * r)).2] ∧ RowN wr (w.heap.size + 1 + 1) 76 2 ∧ Row wr (w.heap.size + 1 + 1 + 1) 76 #[Q (itZ x y h l (64 * r)).1, Q (itZ x y h l (64 * r)).2] ∧ Below w.heap.size w wr)
  case atStart => exact ⟨0, by omega, rfl, h3, h4, h5, hB⟩
  case round =>
    clear h3 h4 h5 hB
    obtain ⟨r, hr, rfl, h3, h4, h5, hB⟩ := hrel
    have hr3 : r = 0 ∨ r = 1 ∨ r = 2 := by omega
    obtain ⟨no, rfl⟩ : ∃ no : Nat, no = gk := ⟨_, rfl⟩
    rcases hr3 with rfl | rfl | rfl
    ·
      --<A
      have hX : ∀ k, k < 64 → bitT x y (0 + k) = bitQ x (63 - k) := by
        intro k hk
        unfold bitT
        rw [if_pos (by omega), Nat.zero_add]
      have HX := Lib.hid hX
      clear hX
      rw [show (((0 : Nat) : Int)) = 0 from rfl]
      go_wp2_with fail
      go_loopg [8, 9] 64 (fun n iv ov wr => ∃ k : Nat, n + k = 64 ∧ iv = .int .i64 (63 - (k : Int)) ∧ Row wr (w.heap.size + 1) 76 #[Q (itF h l (0 + k)).1, Q (itF h l (0 + k)).2] ∧ RowN wr (w.heap.size + 1 + 1) 76 2 ∧ Row wr (w.heap.size + 1 + 1 + 1) 76 #[Q (itZ x y h l (0 + k)).1, Q (itZ x y h l (0 + k)).2] ∧ Below w.heap.size w wr)
      case atStart => exact ⟨0, by omega, rfl, h3, h4, h5, hB⟩
      case round =>
        clear h3 h4 h5 hB
        obtain ⟨k, hk, rfl, h3, h4, h5, hB⟩ := hrel
        have l3 := h3.lt
        have l5 := h5.lt
        by_cases hk64 : k < 64
        · have b1 : 0 ≤ 63 - (k : Int) := by omega
          have b2 : 63 - (k : Int) ≤ 64 := by omega
          obtain ⟨m, hm⟩ : ∃ m, m = 63 - k := ⟨_, rfl⟩
          have hm2 : (63 - (k : Int)).toNat = m := by omega
          have b3 : (63 - (k : Int) - 1) = 63 - ((k + 1 : Nat) : Int) := by omega
          have hbit := HX.out k hk64
          rw [← hm] at hbit
          have hF : itF h l (0 + (k + 1)) = (stH (itF h l (0 + k)).1 (itF h l (0 + k)).2, stL (itF h l (0 + k)).1 (itF h l (0 + k)).2) := rfl
          have hZ : itZ x y h l (0 + (k + 1)) = if bitT x y (0 + k) then (xq (itZ x y h l (0 + k)).1 (itF h l (0 + k)).1, xq (itZ x y h l (0 + k)).2 (itF h l (0 + k)).2) else itZ x y h l (0 + k) := rfl
          rw [hbit] at hZ
          obtain ⟨fh, hfh⟩ : ∃ v, v = (itF h l (0 + k)).1 := ⟨_, rfl⟩
          obtain ⟨fl, hfl⟩ : ∃ v, v = (itF h l (0 + k)).2 := ⟨_, rfl⟩
          obtain ⟨zp, hzp⟩ : ∃ v, v = itZ x y h l (0 + k) := ⟨_, rfl⟩
          obtain ⟨zh, zl⟩ := zp
          rw [← hfh, ← hfl] at h3 hF hZ
          rw [← hzp] at h5 hZ
          have t1 := bq_bit x m
          have t2 := bq_odd fl
          have B3 := Lib.hid b3
          have HF := Lib.hid hF
          clear hm hbit hfh hfl hzp b3 hF
          cases hb : bitQ x m
          case' false =>
            rw [hb] at t1 hZ
            have hZ2 : itZ x y h l (0 + (k + 1)) = (zh, zl) := hZ
            have HZ := Lib.hid hZ2
            clear hZ hZ2 hb
            go_upto_region 10 with (fail)
            obtain ⟨w2, rfl⟩ : ∃ w2 : World, w2 = wr := ⟨_, rfl⟩
            obtain ⟨z1, rfl⟩ : ∃ z, z = zh := ⟨_, rfl⟩
            obtain ⟨z2, rfl⟩ : ∃ z, z = zl := ⟨_, rfl⟩
          case' true =>
            rw [hb] at t1 hZ
            have hZ2 : itZ x y h l (0 + (k + 1)) = (xq zh fh, xq zl fl) := hZ
            go_upto_region 10 with (go_at_call 46; refine (gadd_any _ _ _ _ _).mono ?_; rintro e w1 ⟨rfl, hb1⟩; have g3 := h3.below hb1 l3; have g4 := h4.below hb1 h4.lt; have g5 := h5.below hb1 l5; have gB := hB.trans (hb1.mono hB.size); clear h3 h4 h5 hB hb1; have m5 := g5.lt)
            obtain ⟨z1, hz1⟩ : ∃ z, z = xq zh fh := ⟨_, rfl⟩
            obtain ⟨z2, hz2⟩ : ∃ z, z = xq zl fl := ⟨_, rfl⟩
            rw [← hz1, ← hz2] at hZ2 ⊢
            have HZ := Lib.hid hZ2
            obtain ⟨w2, hw2⟩ : ∃ w2, w2 = w1.setRow (w.heap.size + 1 + 1 + 1) #[Q z1, Q z2] := ⟨_, rfl⟩
            rw [← hw2]
            have h3 : Row w2 (w.heap.size + 1) 76 #[Q fh, Q fl] := by rw [hw2]; exact g3.setRowOther _ _ (by omega)
            have h4 : RowN w2 (w.heap.size + 1 + 1) 76 2 := by rw [hw2]; exact g4.setRowOther _ _ (by omega)
            have h5 : Row w2 (w.heap.size + 1 + 1 + 1) 76 #[Q z1, Q z2] := by rw [hw2]; exact g5.setRow _
            have hB : Below w.heap.size w w2 := by rw [hw2]; exact bSetRow gB (by omega) _
            clear hw2 g3 g4 g5 gB m5 hz1 hz2 hZ hZ2 hb
          all_goals
            have l3 := h3.lt
            have l5 := h5.lt
            cases ho : oddQ fl
            all_goals
              rw [ho] at t2
              have HO := Lib.hid ho
              clear ho
              go_wp2_with fail
              go_roundg (gk - 1)
              case measure => omega
              case rel =>
                refine ⟨k + 1, by omega, by rw [B3.out], ?_, ?_, ?_, ?_⟩
                · rw [HF.out]
                  unfold stH stL
                  rw [HO.out]
                  first | exact h3.setRow _ | exact (h3.setRow _).set 0 _
                · first | exact h4.setRowOther _ _ (by omega) | exact (h4.setRowOther _ _ (by omega)).setOther _ _ (by simp <;> omega)
                · rw [HZ.out]
                  first | exact h5.setRowOther _ _ (by omega) | exact (h5.setRowOther _ _ (by omega)).setOther _ _ (by simp <;> omega)
                · first | exact bSetRow hB (by omega) _ | exact (bSetRow hB (by omega) _).setCell (by simp <;> omega) _
        · obtain rfl : k = 64 := by omega
          rw [show (63 : Int) - ((64 : Nat) : Int) = -1 from rfl]
          go_wp2_with fail
          go_roundg (no - 1)
          case measure => omega
          case rel => exact ⟨0 + 1, by omega, by go_num, h3, h4, h5, hB⟩
      --A>
    ·
      --<B
      have hX : ∀ k, k < 64 → bitT x y (64 + k) = bitQ y (63 - k) := by
        intro k hk
        unfold bitT
        rw [if_neg (by omega), show 127 - (64 + k) = 63 - k by omega]
      have HX := Lib.hid hX
      clear hX
      rw [show (((1 : Nat) : Int)) = 1 from rfl]
      go_wp2_with fail
      go_loopg [8, 9] 64 (fun n iv ov wr => ∃ k : Nat, n + k = 64 ∧ iv = .int .i64 (63 - (k : Int)) ∧ Row wr (w.heap.size + 1) 76 #[Q (itF h l (64 + k)).1, Q (itF h l (64 + k)).2] ∧ RowN wr (w.heap.size + 1 + 1) 76 2 ∧ Row wr (w.heap.size + 1 + 1 + 1) 76 #[Q (itZ x y h l (64 + k)).1, Q (itZ x y h l (64 + k)).2] ∧ Below w.heap.size w wr)
      case atStart => exact ⟨0, by omega, rfl, h3, h4, h5, hB⟩
      case round =>
        clear h3 h4 h5 hB
        obtain ⟨k, hk, rfl, h3, h4, h5, hB⟩ := hrel
        have l3 := h3.lt
        have l5 := h5.lt
        by_cases hk64 : k < 64
        · have b1 : 0 ≤ 63 - (k : Int) := by omega
          have b2 : 63 - (k : Int) ≤ 64 := by omega
          obtain ⟨m, hm⟩ : ∃ m, m = 63 - k := ⟨_, rfl⟩
          have hm2 : (63 - (k : Int)).toNat = m := by omega
          have b3 : (63 - (k : Int) - 1) = 63 - ((k + 1 : Nat) : Int) := by omega
          have hbit := HX.out k hk64
          rw [← hm] at hbit
          have hF : itF h l (64 + (k + 1)) = (stH (itF h l (64 + k)).1 (itF h l (64 + k)).2, stL (itF h l (64 + k)).1 (itF h l (64 + k)).2) := rfl
          have hZ : itZ x y h l (64 + (k + 1)) = if bitT x y (64 + k) then (xq (itZ x y h l (64 + k)).1 (itF h l (64 + k)).1, xq (itZ x y h l (64 + k)).2 (itF h l (64 + k)).2) else itZ x y h l (64 + k) := rfl
          rw [hbit] at hZ
          obtain ⟨fh, hfh⟩ : ∃ v, v = (itF h l (64 + k)).1 := ⟨_, rfl⟩
          obtain ⟨fl, hfl⟩ : ∃ v, v = (itF h l (64 + k)).2 := ⟨_, rfl⟩
          obtain ⟨zp, hzp⟩ : ∃ v, v = itZ x y h l (64 + k) := ⟨_, rfl⟩
          obtain ⟨zh, zl⟩ := zp
          rw [← hfh, ← hfl] at h3 hF hZ
          rw [← hzp] at h5 hZ
          have t1 := bq_bit y m
          have t2 := bq_odd fl
          have B3 := Lib.hid b3
          have HF := Lib.hid hF
          clear hm hbit hfh hfl hzp b3 hF
          cases hb : bitQ y m
          case' false =>
            rw [hb] at t1 hZ
            have hZ2 : itZ x y h l (64 + (k + 1)) = (zh, zl) := hZ
            have HZ := Lib.hid hZ2
            clear hZ hZ2 hb
            go_upto_region 10 with (fail)
            obtain ⟨w2, rfl⟩ : ∃ w2 : World, w2 = wr := ⟨_, rfl⟩
            obtain ⟨z1, rfl⟩ : ∃ z, z = zh := ⟨_, rfl⟩
            obtain ⟨z2, rfl⟩ : ∃ z, z = zl := ⟨_, rfl⟩
          case' true =>
            rw [hb] at t1 hZ
            have hZ2 : itZ x y h l (64 + (k + 1)) = (xq zh fh, xq zl fl) := hZ
            go_upto_region 10 with (go_at_call 46; refine (gadd_any _ _ _ _ _).mono ?_; rintro e w1 ⟨rfl, hb1⟩; have g3 := h3.below hb1 l3; have g4 := h4.below hb1 h4.lt; have g5 := h5.below hb1 l5; have gB := hB.trans (hb1.mono hB.size); clear h3 h4 h5 hB hb1; have m5 := g5.lt)
            obtain ⟨z1, hz1⟩ : ∃ z, z = xq zh fh := ⟨_, rfl⟩
            obtain ⟨z2, hz2⟩ : ∃ z, z = xq zl fl := ⟨_, rfl⟩
            rw [← hz1, ← hz2] at hZ2 ⊢
            have HZ := Lib.hid hZ2
            obtain ⟨w2, hw2⟩ : ∃ w2, w2 = w1.setRow (w.heap.size + 1 + 1 + 1) #[Q z1, Q z2] := ⟨_, rfl⟩
            rw [← hw2]
            have h3 : Row w2 (w.heap.size + 1) 76 #[Q fh, Q fl] := by rw [hw2]; exact g3.setRowOther _ _ (by omega)
            have h4 : RowN w2 (w.heap.size + 1 + 1) 76 2 := by rw [hw2]; exact g4.setRowOther _ _ (by omega)
            have h5 : Row w2 (w.heap.size + 1 + 1 + 1) 76 #[Q z1, Q z2] := by rw [hw2]; exact g5.setRow _
            have hB : Below w.heap.size w w2 := by rw [hw2]; exact bSetRow gB (by omega) _
            clear hw2 g3 g4 g5 gB m5 hz1 hz2 hZ hZ2 hb
          all_goals
            have l3 := h3.lt
            have l5 := h5.lt
            cases ho : oddQ fl
            all_goals
              rw [ho] at t2
              have HO := Lib.hid ho
              clear ho
              go_wp2_with fail
              go_roundg (gk - 1)
              case measure => omega
              case rel =>
                refine ⟨k + 1, by omega, by rw [B3.out], ?_, ?_, ?_, ?_⟩
                · rw [HF.out]
                  unfold stH stL
                  rw [HO.out]
                  first | exact h3.setRow _ | exact (h3.setRow _).set 0 _
                · first | exact h4.setRowOther _ _ (by omega) | exact (h4.setRowOther _ _ (by omega)).setOther _ _ (by simp <;> omega)
                · rw [HZ.out]
                  first | exact h5.setRowOther _ _ (by omega) | exact (h5.setRowOther _ _ (by omega)).setOther _ _ (by simp <;> omega)
                · first | exact bSetRow hB (by omega) _ | exact (bSetRow hB (by omega) _).setCell (by simp <;> omega) _
        · obtain rfl : k = 64 := by omega
          rw [show (63 : Int) - ((64 : Nat) : Int) = -1 from rfl]
          go_wp2_with fail
          go_roundg (no - 1)
          case measure => omega
          case rel => exact ⟨1 + 1, by omega, by go_num, h3, h4, h5, hB⟩
      --B>
    ·
      obtain ⟨z, hz, hzs⟩ := h4
      rw [show (((2 : Nat) : Int)) = 2 from rfl]
      go_wp2_with fail
      exact ret_row (.inl rfl) rfl (w.heap.size + 1 + 1) _ _ 2 _ rfl (hz.setRow _) Try.underlying76 rfl (by kernel_rfl) rfl ⟨rfl, bSetRow hB (by omega) _⟩
end Go.Proofs.Ytjopgogaipkdbaa
