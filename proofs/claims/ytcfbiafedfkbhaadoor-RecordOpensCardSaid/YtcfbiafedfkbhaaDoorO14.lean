/- Part of the proof: GcmA, GcmC, Door, GcmD. No conditions of its own. -/
import Derived.BigQuiet
import Derived.Deep.DeepCutAuto
import Derived.Deep.LoopGhost
import Derived.Deep.Quiet
import Derived.Deep.QuietTactic
import Derived.Laws.Bits64
import Derived.Laws.BitsAllLaws
import Derived.Lib.Hide
import Derived.StillTail
import Derived.Test.YtcfbiafedfkbhaaDoorProg
import Derived.WalkKit
import Derived.WalkSpells
import Derived.Test.YtcfbiafedfkbhaaDoorO02
import Derived.Test.YtcfbiafedfkbhaaDoorO03
import Derived.Test.YtcfbiafedfkbhaaDoorO13
import Derived.Below
import Derived.ChangeOld
import Derived.OpenShut
import Derived.ProofKit
import Derived.ShutString
namespace Go.Proofs.YtcfbiafedfkbhaaDoor
open Go.RowKit

set_option maxRecDepth 100000 in
set_option maxHeartbeats 2000000 in
theorem gadd_any (a b c d : UInt64) (w : World) : Calls Tryd.prog 68 #[.agg #[Q a, Q b], .agg #[Q c, Q d]] w fun e w' => e = .returned (.agg #[Q (xq a c), Q (xq b d)]) ∧ Below w.heap.size w w' := by
  go_enter Tryd.func68, Tryd.ntmps68
  go_wp2_with fail
  refine ret_row (.inl rfl) rfl (w.heap.size + 1 + 1) _ _ 2 _ rfl ((Row.newAt _ _ _ _ (by simp)).setRow _) Tryd.underlying120 rfl (by kernel_rfl) rfl ⟨rfl, ?_⟩
  exact bSetRow (((((Below.refl _ w).alloc (Nat.le_refl _) _).alloc (by simp) _)).alloc (by simp <;> omega) _) (by omega) _

set_option maxRecDepth 100000 in
set_option maxHeartbeats 2000000 in
theorem gof_any (v : Value) (l : List UInt8) (w : World) (hv : SlB w v l) (hl : l.length = 16) : Calls Tryd.prog 67 #[v] w fun e w' => e = .returned (.agg #[Q (hiQ l), Q (loQ l)]) ∧ Below w.heap.size w w' := by
  obtain ⟨b, o, cap, rfl, hcap, hmax, hb, hcell⟩ := hv.addr (by omega)
  rw [hl] at hcap ⊢
  have HL := Lib.hid hl
  clear hl
  go_enter Tryd.func67, Tryd.ntmps67
  go_wp2_with fail
  go_loopg [4, 5] 8 (fun n jv iv wr => ∃ k : Nat, n + k = 8 ∧ iv = .int .i64 k ∧ Row wr (w.heap.size + 1) 120 #[Q (upQ l k), Q (upQ (l.drop 8) k)] ∧ RowN wr w.heap.size 120 2 ∧ Below w.heap.size w wr)
  case atStart =>
    exact ⟨0, by omega, rfl, Row.newAt _ _ _ _ (by simp), (RowN.newAt _ _ _ _ rfl).alloc _, (((Below.refl _ w).alloc (Nat.le_refl _) _).alloc (by simp) _)⟩
  case round =>
    obtain ⟨k, hk, rfl, h1, h2, hB⟩ := hrel
    have l1 := h1.lt
    have l2 := h2.lt
    by_cases hk8 : k < 8
    · have b1 : (k : Int) < 8 := by omega
      obtain ⟨c1, hc1'⟩ : ∃ c, c = gb l k := ⟨_, rfl⟩
      obtain ⟨c2, hc2'⟩ : ∃ c, c = gb l (k + 8) := ⟨_, rfl⟩
      have hc1 : wr.cell? ⟨b, o + k, none⟩ = some (B c1) := by rw [hc1']; exact (hB.cell hb).trans (hcell k (by rw [HL.out]; omega))
      have hc2 : wr.cell? ⟨b, o + (k + 8), none⟩ = some (B c2) := by rw [hc2']; exact (hB.cell hb).trans (hcell (k + 8) (by rw [HL.out]; omega))
      obtain ⟨x, hx⟩ : ∃ x, x = upQ l k := ⟨_, rfl⟩
      obtain ⟨y, hy⟩ : ∃ y, y = upQ (l.drop 8) k := ⟨_, rfl⟩
      rw [← hx, ← hy] at h1
      have ex : sho x c1 = upQ l (k + 1) := by rw [hx, hc1', upQ_step l k (by rw [HL.out]; omega) hk8]
      have ey : sho y c2 = upQ (l.drop 8) (k + 1) := by
        rw [hy, hc2', ← upQ_step (l.drop 8) k (by rw [List.length_drop, HL.out]; omega) hk8]
        congr 1
        simp [gb, Nat.add_comm]
      have EX := Lib.hid ex
      have EY := Lib.hid ey
      have hne : b ≠ w.heap.size + 1 := by omega
      clear hx hy ex ey hc1' hc2'
      go_wp2_with fail
      refine wp_region_qtail (fun w' => w' = _) 10 (by kernel_rfl) (by kernel_rfl) rfl ?_
      simp only [List.take_succ_cons, List.take_zero, List.drop_succ_cons, List.drop_zero]
      repeat (first | go_big_quiet_skip | (go_big_quiet_want; go_big_quiet_op; go_big_quiet_on))
      refine wpQuiet_nil ?_
      rintro _ rfl
      go_wp2_with fail
      refine wp_region_qtail (fun w' => w' = _) 11 (by kernel_rfl) (by kernel_rfl) rfl ?_
      simp only [List.take_succ_cons, List.take_zero, List.drop_succ_cons, List.drop_zero]
      repeat (first | go_big_quiet_skip | (go_big_quiet_want; go_big_quiet_op; go_big_quiet_on))
      refine wpQuiet_nil ?_
      rintro _ rfl
      go_wp2_with fail
      go_roundg (gk - 1)
      case measure => omega
      case rel =>
        refine ⟨k + 1, by omega, by go_num, ?_, (h2.setOther _ _ (by simp)).setOther _ _ (by simp), (((hB.setCell (by simp) _).drew).setCell (by simp) _).drew⟩
        rw [← EX.out, ← EY.out]
        exact (h1.set 0 (Q (sho x c1))).set 1 (Q (sho y c2))
    · obtain rfl : k = 8 := by omega
      have e1 : upQ l 8 = hiQ l := rfl
      have e2 : upQ (l.drop 8) 8 = loQ l := rfl
      rw [e1, e2] at h1
      obtain ⟨z, hz, hzs⟩ := h2
      clear e1 e2
      go_wp2_with fail
      exact ret_row (.inl rfl) rfl w.heap.size _ _ 2 _ rfl (hz.setRow _) Tryd.underlying120 rfl (by kernel_rfl) rfl ⟨rfl, bSetRow hB (by omega) _⟩
end Go.Proofs.YtcfbiafedfkbhaaDoor

/- The walk of gcm's bytes. -/
namespace Go.Proofs.YtcfbiafedfkbhaaDoor
open Go.RowKit

def byQ (x : UInt64) (i : Nat) : UInt8 := UInt8.ofNat (x.toNat / 2 ^ (56 - 8 * i))
theorem byQ_wrap (x : UInt64) (i : Nat) : IntKind.u8.wrap ((x.toNat : Int) / 2 ^ (56 - 8 * i)) = ((byQ x i).toNat : Int) := by
  have e1 : ((x.toNat : Int) / 2 ^ (56 - 8 * i)) = ((x.toNat / 2 ^ (56 - 8 * i) : Nat) : Int) := by simp
  rw [e1, byQ, UInt8.toNat_ofNat']
  simp [IntKind.wrap, IntKind.bits, IntKind.signed]
def outQ (x y : UInt64) (k : Nat) : List UInt8 := tab 16 fun j => if j < k then byQ x j else if 8 ≤ j ∧ j < 8 + k then byQ y (j - 8) else 0
theorem outQ_len (x y : UInt64) (k : Nat) : (outQ x y k).length = 16 := tab_length _ _
theorem outQ_zero (x y : UInt64) : outQ x y 0 = List.replicate 16 0 := by
  have : outQ x y 0 = tab 16 fun _ => 0 := tab_congr fun i _ => by rw [if_neg (by omega), if_neg (by omega)]
  rw [this]; rfl
theorem outQ_step (x y : UInt64) (k : Nat) (hk : k < 8) : ((outQ x y k).set k (byQ x k)).set (k + 8) (byQ y k) = outQ x y (k + 1) := by
  unfold outQ
  rw [tab_set, tab_set]
  apply tab_congr
  intro i hi
  by_cases h1 : i = k + 8
  · subst h1
    rw [if_pos rfl, if_neg (by omega), if_pos (by omega), Nat.add_sub_cancel]
  · rw [if_neg h1]
    by_cases h2 : i = k
    · subst h2; rw [if_pos rfl, if_pos (by omega)]
    · rw [if_neg h2]
      by_cases h3 : i < k
      · rw [if_pos h3, if_pos (by omega)]
      · rw [if_neg h3, if_neg (show ¬ i < k + 1 by omega)]
        by_cases h4 : 8 ≤ i ∧ i < 8 + k
        · rw [if_pos h4, if_pos (by omega)]
        · rw [if_neg h4, if_neg (by omega)]
set_option maxRecDepth 100000 in
set_option maxHeartbeats 2000000 in
theorem gbytes_any (x y : UInt64) (w : World) : Calls Tryd.prog 65 #[.agg #[Q x, Q y]] w fun e w' => e = .returned (.agg (AB (outQ x y 8))) ∧ Below w.heap.size w w' := by
  go_enter Tryd.func65, Tryd.ntmps65
  go_wp2_with fail
  go_loopg [4, 5] 8 (fun n jv iv wr => ∃ k : Nat, n + k = 8 ∧ iv = .int .i64 k ∧ Row wr w.heap.size 120 #[Q x, Q y] ∧ RowN wr (w.heap.size + 1) 84 16 ∧ Row wr (w.heap.size + 1 + 1) 84 (AB (outQ x y k)) ∧ Below w.heap.size w wr)
  case atStart =>
    refine ⟨0, by omega, rfl, ((Row.new w _ _).alloc _).alloc _, (RowN.newAt _ _ _ _ (by simp)).alloc _, ?_, ((((Below.refl _ w).alloc (Nat.le_refl _) _).alloc (by simp) _)).alloc (by simp <;> omega) _⟩
    rw [outQ_zero]
    exact Row.newAt _ _ _ _ (by simp)
  case round =>
    obtain ⟨k, hk, rfl, h1, h2, h3, hB⟩ := hrel
    have l1 := h1.lt
    have l2 := h2.lt
    have l3 := h3.lt
    have hol := outQ_len x y k
    by_cases hk8 : k < 8
    · have b1 : (k : Int) < 8 := by omega
      obtain ⟨m, hm⟩ : ∃ m, m = 56 - 8 * k := ⟨_, rfl⟩
      have hm2 : (56 - 8 * (k : Int)).toNat = m := by omega
      have b2 : 0 ≤ 56 - 8 * (k : Int) := by omega
      have b3 : 56 - 8 * (k : Int) ≤ 64 := by omega
      have b4 : k < 16 := by omega
      have b5 : k + 8 < 16 := by omega
      have hs := outQ_step x y k hk8
      obtain ⟨bx, hbx⟩ : ∃ b, b = byQ x k := ⟨_, rfl⟩
      obtain ⟨bz, hbz⟩ : ∃ b, b = byQ y k := ⟨_, rfl⟩
      have hw1 : IntKind.u8.wrap ((x.toNat : Int) / 2 ^ m) = (bx.toNat : Int) := by rw [hm, hbx]; exact byQ_wrap x k
      have hw2 : IntKind.u8.wrap ((y.toNat : Int) / 2 ^ m) = (bz.toNat : Int) := by rw [hm, hbz]; exact byQ_wrap y k
      rw [← hbx, ← hbz] at hs
      obtain ⟨L, hL⟩ : ∃ L, L = outQ x y k := ⟨_, rfl⟩
      rw [← hL] at hs hol h3
      have HS := Lib.hid hs
      clear hm hbx hbz hL hs
      go_wp2_with fail
      go_roundg (gk - 1)
      case measure => omega
      case rel =>
        refine ⟨k + 1, by omega, by go_num, (h1.setOther _ _ (by simp; omega)).setOther _ _ (by simp; omega), (h2.setOther _ _ (by simp)).setOther _ _ (by simp), ?_, (hB.setCell (by simp; omega) _).setCell (by simp; omega) _⟩
        rw [← HS.out]
        exact (h3.setByte k _).setByte (k + 8) _
    · obtain rfl : k = 8 := by omega
      obtain ⟨z, hz, hzs⟩ := h2
      have hl16 := (AB_size (outQ x y 8)).trans hol
      go_wp2_with fail
      exact ret_row (.inl rfl) rfl (w.heap.size + 1) _ _ 16 _ rfl (hz.setRow _) Tryd.underlying84 rfl (by kernel_rfl) hl16 ⟨rfl, bSetRow hB (by omega) _⟩
end Go.Proofs.YtcfbiafedfkbhaaDoor

namespace Go.Proofs.YtcfbiafedfkbhaaDoor
open Go.RowKit

def stH (h l : UInt64) : UInt64 := if oddQ l then xq (hf h) polyQ else hf h
def stL (h l : UInt64) : UInt64 := orh l h
def itF (h l : UInt64) : Nat → UInt64 × UInt64
  | 0 => (h, l)
  | k + 1 => (stH (itF h l k).1 (itF h l k).2, stL (itF h l k).1 (itF h l k).2)
def bitT (x y : UInt64) (j : Nat) : Bool := if j < 64 then bitQ x (63 - j) else bitQ y (127 - j)
def itZ (x y h l : UInt64) : Nat → UInt64 × UInt64
  | 0 => (0, 0)
  | k + 1 => if bitT x y k then (xq (itZ x y h l k).1 (itF h l k).1, xq (itZ x y h l k).2 (itF h l k).2) else itZ x y h l k
theorem half_shr64 (x : UInt64) : (x.toNat : Int) / 2 = ((hf x).toNat : Int) := by rw [hf_nat]; omega
attribute [local go_sem] half_shr64
theorem bq_orh' (y x : UInt64) : bits .or .u64 ((hf y).toNat : Int) (IntKind.u64.wrap ((x.toNat : Int) * 9223372036854775808)) = ((orh y x).toNat : Int) := by
  rw [← half_shr64, bq_orh]
attribute [local go_sem] bq_orh'

set_option maxRecDepth 100000 in
set_option maxHeartbeats 4000000 in
theorem gtimes_any (x y h l : UInt64) (w : World) : Calls Tryd.prog 84 #[.agg #[Q x, Q y], .agg #[Q h, Q l]] w fun e w' => e = .returned (.agg #[Q (itZ x y h l 128).1, Q (itZ x y h l 128).2]) ∧ Below w.heap.size w w' := by
  go_enter Tryd.func84, Tryd.ntmps84
  go_wp2_with fail
  obtain ⟨w0, hw0⟩ : ∃ w0, w0 = (((w.alloc (.cells #[Q x, Q y] 120)).alloc (.cells #[Q h, Q l] 120)).alloc (.cells #[.int .u64 0, .int .u64 0] 120)).alloc (.cells #[.int .u64 0, .int .u64 0] 120) := ⟨_, rfl⟩
  rw [← hw0]
  have h3 : Row w0 (w.heap.size + 1) 120 #[Q h, Q l] := by rw [hw0]; exact ((Row.newAt _ _ _ _ (by simp)).alloc _).alloc _
  have h4 : RowN w0 (w.heap.size + 1 + 1) 120 2 := by rw [hw0]; exact (RowN.newAt _ _ _ #[.int .u64 0, .int .u64 0] (by simp)).alloc _
  have h5 : Row w0 (w.heap.size + 1 + 1 + 1) 120 #[Q 0, Q 0] := by rw [hw0]; exact Row.newAt _ _ _ _ (by simp)
  have hB : Below w.heap.size w w0 := by rw [hw0]; exact (((((Below.refl _ w).alloc (Nat.le_refl _) _).alloc (by simp) _)).alloc (by simp <;> omega) _).alloc (by simp <;> omega) _
  clear hw0
  go_loopg [7, 15] 2 (fun n xv iv wr => ∃ r : Nat, n + r = 2 ∧ iv = .int .i64 r ∧ Row wr (w.heap.size + 1) 120 #[Q (itF h l (64 * r)).1, Q (itF h l (64 * r)).2] ∧ RowN wr (w.heap.size + 1 + 1) 120 2 ∧ Row wr (w.heap.size + 1 + 1 + 1) 120 #[Q (itZ x y h l (64 * r)).1, Q (itZ x y h l (64 * r)).2] ∧ Below w.heap.size w wr)
  case atStart => exact ⟨0, by omega, rfl, h3, h4, h5, hB⟩
  case round =>
    clear h3 h4 h5 hB
    obtain ⟨r, hr, rfl, h3, h4, h5, hB⟩ := hrel
    have hr3 : r = 0 ∨ r = 1 ∨ r = 2 := by omega
    obtain ⟨no, rfl⟩ : ∃ no : Nat, no = gk := ⟨_, rfl⟩
    rcases hr3 with rfl | rfl | rfl
    ·
      --<A
      have hX : ∀ k, k < 64 → bitT x y (0 + k) = bitQ x (63 - k) := by
        intro k hk
        unfold bitT
        rw [if_pos (by omega), Nat.zero_add]
      have HX := Lib.hid hX
      clear hX
      rw [show (((0 : Nat) : Int)) = 0 from rfl]
      go_wp2_with fail
      go_loopg [8, 9] 64 (fun n iv ov wr => ∃ k : Nat, n + k = 64 ∧ iv = .int .i64 (63 - (k : Int)) ∧ Row wr (w.heap.size + 1) 120 #[Q (itF h l (0 + k)).1, Q (itF h l (0 + k)).2] ∧ RowN wr (w.heap.size + 1 + 1) 120 2 ∧ Row wr (w.heap.size + 1 + 1 + 1) 120 #[Q (itZ x y h l (0 + k)).1, Q (itZ x y h l (0 + k)).2] ∧ Below w.heap.size w wr)
      case atStart => exact ⟨0, by omega, rfl, h3, h4, h5, hB⟩
      case round =>
        clear h3 h4 h5 hB
        obtain ⟨k, hk, rfl, h3, h4, h5, hB⟩ := hrel
        have l3 := h3.lt
        have l5 := h5.lt
        by_cases hk64 : k < 64
        · have b1 : 0 ≤ 63 - (k : Int) := by omega
          have b2 : 63 - (k : Int) ≤ 64 := by omega
          obtain ⟨m, hm⟩ : ∃ m, m = 63 - k := ⟨_, rfl⟩
          have hm2 : (63 - (k : Int)).toNat = m := by omega
          have b3 : (63 - (k : Int) - 1) = 63 - ((k + 1 : Nat) : Int) := by omega
          have hbit := HX.out k hk64
          rw [← hm] at hbit
          have hF : itF h l (0 + (k + 1)) = (stH (itF h l (0 + k)).1 (itF h l (0 + k)).2, stL (itF h l (0 + k)).1 (itF h l (0 + k)).2) := rfl
          have hZ : itZ x y h l (0 + (k + 1)) = if bitT x y (0 + k) then (xq (itZ x y h l (0 + k)).1 (itF h l (0 + k)).1, xq (itZ x y h l (0 + k)).2 (itF h l (0 + k)).2) else itZ x y h l (0 + k) := rfl
          rw [hbit] at hZ
          obtain ⟨fh, hfh⟩ : ∃ v, v = (itF h l (0 + k)).1 := ⟨_, rfl⟩
          obtain ⟨fl, hfl⟩ : ∃ v, v = (itF h l (0 + k)).2 := ⟨_, rfl⟩
          obtain ⟨zp, hzp⟩ : ∃ v, v = itZ x y h l (0 + k) := ⟨_, rfl⟩
          obtain ⟨zh, zl⟩ := zp
          rw [← hfh, ← hfl] at h3 hF hZ
          rw [← hzp] at h5 hZ
          have t1 := bq_bit x m
          have t2 := bq_odd fl
          have B3 := Lib.hid b3
          have HF := Lib.hid hF
          clear hm hbit hfh hfl hzp b3 hF
          cases hb : bitQ x m
          case' false =>
            rw [hb] at t1 hZ
            have hZ2 : itZ x y h l (0 + (k + 1)) = (zh, zl) := hZ
            have HZ := Lib.hid hZ2
            clear hZ hZ2 hb
            go_upto_region 10 with (fail)
            obtain ⟨w2, rfl⟩ : ∃ w2 : World, w2 = wr := ⟨_, rfl⟩
            obtain ⟨z1, rfl⟩ : ∃ z, z = zh := ⟨_, rfl⟩
            obtain ⟨z2, rfl⟩ : ∃ z, z = zl := ⟨_, rfl⟩
          case' true =>
            rw [hb] at t1 hZ
            have hZ2 : itZ x y h l (0 + (k + 1)) = (xq zh fh, xq zl fl) := hZ
            go_upto_region 10 with (go_at_call 68; refine (gadd_any _ _ _ _ _).mono ?_; rintro e w1 ⟨rfl, hb1⟩; have g3 := h3.below hb1 l3; have g4 := h4.below hb1 h4.lt; have g5 := h5.below hb1 l5; have gB := hB.trans (hb1.mono hB.size); clear h3 h4 h5 hB hb1; have m5 := g5.lt)
            obtain ⟨z1, hz1⟩ : ∃ z, z = xq zh fh := ⟨_, rfl⟩
            obtain ⟨z2, hz2⟩ : ∃ z, z = xq zl fl := ⟨_, rfl⟩
            rw [← hz1, ← hz2] at hZ2 ⊢
            have HZ := Lib.hid hZ2
            obtain ⟨w2, hw2⟩ : ∃ w2, w2 = w1.setRow (w.heap.size + 1 + 1 + 1) #[Q z1, Q z2] := ⟨_, rfl⟩
            rw [← hw2]
            have h3 : Row w2 (w.heap.size + 1) 120 #[Q fh, Q fl] := by rw [hw2]; exact g3.setRowOther _ _ (by omega)
            have h4 : RowN w2 (w.heap.size + 1 + 1) 120 2 := by rw [hw2]; exact g4.setRowOther _ _ (by omega)
            have h5 : Row w2 (w.heap.size + 1 + 1 + 1) 120 #[Q z1, Q z2] := by rw [hw2]; exact g5.setRow _
            have hB : Below w.heap.size w w2 := by rw [hw2]; exact bSetRow gB (by omega) _
            clear hw2 g3 g4 g5 gB m5 hz1 hz2 hZ hZ2 hb
          all_goals
            have l3 := h3.lt
            have l5 := h5.lt
            cases ho : oddQ fl
            all_goals
              rw [ho] at t2
              have HO := Lib.hid ho
              clear ho
              go_wp2_with fail
              go_roundg (gk - 1)
              case measure => omega
              case rel =>
                refine ⟨k + 1, by omega, by rw [B3.out], ?_, ?_, ?_, ?_⟩
                · rw [HF.out]
                  unfold stH stL
                  rw [HO.out]
                  first | exact h3.setRow _ | exact (h3.setRow _).set 0 _
                · first | exact h4.setRowOther _ _ (by omega) | exact (h4.setRowOther _ _ (by omega)).setOther _ _ (by simp <;> omega)
                · rw [HZ.out]
                  first | exact h5.setRowOther _ _ (by omega) | exact (h5.setRowOther _ _ (by omega)).setOther _ _ (by simp <;> omega)
                · first | exact bSetRow hB (by omega) _ | exact (bSetRow hB (by omega) _).setCell (by simp <;> omega) _
        · obtain rfl : k = 64 := by omega
          rw [show (63 : Int) - ((64 : Nat) : Int) = -1 from rfl]
          go_wp2_with fail
          go_roundg (no - 1)
          case measure => omega
          case rel => exact ⟨0 + 1, by omega, by go_num, h3, h4, h5, hB⟩
      --A>
    ·
      --<B
      have hX : ∀ k, k < 64 → bitT x y (64 + k) = bitQ y (63 - k) := by
        intro k hk
        unfold bitT
        rw [if_neg (by omega), show 127 - (64 + k) = 63 - k by omega]
      have HX := Lib.hid hX
      clear hX
      rw [show (((1 : Nat) : Int)) = 1 from rfl]
      go_wp2_with fail
      go_loopg [8, 9] 64 (fun n iv ov wr => ∃ k : Nat, n + k = 64 ∧ iv = .int .i64 (63 - (k : Int)) ∧ Row wr (w.heap.size + 1) 120 #[Q (itF h l (64 + k)).1, Q (itF h l (64 + k)).2] ∧ RowN wr (w.heap.size + 1 + 1) 120 2 ∧ Row wr (w.heap.size + 1 + 1 + 1) 120 #[Q (itZ x y h l (64 + k)).1, Q (itZ x y h l (64 + k)).2] ∧ Below w.heap.size w wr)
      case atStart => exact ⟨0, by omega, rfl, h3, h4, h5, hB⟩
      case round =>
        clear h3 h4 h5 hB
        obtain ⟨k, hk, rfl, h3, h4, h5, hB⟩ := hrel
        have l3 := h3.lt
        have l5 := h5.lt
        by_cases hk64 : k < 64
        · have b1 : 0 ≤ 63 - (k : Int) := by omega
          have b2 : 63 - (k : Int) ≤ 64 := by omega
          obtain ⟨m, hm⟩ : ∃ m, m = 63 - k := ⟨_, rfl⟩
          have hm2 : (63 - (k : Int)).toNat = m := by omega
          have b3 : (63 - (k : Int) - 1) = 63 - ((k + 1 : Nat) : Int) := by omega
          have hbit := HX.out k hk64
          rw [← hm] at hbit
          have hF : itF h l (64 + (k + 1)) = (stH (itF h l (64 + k)).1 (itF h l (64 + k)).2, stL (itF h l (64 + k)).1 (itF h l (64 + k)).2) := rfl
          have hZ : itZ x y h l (64 + (k + 1)) = if bitT x y (64 + k) then (xq (itZ x y h l (64 + k)).1 (itF h l (64 + k)).1, xq (itZ x y h l (64 + k)).2 (itF h l (64 + k)).2) else itZ x y h l (64 + k) := rfl
          rw [hbit] at hZ
          obtain ⟨fh, hfh⟩ : ∃ v, v = (itF h l (64 + k)).1 := ⟨_, rfl⟩
          obtain ⟨fl, hfl⟩ : ∃ v, v = (itF h l (64 + k)).2 := ⟨_, rfl⟩
          obtain ⟨zp, hzp⟩ : ∃ v, v = itZ x y h l (64 + k) := ⟨_, rfl⟩
          obtain ⟨zh, zl⟩ := zp
          rw [← hfh, ← hfl] at h3 hF hZ
          rw [← hzp] at h5 hZ
          have t1 := bq_bit y m
          have t2 := bq_odd fl
          have B3 := Lib.hid b3
          have HF := Lib.hid hF
          clear hm hbit hfh hfl hzp b3 hF
          cases hb : bitQ y m
          case' false =>
            rw [hb] at t1 hZ
            have hZ2 : itZ x y h l (64 + (k + 1)) = (zh, zl) := hZ
            have HZ := Lib.hid hZ2
            clear hZ hZ2 hb
            go_upto_region 10 with (fail)
            obtain ⟨w2, rfl⟩ : ∃ w2 : World, w2 = wr := ⟨_, rfl⟩
            obtain ⟨z1, rfl⟩ : ∃ z, z = zh := ⟨_, rfl⟩
            obtain ⟨z2, rfl⟩ : ∃ z, z = zl := ⟨_, rfl⟩
          case' true =>
            rw [hb] at t1 hZ
            have hZ2 : itZ x y h l (64 + (k + 1)) = (xq zh fh, xq zl fl) := hZ
            go_upto_region 10 with (go_at_call 68; refine (gadd_any _ _ _ _ _).mono ?_; rintro e w1 ⟨rfl, hb1⟩; have g3 := h3.below hb1 l3; have g4 := h4.below hb1 h4.lt; have g5 := h5.below hb1 l5; have gB := hB.trans (hb1.mono hB.size); clear h3 h4 h5 hB hb1; have m5 := g5.lt)
            obtain ⟨z1, hz1⟩ : ∃ z, z = xq zh fh := ⟨_, rfl⟩
            obtain ⟨z2, hz2⟩ : ∃ z, z = xq zl fl := ⟨_, rfl⟩
            rw [← hz1, ← hz2] at hZ2 ⊢
            have HZ := Lib.hid hZ2
            obtain ⟨w2, hw2⟩ : ∃ w2, w2 = w1.setRow (w.heap.size + 1 + 1 + 1) #[Q z1, Q z2] := ⟨_, rfl⟩
            rw [← hw2]
            have h3 : Row w2 (w.heap.size + 1) 120 #[Q fh, Q fl] := by rw [hw2]; exact g3.setRowOther _ _ (by omega)
            have h4 : RowN w2 (w.heap.size + 1 + 1) 120 2 := by rw [hw2]; exact g4.setRowOther _ _ (by omega)
            have h5 : Row w2 (w.heap.size + 1 + 1 + 1) 120 #[Q z1, Q z2] := by rw [hw2]; exact g5.setRow _
            have hB : Below w.heap.size w w2 := by rw [hw2]; exact bSetRow gB (by omega) _
            clear hw2 g3 g4 g5 gB m5 hz1 hz2 hZ hZ2 hb
          all_goals
            have l3 := h3.lt
            have l5 := h5.lt
            cases ho : oddQ fl
            all_goals
              rw [ho] at t2
              have HO := Lib.hid ho
              clear ho
              go_wp2_with fail
              go_roundg (gk - 1)
              case measure => omega
              case rel =>
                refine ⟨k + 1, by omega, by rw [B3.out], ?_, ?_, ?_, ?_⟩
                · rw [HF.out]
                  unfold stH stL
                  rw [HO.out]
                  first | exact h3.setRow _ | exact (h3.setRow _).set 0 _
                · first | exact h4.setRowOther _ _ (by omega) | exact (h4.setRowOther _ _ (by omega)).setOther _ _ (by simp <;> omega)
                · rw [HZ.out]
                  first | exact h5.setRowOther _ _ (by omega) | exact (h5.setRowOther _ _ (by omega)).setOther _ _ (by simp <;> omega)
                · first | exact bSetRow hB (by omega) _ | exact (bSetRow hB (by omega) _).setCell (by simp <;> omega) _
        · obtain rfl : k = 64 := by omega
          rw [show (63 : Int) - ((64 : Nat) : Int) = -1 from rfl]
          go_wp2_with fail
          go_roundg (no - 1)
          case measure => omega
          case rel => exact ⟨1 + 1, by omega, by go_num, h3, h4, h5, hB⟩
      --B>
    ·
      obtain ⟨z, hz, hzs⟩ := h4
      rw [show (((2 : Nat) : Int)) = 2 from rfl]
      go_wp2_with fail
      exact ret_row (.inl rfl) rfl (w.heap.size + 1 + 1) _ _ 2 _ rfl (hz.setRow _) Tryd.underlying120 rfl (by kernel_rfl) rfl ⟨rfl, bSetRow hB (by omega) _⟩
end Go.Proofs.YtcfbiafedfkbhaaDoor

namespace Go.Proofs.YtcfbiafedfkbhaaDoor
open Go.RowKit

theorem wf_byte {n : Int} (h : (Lit.int .u8 n).wf = true) : ∃ x : UInt8, n = (x.toNat : Int) := by
  have hb := bounds_u8 h
  refine ⟨UInt8.ofNat n.toNat, ?_⟩
  rw [UInt8.toNat_ofNat']
  omega
section
variable {H : Type} {enc : TypeId × Value → H} {P : Program} {w : World} {base : Nat} {spare : Nat → Bool} {held : Bool}
theorem trod_arr {t e : TypeId} {n fuel : Nat} {cs : List Value} {x : DataW H × List MemPlace} (ht : P.underlying t = some (.array n e)) (he : P.underlying e = some (.int .u8)) (hc : P.cellsOf e = 1) (hct : P.cellsOf t = n)
    (h : DataW.trod enc P w base spare held fuel t cs = some x) : ∃ l : List UInt8, l.length = n ∧ cs = l.map B ∧ x.2 = [] := by
  obtain ⟨xs, m, _, rfl, hl, hxs, hel⟩ := DataW.trod_array ht h
  rw [hct] at hl
  have each : ∀ i, i < n → ∃ b : UInt8, cs[i]? = some (B b) ∧ ∃ y, xs[i]? = some y ∧ y.2 = [] := by
    intro i hi
    have h1 := hel i hi
    rw [hc, Nat.mul_one] at h1
    obtain ⟨y, hy⟩ : ∃ y, xs[i]? = some y := ⟨xs[i]'(by omega), List.getElem?_eq_getElem _⟩
    rw [hy] at h1
    obtain ⟨k, hk, rfl, hw⟩ := DataW.trod_int he h1
    obtain ⟨b, rfl⟩ := wf_byte hw
    refine ⟨b, ?_, _, hy, rfl⟩
    have := congrArg (·[0]?) hk
    simpa [List.getElem?_take, List.getElem?_drop] using this
  have hall : ∀ i, i < n → cs[i]? = some (B (gb ((cs.map fun v => match v with | .int _ k => UInt8.ofNat k.toNat | _ => 0)) i)) := by
    intro i hi
    obtain ⟨b, hb, _⟩ := each i hi
    rw [hb]
    simp [gb, hb]
  refine ⟨cs.map fun v => match v with | .int _ k => UInt8.ofNat k.toNat | _ => 0, by simpa using hl, ?_, ?_⟩
  · apply List.ext_getElem (by simp)
    intro i h1 h2
    have := hall i (by omega)
    rw [List.getElem?_eq_getElem h1] at this
    have := Option.some.inj this
    rw [this]
    simp [gb]
    congr
    simp [h1]
  · show xs.flatMap (·.2) = []
    rw [List.flatMap_eq_nil_iff]
    intro y hy
    obtain ⟨i, hi, hyi⟩ := List.getElem_of_mem hy
    obtain ⟨_, _, y', hy', h0⟩ := each i (by omega)
    rw [List.getElem?_eq_getElem hi, hyi] at hy'
    obtain rfl := Option.some.inj hy'
    exact h0
theorem okWide_array {r : Reach} {b0 n : Nat} {t e : TypeId} {v : Value} (ht : P.underlying t = some (.array n e)) (h : Value.okWide P w r b0 t v) : ∃ cs, v = .agg cs ∧ cs.size = P.cellsOf t := by
  unfold Value.okWide at h
  rw [ht] at h
  obtain ⟨cs, h1, h2, _⟩ := h
  exact ⟨cs, h1, h2⟩
theorem open_arr {r : Reach} {b0 n : Nat} {t e : TypeId} {v : Value} {d : DataW H} {ps : List MemPlace} (ht : P.underlying t = some (.array n e)) (he : P.underlying e = some (.int .u8)) (hc : P.cellsOf e = 1) (hct : P.cellsOf t = n)
    (hval : Value.okWide P w r b0 t v) (hd : DataW.Trod enc P w base spare held t v d ps) : ∃ l : List UInt8, l.length = n ∧ v = .agg (AB l) ∧ ps = [] := by
  obtain ⟨cs, rfl, _⟩ := okWide_array ht hval
  obtain ⟨fuel, hf⟩ := hd
  obtain ⟨l, hl, hcs, hx⟩ := trod_arr ht he hc hct hf
  refine ⟨l, hl, ?_, hx⟩
  simp only [Value.cells] at hcs
  simp [AB, ← hcs]
theorem SlB.of_row {w : World} {g n : Nat} {t : TypeId} {l : List UInt8} (h : Row w g t (AB l)) (hl : l.length = n) (hn : n ≤ maxLen) : SlB w (.slice (some ⟨g, 0, none⟩) n n) l := by
  subst hl
  refine ⟨_, l.length, rfl, Nat.le_refl _, hn, (fun h => by cases h), fun ad had => ?_⟩
  obtain rfl := Option.some.inj had
  refine ⟨rfl, fun i hi => ?_⟩
  rw [Nat.zero_add]
  exact h.byte i hi
end
end Go.Proofs.YtcfbiafedfkbhaaDoor

/- A slice of bytes that came in as a cell of a struct. -/
namespace Go.Proofs.YtcfbiafedfkbhaaDoor
open Go.RowKit
section
variable {H : Type} {enc : TypeId × Value → H} {P : Program} {w : World} {held : Bool}
end
end Go.Proofs.YtcfbiafedfkbhaaDoor

namespace Go.Proofs.YtcfbiafedfkbhaaDoor
open Go.RowKit

def tmQ (a b : UInt64 × UInt64) : UInt64 × UInt64 := itZ a.1 a.2 b.1 b.2 128
def elQ (l : List UInt8) : UInt64 × UInt64 := (hiQ l, loQ l)
def blQ (a : UInt64 × UInt64) : List UInt8 := outQ a.1 a.2 8
theorem blQ_len (a : UInt64 × UInt64) : (blQ a).length = 16 := outQ_len _ _ _
def gprod (a b : List UInt8) : List UInt8 := blQ (tmQ (elQ a) (elQ b))
end Go.Proofs.YtcfbiafedfkbhaaDoor
