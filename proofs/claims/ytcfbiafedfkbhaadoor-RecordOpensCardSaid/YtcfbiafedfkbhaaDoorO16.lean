/- Part of the proof: SealSpec, Seal, Pad. No conditions of its own. -/
import Derived.BigQuiet
import Derived.Deep.Quiet
import Derived.Deep.QuietTactic
import Derived.Lib.Hide
import Derived.StillTail
import Derived.WalkKit
import Derived.Test.YtcfbiafedfkbhaaDoorO03
import Derived.Deep.LoopGhost
import Derived.Test.YtcfbiafedfkbhaaDoorProg
import Derived.WalkSpells
import Derived.Test.YtcfbiafedfkbhaaDoorO12
import Derived.Below
import Derived.ChangeOld
import Derived.Deep.DeepCutAuto
import Derived.Deep.Draws
import Derived.Laws.Bits64
import Derived.Laws.BitsAllLaws
import Derived.Laws.BytesArg
import Derived.Laws.CopyOwn
import Derived.OpenShut
import Derived.ProofKit
import Derived.ShutString
import Derived.Test.YtcfbiafedfkbhaaDoorO13
namespace Go.Proofs.YtcfbiafedfkbhaaDoor
open Go.RowKit

theorem keyC_vE (T K : List UInt8) (kv : Value) (n : Nat) (hn : n < (keyC T K kv).size) (h : T.length + K.length = n) : (keyC T K kv)[n] = kv := by
  have := keyC_v T K kv n h
  rw [Array.getElem?_eq_getElem hn] at this
  exact Option.some.inj this
theorem keyC_TE (T K : List UInt8) (kv : Value) (i : Nat) (hn : i < (keyC T K kv).size) (h : i < T.length) : (keyC T K kv)[i] = B (gb T i) := by
  have := keyC_T T K kv i h
  rw [Array.getElem?_eq_getElem hn] at this
  exact Option.some.inj this
theorem keyC_KE (T K : List UInt8) (kv : Value) (i n : Nat) (hn : n + i < (keyC T K kv).size) (hT : T.length = n) (h : i < K.length) : (keyC T K kv)[n + i] = B (gb K i) := by
  have := keyC_K T K kv i n hT h
  rw [Array.getElem?_eq_getElem hn] at this
  exact Option.some.inj this
def rk (W : List UInt8) (r : Nat) : List UInt8 := (W.drop (r * 16)).take 16
theorem rk_len (W : List UInt8) (m r : Nat) (h : W.length = 16 * m) (hr : r < m) : (rk W r).length = 16 := by simp [rk]; omega
def subL (b : List UInt8) (k : Nat) : List UInt8 := tab 16 fun i => if i < k then gb boxT (gb b ((i + 4 * (i % 4)) % 16)).toNat else 0
theorem subL_len (b : List UInt8) (k : Nat) : (subL b k).length = 16 := tab_length _ _
theorem subL_zero (b : List UInt8) : subL b 0 = List.replicate 16 0 := by
  have : subL b 0 = tab 16 fun _ => 0 := tab_congr fun i _ => by simp
  rw [this]; rfl
theorem subL_step (b : List UInt8) (k : Nat) (_h : k < 16) : (subL b k).set k (gb boxT (gb b ((k + 4 * (k % 4)) % 16)).toNat) = subL b (k + 1) := by
  unfold subL
  rw [tab_set]
  apply tab_congr
  intro i hi
  by_cases h1 : i = k
  · subst h1; simp
  · by_cases h2 : i < k
    · simp [h1, h2, show i < k + 1 by omega]
    · simp [h1, h2, show ¬ i < k + 1 by omega]
def sround (W : List UInt8) (last : Nat) (b : List UInt8) (r : Nat) : List UInt8 :=
  addF (if r < last then mixL (subL b 16) [2, 3, 1, 1] 16 0 else subL b 16) (rk W r) 16
def sealN (W : List UInt8) (last : Nat) (b : List UInt8) : Nat → List UInt8
  | 0 => addF b (rk W 0) 16
  | r + 1 => sround W last (sealN W last b r) (r + 1)
def sealF (W b : List UInt8) : List UInt8 := sealN W (W.length / 16 - 1) b (W.length / 16 - 1)
theorem sealN_len (W : List UInt8) (last : Nat) (b : List UInt8) (r : Nat) : (sealN W last b r).length = 16 := by cases r <;> exact addF_len _ _ _
def unL (b : List UInt8) (k : Nat) : List UInt8 := tab 16 fun j => if (j + 12 * (j % 4)) % 16 < k then gb boxK (gb b ((j + 12 * (j % 4)) % 16)).toNat else 0
theorem unL_len (b : List UInt8) (k : Nat) : (unL b k).length = 16 := tab_length _ _
def oround (W : List UInt8) (last : Nat) (b : List UInt8) (r : Nat) : List UInt8 :=
  unL (if r < last then mixL (addF b (rk W r) 16) [14, 11, 13, 9] 16 0 else addF b (rk W r) 16) 16
def openD (W : List UInt8) (last : Nat) : Nat → List UInt8 → List UInt8
  | 0, b => addF b (rk W 0) 16
  | r + 1, b => openD W last r (oround W last b (r + 1))
def openF (W b : List UInt8) : List UInt8 := openD W (W.length / 16 - 1) (W.length / 16 - 1) b
end Go.Proofs.YtcfbiafedfkbhaaDoor

/- The plain law of a block: what is turned is turned back, both ways round. -/
namespace Go.Proofs.YtcfbiafedfkbhaaDoor

/-! ### sums -/
theorem xr_comm (a b : UInt8) : xr a b = xr b a := UInt8.xor_comm a b
theorem xr_assoc (a b c : UInt8) : xr (xr a b) c = xr a (xr b c) := UInt8.xor_assoc a b c
instance : Std.Associative xr := ⟨xr_assoc⟩
instance : Std.Commutative xr := ⟨xr_comm⟩
/-! ### twice an element is spread over sums -/
def dblN (n : Nat) : Nat := if n < 128 then 2 * n else (2 * n) ^^^ 0x11B
/-! ### the seven products -/
def tmOk (n : Nat) : Bool :=
  let x := UInt8.ofNat n
  let d1 := dbl x
  let d2 := dbl d1
  let d3 := dbl d2
  tm x 1 == x && tm x 2 == d1 && tm x 3 == xr x d1 && tm x 9 == xr x d3 && tm x 11 == xr (xr x d1) d3 && tm x 13 == xr (xr x d2) d3 && tm x 14 == xr (xr d1 d2) d3
def isRow (n : UInt8) : Prop := n = 1 ∨ n = 2 ∨ n = 3 ∨ n = 9 ∨ n = 11 ∨ n = 13 ∨ n = 14
def invOk (n : Nat) : Bool :=
  let x := UInt8.ofNat n
  let t (a b : UInt8) : UInt8 := tm (tm x a) b
  xr (xr (xr (t 2 14) (t 1 11)) (t 1 13)) (t 3 9) == x && xr (xr (xr (t 3 14) (t 2 11)) (t 1 13)) (t 1 9) == 0 && xr (xr (xr (t 1 14) (t 3 11)) (t 2 13)) (t 1 9) == 0 && xr (xr (xr (t 1 14) (t 1 11)) (t 3 13)) (t 2 9) == 0 &&
  xr (xr (xr (t 14 2) (t 9 3)) (t 13 1)) (t 11 1) == x && xr (xr (xr (t 11 2) (t 14 3)) (t 9 1)) (t 13 1) == 0 && xr (xr (xr (t 13 2) (t 11 3)) (t 14 1)) (t 9 1) == 0 && xr (xr (xr (t 9 2) (t 13 3)) (t 11 1)) (t 14 1) == 0
/-! ### columns -/
def mx (X : Nat → UInt8) (r0 r1 r2 r3 : UInt8) (k : Nat) : UInt8 := xr (xr (xr (tm (X (k % 4)) r0) (tm (X ((k + 1) % 4)) r1)) (tm (X ((k + 2) % 4)) r2)) (tm (X ((k + 3) % 4)) r3)
/-! ### the boxes -/
def boxOk (n : Nat) : Bool := gb boxK (gb boxT n).toNat == UInt8.ofNat n && gb boxT (gb boxK n).toNat == UInt8.ofNat n
/-! ### the rounds -/
end Go.Proofs.YtcfbiafedfkbhaaDoor

namespace Go.Proofs.YtcfbiafedfkbhaaDoor
open Go.RowKit
attribute [local go_sem] keyC_T keyC_K addF_len mixL_len subL_len unL_len sealN_len keyC_size keyC_v keyC_vE keyC_TE keyC_KE boxT_len boxK_len

theorem mix_2311 (b : List UInt8) (hb : b.length = 16) (w : World) :
    Calls Tryd.prog 62 #[.agg (AB b), .agg #[.int .u8 2, .int .u8 3, .int .u8 1, .int .u8 1]] w fun e w' => e = .returned (.agg (AB (mixL b [2, 3, 1, 1] 16 0))) ∧ Below w.heap.size w w' :=
  mix_any b [2, 3, 1, 1] hb rfl w
set_option maxRecDepth 100000 in
set_option maxHeartbeats 2000000 in
theorem seal_any (p : Value) (W : List UInt8) (last : Nat) (b : List UInt8) (w : World) (hk : KeyAt 109 84 w p W (last + 1)) (hb : b.length = 16) :
    Calls Tryd.prog 45 #[p, .agg (AB b)] w fun e w' => e = .returned (.agg (AB (sealN W last b last))) ∧ Below w.heap.size w w' := by
  obtain ⟨kb, kk, cap, cur, rfl, r1, r2, hWl, hpre, hcap, hmax⟩ := hk
  have l1 := r1.lt
  have l2 := r2.lt
  have l3 : kb < w.heap.size + 1 := by omega
  have l4 : kk < w.heap.size + 1 := by omega
  have hk0 := hpre.sub 0 16 (by omega)
  rw [show (W.drop 0).take 16 = rk W 0 by simp [rk]] at hk0
  have hkl := rk_len W (last + 1) 0 hWl (by omega)
  have hsz := hpre.size
  have hsz0 : 16 ≤ cur.size := by omega
  have hlast : last < 9223372036854775807 := by unfold maxLen at hmax; omega
  have HWl := Lib.hid hWl
  have hpre := Lib.hid hpre
  have hcap := Lib.hid hcap
  have Hsz := Lib.hid (show (last + 1) * 16 ≤ cur.size by omega)
  clear hWl hsz hmax
  go_enter Tryd.func45, Tryd.ntmps45
  go_wp2_with fail
  obtain ⟨w0, hw0⟩ : ∃ w0, w0 = (w.alloc (.cells (AB b) 84)).alloc (.cells (AB (List.replicate 16 0)) 84) := ⟨_, rfl⟩
  have s1 : Row w0 kb 109 (keyC boxT boxK (.slice (some ⟨kk, 0, none⟩) (last + 1) cap)) := by rw [hw0]; exact (r1.alloc _).alloc _
  have s2 : Row w0 kk 84 cur := by rw [hw0]; exact (r2.alloc _).alloc _
  have s3 : Row w0 w.heap.size 84 (AB b) := by rw [hw0]; exact (Row.new _ _ _).alloc _
  have s4 : RowN w0 (w.heap.size + 1) 84 16 := by rw [hw0]; exact RowN.newAt _ _ _ _ (by simp)
  have hB0 : Below w.heap.size w w0 := by rw [hw0]; exact ((Below.refl _ w).alloc (Nat.le_refl _) _).alloc (by simp) _
  have hw0' : ((w.alloc (.cells (AB b) 84)).alloc (.cells #[.int .u8 0, .int .u8 0, .int .u8 0, .int .u8 0, .int .u8 0, .int .u8 0, .int .u8 0, .int .u8 0, .int .u8 0, .int .u8 0, .int .u8 0, .int .u8 0, .int .u8 0, .int .u8 0, .int .u8 0, .int .u8 0] 84)) = w0 := by rw [hw0]; rfl
  rw [hw0']
  clear hw0 hw0' r1 r2
  refine wp_region_qtail (fun w' => w' = _) 7 (by kernel_rfl) (by kernel_rfl) rfl ?_
  simp only [List.take_succ_cons, List.take_zero, List.drop_succ_cons, List.drop_zero]
  repeat (first | go_big_quiet_skip | (go_big_quiet_want; go_big_quiet_op; go_big_quiet_on))
  refine wpQuiet_nil ?_
  rintro _ rfl
  go_wp2_with (go_at_call 61; refine (add_any _ _ hb hkl _).mono ?_; rintro e w1 ⟨rfl, hb1⟩; have t3 := Row.below s3.drew hb1 s3.lt)
  have t1 := Row.below s1.drew hb1 s1.lt
  have t2 := Row.below s2.drew hb1 s2.lt
  have t4 := RowN.below s4.drew hb1 s4.lt
  have hB1 : Below w.heap.size w w1 := hB0.drew.trans (hb1.mono (by have := s3.lt; simpa using Nat.le_of_lt this))
  go_loopg [6] last (fun n rv wr => ∃ q : Nat, n + q = last ∧ rv = .int .i64 (q + 1) ∧ Row wr w.heap.size 84 (AB (sealN W last b q)) ∧ RowN wr (w.heap.size + 1) 84 16 ∧
    Row wr kb 109 (keyC boxT boxK (.slice (some ⟨kk, 0, none⟩) (last + 1) cap)) ∧ Row wr kk 84 cur ∧ Below w.heap.size w wr)
  case atStart =>
    refine ⟨0, by omega, rfl, ?_, t4.setRowOther _ _ (by omega), t1.setRowOther _ _ (by omega), t2.setRowOther _ _ (by omega), bSetRow hB1 (by omega) _⟩
    exact t3.setRow _
  case round =>
    clear t1 t2 t3 t4 hB1 s1 s2 s3 s4 hB0 hb1
    obtain ⟨q, hq, rfl, t3, t4, t1, t2, hB⟩ := hrel
    have hst := sealN_len W last b q
    obtain ⟨st, hst2⟩ : ∃ st, st = sealN W last b q := ⟨_, rfl⟩
    rw [← hst2] at hst t3
    have HST := Lib.hid hst2
    by_cases hlt : q < last
    · have hkq := hpre.out.sub ((q + 1) * 16) 16 (by have := HWl.out; omega)
      have hkl2 := rk_len W (last + 1) (q + 1) HWl.out (by omega)
      obtain ⟨kq, hkq2⟩ : ∃ kq, kq = rk W (q + 1) := ⟨_, rfl⟩
      rw [show (W.drop ((q + 1) * 16)).take 16 = kq from hkq2.symm] at hkq
      rw [← hkq2] at hkl2
      have HKQ := Lib.hid hkq2
      have hszq : (q + 1) * 16 + 16 ≤ cur.size := by have := Hsz.out; omega
      have b1 : ((q : Int) + 1) ≤ (last : Int) := by omega
      have b2 : ((q : Int) + 1) < (last : Int) + 1 := by omega
      have u1 := t1.lt
      have u2 := t2.lt
      have u3 := t3.lt
      have u4 := t4.lt
      obtain ⟨wo, rfl⟩ : ∃ wo : World, wo = wr := ⟨_, rfl⟩
      obtain ⟨no, rfl⟩ : ∃ no : Nat, no = gk := ⟨_, rfl⟩
      clear hst2 hkq2
      go_wp2_with fail
      go_loopg [31] 16 (fun n iv wr => ∃ k : Nat, n + k = 16 ∧ iv = .int .i64 k ∧ Row wr wo.heap.size 84 (AB (subL st k)) ∧ Row wr w.heap.size 84 (AB st) ∧ RowN wr (w.heap.size + 1) 84 16 ∧
        Row wr kb 109 (keyC boxT boxK (.slice (some ⟨kk, 0, none⟩) (last + 1) cap)) ∧ Row wr kk 84 cur ∧ Below w.heap.size w wr)
      case atStart =>
        refine ⟨0, by omega, rfl, ?_, t3.alloc _, t4.alloc _, t1.alloc _, t2.alloc _, hB.alloc (by omega) _⟩
        rw [subL_zero]; exact Row.new _ _ _
      case round =>
        clear t1 t2 t3 t4 hB
        obtain ⟨k, hk, rfl, t5, t3, t4, t1, t2, hB⟩ := hrel
        have hsl := subL_len st k
        by_cases hk16 : k < 16
        · have c1 : ((k : Int) + 4 * ((k : Int) % 4)) % 16 < 16 := by omega
          have c2 : 0 ≤ ((k : Int) + 4 * ((k : Int) % 4)) % 16 := by omega
          have c3 : (((k : Int) + 4 * ((k : Int) % 4)) % 16).toNat = (k + 4 * (k % 4)) % 16 := by omega
          have c4 : (k + 4 * (k % 4)) % 16 < 16 := by omega
          have c5 : (k : Int) < 16 := by omega
          obtain ⟨y, hy⟩ : ∃ y, y = gb st ((k + 4 * (k % 4)) % 16) := ⟨_, rfl⟩
          have c6 : y.toNat < 256 := y.toNat_lt
          have c7 : (y.toNat : Int) < 256 := by omega
          have hcy : wr.cell? ⟨w.heap.size, (k + 4 * (k % 4)) % 16, none⟩ = some (B y) := by rw [hy]; exact t3.byte _ (by omega)
          have HY := Lib.hid hy
          clear hy
          go_wp2_with fail
          refine wp_region_qtail (fun w' => w' = _) 16 (by kernel_rfl) (by kernel_rfl) rfl ?_
          simp only [List.take_succ_cons, List.take_zero, List.drop_succ_cons, List.drop_zero]
          repeat (first | go_big_quiet_skip | (go_big_quiet_want; go_big_quiet_op; go_big_quiet_on))
          refine wpQuiet_nil ?_
          rintro _ rfl
          go_wp2_with fail
          go_roundg (gk - 1)
          case measure => omega
          case rel =>
            refine ⟨k + 1, by omega, by go_num, ?_, t3.setOther _ _ (by simp; omega), t4.setOther _ _ (by simp; omega), t1.setOther _ _ (by simp; omega), t2.setOther _ _ (by simp; omega), hB.drew.setCell (by simp; omega) _⟩
            rw [← subL_step st k hk16, ← HY.out]
            exact t5.setByte k _
        · obtain rfl : k = 16 := by omega
          have u5 := t5.lt
          by_cases hl2 : q + 1 < last
          · have b3 : ((q : Int) + 1) < (last : Int) := by omega
            go_wp2_with (go_at_call 62; refine (mix_2311 _ hsl _).mono ?_; rintro e w4 ⟨rfl, hb4⟩; have t5' := Row.below t5 hb4 t5.lt)
            obtain ⟨M, hM⟩ : ∃ M, M = mixL (subL st 16) [2, 3, 1, 1] 16 0 := ⟨_, rfl⟩
            have hml : M.length = 16 := by rw [hM]; exact mixL_len _ _ _ _
            rw [← hM]
            have HM := Lib.hid hM
            clear hM
            obtain ⟨w6, hw6⟩ : ∃ w6, w6 = w4.setRow wo.heap.size (AB M) := ⟨_, rfl⟩
            rw [← hw6]
            have v5 : Row w6 wo.heap.size 84 (AB M) := by rw [hw6]; exact t5'.setRow _
            have v3 : Row w6 w.heap.size 84 (AB st) := by rw [hw6]; exact (Row.below t3 hb4 t3.lt).setRowOther _ _ (by omega)
            have v4 : RowN w6 (w.heap.size + 1) 84 16 := by rw [hw6]; exact (RowN.below t4 hb4 t4.lt).setRowOther _ _ (by omega)
            have v1 : Row w6 kb 109 (keyC boxT boxK (.slice (some ⟨kk, 0, none⟩) (last + 1) cap)) := by rw [hw6]; exact (Row.below t1 hb4 t1.lt).setRowOther _ _ (by omega)
            have v2 : Row w6 kk 84 cur := by rw [hw6]; exact (Row.below t2 hb4 t2.lt).setRowOther _ _ (by omega)
            have v6 : Below w.heap.size w w6 := by rw [hw6]; exact bSetRow (hB.trans (hb4.mono (by omega))) (by omega) _
            clear hw6 hb4 t1 t2 t3 t4 t5 t5' hB
            refine wp_region_qtail (fun w' => w' = _) 8 (by kernel_rfl) (by kernel_rfl) rfl ?_
            simp only [List.take_succ_cons, List.take_zero, List.drop_succ_cons, List.drop_zero]
            repeat (first | go_big_quiet_skip | (go_big_quiet_want; go_big_quiet_op; go_big_quiet_on))
            refine wpQuiet_nil ?_
            rintro _ rfl
            go_wp2_with (go_at_call 61; refine (add_any _ _ hml hkl2 _).mono ?_; rintro e w5 ⟨rfl, hb5⟩; have x3 := Row.below v3.drew hb5 v3.lt)
            go_roundg (no - 1)
            case measure => omega
            case rel =>
              have hB6 : Below w.heap.size w w5 := Below.trans (Below.drew v6) (hb5.mono (by have := v3.lt; simpa using Nat.le_of_lt this))
              refine ⟨q + 1, by omega, by go_num, ?_, (RowN.below v4.drew hb5 v4.lt).setRowOther _ _ (by omega), (Row.below v1.drew hb5 v1.lt).setRowOther _ _ (by omega), (Row.below v2.drew hb5 v2.lt).setRowOther _ _ (by omega), bSetRow hB6 (by omega) _⟩
              have hEQ : addF M kq 16 = sealN W last b (q + 1) := by rw [HKQ.out, HM.out, HST.out]; show _ = sround W last (sealN W last b q) (q + 1); unfold sround; rw [if_pos hl2]
              have := x3.setRow (AB (addF M kq 16))
              rw [hEQ] at this ⊢
              exact this
          · have b3 : ¬ ((q : Int) + 1) < (last : Int) := by omega
            have v5 := t5
            have v3 := t3
            have v4 := t4
            have v1 := t1
            have v2 := t2
            have v6 := hB
            clear t1 t2 t3 t4 t5 hB
            have HM : Hid (subL st 16 = subL st 16) := rfl
            have hml := hsl
            go_wp2_with fail
            obtain ⟨M, hM⟩ : ∃ M, M = subL st 16 := ⟨_, rfl⟩
            rw [← hM] at v5 hml
            have HM := Lib.hid hM
            clear hM
            refine wp_region_qtail (fun w' => w' = _) 8 (by kernel_rfl) (by kernel_rfl) rfl ?_
            simp only [List.take_succ_cons, List.take_zero, List.drop_succ_cons, List.drop_zero]
            repeat (first | go_big_quiet_skip | (go_big_quiet_want; go_big_quiet_op; go_big_quiet_on))
            refine wpQuiet_nil ?_
            rintro _ rfl
            go_wp2_with (go_at_call 61; refine (add_any _ _ hml hkl2 _).mono ?_; rintro e w5 ⟨rfl, hb5⟩; have x3 := Row.below v3.drew hb5 v3.lt)
            go_roundg (no - 1)
            case measure => omega
            case rel =>
              have hB6 : Below w.heap.size w w5 := Below.trans (Below.drew v6) (hb5.mono (by have := v3.lt; simpa using Nat.le_of_lt this))
              refine ⟨q + 1, by omega, by go_num, ?_, (RowN.below v4.drew hb5 v4.lt).setRowOther _ _ (by omega), (Row.below v1.drew hb5 v1.lt).setRowOther _ _ (by omega), (Row.below v2.drew hb5 v2.lt).setRowOther _ _ (by omega), bSetRow hB6 (by omega) _⟩
              have hEQ : addF M kq 16 = sealN W last b (q + 1) := by rw [HKQ.out, HM.out, HST.out]; show _ = sround W last (sealN W last b q) (q + 1); unfold sround; rw [if_neg hl2]
              have := x3.setRow (AB (addF M kq 16))
              rw [hEQ] at this ⊢
              exact this
    · obtain rfl : q = last := by omega
      have b2 : ¬ ((q : Int) + 1) < (q : Int) + 1 := by omega
      have hl16 := (AB_size st).trans hst
      clear hst2
      obtain ⟨z, hz, hzs⟩ := t4
      go_wp2_with fail
      exact ret_row (.inl rfl) rfl (w.heap.size + 1) _ _ 16 _ rfl (hz.setRow _) Tryd.underlying84 rfl (by kernel_rfl) hl16 ⟨by rw [HST.out], bSetRow hB (by omega) _⟩
end Go.Proofs.YtcfbiafedfkbhaaDoor

namespace Go.Proofs.YtcfbiafedfkbhaaDoor
open Go.RowKit

def boxC (kp : Value) (h : List UInt8) : Array Value := #[kp] ++ AB h
theorem boxC_k (kp : Value) (h : List UInt8) : (boxC kp h)[0]? = some kp := by
  rw [← Array.getElem?_toList]
  simp [boxC]
def BoxAt (tb tk te : TypeId) (w : World) (p : Value) (W : List UInt8) (last : Nat) (h : List UInt8) : Prop :=
  ∃ xb kp, p = .pointer (some ⟨xb, 0, none⟩) ∧ Row w xb tb (boxC kp h) ∧ KeyAt tk te w kp W (last + 1) ∧ h.length = 16
theorem BoxAt.below {tb tk te : TypeId} {w w' : World} {p : Value} {W h : List UInt8} {last : Nat} (b : BoxAt tb tk te w p W last h) (hb : Below w.heap.size w w') : BoxAt tb tk te w' p W last h := by
  obtain ⟨xb, kp, e1, e2, e3, e4⟩ := b
  exact ⟨xb, kp, e1, e2.below hb e2.lt, e3.below hb, e4⟩
def ctrB (nonce : List UInt8) (n : Nat) : List UInt8 := nonce ++ [UInt8.ofNat (n / 16777216), UInt8.ofNat (n / 65536), UInt8.ofNat (n / 256), UInt8.ofNat n]
theorem ctrB_len (nonce : List UInt8) (n : Nat) (h : nonce.length = 12) : (ctrB nonce n).length = 16 := by simp [ctrB, h]
theorem u8wrap (n : Nat) : IntKind.u8.wrap (n : Int) = ((UInt8.ofNat n).toNat : Int) := by
  rw [UInt8.toNat_ofNat']
  simp [IntKind.wrap, IntKind.bits, IntKind.signed]

set_option maxRecDepth 100000 in
set_option maxHeartbeats 2000000 in
theorem pad_any (p : Value) (W : List UInt8) (last : Nat) (h nonce : List UInt8) (n : Nat) (w : World) (hb : BoxAt 87 109 84 w p W last h) (hn : nonce.length = 12) :
    Calls Tryd.prog 64 #[p, .agg (AB nonce), .int .u32 (n : Int)] w fun e w' => e = .returned (.agg (AB (sealN W last (ctrB nonce n) last))) ∧ Below w.heap.size w w' := by
  obtain ⟨xb, kp, rfl, hx, hk, hh⟩ := hb
  have lx := hx.lt
  go_enter Tryd.func64, Tryd.ntmps64
  go_wp2_with fail
  obtain ⟨w0, hw0⟩ : ∃ w0, w0 = ((w.alloc (.cells (AB nonce) 50)).alloc (.cells (AB (List.replicate 16 0)) 84)).alloc (.cells (AB (List.replicate 16 0)) 84) := ⟨_, rfl⟩
  have h1 : Row w0 w.heap.size 50 (AB nonce) := by rw [hw0]; exact ((Row.new w _ _).alloc _).alloc _
  have h2 : RowN w0 (w.heap.size + 1) 84 16 := by rw [hw0]; exact (RowN.newAt _ _ _ (AB (List.replicate 16 0)) (by simp)).alloc _
  have h3 : Row w0 (w.heap.size + 1 + 1) 84 (AB (List.replicate 16 0)) := by rw [hw0]; exact Row.newAt _ _ _ _ (by simp)
  have hB0 : Below w.heap.size w w0 := by rw [hw0]; exact ((((Below.refl _ w).alloc (Nat.le_refl _) _).alloc (by simp) _)).alloc (by simp <;> omega) _
  have hw0' : ((w.alloc (.cells (AB nonce) 50)).alloc (.cells #[.int .u8 0, .int .u8 0, .int .u8 0, .int .u8 0, .int .u8 0, .int .u8 0, .int .u8 0, .int .u8 0, .int .u8 0, .int .u8 0, .int .u8 0, .int .u8 0, .int .u8 0, .int .u8 0, .int .u8 0, .int .u8 0] 84)).alloc (.cells #[.int .u8 0, .int .u8 0, .int .u8 0, .int .u8 0, .int .u8 0, .int .u8 0, .int .u8 0, .int .u8 0, .int .u8 0, .int .u8 0, .int .u8 0, .int .u8 0, .int .u8 0, .int .u8 0, .int .u8 0, .int .u8 0] 84) = w0 := by rw [hw0]; rfl
  rw [hw0']
  clear hw0 hw0'
  have HN := Lib.hid hn
  have hc2 : (nonce.map B).length = Nat.min 12 16 := by rw [List.length_map, hn]; rfl
  have hc3 : 0 < (nonce.map B).length → (some ⟨w.heap.size + 1 + 1, 0, none⟩ : Option Addr) = some ⟨w.heap.size + 1 + 1, 0, none⟩ ∧ ∃ ad, (some ⟨w.heap.size, 0, none⟩ : Option Addr) = some ad ∧ ∀ j v, (nonce.map B)[j]? = some v → w0.drew.cell? (ad.add j) = some v := by
    intro _
    refine ⟨rfl, _, rfl, fun j v hv => ?_⟩
    have hj : j < nonce.length := by simpa using (List.getElem?_eq_some_iff.1 hv).1
    rw [Addr.add_lit, Nat.zero_add]
    refine (h1.drew.byte j hj).trans ?_
    simpa [gb, hj] using hv
  have hc4 : 0 + (nonce.map B).length ≤ ((List.replicate 16 (0 : UInt8)).map B).length := by rw [List.length_map, hn]; decide
  have hc5 : ∀ u ∈ nonce.map B, u.oneCell' = true := by intro u hu; obtain ⟨z, _, rfl⟩ := List.mem_map.1 hu; rfl
  have HC2 := Lib.hid hc2
  have HC3 := Lib.hid hc3
  have HC4 := Lib.hid hc4
  have HC5 := Lib.hid hc5
  have H3 := Lib.hid h3.drew.heap
  have HB0 := Lib.hid (hB0.drew)
  clear hc2 hc3 hc4 hc5 hn
  refine wp_region_qtail (fun w' => w' = _) 2 (by kernel_rfl) (by kernel_rfl) rfl ?_
  simp only [List.take_succ_cons, List.take_zero, List.drop_succ_cons, List.drop_zero]
  repeat (first | go_big_quiet_skip | (go_big_quiet_want; go_big_quiet_op; go_big_quiet_on))
  refine wpQuiet_nil ?_
  rintro _ rfl
  refine wpList_copy_splice rfl (.tmp 8) (.tmp 9) 23 23 rfl 5 Tryd.underlying23 (by kernel_rfl) (some ⟨w.heap.size + 1 + 1, 0, none⟩) (some ⟨w.heap.size, 0, none⟩) 16 16 12 12 rfl rfl (w.heap.size + 1 + 1) 0 ((List.replicate 16 (0 : UInt8)).map B) 84 H3.out (nonce.map B) HC2.out HC3.out HC4.out HC5.out (w.heap.size + 1 + 1) w0.drew (Below.refl _ _) (Nat.le_refl _) ?_
  intro W1 hW1 hbW1
  obtain ⟨L, hL⟩ : ∃ L, L = nonce ++ List.replicate 4 0 := ⟨_, rfl⟩
  have hLl : L.length = 16 := by rw [hL]; simp [HN.out]
  have g3 : Row W1 (w.heap.size + 1 + 1) 84 (AB L) := by
    refine (Row.of_heap hW1.out).trans ?_
    congr 2
    rw [hL]
    simp only [splice, AB, List.take_zero, List.nil_append, Nat.zero_add, List.length_map, List.map_append, List.map_replicate, List.drop_replicate, HN.out]
  have g2 := h2.drew.below hbW1 (by omega)
  have gB : Below w.heap.size w W1 := HB0.out.trans (hbW1.mono (by omega))
  have hx1 := hx.below gB lx
  have hk1 := hk.below gB
  have hfin : (((L.set 12 (UInt8.ofNat (n / 16777216))).set 13 (UInt8.ofNat (n / 65536))).set 14 (UInt8.ofNat (n / 256))).set 15 (UInt8.ofNat n) = ctrB nonce n := by
    rw [hL]
    unfold ctrB
    simp [HN.out, List.replicate]
  have HFIN := Lib.hid hfin
  have HL := Lib.hid hL
  have l3 := g3.lt
  have v1 : IntKind.u8.wrap ((n : Int) / 16777216) = ((UInt8.ofNat (n / 16777216)).toNat : Int) := by rw [← u8wrap]; simp
  have v2 : IntKind.u8.wrap ((n : Int) / 65536) = ((UInt8.ofNat (n / 65536)).toNat : Int) := by rw [← u8wrap]; simp
  have v3 : IntKind.u8.wrap ((n : Int) / 256) = ((UInt8.ofNat (n / 256)).toNat : Int) := by rw [← u8wrap]; simp
  have v4 := u8wrap n
  obtain ⟨b1, hb1⟩ : ∃ b, b = UInt8.ofNat (n / 16777216) := ⟨_, rfl⟩
  obtain ⟨b2, hb2⟩ : ∃ b, b = UInt8.ofNat (n / 65536) := ⟨_, rfl⟩
  obtain ⟨b3, hb3⟩ : ∃ b, b = UInt8.ofNat (n / 256) := ⟨_, rfl⟩
  obtain ⟨b4, hb4⟩ : ∃ b, b = UInt8.ofNat n := ⟨_, rfl⟩
  rw [← hb1] at v1
  rw [← hb2] at v2
  rw [← hb3] at v3
  rw [← hb4] at v4
  have HB1 := Lib.hid hb1
  have HB2 := Lib.hid hb2
  have HB3 := Lib.hid hb3
  have HB4 := Lib.hid hb4
  clear hb1 hb2 hb3 hb4 hL hfin hW1 hbW1 h1 h2 h3 hB0 HC2 HC3 HC4 HC5 H3 HB0
  go_wp2_with fail
  obtain ⟨w2, hw2⟩ : ∃ w2, w2 = (((W1.setCell ⟨w.heap.size + 1 + 1, 12, none⟩ (B b1)).setCell ⟨w.heap.size + 1 + 1, 13, none⟩ (B b2)).setCell ⟨w.heap.size + 1 + 1, 14, none⟩ (B b3)).setCell ⟨w.heap.size + 1 + 1, 15, none⟩ (B b4) := ⟨_, rfl⟩
  rw [← hw2]
  have k3 : Row w2 (w.heap.size + 1 + 1) 84 (AB (ctrB nonce n)) := by
    rw [hw2, ← HFIN.out, ← HB1.out, ← HB2.out, ← HB3.out, ← HB4.out]
    exact (((g3.setByte 12 b1).setByte 13 b2).setByte 14 b3).setByte 15 b4
  have k2 : RowN w2 (w.heap.size + 1) 84 16 := by
    rw [hw2]
    exact (((g2.setOther _ _ (by simp)).setOther _ _ (by simp)).setOther _ _ (by simp)).setOther _ _ (by simp)
  have kB : Below w.heap.size w w2 := by
    rw [hw2]
    exact (((gB.setCell (by simp; omega) _).setCell (by simp; omega) _).setCell (by simp; omega) _).setCell (by simp; omega) _
  clear hw2 g3 g2 gB hx1 hk1 HB1 HB2 HB3 HB4 v1 v2 v3 v4 l3 HFIN HL
  have hx2 := hx.below kB lx
  have hk2 := hk.below kB
  have lx2 := hx2.lt
  have l3 := k3.lt
  have hcl := ctrB_len nonce n HN.out
  obtain ⟨c, hc⟩ : ∃ c, c = ctrB nonce n := ⟨_, rfl⟩
  rw [← hc] at k3 hcl
  have hseal : ∀ w', Below w2.heap.size w2 w' → _ := fun w' h => seal_any kp W last c w' (hk2.below h) hcl
  have hsl := sealN_len W last c last
  obtain ⟨R, hR⟩ : ∃ R, R = sealN W last c last := ⟨_, rfl⟩
  rw [← hR] at hsl hseal
  have HS := Lib.hid hseal
  have hk0 := boxC_k kp h
  have HR := Lib.hid hR
  have HC := Lib.hid hc
  clear hseal hR hc
  refine wp_region_qtail (fun w' => w' = _) 5 (by kernel_rfl) (by kernel_rfl) rfl ?_
  simp only [List.take_succ_cons, List.take_zero, List.drop_succ_cons, List.drop_zero]
  repeat (first | go_big_quiet_skip | (go_big_quiet_want; go_big_quiet_op; go_big_quiet_on))
  refine wpQuiet_nil ?_
  rintro _ rfl
  go_wp2_with fail
  refine (HS.out _ (Below.refl _ w2).drew).mono ?_
  rintro e w5 ⟨rfl, hb5⟩
  obtain ⟨z, hz, hzs⟩ := k2.drew.below hb5 k2.lt
  have HB5 : Below w.heap.size w w5 := kB.drew.trans (hb5.mono (by simpa using kB.size))
  have hl16 := (AB_size R).trans hsl
  go_wp2_with fail
  exact ret_row (.inl rfl) rfl (w.heap.size + 1) _ _ 16 _ rfl (hz.setRow _) Tryd.underlying84 rfl (by kernel_rfl) hl16 ⟨by rw [HR.out, HC.out], bSetRow HB5 (by omega) _⟩
end Go.Proofs.YtcfbiafedfkbhaaDoor
