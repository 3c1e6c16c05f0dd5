/- Part of the proof: HGuess. No conditions of its own. -/
import Derived.Below
import Derived.BigQuiet
import Derived.Deep.CutBlock
import Derived.Deep.DeepCutAuto
import Derived.Deep.Draws
import Derived.Deep.LoopGhost
import Derived.Deep.Quiet
import Derived.Deep.QuietTactic
import Derived.Deep.RegionLaw
import Derived.Great.BuildSlice
import Derived.Great.FillDense
import Derived.Laws.AppendOwn
import Derived.Laws.AppendOwnNone
import Derived.Laws.BytesArg
import Derived.Laws.Concat
import Derived.Laws.MakeOwn
import Derived.Lib.AppendZerosOnto
import Derived.Lib.BufferWrite
import Derived.Lib.Hide
import Derived.Lib.SlBytesConst
import Derived.StillTail
import Derived.Stop.BytesEq
import Derived.Test.YtnenoecmmelehaaProg
import Derived.WalkKit
import Derived.WalkLawsBesides
import Derived.WalkSpells
import Derived.Test.YtnenoecmmelehaaK13
import Derived.Test.YtnenoecmmelehaaK22
namespace Go.Proofs.Ytnenoecmmelehaa
open Go.RowKit
set_option linter.unusedVariables false
set_option linter.unusedSimpArgs false

theorem conv_new (n : Nat) (hn : n ≤ 1000000) (w : World) : (convert 27 9 (.slice (some ⟨w.heap.size, 0, none⟩) n n)).run Try.prog (w.alloc (.cells (AB (List.replicate n 0)) 5)) = .ok (S (List.replicate n 0)) (w.alloc (.cells (AB (List.replicate n 0)) 5)) := by
  have hb : SlB (w.alloc (.cells (AB (List.replicate n 0)) 5)) (.slice (some ⟨w.heap.size, 0, none⟩) n n) (List.replicate n 0) := by
    refine ⟨_, _, by rw [List.length_replicate], by rw [List.length_replicate]; exact Nat.le_refl _, by unfold maxLen; omega, (fun h => by cases h), fun ad had => ?_⟩
    obtain rfl := Option.some.inj had
    refine ⟨rfl, fun i hi => ?_⟩
    rw [(Row.new w _ _).cell]
    rw [Nat.zero_add, AB_get _ _ hi]
  exact run_conv_slb _ _ _ _ Try.underlying27 Try.underlying5 Try.underlying9 _ _ hb
set_option maxRecDepth 100000 in
set_option maxHeartbeats 2000000 in
theorem at_any (l : List UInt8) (p n : Nat) (w : World) (hl : l.length ≤ 1000000) (hp : p ≤ 100000000) (hn : n ≤ 1000000) :
    Calls Try.prog 49 #[S l, .int .i64 (p : Int), .int .i64 (n : Int)] w fun e w' => e = .returned (S (atP l p n)) ∧ Below w.heap.size w w' := by
  have hmk := make_bytes
  have hcv := conv_new n hn
  have hz : Below w.heap.size w (w.alloc (.cells (AB (List.replicate n 0)) 5)) := (Below.refl _ _).alloc (Nat.le_refl _) _
  have HZ := Lib.hid hz
  clear hz
  have y0 : (0 : Int) ≤ (n : Int) := by omega
  have y1 : ((n : Int)).toNat = n := by omega
  rcases Nat.lt_or_ge l.length p with h | h
  · have x1 : (l.length : Int) < (p : Int) := by omega
    go_enter Try.func49, Try.ntmps49
    go_wp2_with fail
    go_ret
    refine ⟨?_, HZ.out⟩
    unfold atP takeV
    rw [List.drop_eq_nil_of_le (by omega)]
    split
    · rfl
    · rename_i h0
      obtain rfl : n = 0 := by simpa using h0
      rfl
  · have x1 : ¬ (l.length : Int) < (p : Int) := by omega
    have x2 : IntKind.i64.wrap ((l.length : Int) - (p : Int)) = (l.length : Int) - (p : Int) := by rw [IntKind.wrap_i64]; omega
    rcases Nat.lt_or_ge (l.length - p) n with h2 | h2
    · have x3 : (l.length : Int) - (p : Int) < (n : Int) := by omega
      go_enter Try.func49, Try.ntmps49
      go_wp2_with fail
      go_ret
      refine ⟨?_, HZ.out⟩
      unfold atP takeV
      rw [if_pos (by rw [List.length_drop]; omega)]
      rfl
    · have x3 : ¬ (l.length : Int) - (p : Int) < (n : Int) := by omega
      have x4 : IntKind.i64.wrap ((p : Int) + (n : Int)) = (p : Int) + (n : Int) := by rw [IntKind.wrap_i64]; omega
      have x5 : (0 : Int) ≤ (p : Int) := by omega
      have x6 : (p : Int) ≤ (p : Int) + (n : Int) := by omega
      have x7 : (p : Int) + (n : Int) ≤ (l.length : Int) := by omega
      have x8 : (0 : Int) ≤ (p : Int) + (n : Int) := by omega
      have x9 : ((p : Int) + (n : Int)).toNat = p + n := by omega
      go_enter Try.func49, Try.ntmps49
      go_wp2_with fail
      go_ret
      refine ⟨?_, Below.refl _ _⟩
      refine congrArg (fun s => Ending.returned (Value.string s)) ((ext_S l _ _).trans ?_)
      unfold atP takeV
      rw [if_neg (by rw [List.length_drop]; omega)]
      congr 3
      omega
theorem add_low (n x : Nat) (hn : n < 16777216) (hx : x < 256) : IntKind.i64.wrap ((n : Int) * 256 + (x : Int)) = ((n * 256 + x : Nat) : Int) := by
  rw [IntKind.wrap_i64]; omega
set_option maxRecDepth 100000 in
set_option maxHeartbeats 2000000 in
theorem get_any (l : List UInt8) (p s : Nat) (w : World) (hl : l.length ≤ 1000000) (hp : p ≤ 100000000) (hs : s ≤ 4) :
    Calls Try.prog 30 #[S l, .int .i64 (p : Int), .int .i64 (s : Int)] w fun e w' => e = .returned (.int .i64 (getP l p s : Int)) ∧ Below w.heap.size w w' := by
  have HT := Lib.hid (at_any l p s w hl hp (by omega))
  obtain ⟨t, ht⟩ : ∃ t, t = atP l p s := ⟨_, rfl⟩
  have htl : t.length = s := by rw [ht]; exact takeV_len _ _
  have hgp : getP l p s = valP t := by rw [ht]; rfl
  rw [hgp]
  rw [← ht] at HT
  clear ht hgp hl
  go_enter Try.func30, Try.ntmps30
  go_wp2_with fail
  refine HT.out.mono ?_
  rintro e w1 ⟨rfl, hB⟩
  have HB := Lib.hid hB
  have HL := Lib.hid htl
  clear hB HT htl
  go_wp2_with fail
  go_loopg [8, 9] s (fun g nv iv wr => ∃ k : Nat, g + k = s ∧ nv = .int .i64 (valP (t.take k) : Int) ∧ iv = .int .i64 (k : Int) ∧ wr = w1)
  case atStart => exact ⟨0, by omega, rfl, rfl, rfl⟩
  case round =>
    obtain ⟨k, hk, rfl, rfl, rfl⟩ := hrel
    have htl := HL.out
    by_cases h : k < s
    · have hvl := valP_lt (t.take k)
      rw [List.length_take, htl, Nat.min_eq_left (by omega)] at hvl
      have hv : valP (t.take k) < 16777216 := Nat.lt_of_lt_of_le hvl (Nat.le_trans (Nat.pow_le_pow_right (by decide) (show k ≤ 3 by omega)) (by decide))
      have hstep := valP_take t k (by omega)
      obtain ⟨m, hm⟩ : ∃ m, m = valP (t.take k) := ⟨_, rfl⟩
      rw [← hm] at hv hstep ⊢
      have hor := add_low m (gb t k).toNat hv (gb_lt t k)
      rw [← hstep] at hor
      obtain ⟨x, hx⟩ : ∃ x, x = gb t k := ⟨_, rfl⟩
      rw [← hx] at hor
      have hc : gb t k = x := hx.symm
      have x0 : (0 : Int) ≤ (k : Int) := by omega
      have x1 : (k : Int) < (s : Int) := by omega
      have x2 : (k : Int) < (t.length : Int) := by omega
      have x3 : ((k : Int)).toNat = k := by omega
      have y0 : (0 : Int) ≤ (m : Int) := by omega
      have y1 : (m : Int) < 16777216 := by omega
      have y2 : ((x.toNat : Nat) : Int) < 256 := by have := x.toNat_lt; omega
      have y3 : (0 : Int) ≤ ((x.toNat : Nat) : Int) := by omega
      obtain ⟨m2, hm2⟩ : ∃ m2, m2 = valP (t.take (k + 1)) := ⟨_, rfl⟩
      rw [← hm2] at hor
      have HM2 := Lib.hid hm2
      clear hm hvl hx hstep hm2 htl
      go_wp2_with fail
      go_roundg (gk - 1)
      case measure => omega
      case rel => exact ⟨k + 1, by omega, by rw [HM2.out], by go_num, rfl⟩
    · obtain rfl : k = s := by omega
      have x1 : ¬ (k : Int) < (k : Int) := by omega
      rw [List.take_of_length_le (by omega)]
      clear htl
      generalize hm : valP t = m
      have HM := Lib.hid hm
      clear hm
      go_wp2_with fail
      go_ret
      exact ⟨by rw [HM.out]; rfl, HB.out⟩
theorem str_cells (l : List UInt8) (h : l.length = 32) : ((AB zero32).toList.take 0 ++ Lib.byteCells (⟨l.toArray⟩ : ByteArray).data.toList ++ (AB zero32).toList.drop (0 + (⟨l.toArray⟩ : ByteArray).size)).toArray = AB l := by
  have e : (AB zero32).toList.drop (0 + (⟨l.toArray⟩ : ByteArray).size) = [] := by
    apply List.drop_eq_nil_of_le
    simp [ByteArray.size, AB, h, zero32]
  rw [e]
  apply Array.ext'
  simp only [List.take_zero, List.nil_append, List.append_nil, AB]
  rfl
set_option maxRecDepth 100000 in
set_option maxHeartbeats 4000000 in
theorem arr_any (l : List UInt8) (hl : l.length = 32) (w : World) : Calls Try.prog 50 #[S l] w fun e w' => e = .returned (.agg (AB l)) ∧ Below w.heap.size w w' := by
  go_enter Try.func50, Try.ntmps50
  go_upto_region 2 with (fail)
  refine gen_wp (fun w0 => Row w0 w.heap.size 22 (AB zero32) ∧ Row w0 (w.heap.size + 1) 22 (AB zero32) ∧ Below w.heap.size w w0) ⟨by rw [zero32_lit]; exact (Row.new w _ _).alloc _, by rw [zero32_lit]; exact Row.newAt _ _ _ _ (by simp), ((Below.refl _ w).alloc (Nat.le_refl _) _).alloc (by simp) _⟩ ?_
  rintro w0 ⟨r1, r2, hB0⟩
  have hcp := Lib.run_copy_row_string (P := Try.prog) w0 27 9 3 5 (w.heap.size + 1) 0 32 32 ⟨l.toArray⟩ (AB zero32) 22 Try.underlying27 (by kernel_rfl) r2.heap (by simp [ByteArray.size, hl]) (by simp [ByteArray.size, hl, AB, zero32])
  rw [str_cells l hl] at hcp
  have hz : (AB l).size = 32 := (AB_size l).trans hl
  have hz0 : (AB zero32).size = 32 := by kernel_rfl
  have r3 := r2.setRow (AB l)
  have r4 := r1.setRowOther (w.heap.size + 1) (AB l) (by omega)
  have hB1 := bSetRow hB0 (show w.heap.size ≤ w.heap.size + 1 by omega) (AB l)
  obtain ⟨w1, hw1⟩ : ∃ w1, w1 = w0.setRow (w.heap.size + 1) (AB l) := ⟨_, rfl⟩
  rw [← hw1] at hcp r3 r4 hB1
  clear hw1 hB0 r1 r2
  have hsb := sub_all (AB l) 32 hz
  have zb : 0 + 32 ≤ (AB l).size := by rw [hz]; decide
  go_wp2_with fail
  exact ret_row (.inl rfl) rfl w.heap.size _ _ 32 _ rfl (r4.setRow _) Try.underlying22 rfl (by kernel_rfl) hz ⟨rfl, bSetRow hB1 (Nat.le_refl _) _⟩
theorem at_anyI (l : List UInt8) (p n : Int) (P N : Nat) (w : World) (hl : l.length ≤ 1000000) (hp : p = (P : Int)) (hn : n = (N : Int)) (bp : P ≤ 100000000) (bn : N ≤ 1000000) :
    Calls Try.prog 49 #[S l, .int .i64 p, .int .i64 n] w fun e w' => e = .returned (S (atP l P N)) ∧ Below w.heap.size w w' := by
  subst hp hn; exact at_any l P N w hl bp bn
theorem get_anyI (l : List UInt8) (p n : Int) (P N : Nat) (w : World) (hl : l.length ≤ 1000000) (hp : p = (P : Int)) (hn : n = (N : Int)) (bp : P ≤ 100000000) (bn : N ≤ 4) :
    Calls Try.prog 30 #[S l, .int .i64 p, .int .i64 n] w fun e w' => e = .returned (.int .i64 (getP l P N : Int)) ∧ Below w.heap.size w w' := by
  subst hp hn; exact get_any l P N w hl bp bn
theorem run_min_nat (a c m : Nat) (hm : m = min a c) (x y : Int) (hx : x = a) (hy : y = c) (ts : Array TypeId) (t : TypeId) (w : World) : (Builtin.min_ ts t #[.int .i64 x, .int .i64 y]).run Try.prog w = .ok (.int .i64 (m : Int)) w := by
  subst hm hx hy
  rw [run_min_int2]
  congr 2
  split <;> omega
structure GSt (w : World) (g5 : Nat) (w1 : World) (C : Array Value) : Prop where
  ans : Row w1 w.heap.size 25 zMsg
  msg : Row w1 g5 25 C
  bel : Below w.heap.size w w1
  lt : w.heap.size < g5
section
variable {w w1 w2 : World} {g5 : Nat} {C : Array Value}
theorem GSt.call (h : GSt w g5 w1 C) (hb : Below w1.heap.size w1 w2) : GSt w g5 w2 C :=
  ⟨Row.below h.ans hb h.ans.lt, Row.below h.msg hb h.msg.lt, h.bel.trans (hb.mono h.bel.size), h.lt⟩
theorem GSt.set (h : GSt w g5 w1 C) {C' : Array Value} (i : Nat) (v : Value) (hC : C.setIfInBounds i v = C') : GSt w g5 (w1.setCell ⟨g5, i, none⟩ v) C' :=
  ⟨h.ans.setOther _ _ (by have := h.lt; show w.heap.size ≠ g5; omega), hC ▸ h.msg.set i v, h.bel.setCell (p := ⟨g5, i, none⟩) (Nat.le_of_lt h.lt) v, h.lt⟩
theorem GSt.setR (h : GSt w g5 w1 C) {C0 C' : Array Value} (hC : C0 = C') : GSt w g5 (w1.setRow g5 C0) C' :=
  ⟨h.ans.setRowOther _ _ (by have := h.lt; omega), hC ▸ h.msg.setRow C0, bSetRow h.bel (Nat.le_of_lt h.lt) _, h.lt⟩
theorem GSt.start {c : Array Value} (h5 : g5 = w.heap.size + 1) : GSt w g5 (((w.alloc (.cells zMsg 25)).alloc (.cells zMsg 25)).setRow g5 c) c := by
  subst h5
  exact ⟨((Row.new w _ _).alloc _).setRowOther _ _ (by omega), (Row.newAt _ _ _ _ (by simp)).setRow _, bSetRow (((Below.refl _ w).alloc (Nat.le_refl _) _).alloc (by simp) _) (by omega) _, by omega⟩
theorem GSt.fin (h : GSt w g5 w1 C) : Row (w1.setRow w.heap.size C) w.heap.size 25 C ∧ Below w.heap.size w (w1.setRow w.heap.size C) :=
  ⟨h.ans.setRow C, bSetRow h.bel (Nat.le_refl _) _⟩
end
theorem zMsg_s0 (k : Int) : zMsg.setIfInBounds 0 (.int .i64 k) = mD k zero32 zero32 [.string ⟨#[]⟩, .string ⟨#[]⟩, .string ⟨#[]⟩, .string ⟨#[]⟩, .string ⟨#[]⟩, .slice none 0 0, .int .i64 0, .int .i64 0, .bool false, .bool false] := by
  unfold zMsg
  rw [mD_of rfl rfl]
  exact mD_s0 k
attribute [go_sem] zMsg_s0
theorem mD_oMa (k : Int) (r mk b : List UInt8) (p : Nat) (l : List Value) : over (mD k r mk l) 33 (AB (atP b p 32)) = mD k r (atP b p 32) l := mD_oM _ (takeV_len _ _)
theorem mD_oRa (k : Int) (r mk b : List UInt8) (p : Nat) (l : List Value) : over (mD k r mk l) 1 (AB (atP b p 32)) = mD k (atP b p 32) mk l := mD_oR _ (takeV_len _ _)
attribute [go_sem] mD_oMa mD_oRa
theorem strs_nil (w : World) : StrsAt w (.slice none 0 0) [] := ⟨none, 0, rfl, Nat.le_refl _, Nat.zero_le _, fun i hi => absurd hi (Nat.not_lt_zero i)⟩
def RMsgAt (w : World) (C : Array Value) (m : MsgP) : Prop :=
  ∃ a c, C = mD m.kind m.random m.mark [S m.session, S m.share, S m.ticket, S m.nonce, S m.sig, .slice a m.certs.length c, .int .i64 m.life, .int .i64 m.age, .bool m.psk, .bool m.retry] ∧ StrsAt w (.slice a m.certs.length c) m.certs ∧ m.random.length = 32 ∧ m.mark.length = 32
theorem RMsgAt.below {w w' : World} {C : Array Value} {m : MsgP} (h : RMsgAt w C m) (hb : Below w.heap.size w w') : RMsgAt w' C m := by
  obtain ⟨a, c, e, h1, h2⟩ := h
  exact ⟨a, c, e, h1.below hb, h2⟩
end Go.Proofs.Ytnenoecmmelehaa
