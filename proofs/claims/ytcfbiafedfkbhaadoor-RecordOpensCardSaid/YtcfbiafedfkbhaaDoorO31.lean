/- Part of the proof: RefTag. No conditions of its own. -/
import Derived.Below
import Derived.BigQuiet
import Derived.BigRegion
import Derived.ChangeOld
import Derived.Deep.CutBlock
import Derived.Deep.DeepCutAuto
import Derived.Deep.Draws
import Derived.Deep.LoopGhost
import Derived.Deep.Quiet
import Derived.Deep.QuietTactic
import Derived.Deep.RegionHeld3
import Derived.Deep.RegionLaw
import Derived.Laws.AppendOwnNone
import Derived.Laws.Bits64
import Derived.Laws.BitsAllLaws
import Derived.Laws.BytesArg
import Derived.Laws.Concat
import Derived.Laws.CopyOwn
import Derived.Laws.MakeOwn
import Derived.Lib.Hide
import Derived.LoopIn
import Derived.LoopNIn
import Derived.OpenShut
import Derived.OrdersIn
import Derived.OwnWalkIn
import Derived.ProofKit
import Derived.RangeFuncBound
import Derived.RangeFuncBox
import Derived.RangeFuncCalls
import Derived.RangeFuncLeaves
import Derived.RangeFuncNested
import Derived.Shelf.Abstract
import Derived.ShutString
import Derived.StillTail
import Derived.TacticsIn
import Derived.TacticsInMore
import Derived.Test.YtcfbiafedfkbhaaDoorProg
import Derived.WalkKit
import Derived.WalkSpells
import Derived.Test.YtcfbiafedfkbhaaDoorO22
import Derived.Test.YtcfbiafedfkbhaaDoorO27
import Derived.Test.YtcfbiafedfkbhaaDoorO30
namespace Go.Proofs.YtcfbiafedfkbhaaDoor
open Go.RowKit

theorem tagF_xor (K : List UInt8) (last : Nat) (h nonce hidden beside : List UInt8) : tagF K last h nonce hidden beside = xorL (foldF h [beside, hidden, cntB beside.length hidden.length]) (padB K last nonce 1) := by
  have e := el_xorL (foldF h [beside, hidden, cntB beside.length hidden.length]) (padB K last nonce 1) (foldF_len _ _) (sealN_len _ _ _ _)
  rw [tagF, ← e, bl_el _ (xorL_len _ _)]
theorem add_S (a b : List UInt8) (h : a.length + b.length ≤ 1000000000) (w : World) : (Op.stringOp .add ⟨a.toArray⟩ ⟨b.toArray⟩).run Tryd.prog w = .ok (S (a ++ b)) w := by
  have e : ((⟨a.toArray⟩ : ByteArray) ++ (⟨b.toArray⟩ : ByteArray)) = ⟨(a ++ b).toArray⟩ := by
    apply ByteArray.ext
    simp [ByteArray.data_append]
  have := run_string_add_sum (P := Tryd.prog) (w := w) ⟨a.toArray⟩ ⟨b.toArray⟩ (by simp [ByteArray.size]; omega)
  rw [this, e]
theorem rseal_any (key b : List UInt8) (w : World) (hk : key.length = 16 ∨ key.length = 32) (hb : b.length = 16) :
    Calls Tryd.prog 54 #[S key, .agg (AB b)] w fun e w' => e = .returned (.agg (AB (sealN (expand key) (lastOf key) b (lastOf key)))) ∧ Below w.heap.size w w' := by
  have := ref_seal (key.length / 4) key b w (by omega) (by omega) hb
  exact this
set_option maxRecDepth 100000 in
set_option maxHeartbeats 4000000 in
theorem refTag_any (key nonce hid bes : List UInt8) (w : World) (hk : key.length = 16 ∨ key.length = 32) (hn : nonce.length = 12) (hhl : hid.length ≤ 1000000) (hbl : bes.length ≤ 1000000) :
    Calls Tryd.prog 41 #[S key, .agg (AB nonce), S hid, S bes] w fun e w' => e = .returned (S (tagF (expand key) (lastOf key) (hOf key) nonce hid bes)) ∧ Below w.heap.size w w' := by
  have hn16 := (AB_size nonce).trans hn
  go_enter Tryd.func41, Tryd.ntmps41
  go_wp2_with fail
  refine (rseal_any key (List.replicate 16 0) _ hk rfl).mono ?_
  rintro e w1 ⟨rfl, hb1⟩
  rw [show sealN (expand key) (lastOf key) (List.replicate 16 0) (lastOf key) = hOf key from rfl]
  have hhl16 := hOf_len key
  obtain ⟨h, hh⟩ : ∃ h, h = hOf key := ⟨_, rfl⟩
  rw [← hh] at hhl16 ⊢
  have HH := Lib.hid hh
  have s5 := (Row.new w 50 (AB nonce)).below hb1 (by simp)
  have hB1 : Below w.heap.size w w1 := ((Below.refl _ w).alloc (Nat.le_refl _) _).trans (hb1.mono (by simp))
  clear hh hb1
  go_wp2_with fail
  refine (eight_any bes.length _ hbl).mono ?_
  rintro e w2 ⟨rfl, hb2⟩
  have s5 := s5.below hb2 s5.lt
  have hB2 := hB1.trans (hb2.mono hB1.size)
  clear hb2 hB1
  go_wp2_with fail
  refine (eight_any hid.length _ hhl).mono ?_
  rintro e w3 ⟨rfl, hb3⟩
  have s5 := s5.below hb3 s5.lt
  have hB3 := hB2.trans (hb3.mono hB2.size)
  clear hb3 hB2
  have hadd := add_S (e8P bes.length 8) (e8P hid.length 8) (by rw [e8P_len, e8P_len]; decide)
  rw [← cntB_e8 _ _ hbl hhl] at hadd
  obtain ⟨X1, hX1⟩ : ∃ X, X = e8P bes.length 8 := ⟨_, rfl⟩
  obtain ⟨X2, hX2⟩ : ∃ X, X = e8P hid.length 8 := ⟨_, rfl⟩
  obtain ⟨C, hC⟩ : ∃ C, C = cntB bes.length hid.length := ⟨_, rfl⟩
  rw [← hX1, ← hX2, ← hC] at hadd
  rw [← hX1, ← hX2]
  have HC := Lib.hid hC
  clear hX1 hX2 hC
  go_wp2_with fail
  have hCl : C.length = 16 := by rw [HC.out, cntB, blQ_len]
  have hstr : StrsAt (w3.alloc (.cells #[S bes, S hid, S C] 9)) (.slice (some ⟨w3.heap.size, 0, none⟩) 3 3) [bes, hid, C] := by
    refine ⟨_, 3, rfl, Nat.le_refl _, by decide, fun i hi => ⟨_, _, rfl, ?_⟩⟩
    have hc := fun j => (Row.new w3 9 #[S bes, S hid, S C]).cell j
    match i, hi with
    | 0, _ => exact ⟨hc 0, hbl⟩
    | 1, _ => exact ⟨hc 1, hhl⟩
    | 2, _ => exact ⟨hc 2, by show C.length ≤ _; omega⟩
  have s5 := s5.alloc (.cells #[S bes, S hid, S C] 9)
  have hB4 := hB3.alloc hB3.size (.cells #[S bes, S hid, S C] 9)
  refine (refFold_any h [bes, hid, C] _ _ hhl16 hstr).mono ?_
  rintro e w5 ⟨rfl, hb5⟩
  have hfl := foldF_len h [bes, hid, C]
  obtain ⟨F, hF⟩ : ∃ F, F = foldF h [bes, hid, C] := ⟨_, rfl⟩
  rw [← hF] at hfl ⊢
  have HF := Lib.hid hF
  have hF16 := (AB_size F).trans hfl
  have s5 := s5.below hb5 s5.lt
  have hB5 := hB4.trans (hb5.mono hB4.size)
  clear hF hb5 hB4 hB3 hstr hadd
  have l5 := s5.lt
  go_upto_region 2 with (fail)
  obtain ⟨w6, hw6⟩ : ∃ w6, w6 = (w5.alloc (.cells #[.int .u8 0, .int .u8 0, .int .u8 0, .int .u8 0, .int .u8 0, .int .u8 0, .int .u8 0, .int .u8 0, .int .u8 0, .int .u8 0, .int .u8 0, .int .u8 0, .int .u8 0, .int .u8 0, .int .u8 0, .int .u8 0] 84)).setRow w5.heap.size (AB F) := ⟨_, rfl⟩
  obtain ⟨t9, ht9⟩ : ∃ t, t = w5.heap.size := ⟨_, rfl⟩
  rw [← hw6, ← ht9]
  have k5 : Row w6 w.heap.size 50 (AB nonce) := by rw [hw6]; exact (s5.alloc _).setRowOther _ _ (by omega)
  have k9 : Row w6 t9 84 (AB F) := by rw [hw6, ht9]; exact (Row.new _ _ _).setRow _
  have hB6 : Below w.heap.size w w6 := by rw [hw6]; exact bSetRow (hB5.alloc hB5.size _) hB5.size _
  have m9 : w.heap.size < t9 := by omega
  clear hw6 ht9 s5 hB5 l5
  go_wp2_with fail
  refine (counter_any nonce 1 _ hn).mono ?_
  rintro e w7 ⟨rfl, hb7⟩
  have k9 := k9.below hb7 k9.lt
  have hB7 := hB6.trans (hb7.mono hB6.size)
  clear hb7 hB6 k5
  go_wp2_with fail
  refine (rseal_any key (ctrB nonce 1) _ hk (ctrB_len nonce 1 hn)).mono ?_
  rintro e w8 ⟨rfl, hb8⟩
  have hpl := sealN_len (expand key) (lastOf key) (ctrB nonce 1) (lastOf key)
  obtain ⟨Pd, hPd⟩ : ∃ Pd, Pd = sealN (expand key) (lastOf key) (ctrB nonce 1) (lastOf key) := ⟨_, rfl⟩
  rw [← hPd] at hpl ⊢
  have HPD := Lib.hid hPd
  have hP16 := (AB_size Pd).trans hpl
  have k9 := k9.below hb8 k9.lt
  have hB8 := hB7.trans (hb8.mono hB7.size)
  clear hPd hb8 hB7
  have l9 := k9.lt
  go_wp2_with fail
  obtain ⟨wa, hwa⟩ : ∃ wa, wa = (w8.alloc (.cells #[.int .u8 0, .int .u8 0, .int .u8 0, .int .u8 0, .int .u8 0, .int .u8 0, .int .u8 0, .int .u8 0, .int .u8 0, .int .u8 0, .int .u8 0, .int .u8 0, .int .u8 0, .int .u8 0, .int .u8 0, .int .u8 0] 84)).setRow w8.heap.size (AB Pd) := ⟨_, rfl⟩
  obtain ⟨t10, ht10⟩ : ∃ t, t = w8.heap.size := ⟨_, rfl⟩
  rw [← hwa, ← ht10]
  have j9 : Row wa t9 84 (AB (xjP F Pd 0)) := by rw [hwa, xjP_zero F Pd hfl]; exact (k9.alloc _).setRowOther _ _ (by omega)
  have j10 : Row wa t10 84 (AB Pd) := by rw [hwa, ht10]; exact (Row.new _ _ _).setRow _
  have hBa : Below w.heap.size w wa := by rw [hwa]; exact bSetRow (hB8.alloc hB8.size _) hB8.size _
  have m10 : t9 < t10 := by omega
  clear hwa ht10 k9 hB8 l9
  go_loopg [11] 16 (fun m iv wr => ∃ j : Nat, m + j = 16 ∧ iv = .int .i64 (j : Int) ∧ Row wr t9 84 (AB (xjP F Pd j)) ∧ Row wr t10 84 (AB Pd) ∧ Below w.heap.size w wr)
  case atStart => exact ⟨0, by omega, rfl, j9, j10, hBa⟩
  case round =>
    clear j9 j10 hBa
    obtain ⟨j, hj, rfl, j9, j10, hB⟩ := hrel
    have hxl := xjP_len F Pd j
    by_cases hj16 : j < 16
    · have d1 : (j : Int) < 16 := by omega
      have hst : (xjP F Pd j).set j (xr (gb (xjP F Pd j) j) (gb Pd j)) = xjP F Pd (j + 1) := by rw [xjP_get F Pd j hj16]; exact xjP_step F Pd j
      have HST := Lib.hid hst
      clear hst
      go_wp2_with fail
      refine wp_region_qtail (fun w' => w' = _) 8 (by kernel_rfl) (by kernel_rfl) rfl ?_
      simp only [List.take_succ_cons, List.take_zero, List.drop_succ_cons, List.drop_zero]
      repeat (first | go_big_quiet_skip | (go_big_quiet_want; go_big_quiet_op; go_big_quiet_on))
      refine wpQuiet_nil ?_
      rintro _ rfl
      go_wp2_with fail
      go_roundg (gk - 1)
      case measure => omega
      case rel => exact ⟨j + 1, by omega, by go_num, by rw [← HST.out]; exact j9.drew.setByte j _, j10.drew.setOther _ _ (by simp; try omega), hB.drew.setCell (by simp; omega) _⟩
    · obtain rfl : j = 16 := by omega
      have hx : xjP F Pd 16 = xorL F Pd := tab_congr fun i hi => by rw [if_pos hi]
      rw [hx] at j9 hxl
      obtain ⟨X, hX⟩ : ∃ X, X = xorL F Pd := ⟨_, rfl⟩
      rw [← hX] at j9 hxl
      have hfin : tagF (expand key) (lastOf key) (hOf key) nonce hid bes = X := by
        rw [tagF_xor, hX, HF.out, HPD.out, HC.out, HH.out]
        rfl
      have HFIN := Lib.hid hfin
      have hconv := run_conv_slb (P := Tryd.prog) wr 23 5 9 Tryd.underlying23 Tryd.underlying5 Tryd.underlying9 _ _ (SlB.of_row j9 hxl (by decide))
      clear hx hX hfin j9 j10
      go_wp2_with fail
      go_ret
      exact ⟨by rw [HFIN.out]; rfl, hB⟩
end Go.Proofs.YtcfbiafedfkbhaaDoor

/- The walk of the document's Turn. -/
namespace Go.Proofs.YtcfbiafedfkbhaaDoor
open Go.RowKit

def tuB (K : List UInt8) (last : Nat) (nonce l : List UInt8) (i : Nat) : UInt8 := xr (gb l i) (gb (padB K last nonce (2 + i / 16)) (i % 16))
def tuP (K : List UInt8) (last : Nat) (nonce l : List UInt8) (i : Nat) : List UInt8 := (List.range i).map (tuB K last nonce l)
theorem tuP_len (K : List UInt8) (last : Nat) (nonce l : List UInt8) (i : Nat) : (tuP K last nonce l i).length = i := by simp [tuP]
theorem tuP_step (K : List UInt8) (last : Nat) (nonce l : List UInt8) (i : Nat) : tuP K last nonce l i ++ [tuB K last nonce l i] = tuP K last nonce l (i + 1) := by simp [tuP, List.range_succ]
theorem turnK_tab (K : List UInt8) (last : Nat) (nonce l : List UInt8) (m : Nat) : (turnK K last nonce l (List.range m)).1 = tab l.length fun j => if j < 16 * m then tuB K last nonce l j else gb l j := by
  induction m with
  | zero =>
    have : tab l.length (fun j => if j < 16 * 0 then tuB K last nonce l j else gb l j) = tab l.length (gb l) := tab_congr fun i _ => by rw [if_neg (by omega)]
    rw [this, tab_gb rfl]
    rfl
  | succ m ih =>
    have hi := turnK_inv K last nonce l (List.range m)
    rw [List.length_range] at hi
    rw [List.range_succ, turnK_snoc, turnS, hi.2, hi.1]
    simp only
    rw [ih]
    unfold xorAt
    rw [tab_length]
    apply tab_congr
    intro j hj
    by_cases h : 16 * m ≤ j ∧ j < 16 * m + min 16 (l.length - 16 * m)
    · rw [if_pos h, if_pos (by omega), gb_tab _ hj, if_neg (by omega)]
      unfold tuB
      rw [show j / 16 = m by omega, show j % 16 = j - 16 * m by omega]
    · rw [if_neg h, gb_tab _ hj]
      by_cases h2 : j < 16 * m
      · rw [if_pos h2, if_pos (by omega)]
      · rw [if_neg h2, if_neg (by omega)]
theorem turnF_tuP (K : List UInt8) (last : Nat) (nonce l : List UInt8) : turnF K last nonce l = tuP K last nonce l l.length := by
  rw [turnF, turnK_tab]
  exact tab_congr fun i hi => by rw [if_pos (by unfold nCh; omega)]
theorem wp_append1 {P : Program} {w : World} {o : Oper} {a : Act} {K : Act → World → Prop} {Q : Exit → Act → World → Prop} (s x : Operand) (t : TypeId)
    (ho : o.op = .call { callee := .builtin .append, args := #[s, x], argTypes := #[t, t] })
    {e : TypeId} (ht : P.underlying t = some (.slice e)) (hinf : (P.info? e).map (fun i => (i.zero, i.size, i.bytes)) = some (some (.int .u8 0), 1, 1))
    (base : Nat) (v : Value) (l : List UInt8) (hs : a.eval s = v) (hbuf : Buf e w base v l) (g : Nat) (y : UInt8) (hx : a.eval x = .slice (some ⟨g, 0, none⟩) 1 1) (hcell : w.cell? ⟨g, 0, none⟩ = some (B y))
    (hlen : l.length + 1 ≤ 140737488355328) (hbase : base ≤ w.heap.size)
    (h : ∀ v' w', Buf e w' base v' (l ++ [y]) → w.grownBy w' v.ownBlock → K (a.put o.dst v') w') : o.wp P a w K Q := by
  obtain ⟨i0, hi, hz0, hz1, hz2⟩ := info_parts hinf
  refine wp_append_own w s x t ho base e i0 (.int .u8 0) 1 1 ht hi hz0 hz1 hz2 rfl (by decide) v l.length (l.map B) hs hbuf ⟨g, 0, none⟩ 1 1 [B y] hx rfl ?_ ?_ (by unfold maxLen; omega) (by omega) hbase ?_
  · intro j u hj
    match j, hj with
    | 0, hj => simp only [List.getElem?_cons_zero, Option.some.injEq] at hj; subst hj; rw [Addr.add_zero']; exact hcell
  · intro u hu; obtain rfl := List.mem_singleton.1 hu; rfl
  · intro v' w' h1 h2 _
    exact h v' w' (by simpa [Buf] using h1) h2
theorem ownsRow_low' {w : World} {base : Nat} {e : TypeId} {v : Value} {l : List UInt8} (h : Buf e w base v l) {g : Nat} (hg : g < base) (cs : Array Value) : Buf e (w.setRow g cs) base v l :=
  ⟨h.1, h.2.imp id fun ⟨b, cap, cur, hv, hb, hh, h1⟩ => ⟨b, cap, cur, hv, hb, (setRow_other w g b cs (by omega)).trans hh, h1⟩⟩
set_option maxRecDepth 100000 in
set_option maxHeartbeats 4000000 in
theorem refTurn_any (key nonce l : List UInt8) (w : World) (hk : key.length = 16 ∨ key.length = 32) (hn : nonce.length = 12) (hl : l.length ≤ 1000000) :
    Calls Tryd.prog 40 #[S key, .agg (AB nonce), S l] w fun e w' => e = .returned (S (turnF (expand key) (lastOf key) nonce l)) ∧ Below w.heap.size w w' := by
  have hn16 := (AB_size nonce).trans hn
  have hll : (l.length : Int) ≤ 1000000 := by omega
  obtain ⟨K, hK⟩ : ∃ K, K = expand key := ⟨_, rfl⟩
  obtain ⟨last, hla⟩ : ∃ last, last = lastOf key := ⟨_, rfl⟩
  have hpad : ∀ (n : Nat) (w' : World), Calls Tryd.prog 54 #[S key, .agg (AB (ctrB nonce n))] w' (fun e w'' => e = .returned (.agg (AB (padB K last nonce n))) ∧ Below w'.heap.size w' w'') := fun n w' => by
    rw [hK, hla]
    exact rseal_any key (ctrB nonce n) w' hk (ctrB_len nonce n hn)
  rw [← hK, ← hla]
  have HPA := Lib.hid hpad
  clear hK hla hpad
  go_enter Tryd.func40, Tryd.ntmps40
  go_wp2_with fail
  obtain ⟨w0, hw0⟩ : ∃ w0, w0 = (w.alloc (.cells (AB nonce) 50)).alloc (.cells #[.int .u8 0, .int .u8 0, .int .u8 0, .int .u8 0, .int .u8 0, .int .u8 0, .int .u8 0, .int .u8 0, .int .u8 0, .int .u8 0, .int .u8 0, .int .u8 0, .int .u8 0, .int .u8 0, .int .u8 0, .int .u8 0] 84) := ⟨_, rfl⟩
  rw [← hw0]
  have h4 : Row w0 w.heap.size 50 (AB nonce) := by rw [hw0]; exact (Row.new w _ _).alloc _
  have h8 : Row w0 (w.heap.size + 1) 84 (AB (List.replicate 16 0)) := by rw [hw0]; exact Row.newAt _ _ _ _ (by simp)
  have hB : Below w.heap.size w w0 := by rw [hw0]; exact ((Below.refl _ w).alloc (Nat.le_refl _) _).alloc (by simp) _
  have hs0 : w.heap.size + 2 ≤ w0.heap.size := by rw [hw0]; simp
  clear hw0
  go_loopg [7, 9] (l.length) (fun m v iv wr => ∃ (i : Nat) (pd : List UInt8) (va : Option Addr) (vc : Nat), m + i = l.length ∧ iv = .int .i64 (i : Int) ∧ v = .slice va i vc ∧ pd.length = 16 ∧ (i % 16 ≠ 0 → pd = padB K last nonce (2 + i / 16)) ∧ Row wr w.heap.size 50 (AB nonce) ∧ Row wr (w.heap.size + 1) 84 (AB pd) ∧ Buf 5 wr (w.heap.size + 2) v (tuP K last nonce l i) ∧ Below w.heap.size w wr ∧ w.heap.size + 2 ≤ wr.heap.size)
  case atStart => exact ⟨0, List.replicate 16 0, none, 0, by omega, rfl, rfl, rfl, (fun h => absurd rfl h), h4, h8, by simpa [Buf, tuP] using World.ownsRow_nil w0 (w.heap.size + 2) 5 1, hB, hs0⟩
  case round =>
    clear h4 h8 hB hs0
    obtain ⟨i, pd, va, vc, hi, rfl, rfl, hpl, hpe, h4, h8, hbuf, hB, hs⟩ := hrel
    by_cases hil : i < l.length
    ·
      --<A
      have c1 : (i : Int) < (l.length : Int) := by omega
      have c0 : (0 : Int) ≤ (i : Int) := by omega
      have c3 : ((i : Int)).toNat = i := by omega
      obtain ⟨q, hq⟩ : ∃ q, q = i / 16 := ⟨_, rfl⟩
      obtain ⟨r, hr⟩ : ∃ r, r = i % 16 := ⟨_, rfl⟩
      have e1 : (i : Int) / 16 = (q : Int) := by omega
      have e2 : (i : Int) % 16 = (r : Int) := by omega
      have e3 : Int.tdiv (i : Int) 16 = (q : Int) := by rw [Int.tdiv_eq_ediv_of_nonneg (by omega)]; exact e1
      have e4 : Int.tmod (i : Int) 16 = (r : Int) := by rw [Int.tmod_eq_emod_of_nonneg (by omega)]; exact e2
      have hr16 : r < 16 := by omega
      have b1 : (r : Int) < 16 := by omega
      obtain ⟨pn, hpn⟩ : ∃ pn, pn = padB K last nonce (2 + q) := ⟨_, rfl⟩
      have hpnl : pn.length = 16 := by rw [hpn]; exact sealN_len _ _ _ _
      have hbyte : tuB K last nonce l i = xr (gb l i) (gb pn r) := by rw [tuB, ← hq, ← hr, ← hpn]
      have hst := tuP_step K last nonce l i
      have hLl := tuP_len K last nonce l i
      obtain ⟨L, hL⟩ : ∃ L, L = tuP K last nonce l i := ⟨_, rfl⟩
      rw [← hL] at hst hbuf hLl
      rw [hbyte] at hst
      rw [← hq, ← hr, ← hpn] at hpe
      have hnx : (i + 1) % 16 ≠ 0 → pn = padB K last nonce (2 + (i + 1) / 16) := fun h => by rw [hpn, show (i + 1) / 16 = q by omega]
      have HNX := Lib.hid hnx
      have HST := Lib.hid hst
      have HPE := Lib.hid hpe
      have HPN := Lib.hid hpn
      have HBU := Lib.hid hbuf
      have hLb : L.length ≤ 1000000 := by omega
      clear hq hr hpn hbyte hst hL hpe hnx hbuf hLl
      go_upto_if 18 with (fail)
      go_cut [] (fun w2 => Row w2 w.heap.size 50 (AB nonce) ∧ Row w2 (w.heap.size + 1) 84 (AB pn) ∧ Buf 5 w2 (w.heap.size + 2) (.slice va i vc) L ∧ Below w.heap.size w w2 ∧ w.heap.size + 2 ≤ w2.heap.size)
      case first =>
        by_cases hr0 : r = 0
        · subst hr0
          go_wp2_with fail
          rw [show (2 : Int) + (q : Int) = ((2 + q : Nat) : Int) by omega]
          refine (counter_any nonce (2 + q) _ hn).mono ?_
          rintro e w5 ⟨rfl, hb5⟩
          have k4 := h4.below hb5 h4.lt
          have k8 := h8.below hb5 h8.lt
          have kB := hB.trans (hb5.mono hB.size)
          have kU := ownsRow_low HBU.out hb5
          have ks := hb5.size
          go_wp2_with fail
          refine (HPA.out (2 + q) _).mono ?_
          rintro e w6 ⟨rfl, hb6⟩
          rw [← HPN.out]
          have hp16 := (AB_size pn).trans hpnl
          have j4 := k4.below hb6 k4.lt
          have j8 := k8.below hb6 k8.lt
          have jB := kB.trans (hb6.mono kB.size)
          have jU := Lib.hid (ownsRow_low kU hb6)
          have js := hb6.size
          have hd16 := (AB_size pd).trans hpl
          clear kU
          go_wp2_with fail
          go_meet
          case rel => exact ⟨j4.setRowOther _ _ (by omega), j8.setRow _, ownsRow_low' jU.out (by omega) _, bSetRow jB (by omega) _, by simp; omega⟩
        · have hpp : pd = pn := by rw [HPE.out hr0, HPN.out]
          rw [hpp] at h8
          have t1 : ((r : Int) == 0) = false := by rw [beq_eq_false_iff_ne]; omega
          have t2 : ¬ (r : Int) = 0 := by omega
          clear hpp
          go_wp2_with fail
          go_meet
          case rel => exact ⟨h4, h8, HBU.out, hB, hs⟩
      case rest =>
        clear h4 h8 hB hs HBU HPE HPN
        obtain ⟨h4, h8, hbuf, hB, hs⟩ := hcut
        have HBU := Lib.hid hbuf
        clear hbuf
        have kS : Row wc.drew w.heap.size 50 (AB nonce) ∧ Row wc.drew (w.heap.size + 1) 84 (AB pn) ∧ Below w.heap.size w wc.drew ∧ w.heap.size + 2 ≤ wc.drew.heap.size := ⟨h4, h8, hB.drew, hs⟩
        have kA : ∀ (o : Obj), Row (wc.drew.alloc o) w.heap.size 50 (AB nonce) ∧ Row (wc.drew.alloc o) (w.heap.size + 1) 84 (AB pn) ∧ Below w.heap.size w (wc.drew.alloc o) ∧ w.heap.size + 2 ≤ (wc.drew.alloc o).heap.size := fun o => ⟨h4.drew.alloc o, h8.drew.alloc o, hB.drew.alloc hB.drew.size o, by simp; omega⟩
        have kG : ∀ (o : Obj) (w' : World), (wc.drew.alloc o).grownBy w' (Value.slice va i vc).ownBlock → Row w' w.heap.size 50 (AB nonce) ∧ Row w' (w.heap.size + 1) 84 (AB pn) ∧ Below w.heap.size w w' ∧ w.heap.size + 2 ≤ w'.heap.size := fun o w' hg => by
          have hb : ∀ k, (Value.slice va i vc).ownBlock = some k → w.heap.size + 2 ≤ k := fun k e => (HBU.out.lt k e).1
          have hb2 : Below (w.heap.size + 2) (wc.drew.alloc o) w' := Below.grown (Below.refl _ _) hg (by simp; omega) hb
          exact ⟨(kA o).1.below hb2 (by omega), (kA o).2.1.below hb2 (by omega), (kA o).2.2.1.trans (hb2.mono (by omega)), Nat.le_trans (kA o).2.2.2 hb2.size⟩
        have KA := Lib.hid kA
        have KG := Lib.hid kG
        have hlb : L.length + 1 ≤ 140737488355328 := by omega
        have hcel : ∀ x : UInt8, (wc.drew.alloc (.cells #[B x] 5)).cell? ⟨wc.drew.heap.size, 0, none⟩ = some (B x) := fun x => (Row.new wc.drew 5 #[B x]).cell 0
        have hbs : ∀ o, w.heap.size + 2 ≤ (wc.drew.alloc o).heap.size := fun o => (kA o).2.2.2
        have HCE := Lib.hid hcel
        have HBS := Lib.hid hbs
        have HLB := Lib.hid hlb
        clear kA kG h4 h8 hB hs hcel hbs hlb
        go_upto_region 8 with (fail)
        go_region_held3? (fun w' => Row w' w.heap.size 50 (AB nonce) ∧ Row w' (w.heap.size + 1) 84 (AB pn) ∧ Below w.heap.size w w' ∧ w.heap.size + 2 ≤ w'.heap.size)
          ((first | assumption | exact kS | exact KA.out _))
          ((rw [if_pos (by rfl)]; refine wp_append1 (.tmp 26) (.tmp 35) 23 rfl Tryd.underlying23 info_u8 (w.heap.size + 2) _ L rfl (Buf.alloc HBU.out _) wc.heap.size (xr (gb l i) (gb pn r)) rfl (HCE.out _) HLB.out (HBS.out _) ?_; intro v' w' hb' hg'; have hs' := KG.out _ _ hg'))
        rw [HST.out] at hb'
        obtain ⟨a2, c2, hv2⟩ : ∃ a c, v' = .slice a (i + 1) c := by
          obtain ⟨a, c, h, _⟩ := hb'.slb
          rw [tuP_len] at h
          exact ⟨a, c, h⟩
        have HB' := Lib.hid hb'
        clear hb' hg'
        go_wp2_with fail
        go_roundg (gk - 1)
        case measure => omega
        case rel => exact ⟨i + 1, pn, a2, c2, by omega, by go_num, hv2, hpnl, HNX.out, hs'.1, hs'.2.1, HB'.out, hs'.2.2.1, hs'.2.2.2⟩
      --A>
    ·
      --<B
      obtain rfl : i = l.length := by omega
      rw [← turnF_tuP] at hbuf
      have hconv := run_conv_slb (P := Tryd.prog) wr 23 5 9 Tryd.underlying23 Tryd.underlying5 Tryd.underlying9 _ _ hbuf.slb
      clear hbuf
      go_wp2_with fail
      go_ret
      exact ⟨rfl, hB⟩
      --B>
end Go.Proofs.YtcfbiafedfkbhaaDoor

/- The walk of the document's Seal, chapter 05. -/
namespace Go.Proofs.YtcfbiafedfkbhaaDoor
open Go.RowKit

set_option maxRecDepth 100000 in
set_option maxHeartbeats 2000000 in
theorem refGSeal_any (key nonce l bes : List UInt8) (w : World) (hk : key.length = 16 ∨ key.length = 32) (hn : nonce.length = 12) (hl : l.length ≤ 1000000) (hbl : bes.length ≤ 1000000) :
    Calls Tryd.prog 18 #[S key, .agg (AB nonce), S l, S bes] w fun e w' => e = .returned (S (sealB (expand key) (lastOf key) (hOf key) nonce l bes)) ∧ Below w.heap.size w w' := by
  have hn16 := (AB_size nonce).trans hn
  go_enter Tryd.func18, Tryd.ntmps18
  go_wp2_with fail
  refine (refTurn_any key nonce l _ hk hn hl).mono ?_
  rintro e w1 ⟨rfl, hb1⟩
  have htl := turnF_len (expand key) (lastOf key) nonce l
  obtain ⟨T, hT⟩ : ∃ T, T = turnF (expand key) (lastOf key) nonce l := ⟨_, rfl⟩
  rw [← hT] at htl ⊢
  have hTl : T.length ≤ 1000000 := by omega
  have s5 := (Row.new w 50 (AB nonce)).below hb1 (by simp)
  have hB1 : Below w.heap.size w w1 := ((Below.refl _ w).alloc (Nat.le_refl _) _).trans (hb1.mono (by simp))
  have HT := Lib.hid hT
  clear hT htl hb1
  go_wp2_with fail
  refine (refTag_any key nonce T bes _ hk hn hTl hbl).mono ?_
  rintro e w2 ⟨rfl, hb2⟩
  have hgl := tagF_len (expand key) (lastOf key) (hOf key) nonce T bes
  have hadd := add_S T (tagF (expand key) (lastOf key) (hOf key) nonce T bes) (by omega)
  have hfin : T ++ tagF (expand key) (lastOf key) (hOf key) nonce T bes = sealB (expand key) (lastOf key) (hOf key) nonce l bes := by rw [sealB, ← HT.out]
  obtain ⟨G, hG⟩ : ∃ G, G = tagF (expand key) (lastOf key) (hOf key) nonce T bes := ⟨_, rfl⟩
  rw [← hG] at hadd hfin hgl ⊢
  have hB2 := hB1.trans (hb2.mono hB1.size)
  have HFIN := Lib.hid hfin
  clear hG hb2 hB1 hfin hgl s5
  go_wp2_with fail
  go_ret
  exact ⟨by rw [← HFIN.out]; rfl, hB2⟩
end Go.Proofs.YtcfbiafedfkbhaaDoor

/- What is turned twice is as it was. -/
namespace Go.Proofs.YtcfbiafedfkbhaaDoor
open Go.RowKit

theorem gb_tuP (K : List UInt8) (last : Nat) (nonce l : List UInt8) (n i : Nat) (h : i < n) : gb (tuP K last nonce l n) i = tuB K last nonce l i := gb_tab (n := n) (tuB K last nonce l) h
theorem xr_xr (a b : UInt8) : xr (xr a b) b = a := by unfold xr; rw [UInt8.xor_assoc, UInt8.xor_self, UInt8.xor_zero]
theorem turnF_turnF (K : List UInt8) (last : Nat) (nonce l : List UInt8) : turnF K last nonce (turnF K last nonce l) = l := by
  have hl : (tuP K last nonce l l.length).length = l.length := tuP_len _ _ _ _ _
  rw [turnF_tuP K last nonce l, turnF_tuP, hl]
  apply gb_ext (tuP_len _ _ _ _ _)
  intro i hi
  rw [gb_tuP _ _ _ _ _ _ hi, tuB, gb_tuP _ _ _ _ _ _ hi, tuB, xr_xr]
end Go.Proofs.YtcfbiafedfkbhaaDoor
