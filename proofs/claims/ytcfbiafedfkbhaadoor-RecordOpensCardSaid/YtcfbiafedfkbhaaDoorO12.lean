/- Part of the proof: MacLab, BlockA. No conditions of its own. -/
import Derived.ArgAppend
import Derived.BigQuiet
import Derived.Deep.DeepCutAuto
import Derived.Deep.Draws
import Derived.Deep.LoopGhost
import Derived.Deep.Quiet
import Derived.Deep.QuietTactic
import Derived.Deep.RegionLaw
import Derived.Laws.AppendOwnNone
import Derived.Laws.BitsAllLaws
import Derived.Laws.BytesArg
import Derived.Laws.CopyOwn
import Derived.Lib.AppendStr
import Derived.Lib.Hide
import Derived.Maps.AppendAt
import Derived.StillTail
import Derived.Test.YtcfbiafedfkbhaaDoorProg
import Derived.WalkKit
import Derived.Test.YtcfbiafedfkbhaaDoorO11
import Derived.WalkSpells
import Derived.Test.YtcfbiafedfkbhaaDoorO02
import Derived.Test.YtcfbiafedfkbhaaDoorO03
namespace Go.Proofs.YtcfbiafedfkbhaaDoor
open Go.RowKit
set_option linter.unusedVariables false
set_option linter.unusedSimpArgs false

def preS : List UInt8 := [116, 108, 115, 49, 51, 32]
def labI (ls ctx : List UInt8) (n : Nat) : List UInt8 := [UInt8.ofNat (n / 256), UInt8.ofNat n, UInt8.ofNat (preS ++ ls).length] ++ (preS ++ ls) ++ [UInt8.ofNat ctx.length] ++ ctx
def labS (key ls ctx : List UInt8) (n : Nat) : List UInt8 := expS key (labI ls ctx n) n
theorem labS_len (key ls ctx : List UInt8) (n : Nat) (h : n ≤ 32) : (labS key ls ctx n).length = n := expS_len _ _ _ h
theorem add_W (a b : List UInt8) (h : a.length + b.length ≤ 1000000000) (w : World) : (Op.stringOp .add ⟨a.toArray⟩ ⟨b.toArray⟩).run Tryd.prog w = .ok (S (a ++ b)) w := by
  have e : ((⟨a.toArray⟩ : ByteArray) ++ (⟨b.toArray⟩ : ByteArray)) = ⟨(a ++ b).toArray⟩ := by
    apply ByteArray.ext
    simp [ByteArray.data_append]
  have := run_string_add_sum (P := Tryd.prog) (w := w) ⟨a.toArray⟩ ⟨b.toArray⟩ (by simp [ByteArray.size]; omega)
  rw [this, e]
theorem strCells_S (m : List UInt8) : Lib.strCells ⟨m.toArray⟩ = m.map B := by simp [Lib.strCells]
theorem wpl_appStr {w : World} {ops : Array Oper} {rest : List Oper} {o : Oper} {a : Act} {Q : Exit → Act → World → Prop} (hgd : o.guard = none) (s x : Operand)
    (ho : o.op = .call { callee := .builtin .append, args := #[s, x], argTypes := #[23, 9] })
    (base : Nat) (v : Value) (l : List UInt8) (hs : a.eval s = v) (hbuf : Buf 5 w base v l) (m : List UInt8) (hx : a.eval x = S m)
    (hlen : l.length + m.length ≤ 1000000) (hbase : base ≤ w.heap.size)
    (h : ∀ v' w', Buf 5 w' base v' (l ++ m) → w.grownBy w' v.ownBlock → wpList Tryd.prog ops Q rest (a.put o.dst v') w') : wpList Tryd.prog ops Q (o :: rest) a w := by
  obtain ⟨i0, hi, hz0, hz1, hz2⟩ := info_parts info_u8S
  have hsz : (⟨m.toArray⟩ : ByteArray).size = m.length := by simp [ByteArray.size]
  refine Lib.wpList_append_own_string w hgd s x 23 9 ho base 5 i0 Tryd.underlying23 Tryd.underlying9 hi hz0 hz1 hz2 v l.length (l.map B) hs hbuf ⟨m.toArray⟩ hx (by rw [hsz]; unfold maxLen; omega) (by rw [hsz]; omega) hbase ?_
  intro v' w' h1 h2 _
  refine h v' w' ?_ h2
  rw [hsz, strCells_S, ← List.map_append] at h1
  unfold Buf
  rw [List.length_append]
  exact h1
theorem wp_appB {o : Oper} {a : Act} {w : World} {K : Act → World → Prop} {Q : Exit → Act → World → Prop} (s x : Operand)
    (ho : o.op = .call { callee := .builtin .append, args := #[s, x], argTypes := #[23, 23] })
    (base : Nat) (v : Value) (l : List UInt8) (hs : a.eval s = v) (hb : OwnW w base v l) (vx : Value) (m : List UInt8) (hx : a.eval x = vx) (hS : SlB w vx m)
    (hlen : l.length + m.length ≤ 1000000) (hbase : base ≤ w.heap.size)
    (h : ∀ v' w', OwnW w' base v' (l ++ m) → Below base w w' → K (a.put o.dst v') w') : o.wp Tryd.prog a w K Q := by
  obtain ⟨v', w', hr, h1, h2, _⟩ := run_appW w base v l hb vx m hS (by omega) hbase o.type
  have hown : ∀ k, v.ownBlock = some k → base ≤ k := fun k e => by
    rcases hb.row with e1 | ⟨b, cs, e1, hb1, _⟩
    · rw [e1] at e; cases e
    · rw [e1] at e; obtain rfl := Option.some.inj e; exact hb1
  have hbel : Below base w w' := (Below.refl base w).grown h2 hbase hown
  unfold Oper.wp execOp
  simp only [ho, resolve, invoke, builtin, Sem.run_bind, Sem.run_pure, Result.andThen_ok, List.map_toArray, List.map_cons, List.map_nil, hs, hx, hr]
  exact h v' w' h1 hbel
theorem wp_callO {o : Oper} {a : Act} {w : World} {K : Act → World → Prop} {Q : Exit → Act → World → Prop} (f : FuncId) (args : Array Value) (hrun : (execOp a.eval o).run Tryd.prog w = .ok (.enter f args) w) (hc : Calls Tryd.prog f args w fun e w' => ∃ v, e = .returned v ∧ K (a.put o.dst v) w') : o.wp Tryd.prog a w K Q := by
  unfold Oper.wp
  rw [hrun, Oper.upon_enter]
  refine hc.mono ?_
  rintro e w' ⟨v, rfl, h⟩
  exact h
theorem bAl {w w' : World} {o : Obj} {n : Nat} (hn : n ≤ w.heap.size) (h : Below n w w') : Below n w (w'.alloc o) := h.alloc (Nat.le_trans hn h.size) o
theorem OwnW.addr {w : World} {B0 : Nat} {v : Value} {l : List UInt8} (h : OwnW w B0 v l) : ∀ ad, addrV v = some ad → ad.block < w.heap.size := fun ad had => by
  rcases h with ⟨rfl, _⟩ | ⟨b, o, cap, cur, rfl, _, hr, _⟩
  · cases had
  · obtain rfl := Option.some.inj had
    exact hr.lt
theorem u8wr (n : Nat) (k : Int) (h : k = (n : Int)) : IntKind.u8.wrap k = ((UInt8.ofNat n).toNat : Int) := by rw [h]; exact u8wrapS n
set_option maxRecDepth 100000 in
set_option maxHeartbeats 4000000 in
theorem mlab_any (w : World) (key ls ctx : List UInt8) (vc : Value) (n : Nat) (hv : HashW w) (hk : key.length = 32) (hc : SlB w vc ctx) (hls : ls.length ≤ 200) (hcl : ctx.length ≤ 255) (hn0 : 0 < n) (hn : n ≤ 32) :
    Calls Tryd.prog 27 #[.agg (AB key), S ls, vc, .int .i64 (n : Int)] w fun e w' => ∃ v, e = .returned (.tuple #[v, .int .i64 0]) ∧ SlB w' v (labS key ls ctx n) ∧ Below w.heap.size w w' := by
  obtain ⟨ac, cc, rfl, hc'⟩ := id hc
  clear hc'
  have HV := Lib.hid hv
  have HC := Lib.hid hc
  have HK := Lib.hid hk
  have hks := (AB_size key).trans hk
  have hsk := sub_all (AB key) 32 hks
  have hadd := fun W => add_W preS ls (by have : preS.length = 6 := rfl; omega) W
  obtain ⟨NM, hNM⟩ : ∃ N, N = preS ++ ls := ⟨_, rfl⟩
  have hNl : NM.length ≤ 206 := by rw [hNM, List.length_append]; have : preS.length = 6 := rfl; omega
  rw [← hNM] at hadd
  have m1 : (n : Int) ≤ 32 := by omega
  have m2 : (0 : Int) < (n : Int) := by omega
  have m3 : ¬ (n : Int) < 0 := by omega
  have m4 : ¬ (8160 : Int) < (n : Int) := by omega
  have m5 : ¬ (255 : Int) < (NM.length : Int) := by omega
  have m6 : ¬ (255 : Int) < (ctx.length : Int) := by omega
  have u1 := u8wr (n / 256) ((n : Int) / 256) (by simp)
  have u2 := u8wr n (n : Int) rfl
  have u3 := u8wr NM.length (NM.length : Int) rfl
  have u4 := u8wr ctx.length (ctx.length : Int) rfl
  obtain ⟨x1, hx1⟩ : ∃ x, x = UInt8.ofNat (n / 256) := ⟨_, rfl⟩
  obtain ⟨x2, hx2⟩ : ∃ x, x = UInt8.ofNat n := ⟨_, rfl⟩
  obtain ⟨x3, hx3⟩ : ∃ x, x = UInt8.ofNat NM.length := ⟨_, rfl⟩
  obtain ⟨x4, hx4⟩ : ∃ x, x = UInt8.ofNat ctx.length := ⟨_, rfl⟩
  rw [← hx1] at u1
  rw [← hx2] at u2
  rw [← hx3] at u3
  rw [← hx4] at u4
  have HI := Lib.hid (show [x1, x2, x3] ++ NM ++ [x4] ++ ctx = labI ls ctx n by rw [labI, hx1, hx2, hx3, hx4, hNM])
  have HN := Lib.hid (⟨hn0, hn, hcl, hNl⟩ : _ ∧ _ ∧ _ ∧ _)
  clear hv hc hk hn hn0 hls hcl hNl hx1 hx2 hx3 hx4 hNM
  unfold preS at hadd
  go_enter Tryd.func27, Tryd.ntmps27
  go_upto_region 4 with (fail)
  obtain ⟨w0, hw0⟩ : ∃ W, W = w.alloc (.cells (AB key) 28) := ⟨_, rfl⟩
  rw [← hw0]
  have HR0 := Lib.hid (show Row w0 w.heap.size 28 (AB key) by rw [hw0]; exact Row.new _ _ _)
  have HB0 := Lib.hid (show Below w.heap.size w w0 by rw [hw0]; exact (Below.refl _ w).alloc (Nat.le_refl _) _)
  have hs0 : w0.heap.size = w.heap.size + 1 := by rw [hw0]; simp
  have HS0 := Lib.hid hs0
  clear hw0
  have HBF := Lib.hid (show Buf 5 (w0.alloc (.cells #[.int .u8 (x1.toNat : Int), .int .u8 (x2.toNat : Int), .int .u8 (x3.toNat : Int)] 5)) w0.heap.size (.slice (some ⟨w0.heap.size, 0, none⟩) 3 3) [x1, x2, x3] from Buf.mk' (l := [x1, x2, x3]) (cap := 3) (Row.new w0 5 (AB [x1, x2, x3])) rfl (Nat.le_refl 3) (by decide) rfl (Nat.le_refl _))
  clear hs0
  go_wp2_with (at_builtin; refine wpl_appStr rfl (.tmp 38) (.tmp 39) rfl w0.heap.size _ [x1, x2, x3] rfl HBF.out NM rfl (by have := HN.out.2.2.2; simp; omega) (by simp) ?_)
  intro v1 w1 hb1 hg1
  have hB1 : Below w0.heap.size w0 w1 := ((Below.refl _ w0).alloc (Nat.le_refl _) _).grown hg1 (by simp) (fun j e => by obtain rfl := Option.some.inj e; exact Nat.le_refl _)
  have ho1 := OwnW.of_buf hb1
  obtain ⟨a1, c1, rfl, _⟩ := ho1.slb
  have HO1 := Lib.hid ho1
  have HB1 := Lib.hid hB1
  have hr1 : Row w1 w.heap.size 28 (AB key) := HR0.out.below hB1 (by rw [HS0.out]; omega)
  have hlt1 := hr1.lt
  have hs1 := hB1.size
  obtain ⟨M, hM⟩ : ∃ M, M = x1 :: x2 :: x3 :: NM := ⟨_, rfl⟩
  rw [← hM] at HO1 ⊢
  have HM := Lib.hid (show M.length ≤ 210 ∧ M ++ [x4] ++ ctx = labI ls ctx n by
    refine ⟨?_, by rw [hM, ← HI.out]; rfl⟩
    have := HN.out.2.2.2
    rw [hM]; simp; omega)
  obtain ⟨L2, hL2⟩ : ∃ L, L = M ++ [x4] := ⟨_, rfl⟩
  obtain ⟨L3, hL3⟩ : ∃ L, L = L2 ++ ctx := ⟨_, rfl⟩
  have HL2 := Lib.hid hL2
  have HL3 := Lib.hid hL3
  have HLL := Lib.hid (show L2.length ≤ 211 ∧ L3.length ≤ 500 ∧ L3 = labI ls ctx n by
    have h1 := HM.out.1
    have h2 := HN.out.2.2.1
    exact ⟨by rw [hL2]; simp; omega, by rw [hL3, hL2]; simp; omega, by rw [hL3, hL2]; exact HM.out.2⟩)
  clear hL2 hL3
  have HC1 := Lib.hid (HC.out.below (HB0.out.trans (hB1.mono HB0.out.size)))
  have HV1 := Lib.hid (HV.out.below (HB0.out.trans (hB1.mono HB0.out.size)))
  clear hb1 hg1 hB1 ho1 hM hadd
  go_upto_region 5 with (fail)
  go_region_law (first
    | (refine wp_appB (.tmp 42) (.tmp 46) (by rfl) w0.heap.size (.slice a1 M.length c1) M (by rfl) (by repeat (first | exact HO1.out | refine OwnW.below ?_ (bAl (Nat.le_refl _) (Below.refl _ _)) | refine OwnW.below ?_ (Below.drew (Below.refl _ _)))) _ [x4] (by rfl) (Row.slW (l := [x4]) (t := 5) (Row.new _ _ _) (by simp)) (by have := HM.out.1; simp; omega) (by first | (simp; done) | (simp; omega)) ?_
       intro v2 w6 ho2 hB2
       rw [← HL2.out] at ho2
       obtain ⟨a2, c2, rfl, _⟩ := ho2.slb
       have HB2 := Lib.hid (show OwnW w6 w0.heap.size (.slice a2 L2.length c2) L2 ∧ Below w0.heap.size w1 w6 from ⟨ho2, Below.trans (by repeat (first | exact Below.refl _ _ | refine bAl hs1 ?_ | refine Below.drew ?_)) hB2⟩)
       have hr6 : Row w6 w.heap.size 28 (AB key) := hr1.below HB2.out.2 (by rw [HS0.out]; omega)
       have hlt6 := hr6.lt
       clear ho2 hB2)
    | (refine wp_appB (.tmp 47) (.tmp 48) (by rfl) w0.heap.size (.slice a2 L2.length c2) L2 (by rfl) (by repeat (first | exact HB2.out.1 | refine OwnW.below ?_ (bAl (Nat.le_refl _) (Below.refl _ _)) | refine OwnW.below ?_ (Below.drew (Below.refl _ _)))) _ ctx (by rfl) (HC.out.below (HB0.out.trans ((HB1.out.trans (by repeat (first | exact HB2.out.2 | refine Below.drew ?_ | refine bAl hs1 ?_))).mono HB0.out.size))) (by have := HLL.out.1; have := HN.out.2.2.1; omega) (Nat.le_trans hs1 (Below.size (w := w1) (B := w0.heap.size) (by repeat (first | exact HB2.out.2 | refine Below.drew ?_ | refine bAl hs1 ?_)))) ?_
       intro v3 w7 ho3 hB3
       rw [← HL3.out] at ho3
       obtain ⟨a3, c3, rfl, _⟩ := ho3.slb
       have HB3 := Lib.hid (show OwnW w7 w0.heap.size (.slice a3 L3.length c3) L3 ∧ Below w0.heap.size w1 w7 from ⟨ho3, Below.trans (by repeat (first | exact HB2.out.2 | refine bAl hs1 ?_ | refine Below.drew ?_)) hB3⟩)
       have hr7 : Row w7 w.heap.size 28 (AB key) := hr1.below HB3.out.2 (by rw [HS0.out]; omega)
       have hlt7 := hr7.lt
       clear ho3 hB3)
    | (refine wp_callO 43 #[.agg (AB key), .slice a3 L3.length c3, .int .i64 (n : Int)] (by simp [go_sem]; done) ?_
       refine (mexp_any _ key L3 (.slice a3 L3.length c3) n (HV.out.below (HB0.out.trans ((HB1.out.trans (by repeat (first | exact HB3.out.2 | refine Below.drew ?_ | refine bAl hs1 ?_))).mono HB0.out.size))) HK.out (OwnW.slb (B0 := w0.heap.size) (by repeat (first | exact HB3.out.1 | refine OwnW.below ?_ (Below.drew (Below.refl _ _))))) (OwnW.addr (B0 := w0.heap.size) (by repeat (first | exact HB3.out.1 | refine OwnW.below ?_ (Below.drew (Below.refl _ _))))) (Nat.le_trans HLL.out.2.1 (by decide)) HN.out.1 HN.out.2.1).mono ?_
       rintro e w8 ⟨v8, rfl, hS8, hB8⟩
       obtain ⟨a8, c8, rfl, _⟩ := id hS8
       refine ⟨_, rfl, ?_⟩
       have HB8 := Lib.hid (show SlB w8 _ (labS key ls ctx n) ∧ Below w.heap.size w w8 from ⟨by rw [labS, ← HLL.out.2.2]; exact hS8, HB0.out.trans ((HB1.out.trans (Below.trans (b := w7) HB3.out.2 (Below.mono (B := w7.heap.size) (by repeat (first | exact hB8 | refine Below.trans (Below.drew (Below.refl _ _)) ?_)) (Nat.le_trans hs1 HB3.out.2.size)))).mono HB0.out.size)⟩)
       clear hS8 hB8)
    | fail)
  all_goals
    go_wp2_with fail
    go_ret2
    exact ⟨.slice a8 (expS key L3 n).length c8, by rfl, HB8.out.1, HB8.out.2⟩
end Go.Proofs.YtcfbiafedfkbhaaDoor

namespace Go.Proofs.YtcfbiafedfkbhaaDoor
open Go.RowKit

theorem add_any (a b : List UInt8) (ha : a.length = 16) (hb : b.length = 16) (w : World) :
    Calls Tryd.prog 61 #[.agg (AB a), .agg (AB b)] w fun e w' => e = .returned (.agg (AB (addF a b 16))) ∧ Below w.heap.size w w' := by
  go_enter Tryd.func61, Tryd.ntmps61
  go_wp2
  go_loopw [8] (fun i wr => ∃ k : Nat, k ≤ 16 ∧ i = .int .i64 k ∧ Row wr w.heap.size 84 (AB (addF a b k)) ∧ RowN wr (w.heap.size + 1 + 1) 84 16 ∧ Below w.heap.size w wr) (fun i _ => 16 - (intOf i).toNat)
  case atStart =>
    refine ⟨0, by omega, rfl, ?_, RowN.newAt _ _ _ _ (by simp), ((((Below.refl _ w).alloc (Nat.le_refl _) _).alloc (by simp) _).alloc (by simp <;> omega) _)⟩
    rw [addF_zero a b ha]
    exact ((Row.new w _ _).alloc _).alloc _
  case round =>
    obtain ⟨k, hk, rfl, hA, ⟨z, hz, hzs⟩, hB⟩ := hrel
    have hlt := hA.lt
    have hlen := addF_len a b k
    have hlen' := (AB_size (addF a b k)).trans hlen
    by_cases h : k < 16
    · go_wp2
      go_roundw
      case rel =>
        refine ⟨k + 1, by omega, by go_num, ?_, ⟨z, hz.setOther _ _ (by simp <;> omega), hzs⟩, hB.setCell (Nat.le_refl _) _⟩
        rw [← addF_step a b k h]
        exact hA.setByte k _
      case measure => simp [intOf]; omega
    · obtain rfl : k = 16 := by omega
      go_wp2
      exact ret_row (.inl rfl) rfl (w.heap.size + 1 + 1) _ _ 16 _ rfl (hz.setRow _) Tryd.underlying84 rfl (by kernel_rfl) hlen' ⟨rfl, bSetRow hB (by omega) _⟩

theorem ret_u8 {a b : Int} (h : a = b) : Ending.returned (.int .u8 a) = .returned (.int .u8 b) := by rw [h]
theorem double_any (x : UInt8) (w : World) : Calls Tryd.prog 60 #[B x] w fun e w' => e = .returned (B (dbl x)) ∧ w = w' := by
  cases h : (bits BinOp.and IntKind.u8 (x.toNat : Int) 128 != 0)
  · have hf := dbl_no x h
    have H := Lib.hid hf; clear hf
    go_enter Tryd.func60, Tryd.ntmps60
    go_wp2
    go_ret
    exact ⟨ret_u8 H.out, rfl⟩
  · have hf := dbl_yes x h
    have H := Lib.hid hf; clear hf
    go_enter Tryd.func60, Tryd.ntmps60
    go_wp2
    go_ret
    exact ⟨ret_u8 H.out, rfl⟩

theorem times_any (x n : UInt8) (w : World) : Calls Tryd.prog 82 #[B x, B n] w fun e w' => e = .returned (B (tm x n)) ∧ w = w' := by
  go_enter Tryd.func82, Tryd.ntmps82
  go_wp2
  go_loop [0, 1, 5] (fun A N p => ∃ (f : Nat) (a' n' p' : UInt8), A = B a' ∧ N = B n' ∧ p = B p' ∧ n'.toNat < 2 ^ f ∧ tmN f a' n' p' = tm x n) (fun _ N _ => (intOf N).toNat)
  case atStart => exact ⟨8, x, n, 0, rfl, rfl, rfl, n.toNat_lt, rfl⟩
  case round =>
    obtain ⟨f, a', n', p', rfl, rfl, rfl, hn, ht⟩ := hrel
    have HT := Lib.hid ht; clear ht
    by_cases h0 : n' = 0
    · subst h0
      go_wp2
      go_ret
      exact ⟨by rw [← HT.out, tmN_zero]; rfl, rfl⟩
    · have hpos : (0 : Int) < (n'.toNat : Int) := by
        have : n'.toNat ≠ 0 := fun e => h0 (by rw [← UInt8.ofNat_toNat (x := n'), e]; rfl)
        omega
      obtain ⟨f, rfl⟩ : ∃ g, f = g + 1 := by
        cases f with
        | zero => simp at hn; omega
        | succ g => exact ⟨g, rfl⟩
      have hs : (n' >>> 1).toNat = n'.toNat / 2 := by have := half_shr n'; omega
      have hlt := n'.toNat_lt
      have HS := Lib.hid (half_shr n')
      by_cases h1 : n' &&& 1 = 1
      · have HT2 := Lib.hid ((tmN_one (f := f) (a := a') (p := p') h0 h1).symm.trans HT.out)
        have hb : (bits .and .u8 (n'.toNat : Int) 1 == 1) = true := by rw [half_and]; simpa using h1
        have HN := Lib.hid hn; clear hn
        have HS2 := Lib.hid hs; clear hs h1
        go_wp2_with (go_at_call 60; refine (double_any _ _).mono ?_; rintro e w' ⟨rfl, rfl⟩)
        go_round
        case rel => exact ⟨f, dbl a', n' >>> 1, xr p' a', rfl, by rw [HS.out], rfl, by rw [HS2.out]; have := HN.out; rw [Nat.pow_succ] at this; omega, HT2.out⟩
        case measure => simp [intOf]; omega
      · have HT2 := Lib.hid ((tmN_two (f := f) (a := a') (p := p') h0 h1).symm.trans HT.out)
        have hb : (bits .and .u8 (n'.toNat : Int) 1 == 1) = false := by rw [half_and]; simpa using h1
        have HN := Lib.hid hn; clear hn
        have HS2 := Lib.hid hs; clear hs h1
        go_wp2_with (go_at_call 60; refine (double_any _ _).mono ?_; rintro e w' ⟨rfl, rfl⟩)
        go_round
        case rel => exact ⟨f, dbl a', n' >>> 1, p', rfl, by rw [HS.out], rfl, by rw [HS2.out]; have := HN.out; rw [Nat.pow_succ] at this; omega, HT2.out⟩
        case measure => simp [intOf]; omega
end Go.Proofs.YtcfbiafedfkbhaaDoor

/- The walk of block's mix. -/
namespace Go.Proofs.YtcfbiafedfkbhaaDoor
open Go.RowKit

def idxOk (k j : Nat) : Bool := (bits .andNot .i64 (k : Int) 3 == ((k / 4 * 4 : Nat) : Int)) && (bits .and .i64 ((k : Int) + (j : Int)) 3 == (((k + j) % 4 : Nat) : Int)) && (bits .or .i64 ((k / 4 * 4 : Nat) : Int) (((k + j) % 4 : Nat) : Int) == ((k / 4 * 4 + (k + j) % 4 : Nat) : Int))
theorem idxOk_all : ((List.range 16).all fun k => (List.range 4).all fun j => idxOk k j) = true := by decide +kernel
theorem idx_ok {k j : Nat} (hk : k < 16) (hj : j < 4) : bits .andNot .i64 (k : Int) 3 = ((k / 4 * 4 : Nat) : Int) ∧ bits .and .i64 ((k : Int) + (j : Int)) 3 = (((k + j) % 4 : Nat) : Int) ∧
    bits .or .i64 ((k / 4 * 4 : Nat) : Int) (((k + j) % 4 : Nat) : Int) = ((k / 4 * 4 + (k + j) % 4 : Nat) : Int) := by
  have := List.all_eq_true.1 (List.all_eq_true.1 idxOk_all k (List.mem_range.2 hk)) j (List.mem_range.2 hj)
  simp only [idxOk, Bool.and_eq_true, beq_iff_eq] at this
  exact ⟨this.1.1, this.1.2, this.2⟩
theorem mix_any (b r : List UInt8) (hb : b.length = 16) (hr : r.length = 4) (w : World) :
    Calls Tryd.prog 62 #[.agg (AB b), .agg (AB r)] w fun e w' => e = .returned (.agg (AB (mixL b r 16 0))) ∧ Below w.heap.size w w' := by
  go_enter Tryd.func62, Tryd.ntmps62
  go_wp2
  go_loopw [10] (fun i wr => ∃ k : Nat, k ≤ 16 ∧ i = .int .i64 k ∧ Row wr w.heap.size 84 (AB b) ∧ Row wr (w.heap.size + 1) 110 (AB r) ∧ RowN wr (w.heap.size + 1 + 1) 84 16 ∧ Row wr (w.heap.size + 1 + 1 + 1) 84 (AB (mixL b r k 0)) ∧ Below w.heap.size w wr) (fun i _ => 16 - (intOf i).toNat)
  case atStart =>
    refine ⟨0, by omega, rfl, ?_, ?_, ?_, ?_, ?_⟩
    · exact (((Row.new w _ _).alloc _).alloc _).alloc _
    · exact ((Row.newAt _ _ _ _ (by simp)).alloc _).alloc _
    · exact (RowN.newAt _ _ _ _ (by simp)).alloc _
    · rw [mixL_zero]; exact Row.newAt _ _ _ _ (by simp)
    · exact (((((Below.refl _ w).alloc (Nat.le_refl _) _).alloc (by simp) _).alloc (by simp <;> omega) _).alloc (by simp <;> omega) _)
  case round =>
    obtain ⟨k, hk, rfl, hA, hR, ⟨z, hz, hzs⟩, hM, hB⟩ := hrel
    have hlt := hM.lt
    have hlen' := (AB_size (mixL b r k 0)).trans (mixL_len b r k 0)
    by_cases h : k < 16
    · have b1 : (k : Int) < 16 := by omega
      obtain ⟨wo, rfl⟩ : ∃ wo : World, wo = wr := ⟨_, rfl⟩
      have I0 := (idx_ok h (j := 0) (by omega)).1
      obtain ⟨col, hcol⟩ : ∃ col, col = k / 4 * 4 := ⟨_, rfl⟩
      have HC := Lib.hid hcol
      rw [← hcol] at I0
      clear hcol
      go_wp2
      go_loopw [16] (fun i wr => ∃ j : Nat, j ≤ 4 ∧ i = .int .i64 j ∧ Row wr w.heap.size 84 (AB b) ∧ Row wr (w.heap.size + 1) 110 (AB r) ∧ RowN wr (w.heap.size + 1 + 1) 84 16 ∧ Row wr (w.heap.size + 1 + 1 + 1) 84 (AB (mixL b r k j)) ∧ Below w.heap.size w wr) (fun i _ => 4 - (intOf i).toNat)
      case atStart => exact ⟨0, by omega, rfl, hA, hR, ⟨z, hz, hzs⟩, hM, hB⟩
      case round =>
        clear hA hR hz hM hB hlen'
        obtain ⟨j, hj, rfl, hA, hR, ⟨z, hz, hzs⟩, hM, hB⟩ := hrel
        have hlt := hM.lt
        have hlen := mixL_len b r k j
        by_cases h2 : j < 4
        · obtain ⟨_, I1, I2⟩ := idx_ok h h2
          obtain ⟨q, hq⟩ : ∃ q, q = (k + j) % 4 := ⟨_, rfl⟩
          rw [← HC.out, ← hq] at I2
          rw [← hq] at I1
          have hc1 : col + q < 16 := by have := HC.out; omega
          obtain ⟨m, hm⟩ : ∃ m, m = col + q := ⟨_, rfl⟩
          rw [← hm] at I2 hc1
          have HM := Lib.hid (show m = k / 4 * 4 + (k + j) % 4 by rw [hm, hq, HC.out])
          clear hm hq
          have w1 : IntKind.i64.wrap ((k : Int) + (j : Int)) = (k : Int) + (j : Int) := IntWalk.i64_in _ (by omega)
          have b2 : (m : Int) < 16 := by omega
          go_wp2
          refine wp_region_qtail (fun w' => w' = _) 15 (by kernel_rfl) (by kernel_rfl) rfl ?_
          simp only [List.take_succ_cons, List.take_zero, List.drop_succ_cons, List.drop_zero]
          repeat (refine wpQuiet_step (fun K hK => ?_); go_simp; first | (refine hK _ ?_; clear hK K) | (apply Exists.intro; refine ⟨?_, hK _ ?_⟩; ((go_at_call 82; refine (times_any _ _ _).mono ?_; rintro e w' ⟨rfl, rfl⟩; exact ⟨rfl, rfl⟩)); clear hK K))
          refine wpQuiet_nil ?_
          rintro _ rfl
          go_wp2
          go_roundw
          case rel => exact ⟨j + 1, by omega, by go_num, hA.setOther _ _ (by simp <;> omega), hR.setOther _ _ (by simp <;> omega), ⟨z, hz.setOther _ _ (by simp <;> omega), hzs⟩, by rw [← mixL_step b r k j h, ← HM.out]; exact hM.setByte k _, hB.drew.setCell (by simp <;> omega) _⟩
          case measure => simp [intOf]; omega
        · obtain rfl : j = 4 := by omega
          go_wp2
          go_roundw
          case rel => exact ⟨k + 1, by omega, by go_num, hA, hR, ⟨z, hz, hzs⟩, by rw [← mixL_next]; exact hM, hB⟩
          case measure => simp [intOf]; omega
    · obtain rfl : k = 16 := by omega
      go_wp2
      exact ret_row (.inl rfl) rfl (w.heap.size + 1 + 1) _ _ 16 _ rfl ((hz.setRow _)) Tryd.underlying84 rfl (by kernel_rfl) hlen' ⟨rfl, bSetRow hB (by omega) _⟩
end Go.Proofs.YtcfbiafedfkbhaaDoor
