/- Part of the proof: HelloBack. No conditions of its own. -/
import Derived.Below
import Derived.BigQuiet
import Derived.ChangeOld
import Derived.Deep.AppendLies
import Derived.Deep.CutBlock
import Derived.Deep.DeepCutAuto
import Derived.Deep.Draws
import Derived.Deep.LoopGhost
import Derived.Deep.Quiet
import Derived.Deep.QuietTactic
import Derived.Deep.RegionLaw
import Derived.Great.BuildSlice
import Derived.Great.FillDense
import Derived.Laws.AppendOwn
import Derived.Laws.AppendOwnNone
import Derived.Laws.BytesArg
import Derived.Laws.Concat
import Derived.Laws.MakeOwn
import Derived.Lib.AppendZerosOnto
import Derived.Lib.BufferWrite
import Derived.Lib.ConvBytes
import Derived.Lib.Hide
import Derived.Lib.SlBytesConst
import Derived.OpenShut
import Derived.ProofKit
import Derived.ShutString
import Derived.StillTail
import Derived.Stop.BytesEq
import Derived.Test.YtnenoecmmelehaaProg
import Derived.WalkKit
import Derived.WalkLawsBesides
import Derived.WalkSpells
import Derived.Test.YtnenoecmmelehaaM34
import Derived.Test.YtnenoecmmelehaaM36
import Derived.Test.YtnenoecmmelehaaM37
namespace Go.Proofs.Ytnenoecmmelehaa
open Go.RowKit
set_option linter.unusedVariables false
set_option linter.unusedSimpArgs false

theorem RMsgAt.sizeX {w : World} {C : Array Value} {m : MsgP} (h : RMsgAt w C m) : C.size = 75 ∧ allOne C = true ∧ over zMsg 0 C = C := by
  obtain ⟨a, c, rfl, _⟩ := h
  exact ⟨mD_sz, by rw [mD_one]; rfl, over_all _ _ (zMsg_size.trans mD_sz.symm)⟩
theorem MsgN.setR {w : World} {base g : Nat} {C cs D : Array Value} {m : MsgP} (h : MsgN w base C m) (hr : Row w g 30 cs) : MsgN (w.setRow g D) base C m := by
  obtain ⟨v1, v2, v3, v4, v5, vc, vs, e, h1, h2, h3, h4, h5, h6⟩ := h
  have hg := grownBy_setR w g D
  exact ⟨v1, v2, v3, v4, v5, vc, vs, e, h1, h2, fun p hp => ⟨(h3 p hp).1.keptT hg hr (by decide), (h3 p hp).2⟩, World.ownsRow.kept h4 hg (.inr (ownsRow_ne h4 hr (by decide))), h5.keptT hg hr (by decide), h6⟩
theorem run_row9 {w : World} {g : Nat} {t : TypeId} {cs C : Array Value} (hr : Row w g t cs) (hc : cs.size = C.size) (h1 : allOne C = true) : (storeCells ⟨g, 0, none⟩ C.toList).run Try.prog w = .ok () (w.setRow g C) := by
  have hl := run_storeCells_at (P := Try.prog) g 0 t C.toList 0 cs w hr.heap (by simp [hc]) (List.all_eq_true.1 h1)
  conv => rhs; rw [← over_all cs C hc]
  simp only [over]
  simpa using hl
theorem bAl {w w' : World} {o : Obj} (h : Below w.heap.size w w') : Below w.heap.size w (w'.alloc o) := h.alloc h.size o
def R9 (n : Nat) (w : World) (g : Nat) : Prop := Row w g 30 zH ∧ n ≤ g
theorem R9.new (w : World) {n : Nat} (h : n ≤ w.heap.size) : R9 n (w.alloc (.cells zH 30)) w.heap.size := ⟨Row.new _ _ _, h⟩
theorem R9.below {w w' : World} {n g : Nat} (h : R9 n w g) (hb : Below w.heap.size w w') : R9 n w' g := ⟨Row.below h.1 hb h.1.lt, h.2⟩
theorem R9.alloc {w : World} {n g : Nat} (h : R9 n w g) (o : Obj) : R9 n (w.alloc o) g := h.below ((Below.refl _ _).alloc (Nat.le_refl _) o)
theorem R9.drew {w : World} {n g : Nat} (h : R9 n w g) : R9 n w.drew g := h.below (Below.refl _ _).drew
theorem run_appO (w : World) (base : Nat) (v : Value) (l : List UInt8) (hb : Buf 5 w base v l) (vx : Value) (m : List UInt8) (hS : SlB w vx m) (hlen : l.length + m.length ≤ 1000000) (hbase : base ≤ w.heap.size) (ty : TypeId) :
    ∃ v' w', (Builtin.append_ #[27, 27] ty #[v, vx]).run Try.prog w = .ok v' w' ∧ Buf 5 w' base v' (l ++ m) ∧ w.grownBy w' v.ownBlock := by
  obtain ⟨i, hi, hz, hs1, hb1⟩ := info_any info_u8
  obtain ⟨ad, cap, rfl, h1, h2, h3, h4⟩ := hS
  cases ad with
  | none =>
    have hm : m = [] := List.eq_nil_of_length_eq_zero (by have := h3 rfl; omega)
    subst hm
    obtain rfl : cap = 0 := h3 rfl
    exact ⟨v, w, run_append_owned_none (P := Try.prog) (w := w) base 27 ty 5 i 1 Try.underlying27 hi v l.length (l.map B) hb, by simpa using hb, World.grownBy.refl w _⟩
  | some ad =>
    obtain ⟨hsp, hc⟩ := h4 _ rfl
    obtain ⟨b, o', sp⟩ := ad
    simp only at hsp
    subst hsp
    obtain ⟨v', w', hr, k1, k2, _⟩ := run_append_own (P := Try.prog) w base 27 ty 5 i _ 1 1 Try.underlying27 hi hz hs1 hb1 rfl (by decide) v l.length (l.map B) hb ⟨b, o', none⟩ m.length cap (m.map B) (by simp) (fun j u hj => by
        have hj' : j < m.length := by simpa using (List.getElem?_eq_some_iff.1 hj).1
        rw [Addr.add_lit, hc j hj']
        simpa [gb, hj'] using hj) (fun u hu => by obtain ⟨y, _, rfl⟩ := List.mem_map.1 hu; rfl) (by unfold maxLen; omega) (by omega) hbase
    exact ⟨v', w', hr, by simpa [Buf] using k1, k2⟩
theorem wp_appO {o : Oper} {a : Act} {w : World} {K : Act → World → Prop} {Q : Exit → Act → World → Prop} (s x : Operand)
    (ho : o.op = .call { callee := .builtin .append, args := #[s, x], argTypes := #[27, 27] })
    (base : Nat) (v : Value) (l : List UInt8) (hs : a.eval s = v) (hb : Buf 5 w base v l) (vx : Value) (m : List UInt8) (hx : a.eval x = vx) (hS : SlB w vx m)
    (hlen : l.length + m.length ≤ 1000000) (hbase : base ≤ w.heap.size)
    (h : ∀ v' w', Buf 5 w' base v' (l ++ m) → Below base w w' → (∀ g, R9 base w g → R9 base w' g) → K (a.put o.dst v') w') : o.wp Try.prog a w K Q := by
  obtain ⟨v', w', hr, h1, h2⟩ := run_appO w base v l hb vx m hS hlen hbase o.type
  have hown : ∀ k, v.ownBlock = some k → base ≤ k := fun k e => (World.ownsRow.lt hb k e).1
  have hbel : Below base w w' := (Below.refl base w).grown h2 hbase hown
  unfold Oper.wp execOp
  simp only [ho, resolve, invoke, builtin, Sem.run_bind, Sem.run_pure, Result.andThen_ok, List.map_toArray, List.map_cons, List.map_nil, hs, hx, hr]
  refine h v' w' h1 hbel fun g hg => ⟨?_, hg.2⟩
  refine (row_congr (h2.block _ hg.1.lt fun e => ?_)).trans hg.1
  rcases hb.2 with ⟨rfl, _⟩ | ⟨g', cap, cur, rfl, _, hh, _⟩
  · cases e
  · obtain rfl := Option.some.inj e
    have h1 := hg.1.heap
    rw [hh] at h1
    simp only [Option.some.injEq, Obj.cells.injEq] at h1
    exact absurd h1.2.1 (by decide)
def BackSt (b : World) (n : MsgP) (len : Nat) (t9 t10 t11 : Value) (wr : World) : Prop := ∃ g C, t9 = .pointer (some ⟨g, 0, none⟩) ∧ t10 = .int .i64 (len : Int) ∧ t11 = .int .i64 0 ∧ Row wr g 30 C ∧ MsgN wr b.heap.size C n ∧ Below b.heap.size b wr
theorem BackSt.old {b w8 : World} {n : MsgP} {len g : Nat} {C : Array Value} (h : R9 b.heap.size w8 g) (hN : MsgN w8 b.heap.size C n) (hB : Below b.heap.size b w8) : BackSt b n len (.pointer (some ⟨g, 0, none⟩)) (.int .i64 (len : Int)) (.int .i64 0) (w8.setRow g C) :=
  ⟨g, C, rfl, rfl, rfl, h.1.setRow C, hN.setR h.1, bSetRow hB h.2 _⟩
theorem BackSt.new {b w8 : World} {n : MsgP} {len : Nat} {C : Array Value} (hN : MsgN w8 b.heap.size C n) (hB : Below b.heap.size b w8) : BackSt b n len (.pointer (some ⟨w8.heap.size, 0, none⟩)) (.int .i64 (len : Int)) (.int .i64 0) ((w8.alloc (.cells zH 30)).setRow w8.heap.size C) :=
  BackSt.old (R9.new _ hB.size) (hN.below ((Below.refl _ _).alloc (Nat.le_refl _) _)) (bAl hB)
set_option maxRecDepth 100000 in
set_option maxHeartbeats 4000000 in
theorem hback (C : Array Value) (m : MsgP) (vo : Value) (lo : List UInt8) (c : Int) (w : World) (h : RMsgAt w C m) (ho : SlB w vo lo) : Calls Try.prog 5 #[.agg C, vo, .int .i64 c] w fun e w' => e = .returned (.bool true) ∧ Below w.heap.size w w' := by
  obtain ⟨hz, h1c, _⟩ := h.sizeX
  obtain ⟨ao, capo, rfl, ko1, ko2, _⟩ := id ho
  obtain ⟨k, hk⟩ : ∃ k, k = min lo.length 50 := ⟨_, rfl⟩
  have m1 := fun ts t w => run_min_nat lo.length 50 k hk _ 50 rfl rfl ts t w
  have hk1 : k ≤ lo.length := by omega
  have x1 : (0 : Int) ≤ (k : Int) := by omega
  have x2 : (k : Int) ≤ (capo : Int) := by omega
  have HO := Lib.hid (ho.take k hk1)
  obtain ⟨L, hL⟩ : ∃ L, L = lo.take k := ⟨_, rfl⟩
  have hLk : L.length = k := by rw [hL, List.length_take]; omega
  have hk3 : k ≤ 50 := by omega
  rw [← hL] at HO
  have H := Lib.hid h
  have HLK := Lib.hid hLk
  obtain ⟨u, hu⟩ : ∃ u : Nat, IntKind.u64.wrap c = (u : Int) := ⟨(IntKind.u64.wrap c).toNat, by rw [IntKind.wrap_u64]; omega⟩
  have HU := Lib.hid hu
  clear h ho hk hL hk1 hLk hu
  go_enter Try.func5, Try.ntmps5
  go_wp2_with fail
  refine gen_wpC (fun w0 => Row w0 w.heap.size 25 C ∧ Below w.heap.size w w0) ⟨Row.new _ _ _, (Below.refl _ _).alloc (Nat.le_refl _) _⟩ ?_
  rintro w0 ⟨hr, hB⟩
  refine (tame_atT (H.out.below hB)).mono ?_
  rintro e w1 ⟨C2, rfl, h2, hB1⟩
  obtain ⟨hz2, h1c2, _⟩ := h2.1.sizeX
  have ho2 := over_C hz hz2
  have hr := Row.below hr hB1 hr.lt
  have hB := hB.trans (hB1.mono hB.size)
  have H2 := Lib.hid h2
  have hlt := hr.lt
  clear h2 hB1 H
  go_wp2_with fail
  refine gen_wpC (fun w2 => Row w2 w.heap.size 25 C2 ∧ RMsgT w2 C2 (tameP m) ∧ Below w.heap.size w w2) ⟨hr.setRow C2, H2.out.keptR hr C2, bSetRow hB (Nat.le_refl _) _⟩ ?_
  clear hr hB hlt H2
  rintro w2 ⟨hr, h2, hB⟩
  refine (to_at h2.1 (tameP_small m)).mono ?_
  rintro e w3 ⟨D, rfl, hD, hB3⟩
  have hr := Row.below hr hB3 hr.lt
  have hB := hB.trans (hB3.mono hB.size)
  have HD := Lib.hid hD
  have h2 := h2.below hB3
  have f0 : (tameP m).random.length = 32 ∧ (tameP m).mark.length = 32 := by obtain ⟨a', c', e, _, e1, e2⟩ := h2.1; exact ⟨e1, e2⟩
  have H2 := Lib.hid h2
  clear hB3 hD h2
  go_wp2_with fail
  refine (write_at HD.out (tameP_small m)).mono ?_
  rintro e w4 ⟨v, rfl, hb, hB4⟩
  have hr := Row.below hr hB4 hr.lt
  have hB := hB.trans (hB4.mono hB.size)
  have H2 := Lib.hid (H2.out.below hB4)
  have hsm := tameP_small m
  obtain ⟨n, hn⟩ : ∃ n : MsgP, n = tameP m := ⟨_, rfl⟩
  rw [← hn] at f0 hb H2 hsm ⊢
  have hout : outW n = if rightP n then writeP n else [] := rfl
  have herr : errW n = if rightP n then 0 else 2 := rfl
  have HS := Lib.hid hb.slb
  obtain ⟨va, vc, rfl, _⟩ := hb.slb
  have HSM := Lib.hid hsm
  clear hb hB4 HD hn hsm
  cases hrt : rightP n with
  | false =>
    rw [hrt] at hout herr
    have herr : errW n = 2 := herr
    rw [herr]
    clear hout herr hrt m1 x1 x2 HU HLK HO
    go_wp2_with fail
    refine (hellos_any w4).mono ?_
    rintro e w5 ⟨rfl, hB5⟩
    have hB := hB.trans (hB5.mono hB.size)
    clear hB5 H2 HS HSM
    go_wp2_with fail
    refine (hellos_any w5).mono ?_
    rintro e w6 ⟨rfl, hB6⟩
    have HB := Lib.hid (hB.trans (hB6.mono hB.size))
    clear hB6 hB
    go_wp2_with fail
    go_ret
    exact ⟨rfl, HB.out⟩
  | true =>
    rw [hrt, if_pos rfl] at hout herr
    have hlen := body_small (m := n) hrt f0.1 f0.2
    have hwl := write_len n
    obtain ⟨O, hO⟩ : ∃ O, O = writeP n := ⟨_, rfl⟩
    have hRW := fun x => read_write (m := n) hrt f0.1 f0.2 x
    have hRS := fun c hc => read_short (m := n) hrt f0.1 f0.2 c hc
    rw [hout] at HS ⊢
    rw [herr]
    rw [← hO] at hRW hRS hwl HS ⊢
    have ol1 : (O.length : Int) ≤ 32772 := by omega
    have ol0 : 4 ≤ O.length := by omega
    obtain ⟨q, hq⟩ : ∃ q, q = u % O.length := ⟨_, rfl⟩
    have hqO : q < O.length := by rw [hq]; exact Nat.mod_lt _ (by omega)
    have HRW := Lib.hid hRW
    have HRS := Lib.hid (hRS q hqO)
    have HQ := Lib.hid hq
    clear hout herr hrt hRW hRS hwl hlen hO hq f0
    go_wp2_with fail
    refine (hellos_any w4).mono ?_
    rintro e w5 ⟨rfl, hB5⟩
    have hr := Row.below hr hB5 hr.lt
    have H2 := Lib.hid (H2.out.below hB5)
    have hBw := hB.trans (hB5.mono hB.size)
    have HSO := Lib.hid (fun (W : World) (hb : Below w5.heap.size w5 W) => (HS.out.below hB5).below hb)
    have HSK := Lib.hid (fun (W : World) (hb : Below w5.heap.size w5 W) => (HO.out.below hBw).below hb)
    have HRD := Lib.hid (fun (vb : Value) (W : World) (h : SlB W vb (O ++ L)) => read_any vb (O ++ L) W h (by have := HLK.out; rw [List.length_append]; omega))
    rw [HRW.out L] at HRD
    have HRQ := Lib.hid (fun (W : World) (hb : Below w5.heap.size w5 W) => read_any (.slice va q vc) (O.take q) W ((HSO.out W hb).take q (by omega)) (by rw [List.length_take]; omega))
    rw [HRS.out] at HRQ
    have HBW := Lib.hid hBw
    have hvc : (O.length : Int) ≤ (vc : Int) := by obtain ⟨_, _, e, h1, _⟩ := HS.out; obtain ⟨_, _, rfl⟩ := Value.slice.inj e; omega
    have hd5 : w.heap.size ≤ w5.heap.size := hBw.size
    clear hB hB5 hBw HS HO HRW HRS
    go_upto_region 6 with (fail)
    go_cut [9, 10, 11] (fun t9 t10 t11 wr => BackSt w5 n O.length t9 t10 t11 wr)
    case first =>
      clear hr H2 hvc HU HQ HRQ
      go_region_law (first
        | (refine wp_appO (.tmp 31) (.tmp 32) (by rfl) w5.heap.size _ [] (by rfl) (by repeat (first | exact Buf.empty _ _ _ (by first | (simp; done) | (simp; omega)) (by first | (simp; done) | (simp; omega)) | refine Buf.grow ?_ ((Below.refl _ _).alloc (Nat.le_refl _) _) | refine Buf.grow ?_ (Below.drew (Below.refl _ _)))) _ O (by rfl) (HSO.out _ (by repeat (first | (with_reducible exact Below.refl _ _) | refine bAl ?_ | refine Below.drew ?_))) (by simp; omega) (by first | (simp; done) | (simp; omega)) ?_; intro v1 w6 hb1 hB1 hk1; have HB1 := Lib.hid (show Buf 5 w6 w5.heap.size v1 O ∧ Below w5.heap.size w5 w6 from ⟨hb1, Below.trans (by repeat (first | (with_reducible exact Below.refl _ _) | refine bAl ?_ | refine Below.drew ?_)) hB1⟩); have HK1 := Lib.hid hk1; clear hb1 hB1 hk1)
        | (refine wp_appO (.tmp 33) (.tmp 38) (by rfl) w5.heap.size _ O (by rfl) (by repeat (first | exact HB1.out.1 | refine Buf.grow ?_ ((Below.refl _ _).alloc (Nat.le_refl _) _) | refine Buf.grow ?_ (Below.drew (Below.refl _ _)))) _ L (by rfl) (HSK.out _ (by repeat (first | exact HB1.out.2 | refine bAl ?_ | refine Below.drew ?_))) (by have := HLK.out; omega) (Below.size (w := w5) (by repeat (first | exact HB1.out.2 | refine bAl ?_ | refine Below.drew ?_))) ?_; intro v2 w7 hb2 hB2 hk2; have HB2 := Lib.hid (show Buf 5 w7 w5.heap.size v2 (O ++ L) ∧ Below w5.heap.size w5 w7 from ⟨hb2, Below.trans (by repeat (first | exact HB1.out.2 | refine bAl ?_ | refine Below.drew ?_)) hB2⟩); have HK2 := Lib.hid hk2; clear hb2 hB2 hk2)
        | (refine wp_callO 16 #[v2] (by simp [go_sem]; done) ?_; refine (HRD.out v2 _ (Buf.slb (base := w5.heap.size) (e := 5) (by repeat (first | exact HB2.out.1 | refine Buf.grow ?_ ((Below.refl _ _).alloc (Nat.le_refl _) _) | refine Buf.grow ?_ (Below.drew (Below.refl _ _)))))).mono ?_; rintro e w8 ⟨C8, rfl, hN, hB8⟩; have HB8 := Lib.hid (show MsgN w8 w5.heap.size C8 n ∧ Below w5.heap.size w5 w8 from ⟨hN.low (Below.size (w := w5) (by repeat (first | exact HB2.out.2 | refine bAl ?_ | refine Below.drew ?_))), Below.trans (by repeat (first | exact HB2.out.2 | refine bAl ?_ | refine Below.drew ?_)) (hB8.mono (Below.size (w := w5) (by repeat (first | exact HB2.out.2 | refine bAl ?_ | refine Below.drew ?_))))⟩); (first | (have hr9 := (HK2.out _ (R9.new _ HB1.out.2.size)).below hB8) | (have hr9 := (HK2.out _ (R9.new _ HB1.out.2.size).drew).below hB8) | (have hr9 := (HK2.out _ (HK1.out _ (R9.new _ (by first | (simp; done) | (simp; omega))))).below hB8) | (have hr9 := (HK2.out _ (HK1.out _ (R9.new _ (by first | (simp; done) | (simp; omega))).drew)).below hB8) | (have hr9 := (HK2.out _ (HK1.out _ ((R9.new _ (by first | (simp; done) | (simp; omega))).alloc _))).below hB8) | (have hr9 := (HK2.out _ (HK1.out _ ((R9.new _ (by first | (simp; done) | (simp; omega))).alloc _).drew)).below hB8) | (have hr9 := (HK2.out _ (HK1.out _ ((R9.new _ (by first | (simp; done) | (simp; omega))).drew.alloc _))).below hB8) | (have hr9 := (R9.new _ HB2.out.2.size).below hB8) | (have hr9 := (R9.new _ HB2.out.2.size).drew.below hB8) | skip); obtain ⟨hzC, h1C, hoC⟩ := hN.size; (first | (have hst := run_row9 hr9.1 (zH_size.trans hzC.symm) h1C) | (have hst := run_row9 (Row.new w8 30 zH) (zH_size.trans hzC.symm) h1C)); (try simp only [World.size_alloc, World.size_drew] at hst); (try (simp only [World.size_alloc, World.size_drew] at hr9)); (try (have hR9 := Lib.hid hr9; clear hr9)); clear hN hB8; refine ⟨_, rfl, ?_⟩)
        | fail)
      all_goals
        go_wp2_with fail
        go_meet
        case rel => first | exact BackSt.new HB8.out.1 HB8.out.2 | exact BackSt.old hR9.out HB8.out.1 HB8.out.2
    case rest =>
      obtain ⟨g9, C9, rfl, rfl, rfl, hr9, hN, hB⟩ := hcut
      obtain ⟨hz9, h19, ho9⟩ := hN.size
      have hr := Row.below hr hB hr.lt
      have H2 := Lib.hid (H2.out.below hB)
      have HN := Lib.hid hN
      have HBW := Lib.hid (HBW.out.trans (hB.mono hd5))
      have HRQ := Lib.hid (HRQ.out _ hB)
      have hu := HU.out
      have hq := HQ.out
      have y3 : IntKind.u64.wrap (O.length : Int) = (O.length : Int) := by rw [IntKind.wrap_u64]; omega
      have y4 : Int.tmod (u : Int) (O.length : Int) = (q : Int) := by rw [hq]; rfl
      have y8 : (u : Int) % (O.length : Int) = (q : Int) := by rw [hq]; exact (Int.natCast_emod u O.length).symm
      have y5 : IntKind.i64.wrap (q : Int) = (q : Int) := by rw [IntKind.wrap_i64]; omega
      have y6 : IntKind.u64.wrap (q : Int) = (q : Int) := by rw [IntKind.wrap_u64]; omega
      have y7 : ¬ (O.length : Int) = 0 := by omega
      have y9 : (q : Int) ≤ 32772 := by omega
      have y10 : (0 : Int) ≤ (q : Int) := by omega
      have y11 : (q : Int) ≤ (vc : Int) := by omega
      have y12 : ((q : Int)).toNat = q := by omega
      clear hN hB hq m1 x1 x2 HSO HSK HRD HLK
      go_wp2_with fail
      refine HRQ.out.mono ?_
      rintro e w10 ⟨D2, rfl, hN2, hB10⟩
      obtain ⟨hzE, h1E, hoE⟩ := hN2.size
      have hr := Row.below hr hB10 hr.lt
      have hr9 := Row.below hr9 hB10 hr9.lt
      have H2 := Lib.hid (H2.out.below hB10)
      have HN := Lib.hid (HN.out.below hB10)
      have HBW := Lib.hid (HBW.out.trans (hB10.mono HBW.out.size))
      clear hN2 hB10 y3 y4 y5 y6 y7 y8 y9 y10 y11 y12 hu HRQ
      dsimp only
      go_upto_region 7 with (fail)
      have hBn : Below w10.heap.size w10 ((w10.alloc (.cells zH 30)).setRow w10.heap.size D2) := bSetRow ((Below.refl _ _).alloc (Nat.le_refl _) _) (Nat.le_refl _) _
      refine gen_wp (fun w11 => Row w11 w.heap.size 25 C2 ∧ Row w11 g9 30 C9 ∧ RMsgT w11 C2 n ∧ MsgN w11 w5.heap.size C9 n ∧ Below w.heap.size w w11) ⟨Row.below hr hBn hr.lt, Row.below hr9 hBn hr9.lt, H2.out.below hBn, HN.out.below hBn, HBW.out.trans (hBn.mono HBW.out.size)⟩ ?_
      clear hBn HBW HN H2 hr hr9
      rintro w11 ⟨hr, hr9, h2, hN, hB⟩
      have hrd := hr.drew
      have hr9d := hr9.drew
      have H2 := Lib.hid h2
      have HN := Lib.hid hN
      have HB := Lib.hid hB
      clear h2 hN hB
      refine wp_region_free 12 [68] (fun d v w' => ∃ F, v = .agg F ∧ RMsgAt w' F n) (by kernel_rfl) (by kernel_rfl) (by kernel_rfl) (fun d v w w' ⟨F, h1, h2⟩ hb => ⟨F, h1, h2.soft hb.soft⟩) ?h
      simp only [List.take_succ_cons, List.take_zero, List.drop_succ_cons, List.drop_zero]
      apply Exists.intro
      apply Exists.intro
      refine ⟨?_, ?_, ?_⟩
      · intro ν
        iterate 9 (apply wpF_q rfl; focus (intro C hC hG; (first | go_big_quiet_skip | (go_big_quiet_want; go_big_quiet_op; first | go_big_quiet_on | (refine ⟨_, fun _ _ => rfl, ?_⟩; go_big_quiet_on)) | (go_big_quiet_want; apply qf_load1 _ _ rfl _ _ rfl; (exact hC); rotate_left 1; (focus (intro _; simp [go_sem]; done)); rotate_right 1; assumption; assumption; (simp only [Act.put, lS]; go_big_quiet_on)) | (go_big_quiet_want; apply qf_loadA _ _ rfl _ _ rfl (sz := 32); (exact hC); rotate_left 1; (focus (intro _; simp [go_sem]; done)); (focus (intro _; simp [go_sem]; done)); rotate_right 1; assumption; assumption; assumption; (simp only [Act.put, lS]; go_big_quiet_on))); exact wpQuiet_nil rfl))
        (apply wpF_q rfl; focus (intro C hC hG; go_big_quiet_want; apply qf_loadM _ rfl _ rfl; (exact hC); assumption; assumption; (simp only [Act.put, lS]; go_big_quiet_on); exact wpQuiet_nil rfl))
        (apply wpF_free; (focus rfl); (focus rfl); (exact (fun w' hB' _ => (from_at (HN.out.below ((Below.drew (Below.refl _ _)).trans hB')).at HSM.out.certs).mono fun e w'' ⟨F, h1, h2, h3⟩ => ⟨_, h1, fun d hd => by cases hd; exact ⟨F, rfl, h2⟩, h3⟩)); (focus (intro w; simp [go_sem]; done)); simp only [Act.put, vqF, pS])
        (apply wpF_q rfl; focus (intro C hC hG; go_big_quiet_want; apply qf_loadR _ rfl _ rfl; (exact hC); assumption; assumption; (simp only [Act.put, lS]; go_big_quiet_on); exact wpQuiet_nil rfl))
        exact wpF_nil ⟨rfl, rfl⟩
      · intro ν ν'; kernel_rfl
      intro ν w12 hB12 hDD
      have h68 : ∃ F, ν 68 = .agg F ∧ RMsgAt w12 F n := hDD 68 (by decide)
      obtain ⟨F, h68, hF⟩ := h68
      simp only [h68]
      have hBw : Below w11.heap.size w11 w12 := (Below.drew (Below.refl _ _)).trans hB12
      have HSA := Lib.hid (same_at hF (H2.out.below hBw).1)
      have HBF := Lib.hid (HB.out.trans (hBw.mono HB.out.size))
      clear hDD h68 hF hB12 hBw hrd hr9d hr hr9 HN H2 HB
      go_wp2_with fail
      refine HSA.out.mono ?_
      rintro e w13 ⟨rfl, hB13⟩
      have hBe := HBF.out.trans (hB13.mono HBF.out.size)
      clear hB13 HSA HBF
      go_wp2_with fail
      go_ret
      exact ⟨rfl, hBe⟩
end Go.Proofs.Ytnenoecmmelehaa
