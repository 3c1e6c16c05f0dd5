/- Part of the proof: HelloRows. No conditions of its own. -/
import Derived.Below
import Derived.BigQuiet
import Derived.ChangeOld
import Derived.Deep.AppendLies
import Derived.Deep.CutBlock
import Derived.Deep.DeepCutAuto
import Derived.Deep.Draws
import Derived.Deep.LoopGhost
import Derived.Deep.MidRow
import Derived.Deep.Quiet
import Derived.Deep.QuietTactic
import Derived.Deep.RegionLaw
import Derived.Great.BuildSlice
import Derived.Great.FillDense
import Derived.Laws.AppendOwn
import Derived.Laws.AppendOwnNone
import Derived.Laws.BytesArg
import Derived.Laws.Concat
import Derived.Laws.MakeOwn
import Derived.Lib.AppendZerosOnto
import Derived.Lib.BufferWrite
import Derived.Lib.ConvBytes
import Derived.Lib.Hide
import Derived.Lib.SlBytesConst
import Derived.OpenShut
import Derived.ProofKit
import Derived.ShutString
import Derived.StillTail
import Derived.Stop.BytesEq
import Derived.Test.YtnenoecmmelehaaProg
import Derived.WalkKit
import Derived.WalkLawsBesides
import Derived.WalkSpells
import Derived.Test.YtnenoecmmelehaaM34
import Derived.Test.YtnenoecmmelehaaM37
import Derived.Test.YtnenoecmmelehaaM41
namespace Go.Proofs.Ytnenoecmmelehaa
open Go.RowKit
set_option linter.unusedVariables false
set_option linter.unusedSimpArgs false

def OkP (m : MsgP) : Prop := rightP m = true ∧ m.random.length = 32 ∧ m.mark.length = 32 ∧ m.certs.length ≤ 10
structure RSt (w wr : World) (v3 v4 : Value) (ps : List (Array Value × MsgP)) : Prop where
  buf : Buf 5 wr w.heap.size v3 (allP ps)
  own : OwnM wr w.heap.size v4 ps
  ok : ∀ p, p ∈ ps → OkP p.2
  bel : Below w.heap.size w wr
theorem RSt.below {w wr w' : World} {v3 v4 : Value} {ps : List (Array Value × MsgP)} (h : RSt w wr v3 v4 ps) (hb : Below wr.heap.size wr w') : RSt w w' v3 v4 ps :=
  ⟨h.buf.grow hb, h.own.below hb, h.ok, h.bel.trans (hb.mono h.bel.size)⟩
theorem allP_len : ∀ (ps : List (Array Value × MsgP)), (∀ p, p ∈ ps → OkP p.2) → (allP ps).length ≤ ps.length * 32772
  | [], _ => Nat.zero_le _
  | p :: ps, h => by
    have ih := allP_len ps fun q hq => h q (by simp [hq])
    obtain ⟨h1, h2, h3, _⟩ := h p (by simp)
    have hb := body_small h1 h2 h3
    have hw := write_len p.2
    unfold allP at ih ⊢
    simp only [List.flatMap_cons, List.length_append, List.length_cons]
    omega
theorem rangeAt_below {w w' : World} {g o : Nat} {cs : List Value} (h : w.rangeAt g o cs) (hb : Below w.heap.size w w') : w'.rangeAt g o cs := fun j v hj => by
  have := h j v hj
  exact (hb.cell (World.block_lt_of_cell? w _ this)).trans this
theorem rangeAt_row {w : World} {g : Nat} {t : TypeId} {C : Array Value} (h : Row w g t C) : w.rangeAt g 0 C.toList := fun j v hj => by
  rw [Nat.zero_add, h.cell, ← Array.getElem?_toList]; exact hj
structure R5 (w W : World) (v5 u4 : Value) (ps : List (Array Value × MsgP)) (O : List UInt8) (C2 : Array Value) (n : MsgP) : Prop where
  buf : Buf 5 W w.heap.size v5 (allP ps ++ O)
  own : OwnM W w.heap.size u4 ps
  msg : RMsgT W C2 n
  bel : Below w.heap.size w W
theorem R5.below {w W W' : World} {v5 u4 : Value} {ps : List (Array Value × MsgP)} {O : List UInt8} {C2 : Array Value} {n : MsgP} (h : R5 w W v5 u4 ps O C2 n) (hb : Below W.heap.size W W') : R5 w W' v5 u4 ps O C2 n :=
  ⟨h.buf.grow hb, h.own.below hb, h.msg.below hb, h.bel.trans (hb.mono h.bel.size)⟩
theorem RSt.app1 {w W w5 : World} {u3 u4 v5 : Value} {ps : List (Array Value × MsgP)} {O : List UInt8} {C2 : Array Value} {n : MsgP} (h : RSt w W u3 u4 ps) (hm : RMsgT W C2 n) (hb : Buf 5 w5 w.heap.size v5 (allP ps ++ O)) (hg : W.grownBy w5 u3.ownBlock) :
    R5 w w5 v5 u4 ps O C2 n ∧ ∀ g C, Row W g 25 C → Row w5 g 25 C := by
  refine ⟨⟨hb, h.own.keptB h.buf hg, RMsgT.keptB h.buf hm hg, h.bel.grown hg h.bel.size (fun k e => (World.ownsRow.lt h.buf k e).1)⟩, fun g C hr => ?_⟩
  exact (row_congr (hg.block g hr.lt fun e => ownsRow_ne h.buf hr (by decide) e.symm)).trans hr
theorem R5.fin {w W w6 : World} {v5 u4 v6 : Value} {ps : List (Array Value × MsgP)} {C2 : Array Value} {n : MsgP} (h : R5 w W v5 u4 ps (writeP n) C2 n) (ho : OwnM w6 w.heap.size v6 (ps ++ [(C2, n)])) (hg : W.grownBy w6 u4.ownBlock)
    (hok : ∀ p, p ∈ ps → OkP p.2) (hn : OkP n) : RSt w w6 v5 v6 (ps ++ [(C2, n)]) := by
  refine ⟨?_, ho, fun p hp => ?_, h.bel.grown hg h.bel.size (fun k e => (World.ownsRow.lt h.own.own k e).1)⟩
  · have : allP (ps ++ [(C2, n)]) = allP ps ++ writeP n := by simp [allP]
    rw [this]
    exact Buf.keptM h.own h.buf hg
  · rcases List.mem_append.1 hp with hp | hp
    · exact hok p hp
    · obtain rfl := List.mem_singleton.1 hp
      exact hn
theorem bAlR {w w' : World} {o : Obj} (h : Below w.heap.size w w') : Below w.heap.size w (w'.alloc o) := h.alloc h.size o
theorem qf_loadMid {ops : Array Oper} {W : World} {φ : Tmp → Value → World → Prop} {ν : Tmp → Value} {done : List Tmp} {o : Oper} {a : Act} {C : World → Prop} {K : Act → Prop} (x : Operand) (ho : o.op = .load 25 x) (g off : Nat) (hx : a.eval x = .pointer (some ⟨g, off, none⟩)) (cs : List Value) (hC : ∀ w, C w → PreV W ops φ ν done o w) (hr : W.rangeAt g off cs)
    (hi : (Try.prog.info? 25).map (·.size) = some cs.length) (hk : K (a.put o.dst (.agg cs.toArray))) : o.quiet Try.prog a C K := by
  refine ⟨.agg cs.toArray, fun w' hw' => ?_, hk⟩
  have h := run_loadAt_mid (P := Try.prog) w' g off _ cs _ (rangeAt_below hr (hC w' hw').1) Try.underlying25 rfl hi
  unfold Oper.quietAt execOp
  simp only [ho, hx]
  simp [h, Oper.quietUpon]
theorem allP_cons (p : Array Value × MsgP) (ps : List (Array Value × MsgP)) : allP (p :: ps) = writeP p.2 ++ allP ps := by simp [allP]
theorem drop_step {w : World} {g o cp : Nat} {Bb O R : List UInt8} (h : SlB w (.slice (some ⟨g, o, none⟩) Bb.length cp) Bb) (hb : Bb = O ++ R) : SlB w (.slice (some ⟨g, o + O.length, none⟩) R.length (cp - O.length)) R := by
  have hl : Bb.length = O.length + R.length := by rw [hb, List.length_append]
  have := h.dropAt (n := O.length) (by omega)
  rw [show Bb.drop O.length = R by rw [hb, List.drop_left]] at this
  rw [show Bb.length - O.length = R.length by omega] at this
  have e : (some (⟨g, o, none⟩ : Addr)).map (fun ad => ad.add O.length) = some ⟨g, o + O.length, none⟩ := congrArg some (Addr.add_lit _ _ _)
  rw [e] at this
  exact this
theorem SlB.zeroAt (w : World) (g o c : Nat) (hc : c ≤ maxLen) : SlB w (.slice (some ⟨g, o, none⟩) 0 c) [] :=
  ⟨_, c, rfl, Nat.zero_le _, hc, (fun h => by cases h), fun ad had => by
    obtain rfl := Option.some.inj had
    exact ⟨rfl, fun i hi => absurd hi (Nat.not_lt_zero i)⟩⟩
theorem rmsg_info : (Try.prog.info? 25).map (·.size) = some 75 := by kernel_rfl
set_option maxRecDepth 100000 in
set_option maxHeartbeats 4000000 in
theorem hrows (v : Value) (ms : List MsgP) (w : World) (h : MsgsIn w v ms) : Calls Try.prog 6 #[v] w fun e w' => e = .returned (.bool true) ∧ Below w.heap.size w w' := by
  obtain ⟨a0, cap0, rfl, k1, k2, hin⟩ := h
  have HIN := Lib.hid hin
  obtain ⟨N, hN⟩ : ∃ N, N = min ms.length 6 := ⟨_, rfl⟩
  have HN := Lib.hid hN
  clear hin hN
  go_enter Try.func6, Try.ntmps6
  go_wp2_with fail
  go_loopg [3, 4, 5] N (fun g t3 t4 t5 wr => ∃ (k : Nat) (ps : List (Array Value × MsgP)), g + k = N ∧ t5 = .int .i64 (k : Int) ∧ RSt w wr t3 t4 ps ∧ ps.length ≤ k)
  case atStart => exact ⟨0, [], by omega, rfl, ⟨World.ownsRow_nil _ _ _ _, OwnM.nil _ _, (fun p hp => by cases hp), Below.refl _ _⟩, Nat.le_refl _⟩
  case round =>
    obtain ⟨k, ps, hk, rfl, hS, hps⟩ := hrel
    by_cases hkN : k < N
    · have hk1 : k < ms.length := by have := HN.out; omega
      have hk6 : k < 6 := by have := HN.out; omega
      obtain ⟨mi, hmi⟩ : ∃ m, ms[k]? = some m := ⟨_, List.getElem?_eq_getElem hk1⟩
      obtain ⟨g, o, C, rfl, hrg, hmC⟩ := HIN.out k mi hmi
      have hrg := rangeAt_below hrg hS.bel
      have hmC := hmC.below hS.bel
      have z0 : (0 : Int) ≤ (k : Int) := by omega
      have z1 : (k : Int) < (ms.length : Int) := by omega
      have z2 : (k : Int) < 6 := by omega
      have z3 : ((k : Int)).toNat = k := by omega
      obtain ⟨hzC, h1C, hoC⟩ := hmC.sizeR
      have hinf : (Try.prog.info? 25).map (·.size) = some C.toList.length := by rw [rmsg_info, Array.length_toList, hzC]
      have HS := Lib.hid hS
      have HC := Lib.hid hmC
      have HRG := Lib.hid hrg
      have HINF := Lib.hid hinf
      clear hS hmC hrg hmi hinf
      go_wp2_with (refine wpList_load_mid rfl 25 (.tmp 25) rfl g (o + k * 75) rfl C.toList _ HRG.out Try.underlying25 rfl HINF.out ?_)
      refine (tame_atT HC.out).mono ?_
      rintro e w1 ⟨C2, rfl, h2, hB1⟩
      have HS := Lib.hid (HS.out.below hB1)
      obtain ⟨hz2, h12, ho2⟩ := h2.1.sizeR
      have H2 := Lib.hid h2
      clear h2 hB1 HC HRG HINF hzC h1C hoC
      go_wp2_with fail
      obtain ⟨g6, hg6⟩ : ∃ g, g = w1.heap.size := ⟨_, rfl⟩
      have hBn : Below w1.heap.size w1 ((w1.alloc (.cells zMsg 25)).setRow w1.heap.size C2) := bSetRow ((Below.refl _ _).alloc (Nat.le_refl _) _) (Nat.le_refl _) _
      refine gen_wpC (fun w2 => RSt w w2 u3 u4 ps ∧ Row w2 g6 25 C2 ∧ RMsgT w2 C2 (tameP mi)) ⟨HS.out.below hBn, by rw [hg6]; exact (Row.new _ _ _).setRow C2, H2.out.below hBn⟩ ?_
      rw [← hg6]
      clear hg6 hBn HS H2
      rintro w2 ⟨hS, hr6, h2⟩
      refine (to_at h2.1 (tameP_small mi)).mono ?_
      rintro e w3 ⟨D, rfl, hD, hB3⟩
      have HS := Lib.hid (hS.below hB3)
      have hr6 := Row.below hr6 hB3 hr6.lt
      have H2 := Lib.hid (h2.below hB3)
      have f0 : (tameP mi).random.length = 32 ∧ (tameP mi).mark.length = 32 := by obtain ⟨a', c', e, _, e1, e2⟩ := h2.1; exact ⟨e1, e2⟩
      have HD := Lib.hid hD
      clear hS h2 hB3 hD
      go_wp2_with fail
      refine (write_at HD.out (tameP_small mi)).mono ?_
      rintro e w4 ⟨vb, rfl, hb, hB4⟩
      have HS := Lib.hid (HS.out.below hB4)
      have hr6 := Row.below hr6 hB4 hr6.lt
      have H2 := Lib.hid (H2.out.below hB4)
      obtain ⟨n, hn⟩ : ∃ n, n = tameP mi := ⟨_, rfl⟩
      have hcn := (tameP_small mi).certs
      rw [← hn] at f0 hb H2 hcn ⊢
      have hout : outW n = if rightP n then writeP n else [] := rfl
      have herr : errW n = if rightP n then 0 else 2 := rfl
      have HSB := Lib.hid hb.slb
      clear hb hB4 HD hn
      cases hrt : rightP n with
      | false =>
        rw [hrt] at hout herr
        have herr : errW n = 2 := herr
        rw [herr]
        clear hout herr hrt f0 hr6 H2 HSB
        go_wp2_with fail
        go_roundg (gk - 1)
        case measure => omega
        case rel => exact ⟨k + 1, ps, by omega, by go_num, HS.out, by omega⟩
      | true =>
        rw [hrt, if_pos rfl] at hout herr
        rw [herr]
        rw [hout] at HSB
        have hlen := body_small (m := n) hrt f0.1 f0.2
        have hwl := write_len n
        have hal := allP_len ps HS.out.ok
        have hle : (allP ps).length + (writeP n).length ≤ 1000000 := by omega
        have HRT := Lib.hid (show OkP n from ⟨hrt, f0.1, f0.2, hcn⟩)
        have HSO := Lib.hid (fun (W : World) (hb : Below w4.heap.size w4 W) => HSB.out.below hb)
        have HLE := Lib.hid hle
        have hb4 : w.heap.size ≤ w4.heap.size := HS.out.bel.size
        clear hout herr hrt f0 hlen hwl hal hle HSB
        go_upto_region 9 with (fail)
        have hr6d := hr6.drew
        go_region_law (first
          | (refine wp_appB (.tmp 36) (.tmp 37) (by rfl) w.heap.size _ (allP ps) (by rfl) (RSt.below HS.out (by repeat (first | (with_reducible exact Below.refl _ _) | refine bAlR ?_ | refine Below.drew ?_))).buf _ (writeP n) (by rfl) (HSO.out _ (by repeat (first | (with_reducible exact Below.refl _ _) | refine bAlR ?_ | refine Below.drew ?_))) HLE.out (by first | omega | (simp; done) | (simp; omega)) ?_; intro v5 w5 hb5 hg5; obtain ⟨h5, hk5⟩ := RSt.app1 (RSt.below HS.out (by repeat (first | (with_reducible exact Below.refl _ _) | refine bAlR ?_ | refine Below.drew ?_))) (RMsgT.below H2.out (by repeat (first | (with_reducible exact Below.refl _ _) | refine bAlR ?_ | refine Below.drew ?_))) hb5 hg5; have H5 := Lib.hid h5; have hb45 : w.heap.size ≤ w5.heap.size := h5.bel.size; (first | (have hr65 := hk5 _ _ hr6d) | (have hr65 := hk5 _ _ (hr6d.alloc _)) | (have hr65 := hk5 _ _ (hr6.alloc _).drew)); have HK5 := Lib.hid hk5; clear hb5 hg5 h5 hk5)
          | (refine wp_appM (.tmp 39) (.tmp 41) (by rfl) w.heap.size _ ps (by rfl) (by first | exact H5.out.own | exact (H5.out.below (bAlR (Below.refl _ _))).own) C2 n (by first | exact H5.out.msg | exact (H5.out.below (bAlR (Below.refl _ _))).msg) _ (by rfl) (by first | exact rangeAt_row (Row.new w5 _ _) | exact rangeAt_row (HK5.out _ _ (Row.new _ _ _)) | exact rangeAt_row (HK5.out _ _ (Row.new _ _ _).drew)) (by omega) (by first | omega | (simp; done) | (simp; omega)) ?_; intro v6 w6 ho6 hg6; have HF := Lib.hid (by first | exact R5.fin H5.out ho6 hg6 HS.out.ok HRT.out | exact R5.fin (H5.out.below (bAlR (Below.refl _ _))) ho6 hg6 HS.out.ok HRT.out : RSt w w6 v5 v6 (ps ++ [(C2, n)])); clear ho6 hg6)
          | fail)
        all_goals
          clear HS H2 hr6 HSO HRT HLE
          go_wp2_with fail
          go_roundg (gk - 1)
          case measure => omega
          case rel => exact ⟨k + 1, ps ++ [(C2, n)], by omega, by go_num, HF.out, by simp; omega⟩
    · have hp6 : ps.length ≤ 6 := by have := HN.out; omega
      have hz : ¬ (k : Int) < (ms.length : Int) ∨ ((k : Int) < (ms.length : Int) ∧ ¬ (k : Int) < 6) := by have := HN.out; omega
      rcases hz with z1 | ⟨z1, z3⟩
      all_goals
        obtain ⟨a4, c4, rfl⟩ := hS.own.form
        obtain ⟨a3, c3, rfl, _⟩ := hS.buf.slb
        have HS := Lib.hid hS
        clear hS hkN hk hps HIN HN
        go_wp2_with fail
        go_loopg [3, 9] ps.length (fun g t3 t9 wx => ∃ (j : Nat) (a : Option Addr) (cp : Nat), g + j = ps.length ∧ t9 = .int .i64 (j : Int) ∧ t3 = .slice a (allP (ps.drop j)).length cp ∧ SlB wx (.slice a (allP (ps.drop j)).length cp) (allP (ps.drop j)) ∧ OwnM wx w.heap.size (.slice a4 ps.length c4) ps ∧ Below w.heap.size w wx)
        case atStart => exact ⟨0, a3, c3, by omega, rfl, rfl, HS.out.buf.slb, HS.out.own, HS.out.bel⟩
        case round =>
          obtain ⟨j, a, cp, hj, rfl, h3, hsl, how, hbl⟩ := hrel
          have HOK := Lib.hid HS.out.ok
          by_cases hjN : j < ps.length
          · obtain ⟨p, hp⟩ : ∃ p, ps[j]? = some p := ⟨_, List.getElem?_eq_getElem hjN⟩
            have hdr : ps.drop j = p :: ps.drop (j + 1) := by
              rw [List.drop_eq_getElem_cons hjN]
              rw [List.getElem?_eq_getElem hjN] at hp
              rw [Option.some.inj hp]
            have hok := HOK.out p (List.mem_of_getElem? hp)
            have hal := allP_len (ps.drop j) fun q hq => HOK.out q (List.mem_of_mem_drop hq)
            have hBR : allP (ps.drop j) = writeP p.2 ++ allP (ps.drop (j + 1)) := by rw [hdr, allP_cons]
            have hbn : (allP (ps.drop j)).length ≤ 200000 := by rw [List.length_drop] at hal; omega
            obtain ⟨Bb, hBb⟩ : ∃ B, B = allP (ps.drop j) := ⟨_, rfl⟩
            rw [← hBb] at h3 hsl hBR hbn
            obtain ⟨O, hO⟩ : ∃ O, O = writeP p.2 := ⟨_, rfl⟩
            obtain ⟨R, hR⟩ : ∃ R, R = allP (ps.drop (j + 1)) := ⟨_, rfl⟩
            have hrw := read_write hok.1 hok.2.1 hok.2.2.1 R
            have hwl := write_len p.2
            rw [← hO] at hBR hrw hwl
            rw [← hR] at hBR
            rw [← hBR] at hrw
            have hlen : Bb.length = O.length + R.length := by rw [hBR, List.length_append]
            have hrd := read_any (.slice a Bb.length cp) Bb _ hsl (by omega)
            rw [hrw] at hrd
            obtain ⟨gb', ob', cp', e0, -, -, -, -⟩ := hsl.addr (by omega)
            obtain ⟨rfl, -, rfl⟩ := Value.slice.inj e0
            subst h3
            have HSL := Lib.hid hsl
            have HOW := Lib.hid how
            have HBL := Lib.hid hbl
            have HRD := Lib.hid hrd
            have HP := Lib.hid hp
            have HNX := Lib.hid (⟨hBb, hBR, hR, hlen, hok⟩ : _ ∧ _ ∧ _ ∧ _ ∧ _)
            have q1 : (O.length : Int) ≤ (Bb.length : Int) := by omega
            have q2 : (Bb.length : Int) ≤ 200000 := by omega
            have hx : Bb.length ≤ cp := by obtain ⟨_, _, e, h1, _⟩ := HSL.out; obtain ⟨_, _, rfl⟩ := Value.slice.inj e; omega
            have q3 : (O.length : Int) ≤ (cp : Int) := by omega
            have q4 : (j : Int) < (ps.length : Int) := by omega
            have hO4 : 4 ≤ O.length := by omega
            clear hsl how hbl hrd hp hBb hBR hR hlen hok hwl hrw hal hbn hdr hO e0
            go_wp2_with fail
            refine HRD.out.mono ?_
            rintro e w5 ⟨C, rfl, hN, hB5⟩
            dsimp only
            obtain ⟨hzC, h1C, hoC⟩ := hN.size
            have HN := Lib.hid hN
            have HSL := Lib.hid (HSL.out.below hB5)
            have HOW := Lib.hid (HOW.out.below hB5)
            have HBL := Lib.hid (HBL.out.trans (hB5.mono HBL.out.size))
            clear hN hB5 HRD
            go_upto_region 14 with (fail)
            obtain ⟨g10, hg10⟩ : ∃ g, g = w5.heap.size := ⟨_, rfl⟩
            have hBn : Below w5.heap.size w5 ((w5.alloc (.cells zH 30)).setRow w5.heap.size C) := bSetRow ((Below.refl _ _).alloc (Nat.le_refl _) _) (Nat.le_refl _) _
            refine gen_wp (fun w6 => Row w6 g10 30 C ∧ MsgAt w6 C p.2 ∧ OwnM w6 w.heap.size (.slice a4 ps.length c4) ps ∧ SlB w6 (.slice (some ⟨gb', ob', none⟩) Bb.length cp) Bb ∧ Below w.heap.size w w6) ⟨by rw [hg10]; exact (Row.new _ _ _).setRow C, (HN.out.below hBn).at, HOW.out.below hBn, HSL.out.below hBn, HBL.out.trans (hBn.mono HBL.out.size)⟩ ?_
            rw [← hg10]
            clear hg10 hBn HN HOW HSL HBL
            rintro w6 ⟨hr10, hN, how, hsl, hbl⟩
            obtain ⟨g4, c4', e4, hrg⟩ := how.get HP.out
            obtain ⟨rfl, -, rfl⟩ := Value.slice.inj e4
            have hmp := how.msg p (List.mem_of_getElem? HP.out)
            have hinf : (Try.prog.info? 25).map (·.size) = some p.1.toList.length := by rw [rmsg_info, Array.length_toList, hmp.1.sizeR.1]
            have hcl : p.2.certs.length ≤ 10 := HNX.out.2.2.2.2.2.2.2
            have hrd10 := hr10.drew
            have HRG := Lib.hid (show w6.drew.rangeAt g4 (j * 75) p.1.toList from (World.rangeAt_drew _ _ _ _).2 hrg)
            have HINF := Lib.hid hinf
            have HN := Lib.hid hN
            have HMP := Lib.hid hmp
            have HOW := Lib.hid how
            have HSL := Lib.hid hsl
            have HBL := Lib.hid hbl
            have HCL := Lib.hid hcl
            have HSAME := Lib.hid (fun (x : Value) (w' : World) (hb : Below w6.drew.heap.size w6.drew w') (hx : ∃ F, x = .agg F ∧ RMsgAt w' F p.2) => (show Calls Try.prog 14 #[x, .agg p.1] w' fun e w'' => e = .returned (.bool true) ∧ Below w'.heap.size w' w'' from by
              obtain ⟨F, e1, hF⟩ := hx
              rw [e1]
              exact same_at hF (HMP.out.below ((Below.drew (Below.refl _ _)).trans hb)).1))
            clear hmp hinf hrg e4 hN how hsl hbl hcl
            refine wp_region_free 16 [59] (fun d v w' => ∃ F, v = .agg F ∧ RMsgAt w' F p.2) (by kernel_rfl) (by kernel_rfl) (by kernel_rfl) (fun d v w w' ⟨F, h1, h2⟩ hb => ⟨F, h1, h2.soft hb.soft⟩) ?h
            simp only [List.take_succ_cons, List.take_zero, List.drop_succ_cons, List.drop_zero]
            apply Exists.intro
            apply Exists.intro
            refine ⟨?_, ?_, ?_⟩
            · intro ν
              iterate 3 (apply wpF_q rfl; focus (intro C hC hG; (first | go_big_quiet_skip | (go_big_quiet_want; go_big_quiet_op; first | go_big_quiet_on | (refine ⟨_, fun _ _ => rfl, ?_⟩; go_big_quiet_on)) | (go_big_quiet_want; apply qf_load1 _ _ rfl _ _ rfl; (exact hC); rotate_left 1; (focus (intro _; simp [go_sem]; done)); rotate_right 1; assumption; assumption; (simp only [Act.put, lS]; go_big_quiet_on)) | (go_big_quiet_want; apply qf_loadA _ _ rfl _ _ rfl (sz := 32); (exact hC); rotate_left 1; (focus (intro _; simp [go_sem]; done)); (focus (intro _; simp [go_sem]; done)); rotate_right 1; assumption; assumption; assumption; (simp only [Act.put, lS]; go_big_quiet_on))); exact wpQuiet_nil rfl))
              (apply wpF_q rfl; focus (intro C hC hG; go_big_quiet_want; apply qf_loadM _ rfl _ rfl; (exact hC); assumption; assumption; (simp only [Act.put, lS]; go_big_quiet_on); exact wpQuiet_nil rfl))
              (apply wpF_free; (focus rfl); (focus rfl); (exact (fun w' hB' _ => (from_at (HN.out.below ((Below.drew (Below.refl _ _)).trans hB')) HCL.out).mono fun e w'' ⟨F, h1, h2, h3⟩ => ⟨_, h1, fun d hd => by cases hd; exact ⟨F, rfl, h2⟩, h3⟩)); (focus (intro w; simp [go_sem]; done)); simp only [Act.put, vqF, pS])
              iterate 3 (apply wpF_q rfl; focus (intro C hC hG; (first | go_big_quiet_skip | (go_big_quiet_want; go_big_quiet_op; first | go_big_quiet_on | (refine ⟨_, fun _ _ => rfl, ?_⟩; go_big_quiet_on)) | (go_big_quiet_want; apply qf_load1 _ _ rfl _ _ rfl; (exact hC); rotate_left 1; (focus (intro _; simp [go_sem]; done)); rotate_right 1; assumption; assumption; (simp only [Act.put, lS]; go_big_quiet_on)) | (go_big_quiet_want; apply qf_loadA _ _ rfl _ _ rfl (sz := 32); (exact hC); rotate_left 1; (focus (intro _; simp [go_sem]; done)); (focus (intro _; simp [go_sem]; done)); rotate_right 1; assumption; assumption; assumption; (simp only [Act.put, lS]; go_big_quiet_on))); exact wpQuiet_nil rfl))
              (apply wpF_q rfl; focus (intro C hC hG; go_big_quiet_want; refine qf_loadMid _ rfl _ _ rfl p.1.toList hC HRG.out HINF.out ?_; (simp only [Act.put, lS]; go_big_quiet_on); exact wpQuiet_nil rfl))
              (apply wpF_q rfl; focus (intro C hC hG; go_big_quiet_want; apply qf_call; (exact hC); (exact hG); (exact (fun w' hB' hd => HSAME.out (ν 59) w' hB' (hd 59 (by simp) rfl))); (focus (intro w; simp [go_sem]; done)); (simp only [Act.put, lS]; go_big_quiet_on); exact wpQuiet_nil rfl))
              iterate 6 (apply wpF_q rfl; focus (intro C hC hG; (first | go_big_quiet_skip | (go_big_quiet_want; go_big_quiet_op; first | go_big_quiet_on | (refine ⟨_, fun _ _ => rfl, ?_⟩; go_big_quiet_on)) | (go_big_quiet_want; apply qf_load1 _ _ rfl _ _ rfl; (exact hC); rotate_left 1; (focus (intro _; simp [go_sem]; done)); rotate_right 1; assumption; assumption; (simp only [Act.put, lS]; go_big_quiet_on)) | (go_big_quiet_want; apply qf_loadA _ _ rfl _ _ rfl (sz := 32); (exact hC); rotate_left 1; (focus (intro _; simp [go_sem]; done)); (focus (intro _; simp [go_sem]; done)); rotate_right 1; assumption; assumption; assumption; (simp only [Act.put, lS]; go_big_quiet_on))); exact wpQuiet_nil rfl))
              exact wpF_nil ⟨rfl, rfl⟩
            · intro ν ν'; kernel_rfl
            intro ν w7 hB7 hDD
            have hBw : Below w6.heap.size w6 w7 := (Below.drew (Below.refl _ _)).trans hB7
            have HOW := Lib.hid (HOW.out.below hBw)
            have HSL := Lib.hid (HSL.out.below hBw)
            have HBL := Lib.hid (HBL.out.trans (hBw.mono HBL.out.size))
            clear hDD hB7 hBw hr10 hrd10 HSAME HN HMP HRG HINF HCL
            by_cases hcp : cp = O.length
            · subst hcp
              have hR0 : R = [] := by
                have h1 := HNX.out.2.2.2.1
                exact List.eq_nil_of_length_eq_zero (by omega)
              have HE := Lib.hid (show R.length = 0 ∧ Bb.length - O.length = 0 by rw [hR0]; have h1 := HNX.out.2.2.2.1; rw [hR0] at h1; exact ⟨rfl, by simp at h1; omega⟩)
              have HR0 := Lib.hid hR0
              clear hR0
              go_wp2_with fail
              go_roundg (gk - 1)
              case measure => omega
              case rel => exact ⟨j + 1, some ⟨gb', ob', none⟩, 0, by omega, by go_num, by rw [← HNX.out.2.2.1, HE.out.1], by rw [← HNX.out.2.2.1, HR0.out]; exact SlB.zeroAt _ _ _ _ (Nat.zero_le _), HOW.out, HBL.out⟩
            · have HE := Lib.hid (show Bb.length - O.length = R.length by have h1 := HNX.out.2.2.2.1; omega)
              have HDS := Lib.hid (drop_step HSL.out HNX.out.2.1)
              go_wp2_with fail
              go_roundg (gk - 1)
              case measure => omega
              case rel => exact ⟨j + 1, some ⟨gb', ob' + O.length, none⟩, cp - O.length, by omega, by go_num, by rw [← HNX.out.2.2.1, HE.out], by rw [← HNX.out.2.2.1]; exact HDS.out, HOW.out, HBL.out⟩
          · obtain rfl : j = ps.length := by omega
            have h0 : (allP (ps.drop ps.length)).length = 0 := by rw [List.drop_length]; rfl
            rw [h0] at h3
            subst h3
            have HBL := Lib.hid hbl
            clear h0 hsl how hbl hjN hj
            go_wp2_with fail
            refine (hellos_any _).mono ?_
            rintro e w8 ⟨rfl, hB8⟩
            have HB := Lib.hid (HBL.out.trans (hB8.mono HBL.out.size))
            clear hB8 HBL
            go_wp2_with fail
            go_ret
            exact ⟨rfl, HB.out⟩
end Go.Proofs.Ytnenoecmmelehaa
