/- Part of the proof: HSame, HAts, HRMsgT, HDoor, HLawKit. No conditions of its own. -/
import Derived.Below
import Derived.BigQuiet
import Derived.Deep.CutBlock
import Derived.Deep.DeepCutAuto
import Derived.Deep.Draws
import Derived.Deep.LoopGhost
import Derived.Deep.Quiet
import Derived.Deep.QuietTactic
import Derived.Deep.RegionLaw
import Derived.Laws.AppendOwn
import Derived.Laws.AppendOwnNone
import Derived.Laws.BytesArg
import Derived.Laws.Concat
import Derived.Laws.MakeOwn
import Derived.Lib.AppendZerosOnto
import Derived.Lib.Hide
import Derived.StillTail
import Derived.Stop.BytesEq
import Derived.Test.YtnenoecmmelehaaProg
import Derived.WalkKit
import Derived.WalkLawsBesides
import Derived.WalkSpells
import Derived.Test.YtnenoecmmelehaaM05
import Derived.Test.YtnenoecmmelehaaM09
import Derived.Test.YtnenoecmmelehaaM11
import Derived.ChangeOld
import Derived.Great.BuildSlice
import Derived.Great.FillDense
import Derived.Lib.BufferWrite
import Derived.Lib.ConvBytes
import Derived.Lib.SlBytesConst
import Derived.OpenShut
import Derived.ProofKit
import Derived.ShutString
import Derived.Test.YtnenoecmmelehaaM21
import Derived.Test.YtnenoecmmelehaaM35
import Derived.Test.YtnenoecmmelehaaM22
import Derived.Deep.AppendLies
import Derived.Test.YtnenoecmmelehaaM31
namespace Go.Proofs.Ytnenoecmmelehaa
open Go.RowKit

theorem equal32_self (xs : List UInt8) (hx : xs.length = 32) (w : World) : (Op.equalIn 10000 22 (.agg (AB xs)) (.agg (AB xs))).run Try.prog w = .ok true w := by
  rw [equal32 xs xs hx hx w]
  simp
attribute [local go_sem] equal32_self
set_option maxRecDepth 100000 in
set_option maxHeartbeats 4000000 in
theorem same_true (k : Int) (r mk s1 s2 s3 s4 s5 : List UInt8) (a1 a2 : Option Addr) (c1 c2 : Nat) (certs : List (List UInt8)) (life age : Int) (psk retry : Bool) (w : World) (hr : r.length = 32) (hm : mk.length = 32) (hc1 : StrsAt w (.slice a1 certs.length c1) certs) (hc2 : StrsAt w (.slice a2 certs.length c2) certs) :
    Calls Try.prog 14 #[.agg (mC k r mk [S s1, S s2, S s3, S s4, S s5, .slice a1 certs.length c1, .int .i64 life, .int .i64 age, .bool psk, .bool retry]), .agg (mC k r mk [S s1, S s2, S s3, S s4, S s5, .slice a2 certs.length c2, .int .i64 life, .int .i64 age, .bool psk, .bool retry])] w fun e w' => e = .returned (.bool true) ∧ Below w.heap.size w w' := by
  have facts : ∀ (a : Option Addr) (c : Nat), ∃ C, C = mC k r mk [S s1, S s2, S s3, S s4, S s5, .slice a certs.length c, .int .i64 life, .int .i64 age, .bool psk, .bool retry] ∧ C[0]? = some (.int .i64 k) ∧ C[65]? = some (S s1) ∧ C[66]? = some (S s2) ∧ C[67]? = some (S s3) ∧ C[68]? = some (S s4) ∧ C[69]? = some (S s5) ∧ C[70]? = some (.slice a certs.length c) ∧ C[71]? = some (.int .i64 life) ∧ C[72]? = some (.int .i64 age) ∧ C[73]? = some (.bool psk) ∧ C[74]? = some (.bool retry) ∧ sub C 1 32 = AB r ∧ sub C 33 32 = AB mk ∧ 1 + 32 ≤ C.size ∧ 33 + 32 ≤ C.size := fun a c => by
    have hg := fun i => mC_get (k := k) (l := [S s1, S s2, S s3, S s4, S s5, .slice a certs.length c, .int .i64 life, .int .i64 age, .bool psk, .bool retry]) hr hm i
    have hsz := mC_size (k := k) (l := [S s1, S s2, S s3, S s4, S s5, .slice a certs.length c, .int .i64 life, .int .i64 age, .bool psk, .bool retry]) hr hm
    exact ⟨_, rfl, mC_kind, hg 0, hg 1, hg 2, hg 3, hg 4, hg 5, hg 6, hg 7, hg 8, hg 9, mC_random hr, mC_mark hr hm, by rw [hsz]; simp, by rw [hsz]; simp⟩
  obtain ⟨C, hC, g0, g65, g66, g67, g68, g69, g70, g71, g72, g73, g74, hrr, hmm, z1, z2⟩ := facts a1 c1
  obtain ⟨D, hD, f0, f65, f66, f67, f68, f69, f70, f71, f72, f73, f74, frr, fmm, y1, y2⟩ := facts a2 c2
  rw [← hC, ← hD]
  clear hC hD facts
  have HC1 := Lib.hid hc1
  have HC2 := Lib.hid hc2
  clear hc1 hc2
  go_enter Try.func14, Try.ntmps14
  go_wp2_with fail
  obtain ⟨w0, hw0⟩ : ∃ w0, w0 = (w.alloc (.cells C 25)).alloc (.cells D 25) := ⟨_, rfl⟩
  rw [← hw0]
  have r1 : Row w0 w.heap.size 25 C := by rw [hw0]; exact (Row.new w _ _).alloc _
  have r2 : Row w0 (w.heap.size + 1) 25 D := by rw [hw0]; exact Row.newAt _ _ _ _ (by simp)
  have hB0 : Below w.heap.size w w0 := by rw [hw0]; exact ((Below.refl _ w).alloc (Nat.le_refl _) _).alloc (by simp) _
  have HC1 := Lib.hid (HC1.out.below hB0)
  have HC2 := Lib.hid (HC2.out.below hB0)
  clear hw0
  go_loopg [5] certs.length (fun g iv wr => ∃ i : Nat, g + i = certs.length ∧ iv = .int .i64 (i : Int) ∧ Below w0.heap.size w0 wr)
  case atStart => exact ⟨0, by omega, rfl, Below.refl _ _⟩
  case round =>
    obtain ⟨i, hi, rfl, hB⟩ := hrel
    have r1 := r1.below hB r1.lt
    have r2 := r2.below hB r2.lt
    by_cases h : i < certs.length
    · have x1 : (i : Int) < (certs.length : Int) := by omega
      have x0 : (0 : Int) ≤ (i : Int) := by omega
      have x3 : ((i : Int)).toNat = i := by omega
      obtain ⟨_, _, e1, l1, l2, h1⟩ := HC1.out
      unfold maxLen at l2
      have hbd : (i : Int) + 1 ≤ 9223372036854775807 := by omega
      obtain ⟨_, _, e2, _, _, h2⟩ := HC2.out
      simp only [Value.slice.injEq] at e1 e2
      obtain ⟨p, o, ha1, hcell1⟩ := h1 i h
      obtain ⟨p', o', ha2, hcell2⟩ := h2 i h
      have ha1' := e1.1.trans ha1
      have ha2' := e2.1.trans ha2
      subst ha1'
      subst ha2'
      clear e1 e2 h1 h2 ha1 ha2 l1 l2
      go_upto_region 6 with (fail)
      have r1 := r1.drew
      have r2 := r2.drew
      have hBd := hB.drew
      have HL1 := Lib.hid (fun (w1 : World) (hb1 : Below wr.drew.heap.size wr.drew w1) => (((hBd.trans (hb1.mono hBd.size)).cell (World.block_lt_of_cell? w0 _ hcell1)).trans hcell1))
      have HL2 := Lib.hid (fun (w1 : World) (hb1 : Below wr.drew.heap.size wr.drew w1) => (((hBd.trans (hb1.mono hBd.size)).cell (World.block_lt_of_cell? w0 _ hcell2)).trans hcell2))
      obtain ⟨q, hq⟩ : ∃ q, q = certs.getD i [] := ⟨_, rfl⟩
      rw [← hq] at HL1 HL2
      clear hcell1 hcell2 hB hq
      refine wp_region_free 10 [] (fun _ _ _ => True) (by kernel_rfl) (by kernel_rfl) (by kernel_rfl) (fun _ _ _ _ _ _ => trivial) ?_
      simp only [List.take_succ_cons, List.take_zero, List.drop_succ_cons, List.drop_zero]
      apply Exists.intro
      apply Exists.intro
      refine ⟨?_, ?_, ?_⟩
      · intro ν
        repeat (apply wpF_q rfl; focus (intro C hC hG; (first | go_big_quiet_skip | (go_big_quiet_want; go_big_quiet_op; first | go_big_quiet_on | (refine ⟨_, fun _ _ => rfl, ?_⟩; go_big_quiet_on)) | (go_big_quiet_want; apply qf_load1 _ _ rfl _ _ rfl; (exact hC); rotate_left 1; (focus (intro _; simp [go_sem]; done)); rotate_right 1; assumption; assumption; (simp only [Act.put, lS]; go_big_quiet_on)) | (go_big_quiet_want; apply qf_loadA _ _ rfl _ _ rfl (sz := 32); (exact hC); rotate_left 1; (focus (intro _; simp [go_sem]; done)); (focus (intro _; simp [go_sem]; done)); rotate_right 1; assumption; assumption; assumption; (simp only [Act.put, lS]; go_big_quiet_on))); exact wpQuiet_nil rfl))
        (apply wpF_q rfl; focus (intro C hC hG; go_big_quiet_want; apply qf_loadC; (focus rfl); (focus rfl); (exact hC); (focus (intro _; simp [go_sem]; done)); (exact (fun w1 hb1 => HL1.out w1 hb1)); (simp only [Act.put, lS]; go_big_quiet_on); exact wpQuiet_nil rfl))
        repeat (apply wpF_q rfl; focus (intro C hC hG; (first | go_big_quiet_skip | (go_big_quiet_want; go_big_quiet_op; first | go_big_quiet_on | (refine ⟨_, fun _ _ => rfl, ?_⟩; go_big_quiet_on)) | (go_big_quiet_want; apply qf_load1 _ _ rfl _ _ rfl; (exact hC); rotate_left 1; (focus (intro _; simp [go_sem]; done)); rotate_right 1; assumption; assumption; (simp only [Act.put, lS]; go_big_quiet_on)) | (go_big_quiet_want; apply qf_loadA _ _ rfl _ _ rfl (sz := 32); (exact hC); rotate_left 1; (focus (intro _; simp [go_sem]; done)); (focus (intro _; simp [go_sem]; done)); rotate_right 1; assumption; assumption; assumption; (simp only [Act.put, lS]; go_big_quiet_on))); exact wpQuiet_nil rfl))
        (apply wpF_q rfl; focus (intro C hC hG; go_big_quiet_want; apply qf_loadC; (focus rfl); (focus rfl); (exact hC); (focus (intro _; simp [go_sem]; done)); (exact (fun w1 hb1 => HL2.out w1 hb1)); (simp only [Act.put, lS]; go_big_quiet_on); exact wpQuiet_nil rfl))
        exact wpF_nil ⟨rfl, rfl⟩
      · intro ν ν'
        rfl
      · intro ν w2 hw2 _
        have hB2 := hBd.trans (hw2.mono hBd.size)
        clear hBd hw2 r1 r2
        go_wp2_with fail
        go_roundg (gk - 1)
        case measure => omega
        case rel => exact ⟨i + 1, by omega, by go_num, hB2⟩
    · obtain rfl : i = certs.length := by omega
      have x1 : ¬ (certs.length : Int) < (certs.length : Int) := by omega
      have hB2 := hB0.trans (hB.mono hB0.size)
      clear hB hB0
      go_wp2_with fail
      go_ret
      exact ⟨rfl, hB2⟩
end Go.Proofs.Ytnenoecmmelehaa

namespace Go.Proofs.Ytnenoecmmelehaa
open Go.RowKit
set_option linter.unusedVariables false

def tameP (m : MsgP) : MsgP := { m with session := m.session.take 2100, share := m.share.take 2100, ticket := m.ticket.take 2100, nonce := m.nonce.take 2100, sig := m.sig.take 2100, certs := cutP m.certs 6 }
theorem take_small (l : List UInt8) : (l.take 2100).length ≤ 100000 := by rw [List.length_take]; omega
theorem tameP_small (m : MsgP) : SmallM (tameP m) := by
  refine ⟨take_small _, take_small _, take_small _, take_small _, take_small _, ?_, ?_⟩
  · show (cutP m.certs 6).length ≤ 10
    unfold cutP; rw [List.length_map, List.length_take]; omega
  · show ∀ c, c ∈ cutP m.certs 6 → c.length ≤ 100000
    unfold cutP
    intro c hc
    obtain ⟨l, _, rfl⟩ := List.mem_map.1 hc
    exact take_small l
def outW (m : MsgP) : List UInt8 := if rightP m then writeP m else []
def errW (m : MsgP) : Int := if rightP m then 0 else 2
theorem StrB.mk' {w : World} {base : Nat} {v : Value} {ls : List (List UInt8)} (h : StrB w base v ls) : ∃ a c, v = .slice a ls.length c ∧ StrsAt w (.slice a ls.length c) ls := by
  obtain ⟨a, c, rfl, h1⟩ := id h.strs
  exact ⟨a, c, rfl, h.strs⟩
theorem to_at {m : MsgP} {C : Array Value} {w : World} (h : RMsgAt w C m) (hs : SmallM m) :
    Calls Try.prog 10 #[.agg C] w fun e w' => ∃ C', e = .returned (.agg C') ∧ MsgAt w' C' m ∧ Below w.heap.size w w' := by
  obtain ⟨a, c, rfl, hp, hr, hm⟩ := h
  have up : ∀ n, n ≤ 100000 → n ≤ 1000000 := fun n h => by omega
  refine (to_any _ _ _ _ _ _ _ _ _ _ _ _ _ _ _ w hp (up _ hs.session) (up _ hs.share) (up _ hs.ticket) (up _ hs.nonce) (up _ hs.sig) hs.certs (fun c hc => up _ (hs.cert c hc))).mono ?_
  rintro e w' ⟨v1, v2, v3, v4, v5, v6, rfl, h1, h2, h3, h4, h5, h6, hB⟩
  exact ⟨_, rfl, ⟨v1, v2, v3, v4, v5, v6, rfl, h1.1, h2.1, h3.1, h4.1, h5.1, h6.parts, hr, hm⟩, hB⟩
theorem from_at {m : MsgP} {C : Array Value} {w : World} (h : MsgAt w C m) (hs : m.certs.length ≤ 10) :
    Calls Try.prog 15 #[.agg C] w fun e w' => ∃ C', e = .returned (.agg C') ∧ RMsgAt w' C' m ∧ Below w.heap.size w w' := by
  obtain ⟨v1, v2, v3, v4, v5, vc, rfl, h1, h2, h3, h4, h5, h6, hr, hm⟩ := h
  obtain ⟨a1, c1, rfl, _⟩ := id h1
  obtain ⟨a2, c2, rfl, _⟩ := id h2
  obtain ⟨a3, c3, rfl, _⟩ := id h3
  obtain ⟨a4, c4, rfl, _⟩ := id h4
  obtain ⟨a5, c5, rfl, _⟩ := id h5
  obtain ⟨ac, cc, rfl, _⟩ := id h6
  refine (from_any _ _ _ _ _ _ _ _ _ _ _ _ _ _ _ _ _ _ _ _ _ _ _ _ _ w h1 h2 h3 h4 h5 h6 hs).mono ?_
  rintro e w' ⟨v6, rfl, hb, hB⟩
  obtain ⟨a7, c7, rfl, hs'⟩ := hb.mk'
  exact ⟨_, rfl, ⟨a7, c7, rfl, hs', hr, hm⟩, hB⟩
theorem same_at {m : MsgP} {C D : Array Value} {w : World} (h : RMsgAt w C m) (k : RMsgAt w D m) :
    Calls Try.prog 14 #[.agg C, .agg D] w fun e w' => e = .returned (.bool true) ∧ Below w.heap.size w w' := by
  obtain ⟨a, c, rfl, hp, hr, hm⟩ := h
  obtain ⟨a2, c2, rfl, hp2, _, _⟩ := k
  rw [← mD_of hr hm, ← mD_of hr hm]
  exact same_true _ _ _ _ _ _ _ _ _ _ _ _ _ _ _ _ _ w hr hm hp hp2
theorem write_at {m : MsgP} {C : Array Value} {w : World} (h : MsgAt w C m) (hs : SmallM m) :
    Calls Try.prog 11 #[.agg C] w fun e w' => ∃ v, e = .returned (.tuple #[v, .int .i64 (errW m)]) ∧ Buf 5 w' w.heap.size v (outW m) ∧ Below w.heap.size w w' := by
  unfold outW errW
  cases hr : rightP m with
  | true => exact write_yes h hs hr
  | false =>
    refine (write_no h hs hr).mono ?_
    rintro e w' ⟨rfl, hB⟩
    exact ⟨_, rfl, by simpa [Buf] using World.ownsRow_nil w' w.heap.size 5 1, hB⟩
end Go.Proofs.Ytnenoecmmelehaa

namespace Go.Proofs.Ytnenoecmmelehaa
open Go.RowKit
set_option linter.unusedVariables false

def RMsgT (w : World) (C : Array Value) (m : MsgP) : Prop := RMsgAt w C m ∧ (m.certs = [] ∨ ∃ base v, C[70]? = some v ∧ StrB w base v m.certs)
theorem RMsgT.below {w w' : World} {C : Array Value} {m : MsgP} (h : RMsgT w C m) (hb : Below w.heap.size w w') : RMsgT w' C m :=
  ⟨h.1.below hb, h.2.imp id fun ⟨base, v, h1, h2⟩ => ⟨base, v, h1, h2.grow hb⟩⟩
theorem RMsgT.keptR {w : World} {C D : Array Value} {m : MsgP} {g : Nat} (h : RMsgT w C m) (hr : Row w g 25 D) (E : Array Value) : RMsgT (w.setRow g E) C m := by
  obtain ⟨⟨a, c, e, hs, h1, h2⟩, h3⟩ := h
  rcases h3 with h3 | ⟨base, v, h4, h5⟩
  · refine ⟨⟨a, c, e, ?_, h1, h2⟩, .inl h3⟩
    obtain ⟨a', c', e', k1, k2, _⟩ := hs
    exact ⟨a', c', e', k1, k2, fun i hi => by rw [h3] at hi; cases hi⟩
  · have h6 := h5.keptT (grownBy_setR w g E) hr (by decide)
    refine ⟨⟨a, c, e, ?_, h1, h2⟩, .inr ⟨base, v, h4, h6⟩⟩
    rw [e, mD_70] at h4
    rw [Option.some.inj h4]
    exact h6.strs
end Go.Proofs.Ytnenoecmmelehaa

namespace Go.Proofs.Ytnenoecmmelehaa
open Go.RowKit
set_option linter.unusedVariables false

theorem S_of (s : ByteArray) : Value.string s = S s.data.toList := by cases s; simp
section
variable {H : Type} {enc : TypeId × Value → H} {w : World} {held : Bool}
theorem strs_cell {vp : Value} {fuel : Nat} {y : DataW H × List MemPlace} (hf : DataW.trod enc Try.prog w 0 (fun _ => true) held fuel 23 [vp] = some y) : ∃ parts, StrsAt w vp parts := by
  rcases Go.ChangeShapes.open_strings Try.underlying23 Try.underlying9 (by kernel_rfl) hf with ⟨hcs, _⟩ | ⟨a, len, cap, ss, hcs, _, hl, hm, hz, _, hcell, _⟩
  · obtain rfl : vp = _ := by simpa using hcs
    exact ⟨[], none, 0, rfl, Nat.le_refl _, Nat.zero_le _, fun i hi => absurd hi (Nat.not_lt_zero i)⟩
  · obtain rfl : vp = _ := by simpa using hcs
    rw [if_pos rfl] at hz
    have hlen : ((ss.take len).map fun s => s.data.toList).length = len := by simp; omega
    refine ⟨(ss.take len).map fun s => s.data.toList, some a, cap, by rw [hlen], by omega, hm, fun i hi => ?_⟩
    rw [hlen] at hi
    have h1 := hcell i (by omega)
    have hs : a.spot = none := by
      have h1 := hcell 0 (by omega)
      cases hx : a.spot with
      | none => rfl
      | some s =>
        exfalso
        have : w.cell? a = none := by
          unfold World.cell?
          cases hh : w.heap[a.block]? with
          | none => rfl
          | some o => cases o <;> simp [hx]
        rw [show a.add 0 = a from rfl, this] at h1
        cases h1
    obtain ⟨b, o, sp⟩ := a
    simp only at hs
    subst hs
    rw [Addr.add_lit] at h1
    refine ⟨b, o, rfl, ?_⟩
    rw [h1, S_of]
    congr 2
    have : i < ss.length := by omega
    simp [hi, this]
theorem open_rmsg {r : Reach} {b0 : Nat} {v : Value} {d : DataW H} {ps : List MemPlace} (hval : Value.okWide Try.prog w r b0 25 v) (hd : DataW.Trod enc Try.prog w 0 (fun _ => true) held 25 v d ps) : ∃ C m, v = .agg C ∧ RMsgAt w C m := by
  unfold Value.okWide at hval
  rw [Try.underlying25] at hval
  obtain ⟨cs, rfl, hsz, hrow⟩ := hval
  obtain ⟨fuel, hf⟩ := hd
  obtain ⟨xs, n, _, hx, hl, hlen, hfs⟩ := DataW.trod_struct Try.underlying25 hf
  have e32 : Try.prog.cellsOf 22 = 32 := by kernel_rfl
  have e1 : Try.prog.cellsOf 4 = 1 := by kernel_rfl
  have ei : Try.prog.cellsOf 3 = 1 := by kernel_rfl
  have es : Try.prog.cellsOf 9 = 1 := by kernel_rfl
  have el : Try.prog.cellsOf 23 = 1 := by kernel_rfl
  have e75 : Try.prog.cellsOf 25 = 75 := by kernel_rfl
  have hl13 : xs.length = 13 := hlen
  have gx : ∀ i, i < 13 → ∃ y, xs[i]? = some y := fun i hi => ⟨_, List.getElem?_eq_getElem (by omega)⟩
  obtain ⟨L, hL⟩ : ∃ L, L = cs.toList := ⟨_, rfl⟩
  have hLl : L.length = 75 := by rw [hL, Array.length_toList, hsz, e75]
  have f0 := hfs 0 _ rfl
  have f1 := hfs 1 _ rfl
  have f2 := hfs 2 _ rfl
  have f3 := hfs 3 _ rfl
  have f4 := hfs 4 _ rfl
  have f5 := hfs 5 _ rfl
  have f6 := hfs 6 _ rfl
  have f7 := hfs 7 _ rfl
  have f8 := hfs 8 _ rfl
  have f9 := hfs 9 _ rfl
  have f10 := hfs 10 _ rfl
  have f11 := hfs 11 _ rfl
  have f12 := hfs 12 _ rfl
  simp only [List.getElem_toArray, List.getElem_cons_zero, List.getElem_cons_succ, e32, e1, ei, es, el, List.drop_zero, Value.cells, ← hL] at f0 f1 f2 f3 f4 f5 f6 f7 f8 f9 f10 f11 f12
  obtain ⟨y0, g0⟩ := gx 0 (by omega)
  obtain ⟨y1, g1⟩ := gx 1 (by omega)
  obtain ⟨y2, g2⟩ := gx 2 (by omega)
  obtain ⟨y3, g3⟩ := gx 3 (by omega)
  obtain ⟨y4, g4⟩ := gx 4 (by omega)
  obtain ⟨y5, g5⟩ := gx 5 (by omega)
  obtain ⟨y6, g6⟩ := gx 6 (by omega)
  obtain ⟨y7, g7⟩ := gx 7 (by omega)
  obtain ⟨y8, g8⟩ := gx 8 (by omega)
  obtain ⟨y9, g9⟩ := gx 9 (by omega)
  obtain ⟨y10, g10⟩ := gx 10 (by omega)
  obtain ⟨y11, g11⟩ := gx 11 (by omega)
  obtain ⟨y12, g12⟩ := gx 12 (by omega)
  rw [g0] at f0
  rw [g1] at f1
  rw [g2] at f2
  rw [g3] at f3
  rw [g4] at f4
  rw [g5] at f5
  rw [g6] at f6
  rw [g7] at f7
  rw [g8] at f8
  rw [g9] at f9
  rw [g10] at f10
  rw [g11] at f11
  rw [g12] at f12
  obtain ⟨k, c0, _⟩ := DataW.trod_int Try.underlying3 f0
  obtain ⟨rd, hr, c1, _⟩ := trod_arr Try.underlying22 Try.underlying5 (by kernel_rfl) e32 f1
  obtain ⟨mk, hm, c2, _⟩ := trod_arr Try.underlying22 Try.underlying5 (by kernel_rfl) e32 f2
  obtain ⟨s3, c3, _⟩ := DataW.trod_string Try.underlying9 f3
  obtain ⟨s4, c4, _⟩ := DataW.trod_string Try.underlying9 f4
  obtain ⟨s5, c5, _⟩ := DataW.trod_string Try.underlying9 f5
  obtain ⟨s6, c6, _⟩ := DataW.trod_string Try.underlying9 f6
  obtain ⟨s7, c7, _⟩ := DataW.trod_string Try.underlying9 f7
  obtain ⟨life, c9, _⟩ := DataW.trod_int Try.underlying3 f9
  obtain ⟨age, c10, _⟩ := DataW.trod_int Try.underlying3 f10
  obtain ⟨psk, c11, _⟩ := DataW.trod_bool Try.underlying4 f11
  obtain ⟨retry, c12, _⟩ := DataW.trod_bool Try.underlying4 f12
  obtain ⟨vc, hvc⟩ : ∃ v, L[70]? = some v := ⟨_, List.getElem?_eq_getElem (by omega)⟩
  have c8 : List.take 1 (L.drop 70) = [vc] := by
    apply List.ext_getElem?
    intro i
    match i with
    | 0 => rw [List.getElem?_take, if_pos (by decide), List.getElem?_drop]; exact hvc
    | i + 1 => rw [List.getElem?_take, if_neg (by omega)]; rfl
  rw [c8] at f8
  obtain ⟨parts, hp⟩ := strs_cell f8
  obtain ⟨ac, cc, rfl, _⟩ := id hp
  have step : ∀ n k, L.drop n = (L.drop n).take k ++ L.drop (n + k) := fun n k => by
    have := List.take_append_drop k (L.drop n)
    rw [List.drop_drop] at this
    exact this.symm
  have hend : L.drop 75 = [] := List.drop_eq_nil_of_le (by omega)
  have hLe : L = [Value.int .i64 k] ++ (rd.map B ++ (mk.map B ++ [S s3.data.toList, S s4.data.toList, S s5.data.toList, S s6.data.toList, S s7.data.toList, .slice ac parts.length cc, .int .i64 life, .int .i64 age, .bool psk, .bool retry])) := by
    have a0 := step 0 1
    have a1 := step 1 32
    have a2 := step 33 32
    have a3 := step 65 1
    have a4 := step 66 1
    have a5 := step 67 1
    have a6 := step 68 1
    have a7 := step 69 1
    have a8 := step 70 1
    have a9 := step 71 1
    have a10 := step 72 1
    have a11 := step 73 1
    have a12 := step 74 1
    rw [List.drop_zero, c0] at a0
    rw [c1] at a1
    rw [c2] at a2
    rw [c3, S_of] at a3
    rw [c4, S_of] at a4
    rw [c5, S_of] at a5
    rw [c6, S_of] at a6
    rw [c7, S_of] at a7
    rw [c8] at a8
    rw [c9] at a9
    rw [c10] at a10
    rw [c11] at a11
    rw [c12, hend] at a12
    rw [a0, a1, a2, a3, a4, a5, a6, a7, a8, a9, a10, a11, a12]
    rfl
  refine ⟨cs, ⟨k, rd, mk, s3.data.toList, s4.data.toList, s5.data.toList, s6.data.toList, s7.data.toList, parts, life, age, psk, retry⟩, rfl, ac, cc, ?_, hp, hr, hm⟩
  rw [← mD_of hr hm]
  unfold mC
  rw [← hLe, hL]
end
end Go.Proofs.Ytnenoecmmelehaa

namespace Go.Proofs.Ytnenoecmmelehaa
open Go.RowKit
set_option linter.unusedVariables false

theorem tame_atT {m : MsgP} {C : Array Value} {w : World} (h : RMsgAt w C m) :
    Calls Try.prog 9 #[.agg C] w fun e w' => ∃ C', e = .returned (.agg C') ∧ RMsgT w' C' (tameP m) ∧ Below w.heap.size w w' := by
  obtain ⟨a, c, rfl, hp, hr, hm⟩ := h
  rw [← mD_of hr hm]
  refine (tame_any _ _ _ _ _ _ _ _ _ _ _ _ _ _ _ _ w hr hm hp).mono ?_
  rintro e w' ⟨a', n', c', rfl, hb, hB⟩
  obtain ⟨a2, c2, e2, hs⟩ := hb.mk'
  rw [e2]
  rw [e2] at hb
  exact ⟨_, rfl, ⟨⟨a2, c2, mD_of hr hm, hs, hr, hm⟩, .inr ⟨_, _, by rw [mD_of hr hm]; exact mD_70, hb⟩⟩, hB⟩
theorem MsgAt.size {w : World} {C : Array Value} {m : MsgP} (h : MsgAt w C m) : C.size = 75 ∧ allOne C = true ∧ over zH 0 C = C := by
  obtain ⟨v1, v2, v3, v4, v5, vc, e, h1, h2, h3, h4, h5, h6, _⟩ := h
  have hs : C.size = 75 := by rw [e]; exact mD_sz
  refine ⟨hs, ?_, over_all _ _ (zH_size.trans hs.symm)⟩
  have sl : ∀ v, isSliceV v = true → v.oneCell' = true := fun v h => (one_slice h).1
  rw [e, mD_one, sl v1 h1.shape, sl v2 h2.shape, sl v3 h3.shape, sl v4 h4.shape, sl v5 h5.shape, sl vc h6.shape]
  rfl
theorem StrsAt.soft {w w' : World} {vp : Value} {parts : List (List UInt8)} (h : StrsAt w vp parts) (hs : Soft w w') : StrsAt w' vp parts := by
  obtain ⟨a, cap, e, h1, h2, h3⟩ := h
  refine ⟨a, cap, e, h1, h2, fun i hi => ?_⟩
  obtain ⟨g, o, e1, e2⟩ := h3 i hi
  exact ⟨g, o, e1, hs.cell e2⟩
theorem RMsgAt.soft {w w' : World} {C : Array Value} {m : MsgP} (h : RMsgAt w C m) (hs : Soft w w') : RMsgAt w' C m := by
  obtain ⟨a, c, e, h1, h2⟩ := h
  exact ⟨a, c, e, h1.soft hs, h2⟩
theorem over_C {C D : Array Value} (h : C.size = 75) (k : D.size = 75) : over C 0 D = D := over_all _ _ (h.trans k.symm)
end Go.Proofs.Ytnenoecmmelehaa
