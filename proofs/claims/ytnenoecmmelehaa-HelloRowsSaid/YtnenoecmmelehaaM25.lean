/- Part of the proof: HParse, HRead. No conditions of its own. -/
import Derived.Below
import Derived.BigQuiet
import Derived.ChangeOld
import Derived.Deep.CutBlock
import Derived.Deep.DeepCutAuto
import Derived.Deep.Draws
import Derived.Deep.LoopGhost
import Derived.Deep.Quiet
import Derived.Deep.QuietTactic
import Derived.Deep.RegionLaw
import Derived.Great.BuildSlice
import Derived.Great.FillDense
import Derived.Laws.AppendOwn
import Derived.Laws.AppendOwnNone
import Derived.Laws.BytesArg
import Derived.Laws.Concat
import Derived.Laws.MakeOwn
import Derived.Lib.AppendZerosOnto
import Derived.Lib.BufferWrite
import Derived.Lib.ConvBytes
import Derived.Lib.Hide
import Derived.Lib.SlBytesConst
import Derived.OpenShut
import Derived.ProofKit
import Derived.ShutString
import Derived.StillTail
import Derived.Stop.BytesEq
import Derived.Test.YtnenoecmmelehaaProg
import Derived.WalkKit
import Derived.WalkLawsBesides
import Derived.WalkSpells
import Derived.Test.YtnenoecmmelehaaM24
import Derived.Test.YtnenoecmmelehaaM09
namespace Go.Proofs.Ytnenoecmmelehaa
open Go.RowKit
set_option linter.unusedVariables false

def SlNs (w : World) (base : Nat) (ps : List (Value × List UInt8)) : Prop := ∀ p, p ∈ ps → SlT w p.1 p.2 ∧ ∀ ad, addrV p.1 = some ad → base ≤ ad.block
structure PSt (w : World) (g5 g6 : Nat) (w1 : World) (C : Array Value) (l : List UInt8) (bad : Bool) (ps : List (Value × List UInt8)) : Prop where
  ans : Row w1 w.heap.size 30 zH
  cur : CurAt w1 g5 w.heap.size l bad
  msg : Row w1 g6 30 C
  sls : SlNs w1 (g6 + 1) ps
  bel : Below w.heap.size w w1
  len : l.length ≤ 1000000
  lt5 : w.heap.size < g5
  lt6 : g5 < g6
section
variable {w w1 w2 : World} {g5 g6 : Nat} {C : Array Value} {l : List UInt8} {bad : Bool} {ps : List (Value × List UInt8)}
theorem PSt.call (h : PSt w g5 g6 w1 C l bad ps) {l' : List UInt8} {bad' : Bool} (hg : w1.grownBy w2 (some g5)) (hc : CurAt w2 g5 w.heap.size l' bad') (hl : l'.length ≤ l.length) : PSt w g5 g6 w2 C l' bad' ps := by
  obtain ⟨v, hr, _⟩ := h.cur
  have h5 := h.lt5
  have h6 := h.lt6
  refine ⟨(row_congr (hg.block _ h.ans.lt (fun e => by have := Option.some.inj e; omega))).trans h.ans, hc, (row_congr (hg.block _ h.msg.lt (fun e => by have := Option.some.inj e; omega))).trans h.msg, fun p hp => ⟨(h.sls p hp).1.keptT hg hr (by decide), (h.sls p hp).2⟩, h.bel.grown hg h.bel.size (fun k e => by have := Option.some.inj e; omega), Nat.le_trans hl h.len, h5, h6⟩
theorem PSt.hset (h : PSt w g5 g6 w1 C l bad ps) {C' : Array Value} (hg : w1.grownBy w2 (some g6)) (hr : Row w2 g6 30 C') : PSt w g5 g6 w2 C' l bad ps := by
  obtain ⟨v, hr1, hs, hn⟩ := h.cur
  have h5 := h.lt5
  have h6 := h.lt6
  refine ⟨(row_congr (hg.block _ h.ans.lt (fun e => by have := Option.some.inj e; omega))).trans h.ans, ⟨v, (row_congr (hg.block _ hr1.lt (fun e => by have := Option.some.inj e; omega))).trans hr1, hs.keptX hg (fun ad had hp e => by have := hn ad had hp; omega), hn⟩, hr, fun p hp => ⟨(h.sls p hp).1.keptT hg h.msg (by decide), (h.sls p hp).2⟩, h.bel.grown hg h.bel.size (fun k e => by have := Option.some.inj e; omega), h.len, h5, h6⟩
theorem PSt.set (h : PSt w g5 g6 w1 C l bad ps) {C' : Array Value} (i : Nat) (v : Value) (hC : C.setIfInBounds i v = C') : PSt w g5 g6 (w1.setCell ⟨g6, i, none⟩ v) C' l bad ps :=
  h.hset (grownBy_set _ _ _ _) (hC ▸ h.msg.set i v)
theorem PSt.setR (h : PSt w g5 g6 w1 C l bad ps) {C0 C' : Array Value} (hC : C0 = C') : PSt w g5 g6 (w1.setRow g6 C0) C' l bad ps :=
  h.hset (grownBy_setR _ _ _) (hC ▸ h.msg.setRow C0)
theorem PSt.add (h : PSt w g5 g6 w1 C l bad ps) {v : Value} {s : List UInt8} (hs : SlT w1 v s) (hb : ∀ ad, addrV v = some ad → g6 + 1 ≤ ad.block) : PSt w g5 g6 w1 C l bad ((v, s) :: ps) :=
  ⟨h.ans, h.cur, h.msg, fun p hp => by
    rcases List.mem_cons.1 hp with rfl | hp
    · exact ⟨hs, hb⟩
    · exact h.sls p hp, h.bel, h.len, h.lt5, h.lt6⟩
theorem PSt.start {v : Value} {b : List UInt8} {c : Array Value} (h : SlB w v b) (hl : b.length ≤ 1000000) (h5 : g5 = w.heap.size + 1) (h6 : g6 = w.heap.size + 1 + 1) (hc : zH.size = c.size) :
    PSt w g5 g6 ((((w.alloc (.cells zH 30)).alloc (.cells #[v, .bool false] 77)).alloc (.cells zH 30)).setRow g6 c) c b false [] := by
  subst h5 h6
  have b0 : Below w.heap.size w (((w.alloc (.cells zH 30)).alloc (.cells #[v, .bool false] 77)).alloc (.cells zH 30)) := ((((Below.refl _ w).alloc (Nat.le_refl _) _).alloc (by simp) _).alloc (by simp; omega) _)
  refine ⟨(((Row.new w _ _).alloc _).alloc _).setRowOther _ _ (by omega), ⟨v, ((Row.newAt _ _ _ _ (by simp)).alloc _).setRowOther _ _ (by omega), ?_, fun ad had hp => ?_⟩, (Row.newAt _ _ _ _ (by simp)).setRow _, (fun p hp => by cases hp), bSetRow b0 (by omega) _, hl, by omega, by omega⟩
  · refine SlB.below h (bSetRow b0 (by omega) _)
  · obtain ⟨a, cap, rfl, _, _, _, h4⟩ := h
    have had : a = some ad := had
    have := World.block_lt_of_cell? w _ ((h4 ad had).2 0 hp)
    exact this
end
theorem Buf.addr {w : World} {base : Nat} {v : Value} {l : List UInt8} (h : Buf 5 w base v l) : ∀ ad, addrV v = some ad → base ≤ ad.block := fun ad had => by
  rcases h.2 with ⟨rfl, _⟩ | ⟨g, cap, cur, rfl, hg, _⟩
  · cases had
  · obtain rfl := Option.some.inj had
    exact hg
def MsgN (w : World) (base : Nat) (C : Array Value) (m : MsgP) : Prop :=
  ∃ v1 v2 v3 v4 v5 vc vs, C = mD m.kind m.random m.mark [v1, v2, v3, v4, v5, vc, .int .i64 m.life, .int .i64 m.age, .bool m.psk, .bool m.retry] ∧ m.random.length = 32 ∧ m.mark.length = 32 ∧
    SlNs w base [(v1, m.session), (v2, m.share), (v3, m.ticket), (v4, m.nonce), (v5, m.sig)] ∧ w.ownsRow base 27 1 vc m.certs.length vs ∧ RowT w vs m.certs ∧ ∀ v, v ∈ vs → ∀ ad, addrV v = some ad → base ≤ ad.block
set_option maxRecDepth 100000 in
theorem built_kind (k : Int) : Try.prog.built 30 [(0, .int .i64 k)] = some (mD k zero32 zero32 [.slice none 0 0, .slice none 0 0, .slice none 0 0, .slice none 0 0, .slice none 0 0, .slice none 0 0, .int .i64 0, .int .i64 0, .bool false, .bool false]) := by kernel_rfl
theorem SlNs.low {w : World} {base b : Nat} {ps : List (Value × List UInt8)} (h : SlNs w base ps) (hb : b ≤ base) : SlNs w b ps := fun p hp => ⟨(h p hp).1, fun ad had => Nat.le_trans hb ((h p hp).2 ad had)⟩
theorem SlNs.of {w : World} {base : Nat} {ps qs : List (Value × List UInt8)} (h : SlNs w base ps) (hq : ∀ q, q ∈ qs → q ∈ ps ∨ q = (.slice none 0 0, [])) : SlNs w base qs := fun q hq' => by
  rcases hq q hq' with h1 | rfl
  · exact h q h1
  · exact ⟨SlT.nil w, fun ad h => by cases h⟩
theorem SlNs.five {w : World} {base : Nat} {v1 v2 v3 v4 v5 : Value} {s1 s2 s3 s4 s5 : List UInt8} (h1 : SlT w v1 s1 ∧ ∀ ad, addrV v1 = some ad → base ≤ ad.block) (h2 : SlT w v2 s2 ∧ ∀ ad, addrV v2 = some ad → base ≤ ad.block) (h3 : SlT w v3 s3 ∧ ∀ ad, addrV v3 = some ad → base ≤ ad.block) (h4 : SlT w v4 s4 ∧ ∀ ad, addrV v4 = some ad → base ≤ ad.block) (h5 : SlT w v5 s5 ∧ ∀ ad, addrV v5 = some ad → base ≤ ad.block) : SlNs w base [(v1, s1), (v2, s2), (v3, s3), (v4, s4), (v5, s5)] := fun p hp => by
  simp only [List.mem_cons, List.not_mem_nil, or_false] at hp
  rcases hp with rfl | rfl | rfl | rfl | rfl
  · exact h1
  · exact h2
  · exact h3
  · exact h4
  · exact h5
theorem SlN.nil (w : World) (base : Nat) : SlT w (.slice none 0 0) [] ∧ ∀ ad, addrV (.slice none 0 0) = some ad → base ≤ ad.block := ⟨SlT.nil w, fun ad h => by cases h⟩
theorem PSt.fin {w w1 : World} {g5 g6 : Nat} {C : Array Value} {l : List UInt8} {bad : Bool} {ps : List (Value × List UInt8)} (h : PSt w g5 g6 w1 C l bad ps) : SlNs (w1.setRow w.heap.size C) w.heap.size ps ∧ Row (w1.setRow w.heap.size C) w.heap.size 30 C ∧ Below w.heap.size w (w1.setRow w.heap.size C) := by
  have h5 := h.lt5
  have h6 := h.lt6
  exact ⟨fun p hp => ⟨(h.sls p hp).1.keptT (grownBy_setR _ _ _) h.ans (by decide), fun ad had => by have := (h.sls p hp).2 ad had; omega⟩, h.ans.setRow C, bSetRow h.bel (Nat.le_refl _) _⟩
theorem mD_oMt (k : Int) (r mk x : List UInt8) (l : List Value) : over (mD k r mk l) 33 (AB (takeV 32 x)) = mD k r (takeV 32 x) l := mD_oM _ (takeV_len _ _)
theorem mD_oRt (k : Int) (r mk x : List UInt8) (l : List Value) : over (mD k r mk l) 1 (AB (takeV 32 x)) = mD k (takeV 32 x) mk l := mD_oR _ (takeV_len _ _)
attribute [go_sem] mD_oMt mD_oRt

end Go.Proofs.Ytnenoecmmelehaa

namespace Go.Proofs.Ytnenoecmmelehaa
open Go.RowKit
set_option linter.unusedVariables false
set_option linter.unusedSimpArgs false

theorem results_cell_row3 {P : Program} {fn : Func} {p u v : Tmp} {ty : TypeId} (h : fn.results = #[.cell p ty, .tmp u, .tmp v]) (tmps : Array Value) (w : World) (g : Nat) (t : TypeId) (cs : Array Value) (fr : Nat × Nat) (d : TypeDesc)
    (hp : tmps.getD p undef = .pointer (some ⟨g, 0, none⟩)) (hg : w.heap[g]? = some (.cells cs t fr))
    (hu : P.underlying ty = some d) (hd : (match d with | .struct _ | .array _ _ => true | _ => false) = true) (hi : (P.info? ty).map (·.size) = some cs.size) :
    (results fn tmps).run P w = .ok (.tuple #[.agg cs, tmps.getD u undef, tmps.getD v undef]) w := by
  have hp' : tmps[p]?.getD undef = .pointer (some ⟨g, 0, none⟩) := by simpa using hp
  simp [results, h, hp', asAddr, Sem.run_bind, Result.andThen, run_loadVar_row w g t ty cs fr d hg hu hd hi]
theorem ret_row3 {P : Program} {fn : Func} {p i j : Tmp} {ty : TypeId} {tmps : Array Value} {w : World} {R : Ending → World → Prop} {e : Exit} (he : e = .ret ∨ e = .normal) (h : fn.results = #[.cell p ty, .tmp i, .tmp j]) (g : Nat) (t : TypeId) (cs : Array Value) (n : Nat) (d : TypeDesc) (u v : Value)
    (hp : tmps.getD p undef = .pointer (some ⟨g, 0, none⟩)) (hr : Row w g t cs)
    (hu : P.underlying ty = some d) (hd : (match d with | .struct _ | .array _ _ => true | _ => false) = true) (hi : (P.info? ty).map (·.size) = some n) (hn : cs.size = n)
    (h1 : tmps.getD i undef = u) (h2 : tmps.getD j undef = v) (hR : R (.returned (.tuple #[.agg cs, u, v])) w) : bodyPost P fn R e { tmps, defers := [] } w := by
  have hres := results_cell_row3 (P := P) h tmps w g t cs (0, 0) d hp hr.heap hu hd (by rw [hi, hn])
  rw [h1, h2] at hres
  rcases he with rfl | rfl <;> exact ⟨rfl, _, hres, hR⟩
theorem kindP_eq (n : Nat) : kindP (n : Int) = isKindP n := by
  unfold kindP isKindP
  rw [Bool.eq_iff_iff]
  simp only [Bool.or_eq_true, decide_eq_true_eq, beq_iff_eq]
  omega
theorem zH_one : allOne zH = true := by unfold zH; rw [mD_one]; rfl
theorem zH_over : over zH 0 zH = zH := over_all _ _ rfl
attribute [local go_sem] zH_one zH_over zH_size
theorem MsgN.empty (w : World) (base : Nat) (k : Int) : MsgN w base (mD k zero32 zero32 [.slice none 0 0, .slice none 0 0, .slice none 0 0, .slice none 0 0, .slice none 0 0, .slice none 0 0, .int .i64 0, .int .i64 0, .bool false, .bool false]) (emptyM k) :=
  ⟨_, _, _, _, _, _, [], rfl, rfl, rfl, SlNs.five (SlN.nil _ _) (SlN.nil _ _) (SlN.nil _ _) (SlN.nil _ _) (SlN.nil _ _), World.ownsRow_nil _ _ _ _, trivial, fun v hv => by cases hv⟩
def ReadSt (w : World) (r : MsgP × Nat × Int) (e : Ending) (w' : World) : Prop := ∃ C, e = .returned (.tuple #[.agg C, .int .i64 (r.2.1 : Int), .int .i64 r.2.2]) ∧ MsgN w' w.heap.size C r.1 ∧ Below w.heap.size w w'
set_option maxRecDepth 100000 in
set_option maxHeartbeats 4000000 in
theorem read_nil (vb : Value) (b : List UInt8) (w : World) (h : SlB w vb b) (h0 : b.length = 0) : Calls Try.prog 16 #[vb] w (ReadSt w (emptyM 0, 0, 3)) := by
  obtain ⟨a, cap, rfl, _⟩ := h
  rw [h0]
  go_enter Try.func16, Try.ntmps16
  go_wp2_with fail
  refine ret_row3 (.inl rfl) rfl w.heap.size _ _ 75 _ _ _ rfl ((Row.new w _ _).setRow _) Try.underlying30 rfl (by kernel_rfl) zH_size rfl rfl ⟨zH, rfl, MsgN.empty _ _ 0, bSetRow ((Below.refl _ _).alloc (Nat.le_refl _) _) (Nat.le_refl _) _⟩
theorem read_upto (vb : Value) (b : List UInt8) (w : World) (h : SlB w vb b) (h0 : 0 < b.length) : ∃ g o cap, vb = .slice (some ⟨g, o, none⟩) b.length cap ∧ b.length ≤ cap ∧ cap ≤ maxLen ∧ ∀ w', Below w.heap.size w w' → SlB w' vb b ∧ ∀ i, i < b.length → w'.cell? ⟨g, o + i, none⟩ = some (B (gb b i)) := by
  have h' := h
  obtain ⟨a, cap, rfl, h1, h2, h3, h4⟩ := h
  cases a with
  | none => have := h3 rfl; omega
  | some ad =>
    obtain ⟨hs, hc⟩ := h4 ad rfl
    obtain ⟨g, o, s⟩ := ad
    obtain rfl : s = none := hs
    refine ⟨g, o, cap, rfl, h1, h2, fun w' hB => ⟨h'.below hB, fun i hi => ?_⟩⟩
    have := hc i hi
    exact (hB.cell (World.block_lt_of_cell? w _ this)).trans this
set_option maxRecDepth 100000 in
set_option maxHeartbeats 4000000 in
theorem read_form (vb : Value) (b : List UInt8) (w : World) (h : SlB w vb b) (h0 : 0 < b.length) (hk : isKindP (gb b 0).toNat = false) : Calls Try.prog 16 #[vb] w (ReadSt w (emptyM 0, 0, 2)) := by
  obtain ⟨g, o, cap, rfl, k1, k2, k3⟩ := read_upto vb b w h h0
  have hkk := isKind_any ((gb b 0).toNat : Int)
  rw [kindP_eq, hk] at hkk
  have x1 : (0 : Int) < (b.length : Int) := by omega
  have K3 := Lib.hid k3
  have HKK := Lib.hid hkk
  clear h k3 hkk
  go_enter Try.func16, Try.ntmps16
  go_upto_region 1 with (fail)
  refine gen_wp (fun w0 => Row w0 w.heap.size 30 zH ∧ Below w.heap.size w w0) ⟨Row.new w _ _, (Below.refl _ _).alloc (Nat.le_refl _) _⟩ ?_
  rintro w0 ⟨hr, hB⟩
  have hc := (K3.out w0 hB).2 0 h0
  rw [Nat.add_zero] at hc
  obtain ⟨x, hx⟩ : ∃ x, x = gb b 0 := ⟨_, rfl⟩
  rw [← hx] at hc HKK
  have y2 : ((x.toNat : Nat) : Int) < 256 := by have := x.toNat_lt; omega
  have y3 : (0 : Int) ≤ ((x.toNat : Nat) : Int) := by omega
  clear hx hk K3
  go_wp2_with fail
  refine (HKK.out w0).mono ?_
  rintro e w1 ⟨rfl, rfl⟩
  go_wp2_with fail
  exact ret_row3 (.inl rfl) rfl w.heap.size _ _ 75 _ _ _ rfl (hr.setRow _) Try.underlying30 rfl (by kernel_rfl) zH_size rfl rfl ⟨zH, rfl, MsgN.empty _ _ 0, bSetRow hB (Nat.le_refl _) _⟩
set_option maxRecDepth 100000 in
set_option maxHeartbeats 4000000 in
theorem read_tail (vb : Value) (b : List UInt8) (w : World) (h : SlB w vb b) (h0 : 0 < b.length) (hk : isKindP (gb b 0).toNat = true) (h4 : b.length < 4) : Calls Try.prog 16 #[vb] w (ReadSt w (emptyM 0, 0, 3)) := by
  obtain ⟨g, o, cap, rfl, k1, k2, k3⟩ := read_upto vb b w h h0
  have hkk := isKind_any ((gb b 0).toNat : Int)
  rw [kindP_eq, hk] at hkk
  have x1 : (0 : Int) < (b.length : Int) := by omega
  have x2 : (b.length : Int) < 4 := by omega
  have K3 := Lib.hid k3
  have HKK := Lib.hid hkk
  clear h k3 hkk
  go_enter Try.func16, Try.ntmps16
  go_upto_region 1 with (fail)
  refine gen_wp (fun w0 => Row w0 w.heap.size 30 zH ∧ Below w.heap.size w w0) ⟨Row.new w _ _, (Below.refl _ _).alloc (Nat.le_refl _) _⟩ ?_
  rintro w0 ⟨hr, hB⟩
  have hc := (K3.out w0 hB).2 0 h0
  rw [Nat.add_zero] at hc
  obtain ⟨x, hx⟩ : ∃ x, x = gb b 0 := ⟨_, rfl⟩
  rw [← hx] at hc HKK
  have y2 : ((x.toNat : Nat) : Int) < 256 := by have := x.toNat_lt; omega
  have y3 : (0 : Int) ≤ ((x.toNat : Nat) : Int) := by omega
  clear hx hk K3
  go_wp2_with fail
  refine (HKK.out w0).mono ?_
  rintro e w1 ⟨rfl, rfl⟩
  go_wp2_with fail
  exact ret_row3 (.inl rfl) rfl w.heap.size _ _ 75 _ _ _ rfl (hr.setRow _) Try.underlying30 rfl (by kernel_rfl) zH_size rfl rfl ⟨zH, rfl, MsgN.empty _ _ 0, bSetRow hB (Nat.le_refl _) _⟩
end Go.Proofs.Ytnenoecmmelehaa
