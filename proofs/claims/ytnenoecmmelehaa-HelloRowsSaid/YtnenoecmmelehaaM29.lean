/- Part of the proof: HParseE, HParseF. No conditions of its own. -/
import Derived.Below
import Derived.BigQuiet
import Derived.ChangeOld
import Derived.Deep.AppendLies
import Derived.Deep.CutBlock
import Derived.Deep.DeepCutAuto
import Derived.Deep.Draws
import Derived.Deep.LoopGhost
import Derived.Deep.Quiet
import Derived.Deep.QuietTactic
import Derived.Deep.RegionLaw
import Derived.Great.BuildSlice
import Derived.Great.FillDense
import Derived.Laws.AppendOwn
import Derived.Laws.AppendOwnNone
import Derived.Laws.BytesArg
import Derived.Laws.Concat
import Derived.Laws.MakeOwn
import Derived.Lib.AppendZerosOnto
import Derived.Lib.BufferWrite
import Derived.Lib.ConvBytes
import Derived.Lib.Hide
import Derived.Lib.SlBytesConst
import Derived.OpenShut
import Derived.ProofKit
import Derived.ShutString
import Derived.StillTail
import Derived.Stop.BytesEq
import Derived.Test.YtnenoecmmelehaaProg
import Derived.WalkKit
import Derived.WalkLawsBesides
import Derived.WalkSpells
import Derived.Test.YtnenoecmmelehaaM25
import Derived.Test.YtnenoecmmelehaaM04
import Derived.Test.YtnenoecmmelehaaM26
import Derived.Test.YtnenoecmmelehaaM27
import Derived.Test.YtnenoecmmelehaaM28
namespace Go.Proofs.Ytnenoecmmelehaa
open Go.RowKit
set_option linter.unusedVariables false
set_option linter.unusedSimpArgs false

def OwnN (w : World) (base : Nat) (v : Value) (ls : List (List UInt8)) : Prop := ∃ vs, w.ownsRow base 27 1 v ls.length vs ∧ RowT w vs ls ∧ ∀ u, u ∈ vs → ∀ ad, addrV u = some ad → base ≤ ad.block
theorem OwnN.own {w : World} {base : Nat} {v : Value} {ls : List (List UInt8)} (h : OwnN w base v ls) : OwnP w base v ls := let ⟨vs, h1, h2, _⟩ := h; ⟨vs, h1, h2⟩
theorem OwnN.nil (w : World) (base : Nat) : OwnN w base (.slice none 0 0) [] := ⟨[], World.ownsRow_nil _ _ _ _, trivial, fun u hu => by cases hu⟩
theorem OwnN.soft {w w' : World} {base : Nat} {v : Value} {ls : List (List UInt8)} (h : OwnN w base v ls) (hb : Below w.heap.size w w') : OwnN w' base v ls := by
  obtain ⟨vs, h1, h2, h3⟩ := h
  exact ⟨vs, ⟨h1.1, h1.2.imp id fun ⟨g, cap, cur, hv, hg, hh, h3⟩ => ⟨g, cap, cur, hv, hg, (hb.block g (Array.getElem?_eq_some_iff.1 hh).1).trans hh, h3⟩⟩, h2.soft (Soft.of_below hb), h3⟩
theorem OwnN.keptT {w w' : World} {base : Nat} {v : Value} {ls : List (List UInt8)} (h : OwnN w base v ls) {g : Nat} {t : TypeId} {cs : Array Value} (hg : w.grownBy w' (some g)) (hr : Row w g t cs) (ht : t ≠ 5) (ht2 : t ≠ 27) : OwnN w' base v ls := by
  obtain ⟨vs, h1, h2, h3⟩ := h
  exact ⟨vs, World.ownsRow.kept h1 hg (.inr (ownsRow_ne h1 hr ht2)), h2.keptT hg hr ht, h3⟩
theorem CurAt.below {w w' : World} {g n0 : Nat} {l : List UInt8} {bad : Bool} (h : CurAt w g n0 l bad) (hB : Below w.heap.size w w') : CurAt w' g n0 l bad := let ⟨v, hr, hs, hn⟩ := h; ⟨v, Row.below hr hB hr.lt, hs.below hB, hn⟩
section
variable {w w1 w2 : World} {g5 g6 : Nat} {C : Array Value} {l : List UInt8} {bad : Bool} {ps : List (Value × List UInt8)}
theorem PSt.below (h : PSt w g5 g6 w1 C l bad ps) (hB : Below w1.heap.size w1 w2) : PSt w g5 g6 w2 C l bad ps :=
  ⟨Row.below h.ans hB h.ans.lt, h.cur.below hB, Row.below h.msg hB h.msg.lt, fun p hp => ⟨(h.sls p hp).1.soft (Soft.of_below hB), (h.sls p hp).2⟩, h.bel.trans (hB.mono h.bel.size), h.len, h.lt5, h.lt6⟩
theorem PSt.own (h : PSt w g5 g6 w1 C l bad ps) {v : Value} {ls : List (List UInt8)} (ho : OwnN w1 (g6 + 1) v ls) (hg : w1.grownBy w2 v.ownBlock) : PSt w g5 g6 w2 C l bad ps := by
  obtain ⟨vc, hr1, hs, hn⟩ := h.cur
  have h5 := h.lt5
  have h6 := h.lt6
  have hlt : ∀ k, v.ownBlock = some k → g6 + 1 ≤ k := fun k hk => by obtain ⟨vs, h1, _⟩ := ho; exact (h1.lt k hk).1
  have hty := ho.own.typ
  refine ⟨(row_congr (hg.block _ h.ans.lt (fun e => by have := hlt _ e.symm; omega))).trans h.ans, ⟨vc, (row_congr (hg.block _ hr1.lt (fun e => by have := hlt _ e.symm; omega))).trans hr1, ?_, hn⟩, (row_congr (hg.block _ h.msg.lt (fun e => by have := hlt _ e.symm; omega))).trans h.msg, fun p hp => ⟨(h.sls p hp).1.kept hg hty, (h.sls p hp).2⟩, h.bel.grown hg h.bel.size (fun k e => by have := hlt _ e; omega), h.len, h5, h6⟩
  obtain ⟨a, cap, rfl, k1, k2, k3, k4⟩ := hs
  refine ⟨a, cap, rfl, k1, k2, k3, fun ad had => ⟨(k4 ad had).1, fun i hi => ?_⟩⟩
  subst had
  exact hg.cell ((k4 ad rfl).2 i hi) (fun e => by have := hlt _ e.symm; have := hn ad rfl (by omega); have e2 : (⟨ad.block, ad.off + i, none⟩ : Addr).block = ad.block := rfl; omega)
end
def certC (vc : Value) : Array Value := mD 11 zero32 zero32 [.slice none 0 0, .slice none 0 0, .slice none 0 0, .slice none 0 0, .slice none 0 0, vc, .int .i64 0, .int .i64 0, .bool false, .bool false]
theorem certC_70 (vc : Value) : (certC vc)[70]? = some vc := by unfold certC; exact mD_70
theorem certC_g70 (vc : Value) (h : 70 < (certC vc).size) : (certC vc)[70] = vc := by
  have := certC_70 vc
  rw [Array.getElem?_eq_getElem h] at this
  exact Option.some.inj this
theorem certC_sz (vc : Value) : (certC vc).size = 75 := by unfold certC; exact mD_sz
theorem certC_s70 (vc u : Value) : (certC vc).setIfInBounds 70 u = certC u := by unfold certC; exact mD_s70
theorem certsL_go {n : Nat} {l : List UInt8} {bad : Bool} (h : 0 < l.length) (hb : bad = false) : certsL (n + 1) l bad = cvV 3 2048 l :: certsL n (takeR 2 (cvR 3 2048 l)) ((bad || cvB 3 2048 l) || shortB 2 (cvR 3 2048 l)) := by
  subst hb
  rw [certsL, if_pos (by simp [h])]
theorem certsL_no {n : Nat} {l : List UInt8} {bad : Bool} (h : ¬ (0 < l.length ∧ bad = false)) : certsL n l bad = [] := by
  cases n with
  | zero => rfl
  | succ n =>
    rw [certsL, if_neg]
    simpa using h
structure CVec (w : World) (g5 g6 : Nat) (w1 : World) (vc v : Value) (l : List UInt8) (ds : List (List UInt8)) : Prop where
  cell : w1.cell? ⟨g6, 70, none⟩ = some vc
  st : PSt w g5 g6 w1 (certC vc) (cvR 3 2048 l) (false || cvB 3 2048 l) []
  own : OwnN w1 (g6 + 1) vc ds
  slt : SlT w1 v (cvV 3 2048 l)
  adr : ∀ ad, addrV v = some ad → g6 + 1 ≤ ad.block
  siz : g6 + 1 ≤ w1.heap.size
theorem cert_vec {w w0 w1 : World} {g5 g6 : Nat} {vc : Value} {l : List UInt8} {ds : List (List UInt8)} (hP : PSt w g5 g6 w0 (certC vc) l false []) (hO : OwnN w0 (g6 + 1) vc ds) (v : Value) (hb : Buf 5 w1 w0.heap.size v (cvV 3 2048 l)) (hc : CurAt w1 g5 w.heap.size (cvR 3 2048 l) (false || cvB 3 2048 l)) (hg : w0.grownBy w1 (some g5)) : CVec w g5 g6 w1 vc v l ds := by
  have hP1 := hP.call hg hc (cvR_len _ _ _)
  obtain ⟨u, hr, _⟩ := hP.cur
  refine ⟨?_, hP1, hO.keptT hg hr (by decide) (by decide), hb.slt, fun ad had => ?_, Nat.le_trans hP.msg.lt hg.size⟩
  · rw [hP1.msg.cell]; exact certC_70 _
  · exact Nat.le_trans hP.msg.lt (hb.addr ad had)
theorem OwnN.form {w : World} {base : Nat} {v : Value} {ds : List (List UInt8)} {q : List UInt8} (h : OwnN w base v (ds ++ [q])) : ∃ g c, v = .slice (some ⟨g, 0, none⟩) (ds.length + 1) c := by
  obtain ⟨vs, h1, _⟩ := h
  rw [List.length_append] at h1
  obtain ⟨g, c, rfl, _⟩ := h1.form (by simp)
  exact ⟨g, c, rfl⟩
theorem wp_callO {o : Oper} {a : Act} {w : World} {K : Act → World → Prop} {Q : Exit → Act → World → Prop} (f : FuncId) (args : Array Value) (hrun : (execOp a.eval o).run Try.prog w = .ok (.enter f args) w) (hc : Calls Try.prog f args w fun e w' => ∃ v, e = .returned v ∧ K (a.put o.dst v) w') : o.wp Try.prog a w K Q := by
  unfold Oper.wp
  rw [hrun, Oper.upon_enter]
  refine hc.mono ?_
  rintro e w' ⟨v, rfl, h⟩
  exact h
theorem cert_app {w w1 : World} {g5 g6 : Nat} {vc v : Value} {l : List UInt8} {ds : List (List UInt8)} (h : CVec w g5 g6 w1 vc v l ds) (hlen : ds.length ≤ 1000) {o : Oper} {a : Act} {K : Act → World → Prop} {Q : Exit → Act → World → Prop} (s x : Operand)
    (ho : o.op = .call { callee := .builtin .append, args := #[s, x], argTypes := #[28, 28] }) (hs : a.eval s = vc) (hx : a.eval x = .slice (some ⟨w1.heap.size, 0, none⟩) 1 1)
    (hK : ∀ g' c' w2, (PSt w g5 g6 w2 (certC vc) (cvR 3 2048 l) (false || cvB 3 2048 l) [] ∧ OwnN w2 (g6 + 1) (.slice (some ⟨g', 0, none⟩) (ds.length + 1) c') (ds ++ [cvV 3 2048 l])) → K (a.put o.dst (.slice (some ⟨g', 0, none⟩) (ds.length + 1) c')) w2) : o.wp Try.prog a (w1.alloc (.cells #[v] 27)) K Q := by
  obtain ⟨i, hi, hz, hs1, hb1⟩ := info_any info_sl27
  have hal : Below w1.heap.size w1 (w1.alloc (.cells #[v] 27)) := (Below.refl _ _).alloc (Nat.le_refl _) _
  have hO := h.own.soft hal
  have hP := h.st.below hal
  have hu := h.slt.soft (Soft.of_below hal)
  obtain ⟨vs, hr, ht, hvb⟩ := hO
  refine wp_append_lies (P := Try.prog) (w1.alloc (.cells #[v] 27)) s x 28 ho (g6 + 1) 27 i _ 1 24 Try.underlying28 hi hz hs1 hb1 rfl (by decide) vc ds.length vs hs hr ⟨w1.heap.size, 0, none⟩ 1 1 [v] hx rfl (fun j y hj => by
      match j, hj with
      | 0, hj =>
        obtain rfl : v = y := by simpa using hj
        rw [Addr.add_lit, (Row.new _ _ _).cell]; rfl
      | j + 1, hj => simp at hj) (fun y hy => by obtain rfl := List.mem_singleton.1 hy; exact (one_slice hu.1.shape).1) (by decide) (by unfold maxLen; omega) (by omega) (by have := h.siz; simp; omega) _ rfl fun g cap w2 h1 h2 _ _ => ?_
  refine hK g cap w2 ⟨hP.own ⟨vs, hr, ht, hvb⟩ h2, ?_⟩
  have hty : ∀ g, vc.ownBlock = some g → ∃ cs f, (w1.alloc (.cells #[v] 27)).heap[g]? = some (.cells cs 27 f) := fun g hg => by
    rcases hr.2 with ⟨rfl, _⟩ | ⟨g', cap, cur, rfl, _, hh, _⟩
    · cases hg
    · obtain rfl := Option.some.inj hg
      exact ⟨cur, (0, 0), hh⟩
  refine ⟨vs ++ [v], by rw [List.length_append]; exact h1, RowT.append (us := [v]) (ms := [cvV 3 2048 l]) ⟨hu.kept h2 hty, trivial⟩ (ht.kept h2 hty), fun y hy => ?_⟩
  rcases List.mem_append.1 hy with hy | hy
  · exact hvb y hy
  · obtain rfl := List.mem_singleton.1 hy
    exact h.adr
def CSt (b : List UInt8) (w : World) (g5 g6 : Nat) (g : Nat) (w1 : World) (vc : Value) (l : List UInt8) (bad : Bool) (ds : List (List UInt8)) : Prop :=
  PSt w g5 g6 w1 (certC vc) l bad [] ∧ OwnN w1 (g6 + 1) vc ds ∧ ds.length + g = 6 ∧ certsL 6 (takeR 4 b) (shortB 4 b) = ds ++ certsL g l bad ∧ vc = vc
attribute [local go_sem ↓] certC_70
theorem certC_one (a : Option Addr) (n c : Nat) : allOne (certC (.slice a n c)) = true := by unfold certC; rw [mD_one]; rfl
theorem certC_over (vc : Value) : over zH 0 (certC vc) = certC vc := over_all _ _ (zH_size.trans (certC_sz _).symm)
attribute [local go_sem] certC_g70 certC_sz certC_s70 certC_one certC_over
theorem gen_wpE {K : Exit → Act → World → Prop} {e : Exit} {a : Act} {w : World} (R : World → Prop) (h : R w) (k : ∀ w, R w → K e a w) : K e a w := k w h
theorem cert_take {w w0 w1 : World} {g5 g6 : Nat} {vc : Value} {l : List UInt8} {bad : Bool} {ds : List (List UInt8)} (hP : PSt w g5 g6 w0 (certC vc) l bad []) (hO : OwnN w0 (g6 + 1) vc ds) (hg : w0.grownBy w1 (some g5)) (hc : CurAt w1 g5 w.heap.size (takeR 2 l) (bad || shortB 2 l)) : PSt w g5 g6 w1 (certC vc) (takeR 2 l) (bad || shortB 2 l) [] ∧ OwnN w1 (g6 + 1) vc ds := by
  obtain ⟨u, hr, _⟩ := hP.cur
  exact ⟨hP.call hg hc (takeR_len _ _), hO.keptT hg hr (by decide) (by decide)⟩
theorem cert_none {x : List (List UInt8)} {ds : List (List UInt8)} {g : Nat} {l : List UInt8} {bad : Bool} (h : x = ds ++ certsL g l bad) (hg : g = 0) : x = ds := by
  subst hg
  rw [h]; exact List.append_nil _
theorem cert_end {b : List UInt8} {w w1 : World} {g5 g6 : Nat} {vc : Value} {l : List UInt8} {bad : Bool} {ds : List (List UInt8)} (hP : PSt w g5 g6 w1 (certC vc) l bad []) (hO : OwnN w1 (g6 + 1) vc ds) (he : certsL 6 (takeR 4 b) (shortB 4 b) = ds) :
    Row (w1.setRow w.heap.size (certC vc)) w.heap.size 30 (certC vc) ∧ MsgN (w1.setRow w.heap.size (certC vc)) w.heap.size (certC vc) (parse11 b) ∧ Below w.heap.size w (w1.setRow w.heap.size (certC vc)) := by
  have h5 := hP.lt5
  have h6 := hP.lt6
  have hF := hP.fin
  obtain ⟨vs, h1, h2, h3⟩ := hO.keptT (grownBy_setR w1 w.heap.size (certC vc)) hP.ans (by decide) (by decide)
  refine ⟨hF.2.1, ?_, hF.2.2⟩
  unfold parse11
  rw [he]
  exact ⟨_, _, _, _, _, vc, vs, rfl, rfl, rfl, SlNs.five (SlN.nil _ _) (SlN.nil _ _) (SlN.nil _ _) (SlN.nil _ _) (SlN.nil _ _), ⟨h1.1, h1.2.imp id fun ⟨g, cap, cur, hv, hg, h3⟩ => ⟨g, cap, cur, hv, by omega, h3⟩⟩, h2, fun v hv ad had => by have := h3 v hv ad had; omega⟩
set_option maxRecDepth 100000 in
set_option maxHeartbeats 4000000 in
theorem parse_w11 (vb : Value) (b : List UInt8) (w : World) (h : SlB w vb b) (hl : b.length ≤ 1000000) :
    Calls Try.prog 28 #[.int .i64 11, vb] w fun e w' => ∃ C, e = .returned (.agg C) ∧ MsgN w' w.heap.size C (parse11 b) ∧ Below w.heap.size w w' := by
  have HS := Lib.hid h
  obtain ⟨a, cap, rfl, _⟩ := h
  go_enter Try.func28, Try.ntmps28
  go_upto_region 3 with (refine wpl_val rfl (.agg (mD 11 zero32 zero32 [.slice none 0 0, .slice none 0 0, .slice none 0 0, .slice none 0 0, .slice none 0 0, .slice none 0 0, .int .i64 0, .int .i64 0, .bool false, .bool false])) (exec_built _ _ _ _ _ _ rfl (by kernel_rfl) (built_kind 11) _) ?_)
  obtain ⟨g5, hg5⟩ : ∃ g, g = w.heap.size + 1 := ⟨_, rfl⟩
  obtain ⟨g6, hg6⟩ : ∃ g, g = w.heap.size + 1 + 1 := ⟨_, rfl⟩
  rw [← hg6, ← hg5]
  refine gen_wp (fun w0 => PSt w g5 g6 w0 (certC (.slice none 0 0)) b false []) (PSt.start HS.out hl hg5 hg6 (zH_size.trans (certC_sz _).symm)) ?_
  clear hg5 hg6 HS
  rintro w0 hP
  have hm := hP.msg
  have ha := hP.ans
  have n6 : w.heap.size ≠ g6 := by have := hP.lt5; have := hP.lt6; omega
  have n5 : w.heap.size ≠ g5 := by have := hP.lt5; omega
  have n56 : g5 ≠ g6 := by have := hP.lt6; omega
  go_wp2_with fail
  refine gen_wpC (fun w0 => PSt w g5 g6 w0 (certC (.slice none 0 0)) b (false) []) (hP) ?_
  clear hP hm ha
  rintro w0 hP
  refine (take_any _ _ 4 _ _ _ hP.cur (by decide) hP.len).mono ?_
  rintro e w1 ⟨v, rfl, -, hc, hg⟩
  have hP := hP.call hg hc (takeR_len _ _)
  rw [Bool.false_or] at hP
  have HP0 : CSt b w g5 g6 6 w1 (.slice none 0 0) (takeR 4 b) (shortB 4 b) [] := ⟨hP, OwnN.nil _ _, rfl, rfl, rfl⟩
  clear hc hg hP
  go_wp2_with fail
  go_loopg [] 6 (fun g wr => ∃ vc l bad ds, CSt b w g5 g6 g wr vc l bad ds)
  case atStart => exact ⟨_, _, _, _, HP0⟩
  case round =>
    clear HP0
    obtain ⟨vc, l, bad, ds, hP, hO, hds, hce, -⟩ := hrel
    obtain ⟨vcu, hrc, hsc, -⟩ := id hP.cur
    obtain ⟨acu, ccu, rfl, -⟩ := hsc
    obtain ⟨avc, cvc, rfl⟩ : ∃ a c, vc = .slice a ds.length c := by
      obtain ⟨vs, h1, _⟩ := id hO
      rcases h1.2 with ⟨rfl, h0⟩ | ⟨g, cap, cur, rfl, _⟩
      · exact ⟨none, 0, by rw [h0]⟩
      · exact ⟨_, _, rfl⟩
    have hm := hP.msg
    have ha := hP.ans
    by_cases h1 : 0 < l.length
    · have x1 : (0 : Int) < (l.length : Int) := by omega
      cases bad with
      | true =>
        have hF := Lib.hid (⟨hP, hO, hce⟩ : _ ∧ _ ∧ _)
        clear hP hO hce
        go_wp2_with fail
        obtain ⟨hE1, hE2, hE3⟩ := cert_end hF.out.1 hF.out.2.1 (b := b) (by rw [hF.out.2.2, certsL_no (by simp), List.append_nil])
        exact ret_row (.inl rfl) rfl w.heap.size _ _ 75 _ rfl hE1 Try.underlying30 rfl (by kernel_rfl) (certC_sz _) ⟨_, rfl, hE2, hE3⟩
      | false =>
        by_cases h2 : ds.length ≤ 5
        · have x2 : (ds.length : Int) ≤ 5 := by omega
          have hPd := Lib.hid (hP.below (Below.refl _ wr).drew)
          have hOd := Lib.hid (hO.soft (Below.refl _ wr).drew)
          have HCE := Lib.hid hce
          have hcell : wr.cell? ⟨g6, 70, none⟩ = some (.slice avc ds.length cvc) := by rw [hm.cell]; exact certC_70 _
          have hb0 := hPd.out.bel.size
          have hg6lt := hPd.out.msg.lt
          have HVEC := Lib.hid (fun (w1 : World) (v : Value) (hb : Buf 5 w1 wr.drew.heap.size v (cvV 3 2048 l)) (hc : CurAt w1 g5 w.heap.size (cvR 3 2048 l) (false || cvB 3 2048 l)) (hg : wr.drew.grownBy w1 (some g5)) => cert_vec hPd.out hOd.out v hb hc hg)
          clear hP hO hce
          go_upto_region 34 with (fail)
          go_region_law (first
            | (refine wp_callO 47 #[.pointer (some ⟨g5, 0, none⟩), .int .i64 3, .int .i64 2048] (by simp [go_sem]; done) ?_; refine (cvec_any g5 w.heap.size 3 2048 l false _ hPd.out.cur (by decide) (by decide) hPd.out.len).mono ?_; rintro e w1 ⟨v, rfl, hb, hc, hg⟩; have HV := Lib.hid (HVEC.out w1 v hb hc hg); have hm1 := HV.out.st.msg; obtain ⟨a3, c3, rfl, _⟩ := hb.slb; clear hb hc hg; have hcell1 := HV.out.cell; have hcell3 : ∀ o, (w1.alloc o).cell? ⟨g6, 70, none⟩ = some (.slice avc ds.length cvc) := (fun o => by rw [(hm1.alloc o).cell]; exact certC_70 _); refine ⟨_, rfl, ?_⟩)
            | (refine cert_app HV.out (by omega) (.tmp 121) (.tmp 124) (by rfl) (by rfl) (by rfl) ?_; intro g' c' w2 hend; have hm2 := hend.1.msg; have hend := Lib.hid hend))
          all_goals
            refine gen_wpE (fun w0 => PSt w g5 g6 w0 (certC (.slice (some ⟨g', 0, none⟩) (ds.length + 1) c')) (cvR 3 2048 l) (false || cvB 3 2048 l) [] ∧ OwnN w0 (g6 + 1) (.slice (some ⟨g', 0, none⟩) (ds.length + 1) c') (ds ++ [cvV 3 2048 l])) ⟨hend.out.1.set 70 _ (certC_s70 _ _), hend.out.2.keptT (grownBy_set _ _ _ _) hm2 (by decide) (by decide)⟩ ?_
            clear hend hm2 hcell1 hcell3 HV hm1 HVEC hcell hPd hOd hm ha hrc
            rintro w4 ⟨hP4, hO4⟩
            have HO4 := Lib.hid hO4
            clear hO4
            go_wp2_with fail
            refine (take_any _ _ 2 _ _ _ hP4.cur (by decide) hP4.len).mono ?_
            rintro e w5 ⟨v5, rfl, -, hc, hg⟩
            have HE := Lib.hid (cert_take hP4 HO4.out hg hc)
            clear hc hg HO4 hP4
            go_wp2_with fail
            go_roundg (gk - 1)
            case measure => omega
            case rel => exact ⟨_, _, _, ds ++ [cvV 3 2048 l], HE.out.1, HE.out.2, by simp; omega, by
              obtain ⟨n, rfl⟩ : ∃ n, gk = n + 1 := ⟨gk - 1, by omega⟩
              rw [HCE.out, certsL_go h1 rfl]
              simp, rfl⟩
        · have x2 : ¬ (ds.length : Int) ≤ 5 := by omega
          have hF := Lib.hid (⟨hP, hO, hce⟩ : _ ∧ _ ∧ _)
          clear hP hO hce
          go_wp2_with fail
          obtain ⟨hE1, hE2, hE3⟩ := cert_end hF.out.1 hF.out.2.1 (b := b) (cert_none hF.out.2.2 (by omega))
          exact ret_row (.inl rfl) rfl w.heap.size _ _ 75 _ rfl hE1 Try.underlying30 rfl (by kernel_rfl) (certC_sz _) ⟨_, rfl, hE2, hE3⟩
    · have x1 : ¬ (0 : Int) < (l.length : Int) := by omega
      have hF := Lib.hid (⟨hP, hO, hce⟩ : _ ∧ _ ∧ _)
      clear hP hO hce
      go_wp2_with fail
      obtain ⟨hE1, hE2, hE3⟩ := cert_end hF.out.1 hF.out.2.1 (b := b) (by rw [hF.out.2.2, certsL_no (fun h => h1 h.1), List.append_nil])
      exact ret_row (.inl rfl) rfl w.heap.size _ _ 75 _ rfl hE1 Try.underlying30 rfl (by kernel_rfl) (certC_sz _) ⟨_, rfl, hE2, hE3⟩
end Go.Proofs.Ytnenoecmmelehaa

namespace Go.Proofs.Ytnenoecmmelehaa
open Go.RowKit
set_option linter.unusedVariables false

theorem parseP_e {k : Int} (b : List UInt8) (h1 : k ≠ 1) (h2 : k ≠ 2) (h4 : k ≠ 4) (h11 : k ≠ 11) (h15 : k ≠ 15) (h20 : k ≠ 20) : parseP k b = emptyM k := by
  unfold parseP; rw [if_neg h1, if_neg h2, if_neg h4, if_neg h11, if_neg h15, if_neg h20]
theorem parse_any (k : Int) (vb : Value) (b : List UInt8) (w : World) (h : SlB w vb b) (hl : b.length ≤ 1000000) :
    Calls Try.prog 28 #[.int .i64 k, vb] w fun e w' => ∃ C, e = .returned (.agg C) ∧ MsgN w' w.heap.size C (parseP k b) ∧ Below w.heap.size w w' := by
  by_cases h1 : k = 1
  · subst h1
    rw [parseP_1]
    by_cases hs : 4 < (cvV 2 69 (p_l3 35 b)).length <;> by_cases hq : 0 < (p_l4 b).length
    · have := parse_w1sp vb b w h hl hs hq
      rwa [show parse1 b = _ by unfold parse1 p_share; rw [if_pos hq, if_pos hs]]
    · have := parse_w1sn vb b w h hl hs hq
      rwa [show parse1 b = _ by unfold parse1 p_share; rw [if_neg hq, if_pos hs]]
    · have := parse_w1np vb b w h hl hs hq
      rwa [show parse1 b = _ by unfold parse1 p_share; rw [if_pos hq, if_neg hs]]
    · have := parse_w1nn vb b w h hl hs hq
      rwa [show parse1 b = _ by unfold parse1 p_share; rw [if_neg hq, if_neg hs]]
  by_cases h2 : k = 2
  · subst h2
    rw [parseP_2]
    by_cases ha : takeV 32 (takeR 2 b) = hAgain
    · have := parse_w2a vb b w h hl ha
      rwa [show parse2 b = _ by unfold parse2; rw [if_pos ha]]
    · by_cases hq : 0 < (cvR 2 65 (p_l3 17 b)).length
      · have := parse_w2p vb b w h hl ha hq
        rwa [show parse2 b = _ by unfold parse2; rw [if_neg ha, decide_eq_true hq]]
      · have := parse_w2n vb b w h hl ha hq
        rwa [show parse2 b = _ by unfold parse2; rw [if_neg ha, decide_eq_false hq]]
  by_cases h4 : k = 4
  · subst h4; rw [parseP_4]; exact parse_w4 vb b w h hl
  by_cases h11 : k = 11
  · subst h11; rw [parseP_11]; exact parse_w11 vb b w h hl
  by_cases h15 : k = 15
  · subst h15; rw [parseP_15]; exact parse_w15 vb b w h hl
  by_cases h20 : k = 20
  · subst h20; rw [parseP_20]; exact parse_w20 vb b w h hl
  rw [parseP_e b h1 h2 h4 h11 h15 h20]
  exact parse_e k vb b w h hl h1 h2 h4 h11 h15 h20
end Go.Proofs.Ytnenoecmmelehaa
