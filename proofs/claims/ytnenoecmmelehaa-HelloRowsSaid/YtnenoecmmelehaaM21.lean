/- Part of the proof: HWriteC, HTame, HSpecial, HRef. No conditions of its own. -/
import Derived.Below
import Derived.BigQuiet
import Derived.Deep.CutBlock
import Derived.Deep.DeepCutAuto
import Derived.Deep.Draws
import Derived.Deep.LoopGhost
import Derived.Deep.Quiet
import Derived.Deep.QuietTactic
import Derived.Deep.RegionLaw
import Derived.Great.BuildSlice
import Derived.Great.FillDense
import Derived.Laws.AppendOwn
import Derived.Laws.AppendOwnNone
import Derived.Laws.BytesArg
import Derived.Laws.Concat
import Derived.Laws.MakeOwn
import Derived.Lib.AppendZerosOnto
import Derived.Lib.Hide
import Derived.Lib.SlBytesConst
import Derived.StillTail
import Derived.Stop.BytesEq
import Derived.Test.YtnenoecmmelehaaProg
import Derived.WalkKit
import Derived.WalkLawsBesides
import Derived.WalkSpells
import Derived.Test.YtnenoecmmelehaaM19
import Derived.Test.YtnenoecmmelehaaM20
import Derived.Test.YtnenoecmmelehaaM06
import Derived.Test.YtnenoecmmelehaaM09
import Derived.Test.YtnenoecmmelehaaM11
import Derived.Lib.BufferWrite
import Derived.Test.YtnenoecmmelehaaM07
import Derived.Test.YtnenoecmmelehaaM10
namespace Go.Proofs.Ytnenoecmmelehaa
open Go.RowKit
set_option linter.unusedVariables false
set_option linter.unusedSimpArgs false

theorem offersP_len (m : MsgP) (h1 : m.share.length ≤ 100000) (h2 : m.ticket.length ≤ 100000) (h3 : m.mark.length = 32) : (offersP m).length ≤ 300000 := by
  unfold offersP
  have e1 : hAble.length = 23 := rfl
  have e2 : hShare.length = 2 := rfl
  have e3 : hGroup.length = 2 := rfl
  have e4 : hModes.length = 6 := rfl
  have e5 : hPsk.length = 2 := rfl
  have e6 : hBinder.length = 3 := rfl
  split <;> split <;> simp only [List.length_append, vecB_len, numB_len, List.length_nil, e1, e2, e3, e4, e5, e6, h3] <;> omega
theorem answersP_len (m : MsgP) (h1 : m.share.length ≤ 100000) : (answersP m).length ≤ 200000 := by
  unfold answersP
  have e1 : hChosen.length = 6 := rfl
  have e2 : hShare.length = 2 := rfl
  have e3 : hGroup.length = 2 := rfl
  have e4 : hFirst.length = 4 := rfl
  have e5 : hPsk.length = 2 := rfl
  split <;> split <;> simp only [List.length_append, vecB_len, List.length_nil, e1, e2, e3, e4, e5] <;> omega
theorem bodyP_len (m : MsgP) (hs : SmallM m) (hr : m.random.length = 32) (hm : m.mark.length = 32) (hc : m.kind = 11 → ∀ c, c ∈ m.certs → c.length ≤ 50000) : (bodyP m).length ≤ 1000000 := by
  have a1 := offersP_len m hs.share hs.ticket hm
  have a2 := answersP_len m hs.share
  have a3 := hs.session
  have a4 := hs.nonce
  have a5 := hs.ticket
  have a6 := hs.sig
  have a7 := hs.certs
  have e1 : hVersion.length = 2 := rfl
  have e2 : hSuites.length = 6 := rfl
  have e3 : hSuite.length = 3 := rfl
  have e4 : hNone2.length = 2 := rfl
  have e5 : hNone1.length = 1 := rfl
  have e6 : hAsked.length = 11 := rfl
  have e7 : hSigned.length = 2 := rfl
  have e8 : hAgain.length = 32 := rfl
  unfold bodyP
  split
  · simp only [List.length_append, vecB_len, e1, e2, hr]; omega
  split
  · split <;> simp only [List.length_append, vecB_len, e1, e3, e8, hr] <;> omega
  split
  · simp only [List.length_append, vecB_len, numB_len, e4]; omega
  split
  · rw [e4]; omega
  split
  · rename_i h
    have := certsP_len m.certs (hc h)
    simp only [List.length_append, vecB_len, e5]; omega
  split
  · rw [e6]; omega
  split
  · simp only [List.length_append, vecB_len, e7]; omega
  · rw [hm]; omega
theorem right_certs {m : MsgP} (hr : rightP m = true) (hk : m.kind = 11) : ∀ c, c ∈ m.certs → c.length ≤ 50000 := by
  obtain ⟨k, r, mk, ses, sh, ti, no, sg, ce, life, age, psk, retry⟩ := m
  dsimp only at hk ⊢
  subst hk
  unfold rightP at hr
  dsimp only at hr
  rw [if_neg (by decide), if_neg (by decide), if_neg (by decide), if_pos rfl] at hr
  simp only [Bool.and_eq_true, List.all_eq_true, decide_eq_true_eq] at hr
  intro c hc
  have := (hr.1.2 c hc).2
  omega
theorem write_yes {m : MsgP} {C : Array Value} {w : World} (h : MsgAt w C m) (hs : SmallM m) (hr : rightP m = true) :
    Calls Try.prog 11 #[.agg C] w fun e w' => ∃ v, e = .returned (.tuple #[v, .int .i64 0]) ∧ Buf 5 w' w.heap.size v (writeP m) ∧ Below w.heap.size w w' := by
  have hright : ∀ W, Below w.heap.size w W → Calls Try.prog 22 #[.agg C] W fun e w' => e = .returned (.bool true) ∧ Below W.heap.size W w' := fun W hW => by
    have := right_any (h.below hW) hs
    rwa [hr] at this
  have hbody : ∀ W, Below w.heap.size w W → Calls Try.prog 24 #[.agg C] W fun e w' => ∃ v, e = .returned v ∧ SlB w' v (bodyP m) ∧ Below W.heap.size W w' := fun W hW => body_any (h.below hW) hs hr
  have hkind := right_kind hr
  obtain ⟨v1, v2, v3, v4, v5, vc, rfl, h1, h2, h3, h4, h5, h6, hrl, hml⟩ := h
  have hlen := bodyP_len m hs hrl hml (right_certs hr)
  unfold writeP
  generalize bodyP m = b at hbody hlen ⊢
  obtain ⟨k, r, mk, ses, sh, ti, no, sg, ce, life, age, psk, retry⟩ := m
  dsimp only at *
  rcases hkind with rfl | rfl | rfl | rfl | rfl | rfl | rfl | rfl
  · exact write_1 r mk b v1 v2 v3 v4 v5 vc life age psk retry w hlen hright hbody
  · exact write_2 r mk b v1 v2 v3 v4 v5 vc life age psk retry w hlen hright hbody
  · exact write_4 r mk b v1 v2 v3 v4 v5 vc life age psk retry w hlen hright hbody
  · exact write_8 r mk b v1 v2 v3 v4 v5 vc life age psk retry w hlen hright hbody
  · exact write_11 r mk b v1 v2 v3 v4 v5 vc life age psk retry w hlen hright hbody
  · exact write_13 r mk b v1 v2 v3 v4 v5 vc life age psk retry w hlen hright hbody
  · exact write_15 r mk b v1 v2 v3 v4 v5 vc life age psk retry w hlen hright hbody
  · exact write_20 r mk b v1 v2 v3 v4 v5 vc life age psk retry w hlen hright hbody
set_option maxRecDepth 100000 in
set_option maxHeartbeats 4000000 in
theorem write_no {m : MsgP} {C : Array Value} {w : World} (h : MsgAt w C m) (hs : SmallM m) (hr : rightP m = false) :
    Calls Try.prog 11 #[.agg C] w fun e w' => e = .returned (.tuple #[.slice none 0 0, .int .i64 2]) ∧ Below w.heap.size w w' := by
  have hright : ∀ W, Below w.heap.size w W → Calls Try.prog 22 #[.agg C] W fun e w' => e = .returned (.bool false) ∧ Below W.heap.size W w' := fun W hW => by
    have := right_any (h.below hW) hs
    rwa [hr] at this
  obtain ⟨v1, v2, v3, v4, v5, vc, rfl, _⟩ := h
  have HR := Lib.hid hright
  clear hright hr hs
  go_enter Try.func11, Try.ntmps11
  go_wp2_with fail
  refine (HR.out _ (by (repeat (first | (with_reducible exact Below.refl _ _) | ((with_reducible first | refine bSetRow ?_ ?_ _ | refine Below.alloc ?_ ?_ _ | refine Below.setCell ?_ ?_ _); rotate_left 1; (focus (first | (simp; done) | (simp; omega)))) | (with_reducible refine Below.drew ?_))))).mono ?_
  rintro e w0 ⟨rfl, hb0⟩
  have hB : Below w.heap.size w w0 := Below.trans (by (repeat (first | (with_reducible exact Below.refl _ _) | ((with_reducible first | refine bSetRow ?_ ?_ _ | refine Below.alloc ?_ ?_ _ | refine Below.setCell ?_ ?_ _); rotate_left 1; (focus (first | (simp; done) | (simp; omega)))) | (with_reducible refine Below.drew ?_)))) (hb0.mono (by simp))
  clear hb0
  go_wp2_with fail
  go_ret2
  exact ⟨rfl, hB⟩
end Go.Proofs.Ytnenoecmmelehaa

namespace Go.Proofs.Ytnenoecmmelehaa
open Go.RowKit

theorem exec_msg (o : Oper) (a : Act) (xs : Array (Nat × Operand)) (vs : List (Nat × Value)) (C : Array Value) (ho : o.op = .build 25 xs) (hv : xs.map (fun p => (p.1, a.eval p.2)) = vs.toArray) (hb : Try.prog.built 25 vs = some C) (w : World) : (execOp a.eval o).run Try.prog w = .ok (.value (.agg C)) w := by
  unfold execOp
  simp only [ho, Sem.run_bind]
  rw [show xs.map (fun x => match x with | (i, x) => (i, a.eval x)) = vs.toArray from hv, run_build w _ _ _ hb]
  rfl
theorem wpl_val {P : Program} {ops : Array Oper} {rest : List Oper} {o : Oper} {a : Act} {w : World} {Q : Exit → Act → World → Prop} (hgd : o.guard = none) (v : Value) (hr : (execOp a.eval o).run P w = .ok (.value v) w) (h : wpList P ops Q rest (a.put o.dst v) w) : wpList P ops Q (o :: rest) a w :=
  wpList_plain hgd fun _ hK => by
    unfold Oper.wp
    rw [hr]
    exact hK _ _ h
theorem StrB.grow {w w' : World} {base : Nat} {v : Value} {l : List (List UInt8)} (h : StrB w base v l) (hb : Below w.heap.size w w') : StrB w' base v l :=
  ⟨h.1, h.2.imp id fun ⟨g, cap, cur, hv, hg, hh, h1⟩ => ⟨g, cap, cur, hv, hg, (hb.block g (Array.getElem?_eq_some_iff.1 hh).1).trans hh, h1⟩⟩
theorem StrB.low {w : World} {base b : Nat} {v : Value} {l : List (List UInt8)} (h : StrB w base v l) (hb : b ≤ base) : StrB w b v l :=
  ⟨h.1, h.2.imp id fun ⟨g, cap, cur, hv, hg, hh, h1⟩ => ⟨g, cap, cur, hv, Nat.le_trans hb hg, hh, h1⟩⟩
theorem StrB.setRow {w : World} {base : Nat} {v : Value} {l : List (List UInt8)} (h : StrB w base v l) {g : Nat} (hg : g < base) (cs : Array Value) : StrB (w.setRow g cs) base v l :=
  ⟨h.1, h.2.imp id fun ⟨b, cap, cur, hv, hb, hh, h1⟩ => ⟨b, cap, cur, hv, hb, (setRow_other w g b cs (by omega)).trans hh, h1⟩⟩
theorem mC_one {k : Int} {r mk : List UInt8} {l : List Value} (h : ∀ v, v ∈ l → v.oneCell' = true) : allOne (mC k r mk l) = true := by
  unfold allOne mC
  simp only [List.all_append, List.all_eq_true, Bool.and_eq_true]
  refine ⟨fun v hv => ?_, fun v hv => ?_, fun v hv => ?_, h⟩
  · obtain rfl : v = .int .i64 k := by simpa using hv
    rfl
  · obtain ⟨y, _, rfl⟩ := List.mem_map.1 hv; rfl
  · obtain ⟨y, _, rfl⟩ := List.mem_map.1 hv; rfl
def zMsg : Array Value := mC 0 zero32 zero32 [.string ⟨#[]⟩, .string ⟨#[]⟩, .string ⟨#[]⟩, .string ⟨#[]⟩, .string ⟨#[]⟩, .slice none 0 0, .int .i64 0, .int .i64 0, .bool false, .bool false]
set_option maxRecDepth 100000 in
theorem zero_msg (w : World) : (zeroValue 25).run Try.prog w = .ok (.agg zMsg) w := by kernel_rfl
theorem zMsg_size : zMsg.size = 75 := by kernel_rfl
attribute [local go_sem] zero_msg
set_option maxRecDepth 100000 in
set_option maxHeartbeats 4000000 in
theorem tame_any (k : Int) (r mk s1 s2 s3 s4 s5 : List UInt8) (ac : Option Addr) (n cc : Nat) (certs : List (List UInt8)) (life age : Int) (psk retry : Bool) (w : World) (hr : r.length = 32) (hm : mk.length = 32) (hc : StrsAt w (.slice ac n cc) certs) :
    Calls Try.prog 9 #[.agg (mC k r mk [S s1, S s2, S s3, S s4, S s5, .slice ac n cc, .int .i64 life, .int .i64 age, .bool psk, .bool retry])] w fun e w' => ∃ a' n' c', e = .returned (.agg (mC k r mk [S (s1.take 2100), S (s2.take 2100), S (s3.take 2100), S (s4.take 2100), S (s5.take 2100), .slice a' n' c', .int .i64 life, .int .i64 age, .bool psk, .bool retry])) ∧ StrB w' w.heap.size (.slice a' n' c') (cutP certs 6) ∧ Below w.heap.size w w' := by
  have hg := fun i => mC_get (k := k) (l := [S s1, S s2, S s3, S s4, S s5, .slice ac n cc, .int .i64 life, .int .i64 age, .bool psk, .bool retry]) hr hm i
  have g0 := mC_kind (k := k) (r := r) (mk := mk) (l := [S s1, S s2, S s3, S s4, S s5, .slice ac n cc, .int .i64 life, .int .i64 age, .bool psk, .bool retry])
  have g65 := hg 0
  have g66 := hg 1
  have g67 := hg 2
  have g68 := hg 3
  have g69 := hg 4
  have g70 := hg 5
  have g71 := hg 6
  have g72 := hg 7
  have g73 := hg 8
  have g74 := hg 9
  simp only [Nat.reduceAdd, List.getElem?_cons_zero, List.getElem?_cons_succ] at g65 g66 g67 g68 g69 g70 g71 g72 g73 g74
  have hsz := mC_size (k := k) (l := [S s1, S s2, S s3, S s4, S s5, .slice ac n cc, .int .i64 life, .int .i64 age, .bool psk, .bool retry]) hr hm
  have hrr := mC_random (k := k) (mk := mk) (l := [S s1, S s2, S s3, S s4, S s5, .slice ac n cc, .int .i64 life, .int .i64 age, .bool psk, .bool retry]) hr
  have hmm := mC_mark (k := k) (l := [S s1, S s2, S s3, S s4, S s5, .slice ac n cc, .int .i64 life, .int .i64 age, .bool psk, .bool retry]) hr hm
  obtain ⟨C, hC⟩ : ∃ C, C = mC k r mk [S s1, S s2, S s3, S s4, S s5, .slice ac n cc, .int .i64 life, .int .i64 age, .bool psk, .bool retry] := ⟨_, rfl⟩
  rw [← hC] at g0 g65 g66 g67 g68 g69 g70 g71 g72 g73 g74 hsz hrr hmm ⊢
  have z1 : 1 + 32 ≤ C.size := by rw [hsz]; simp
  have z2 : 33 + 32 ≤ C.size := by rw [hsz]; simp
  have HC := Lib.hid hc
  have HR := Lib.hid hr
  have HM := Lib.hid hm
  clear hC hg hsz hr hm hc
  go_enter Try.func9, Try.ntmps9
  go_wp2_with fail
  obtain ⟨w0, hw0⟩ : ∃ w0, w0 = (w.alloc (.cells C 25)).alloc (.cells zMsg 25) := ⟨_, rfl⟩
  rw [← hw0]
  have r1 : Row w0 w.heap.size 25 C := by rw [hw0]; exact (Row.new w _ _).alloc _
  have r2 : Row w0 (w.heap.size + 1) 25 zMsg := by rw [hw0]; exact Row.newAt _ _ _ _ (by simp)
  have hB0 : Below w.heap.size w w0 := by rw [hw0]; exact ((Below.refl _ w).alloc (Nat.le_refl _) _).alloc (by simp) _
  have hs0 : w0.heap.size = w.heap.size + 2 := by rw [hw0]; simp
  clear hw0
  refine (func1_any _ certs w0 (HC.out.below hB0)).mono ?_
  rintro e w1 ⟨v3, rfl, hs3, hb1⟩
  have r1 := r1.below hb1 r1.lt
  have r2 := r2.below hb1 r2.lt
  have hB1 := hB0.trans (hb1.mono hB0.size)
  obtain ⟨a3, n3, c3, e3⟩ : ∃ a n c, v3 = .slice a n c := let ⟨a, c, h, _⟩ := hs3.strs; ⟨a, _, c, h⟩
  subst e3
  have HS3 := Lib.hid (show StrB w1 (w.heap.size + 2) (.slice a3 n3 c3) (cutP certs 6) from hs0 ▸ hs3)
  clear hb1 hs3 hB0
  go_upto_region 2 with (fail)
  have r1 := r1.drew
  have r2 := r2.drew
  have hB1 := hB1.drew
  have hfin := built_msg k life age r mk (s1.take 2100) (s2.take 2100) (s3.take 2100) (s4.take 2100) (s5.take 2100) a3 n3 c3 psk retry HR.out HM.out
  have hdsz := mC_size (k := k) (l := [S (s1.take 2100), S (s2.take 2100), S (s3.take 2100), S (s4.take 2100), S (s5.take 2100), .slice a3 n3 c3, .int .i64 life, .int .i64 age, .bool psk, .bool retry]) HR.out HM.out
  obtain ⟨D, hD⟩ : ∃ D, D = mC k r mk [S (s1.take 2100), S (s2.take 2100), S (s3.take 2100), S (s4.take 2100), S (s5.take 2100), .slice a3 n3 c3, .int .i64 life, .int .i64 age, .bool psk, .bool retry] := ⟨_, rfl⟩
  rw [← hD] at hfin hdsz
  have HD := Lib.hid hD
  have HFIN := Lib.hid hfin
  have HSH := Lib.hid (fun l w => short_any l w)
  clear hD hfin
  refine wp_region_free 30 [] (fun _ _ _ => True) (by kernel_rfl) (by kernel_rfl) (by kernel_rfl) (fun _ _ _ _ _ _ => trivial) ?_
  simp only [List.take_succ_cons, List.take_zero, List.drop_succ_cons, List.drop_zero]
  apply Exists.intro
  apply Exists.intro
  refine ⟨?_, ?_, ?_⟩
  · intro ν
    repeat (apply wpF_q rfl; focus (intro C hC hG; (first | go_big_quiet_skip | (go_big_quiet_want; go_big_quiet_op; first | go_big_quiet_on | (refine ⟨_, fun _ _ => rfl, ?_⟩; go_big_quiet_on)) | (go_big_quiet_want; apply qf_load1 _ _ rfl _ _ rfl; (exact hC); rotate_left 1; (focus (intro _; simp [go_sem]; done)); rotate_right 1; assumption; assumption; (simp only [Act.put, lS]; go_big_quiet_on)) | (go_big_quiet_want; apply qf_loadA _ _ rfl _ _ rfl (sz := 32); (exact hC); rotate_left 1; (focus (intro _; simp [go_sem]; done)); (focus (intro _; simp [go_sem]; done)); rotate_right 1; assumption; assumption; assumption; (simp only [Act.put, lS]; go_big_quiet_on))); exact wpQuiet_nil rfl))
    (apply wpF_q rfl; focus (intro C hC hG; go_big_quiet_want; apply qf_call; (exact hC); (exact hG); (exact (fun w' _ _ => (HSH.out s1 w').mono fun e w'' h => ⟨h.1, h.2 ▸ Below.refl _ _⟩)); (focus (intro w; simp [go_sem]; done)); (simp only [Act.put, lS]; go_big_quiet_on); exact wpQuiet_nil rfl))
    repeat (apply wpF_q rfl; focus (intro C hC hG; (first | go_big_quiet_skip | (go_big_quiet_want; go_big_quiet_op; first | go_big_quiet_on | (refine ⟨_, fun _ _ => rfl, ?_⟩; go_big_quiet_on)) | (go_big_quiet_want; apply qf_load1 _ _ rfl _ _ rfl; (exact hC); rotate_left 1; (focus (intro _; simp [go_sem]; done)); rotate_right 1; assumption; assumption; (simp only [Act.put, lS]; go_big_quiet_on)) | (go_big_quiet_want; apply qf_loadA _ _ rfl _ _ rfl (sz := 32); (exact hC); rotate_left 1; (focus (intro _; simp [go_sem]; done)); (focus (intro _; simp [go_sem]; done)); rotate_right 1; assumption; assumption; assumption; (simp only [Act.put, lS]; go_big_quiet_on))); exact wpQuiet_nil rfl))
    (apply wpF_q rfl; focus (intro C hC hG; go_big_quiet_want; apply qf_call; (exact hC); (exact hG); (exact (fun w' _ _ => (HSH.out s2 w').mono fun e w'' h => ⟨h.1, h.2 ▸ Below.refl _ _⟩)); (focus (intro w; simp [go_sem]; done)); (simp only [Act.put, lS]; go_big_quiet_on); exact wpQuiet_nil rfl))
    repeat (apply wpF_q rfl; focus (intro C hC hG; (first | go_big_quiet_skip | (go_big_quiet_want; go_big_quiet_op; first | go_big_quiet_on | (refine ⟨_, fun _ _ => rfl, ?_⟩; go_big_quiet_on)) | (go_big_quiet_want; apply qf_load1 _ _ rfl _ _ rfl; (exact hC); rotate_left 1; (focus (intro _; simp [go_sem]; done)); rotate_right 1; assumption; assumption; (simp only [Act.put, lS]; go_big_quiet_on)) | (go_big_quiet_want; apply qf_loadA _ _ rfl _ _ rfl (sz := 32); (exact hC); rotate_left 1; (focus (intro _; simp [go_sem]; done)); (focus (intro _; simp [go_sem]; done)); rotate_right 1; assumption; assumption; assumption; (simp only [Act.put, lS]; go_big_quiet_on))); exact wpQuiet_nil rfl))
    (apply wpF_q rfl; focus (intro C hC hG; go_big_quiet_want; apply qf_call; (exact hC); (exact hG); (exact (fun w' _ _ => (HSH.out s3 w').mono fun e w'' h => ⟨h.1, h.2 ▸ Below.refl _ _⟩)); (focus (intro w; simp [go_sem]; done)); (simp only [Act.put, lS]; go_big_quiet_on); exact wpQuiet_nil rfl))
    repeat (apply wpF_q rfl; focus (intro C hC hG; (first | go_big_quiet_skip | (go_big_quiet_want; go_big_quiet_op; first | go_big_quiet_on | (refine ⟨_, fun _ _ => rfl, ?_⟩; go_big_quiet_on)) | (go_big_quiet_want; apply qf_load1 _ _ rfl _ _ rfl; (exact hC); rotate_left 1; (focus (intro _; simp [go_sem]; done)); rotate_right 1; assumption; assumption; (simp only [Act.put, lS]; go_big_quiet_on)) | (go_big_quiet_want; apply qf_loadA _ _ rfl _ _ rfl (sz := 32); (exact hC); rotate_left 1; (focus (intro _; simp [go_sem]; done)); (focus (intro _; simp [go_sem]; done)); rotate_right 1; assumption; assumption; assumption; (simp only [Act.put, lS]; go_big_quiet_on))); exact wpQuiet_nil rfl))
    (apply wpF_q rfl; focus (intro C hC hG; go_big_quiet_want; apply qf_call; (exact hC); (exact hG); (exact (fun w' _ _ => (HSH.out s4 w').mono fun e w'' h => ⟨h.1, h.2 ▸ Below.refl _ _⟩)); (focus (intro w; simp [go_sem]; done)); (simp only [Act.put, lS]; go_big_quiet_on); exact wpQuiet_nil rfl))
    repeat (apply wpF_q rfl; focus (intro C hC hG; (first | go_big_quiet_skip | (go_big_quiet_want; go_big_quiet_op; first | go_big_quiet_on | (refine ⟨_, fun _ _ => rfl, ?_⟩; go_big_quiet_on)) | (go_big_quiet_want; apply qf_load1 _ _ rfl _ _ rfl; (exact hC); rotate_left 1; (focus (intro _; simp [go_sem]; done)); rotate_right 1; assumption; assumption; (simp only [Act.put, lS]; go_big_quiet_on)) | (go_big_quiet_want; apply qf_loadA _ _ rfl _ _ rfl (sz := 32); (exact hC); rotate_left 1; (focus (intro _; simp [go_sem]; done)); (focus (intro _; simp [go_sem]; done)); rotate_right 1; assumption; assumption; assumption; (simp only [Act.put, lS]; go_big_quiet_on))); exact wpQuiet_nil rfl))
    (apply wpF_q rfl; focus (intro C hC hG; go_big_quiet_want; apply qf_call; (exact hC); (exact hG); (exact (fun w' _ _ => (HSH.out s5 w').mono fun e w'' h => ⟨h.1, h.2 ▸ Below.refl _ _⟩)); (focus (intro w; simp [go_sem]; done)); (simp only [Act.put, lS]; go_big_quiet_on); exact wpQuiet_nil rfl))
    repeat (apply wpF_q rfl; focus (intro C hC hG; (first | go_big_quiet_skip | (go_big_quiet_want; go_big_quiet_op; first | go_big_quiet_on | (refine ⟨_, fun _ _ => rfl, ?_⟩; go_big_quiet_on)) | (go_big_quiet_want; apply qf_load1 _ _ rfl _ _ rfl; (exact hC); rotate_left 1; (focus (intro _; simp [go_sem]; done)); rotate_right 1; assumption; assumption; (simp only [Act.put, lS]; go_big_quiet_on)) | (go_big_quiet_want; apply qf_loadA _ _ rfl _ _ rfl (sz := 32); (exact hC); rotate_left 1; (focus (intro _; simp [go_sem]; done)); (focus (intro _; simp [go_sem]; done)); rotate_right 1; assumption; assumption; assumption; (simp only [Act.put, lS]; go_big_quiet_on))); exact wpQuiet_nil rfl))
    exact wpF_nil ⟨rfl, rfl⟩
  · intro ν ν'
    rfl
  · intro ν w2 hw2 _
    have r2 := r2.below hw2 r2.lt
    have hB2 := hB1.trans (hw2.mono hB1.size)
    have r1 := r1.below hw2 r1.lt
    have hz := zMsg_size
    have hD75 : D.size = 75 := hdsz
    have hone : allOne D = true := by
      rw [HD.out]
      refine mC_one fun v hv => ?_
      simp only [List.mem_cons, List.not_mem_nil, or_false] at hv
      rcases hv with rfl | rfl | rfl | rfl | rfl | rfl | rfl | rfl | rfl | rfl <;> rfl
    have hov : over zMsg 0 D = D := over_all _ _ (hz.trans hD75.symm)
    have HS4 := Lib.hid (HS3.out.grow ((Below.refl _ w1).drew.trans hw2))
    clear hw2 hB1 hdsz
    refine wpl_val rfl (.agg D) ?_ ?_
    · apply exec_msg _ _ _ _ _ ?ho ?hv HFIN.out
      case ho => rfl
      case hv => first | kernel_rfl | simp [Act.eval]
    simp only [Act.put, lS]
    go_wp2_with fail
    exact ret_row (.inl rfl) rfl (w.heap.size + 1) _ _ 75 _ rfl (r2.setRow _) Try.underlying25 rfl (by kernel_rfl) hD75 ⟨a3, n3, c3, by rw [HD.out], (HS4.out.setRow (by omega) _).low (by omega), bSetRow hB2 (by omega) _⟩
end Go.Proofs.Ytnenoecmmelehaa

namespace Go.Proofs.Ytnenoecmmelehaa
open Go.RowKit

set_option maxRecDepth 100000 in
theorem again_cells : ((AB zero32).toList.take 0 ++ Lib.byteCells (⟨#[207, 33, 173, 116, 229, 154, 97, 17, 190, 29, 140, 2, 30, 101, 184, 145, 194, 162, 17, 22, 122, 187, 140, 94, 7, 158, 9, 226, 200, 168, 51, 156]⟩ : ByteArray).data.toList ++ (AB zero32).toList.drop (0 + (⟨#[207, 33, 173, 116, 229, 154, 97, 17, 190, 29, 140, 2, 30, 101, 184, 145, 194, 162, 17, 22, 122, 187, 140, 94, 7, 158, 9, 226, 200, 168, 51, 156]⟩ : ByteArray).size)).toArray = AB hAgain := by kernel_rfl
set_option maxRecDepth 100000 in
set_option maxHeartbeats 4000000 in
theorem special_any (w : World) : Calls Try.prog 18 #[] w fun e w' => e = .returned (.agg (AB hAgain)) ∧ Below w.heap.size w w' := by
  go_enter Try.func18, Try.ntmps18
  go_upto_region 2 with (fail)
  obtain ⟨w0, hw0⟩ : ∃ w0, w0 = (w.alloc (.cells #[.int .u8 0, .int .u8 0, .int .u8 0, .int .u8 0, .int .u8 0, .int .u8 0, .int .u8 0, .int .u8 0, .int .u8 0, .int .u8 0, .int .u8 0, .int .u8 0, .int .u8 0, .int .u8 0, .int .u8 0, .int .u8 0, .int .u8 0, .int .u8 0, .int .u8 0, .int .u8 0, .int .u8 0, .int .u8 0, .int .u8 0, .int .u8 0, .int .u8 0, .int .u8 0, .int .u8 0, .int .u8 0, .int .u8 0, .int .u8 0, .int .u8 0, .int .u8 0] 22)).alloc (.cells #[.int .u8 0, .int .u8 0, .int .u8 0, .int .u8 0, .int .u8 0, .int .u8 0, .int .u8 0, .int .u8 0, .int .u8 0, .int .u8 0, .int .u8 0, .int .u8 0, .int .u8 0, .int .u8 0, .int .u8 0, .int .u8 0, .int .u8 0, .int .u8 0, .int .u8 0, .int .u8 0, .int .u8 0, .int .u8 0, .int .u8 0, .int .u8 0, .int .u8 0, .int .u8 0, .int .u8 0, .int .u8 0, .int .u8 0, .int .u8 0, .int .u8 0, .int .u8 0] 22) := ⟨_, rfl⟩
  rw [← hw0]
  have r1 : Row w0 w.heap.size 22 (AB zero32) := by rw [hw0, zero32_lit]; exact (Row.new w _ _).alloc _
  have r2 : Row w0 (w.heap.size + 1) 22 (AB zero32) := by rw [hw0, zero32_lit]; exact Row.newAt _ _ _ _ (by simp)
  have hB0 : Below w.heap.size w w0 := by rw [hw0]; exact ((Below.refl _ w).alloc (Nat.le_refl _) _).alloc (by simp) _
  clear hw0
  have hcp := Lib.run_copy_row_string (P := Try.prog) w0 27 9 3 5 (w.heap.size + 1) 0 32 32 ⟨#[207, 33, 173, 116, 229, 154, 97, 17, 190, 29, 140, 2, 30, 101, 184, 145, 194, 162, 17, 22, 122, 187, 140, 94, 7, 158, 9, 226, 200, 168, 51, 156]⟩ (AB zero32) 22 Try.underlying27 (by kernel_rfl) r2.heap (by decide) (by decide)
  rw [again_cells] at hcp
  have hz : (AB hAgain).size = 32 := by kernel_rfl
  have hz0 : (AB zero32).size = 32 := by kernel_rfl
  have r3 := r2.setRow (AB hAgain)
  have r4 := r1.setRowOther (w.heap.size + 1) (AB hAgain) (by omega)
  have hB1 := bSetRow hB0 (show w.heap.size ≤ w.heap.size + 1 by omega) (AB hAgain)
  obtain ⟨w1, hw1⟩ : ∃ w1, w1 = w0.setRow (w.heap.size + 1) (AB hAgain) := ⟨_, rfl⟩
  rw [← hw1] at hcp r3 r4 hB1
  clear hw1 hB0
  have hsb := sub_all (AB hAgain) 32 hz
  have zb : 0 + 32 ≤ (AB hAgain).size := by rw [hz]; decide
  go_wp2_with fail
  exact ret_row (.inl rfl) rfl w.heap.size _ _ 32 _ rfl (r4.setRow _) Try.underlying22 rfl (by kernel_rfl) hz ⟨rfl, bSetRow hB1 (Nat.le_refl _) _⟩
end Go.Proofs.Ytnenoecmmelehaa

namespace Go.Proofs.Ytnenoecmmelehaa
open Go.RowKit
set_option linter.unusedVariables false

section
variable (ρ : Operand → Value) (dst : Option Tmp) (x : Operand) (type : TypeId) (pos : String) (after : Array Edge) (guard : Option (Nat × Bool)) (w : World)
theorem agg_rmsg (w : World) : (isAgg 25).run Try.prog w = .ok true w := by kernel_rfl
theorem siz_rmsg (w : World) : (sizeOf 25).run Try.prog w = .ok 75 w := by kernel_rfl
theorem run_loadR (hx : plainPtr (ρ x) = true) (h0 : offOf (ρ x) = 0) (h3 : (row w (blkOf (ρ x))).isSome = true) (hs : rowSize w (blkOf (ρ x)) = 75) :
    (execOp ρ { dst, op := .load 25 x, type, pos, after, guard }).run Try.prog w = .ok (.value (.agg (rowCells w (blkOf (ρ x))))) w := by
  have hz := szR_of (siz_rmsg w)
  have := run_load_r (P := Try.prog) ρ dst 25 x type pos after guard w (agg_rmsg w) hx h3 (by rw [hz]; exact siz_rmsg w) (by rw [h0, hz, hs]; exact Nat.le_refl _)
  rw [this, h0, hz, sub_all]
  obtain ⟨⟨t, cs⟩, hr⟩ := Option.isSome_iff_exists.1 h3
  simp only [rowSize, hr, Option.map_some, Option.getD_some] at hs
  simp only [rowCells, hr, Option.map_some, Option.getD_some, hs]
end
theorem one_str (b : ByteArray) : Value.oneCell' (.string b) = true := rfl
theorem one_sli (a : Option Addr) (n c : Nat) : Value.oneCell' (.slice a n c) = true := rfl
theorem one_boo (b : Bool) : Value.oneCell' (.bool b) = true := rfl
theorem mD_one {k : Int} {r mk : List UInt8} {v0 v1 v2 v3 v4 v5 v6 v7 v8 v9 : Value} : allOne (mD k r mk [v0, v1, v2, v3, v4, v5, v6, v7, v8, v9]) = (v0.oneCell' && (v1.oneCell' && (v2.oneCell' && (v3.oneCell' && (v4.oneCell' && (v5.oneCell' && (v6.oneCell' && (v7.oneCell' && (v8.oneCell' && v9.oneCell'))))))))) := by
  unfold mD mC
  rw [allOne_lit, List.all_append, List.all_append, List.all_append]
  have h : ∀ l : List UInt8, (l.map B).all Value.oneCell' = true := fun l => List.all_eq_true.2 fun v hv => by obtain ⟨y, _, rfl⟩ := List.mem_map.1 hv; rfl
  rw [h, h]
  simp [oneCell_int]
theorem over_zM (k : Int) (r mk : List UInt8) (v0 v1 v2 v3 v4 v5 v6 v7 v8 v9 : Value) : over zMsg 0 (mD k r mk [v0, v1, v2, v3, v4, v5, v6, v7, v8, v9]) = mD k r mk [v0, v1, v2, v3, v4, v5, v6, v7, v8, v9] := over_all _ _ (zMsg_size.trans mD_sz.symm)
attribute [go_sem ↓] run_loadR over_zM
attribute [go_sem] one_str one_sli one_boo mD_one
attribute [go_sem] zero_msg zMsg_size
theorem gen_wp {c : Code} {Q : Exit → Act → World → Prop} {a : Act} {w : World} (R : World → Prop) (h : R w) (k : ∀ w, R w → Code.wp Try.prog c Q a w) : Code.wp Try.prog c Q a w := k w h
section
variable {ops : Array Oper} {W : World} {φ : Tmp → Value → World → Prop} {ν : Tmp → Value} {done : List Tmp} {o : Oper} {a : Act} {C : World → Prop} {K : Act → Prop}
theorem qf_loadR (x : Operand) (ho : o.op = .load 25 x) (g : Nat) (hx : a.eval x = .pointer (some ⟨g, 0, none⟩)) (t : TypeId) (cs : Array Value) (hC : ∀ w, C w → PreV W ops φ ν done o w) (hr : Row W g t cs) (hs : cs.size = 75) (hk : K (a.put o.dst (.agg cs))) : o.quiet Try.prog a C K :=
  qf_loadA _ x ho g 0 hx t cs hC hr agg_rmsg 75 siz_rmsg (by omega) cs (sub_all cs 75 hs) hk
end
end Go.Proofs.Ytnenoecmmelehaa
