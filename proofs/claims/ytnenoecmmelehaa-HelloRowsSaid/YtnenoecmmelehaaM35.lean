/- Part of the proof: HFrom. No conditions of its own. -/
import Derived.Below
import Derived.BigQuiet
import Derived.ChangeOld
import Derived.Deep.CutBlock
import Derived.Deep.DeepCutAuto
import Derived.Deep.Draws
import Derived.Deep.LoopGhost
import Derived.Deep.Quiet
import Derived.Deep.QuietTactic
import Derived.Deep.RegionLaw
import Derived.Great.BuildSlice
import Derived.Great.FillDense
import Derived.Laws.AppendOwn
import Derived.Laws.AppendOwnNone
import Derived.Laws.BytesArg
import Derived.Laws.Concat
import Derived.Laws.MakeOwn
import Derived.Lib.AppendZerosOnto
import Derived.Lib.BufferWrite
import Derived.Lib.ConvBytes
import Derived.Lib.Hide
import Derived.Lib.SlBytesConst
import Derived.OpenShut
import Derived.ProofKit
import Derived.ShutString
import Derived.StillTail
import Derived.Stop.BytesEq
import Derived.Test.YtnenoecmmelehaaProg
import Derived.WalkKit
import Derived.WalkLawsBesides
import Derived.WalkSpells
import Derived.Test.YtnenoecmmelehaaM24
namespace Go.Proofs.Ytnenoecmmelehaa
open Go.RowKit
set_option linter.unusedVariables false

def FK.str (ls : List (List UInt8)) : FK where
  holds := fun n v w => ∃ b o, v = .slice (some ⟨b, o, none⟩) ls.length ls.length ∧ ∀ j, j < ls.length → w.cell? ⟨b, o + j, none⟩ = some (S (ls.getD j []))
  stab := fun n v w w' ⟨b, o, e, h1⟩ hb => ⟨b, o, e, fun j hj => hb.soft.cell (h1 j hj)⟩
  shape := fun n v w ⟨b, o, e, _⟩ => by rw [e]; rfl
theorem run_bs_str (w : World) (ls : List (List UInt8)) (h0 : 0 < ls.length) (h1 : ls.length ≤ 1000000) :
    (Instr.buildSlice 23 ls.length (((ls.map S).zipIdx 0).map fun x => (x.2, x.1)).toArray).run Try.prog w = .ok (.slice (some ⟨w.heap.size, 0, none⟩) ls.length ls.length) (w.alloc (.cells (ls.map S).toArray 9)) := by
  obtain ⟨i, hi, hz, hs, _⟩ := info_any info_str
  refine run_buildSlice w _ _ _ _ _ i _ Try.underlying23 hi hz (by rw [hs]; omega) (by rw [hs]; omega) ?_
  rw [hs]
  exact Great.fill_flat (ls.map S) _ (fun v hv => by obtain ⟨n, _, rfl⟩ := List.mem_map.1 hv; rfl) (by simp)
section
variable {ops : Array Oper} {W : World} {fs ds : List Tmp} {T : List (Nat × FK)} {ν : Tmp → Value} {E : Act → List Tmp → Prop} {done : List Tmp} {o : Oper} {l : List Oper} {a : Act}
theorem wpF_strs (ls : List (List UInt8)) (parts : Array (Nat × Operand)) (ho : o.op = .buildSlice 23 ls.length parts) (hv : parts.toList.map (fun p => (p.1, a.eval p.2)) = ((ls.map S).zipIdx 0).map fun x => (x.2, x.1)) (h0 : 0 < ls.length) (h1 : ls.length ≤ 1000000)
    (hf : isF fs o = true) (hw : Region.wanted o (yielded ops a.tmps) = true) (hT : ∀ d, o.dst = some d → T.lookup d = some (.str ls))
    (h : wpF Try.prog ops W fs ds (phi W.heap.size T) ν E (o.dst.toList ++ done) l (a.put o.dst (vqF ν o))) : wpF Try.prog ops W fs ds (phi W.heap.size T) ν E done (o :: l) a :=
  wpF_gen hf hw (fun w hB hk => ⟨.slice (some ⟨w.heap.size, 0, none⟩) ls.length ls.length, _, by
      unfold execOp
      simp only [ho, Sem.run_bind]
      rw [parts_list hv, run_bs_str w ls h0 h1]
      rfl, fun d hd => by
        unfold phi
        rw [hT d hd]
        refine ⟨w.heap.size, 0, rfl, fun j hj => ?_⟩
        rw [Nat.zero_add, (Row.new w _ (ls.map S).toArray).cell]
        simp [hj], GB.of hB.size ((Below.refl _ w).alloc (Nat.le_refl _) _)⟩) h
end
theorem wpl_appendStr {w : World} {ops : Array Oper} {rest : List Oper} {o : Oper} {a : Act} {Q : Exit → Act → World → Prop} (hgd : o.guard = none) (s x : Operand)
    (ho : o.op = .call { callee := .builtin .append, args := #[s, x], argTypes := #[23, 23] })
    (base : Nat) (v : Value) (ls : List (List UInt8)) (hs : a.eval s = v) (hown : StrB w base v ls) (u : Value) (ms : List (List UInt8)) (hx : a.eval x = u) (hu : FK.holds (.str ms) 0 u w)
    (hlen : ls.length + ms.length ≤ 1000000) (hbase : base ≤ w.heap.size)
    (h : ∀ v' w', StrB w' base v' (ls ++ ms) → w.grownBy w' v.ownBlock → wpList Try.prog ops Q rest (a.put o.dst v') w') : wpList Try.prog ops Q (o :: rest) a w := by
  obtain ⟨i, hi, hz, hs1, hb1⟩ := info_any info_str
  obtain ⟨b, o', rfl, hc⟩ := hu
  refine wpList_append_own w hgd s x 23 ho base 9 i _ 1 16 Try.underlying23 hi hz hs1 hb1 rfl (by decide) v ls.length (ls.map S) hs hown ⟨b, o', none⟩ ms.length ms.length (ms.map S) hx (by simp) (fun j y hj => by
    have hj1 : j < ms.length := by simpa using (List.getElem?_eq_some_iff.1 hj).1
    rw [Addr.add_lit, hc j hj1]
    simpa [hj1] using hj) (fun y hy => by obtain ⟨n, _, rfl⟩ := List.mem_map.1 hy; rfl) (by unfold maxLen; omega) (by omega) hbase fun v' w' h1 h2 _ => ?_
  refine h v' w' ?_ h2
  unfold StrB
  rw [List.length_append, List.map_append]
  exact h1
theorem StrB.keptT {w w' : World} {base : Nat} {v : Value} {ls : List (List UInt8)} (h : StrB w base v ls) {g : Nat} {t : TypeId} {cs : Array Value} (hg : w.grownBy w' (some g)) (hr : Row w g t cs) (ht : t ≠ 9) : StrB w' base v ls :=
  World.ownsRow.kept h hg (.inr (ownsRow_ne h hr ht))
theorem StrB.row {w w' : World} {base : Nat} {v : Value} {ls : List (List UInt8)} (h : StrB w base v ls) (hg : w.grownBy w' v.ownBlock) {g : Nat} {t : TypeId} {cs : Array Value} (hr : Row w g t cs) (ht : t ≠ 9) : Row w' g t cs :=
  (row_congr (hg.block g hr.lt fun e => ownsRow_ne h hr ht e.symm)).trans hr
theorem grownBy_setC (w : World) (g i : Nat) (v : Value) : w.grownBy (w.setCell ⟨g, i, none⟩ v) (some g) :=
  ⟨rfl, rfl, rfl, by simp, fun k hk hne => heap_setCell_other w _ k v (fun e => hne (by rw [e]))⟩
theorem StrB.nil (w : World) (base : Nat) : StrB w base (.slice none 0 0) [] := World.ownsRow_nil _ _ _ _
theorem StrB.below2 {W w w' : World} {n base : Nat} {v : Value} {ls : List (List UInt8)} (h : StrB w base v ls) (hn : n ≤ base) (hB : Below n W w) (hW : n ≤ W.heap.size) (hg : w.grownBy w' v.ownBlock) : Below n W w' :=
  hB.grown hg (Nat.le_trans hW hB.size) (fun k e => Nat.le_trans hn (World.ownsRow.lt h k e).1)
theorem StrB.shape {w : World} {base : Nat} {v : Value} {ls : List (List UInt8)} (h : StrB w base v ls) : isSliceV v = true := by
  obtain ⟨a, c, rfl, _⟩ := h.strs; rfl
set_option maxRecDepth 100000 in
set_option maxHeartbeats 4000000 in
theorem from_any (k : Int) (r mk s1 s2 s3 s4 s5 : List UInt8) (a1 a2 a3 a4 a5 ac : Option Addr) (c1 c2 c3 c4 c5 cc : Nat) (certs : List (List UInt8)) (life age : Int) (psk retry : Bool) (w : World) (hs1 : SlB w (.slice a1 s1.length c1) s1) (hs2 : SlB w (.slice a2 s2.length c2) s2) (hs3 : SlB w (.slice a3 s3.length c3) s3) (hs4 : SlB w (.slice a4 s4.length c4) s4) (hs5 : SlB w (.slice a5 s5.length c5) s5) (hp : PartsAt w (.slice ac certs.length cc) certs) (bc : certs.length ≤ 10) :
    Calls Try.prog 15 #[.agg (mD k r mk [.slice a1 s1.length c1, .slice a2 s2.length c2, .slice a3 s3.length c3, .slice a4 s4.length c4, .slice a5 s5.length c5, .slice ac certs.length cc, .int .i64 life, .int .i64 age, .bool psk, .bool retry])] w fun e w' => ∃ v6, e = .returned (.agg (mD k r mk [S s1, S s2, S s3, S s4, S s5, v6, .int .i64 life, .int .i64 age, .bool psk, .bool retry])) ∧ StrB w' w.heap.size v6 certs ∧ Below w.heap.size w w' := by
  have HP := Lib.hid hp
  have H1 := Lib.hid hs1
  have H2 := Lib.hid hs2
  have H3 := Lib.hid hs3
  have H4 := Lib.hid hs4
  have H5 := Lib.hid hs5
  clear hp hs1 hs2 hs3 hs4 hs5
  go_enter Try.func15, Try.ntmps15
  go_upto_region 1 with (fail)
  refine gen_wp (fun w0 => Row w0 w.heap.size 30 (mD k r mk [.slice a1 s1.length c1, .slice a2 s2.length c2, .slice a3 s3.length c3, .slice a4 s4.length c4, .slice a5 s5.length c5, .slice ac certs.length cc, .int .i64 life, .int .i64 age, .bool psk, .bool retry]) ∧ Row w0 (w.heap.size + 1) 25 zMsg ∧ Below w.heap.size w w0) ⟨by show row _ _ = _; simp [go_sem], by show row _ _ = _; simp [go_sem], by (repeat (first | (with_reducible exact Below.refl _ _) | ((with_reducible first | refine bSetRow ?_ ?_ _ | refine Below.alloc ?_ ?_ _ | refine Below.setCell ?_ ?_ _); rotate_left 1; (focus (first | (simp; done) | (simp; omega)))) | (with_reducible refine Below.drew ?_)))⟩ ?_
  rintro w0 ⟨hr, hr2, hB⟩
  obtain ⟨C, hC⟩ : ∃ C, C = mD k r mk [.slice a1 s1.length c1, .slice a2 s2.length c2, .slice a3 s3.length c3, .slice a4 s4.length c4, .slice a5 s5.length c5, .slice ac certs.length cc, .int .i64 life, .int .i64 age, .bool psk, .bool retry] := ⟨_, rfl⟩
  have g0 : C[0]? = some (.int .i64 k) := by rw [hC]; exact mD_0
  have g65 : C[65]? = some (.slice a1 s1.length c1) := by rw [hC]; exact mD_65
  have g66 : C[66]? = some (.slice a2 s2.length c2) := by rw [hC]; exact mD_66
  have g67 : C[67]? = some (.slice a3 s3.length c3) := by rw [hC]; exact mD_67
  have g68 : C[68]? = some (.slice a4 s4.length c4) := by rw [hC]; exact mD_68
  have g69 : C[69]? = some (.slice a5 s5.length c5) := by rw [hC]; exact mD_69
  have g70 : C[70]? = some (.slice ac certs.length cc) := by rw [hC]; exact mD_70
  have g71 : C[71]? = some (.int .i64 life) := by rw [hC]; exact mD_71
  have g72 : C[72]? = some (.int .i64 age) := by rw [hC]; exact mD_72
  have g73 : C[73]? = some (.bool psk) := by rw [hC]; exact mD_73
  have g74 : C[74]? = some (.bool retry) := by rw [hC]; exact mD_74
  have gR : sub C 1 32 = AB (fx r) := by rw [hC]; exact mD_R
  have gM : sub C 33 32 = AB (fx mk) := by rw [hC]; exact mD_M
  have z1 : 1 + 32 ≤ C.size := by rw [hC, mD_sz]; decide
  have z2 : 33 + 32 ≤ C.size := by rw [hC, mD_sz]; decide
  rw [← hC] at hr ⊢
  clear hC
  (refine wp_region_seq 29 [] [] shp (phi _ []) (by kernel_rfl) (phi_stab _ _) (phi_shp _ _) shp_inh ?_; simp only [List.take_succ_cons, List.take_zero, List.drop_succ_cons, List.drop_zero]; apply Exists.intro; apply Exists.intro; refine ⟨?_, ?_, ?_⟩)
  · intro ν hν
    iterate 8 (apply wpF_q rfl; focus (intro C hC hG; (first | go_big_quiet_skip | (go_big_quiet_want; go_big_quiet_op; first | go_big_quiet_on | (refine ⟨_, fun _ _ => rfl, ?_⟩; go_big_quiet_on)) | (go_big_quiet_want; apply qf_load1 _ _ rfl _ _ rfl; (exact hC); rotate_left 1; (focus (intro _; simp [go_sem]; done)); rotate_right 1; assumption; assumption; (simp only [Act.put, lS]; go_big_quiet_on)) | (go_big_quiet_want; apply qf_loadA _ _ rfl _ _ rfl (sz := 32); (exact hC); rotate_left 1; (focus (intro _; simp [go_sem]; done)); (focus (intro _; simp [go_sem]; done)); rotate_right 1; assumption; assumption; assumption; (simp only [Act.put, lS]; go_big_quiet_on))); exact wpQuiet_nil rfl))
    (apply wpF_q rfl; focus (intro C hC hG; go_big_quiet_want; apply qf_conv; (focus rfl); (exact hC); (focus rfl); (exact Try.underlying27); (exact Try.underlying5); (exact Try.underlying9); (exact (fun w hB' _ => (H1.out.below hB).below hB')); (simp only [Act.put, lS]; go_big_quiet_on); exact wpQuiet_nil rfl))
    iterate 2 (apply wpF_q rfl; focus (intro C hC hG; (first | go_big_quiet_skip | (go_big_quiet_want; go_big_quiet_op; first | go_big_quiet_on | (refine ⟨_, fun _ _ => rfl, ?_⟩; go_big_quiet_on)) | (go_big_quiet_want; apply qf_load1 _ _ rfl _ _ rfl; (exact hC); rotate_left 1; (focus (intro _; simp [go_sem]; done)); rotate_right 1; assumption; assumption; (simp only [Act.put, lS]; go_big_quiet_on)) | (go_big_quiet_want; apply qf_loadA _ _ rfl _ _ rfl (sz := 32); (exact hC); rotate_left 1; (focus (intro _; simp [go_sem]; done)); (focus (intro _; simp [go_sem]; done)); rotate_right 1; assumption; assumption; assumption; (simp only [Act.put, lS]; go_big_quiet_on))); exact wpQuiet_nil rfl))
    (apply wpF_q rfl; focus (intro C hC hG; go_big_quiet_want; apply qf_conv; (focus rfl); (exact hC); (focus rfl); (exact Try.underlying27); (exact Try.underlying5); (exact Try.underlying9); (exact (fun w hB' _ => (H2.out.below hB).below hB')); (simp only [Act.put, lS]; go_big_quiet_on); exact wpQuiet_nil rfl))
    iterate 2 (apply wpF_q rfl; focus (intro C hC hG; (first | go_big_quiet_skip | (go_big_quiet_want; go_big_quiet_op; first | go_big_quiet_on | (refine ⟨_, fun _ _ => rfl, ?_⟩; go_big_quiet_on)) | (go_big_quiet_want; apply qf_load1 _ _ rfl _ _ rfl; (exact hC); rotate_left 1; (focus (intro _; simp [go_sem]; done)); rotate_right 1; assumption; assumption; (simp only [Act.put, lS]; go_big_quiet_on)) | (go_big_quiet_want; apply qf_loadA _ _ rfl _ _ rfl (sz := 32); (exact hC); rotate_left 1; (focus (intro _; simp [go_sem]; done)); (focus (intro _; simp [go_sem]; done)); rotate_right 1; assumption; assumption; assumption; (simp only [Act.put, lS]; go_big_quiet_on))); exact wpQuiet_nil rfl))
    (apply wpF_q rfl; focus (intro C hC hG; go_big_quiet_want; apply qf_conv; (focus rfl); (exact hC); (focus rfl); (exact Try.underlying27); (exact Try.underlying5); (exact Try.underlying9); (exact (fun w hB' _ => (H3.out.below hB).below hB')); (simp only [Act.put, lS]; go_big_quiet_on); exact wpQuiet_nil rfl))
    iterate 2 (apply wpF_q rfl; focus (intro C hC hG; (first | go_big_quiet_skip | (go_big_quiet_want; go_big_quiet_op; first | go_big_quiet_on | (refine ⟨_, fun _ _ => rfl, ?_⟩; go_big_quiet_on)) | (go_big_quiet_want; apply qf_load1 _ _ rfl _ _ rfl; (exact hC); rotate_left 1; (focus (intro _; simp [go_sem]; done)); rotate_right 1; assumption; assumption; (simp only [Act.put, lS]; go_big_quiet_on)) | (go_big_quiet_want; apply qf_loadA _ _ rfl _ _ rfl (sz := 32); (exact hC); rotate_left 1; (focus (intro _; simp [go_sem]; done)); (focus (intro _; simp [go_sem]; done)); rotate_right 1; assumption; assumption; assumption; (simp only [Act.put, lS]; go_big_quiet_on))); exact wpQuiet_nil rfl))
    (apply wpF_q rfl; focus (intro C hC hG; go_big_quiet_want; apply qf_conv; (focus rfl); (exact hC); (focus rfl); (exact Try.underlying27); (exact Try.underlying5); (exact Try.underlying9); (exact (fun w hB' _ => (H4.out.below hB).below hB')); (simp only [Act.put, lS]; go_big_quiet_on); exact wpQuiet_nil rfl))
    iterate 2 (apply wpF_q rfl; focus (intro C hC hG; (first | go_big_quiet_skip | (go_big_quiet_want; go_big_quiet_op; first | go_big_quiet_on | (refine ⟨_, fun _ _ => rfl, ?_⟩; go_big_quiet_on)) | (go_big_quiet_want; apply qf_load1 _ _ rfl _ _ rfl; (exact hC); rotate_left 1; (focus (intro _; simp [go_sem]; done)); rotate_right 1; assumption; assumption; (simp only [Act.put, lS]; go_big_quiet_on)) | (go_big_quiet_want; apply qf_loadA _ _ rfl _ _ rfl (sz := 32); (exact hC); rotate_left 1; (focus (intro _; simp [go_sem]; done)); (focus (intro _; simp [go_sem]; done)); rotate_right 1; assumption; assumption; assumption; (simp only [Act.put, lS]; go_big_quiet_on))); exact wpQuiet_nil rfl))
    (apply wpF_q rfl; focus (intro C hC hG; go_big_quiet_want; apply qf_conv; (focus rfl); (exact hC); (focus rfl); (exact Try.underlying27); (exact Try.underlying5); (exact Try.underlying9); (exact (fun w hB' _ => (H5.out.below hB).below hB')); (simp only [Act.put, lS]; go_big_quiet_on); exact wpQuiet_nil rfl))
    iterate 8 (apply wpF_q rfl; focus (intro C hC hG; (first | go_big_quiet_skip | (go_big_quiet_want; go_big_quiet_op; first | go_big_quiet_on | (refine ⟨_, fun _ _ => rfl, ?_⟩; go_big_quiet_on)) | (go_big_quiet_want; apply qf_load1 _ _ rfl _ _ rfl; (exact hC); rotate_left 1; (focus (intro _; simp [go_sem]; done)); rotate_right 1; assumption; assumption; (simp only [Act.put, lS]; go_big_quiet_on)) | (go_big_quiet_want; apply qf_loadA _ _ rfl _ _ rfl (sz := 32); (exact hC); rotate_left 1; (focus (intro _; simp [go_sem]; done)); (focus (intro _; simp [go_sem]; done)); rotate_right 1; assumption; assumption; assumption; (simp only [Act.put, lS]; go_big_quiet_on))); exact wpQuiet_nil rfl))
    exact wpF_nil ⟨rfl, rfl⟩
  · intro ν ν'; kernel_rfl
  intro ν w1 hν hB1 hD
  have hbuilt := built_r k life age r mk s1 s2 s3 s4 s5 psk retry
  have hr := Row.below hr hB1 hr.lt
  have hr2 := Row.below hr2 hB1 hr2.lt
  have hs0 := hB.size
  have hs1 := hB1.size
  have hlt2 := hr2.lt
  have hB := Below.trans hB (hB1.mono hB.size)
  refine wpl_val rfl (.agg (mD k r mk [S s1, S s2, S s3, S s4, S s5, .slice none 0 0, .int .i64 life, .int .i64 age, .bool psk, .bool retry])) ?_ ?_
  · apply exec_built _ _ _ _ _ _ ?ho ?hv hbuilt
    case ho => rfl
    case hv => kernel_rfl
  simp only [Act.put, lS]
  clear hbuilt hD hB1 hν g0 g65 g66 g67 g68 g69 g71 g72 g73 g74 gR gM z1 z2
  refine wpl_allocT 25 zMsg rfl rfl zero_msg ?_
  simp only [Act.put, lS]
  refine wpl_storeT 25 (.tmp 3) (.tmp 34) rfl rfl rfl w1.heap.size rfl _ rfl 75 mD_sz siz_rmsg (mD_oneL (fun v hv => by simp only [List.mem_cons, List.not_mem_nil, or_false] at hv; rcases hv with rfl | rfl | rfl | rfl | rfl | rfl | rfl | rfl | rfl | rfl <;> rfl)) _ _ (Row.new _ _ _) zMsg_size ?_
  simp only [Act.put]
  refine gen_wpl (fun w0 => Row w0 w.heap.size 30 C ∧ Row w0 (w.heap.size + 1) 25 zMsg ∧ Row w0 w1.heap.size 25 (mD k r mk [S s1, S s2, S s3, S s4, S s5, .slice none 0 0, .int .i64 life, .int .i64 age, .bool psk, .bool retry]) ∧ Below w1.heap.size w1 w0 ∧ w0.heap.size = w1.heap.size + 1) ⟨(hr.alloc _).setRowOther _ _ (by have := hr.lt; omega), (hr2.alloc _).setRowOther _ _ (by omega), (Row.new _ _ _).setRow _, bSetRow ((Below.refl _ _).alloc (Nat.le_refl _) _) (Nat.le_refl _) _, by simp⟩ ?_
  rintro w3 ⟨hr, hr2, hr3, hB3, hs3⟩
  have hB := Below.trans hB (hB3.mono (by omega))
  obtain ⟨g3, hg3⟩ : ∃ g, g = w1.heap.size := ⟨_, rfl⟩
  rw [← hg3] at hr3 hs3 ⊢
  have hlt3 := hr3.lt
  have hg30 : w.heap.size + 2 ≤ g3 := by omega
  clear hB3 hs3 hlt3 hs0 hs1 hlt2 hg3
  go_upto_region 2 with (fail)
  go_wp2_with fail
  go_loopg [4] certs.length (fun g iv wr => ∃ (i : Nat) (v : Value), g + i = certs.length ∧ iv = .int .i64 (i : Int) ∧ Row wr w.heap.size 30 C ∧ Row wr (w.heap.size + 1) 25 zMsg ∧ Row wr g3 25 (mD k r mk [S s1, S s2, S s3, S s4, S s5, v, .int .i64 life, .int .i64 age, .bool psk, .bool retry]) ∧ StrB wr (g3 + 1) v (certs.take i) ∧ Below w.heap.size w wr)
  case atStart => exact ⟨0, _, by omega, rfl, hr, hr2, hr3, by rw [List.take_zero]; exact StrB.nil _ _, hB⟩
  case round =>
    clear hr hr2 hr3 hB
    obtain ⟨i, v, hi, rfl, hr, hr2, hr3, hO, hB⟩ := hrel
    have hBs := hB.size
    have g3lt := hr3.lt
    have sv : isSliceV v = true := hO.shape
    by_cases h : i < certs.length
    · obtain ⟨_, _, e1, l1, l2, h1⟩ := HP.out
      simp only [Value.slice.injEq] at e1
      obtain ⟨p, o, u, ha, hcell, hsu⟩ := h1 i h
      have ha' := e1.1.trans ha
      subst ha'
      have x0 : (0 : Int) ≤ (i : Int) := by omega
      have x1 : (i : Int) < (certs.length : Int) := by omega
      have x3 : ((i : Int)).toNat = i := by omega
      have hbd : (i : Int) + 1 ≤ 9223372036854775807 := by omega
      have hst : certs.take i ++ [certs.getD i []] = certs.take (i + 1) := by
        rw [List.take_succ_eq_append_getElem h, List.getD_eq_getElem?_getD, List.getElem?_eq_getElem h]; rfl
      have hcs : (certs.take i).length + [certs.getD i []].length ≤ 1000000 := by rw [List.length_take]; simp; omega
      obtain ⟨q, hq⟩ : ∃ q, q = certs.getD i [] := ⟨_, rfl⟩
      rw [← hq] at hst hcs hsu
      obtain ⟨X, hX⟩ : ∃ X, X = certs.take i := ⟨_, rfl⟩
      rw [← hX] at hO hst hcs
      have hBd := hB.drew
      have HL := Lib.hid (fun (w2 : World) (hb2 : Below wr.drew.heap.size wr.drew w2) => (((hBd.trans (hb2.mono hBd.size)).cell (World.block_lt_of_cell? w _ hcell)).trans hcell))
      have HSU := Lib.hid (hsu.below hBd)
      have HST := Lib.hid hst
      have HCS := Lib.hid hcs
      have su := hsu.shape
      clear hst hcs hq hX hcell e1 h1 ha l1 l2 hsu
      obtain ⟨D, hD⟩ : ∃ D, D = mD k r mk [S s1, S s2, S s3, S s4, S s5, v, .int .i64 life, .int .i64 age, .bool psk, .bool retry] := ⟨_, rfl⟩
      have f70 : D[70]? = some v := by rw [hD]; exact mD_70
      rw [← hD] at hr3
      have hrd := hr.drew
      have hr3d := hr3.drew
      have ov := (one_slice sv).1
      go_upto_region 5 with (fail)
      (refine wp_region_freeD 9 [50] [] shp (phi _ [(50, .str [q])]) (by kernel_rfl) (by kernel_rfl) (by kernel_rfl) (phi_stab _ _) (phi_shp _ _) shp_inh ?_; simp only [List.take_succ_cons, List.take_zero, List.drop_succ_cons, List.drop_zero]; apply Exists.intro; apply Exists.intro; refine ⟨?_, ?_, ?_⟩)
      · intro ν hν
        iterate 6 (apply wpF_q rfl; focus (intro C hC hG; (first | go_big_quiet_skip | (go_big_quiet_want; go_big_quiet_op; first | go_big_quiet_on | (refine ⟨_, fun _ _ => rfl, ?_⟩; go_big_quiet_on)) | (go_big_quiet_want; apply qf_load1 _ _ rfl _ _ rfl; (exact hC); rotate_left 1; (focus (intro _; simp [go_sem]; done)); rotate_right 1; assumption; assumption; (simp only [Act.put, lS]; go_big_quiet_on)) | (go_big_quiet_want; apply qf_loadA _ _ rfl _ _ rfl (sz := 32); (exact hC); rotate_left 1; (focus (intro _; simp [go_sem]; done)); (focus (intro _; simp [go_sem]; done)); rotate_right 1; assumption; assumption; assumption; (simp only [Act.put, lS]; go_big_quiet_on))); exact wpQuiet_nil rfl))
        (apply wpF_q rfl; focus (intro C hC hG; go_big_quiet_want; apply qf_loadC; (focus rfl); (focus rfl); (exact hC); (focus (intro _; simp [go_sem]; done)); (exact (fun w1 hb1 => HL.out w1 hb1)); (simp only [Act.put, lS]; go_big_quiet_on); exact wpQuiet_nil rfl))
        (apply wpF_q rfl; focus (intro C hC hG; go_big_quiet_want; apply qf_conv; (focus rfl); (exact hC); (focus rfl); (exact Try.underlying27); (exact Try.underlying5); (exact Try.underlying9); (exact (fun w hB' _ => HSU.out.below hB')); (simp only [Act.put, lS]; go_big_quiet_on); exact wpQuiet_nil rfl))
        (refine wpF_strs [q] _ rfl (by rfl) (by simp) (by simp) rfl rfl (fun d hd => by cases hd; rfl) ?_; (simp only [Act.put, vqF, pS]))
        exact wpF_nil ⟨rfl, rfl⟩
      · intro ν ν'; kernel_rfl
      intro ν w2 hν hB2 hDD
      have f50 := Lib.hid (phi_get (k := .str [q]) (hDD 50 (by simp)) rfl)
      have s50 : isSliceV (ν 50) = true := hν 50
      have hr := Row.below hrd hB2 hrd.lt
      have hr2 := Row.below hr2.drew hB2 hr2.lt
      have hr3 := Row.below hr3d hB2 hr3d.lt
      have hO := Lib.hid ((hO.grow ((Below.refl _ wr).drew)).grow hB2)
      have hB := Below.trans hBd (hB2.mono hBd.size)
      have hBs2 := hB2.size
      have hg3w : g3 + 1 ≤ w2.heap.size := Nat.le_trans g3lt hBs2
      obtain ⟨u50, hu50⟩ : ∃ u, u = ν 50 := ⟨_, rfl⟩
      rw [← hu50] at f50 s50 ⊢
      clear hu50 hDD hν hB2 hBd hrd hr3d HL hBs2
      go_wp2_with (at_builtin; refine wpl_appendStr rfl (.tmp 43) (.tmp 50) rfl (g3 + 1) _ X rfl hO.out _ [q] rfl f50.out HCS.out hg3w ?_)
      intro v' w' hO' hg'
      have hB' : Below w.heap.size w w' := hO.out.below2 (by omega) hB (Nat.le_refl _) hg'
      have hr := hO.out.row hg' hr (by decide)
      have hr2 := hO.out.row hg' hr2 (by decide)
      have hr3 := hO.out.row hg' hr3 (by decide)
      have sv' : isSliceV v' = true := hO'.shape
      have ov' := (one_slice sv').1
      have hmv : D.setIfInBounds 70 v' = mD k r mk [S s1, S s2, S s3, S s4, S s5, v', .int .i64 life, .int .i64 age, .bool psk, .bool retry] := by rw [hD]; exact mD_s70
      try simp only [Act.put, lS]
      refine wpl_val rfl (.pointer (some ⟨g3, 70, none⟩)) ?_ ?_
      · simp [go_sem]
      try simp only [Act.put, lS]
      refine wpl_storeC rfl 23 (.tmp 52) (.tmp 51) rfl rfl g3 70 v' rfl rfl ov' (by kernel_rfl) hr3 (by rw [hD, mD_sz]; decide) ?_
      refine gen_wpl (fun w4 => Row w4 w.heap.size 30 C ∧ Row w4 (w.heap.size + 1) 25 zMsg ∧ Row w4 g3 25 (mD k r mk [S s1, S s2, S s3, S s4, S s5, v', .int .i64 life, .int .i64 age, .bool psk, .bool retry]) ∧ StrB w4 (g3 + 1) v' (certs.take (i + 1)) ∧ Below w.heap.size w w4) ⟨hr.setOther ⟨g3, 70, none⟩ v' (show w.heap.size ≠ g3 by omega), hr2.setOther ⟨g3, 70, none⟩ v' (show w.heap.size + 1 ≠ g3 by omega), hmv ▸ hr3.set 70 v', HST.out ▸ hO'.keptT (grownBy_setC w' g3 70 v') hr3 (by decide), hB'.setCell (p := ⟨g3, 70, none⟩) (show w.heap.size ≤ g3 by omega) v'⟩ ?_
      clear hO' hg' hB hr hr2 hr3 hB' hO hD f70 hmv
      rintro w4 ⟨hra, hrb, hrc, hO2, hbb⟩
      have hO2 := Lib.hid hO2
      have hrc := Lib.hid hrc
      go_wp2_with fail
      go_roundg (gk - 1)
      case measure => omega
      case rel => exact ⟨i + 1, v', by omega, by go_num, hra, hrb, hrc.out, hO2.out, hbb⟩
    · obtain rfl : i = certs.length := by omega
      have x1 : ¬ (certs.length : Int) < (certs.length : Int) := by omega
      rw [List.take_length] at hO
      have hO := Lib.hid hO
      have ov := (one_slice sv).1
      go_wp2_with fail
      have hg := grownBy_setRow wr (w.heap.size + 1) (mD k r mk [S s1, S s2, S s3, S s4, S s5, v, .int .i64 life, .int .i64 age, .bool psk, .bool retry])
      exact ret_row (.inl rfl) rfl (w.heap.size + 1) _ _ 75 _ rfl (hr2.setRow _) Try.underlying25 rfl (by kernel_rfl) mD_sz ⟨v, rfl, (hO.out.keptT hg hr2 (by decide)).low (by omega), bSetRow hB (by omega) _⟩
end Go.Proofs.Ytnenoecmmelehaa
