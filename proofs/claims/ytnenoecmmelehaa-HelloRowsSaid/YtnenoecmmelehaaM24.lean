/- Part of the proof: HToB. No conditions of its own. -/
import Derived.Below
import Derived.BigQuiet
import Derived.ChangeOld
import Derived.Deep.CutBlock
import Derived.Deep.DeepCutAuto
import Derived.Deep.Draws
import Derived.Deep.LoopGhost
import Derived.Deep.Quiet
import Derived.Deep.QuietTactic
import Derived.Deep.RegionLaw
import Derived.Great.BuildSlice
import Derived.Great.FillDense
import Derived.Laws.AppendOwn
import Derived.Laws.AppendOwnNone
import Derived.Laws.BytesArg
import Derived.Laws.Concat
import Derived.Laws.MakeOwn
import Derived.Lib.AppendZerosOnto
import Derived.Lib.BufferWrite
import Derived.Lib.ConvBytes
import Derived.Lib.Hide
import Derived.Lib.SlBytesConst
import Derived.OpenShut
import Derived.ProofKit
import Derived.ShutString
import Derived.StillTail
import Derived.Stop.BytesEq
import Derived.Test.YtnenoecmmelehaaProg
import Derived.WalkKit
import Derived.WalkLawsBesides
import Derived.WalkSpells
import Derived.Test.YtnenoecmmelehaaM22
import Derived.Test.YtnenoecmmelehaaM23
namespace Go.Proofs.Ytnenoecmmelehaa
open Go.RowKit
set_option linter.unusedVariables false

theorem wpl_allocT {ops : Array Oper} {rest : List Oper} {o : Oper} {a : Act} {w : World} {Q : Exit → Act → World → Prop} (T : TypeId) (Z : Array Value) (ho : o.op = .alloc T) (hgd : o.guard = none) (hz : ∀ w, (zeroValue T).run Try.prog w = .ok (.agg Z) w)
    (h : wpList Try.prog ops Q rest (a.put o.dst (.pointer (some ⟨w.heap.size, 0, none⟩))) (w.alloc (.cells Z T))) : wpList Try.prog ops Q (o :: rest) a w :=
  wpList_plain hgd fun _ hK => by
    have hrun : (execOp a.eval o).run Try.prog w = .ok (.value (.pointer (some ⟨w.heap.size, 0, none⟩))) (w.alloc (.cells Z T)) := by
      obtain ⟨dst, op, type, pos, after, guard⟩ := o
      dsimp only at ho
      subst ho
      have hz := hz w
      simp [go_sem, hz]
    unfold Oper.wp
    rw [hrun]
    exact hK _ _ h
theorem wpl_storeT {ops : Array Oper} {rest : List Oper} {o : Oper} {a : Act} {w : World} {Q : Exit → Act → World → Prop} (T : TypeId) (x y : Operand) (ho : o.op = .store T x y) (hgd : o.guard = none) (hd : o.dst = none) (g : Nat) (hx : a.eval x = .pointer (some ⟨g, 0, none⟩)) (C : Array Value) (hy : a.eval y = .agg C) (n : Nat) (hv : C.size = n) (hsz : ∀ w, (sizeOf T).run Try.prog w = .ok n w) (h1 : allOne C = true) (t : TypeId) (cs : Array Value) (hr : Row w g t cs) (hc : cs.size = n)
    (h : wpList Try.prog ops Q rest (a.put none undef) (w.setRow g C)) : wpList Try.prog ops Q (o :: rest) a w :=
  wpList_plain hgd fun _ hK => by
    have hrun : (execOp a.eval o).run Try.prog w = .ok .skip (w.setRow g C) := by
      obtain ⟨dst, op, type, pos, after, guard⟩ := o
      dsimp only at ho
      subst ho
      have := run_store_r (P := Try.prog) a.eval dst T x y type pos after guard w (by rw [hy]; rfl) (by rw [hx]; rfl) (by rw [hx, blkOf_mk, hr]; rfl) (by rw [hy, cells_agg, hv]; exact hsz w) (by rw [hx, hy, cells_agg, hv, offOf_mk, blkOf_mk, rowSize, hr]; simp [hc]) (by rw [hy, cells_agg]; exact h1)
      rw [this, hx, hy, blkOf_mk, offOf_mk, cells_agg, rowCells, hr]
      simp only [Option.map_some, Option.getD_some]
      rw [over_all _ _ (hc.trans hv.symm)]
    have h1 : wpList Try.prog ops Q rest (a.put o.dst undef) (w.setRow g C) := by rw [hd]; exact h
    unfold Oper.wp
    rw [hrun]
    exact hK _ _ h1
theorem wpl_storeC {ops : Array Oper} {rest : List Oper} {o : Oper} {a : Act} {w : World} {Q : Exit → Act → World → Prop} (hgd : o.guard = none) (T : TypeId) (x y : Operand) (ho : o.op = .store T x y) (hd : o.dst = none) (g i : Nat) (v : Value) (hx : a.eval x = .pointer (some ⟨g, i, none⟩)) (hy : a.eval y = v) (h1 : v.oneCell' = true) (hsz : (Try.prog.info? T).map (·.size) = some 1) {t : TypeId} {cs : Array Value} (hr : Row w g t cs) (hi : i < cs.size)
    (h : wpList Try.prog ops Q rest a (w.setCell ⟨g, i, none⟩ v)) : wpList Try.prog ops Q (o :: rest) a w :=
  wpList_plain hgd fun _ hK => by
    have hc : w.cell? ⟨g, i, none⟩ = some cs[i] := by rw [hr.cell, Array.getElem?_eq_getElem hi]
    have := run_storeCells_cells (P := Try.prog) g i [v] 0 w (fun j hj => by
      obtain rfl : j = 0 := by simpa using hj
      rw [show i + 0 + 0 = i from rfl, hc]; rfl) (fun j hj => by
      obtain rfl : j = 0 := by simpa using hj
      exact hr.frozen i) (fun u hu => by obtain rfl : u = v := by simpa using hu
                                         exact h1)
    have hcc : v.cells = #[v] := by cases v <;> first | rfl | cases h1
    have hrun : (execOp a.eval o).run Try.prog w = .ok .skip (w.setCell ⟨g, i, none⟩ v) := by
      unfold execOp
      simp only [ho, hx, hy, Instr.storeAt, Instr.sureAddr, Sem.run_bind, Sem.run_pure, Result.andThen_ok]
      cases hq : Try.prog.info? T with
      | none => simp [hq] at hsz
      | some j =>
        have hs : j.size = 1 := by simpa [hq] using hsz
        simp only [Nat.add_zero] at this
        simp [storeVar, sizeOf, typeInfo, hq, hcc, hs, this]
        rfl
    have h2 : wpList Try.prog ops Q rest (a.put o.dst undef) (w.setCell ⟨g, i, none⟩ v) := by rw [hd]; exact h
    unfold Oper.wp
    rw [hrun]
    exact hK _ _ h2
theorem grownBy_setRow (w : World) (g : Nat) (cs : Array Value) : w.grownBy (w.setRow g cs) (some g) := by
  have h := bSetRow (Below.refl 0 w) (Nat.zero_le g) cs
  exact ⟨h.os, h.tape, h.output, h.size, fun k _ hne => setRow_other w g k cs (fun e => hne (by rw [e]))⟩
theorem SlT.keptT {w w' : World} {v : Value} {l : List UInt8} (h : SlT w v l) {g : Nat} {t : TypeId} {cs : Array Value} (hg : w.grownBy w' (some g)) (hr : Row w g t cs) (ht : t ≠ 5) : SlT w' v l := by
  have key : ∀ ad, addrV v = some ad → w'.heap[ad.block]? = w.heap[ad.block]? := fun ad had => by
    obtain ⟨cs', f, hf⟩ := h.2 ad had
    refine hg.block _ (Array.getElem?_eq_some_iff.1 hf).1 fun e => ?_
    have e : ad.block = g := Option.some.inj e
    rw [e, hr.heap] at hf
    simp only [Option.some.injEq, Obj.cells.injEq] at hf
    exact ht hf.2.1
  refine ⟨?_, fun ad had => by rw [key ad had]; exact h.2 ad had⟩
  obtain ⟨⟨a, cap, e, h1, h2, h3, h4⟩, _⟩ := h
  refine ⟨a, cap, e, h1, h2, h3, fun ad had => ⟨(h4 ad had).1, fun i hi => ?_⟩⟩
  have := key ad (by rw [e]; exact had)
  rw [show w'.cell? ⟨ad.block, ad.off + i, none⟩ = w.cell? ⟨ad.block, ad.off + i, none⟩ by simp [World.cell?, this]]
  exact (h4 ad had).2 i hi
theorem RowT.keptT {w w' : World} {g : Nat} {t : TypeId} {cs : Array Value} (hg : w.grownBy w' (some g)) (hr : Row w g t cs) (ht : t ≠ 5) : ∀ {vs : List Value} {ls : List (List UInt8)}, RowT w vs ls → RowT w' vs ls
  | [], [], _ => trivial
  | _ :: _, _ :: _, h => ⟨h.1.keptT hg hr ht, RowT.keptT hg hr ht h.2⟩
  | [], _ :: _, h => h.elim
  | _ :: _, [], h => h.elim
theorem OwnP.keptT {w w' : World} {base : Nat} {v : Value} {ls : List (List UInt8)} (h : OwnP w base v ls) {g : Nat} {t : TypeId} {cs : Array Value} (hg : w.grownBy w' (some g)) (hr : Row w g t cs) (ht : t ≠ 5) (ht2 : t ≠ 27) : OwnP w' base v ls := by
  obtain ⟨vs, h1, h2⟩ := h
  exact ⟨vs, World.ownsRow.kept h1 hg (.inr (ownsRow_ne h1 hr ht2)), h2.keptT hg hr ht⟩
theorem OwnP.low {w : World} {base b : Nat} {v : Value} {ls : List (List UInt8)} (h : OwnP w base v ls) (hb : b ≤ base) : OwnP w b v ls := by
  obtain ⟨vs, h1, h2⟩ := h
  exact ⟨vs, ⟨h1.1, h1.2.imp id fun ⟨g, cap, cur, hv, hg, h3⟩ => ⟨g, cap, cur, hv, Nat.le_trans hb hg, h3⟩⟩, h2⟩
theorem siz_hmsg (w : World) : (sizeOf 30).run Try.prog w = .ok 75 w := by kernel_rfl
theorem mD_oneL {k : Int} {r mk : List UInt8} {l : List Value} (h : ∀ v, v ∈ l → v.oneCell' = true) : allOne (mD k r mk l) = true := mC_one h
def Five (w : World) (u1 u2 u3 u4 u5 : Value) (s1 s2 s3 s4 s5 : List UInt8) : Prop := SlT w u1 s1 ∧ SlT w u2 s2 ∧ SlT w u3 s3 ∧ SlT w u4 s4 ∧ SlT w u5 s5
section
variable {w w' : World} {u1 u2 u3 u4 u5 : Value} {s1 s2 s3 s4 s5 : List UInt8} (h : Five w u1 u2 u3 u4 u5 s1 s2 s3 s4 s5)
include h in
theorem Five.soft (hs : Soft w w') : Five w' u1 u2 u3 u4 u5 s1 s2 s3 s4 s5 := ⟨h.1.soft hs, h.2.1.soft hs, h.2.2.1.soft hs, h.2.2.2.1.soft hs, h.2.2.2.2.soft hs⟩
include h in
theorem Five.kept {own : Option Nat} (hg : w.grownBy w' own) (ht : ∀ g, own = some g → ∃ cs f, w.heap[g]? = some (.cells cs 27 f)) : Five w' u1 u2 u3 u4 u5 s1 s2 s3 s4 s5 :=
  ⟨h.1.kept hg ht, h.2.1.kept hg ht, h.2.2.1.kept hg ht, h.2.2.2.1.kept hg ht, h.2.2.2.2.kept hg ht⟩
include h in
theorem Five.setCell {g : Nat} {t : TypeId} {cs : Array Value} (hr : Row w g t cs) (ht : t ≠ 5) (i : Nat) (u : Value) : Five (w.setCell ⟨g, i, none⟩ u) u1 u2 u3 u4 u5 s1 s2 s3 s4 s5 :=
  ⟨h.1.setCell hr ht i u, h.2.1.setCell hr ht i u, h.2.2.1.setCell hr ht i u, h.2.2.2.1.setCell hr ht i u, h.2.2.2.2.setCell hr ht i u⟩
end
theorem OwnP.typ {w : World} {base : Nat} {v : Value} {ls : List (List UInt8)} (h : OwnP w base v ls) : ∀ g, v.ownBlock = some g → ∃ cs f, w.heap[g]? = some (.cells cs 27 f) := fun g hg => by
  obtain ⟨vs, ⟨_, h2⟩, _⟩ := h
  rcases h2 with ⟨rfl, _⟩ | ⟨g', cap, cur, rfl, _, hh, _⟩
  · cases hg
  · obtain rfl := Option.some.inj hg
    exact ⟨cur, (0, 0), hh⟩
theorem OwnP.row {w w' : World} {base : Nat} {v : Value} {ls : List (List UInt8)} (h : OwnP w base v ls) (hg : w.grownBy w' v.ownBlock) {g : Nat} {t : TypeId} {cs : Array Value} (hr : Row w g t cs) (ht : t ≠ 27) : Row w' g t cs := by
  refine (row_congr (hg.block g hr.lt fun e => ?_)).trans hr
  obtain ⟨cs', f, hf⟩ := h.typ g e.symm
  rw [hr.heap] at hf
  simp only [Option.some.injEq, Obj.cells.injEq] at hf
  exact ht hf.2.1
set_option maxRecDepth 100000 in
set_option maxHeartbeats 4000000 in
theorem to_any (k : Int) (r mk s1 s2 s3 s4 s5 : List UInt8) (ac : Option Addr) (cc : Nat) (certs : List (List UInt8)) (life age : Int) (psk retry : Bool) (w : World) (hp : StrsAt w (.slice ac certs.length cc) certs) (b1 : s1.length ≤ 1000000) (b2 : s2.length ≤ 1000000) (b3 : s3.length ≤ 1000000) (b4 : s4.length ≤ 1000000) (b5 : s5.length ≤ 1000000) (bc : certs.length ≤ 10) (hc : ∀ c, c ∈ certs → c.length ≤ 1000000) :
    Calls Try.prog 10 #[.agg (mD k r mk [S s1, S s2, S s3, S s4, S s5, .slice ac certs.length cc, .int .i64 life, .int .i64 age, .bool psk, .bool retry])] w fun e w' => ∃ v1 v2 v3 v4 v5 v6, e = .returned (.agg (mD k r mk [v1, v2, v3, v4, v5, v6, .int .i64 life, .int .i64 age, .bool psk, .bool retry])) ∧ SlT w' v1 s1 ∧ SlT w' v2 s2 ∧ SlT w' v3 s3 ∧ SlT w' v4 s4 ∧ SlT w' v5 s5 ∧ OwnP w' w.heap.size v6 certs ∧ Below w.heap.size w w' := by
  have HP := Lib.hid hp
  have HC := Lib.hid hc
  clear hp hc
  go_enter Try.func10, Try.ntmps10
  go_upto_region 1 with (fail)
  refine gen_wp (fun w0 => Row w0 w.heap.size 25 (mD k r mk [S s1, S s2, S s3, S s4, S s5, .slice ac certs.length cc, .int .i64 life, .int .i64 age, .bool psk, .bool retry]) ∧ Row w0 (w.heap.size + 1) 30 zH ∧ Below w.heap.size w w0) ⟨by show row _ _ = _; simp [go_sem], by show row _ _ = _; simp [go_sem], by (repeat (first | (with_reducible exact Below.refl _ _) | ((with_reducible first | refine bSetRow ?_ ?_ _ | refine Below.alloc ?_ ?_ _ | refine Below.setCell ?_ ?_ _); rotate_left 1; (focus (first | (simp; done) | (simp; omega)))) | (with_reducible refine Below.drew ?_)))⟩ ?_
  rintro w0 ⟨hr, hr2, hB⟩
  obtain ⟨C, hC⟩ : ∃ C, C = mD k r mk [S s1, S s2, S s3, S s4, S s5, .slice ac certs.length cc, .int .i64 life, .int .i64 age, .bool psk, .bool retry] := ⟨_, rfl⟩
  have g0 : C[0]? = some (.int .i64 k) := by rw [hC]; exact mD_0
  have g65 : C[65]? = some (S s1) := by rw [hC]; exact mD_65
  have g66 : C[66]? = some (S s2) := by rw [hC]; exact mD_66
  have g67 : C[67]? = some (S s3) := by rw [hC]; exact mD_67
  have g68 : C[68]? = some (S s4) := by rw [hC]; exact mD_68
  have g69 : C[69]? = some (S s5) := by rw [hC]; exact mD_69
  have g70 : C[70]? = some (.slice ac certs.length cc) := by rw [hC]; exact mD_70
  have g71 : C[71]? = some (.int .i64 life) := by rw [hC]; exact mD_71
  have g72 : C[72]? = some (.int .i64 age) := by rw [hC]; exact mD_72
  have g73 : C[73]? = some (.bool psk) := by rw [hC]; exact mD_73
  have g74 : C[74]? = some (.bool retry) := by rw [hC]; exact mD_74
  have gR : sub C 1 32 = AB (fx r) := by rw [hC]; exact mD_R
  have gM : sub C 33 32 = AB (fx mk) := by rw [hC]; exact mD_M
  have z1 : 1 + 32 ≤ C.size := by rw [hC, mD_sz]; decide
  have z2 : 33 + 32 ≤ C.size := by rw [hC, mD_sz]; decide
  rw [← hC] at hr ⊢
  clear hC
  (refine wp_region_seq 29 [13, 16, 19, 22, 25] [] shp (phi _ [(13, .new s1), (16, .new s2), (19, .new s3), (22, .new s4), (25, .new s5)]) (by kernel_rfl) (phi_stab _ _) (phi_shp _ _) shp_inh ?_; simp only [List.take_succ_cons, List.take_zero, List.drop_succ_cons, List.drop_zero]; apply Exists.intro; apply Exists.intro; refine ⟨?_, ?_, ?_⟩)
  · intro ν hν
    iterate 8 (apply wpF_q rfl; focus (intro C hC hG; (first | go_big_quiet_skip | (go_big_quiet_want; go_big_quiet_op; first | go_big_quiet_on | (refine ⟨_, fun _ _ => rfl, ?_⟩; go_big_quiet_on)) | (go_big_quiet_want; apply qf_load1 _ _ rfl _ _ rfl; (exact hC); rotate_left 1; (focus (intro _; simp [go_sem]; done)); rotate_right 1; assumption; assumption; (simp only [Act.put, lS]; go_big_quiet_on)) | (go_big_quiet_want; apply qf_loadA _ _ rfl _ _ rfl (sz := 32); (exact hC); rotate_left 1; (focus (intro _; simp [go_sem]; done)); (focus (intro _; simp [go_sem]; done)); rotate_right 1; assumption; assumption; assumption; (simp only [Act.put, lS]; go_big_quiet_on))); exact wpQuiet_nil rfl))
    (refine wpF_str s1 _ rfl rfl (by assumption) rfl rfl (fun d hd => by cases hd; rfl) ?_; (simp only [Act.put, vqF, pS]))
    iterate 2 (apply wpF_q rfl; focus (intro C hC hG; (first | go_big_quiet_skip | (go_big_quiet_want; go_big_quiet_op; first | go_big_quiet_on | (refine ⟨_, fun _ _ => rfl, ?_⟩; go_big_quiet_on)) | (go_big_quiet_want; apply qf_load1 _ _ rfl _ _ rfl; (exact hC); rotate_left 1; (focus (intro _; simp [go_sem]; done)); rotate_right 1; assumption; assumption; (simp only [Act.put, lS]; go_big_quiet_on)) | (go_big_quiet_want; apply qf_loadA _ _ rfl _ _ rfl (sz := 32); (exact hC); rotate_left 1; (focus (intro _; simp [go_sem]; done)); (focus (intro _; simp [go_sem]; done)); rotate_right 1; assumption; assumption; assumption; (simp only [Act.put, lS]; go_big_quiet_on))); exact wpQuiet_nil rfl))
    (refine wpF_str s2 _ rfl rfl (by assumption) rfl rfl (fun d hd => by cases hd; rfl) ?_; (simp only [Act.put, vqF, pS]))
    iterate 2 (apply wpF_q rfl; focus (intro C hC hG; (first | go_big_quiet_skip | (go_big_quiet_want; go_big_quiet_op; first | go_big_quiet_on | (refine ⟨_, fun _ _ => rfl, ?_⟩; go_big_quiet_on)) | (go_big_quiet_want; apply qf_load1 _ _ rfl _ _ rfl; (exact hC); rotate_left 1; (focus (intro _; simp [go_sem]; done)); rotate_right 1; assumption; assumption; (simp only [Act.put, lS]; go_big_quiet_on)) | (go_big_quiet_want; apply qf_loadA _ _ rfl _ _ rfl (sz := 32); (exact hC); rotate_left 1; (focus (intro _; simp [go_sem]; done)); (focus (intro _; simp [go_sem]; done)); rotate_right 1; assumption; assumption; assumption; (simp only [Act.put, lS]; go_big_quiet_on))); exact wpQuiet_nil rfl))
    (refine wpF_str s3 _ rfl rfl (by assumption) rfl rfl (fun d hd => by cases hd; rfl) ?_; (simp only [Act.put, vqF, pS]))
    iterate 2 (apply wpF_q rfl; focus (intro C hC hG; (first | go_big_quiet_skip | (go_big_quiet_want; go_big_quiet_op; first | go_big_quiet_on | (refine ⟨_, fun _ _ => rfl, ?_⟩; go_big_quiet_on)) | (go_big_quiet_want; apply qf_load1 _ _ rfl _ _ rfl; (exact hC); rotate_left 1; (focus (intro _; simp [go_sem]; done)); rotate_right 1; assumption; assumption; (simp only [Act.put, lS]; go_big_quiet_on)) | (go_big_quiet_want; apply qf_loadA _ _ rfl _ _ rfl (sz := 32); (exact hC); rotate_left 1; (focus (intro _; simp [go_sem]; done)); (focus (intro _; simp [go_sem]; done)); rotate_right 1; assumption; assumption; assumption; (simp only [Act.put, lS]; go_big_quiet_on))); exact wpQuiet_nil rfl))
    (refine wpF_str s4 _ rfl rfl (by assumption) rfl rfl (fun d hd => by cases hd; rfl) ?_; (simp only [Act.put, vqF, pS]))
    iterate 2 (apply wpF_q rfl; focus (intro C hC hG; (first | go_big_quiet_skip | (go_big_quiet_want; go_big_quiet_op; first | go_big_quiet_on | (refine ⟨_, fun _ _ => rfl, ?_⟩; go_big_quiet_on)) | (go_big_quiet_want; apply qf_load1 _ _ rfl _ _ rfl; (exact hC); rotate_left 1; (focus (intro _; simp [go_sem]; done)); rotate_right 1; assumption; assumption; (simp only [Act.put, lS]; go_big_quiet_on)) | (go_big_quiet_want; apply qf_loadA _ _ rfl _ _ rfl (sz := 32); (exact hC); rotate_left 1; (focus (intro _; simp [go_sem]; done)); (focus (intro _; simp [go_sem]; done)); rotate_right 1; assumption; assumption; assumption; (simp only [Act.put, lS]; go_big_quiet_on))); exact wpQuiet_nil rfl))
    (refine wpF_str s5 _ rfl rfl (by assumption) rfl rfl (fun d hd => by cases hd; rfl) ?_; (simp only [Act.put, vqF, pS]))
    iterate 8 (apply wpF_q rfl; focus (intro C hC hG; (first | go_big_quiet_skip | (go_big_quiet_want; go_big_quiet_op; first | go_big_quiet_on | (refine ⟨_, fun _ _ => rfl, ?_⟩; go_big_quiet_on)) | (go_big_quiet_want; apply qf_load1 _ _ rfl _ _ rfl; (exact hC); rotate_left 1; (focus (intro _; simp [go_sem]; done)); rotate_right 1; assumption; assumption; (simp only [Act.put, lS]; go_big_quiet_on)) | (go_big_quiet_want; apply qf_loadA _ _ rfl _ _ rfl (sz := 32); (exact hC); rotate_left 1; (focus (intro _; simp [go_sem]; done)); (focus (intro _; simp [go_sem]; done)); rotate_right 1; assumption; assumption; assumption; (simp only [Act.put, lS]; go_big_quiet_on))); exact wpQuiet_nil rfl))
    exact wpF_nil ⟨rfl, rfl⟩
  · intro ν ν'; kernel_rfl
  intro ν w1 hν hB1 hD
  have f1 := phi_get (k := .new s1) (hD 13 (by simp)) rfl
  have f2 := phi_get (k := .new s2) (hD 16 (by simp)) rfl
  have f3 := phi_get (k := .new s3) (hD 19 (by simp)) rfl
  have f4 := phi_get (k := .new s4) (hD 22 (by simp)) rfl
  have f5 := phi_get (k := .new s5) (hD 25 (by simp)) rfl
  obtain ⟨p1, c1, e1⟩ : ∃ p c, ν 13 = .slice p s1.length c := let ⟨a, c, h, _⟩ := f1.1; ⟨a, c, h⟩
  obtain ⟨p2, c2, e2⟩ : ∃ p c, ν 16 = .slice p s2.length c := let ⟨a, c, h, _⟩ := f2.1; ⟨a, c, h⟩
  obtain ⟨p3, c3, e3⟩ : ∃ p c, ν 19 = .slice p s3.length c := let ⟨a, c, h, _⟩ := f3.1; ⟨a, c, h⟩
  obtain ⟨p4, c4, e4⟩ : ∃ p c, ν 22 = .slice p s4.length c := let ⟨a, c, h, _⟩ := f4.1; ⟨a, c, h⟩
  obtain ⟨p5, c5, e5⟩ : ∃ p c, ν 25 = .slice p s5.length c := let ⟨a, c, h, _⟩ := f5.1; ⟨a, c, h⟩
  have hbuilt := built_h k life age r mk p1 p2 p3 p4 p5 s1.length s2.length s3.length s4.length s5.length c1 c2 c3 c4 c5 psk retry
  have hr := Row.below hr hB1 hr.lt
  have hr2 := Row.below hr2 hB1 hr2.lt
  have hs0 := hB.size
  have hs1 := hB1.size
  have hlt2 := hr2.lt
  have hB := Below.trans hB (hB1.mono hB.size)
  rw [← e1, ← e2, ← e3, ← e4, ← e5] at hbuilt
  refine wpl_val rfl (.agg (mD k r mk [ν 13, ν 16, ν 19, ν 22, ν 25, .slice none 0 0, .int .i64 life, .int .i64 age, .bool psk, .bool retry])) ?_ ?_
  · apply exec_built _ _ _ _ _ _ ?ho ?hv hbuilt
    case ho => rfl
    case hv => kernel_rfl
  simp only [Act.put, lS]
  have F1 := Lib.hid f1
  have F2 := Lib.hid f2
  have F3 := Lib.hid f3
  have F4 := Lib.hid f4
  have F5 := Lib.hid f5
  have o1 : (ν 13).oneCell' = true := (one_slice (hν 13)).1
  have o2 : (ν 16).oneCell' = true := (one_slice (hν 16)).1
  have o3 : (ν 19).oneCell' = true := (one_slice (hν 19)).1
  have o4 : (ν 22).oneCell' = true := (one_slice (hν 22)).1
  have o5 : (ν 25).oneCell' = true := (one_slice (hν 25)).1
  clear hbuilt e1 e2 e3 e4 e5 f1 f2 f3 f4 f5 hD hB1 g0 g65 g66 g67 g68 g69 g71 g72 g73 g74 gR gM z1 z2
  refine wpl_allocT 30 zH rfl rfl zero_hmsg ?_
  simp only [Act.put, lS]
  refine wpl_storeT 30 (.tmp 3) (.tmp 34) rfl rfl rfl w1.heap.size rfl _ rfl 75 mD_sz siz_hmsg (mD_oneL (fun v hv => by simp only [List.mem_cons, List.not_mem_nil, or_false] at hv; rcases hv with rfl | rfl | rfl | rfl | rfl | rfl | rfl | rfl | rfl | rfl <;> first | assumption | rfl)) _ _ (Row.new _ _ _) zH_size ?_
  simp only [Act.put]
  refine gen_wpl (fun w0 => Row w0 w.heap.size 25 C ∧ Row w0 (w.heap.size + 1) 30 zH ∧ Row w0 w1.heap.size 30 (mD k r mk [ν 13, ν 16, ν 19, ν 22, ν 25, .slice none 0 0, .int .i64 life, .int .i64 age, .bool psk, .bool retry]) ∧ Below w1.heap.size w1 w0 ∧ w0.heap.size = w1.heap.size + 1) ⟨(hr.alloc _).setRowOther _ _ (by have := hr.lt; omega), (hr2.alloc _).setRowOther _ _ (by omega), (Row.new _ _ _).setRow _, bSetRow ((Below.refl _ _).alloc (Nat.le_refl _) _) (Nat.le_refl _) _, by simp⟩ ?_
  rintro w3 ⟨hr, hr2, hr3, hB3, hs3⟩
  have h5 : Five w3 (ν 13) (ν 16) (ν 19) (ν 22) (ν 25) s1 s2 s3 s4 s5 := Five.soft ⟨F1.out, F2.out, F3.out, F4.out, F5.out⟩ (Soft.of_below hB3)
  have hB := Below.trans hB (hB3.mono (by omega))
  obtain ⟨g3, hg3⟩ : ∃ g, g = w1.heap.size := ⟨_, rfl⟩
  rw [← hg3] at hr3 hs3 ⊢
  have hlt3 := hr3.lt
  have hg30 : w.heap.size + 2 ≤ g3 := by omega
  have hb3 : g3 + 1 ≤ w3.heap.size := by omega
  generalize ν 13 = u1 at h5 hr3 o1 ⊢
  generalize ν 16 = u2 at h5 hr3 o2 ⊢
  generalize ν 19 = u3 at h5 hr3 o3 ⊢
  generalize ν 22 = u4 at h5 hr3 o4 ⊢
  generalize ν 25 = u5 at h5 hr3 o5 ⊢
  clear F1 F2 F3 F4 F5 hB3 hs3 hlt3 hs0 hs1 hlt2 hν hg3
  go_upto_region 2 with (fail)
  go_wp2_with fail
  go_loopg [4] certs.length (fun g iv wr => ∃ (i : Nat) (v : Value), g + i = certs.length ∧ iv = .int .i64 (i : Int) ∧ Row wr w.heap.size 25 C ∧ Row wr (w.heap.size + 1) 30 zH ∧ Row wr g3 30 (mD k r mk [u1, u2, u3, u4, u5, v, .int .i64 life, .int .i64 age, .bool psk, .bool retry]) ∧ OwnP wr (g3 + 1) v (certs.take i) ∧ Five wr u1 u2 u3 u4 u5 s1 s2 s3 s4 s5 ∧ Below w.heap.size w wr)
  case atStart => exact ⟨0, _, by omega, rfl, hr, hr2, hr3, by rw [List.take_zero]; exact OwnP.nil _ _, h5, hB⟩
  case round =>
    clear hr hr2 hr3 h5 hB
    obtain ⟨i, v, hi, rfl, hr, hr2, hr3, hO, h5, hB⟩ := hrel
    have hBs := hB.size
    have g3lt := hr3.lt
    have sv : isSliceV v = true := hO.parts.shape
    by_cases h : i < certs.length
    · obtain ⟨_, _, e1, l1, l2, h1⟩ := HP.out
      simp only [Value.slice.injEq] at e1
      obtain ⟨p, o, ha, hcell⟩ := h1 i h
      have ha' := e1.1.trans ha
      subst ha'
      have x0 : (0 : Int) ≤ (i : Int) := by omega
      have x1 : (i : Int) < (certs.length : Int) := by omega
      have x3 : ((i : Int)).toNat = i := by omega
      have hbd : (i : Int) + 1 ≤ 9223372036854775807 := by omega
      have hmem : certs.getD i [] ∈ certs := by
        rw [List.getD_eq_getElem?_getD, List.getElem?_eq_getElem h]
        exact List.getElem_mem h
      have hcl := HC.out _ hmem
      have hst : certs.take i ++ [certs.getD i []] = certs.take (i + 1) := by
        rw [List.take_succ_eq_append_getElem h, List.getD_eq_getElem?_getD, List.getElem?_eq_getElem h]; rfl
      have hcs : (certs.take i).length + [certs.getD i []].length ≤ 1000000 := by rw [List.length_take]; simp; omega
      obtain ⟨q, hq⟩ : ∃ q, q = certs.getD i [] := ⟨_, rfl⟩
      rw [← hq] at hcell hcl hst hcs
      obtain ⟨X, hX⟩ : ∃ X, X = certs.take i := ⟨_, rfl⟩
      rw [← hX] at hO hst hcs
      have hBd := hB.drew
      have HL := Lib.hid (fun (w2 : World) (hb2 : Below wr.drew.heap.size wr.drew w2) => (((hBd.trans (hb2.mono hBd.size)).cell (World.block_lt_of_cell? w _ hcell)).trans hcell))
      have HST := Lib.hid hst
      have HCS := Lib.hid hcs
      clear hst hcs hmem hq hX hcell e1 h1 ha l1 l2
      obtain ⟨D, hD⟩ : ∃ D, D = mD k r mk [u1, u2, u3, u4, u5, v, .int .i64 life, .int .i64 age, .bool psk, .bool retry] := ⟨_, rfl⟩
      have f70 : D[70]? = some v := by rw [hD]; exact mD_70
      rw [← hD] at hr3
      have hrd := hr.drew
      have hr3d := hr3.drew
      have ov := (one_slice sv).1
      go_upto_region 5 with (fail)
      (refine wp_region_freeD 9 [49, 50] [] shp (phi _ [(49, .new q), (50, .prn [q])]) (by kernel_rfl) (by kernel_rfl) (by kernel_rfl) (phi_stab _ _) (phi_shp _ _) shp_inh ?_; simp only [List.take_succ_cons, List.take_zero, List.drop_succ_cons, List.drop_zero]; apply Exists.intro; apply Exists.intro; refine ⟨?_, ?_, ?_⟩)
      · intro ν hν
        iterate 6 (apply wpF_q rfl; focus (intro C hC hG; (first | go_big_quiet_skip | (go_big_quiet_want; go_big_quiet_op; first | go_big_quiet_on | (refine ⟨_, fun _ _ => rfl, ?_⟩; go_big_quiet_on)) | (go_big_quiet_want; apply qf_load1 _ _ rfl _ _ rfl; (exact hC); rotate_left 1; (focus (intro _; simp [go_sem]; done)); rotate_right 1; assumption; assumption; (simp only [Act.put, lS]; go_big_quiet_on)) | (go_big_quiet_want; apply qf_loadA _ _ rfl _ _ rfl (sz := 32); (exact hC); rotate_left 1; (focus (intro _; simp [go_sem]; done)); (focus (intro _; simp [go_sem]; done)); rotate_right 1; assumption; assumption; assumption; (simp only [Act.put, lS]; go_big_quiet_on))); exact wpQuiet_nil rfl))
        (apply wpF_q rfl; focus (intro C hC hG; go_big_quiet_want; apply qf_loadC; (focus rfl); (focus rfl); (exact hC); (focus (intro _; simp [go_sem]; done)); (exact (fun w1 hb1 => HL.out w1 hb1)); (simp only [Act.put, lS]; go_big_quiet_on); exact wpQuiet_nil rfl))
        (refine wpF_str q _ rfl rfl (by assumption) rfl rfl (fun d hd => by cases hd; rfl) ?_; (simp only [Act.put, vqF, pS]))
        (refine wpF_prn [ν 49] [q] _ rfl (by rfl) (by simp) (by simp) ?_ (fun w hB hk => ⟨hk 49 (by simp) rfl, trivial⟩) rfl rfl (fun d hd => by cases hd; rfl) ?_; (focus (intro v hv; simp only [List.mem_cons, List.not_mem_nil, or_false] at hv; (first | subst hv | (rcases hv with rfl | rfl)); all_goals first | rfl | assumption | exact hν _)); (simp only [Act.put, vqF, pS]))
        exact wpF_nil ⟨rfl, rfl⟩
      · intro ν ν'; kernel_rfl
      intro ν w2 hν hB2 hDD
      have f50 := Lib.hid (phi_get (k := .prn [q]) (hDD 50 (by simp)) rfl)
      have s50 : isSliceV (ν 50) = true := hν 50
      have hr := Row.below hrd hB2 hrd.lt
      have hr2 := Row.below hr2.drew hB2 hr2.lt
      have hr3 := Row.below hr3d hB2 hr3d.lt
      have hO := Lib.hid ((hO.soft ((Below.refl _ wr).drew)).soft hB2)
      have h5 := (h5.soft (Soft.of_below ((Below.refl _ wr).drew))).soft (Soft.of_below hB2)
      have hB := Below.trans hBd (hB2.mono hBd.size)
      have hBs2 := hB2.size
      have hg3w : g3 + 1 ≤ w2.heap.size := Nat.le_trans g3lt hBs2
      obtain ⟨u50, hu50⟩ : ∃ u, u = ν 50 := ⟨_, rfl⟩
      rw [← hu50] at f50 s50 ⊢
      clear hu50 hDD hν hB2 hBd hrd hr3d HL hBs2
      generalize ν 49 = u49
      go_wp2_with (at_builtin; refine wpl_appendP rfl (.tmp 43) (.tmp 50) rfl (g3 + 1) _ X rfl hO.out _ [q] rfl f50.out HCS.out hg3w ?_)
      intro v' w' hO' hg'
      have hB' : Below w.heap.size w w' := hO.out.below (by omega) hB (Nat.le_refl _) hg'
      have hr := hO.out.row hg' hr (by decide)
      have hr2 := hO.out.row hg' hr2 (by decide)
      have hr3 := hO.out.row hg' hr3 (by decide)
      have h5 := h5.kept hg' hO.out.typ
      have sv' : isSliceV v' = true := hO'.parts.shape
      have ov' := (one_slice sv').1
      have hmv : D.setIfInBounds 70 v' = mD k r mk [u1, u2, u3, u4, u5, v', .int .i64 life, .int .i64 age, .bool psk, .bool retry] := by rw [hD]; exact mD_s70
      try simp only [Act.put, lS]
      refine wpl_val rfl (.pointer (some ⟨g3, 70, none⟩)) ?_ ?_
      · simp [go_sem]
      try simp only [Act.put, lS]
      refine wpl_storeC rfl 28 (.tmp 52) (.tmp 51) rfl rfl g3 70 v' rfl rfl ov' (by kernel_rfl) hr3 (by rw [hD, mD_sz]; decide) ?_
      refine gen_wpl (fun w4 => Row w4 w.heap.size 25 C ∧ Row w4 (w.heap.size + 1) 30 zH ∧ Row w4 g3 30 (mD k r mk [u1, u2, u3, u4, u5, v', .int .i64 life, .int .i64 age, .bool psk, .bool retry]) ∧ OwnP w4 (g3 + 1) v' (certs.take (i + 1)) ∧ Five w4 u1 u2 u3 u4 u5 s1 s2 s3 s4 s5 ∧ Below w.heap.size w w4) ⟨hr.setOther ⟨g3, 70, none⟩ v' (show w.heap.size ≠ g3 by omega), hr2.setOther ⟨g3, 70, none⟩ v' (show w.heap.size + 1 ≠ g3 by omega), hmv ▸ hr3.set 70 v', HST.out ▸ hO'.setCell hr3 (by decide) (by decide) 70 v', h5.setCell hr3 (by decide) 70 v', hB'.setCell (p := ⟨g3, 70, none⟩) (show w.heap.size ≤ g3 by omega) v'⟩ ?_
      clear hO' hg' hB hr hr2 hr3 h5 hB' hO hD f70 hmv
      rintro w4 ⟨hra, hrb, hrc, hO2, h52, hbb⟩
      have hO2 := Lib.hid hO2
      have h52 := Lib.hid h52
      have hrc := Lib.hid hrc
      go_wp2_with fail
      go_roundg (gk - 1)
      case measure => omega
      case rel => exact ⟨i + 1, v', by omega, by go_num, hra, hrb, hrc.out, hO2.out, h52.out, hbb⟩
    · obtain rfl : i = certs.length := by omega
      have x1 : ¬ (certs.length : Int) < (certs.length : Int) := by omega
      rw [List.take_length] at hO
      have hO := Lib.hid hO
      have h5 := Lib.hid h5
      have ov := (one_slice sv).1
      go_wp2_with fail
      have hg := grownBy_setRow wr (w.heap.size + 1) (mD k r mk [u1, u2, u3, u4, u5, v, .int .i64 life, .int .i64 age, .bool psk, .bool retry])
      have h5 := h5.out
      exact ret_row (.inl rfl) rfl (w.heap.size + 1) _ _ 75 _ rfl (hr2.setRow _) Try.underlying30 rfl (by kernel_rfl) mD_sz ⟨u1, u2, u3, u4, u5, v, rfl, h5.1.keptT hg hr2 (by decide), h5.2.1.keptT hg hr2 (by decide), h5.2.2.1.keptT hg hr2 (by decide), h5.2.2.2.1.keptT hg hr2 (by decide), h5.2.2.2.2.keptT hg hr2 (by decide), (hO.out.keptT hg hr2 (by decide) (by decide)).low (by omega), bSetRow hB (by omega) _⟩
end Go.Proofs.Ytnenoecmmelehaa
