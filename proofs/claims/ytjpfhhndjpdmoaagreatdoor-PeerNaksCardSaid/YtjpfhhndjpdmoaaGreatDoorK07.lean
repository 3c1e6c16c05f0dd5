/- Part of the proof: EvX. No conditions of its own. -/
import Derived.Below
import Derived.KernelRfl
import Derived.Laws.BytesArg
import Derived.Laws.CopyRow
import Derived.Laws.NewFold
import Derived.Laws.Strings
import Derived.Lib.ConvBytes
import Derived.Orders
import Derived.RowKit3
import Derived.Test.YtjpfhhndjpdmoaaGreatDoorK04
import Derived.Test.YtjpfhhndjpdmoaaGreatDoorK06
namespace Go.Proofs.YtjpfhhndjpdmoaaGreatDoor
open Go.RowKit
set_option linter.unusedVariables false
set_option linter.unusedSimpArgs false

section
variable {P : Program} {nB B : Nat} {w0 : World} {ν : Env} {T : Tr LV} {H : Hp} {nx : Nat} {w : World} {out : Out}
theorem ov_of {a : Act} {o : Option Operand} (h : ∀ x ∈ o.toList, ∀ l, opd P T x = some l → VR ν l (a.eval x)) (hn : ∀ x ∈ o.toList, opd P T x ≠ none) : OV ν (o.bind (opd P T)) (o.map a.eval) := by
  cases o with
  | none => trivial
  | some x =>
    have h1 := hn x (by simp)
    simp only [Option.bind_some, Option.map_some]
    cases hx : opd P T x with
    | none => exact absurd hx h1
    | some l => exact h x (by simp) l hx
theorem opds_some : ∀ {xs : List Operand} {ls : List LV}, opds P T xs = some ls → ∀ x ∈ xs, opd P T x ≠ none
  | [], ls, _, x, hx => by cases hx
  | y :: xs, ls, h, x, hx => by
    simp only [opds] at h
    split at h
    · rename_i l hl
      simp only [Option.map_eq_some_iff] at h
      obtain ⟨ls', h1, _⟩ := h
      rcases List.mem_cons.1 hx with rfl | hx
      · rw [hl]; simp
      · exact opds_some h1 x hx
    · cases h
set_option maxHeartbeats 1000000 in
theorem leaf_ok {callf : FuncId → List LV → Hp → Nat → Option Out} {a : Act} {o : Oper} (h : evOpB P nB callf T H nx o = some out) (hcall : ∀ c f, o.op = .call c → c.callee ≠ .value f)
    (hT : ∀ x ∈ o.op.operands.toList, ∀ l, opd P T x = some l → VR ν l (a.eval x)) (hν : ∀ i, nx ≤ i → i < out.nx → ν i = none) (hH : HRF ν H out.foot w) (hlow : LowF nB B ν H out.foot) (hid : ∀ i k, H.get i = some k → i < nx) (hb : Below B w0 w) (hB : B ≤ w0.heap.size) :
    Does P nB B w0 ν H nx out w a o := by
  obtain ⟨dst, op, type, pos, after, guard⟩ := o
  have hν1 : out.nx = nx + 1 → ν nx = none := fun e => hν nx (Nat.le_refl _) (by omega)
  cases op with
  | move x =>
    simp only [evOpB] at h
    split at h
    · rename_i l hl
      cases h
      exact ⟨_, w, ν, post_val (hT x (by simp [Op.operands]) l hl) hb, .inl rfl⟩
    · cases h
  | assign x =>
    simp only [evOpB] at h
    split at h
    · rename_i l hl
      cases h
      exact ⟨_, w, ν, post_val (hT x (by simp [Op.operands]) l hl) hb, .inl rfl⟩
    · cases h
  | pick c x y =>
    simp only [evOpB] at h
    split at h
    · rename_i t l1 l2 h1 h2 h3
      cases h
      have hc := hT c (by simp [Op.operands]) _ h1
      have hx := hT x (by simp [Op.operands]) _ h2
      have hy := hT y (by simp [Op.operands]) _ h3
      simp only [VR] at hc
      refine ⟨if t then a.eval x else a.eval y, w, ν, post_val ?_ hb, .inl ?_⟩
      · cases t <;> simpa
      · simp only [execOp, hc.1, asBool, Sem.run_bind, Sem.run_pure, Result.andThen_ok]
    · cases h
  | alloc t =>
    simp only [evOpB] at h
    split at h
    · rename_i z hz
      have hnx : out.nx = nx + 1 := by obtain ⟨_, rfl⟩ := new1_inv h; rfl
      exact (op_alloc hz h (hν1 hnx) hb hB).does rfl
    · cases h
  | box t x =>
    simp only [evOpB] at h
    split at h
    · rename_i l hl
      have hnx : out.nx = nx + 1 := by obtain ⟨_, rfl⟩ := new1_inv h; rfl
      exact (op_box (hT x (by simp [Op.operands]) l hl) h (hν1 hnx) hb hB).does rfl
    · cases h
  | build t parts =>
    have hT' : ∀ x ∈ parts.toList, ∀ l, opd P T x.2 = some l → VR ν l (a.eval x.2) := fun x hx l hl => hT x.2 (by simp only [Op.operands]; simp; exact ⟨x.1, by simpa using hx⟩) l hl
    simp only [evOpB] at h
    split at h
    · rename_i z fs ps hz hu hps
      split at h
      · rename_i pl hpl
        split at h
        · rename_i cs hcs
          cases h
          exact (op_buildS hz hu hps hT' hb hpl hcs).does rfl
        · cases h
      · cases h
    · rename_i z k elem ps hz hu hps
      split at h
      · rename_i n hn
        split at h
        · rename_i cs hcs
          cases h
          exact (op_buildA hz hu hps hT' hb hn hcs).does rfl
        · cases h
      · cases h
    · cases h
  | buildSlice t len parts =>
    have hT' : ∀ x ∈ parts.toList, ∀ l, opd P T x.2 = some l → VR ν l (a.eval x.2) := fun x hx l hl => hT x.2 (by simp only [Op.operands]; simp; exact ⟨x.1, by simpa using hx⟩) l hl
    simp only [evOpB] at h
    split at h
    · rename_i elem hu
      split at h
      · rename_i z n ps hz hn hps
        split at h
        · rename_i hc
          split at h
          · rename_i cs hcs
            have hnx : out.nx = nx + 1 := by obtain ⟨_, rfl⟩ := new1_inv h; rfl
            exact (op_buildSlice hz hn hc.2.2 hu hps hT' hb hB (hν1 hnx) hc.1 hc.2.1 hcs h).does rfl
          · cases h
        · cases h
      · cases h
    · cases h
  | load t x =>
    simp only [evOpB] at h
    split at h
    · rename_i b off hx
      split at h
      · rename_i k hk
        split at h
        · rename_i l hl
          cases h
          exact (op_load (hT x (by simp [Op.operands]) _ hx) hk hl hH (by simp [footHas]) hb).does rfl
        · cases h
      · cases h
    · cases h
  | store t x y =>
    simp only [evOpB] at h
    split at h
    · rename_i b off l n hx hy hn
      split at h
      · rename_i hnB
        split at h
        · rename_i k hk
          split at h
          · rename_i hc
            cases h
            obtain ⟨w', h1, h2⟩ := op_store (nx := nx) (hT x (by simp [Op.operands]) _ hx) (hT y (by simp [Op.operands]) _ hy) hn hnB hk hc.1 hc.2.1 hc.2.2 hH hlow (by simp [footHas]) (hid b k hk) hb
            exact ⟨undef, w', ν, h2, .inr ⟨by simp only [execOp, Sem.run_bind, h1]; rfl, rfl⟩⟩
          · cases h
        · cases h
      · cases h
    · cases h
  | nilCheck x =>
    simp only [evOpB] at h
    split at h
    · rename_i b off hx
      cases h
      have hv := hT x (by simp [Op.operands]) _ hx
      have hv' := hv
      simp only [VR] at hv
      obtain ⟨lc, _, e⟩ := hv
      exact ⟨_, w, ν, post_val hv' hb, .inl (by simp only [execOp, e]; rfl)⟩
    · rename_i f caps hx
      cases h
      have hv := hT x (by simp [Op.operands]) _ hx
      have hv' := hv
      simp only [VR] at hv
      obtain ⟨vs, e, _⟩ := hv
      exact ⟨_, w, ν, post_val hv' hb, .inl (by simp only [execOp, e]; rfl)⟩
    · cases h
  | binOp op t x y yt =>
    simp only [evOpB] at h
    split at h
    · rename_i hx hy
      have h1 := hT x (by simp [Op.operands]) _ hx
      have h2 := hT y (by simp [Op.operands]) _ hy
      simp only [VR] at h1 h2
      obtain ⟨ad, c, e1, _⟩ := h1
      exact (op_nilSlice (x := x) (y := y) hb h).does (by simp only [execOp, e1, h2.1]; rfl)
    · rename_i b off n c hx hy
      have h1 := hT x (by simp [Op.operands]) _ hx
      have h2 := hT y (by simp [Op.operands]) _ hy
      simp only [VR] at h1 h2
      obtain ⟨lc, _, e1⟩ := h1
      exact (op_nilSlice (x := x) (y := y) hb h).does (by simp only [execOp, e1, h2.1]; rfl)
    · rename_i b off n e hx hy
      have h1 := hT x (by simp [Op.operands]) _ hx
      have h2 := hT y (by simp [Op.operands]) _ hy
      simp only [VR] at h1 h2
      obtain ⟨lc, c, _, e1, _⟩ := h1
      exact (op_nilSlice (x := x) (y := y) hb h).does (by simp only [execOp, e1, h2.1]; rfl)
    · rename_i b off hx hy
      have h1 := hT x (by simp [Op.operands]) _ hx
      have h2 := hT y (by simp [Op.operands]) _ hy
      simp only [VR] at h1 h2
      obtain ⟨lc, _, e1⟩ := h1
      exact (op_nilPtr (x := x) (y := y) hb h).does (by simp only [execOp, e1, h2.1]; rfl)
    · rename_i b k lo hi ne k' n hx hy
      split at h
      · rename_i hk
        subst hk
        split at h
        · rename_i r hr
          have h1 := hT x (by simp [Op.operands]) _ hx
          have h2 := hT y (by simp [Op.operands]) _ hy
          simp only [VR] at h1 h2
          obtain ⟨l, _, e1, e2, e3, _⟩ := h1
          exact (pureL_ok (pure_bool (symCmp_ok (k := k) (t := t) (x := x) (y := y) hr e2 e3) h) hb).does (by simp only [execOp, e1, h2.1])
        · cases h
      · cases h
    · rename_i b k lo hi ne b' k' lo' hi' ne' hx hy
      have h1 := hT x (by simp [Op.operands]) _ hx
      have h2 := hT y (by simp [Op.operands]) _ hy
      simp only [VR] at h1 h2
      obtain ⟨l, f1, e1, p1, p2, _, d1⟩ := h1
      obtain ⟨l', f2, e2, p3, p4, _, d2⟩ := h2
      split at h
      · rename_i hk
        subst hk
        split at h
        · rename_i r hr
          exact (pureL_ok (pure_bool (symTwo_ok (k := k) (t := t) (x := x) (y := y) hr (fun e => by subst e; rw [f1] at f2; cases f2; rfl) (fun hne => by
            rcases hne with hne | hne
            · obtain ⟨l2, g1, g2⟩ := d1 b' (List.contains_iff_mem.1 hne)
              rw [f2] at g1; cases g1; exact g2
            · obtain ⟨l2, g1, g2⟩ := d2 b (List.contains_iff_mem.1 hne)
              rw [f1] at g1; cases g1; exact fun e => g2 e.symm) p1 p2 p3 p4) h) hb).does (by simp only [execOp, e1, e2]; try rfl)
        · cases h
      · cases h
    · rename_i l1 l2 _ _ _ _ _ _ hx hy
      split at h
      · rename_i v1 v2 e1 e2
        have h1 := val?_eq e1 (hT x (by simp [Op.operands]) _ hx)
        have h2 := val?_eq e2 (hT y (by simp [Op.operands]) _ hy)
        exact (pureL_ok h hb).does (by simp only [execOp, h1, h2])
      · split at h
        · rename_i r hr
          cases h
          obtain ⟨z, hz, hrun⟩ := oddL_ok (P := P) (t := t) (p := x) (q := y) hr (hT x (by simp [Op.operands]) _ hx) (hT y (by simp [Op.operands]) _ hy)
          exact (gives_val (hrun w) hz hb : Gives P nB B w0 ν H nx _ w _).does rfl
        · cases h
    · cases h
  | unOp op t x =>
    simp only [evOpB] at h
    split at h
    · rename_i y hx
      have hv := hT x (by simp [Op.operands]) _ hx
      simp only [VR] at hv
      exact (pureL_ok h hb).does (by simp only [execOp, hv.1])
    · cases h
  | extract x i =>
    simp only [evOpB] at h
    split at h
    · rename_i cs hx
      split at h
      · rename_i l hl
        cases h
        exact (op_extract (hT x (by simp [Op.operands]) _ hx) hl hb).does rfl
      · cases h
    · cases h
  | convert src dst x =>
    simp only [evOpB] at h
    split at h
    · rename_i s hx
      have hv := hT x (by simp [Op.operands]) _ hx
      simp only [VR] at hv
      split at h
      · rename_i e hd
        split at h
        · rename_i he
          split at h
          · rename_i d0 hs
            split at h
            · cases h
            · rename_i hsz
              have hnx : out.nx = nx + 1 := by obtain ⟨_, rfl⟩ := new1_inv h; rfl
              exact (op_toBytes hsz hd he hs (hν1 hnx) h hb hB).does (by simp only [execOp, hv.1])
          · cases h
        · cases h
      · exact (pureL_ok h hb).does (by simp only [execOp, hv.1])
    · rename_i b off len c hx
      have hv := hT x (by simp [Op.operands]) _ hx
      simp only [VR] at hv
      obtain ⟨lc, hlc, e1⟩ := hv
      split at h
      · rename_i e hs hd
        split at h
        · rename_i he
          exact (str_ok hs he hd hlc h hH hb).does (by simp only [execOp, e1]; try rfl)
        · cases h
      · rename_i e0 e hs hd
        split at h
        · rename_i hsd he
          split at h
          · rename_i k hk
            split at h
            · rename_i hnB
              cases h
              exact (op_mark hs hd he hsd hlc hk hnB hH hlow (by simp [footHas]) (hid b k hk) hb).does (by simp only [execOp, e1]; try rfl)
            · cases h
          · cases h
        · cases h
      · cases h
    · rename_i b off len e' hx
      have hv := hT x (by simp [Op.operands]) _ hx
      simp only [VR] at hv
      obtain ⟨lc, c, hlc, e1, _⟩ := hv
      split at h
      · rename_i e hs hd
        split at h
        · rename_i he
          exact (str_ok hs he hd hlc h hH hb).does (by simp only [execOp, e1]; try rfl)
        · cases h
      · cases h
    · rename_i cs hx
      have hv := hT x (by simp [Op.operands]) _ hx
      simp only [VR] at hv
      obtain ⟨bs, e1, hbs⟩ := hv
      have hlen : (⟨bs.toArray⟩ : ByteArray).size = cs.length := by have := hbs.length; simpa [ByteArray.size] using this
      split at h
      · rename_i e hd
        split at h
        · rename_i he
          split at h
          · rename_i d0 hs
            split at h
            · cases h
            · rename_i hsz
              have hnx : out.nx = nx + 1 := by obtain ⟨_, rfl⟩ := new1_inv h; rfl
              rw [← hlen] at h hsz
              exact (op_toBytesC (s := ⟨bs.toArray⟩) (by simpa using hbs) hsz hd he hs (hν1 hnx) h hb hB).does (by simp only [execOp, e1])
          · cases h
        · cases h
      · cases h
    · rename_i hx
      have hv := hT x (by simp [Op.operands]) _ hx
      simp only [VR] at hv
      obtain ⟨ad, c, e1, _⟩ := hv
      split at h
      · rename_i e hs hd
        split at h
        · rename_i he
          cases h
          refine (gives_val (v' := .string ⟨#[]⟩) ?_ (by simp [VR, plainV]) hb : Gives P nB B w0 ν H nx _ w (convert src dst (.slice (some ad) 0 c))).does (by simp only [execOp, e1]; try rfl)
          rw [run_convert_bytes_string w src dst e _ 0 c hs he hd]
          simp [Conv.bytesToString, loadCells, loadCellsFrom]
          rfl
        · cases h
      · cases h
    · rename_i b k lo hi ne hx
      have hv := hT x (by simp [Op.operands]) _ hx
      simp only [VR] at hv
      obtain ⟨l, g1, e1, g2, g3, g4, g5⟩ := hv
      split at h
      · rename_i s' k' hs hd
        split at h
        · rename_i hk
          cases h
          exact (gives_val (v' := .int k' (.ofNat l.addr)) (run_conv_sym (k := k) hs hd (Nat.le_trans g3 hk)) (by simp only [VR]; exact ⟨l, g1, rfl, g2, g3, hk, g5⟩) hb : Gives P nB B w0 ν H nx _ w (convert src dst (.int k (.ofNat l.addr)))).does (by simp only [execOp, e1]; try rfl)
        · cases h
      · cases h
    · rename_i y _ hx
      have hv := hT x (by simp [Op.operands]) _ hx
      simp only [VR] at hv
      exact (pureL_ok h hb).does (by simp only [execOp, hv.1])
    · cases h
  | sliceToArrayPointer t x =>
    simp only [evOpB] at h
    split at h
    · rename_i n elem b off len c hu hx
      have hv := hT x (by simp [Op.operands]) _ hx
      simp only [VR] at hv
      obtain ⟨lc, hlc, e1⟩ := hv
      split at h
      · rename_i hle
        cases h
        exact (op_s2a hu hlc hle hb).does (by simp only [execOp, e1]; try rfl)
      · cases h
    · rename_i n elem b off len e hu hx
      have hv := hT x (by simp [Op.operands]) _ hx
      simp only [VR] at hv
      obtain ⟨lc, c, hlc, e1, _⟩ := hv
      split at h
      · rename_i hle
        cases h
        exact (op_s2a hu hlc hle hb).does (by simp only [execOp, e1]; try rfl)
      · cases h
    · cases h
  | makeFunc f first caps =>
    simp only [evOpB] at h
    split at h
    · rename_i cs hf hcs
      cases h
      have hf' : first = #[] := by apply Array.ext'; simpa using hf
      exact (op_makeFunc (opds_ok (fun x hx => hT x (by simp [Op.operands]; right; simpa using hx)) hcs) hb).does (by simp [execOp, hf'])
    · cases h
  | makeSlice t l c =>
    simp only [evOpB] at h
    split at h
    · rename_i elem x y hu hx hy
      split at h
      · rename_i l' c' z n inf hl hc hz hn hi
        split at h
        · rename_i hcond
          have hnx : out.nx = nx + 1 := by obtain ⟨_, rfl⟩ := new1_inv h; rfl
          exact (op_makeSlice hu (hT l (by simp [Op.operands]) _ hx) (hT c (by simp [Op.operands]) _ hy) hl hc hz hn hi hcond.2.2.2 hcond.1 hcond.2.1 hcond.2.2.1 h (hν1 hnx) hb hB).does rfl
        · cases h
      · cases h
    · cases h
  | slice t x lo hi mx =>
    simp only [evOpB] at h
    split at h
    · rename_i l ls hx hls
      have hmem : ∀ y ∈ lo.toList ++ hi.toList ++ mx.toList, ∀ l, opd P T y = some l → VR ν l (a.eval y) := fun y hy => hT y (by simp [Op.operands] at hy ⊢; rcases hy with h | h | h <;> simp [h])
      have hne := opds_some hls
      exact (op_slice h (hT x (by simp [Op.operands]) _ hx) (ov_of (fun y hy => hmem y (by simp at hy ⊢; simp [hy])) (fun y hy => hne y (by simp at hy ⊢; simp [hy]))) (ov_of (fun y hy => hmem y (by simp at hy ⊢; simp [hy])) (fun y hy => hne y (by simp at hy ⊢; simp [hy]))) (ov_of (fun y hy => hmem y (by simp at hy ⊢; simp [hy])) (fun y hy => hne y (by simp at hy ⊢; simp [hy]))) hb).does rfl
    · cases h
  | fieldAddr s x f =>
    simp only [evOpB] at h
    split at h
    · rename_i fs b off hu hx
      split at h
      · rename_i fd hf
        split at h
        · rename_i n hn
          cases h
          exact (op_fieldAddr hu (hT x (by simp [Op.operands]) _ hx) hf hn hb).does rfl
        · cases h
      · cases h
    · cases h
  | field s x f =>
    simp only [evOpB] at h
    split at h
    · rename_i fs cs hu hx
      split at h
      · rename_i fd hf
        split at h
        · rename_i l hl
          cases h
          exact (op_field hu (hT x (by simp [Op.operands]) _ hx) hf hl hb).does rfl
        · cases h
      · cases h
    · cases h
  | indexAddr t x i =>
    simp only [evOpB] at h
    split at h
    · rename_i n elem b off y hu hx hy
      split at h
      · rename_i j e hj he
        split at h
        · rename_i hlt
          cases h
          exact (op_indexA hu (hT x (by simp [Op.operands]) _ hx) (hT i (by simp [Op.operands]) _ hy) hj he hlt hb).does rfl
        · cases h
      · cases h
    · rename_i elem b off n c y hu hx hy
      have hv := hT x (by simp [Op.operands]) _ hx
      simp only [VR] at hv
      obtain ⟨lc, hlc, e1⟩ := hv
      split at h
      · rename_i j e hj he
        split at h
        · rename_i hlt
          cases h
          exact (op_indexS hu hlc (hT i (by simp [Op.operands]) _ hy) hj he hlt hb).does (by simp only [execOp, e1]; try rfl)
        · cases h
      · cases h
    · rename_i elem b off n eb y hu hx hy
      have hv := hT x (by simp [Op.operands]) _ hx
      simp only [VR] at hv
      obtain ⟨lc, c, hlc, e1, _⟩ := hv
      split at h
      · rename_i j e hj he
        split at h
        · rename_i hlt
          cases h
          exact (op_indexS hu hlc (hT i (by simp [Op.operands]) _ hy) hj he hlt hb).does (by simp only [execOp, e1]; try rfl)
        · cases h
      · cases h
    · cases h
  | index t x i =>
    simp only [evOpB] at h
    split at h
    · rename_i cs y hx hy
      split at h
      · rename_i n elem j hu hj
        split at h
        · rename_i e he
          split at h
          · rename_i hlt
            split at h
            · rename_i l hl
              cases h
              exact (op_index hu (hT x (by simp [Op.operands]) _ hx) (hT i (by simp [Op.operands]) _ hy) hj he hlt hl hb).does rfl
            · cases h
          · cases h
        · cases h
      · cases h
    · rename_i x1 y1 hx hy
      have h1 := hT x (by simp [Op.operands]) _ hx
      have h2 := hT i (by simp [Op.operands]) _ hy
      simp only [VR] at h1 h2
      exact (pureL_ok h hb).does (by simp only [execOp, h1.1, h2.1])
    · cases h
  | call c =>
    simp only [evOpB, callL] at h
    split at h
    · rename_i args hargs
      split at h
      · rename_i b hb'
        exact op_builtin rfl hb' (opds_ok (fun x hx => hT x (by simp [Op.operands, Call.operands]; right; simpa using hx)) hargs) h hν1 hH hlow hid hb hB
      · rename_i f hf
        exact absurd hf (hcall c f rfl)
      · cases h
    · cases h
  | _ => simp [evOpB] at h
end
end Go.Proofs.YtjpfhhndjpdmoaaGreatDoor
