/- Part of the proof: EvP, EvQ. No conditions of its own. -/
import Derived.Below
import Derived.KernelRfl
import Derived.Laws.CopyRow
import Derived.Laws.NewFold
import Derived.Orders
import Derived.RowKit3
import Derived.Test.YtjpfhhndjpdmoaaGreatDoorK02
namespace Go.Proofs.YtjpfhhndjpdmoaaGreatDoor
open Go.RowKit
set_option linter.unusedVariables false
set_option linter.unusedSimpArgs false

section
variable {P : Program} {nB B : Nat} {w0 : World} {ν : Env} {T : Tr LV} {H : Hp} {nx : Nat} {w : World} {out : Out}
def Gives (P : Program) (nB B : Nat) (w0 : World) (ν : Env) (H : Hp) (nx : Nat) (out : Out) (w : World) (m : Sem Value) : Prop :=
  ∃ v' w' ν', OpPost nB B w0 ν ν' H nx out w w' v' ∧ m.run P w = .ok v' w'
theorem gives_val {v : LV} {v' : Value} {foot : Option (List Nat)} {m : Sem Value} (hm : m.run P w = .ok v' w) (hv : VR ν v v') (hb : Below B w0 w) : Gives P nB B w0 ν H nx ⟨v, [], nx, foot⟩ w m :=
  ⟨v', w, ν, post_val hv hb, hm⟩
theorem pureL_ok {m : Sem Value} (h : pureL P nx m = some out) (hb : Below B w0 w) : Gives P nB B w0 ν H nx out w m := by
  unfold pureL at h
  split at h
  · rename_i y hy
    split at h
    · rename_i l hl
      cases h
      exact gives_val (pureRun_ok _ _ hy w) (lvOf_ok hl) hb
    · cases h
  · cases h
theorem opds_ok {a : Act} : ∀ {xs : List Operand} {ls : List LV}, (∀ x ∈ xs, ∀ l, opd P T x = some l → VR ν l (a.eval x)) → opds P T xs = some ls → VRs ν ls (xs.map a.eval)
  | [], ls, _, h => by simp [opds] at h; subst h; exact VRs.nil_iff.2 rfl
  | x :: xs, ls, hT, h => by
    simp only [opds] at h
    split at h
    · rename_i l hl
      simp only [Option.map_eq_some_iff] at h
      obtain ⟨ls', h1, rfl⟩ := h
      exact VRs.cons_iff.2 ⟨_, _, rfl, hT x (by simp) l hl, opds_ok (fun y hy => hT y (by simp [hy])) h1⟩
    · cases h
theorem parts_ok {a : Act} : ∀ {xs : List (Nat × Operand)} {ls : List (Nat × LV)}, (∀ x ∈ xs, ∀ l, opd P T x.2 = some l → VR ν l (a.eval x.2)) → partsL P T xs = some ls →
    ls.length = xs.length ∧ ∀ (i n : Nat) (l : LV), ls[i]? = some (n, l) → ∃ x, xs[i]? = some (n, x) ∧ VR ν l (a.eval x)
  | [], ls, _, h => by simp [partsL] at h; subst h; simp
  | (n, x) :: xs, ls, hT, h => by
    simp only [partsL] at h
    split at h
    · rename_i l hl
      simp only [Option.map_eq_some_iff] at h
      obtain ⟨ls', h1, rfl⟩ := h
      obtain ⟨h2, h3⟩ := parts_ok (fun y hy => hT y (by simp [hy])) h1
      refine ⟨by simp [h2], fun i m k hk => ?_⟩
      cases i with
      | zero => simp at hk; obtain ⟨rfl, rfl⟩ := hk; exact ⟨x, rfl, hT (n, x) (by simp) _ hl⟩
      | succ i => simpa using h3 i m k (by simpa using hk)
    · cases h
theorem foldl_put : ∀ (vs : List Value) (off k : Nat) (cs : Array Value), off + k + vs.length ≤ cs.size →
    ((vs.zipIdx k).foldl (fun cs (c, j) => cs.setIfInBounds (off + j) c) cs) = (cs.toList.take (off + k) ++ vs ++ cs.toList.drop (off + k + vs.length)).toArray
  | [], off, k, cs, h => by simp
  | v :: vs, off, k, cs, h => by
    simp only [List.zipIdx_cons, List.foldl_cons]
    rw [foldl_put vs off (k + 1) _ (by simp at h ⊢; omega)]
    have e := list_seg_step cs.toList (off + k) v vs (by simp at h ⊢; omega)
    simpa [Array.toList_setIfInBounds, Nat.add_assoc] using e
theorem fill_ok {place : Nat → Option (Nat × Nat)} : ∀ {ps : List (Nat × LV)} {qs : List (Nat × Value)} {cs r : List LV} {us : List Value}, ps.length = qs.length →
    (∀ (i n : Nat) (l : LV), ps[i]? = some (n, l) → ∃ y, qs[i]? = some (n, y) ∧ VR ν l y) → VRs ν cs us → fillL place cs ps = some r → ∃ ws, Instr.fill place us.toArray qs = some ws.toArray ∧ VRs ν r ws
  | [], qs, cs, r, us, hl, _, hv, h => by
    have : qs = [] := List.eq_nil_of_length_eq_zero (by simpa using hl.symm)
    subst this
    simp [fillL] at h; subst h
    exact ⟨us, rfl, hv⟩
  | (i, l) :: ps, qs, cs, r, us, hl, hp, hv, h => by
    obtain ⟨y, hy, hvy⟩ := hp 0 i l rfl
    cases qs with
    | nil => simp at hy
    | cons q qs =>
      simp at hy; subst hy
      simp only [fillL] at h
      split at h
      · cases h
      · rename_i off size hpl
        split at h
        · rename_i hc
          have hnt : ∀ ts, l ≠ .tup ts := fun ts e => by subst e; simp [LV.cells, LV.isOne] at hc
          have hcy := hvy.cells hnt
          have hsz : y.cells.size = size := by have := hcy.length; simp at this; omega
          have hus := hv.length
          have hcl := hcy.length
          simp at hcl
          obtain ⟨ws, h2, h3⟩ := fill_ok (ps := ps) (qs := qs) (us := us.take off ++ y.cells.toList ++ us.drop (off + y.cells.toList.length)) (by simpa using hl) (fun j n k hk => by simpa using hp (j + 1) n k (by simpa using hk)) (hv.put hcy (by omega)) h
          refine ⟨ws, ?_, h3⟩
          simp only [Instr.fill, hpl]
          rw [if_neg (by simp [hsz]; omega)]
          have hz : y.cells.zipIdx.foldl (fun cs (c, j) => cs.setIfInBounds (off + j) c) us.toArray = (us.take off ++ y.cells.toList ++ us.drop (off + y.cells.toList.length)).toArray := by
            rw [← Array.foldl_toList]
            have := foldl_put y.cells.toList off 0 us.toArray (by simp; omega)
            simpa using this
          rw [hz]
          exact h2
        · cases h

theorem new1_inv {t : TypeId} {ex mk : Bool} {cs : List LV} {v : LV} {foot : List Nat} (h : new1 nx t ex mk cs v foot = some out) : cs.all LV.isOne = true ∧ out = ⟨v, [(nx, some ⟨t, ex, mk, cs⟩)], nx + 1, some foot⟩ := by
  unfold new1 at h
  split at h
  · rename_i h1; cases h; exact ⟨h1, rfl⟩
  · cases h
theorem below_alloc (hb : Below B w0 w) (hB : B ≤ w0.heap.size) (o : Obj) : Below B w0 (w.alloc o) := hb.alloc (by have := hb.size; omega) o
theorem gives_new {t : TypeId} {mk : Bool} {cs : List LV} {v : LV} {foot : Option (List Nat)} {m : Sem Value} {c : Array Value} {v' : Value} (hν : ν nx = none) (hm : m.run P w = .ok v' (w.alloc (.cells c t))) (hcs : VRs ν cs c.toList) (h1 : cs.all LV.isOne = true)
    (hb : Below B w0 w) (hB : B ≤ w0.heap.size) (hv : VR (envNew ν nx ⟨w.heap.size, c.size⟩) v v') : Gives P nB B w0 ν H nx ⟨v, [(nx, some ⟨t, true, mk, cs⟩)], nx + 1, foot⟩ w m :=
  ⟨v', _, _, post_new (fr := (0, 0)) hν rfl (.inl rfl) (fun _ => rfl) (fun _ => by have := hcs.length; simp at this; omega) ⟨c.toList, [], by simp, hcs⟩ h1 (below_alloc hb hB _) hv, hm⟩
theorem op_alloc {t : TypeId} {z : List LV} (hz : zeroL P t = some z) (h : new1 nx t true false z (.ptr nx 0) [] = some out) (hν : ν nx = none) (hb : Below B w0 w) (hB : B ≤ w0.heap.size) :
    Gives P nB B w0 ν H nx out w (Instr.alloc t true (.tuple #[])) := by
  obtain ⟨h1, rfl⟩ := new1_inv h
  obtain ⟨v, hv, hvs, _⟩ := run_zero (ν := ν) hz
  refine gives_new (v' := .pointer (some ⟨w.heap.size, 0, none⟩)) (c := v.cells) hν ?_ hvs h1 hb hB ?_
  · simp [Instr.alloc, hv, newVar, newRow]
  · simp [VR, envNew]
theorem op_box {t : TypeId} {x : LV} {y : Value} (hx : VR ν x y) (h : new1 nx t true false x.cells (.ptr nx 0) [] = some out) (hν : ν nx = none) (hb : Below B w0 w) (hB : B ≤ w0.heap.size) :
    Gives P nB B w0 ν H nx out w (Instr.box t y) := by
  obtain ⟨h1, rfl⟩ := new1_inv h
  refine gives_new (v' := .pointer (some ⟨w.heap.size, 0, none⟩)) (c := y.cells) hν ?_ (hx.cells fun ts e => by subst e; simp [LV.cells, LV.isOne] at h1) h1 hb hB ?_
  · simp [Instr.box, newVar, newRow]
  · simp [VR, envNew]
theorem places_ok : ∀ {fs : List Field} {pl : List (Nat × Nat)}, placesL P fs = some pl → ∀ w, (fs.mapM (m := Sem) fun f => do pure (f.offset, ← sizeOf f.type)).run P w = .ok pl w
  | [], pl, h, w => by simp [placesL] at h; subst h; simp
  | f :: fs, pl, h, w => by
    simp only [placesL] at h
    split at h
    · rename_i n hn
      simp only [Option.map_eq_some_iff] at h
      obtain ⟨pl', h1, rfl⟩ := h
      simp only [List.mapM_cons, Sem.run_bind, run_sizeOf hn, Result.andThen_ok, places_ok h1 w, Sem.run_pure]
    · cases h
theorem op_buildS {t : TypeId} {parts : Array (Nat × Operand)} {z cs : List LV} {a : Act} {ps : List (Nat × LV)} {fs : Array Field} {pl : List (Nat × Nat)} {foot : Option (List Nat)} (hz : zeroL P t = some z) (hu : P.underlying t = some (.struct fs)) (hps : partsL P T parts.toList = some ps)
    (hT : ∀ x ∈ parts.toList, ∀ l, opd P T x.2 = some l → VR ν l (a.eval x.2)) (hb : Below B w0 w) (hpl : placesL P fs.toList = some pl) (hcs : fillL (fun i : Nat => pl[i]?) z ps = some cs) :
    Gives P nB B w0 ν H nx ⟨.agg cs, [], nx, foot⟩ w (Instr.build t (parts.map fun (i, x) => (i, a.eval x))) := by
  obtain ⟨v, hv, hvs, _⟩ := run_zero (ν := ν) hz
  obtain ⟨hlen, hpp⟩ := parts_ok hT hps
  have hq1 : ps.length = (parts.map fun (i, x) => (i, a.eval x)).toList.length := by simp [hlen]
  have hq2 : ∀ (i n : Nat) (l : LV), ps[i]? = some (n, l) → ∃ y, (parts.map fun (i, x) => (i, a.eval x)).toList[i]? = some (n, y) ∧ VR ν l y := fun i n l hi => by
    obtain ⟨x, hx, hvx⟩ := hpp i n l hi
    exact ⟨a.eval x, by simp [hx], hvx⟩
  obtain ⟨ws, h2, h3⟩ := fill_ok hq1 hq2 hvs hcs
  refine gives_val (v' := .agg ws.toArray) ?_ (by simp only [VR]; exact ⟨_, rfl, h3⟩) hb
  have hm : (fs.mapM (m := Sem) fun f => do pure (f.offset, ← sizeOf f.type)).run P w = .ok pl.toArray w := by
    rw [Array.mapM_eq_mapM_toList, Sem.run_map, places_ok hpl w]
    rfl
  generalize (parts.map fun (i, x) => (i, a.eval x)) = qs at h2 hq1 hq2 ⊢
  simp only [Instr.build, Sem.run_bind, hv, Result.andThen_ok, run_underlying hu, hm]
  have he : (fun i : Nat => pl.toArray[i]?) = fun i : Nat => pl[i]? := by funext i; simp
  rw [he]
  have h2' : Instr.fill (fun i : Nat => pl[i]?) v.cells qs.toList = some ws.toArray := by simpa using h2
  rw [h2']
  rfl
theorem op_buildA {t elem : TypeId} {k n : Nat} {parts : Array (Nat × Operand)} {z cs : List LV} {a : Act} {ps : List (Nat × LV)} {foot : Option (List Nat)} (hz : zeroL P t = some z) (hu : P.underlying t = some (.array k elem)) (hps : partsL P T parts.toList = some ps)
    (hT : ∀ x ∈ parts.toList, ∀ l, opd P T x.2 = some l → VR ν l (a.eval x.2)) (hb : Below B w0 w) (hn : sizeL P elem = some n) (hcs : fillL (fun i => some (i * n, n)) z ps = some cs) :
    Gives P nB B w0 ν H nx ⟨.agg cs, [], nx, foot⟩ w (Instr.build t (parts.map fun (i, x) => (i, a.eval x))) := by
  obtain ⟨v, hv, hvs, _⟩ := run_zero (ν := ν) hz
  obtain ⟨hlen, hpp⟩ := parts_ok hT hps
  have hq1 : ps.length = (parts.map fun (i, x) => (i, a.eval x)).toList.length := by simp [hlen]
  have hq2 : ∀ (i n : Nat) (l : LV), ps[i]? = some (n, l) → ∃ y, (parts.map fun (i, x) => (i, a.eval x)).toList[i]? = some (n, y) ∧ VR ν l y := fun i n l hi => by
    obtain ⟨x, hx, hvx⟩ := hpp i n l hi
    exact ⟨a.eval x, by simp [hx], hvx⟩
  obtain ⟨ws, h2, h3⟩ := fill_ok hq1 hq2 hvs hcs
  refine gives_val (v' := .agg ws.toArray) ?_ (by simp only [VR]; exact ⟨_, rfl, h3⟩) hb
  generalize (parts.map fun (i, x) => (i, a.eval x)) = qs at h2 hq1 hq2 ⊢
  simp only [Instr.build, Sem.run_bind, hv, Result.andThen_ok, run_underlying hu, run_sizeOf hn]
  have h2' : Instr.fill (fun i => some (i * n, n)) v.cells qs.toList = some ws.toArray := by simpa using h2
  rw [h2']
  rfl
theorem repL_ok {z : List LV} {vs : List Value} (h : VRs ν z vs) : ∀ n, VRs ν (repL z n) ((List.replicate n vs).flatten)
  | 0 => VRs.nil_iff.2 rfl
  | n + 1 => by rw [List.replicate_succ, List.flatten_cons]; exact h.append (repL_ok h n)
theorem range_rep (z : Array Value) (n : Nat) : ∀ m, m = n * z.size → ((Array.range m).map (z[· % z.size]!)) = ((List.replicate n z.toList).flatten).toArray := by
  intro m hm
  subst hm
  apply Array.ext
  · simp
  · intro i h1 h2
    simp only [Array.size_map, Array.size_range] at h1
    have hz : 0 < z.size := by rcases Nat.eq_zero_or_pos z.size with h | h; · rw [h] at h1; omega
                               · exact h
    have hi : i % z.size < z.size := Nat.mod_lt _ hz
    simp only [Array.getElem_map, Array.getElem_range, List.getElem_toArray]
    have key : ∀ (n i : Nat) (h : i < n * z.size), ((List.replicate n z.toList).flatten)[i]? = some (z[i % z.size]'(Nat.mod_lt _ hz)) := by
      intro n
      induction n with
      | zero => intro i h; omega
      | succ n ih =>
        intro i h
        rw [List.replicate_succ, List.flatten_cons]
        by_cases hiz : i < z.size
        · rw [List.getElem?_append_left (by simpa using hiz)]
          simp [Nat.mod_eq_of_lt hiz, hiz]
        · rw [List.getElem?_append_right (by simpa using hiz)]
          have := ih (i - z.size) (by rw [Nat.succ_mul] at h; omega)
          simp only [Array.length_toList]
          rw [this]
          congr 2
          exact (Nat.mod_eq_sub_mod (by omega)).symm
    have hk := key n i h1
    rw [List.getElem?_eq_getElem (by simpa using h2)] at hk
    rw [Option.some.inj hk]
    rw [getElem!_pos z _ hi]
theorem op_buildSlice {t elem : TypeId} {len n : Nat} {parts : Array (Nat × Operand)} {z cs : List LV} {a : Act} {ps : List (Nat × LV)} (hz : zeroL P elem = some z) (hn : sizeL P elem = some n) (hzn : z.length = n) (hu : P.underlying t = some (.slice elem)) (hps : partsL P T parts.toList = some ps)
    (hT : ∀ x ∈ parts.toList, ∀ l, opd P T x.2 = some l → VR ν l (a.eval x.2)) (hb : Below B w0 w) (hB : B ≤ w0.heap.size) (hν : ν nx = none) (hle : len * n ≤ 2 ^ 20) (h0 : 0 < n)
    (hcs : fillL (fun i => some (i * n, n)) (repL z len) ps = some cs) (h : new1 nx elem true false cs (.slice nx 0 len len) [] = some out) :
    Gives P nB B w0 ν H nx out w (Instr.buildSlice t len (parts.map fun (i, x) => (i, a.eval x))) := by
  obtain ⟨h1, rfl⟩ := new1_inv h
  obtain ⟨v, hv, hvs, _⟩ := run_zero (ν := ν) hz
  obtain ⟨hlen, hpp⟩ := parts_ok hT hps
  have hq1 : ps.length = (parts.map fun (i, x) => (i, a.eval x)).toList.length := by simp [hlen]
  have hq2 : ∀ (i n : Nat) (l : LV), ps[i]? = some (n, l) → ∃ y, (parts.map fun (i, x) => (i, a.eval x)).toList[i]? = some (n, y) ∧ VR ν l y := fun i n l hi => by
    obtain ⟨x, hx, hvx⟩ := hpp i n l hi
    exact ⟨a.eval x, by simp [hx], hvx⟩
  obtain ⟨ws, h2, h3⟩ := fill_ok hq1 hq2 (repL_ok hvs len) hcs
  have hvz : v.cells.size = n := by have := hvs.length; simp at this; omega
  refine gives_new (v' := .slice (some ⟨w.heap.size, 0, none⟩) len len) (c := ws.toArray) hν ?_ (by simpa using h3) h1 hb hB (by simp [VR, envNew])
  generalize (parts.map fun (i, x) => (i, a.eval x)) = qs at h2 hq1 hq2 ⊢
  simp only [Instr.buildSlice, Sem.run_bind, run_underlying hu, Result.andThen_ok, run_sizeOf hn]
  rw [if_neg (by omega)]
  by_cases hl0 : len * n = 0
  · have hl : len = 0 := by rcases Nat.mul_eq_zero.1 hl0 with h | h <;> omega
    subst hl
    have h2' : Instr.fill (fun i => some (i * n, n)) #[] qs.toList = some ws.toArray := by simpa using h2
    simp [newRow, h2', show Array.range 0 = #[] from rfl]
  · rw [if_neg hl0]
    simp only [Sem.run_bind, hv, Result.andThen_ok, Sem.run_pure]
    rw [range_rep v.cells len (len * n) (by rw [hvz]), h2]
    simp [newRow]
theorem op_load {t : TypeId} {b off : Nat} {k : Blk} {l : LV} {foot : Option (List Nat)} {y : Value} (hx : VR ν (.ptr b off) y) (hk : H.get b = some k) (hl : partL P t k.cells off = some l) (hH : HRF ν H foot w) (hf : footHas foot b) (hb : Below B w0 w) :
    Gives P nB B w0 ν H nx ⟨l, [], nx, foot⟩ w (Instr.loadAt t y) := by
  obtain ⟨lc, h1, h2⟩ := hH b k hf hk
  simp only [VR] at hx
  obtain ⟨l', h3, rfl⟩ := hx
  rw [h1] at h3; cases h3
  obtain ⟨v, hv, hvv⟩ := loadVar_ok hl h2
  exact gives_val (v' := v) (by simp [Instr.loadAt, Instr.sureAddr, hv]) hvv hb
theorem below_setRow (hb : Below B w0 w) {g : Nat} (hg : B ≤ g) (c : Array Value) : Below B w0 (w.setRow g c) :=
  hb.trans ⟨rfl, rfl, rfl, by simp, fun k hk => setRow_other w g k c (by omega)⟩
theorem store_ok {b off : Nat} {k : Blk} {l : List LV} {us : List Value} {lc : Loc} {foot : Option (List Nat)} {v : LV} {v' : Value} (hbn : b < nx) (hnB : nB ≤ b) (hk : H.get b = some k) (hν : ν b = some lc) (hblk : BlkR ν lc k w.heap[lc.addr]?) (hlow : B ≤ lc.addr) (hus : VRs ν l us) (h1 : l.all LV.isOne = true) (hfit : off + l.length ≤ k.cells.length) (hb : Below B w0 w) (hv : VR ν v v') :
    ∃ w', (storeCells ⟨lc.addr, off, none⟩ us).run P w = .ok () w' ∧ OpPost nB B w0 ν ν H nx ⟨v, [(b, some ⟨k.elem, k.exact, k.mrk, putL k.cells off l⟩)], nx, foot⟩ w w' v' := by
  obtain ⟨c, fr, h2, h3, h4, ⟨vs, rest, h5, h6⟩, h7, h8, h9⟩ := hblk
  have hul := hus.length
  have hvl := h6.length
  have hcl : c.size = vs.length + rest.length := by have := congrArg List.length h5; simpa using this
  have hr := run_storeCells_ok (P := P) lc.addr off k.elem fr us 0 c w h2 (frz h8) (by omega) (hus.one h1)
  simp only [Nat.add_zero] at hr
  have hc' : (c.toList.take off ++ us ++ c.toList.drop (off + us.length)) = (vs.take off ++ us ++ vs.drop (off + us.length)) ++ rest := by
    rw [h5, List.take_append_of_le_length (by omega), List.drop_append_of_le_length (by omega)]
    simp
  rw [hc'] at hr
  refine ⟨_, hr, post_set hbn hnB hk hν (setRow_heap w lc.addr c _ k.elem fr h2) (fun a ha => setRow_other w _ _ _ ha) (by simp) ?_ ?_ h9 ?_ ⟨_, rest, rfl, h6.put hus hfit⟩ ?_ (below_setRow hb hlow _) hv⟩
  · simp; omega
  · exact h8.imp id (fun h => by simp; omega)
  · intro he; rw [putL_len _ _ _ hfit, h4 he]; simp; omega
  · rw [putL_eq _ _ _ hfit]
    simp only [List.all_append, Bool.and_eq_true]
    refine ⟨⟨?_, h1⟩, ?_⟩
    · exact List.all_eq_true.2 fun x hx => List.all_eq_true.1 h7 x (List.mem_of_mem_take hx)
    · exact List.all_eq_true.2 fun x hx => List.all_eq_true.1 h7 x (List.mem_of_mem_drop hx)
theorem op_store {t : TypeId} {b off n : Nat} {k : Blk} {x : LV} {y z : Value} {foot : Option (List Nat)} (hy : VR ν (.ptr b off) y) (hx : VR ν x z) (hn : sizeL P t = some n) (hnB : nB ≤ b) (hk : H.get b = some k) (hln : x.cells.length = n) (hfit : off + n ≤ k.cells.length) (h1 : x.cells.all LV.isOne = true)
    (hH : HRF ν H foot w) (hlow : LowF nB B ν H foot) (hf : footHas foot b) (hid : b < nx) (hb : Below B w0 w) :
    ∃ w', (Instr.storeAt t y z).run P w = .ok () w' ∧ OpPost nB B w0 ν ν H nx ⟨.tup [], [(b, some ⟨k.elem, k.exact, k.mrk, putL k.cells off x.cells⟩)], nx, foot⟩ w w' undef := by
  obtain ⟨lc, h2, h3⟩ := hH b k hf hk
  simp only [VR] at hy
  obtain ⟨l', h4, rfl⟩ := hy
  rw [h2] at h4; cases h4
  have hc := hx.cells (fun ts e => by subst e; simp [LV.cells, LV.isOne] at h1)
  obtain ⟨w', h5, h6⟩ := store_ok (P := P) (off := off) (v := .tup []) (v' := undef) (foot := foot) hid hnB hk h2 h3 (hlow b k lc hf hnB hk h2) hc h1 (by omega) hb (by simp [VR, VRs, undef])
  refine ⟨w', ?_, h6⟩
  have hz : z.cells.size = n := by have := hc.length; simp at this; omega
  simp [Instr.storeAt, Instr.sureAddr, storeVar, run_sizeOf hn, hz, h5]
end
end Go.Proofs.YtjpfhhndjpdmoaaGreatDoor

namespace Go.Proofs.YtjpfhhndjpdmoaaGreatDoor
open Go.RowKit
set_option linter.unusedVariables false
set_option linter.unusedSimpArgs false

section
variable {P : Program} {nB B : Nat} {w0 : World} {ν : Env} {T : Tr LV} {H : Hp} {nx : Nat} {w : World} {out : Out}
theorem intL_ok {x : LV} {y : Value} {n : Int} (h : intL x = some n) (hv : VR ν x y) : ∃ k, y = .int k n := by
  unfold intL at h
  split at h
  · rename_i k m
    cases h
    simp only [VR] at hv
    exact ⟨k, hv.1⟩
  · cases h
theorem natL_ok {x : LV} {y : Value} {n : Nat} (h : natL x = some n) (hv : VR ν x y) : ∃ k, y = .int k (n : Int) := by
  unfold natL at h
  split at h
  · rename_i m hm
    cases h
    exact intL_ok hm hv
  · cases h
theorem op_fieldAddr {s f : Nat} {fs : Array Field} {b off n : Nat} {fd : Field} {y : Value} {foot : Option (List Nat)} (hu : P.underlying s = some (.struct fs)) (hx : VR ν (.ptr b off) y) (hf : fs[f]? = some fd) (hn : sizeL P fd.type = some (n + 1)) (hb : Below B w0 w) :
    Gives P nB B w0 ν H nx ⟨.ptr b (off + fd.offset), [], nx, foot⟩ w (Instr.fieldAt s y f) := by
  simp only [VR] at hx
  obtain ⟨l, h1, rfl⟩ := hx
  refine gives_val (v' := .pointer (some ⟨l.addr, off + fd.offset, none⟩)) ?_ (by simp only [VR]; exact ⟨l, h1, rfl⟩) hb
  simp [Instr.fieldAt, run_underlying hu, hf, Instr.sureAddr, fieldPlace, run_sizeOf hn, add_off]
theorem op_field {s f : Nat} {fs : Array Field} {cs : List LV} {fd : Field} {y : Value} {l : LV} {foot : Option (List Nat)} (hu : P.underlying s = some (.struct fs)) (hx : VR ν (.agg cs) y) (hf : fs[f]? = some fd) (hl : partL P fd.type cs fd.offset = some l) (hb : Below B w0 w) :
    Gives P nB B w0 ν H nx ⟨l, [], nx, foot⟩ w (Instr.field s y f) := by
  simp only [VR] at hx
  obtain ⟨us, rfl, hus⟩ := hx
  obtain ⟨v, hv, hvv⟩ := part_ok hl hus w
  exact gives_val (v' := v) (by simp [Instr.field, run_underlying hu, hf, asAgg, hv]) hvv hb
theorem op_indexA {t elem : TypeId} {n i e b off : Nat} {x z : Value} {y : LV} {foot : Option (List Nat)} (hu : P.underlying t = some (.array n elem)) (hx : VR ν (.ptr b off) x) (hy : VR ν y z) (hi : natL y = some i) (he : sizeL P elem = some e) (hlt : i < n) (hb : Below B w0 w) :
    Gives P nB B w0 ν H nx ⟨.ptr b (off + i * e), [], nx, foot⟩ w (Instr.indexAt t x z) := by
  simp only [VR] at hx
  obtain ⟨l, h1, rfl⟩ := hx
  obtain ⟨k, rfl⟩ := natL_ok hi hy
  refine gives_val (v' := .pointer (some ⟨l.addr, off + i * e, none⟩)) ?_ (by simp only [VR]; exact ⟨l, h1, rfl⟩) hb
  simp [Instr.indexAt, asIntOf, run_underlying hu, Instr.sureAddr, run_sizeOf he, add_off, hlt]
theorem op_indexS {t elem : TypeId} {n c i e b off : Nat} {l : Loc} {z : Value} {y : LV} {foot : Option (List Nat)} (hu : P.underlying t = some (.slice elem)) (hν : ν b = some l) (hy : VR ν y z) (hi : natL y = some i) (he : sizeL P elem = some e) (hlt : i < n) (hb : Below B w0 w) :
    Gives P nB B w0 ν H nx ⟨.ptr b (off + i * e), [], nx, foot⟩ w (Instr.indexAt t (.slice (some ⟨l.addr, off, none⟩) n c) z) := by
  obtain ⟨k, rfl⟩ := natL_ok hi hy
  refine gives_val (v' := .pointer (some ⟨l.addr, off + i * e, none⟩)) ?_ (by simp only [VR]; exact ⟨l, hν, rfl⟩) hb
  simp [Instr.indexAt, asIntOf, run_underlying hu, run_sizeOf he, add_off, hlt]
theorem op_index {t elem : TypeId} {n i e : Nat} {cs : List LV} {x z : Value} {y l : LV} {foot : Option (List Nat)} (hu : P.underlying t = some (.array n elem)) (hx : VR ν (.agg cs) x) (hy : VR ν y z) (hi : natL y = some i) (he : sizeL P elem = some e) (hlt : i < n) (hl : partL P elem cs (i * e) = some l) (hb : Below B w0 w) :
    Gives P nB B w0 ν H nx ⟨l, [], nx, foot⟩ w (Instr.index t x z) := by
  simp only [VR] at hx
  obtain ⟨us, rfl, hus⟩ := hx
  obtain ⟨k, rfl⟩ := natL_ok hi hy
  obtain ⟨v, hv, hvv⟩ := part_ok hl hus w
  exact gives_val (v' := v) (by simp [Instr.index, asIntOf, run_underlying hu, run_sizeOf he, hlt, hv]) hvv hb
theorem op_extract {cs : List LV} {i : Nat} {x : Value} {l : LV} {foot : Option (List Nat)} (hx : VR ν (.tup cs) x) (hl : cs[i]? = some l) (hb : Below B w0 w) : Gives P nB B w0 ν H nx ⟨l, [], nx, foot⟩ w (Instr.extract x i) := by
  simp only [VR] at hx
  obtain ⟨us, rfl, hus⟩ := hx
  obtain ⟨v, hv, hvv⟩ := hus.get i l hl
  exact gives_val (v' := v) (by simp [Instr.extract, hv]) hvv hb
theorem op_s2a {t elem : TypeId} {n len c b off : Nat} {l : Loc} {foot : Option (List Nat)} (hu : P.underlying t = some (.array n elem)) (hν : ν b = some l) (hle : n ≤ len) (hb : Below B w0 w) :
    Gives P nB B w0 ν H nx ⟨.ptr b off, [], nx, foot⟩ w (Instr.arrayAt t (.slice (some ⟨l.addr, off, none⟩) len c)) :=
  gives_val (v' := .pointer (some ⟨l.addr, off, none⟩)) (by simp [Instr.arrayAt, run_underlying hu]; omega) (by simp only [VR]; exact ⟨l, hν, rfl⟩) hb
theorem op_makeFunc {f : Fn} {caps : Array Operand} {cs : List LV} {a : Act} {foot : Option (List Nat)} (h : VRs ν cs (caps.toList.map a.eval)) (hb : Below B w0 w) :
    Gives P nB B w0 ν H nx ⟨.fn f cs, [], nx, foot⟩ w (Instr.makeFunc f #[] (caps.map a.eval)) :=
  gives_val (v' := .func f #[] (caps.map a.eval)) rfl (by simp only [VR]; exact ⟨caps.toList.map a.eval, by congr 1; apply Array.ext'; simp, h⟩) hb
theorem wrap_nat (n : Nat) (h : n ≤ 2 ^ 62) : IntKind.i64.wrap (n : Int) = n := by
  have hm : (n : Int) % (2 ^ IntKind.i64.bits : Int) = n := Int.emod_eq_of_lt (by omega) (by show (n : Int) < 2 ^ 64; omega)
  unfold IntKind.wrap
  simp only [hm]
  rw [if_neg]
  show ¬ ((true && decide ((n : Int) ≥ 2 ^ 63)) = true)
  simp only [Bool.true_and, decide_eq_true_eq]
  omega
theorem flat_nil : ∀ c, (List.replicate c ([] : List Value)).flatten = []
  | 0 => rfl
  | c + 1 => by rw [List.replicate_succ, List.flatten_cons, flat_nil c]; rfl
theorem op_makeSlice {t elem : TypeId} {l c n : Nat} {x y : LV} {x' y' : Value} {z : List LV} {inf : TypeInfo} (hu : P.underlying t = some (.slice elem)) (hx : VR ν x x') (hy : VR ν y y') (hl : natL x = some l) (hc : natL y = some c) (hz : zeroL P elem = some z) (hn : sizeL P elem = some n) (hi : P.info? elem = some inf)
    (hzn : z.length = n) (hle : l ≤ c) (hc30 : c ≤ 2 ^ 30) (h40 : inf.bytes * c ≤ 2 ^ 40) (h : new1 nx elem true false (repL z c) (.slice nx 0 l c) [] = some out) (hν : ν nx = none) (hb : Below B w0 w) (hB : B ≤ w0.heap.size) :
    Gives P nB B w0 ν H nx out w (Instr.makeSlice t x' y') := by
  obtain ⟨h1, rfl⟩ := new1_inv h
  obtain ⟨v, hv, hvs, _⟩ := run_zero (ν := ν) hz
  obtain ⟨k1, rfl⟩ := natL_ok hl hx
  obtain ⟨k2, rfl⟩ := natL_ok hc hy
  have hvz : v.cells.size = n := by have := hvs.length; simp at this; rw [this, hzn]
  have hwl : IntKind.i64.wrap (l : Int) = l := wrap_nat l (by omega)
  have hwc : IntKind.i64.wrap (c : Int) = c := wrap_nat c (by omega)
  refine gives_new (v' := .slice (some ⟨w.heap.size, 0, none⟩) l c) (c := ((List.replicate c v.cells.toList).flatten).toArray) hν ?_ (by simpa using repL_ok hvs c) h1 hb hB (by simp [VR, envNew])
  have hb2 : ¬ (inf.bytes : Int) * (c : Int) > 2 ^ 48 := by
    have : ((inf.bytes * c : Nat) : Int) ≤ ((2 ^ 40 : Nat) : Int) := Int.ofNat_le.2 h40
    rw [Int.natCast_mul] at this
    have e : ((2 ^ 40 : Nat) : Int) < 2 ^ 48 := by decide
    omega
  have hti : (typeInfo elem).run P w = .ok inf w := by simp [typeInfo, hi]
  simp only [Instr.makeSlice, Sem.run_bind, run_underlying hu, Result.andThen_ok, asInt, asIntOf, Sem.run_pure, hti, hwl, hwc]
  have hcond : ¬ ((decide ((c : Int) < 0) || decide ((inf.bytes : Int) * (c : Int) > 2 ^ 48) || decide ((l : Int) < 0) || decide ((l : Int) > (c : Int))) = true) := by
    rw [Bool.or_eq_true, Bool.or_eq_true, Bool.or_eq_true]
    simp only [decide_eq_true_eq]
    omega
  rw [if_neg hcond]
  simp only [Sem.run_bind, run_askRoom, Result.andThen_ok, run_sizeOf hn]
  by_cases hc0 : (c : Int).toNat * n = 0
  · rw [if_pos hc0]
    have hrl : (List.replicate c v.cells.toList).flatten = [] := by
      rcases Nat.mul_eq_zero.1 hc0 with h | h
      · have : c = 0 := by omega
        subst this; rfl
      · have : v.cells.toList = [] := by apply List.eq_nil_of_length_eq_zero; rw [Array.length_toList, hvz, h]
        rw [this]; exact flat_nil c
    have hc0' : c * n = 0 := by simpa using hc0
    simp [newRow, hc0', hrl, show Array.range 0 = #[] from rfl]
  · rw [if_neg hc0]
    simp only [Sem.run_bind, hv, Result.andThen_ok, Sem.run_pure]
    rw [range_rep v.cells c _ (by rw [hvz]; rfl)]
    simp [newRow]
end
end Go.Proofs.YtjpfhhndjpdmoaaGreatDoor
