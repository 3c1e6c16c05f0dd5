/- Part of the proof: HFacts. No conditions of its own. -/
import Derived.Below
import Derived.BigQuiet
import Derived.Deep.CutBlock
import Derived.Deep.DeepCutAuto
import Derived.Deep.Draws
import Derived.Deep.LoopGhost
import Derived.Deep.Quiet
import Derived.Deep.QuietTactic
import Derived.Deep.RegionLaw
import Derived.Great.BuildSlice
import Derived.Great.FillDense
import Derived.Laws.AppendOwn
import Derived.Laws.AppendOwnNone
import Derived.Laws.BytesArg
import Derived.Laws.Concat
import Derived.Laws.MakeOwn
import Derived.Lib.AppendZerosOnto
import Derived.Lib.Hide
import Derived.Lib.SlBytesConst
import Derived.StillTail
import Derived.Stop.BytesEq
import Derived.Test.YtnenoecmmelehaaProg
import Derived.WalkKit
import Derived.WalkLawsBesides
import Derived.WalkSpells
import Derived.Test.YtnenoecmmelehaaM09
import Derived.Test.YtnenoecmmelehaaM10
import Derived.Test.YtnenoecmmelehaaM11
namespace Go.Proofs.Ytnenoecmmelehaa
open Go.RowKit
set_option linter.unusedVariables false

/-! ### a region in the order of the text -/
section
variable {P : Program} {ops : Array Oper} {md : Region.Mode} {W : World} {q : Tmp → Value} {p : Tmp → Value → Prop} {fs ds : List Tmp} {φ : Tmp → Value → World → Prop}
theorem wpList_of_Fq (hφ : StabP W.heap.size φ) (hp : ∀ d v w, φ d v w → p d v) {L : Act → Facts → Prop} {Q : Exit → Act → World → Prop} {rest : List Oper} (hL : ∀ a R w, CF W R w → L a R → wpList P ops Q rest a w) :
    ∀ (l : List Oper) (k : Nat) (a : Act) (R : Facts) (w : World), (∀ j, j < l.length → l[j]? = ops[k + j]?) → CF W R w → wpFq P ops W q p fs ds φ L l a R → wpList P ops Q (l ++ rest) a w
  | [], _, a, R, w, _, hw, h => hL a R w hw h
  | o :: l, k, a, R, w, hl, hw, h => by
    have h0 : ops[k]? = some o := by simpa using (hl 0 (by simp)).symm
    have h1 : wpOp P ops Q k (wpList P ops Q (l ++ rest)) a w := by
      refine wpOp_of_fOp (P := P) (ops := ops) (W := W) (q := q) (p := p) (fs := fs) (ds := ds) (φ := φ) (K := wpFq P ops W q p fs ds φ L l) hφ hp hw (fun a' R' w' hw' h' => wpList_of_Fq hφ hp hL l (k + 1) a' R' w' (fun j hj => by have := hl (j + 1) (by simp; omega); simpa [Nat.add_assoc, Nat.add_comm 1 j] using this) hw' h') ?_
      rw [fOp_some h0]
      exact h
    unfold wpOp at h1
    simp only [h0] at h1
    exact h1
theorem wp_region_seq {id : Nat} {Q : Exit → Act → World → Prop} {a : Act} {w : World} {l : List Oper} (n : Nat) (fs ds : List Tmp) (p : Tmp → Value → Prop) (φ : Tmp → Value → World → Prop) (hd : dstB (l.take n) a.tmps.size = true) (hφ : StabP w.heap.size φ)
    (hp : ∀ d v w, φ d v w → p d v) (hinh : ∀ d, ∃ v, p d v)
    (h : ∃ (F : (Tmp → Value) → Act) (D : List Tmp), (∀ ν, (∀ d, p d (ν d)) → wpF P l.toArray w fs ds φ ν (fun a' D' => a' = F ν ∧ D' = D) [] (l.take n) a) ∧ (∀ ν ν', clearF (fs ++ ds) (F ν) = clearF (fs ++ ds) (F ν')) ∧
      ∀ ν w', (∀ d, p d (ν d)) → Below w.heap.size w w' → (∀ d, d ∈ D → φ d (ν d) w') → wpList P l.toArray Q (l.drop n) (F ν) w') : (Code.region id l.toArray false).wp P Q a w := by
  obtain ⟨F, D, hF, hcl, hT⟩ := h
  obtain ⟨ν0, hν0⟩ : ∃ ν0 : Tmp → Value, ∀ d, p d (ν0 d) := ⟨fun d => Classical.choose (hinh d), fun d => Classical.choose_spec (hinh d)⟩
  refine wp_region_lit ?_
  have hst : StabF w.heap.size (fun _ _ => True) := fun _ _ _ _ _ => trivial
  have hq := wpFq_of (P := P) (ops := l.toArray) (W := w) (F := F) (D := D) (fs := fs) (ds := ds) (p := p) (q := fun d => (F ν0).tmps[d]?.getD undef) hφ (fun ν _ d hdf hdd => by
      have hn : d ∉ fs ++ ds := fun e => (List.mem_append.1 e).elim hdf hdd
      rw [← clearF_get d (fs ++ ds) (F ν) hn, hcl ν ν0, clearF_get d (fs ++ ds) _ hn]) (l.take n) [] a ν0 (fun _ _ => True) hν0 hd (fun _ e => by cases e) (fun _ e => by cases e) (fun ν hpν _ => hF ν hpν)
  have hcf : CF w (fun _ _ => True) w := ⟨Below.refl _ _, fun _ => trivial, hst⟩
  have := wpList_of_Fq (P := P) (ops := l.toArray) (W := w) (fs := fs) (ds := ds) (Q := Q) (rest := l.drop n) hφ hp (fun a' R w' hw' hL => by
    obtain ⟨ν, hpν, rfl, hR⟩ := hL
    exact hT ν w' hpν hw'.1 (fun d hd => hR d hd w' (hw'.2.1 d))) (l.take n) 0 a _ w (fun j hj => by
      rw [Nat.zero_add, List.getElem?_take, if_pos (by rw [List.length_take] at hj; omega)]
      simp) hcf hq
  rwa [List.take_append_drop] at this
end
theorem PartsAt.soft {w w' : World} {v : Value} {ls : List (List UInt8)} (h : PartsAt w v ls) (hs : Soft w w') : PartsAt w' v ls := by
  obtain ⟨a, cap, e, h1, h2, h3⟩ := h
  refine ⟨a, cap, e, h1, h2, fun i hi => ?_⟩
  obtain ⟨g, o, u, e1, e2, e3⟩ := h3 i hi
  exact ⟨g, o, u, e1, hs.cell e2, e3.soft hs⟩
def SlT (w : World) (v : Value) (l : List UInt8) : Prop := SlB w v l ∧ ∀ ad, addrV v = some ad → ∃ cs f, w.heap[ad.block]? = some (.cells cs 5 f)
theorem SlT.soft {w w' : World} {v : Value} {l : List UInt8} (h : SlT w v l) (hs : Soft w w') : SlT w' v l :=
  ⟨h.1.soft hs, fun ad had => let ⟨cs, _, hf⟩ := h.2 ad had; let ⟨f', hf'⟩ := hs _ _ _ _ hf; ⟨cs, f', hf'⟩⟩
theorem SlT.nil (w : World) : SlT w (.slice none 0 0) [] := ⟨⟨none, 0, rfl, Nat.le_refl _, Nat.zero_le _, fun _ => rfl, fun _ h => by cases h⟩, fun _ h => by cases h⟩
theorem Buf.slt {w : World} {base : Nat} {v : Value} {l : List UInt8} (h : Buf 5 w base v l) : SlT w v l := by
  refine ⟨h.slb, fun ad had => ?_⟩
  rcases h.2 with ⟨rfl, _⟩ | ⟨g, cap, cur, rfl, _, hh, _⟩
  · cases had
  · obtain rfl := Option.some.inj had
    exact ⟨cur, (0, 0), hh⟩
def RowT (w : World) : List Value → List (List UInt8) → Prop
  | [], [] => True
  | v :: vs, l :: ls => SlT w v l ∧ RowT w vs ls
  | _, _ => False
theorem RowT.soft {w w' : World} (hs : Soft w w') : ∀ {vs : List Value} {ls : List (List UInt8)}, RowT w vs ls → RowT w' vs ls
  | [], [], _ => trivial
  | _ :: _, _ :: _, h => ⟨h.1.soft hs, RowT.soft hs h.2⟩
  | [], _ :: _, h => h.elim
  | _ :: _, [], h => h.elim
theorem RowT.rowS {w : World} : ∀ {vs : List Value} {ls : List (List UInt8)}, RowT w vs ls → RowS w vs ls
  | [], [], _ => trivial
  | _ :: _, _ :: _, h => ⟨h.1.1, RowT.rowS h.2⟩
  | [], _ :: _, h => h.elim
  | _ :: _, [], h => h.elim
theorem RowT.append {w : World} {us : List Value} {ms : List (List UInt8)} (k : RowT w us ms) : ∀ {vs : List Value} {ls : List (List UInt8)}, RowT w vs ls → RowT w (vs ++ us) (ls ++ ms)
  | [], [], _ => k
  | _ :: _, _ :: _, h => ⟨h.1, RowT.append k h.2⟩
  | [], _ :: _, h => h.elim
  | _ :: _, [], h => h.elim
structure FK where
  holds : Nat → Value → World → Prop
  stab : ∀ n v w w', holds n v w → GB n w w' → holds n v w'
  shape : ∀ n v w, holds n v w → isSliceV v = true
theorem SlB.shape {w : World} {v : Value} {l : List UInt8} (h : SlB w v l) : isSliceV v = true := by obtain ⟨a, c, rfl, _⟩ := h; rfl
theorem PartsAt.shape {w : World} {v : Value} {l : List (List UInt8)} (h : PartsAt w v l) : isSliceV v = true := by obtain ⟨a, c, rfl, _⟩ := h; rfl
def FK.cst (l : List UInt8) : FK where
  holds := fun n v w => ∃ g f, v = .slice (some ⟨g, 0, none⟩) l.length l.length ∧ n ≤ g ∧ l.length ≤ 1000000 ∧ w.heap[g]? = some (.cells (AB l) 5 f)
  stab := fun n v w w' ⟨g, f, e, h1, h2, h3⟩ hb => let ⟨f', h4⟩ := hb.soft g _ _ f h3; ⟨g, f', e, h1, h2, h4⟩
  shape := fun n v w ⟨g, f, e, _⟩ => by rw [e]; rfl
def FK.ful (l : List UInt8) : FK where
  holds := fun n v w => (∃ b o, v = .slice (some ⟨b, o, none⟩) l.length l.length) ∧ SlB w v l
  stab := fun n v w w' h hb => ⟨h.1, h.2.soft hb.soft⟩
  shape := fun n v w h => h.2.shape
def FK.byt (l : List UInt8) : FK where
  holds := fun n v w => SlB w v l
  stab := fun n v w w' h hb => h.soft hb.soft
  shape := fun n v w h => h.shape
def FK.prf (ls : List (List UInt8)) : FK where
  holds := fun n v w => (∃ b o, v = .slice (some ⟨b, o, none⟩) ls.length ls.length) ∧ PartsAt w v ls
  stab := fun n v w w' h hb => ⟨h.1, h.2.soft hb.soft⟩
  shape := fun n v w h => h.2.shape
def FK.prt (ls : List (List UInt8)) : FK where
  holds := fun n v w => PartsAt w v ls
  stab := fun n v w w' h hb => h.soft hb.soft
  shape := fun n v w h => h.shape
def FK.new (l : List UInt8) : FK where
  holds := fun n v w => SlT w v l
  stab := fun n v w w' h hb => h.soft hb.soft
  shape := fun n v w h => h.1.shape
def FK.prn (ls : List (List UInt8)) : FK where
  holds := fun n v w => ∃ b o vs, v = .slice (some ⟨b, o, none⟩) ls.length ls.length ∧ (∀ j u, vs[j]? = some u → w.cell? ⟨b, o + j, none⟩ = some u) ∧ RowT w vs ls
  stab := fun n v w w' ⟨b, o, vs, e, h1, h2⟩ hb => ⟨b, o, vs, e, fun j u hj => hb.soft.cell (h1 j u hj), h2.soft hb.soft⟩
  shape := fun n v w ⟨b, o, vs, e, _⟩ => by rw [e]; rfl
def FK.any : FK where
  holds := fun n v w => isSliceV v = true
  stab := fun n v w w' h _ => h
  shape := fun n v w h => h
def phi (n : Nat) (T : List (Nat × FK)) (d : Tmp) (v : Value) (w : World) : Prop := ((T.lookup d).getD .any).holds n v w
theorem phi_get {n : Nat} {T : List (Nat × FK)} {d : Tmp} {v : Value} {w : World} {k : FK} (h : phi n T d v w) (hT : T.lookup d = some k) : k.holds n v w := by
  unfold phi at h
  rw [hT] at h
  exact h
def shp (_ : Tmp) (v : Value) : Prop := isSliceV v = true
theorem phi_shp (n : Nat) (T : List (Nat × FK)) : ∀ d v w, phi n T d v w → shp d v := fun _ _ _ h => FK.shape _ _ _ _ h
theorem shp_inh : ∀ d : Tmp, ∃ v, shp d v := fun _ => ⟨.slice none 0 0, rfl⟩
theorem phi_stab (n : Nat) (T : List (Nat × FK)) : StabP n (phi n T) := fun d v w w' h hb => FK.stab _ n v w w' h hb
theorem one_slice {v : Value} (h : isSliceV v = true) : v.oneCell' = true ∧ v.cells = #[v] := by
  cases v <;> first | exact ⟨rfl, rfl⟩ | cases h
/-! ### the operations -/
theorem info_sl27 : (Try.prog.info? 27).map (fun i => (i.zero, i.size, i.bytes)) = some (some (.slice none 0 0), 1, 24) := info_sl
theorem run_bs_u8 (w : World) (bs : List UInt8) (h0 : 0 < bs.length) (h1 : bs.length ≤ 1000000) :
    (Instr.buildSlice 27 bs.length (((bs.map B).zipIdx 0).map fun x => (x.2, x.1)).toArray).run Try.prog w = .ok (.slice (some ⟨w.heap.size, 0, none⟩) bs.length bs.length) (w.alloc (.cells (AB bs) 5)) := by
  obtain ⟨i, hi, hz, hs, _⟩ := info_any info_u8
  refine run_buildSlice w _ _ _ _ _ i _ Try.underlying27 hi hz (by rw [hs]; omega) (by rw [hs]; omega) ?_
  rw [hs]
  exact Great.fill_flat (bs.map B) _ (fun v hv => by obtain ⟨n, _, rfl⟩ := List.mem_map.1 hv; rfl) (by simp)
theorem run_bs_sl (w : World) (vs : List Value) (h0 : 0 < vs.length) (h1 : vs.length ≤ 1000000) (hv : ∀ v ∈ vs, isSliceV v = true) :
    (Instr.buildSlice 28 vs.length ((vs.zipIdx 0).map fun x => (x.2, x.1)).toArray).run Try.prog w = .ok (.slice (some ⟨w.heap.size, 0, none⟩) vs.length vs.length) (w.alloc (.cells vs.toArray 27)) := by
  obtain ⟨i, hi, hz, hs, _⟩ := info_any info_sl27
  refine run_buildSlice w _ _ _ _ _ i _ Try.underlying28 hi hz (by rw [hs]; omega) (by rw [hs]; omega) ?_
  rw [hs]
  exact Great.fill_flat vs _ (fun v h => (one_slice (hv v h)).2) (by simp)
theorem SlB.rowAt {w : World} {g n : Nat} {l : List UInt8} {t : TypeId} {f : Nat × Nat} (h : w.heap[g]? = some (.cells (AB l) t f)) (hn : n = l.length) (hl : l.length ≤ 1000000) : SlB w (.slice (some ⟨g, 0, none⟩) n n) l := by
  subst hn
  refine ⟨_, l.length, rfl, Nat.le_refl _, by unfold maxLen; omega, (fun h => by cases h), fun ad had => ?_⟩
  obtain rfl := Option.some.inj had
  refine ⟨rfl, fun i hi => ?_⟩
  unfold World.cell?
  rw [h]
  simp [AB, hi, gb]
theorem run_mark (w : World) (g n c : Nat) (C : Array Value) (f : Nat × Nat) (h : w.heap[g]? = some (.cells C 5 f)) :
    ∃ w', (convert 27 27 (.slice (some ⟨g, 0, none⟩) n c)).run Try.prog w = .ok (.slice (some ⟨g, 0, none⟩) n c) w' ∧ ∀ m, m ≤ g → GB m w w' := by
  have hsh : w.shape? g = some (5, C.size) := by
    unfold World.shape?
    rw [h]
  refine ⟨w.freeze ⟨g, C.size, none⟩ 1, ?_, fun m hm => ⟨⟨rfl, rfl, rfl, ?_, fun k hk => ?_⟩, fun b cs t f' hb => ?_⟩⟩
  · simp [convert, run_underlying Try.underlying27, run_underlying Try.underlying5, markStringish, hsh]
  · unfold World.freeze
    rw [if_neg (by decide)]
    simp
  · unfold World.freeze
    rw [if_neg (by decide)]
    simp only [Array.getElem?_modify]
    rw [if_neg (by omega)]
  · unfold World.freeze
    rw [if_neg (by decide)]
    simp only [Array.getElem?_modify]
    by_cases hgb : g = b
    · subst hgb
      rw [if_pos rfl, hb]
      exact ⟨_, rfl⟩
    · rw [if_neg hgb, hb]
      exact ⟨f', rfl⟩
theorem run_app_full (w : World) (b o : Nat) (l m : List UInt8) (vy : Value) (ty : TypeId) (hs : SlB w (.slice (some ⟨b, o, none⟩) l.length l.length) l) (hy : SlB w vy m) (hm : 0 < m.length) (hsz : l.length + m.length ≤ 1000000000) :
    ∃ v' w', (Builtin.append_ #[27, 27] ty #[.slice (some ⟨b, o, none⟩) l.length l.length, vy]).run Try.prog w = .ok v' w' ∧ Buf 5 w' w.heap.size v' (l ++ m) ∧ Below w.heap.size w w' := by
  obtain ⟨i, hi, hz, hs1, hb1⟩ := info_any info_u8
  obtain ⟨by', oy, cy, rfl, _, _, _, hc⟩ := hy.addr hm
  have hl : ∀ i, i < l.length → w.cell? ⟨b, o + i, none⟩ = some (B (gb l i)) := by
    obtain ⟨a', cap', hv, _, _, _, h4⟩ := hs
    simp only [Value.slice.injEq] at hv
    exact fun i hi => (h4 _ hv.1.symm).2 i hi
  have hbd : Builtin.nextslicecap (l.length + m.length) l.length * i.bytes ≤ 281474976710656 := by
    rw [hb1, Nat.mul_one]
    exact Nat.le_trans (nextslicecap_le (by omega)) (by omega)
  have hrun := run_append_grow (P := Try.prog) (w := w) 27 ty 5 i _ Try.underlying27 hi hz ⟨b, o, none⟩ l.length l.length (l.map B) (by simp [hs1]) (fun j v hj => by
      have hj' : j < l.length := by simpa using (List.getElem?_eq_some_iff.1 hj).1
      rw [Addr.add_lit, hl j hj']
      simpa [gb, hj'] using hj) ⟨by', oy, none⟩ m.length cy (m.map B) (by simp [hs1]) (fun j v hj => by
      have hj' : j < m.length := by simpa using (List.getElem?_eq_some_iff.1 hj).1
      rw [Addr.add_lit, hc j hj']
      simpa [gb, hj'] using hj) (by omega) (by omega) hbd
  have hge := grownCap_ge w (l.length + m.length) l.length 5
  have hle := grownCap_le_maxLen w (l.length + m.length) l.length 5 (by unfold maxLen; omega)
  refine ⟨_, _, hrun, ?_, (Below.refl _ w).drew.alloc (Nat.le_refl _) _⟩
  obtain ⟨G, hG⟩ : ∃ G, G = grownCap w (l.length + m.length) l.length 5 := ⟨_, rfl⟩
  rw [← hG] at hge hle ⊢
  obtain ⟨CS, hCS⟩ : ∃ CS, CS = (l.map B).toArray ++ (m.map B).toArray ++ Builtin.zeroCells (Value.int .u8 0).cells (G - (l.length + m.length)) := ⟨_, rfl⟩
  rw [← hCS]
  have hsz' : CS.size = G := by
    rw [hCS]
    simp only [Array.size_append, List.size_toArray, List.length_map, size_zeroCells]
    show l.length + m.length + (G - (l.length + m.length)) * 1 = G
    omega
  have hpre : Pre CS (l ++ m) := by
    unfold Pre
    rw [hCS]
    simp only [Array.toList_append, List.map_append, List.length_append]
    rw [List.take_append_of_le_length (by simp), List.take_of_length_le (by simp)]
  have := Buf.mk' (base := w.heap.size) (l := l ++ m) (Row.newAt w.drew w.heap.size 5 CS rfl) hpre (by simpa using hge) hle hsz' (Nat.le_refl _)
  rwa [List.length_append] at this
theorem PartsAt.newAt {w : World} {g n : Nat} {t : TypeId} {vs : List Value} {ls : List (List UInt8)} (h : RowS w vs ls) (hg : g = w.heap.size) (hn : n = ls.length) (hl : ls.length ≤ 1000000) : PartsAt (w.alloc (.cells vs.toArray t)) (.slice (some ⟨g, 0, none⟩) n n) ls := by
  subst hg hn
  exact PartsAt.new h hl
theorem run_appP_full (w : World) (b o b2 o2 : Nat) (ls ms : List (List UInt8)) (ty : TypeId) (hs : PartsAt w (.slice (some ⟨b, o, none⟩) ls.length ls.length) ls) (hy : PartsAt w (.slice (some ⟨b2, o2, none⟩) ms.length ms.length) ms) (hm : 0 < ms.length) (hsz : ls.length + ms.length ≤ 1000000) :
    ∃ v' w', (Builtin.append_ #[28, 28] ty #[.slice (some ⟨b, o, none⟩) ls.length ls.length, .slice (some ⟨b2, o2, none⟩) ms.length ms.length]).run Try.prog w = .ok v' w' ∧ PartsAt w' v' (ls ++ ms) ∧ Below w.heap.size w w' := by
  obtain ⟨i, hi, hz, hs1, hb1⟩ := info_any info_sl27
  have cells : ∀ {b o : Nat} {ls : List (List UInt8)}, PartsAt w (.slice (some ⟨b, o, none⟩) ls.length ls.length) ls → ∀ i, i < ls.length → ∃ v, w.cell? ⟨b, o + i, none⟩ = some v ∧ SlB w v (ls.getD i []) := fun h i hi => by
    obtain ⟨a, cap, e, _, _, h3⟩ := h
    simp only [Value.slice.injEq] at e
    obtain ⟨g, o', v, h4, h5, h6⟩ := h3 i hi
    rw [← e.1] at h4
    simp only [Option.some.injEq, Addr.mk.injEq, and_true] at h4
    obtain ⟨rfl, rfl⟩ := h4
    exact ⟨v, h5, h6⟩
  have hx := cells hs
  have hy' := cells hy
  have mk : ∀ (b o : Nat) (ls : List (List UInt8)), (∀ i, i < ls.length → ∃ v, w.cell? ⟨b, o + i, none⟩ = some v ∧ SlB w v (ls.getD i [])) → ∃ vs : List Value, vs.length = ls.length ∧ ∀ i, i < ls.length → ∃ v, vs[i]? = some v ∧ w.cell? ⟨b, o + i, none⟩ = some v ∧ SlB w v (ls.getD i []) := fun b o ls h =>
    ⟨(List.range ls.length).map fun i => (w.cell? ⟨b, o + i, none⟩).getD undef, by simp, fun i hi => by
      obtain ⟨v, h1, h2⟩ := h i hi
      exact ⟨v, by simp [hi, h1], h1, h2⟩⟩
  obtain ⟨vs, hv1, hv2⟩ := mk _ _ _ hx
  obtain ⟨us, hu1, hu2⟩ := mk _ _ _ hy'
  have hbd : Builtin.nextslicecap (ls.length + ms.length) ls.length * i.bytes ≤ 281474976710656 := by
    rw [hb1]
    have := nextslicecap_le (need := ls.length + ms.length) (old := ls.length) (by omega)
    omega
  have hrun := run_append_grow (P := Try.prog) (w := w) 28 ty 27 i _ Try.underlying28 hi hz ⟨b, o, none⟩ ls.length ls.length vs (by simp [hs1, hv1]) (fun j v hj => by
      have hj' : j < ls.length := by rw [← hv1]; exact (List.getElem?_eq_some_iff.1 hj).1
      obtain ⟨v', h1, h2, _⟩ := hv2 j hj'
      rw [hj] at h1
      rw [Addr.add_lit, h2, h1]) ⟨b2, o2, none⟩ ms.length ms.length us (by simp [hs1, hu1]) (fun j v hj => by
      have hj' : j < ms.length := by rw [← hu1]; exact (List.getElem?_eq_some_iff.1 hj).1
      obtain ⟨v', h1, h2, _⟩ := hu2 j hj'
      rw [hj] at h1
      rw [Addr.add_lit, h2, h1]) (by omega) (by omega) hbd
  have hge := grownCap_ge w (ls.length + ms.length) ls.length 27
  have hle := grownCap_le_maxLen w (ls.length + ms.length) ls.length 27 (by unfold maxLen; omega)
  have hbel : ∀ o : Obj, Below w.heap.size w (w.drew.alloc o) := fun o => (Below.refl _ w).drew.alloc (Nat.le_refl _) _
  refine ⟨_, _, hrun, ?_, hbel _⟩
  refine ⟨_, grownCap w (ls.length + ms.length) ls.length 27, by rw [List.length_append], by rw [List.length_append]; exact hge, hle, fun j hj => ?_⟩
  rw [List.length_append] at hj
  refine ⟨w.heap.size, 0, ?_⟩
  rw [Nat.zero_add, (Row.newAt w.drew w.heap.size 27 _ rfl).cell]
  rcases Nat.lt_or_ge j ls.length with h | h
  · obtain ⟨v, h1, _, h3⟩ := hv2 j h
    refine ⟨v, rfl, ?_, ?_⟩
    · rw [Array.append_assoc, Array.getElem?_append_left (by simp; omega)]
      simpa using h1
    · rw [List.getD_eq_getElem?_getD, List.getElem?_append_left h, ← List.getD_eq_getElem?_getD]
      exact h3.below (hbel _)
  · obtain ⟨v, h1, _, h3⟩ := hu2 (j - ls.length) (by omega)
    refine ⟨v, rfl, ?_, ?_⟩
    · rw [Array.getElem?_append_left (by simp; omega), Array.getElem?_append_right (by simp; omega)]
      simpa [hv1] using h1
    · rw [List.getD_eq_getElem?_getD, List.getElem?_append_right h, ← List.getD_eq_getElem?_getD]
      exact h3.below (hbel _)
section
variable {ops : Array Oper} {W : World} {fs ds : List Tmp} {T : List (Nat × FK)} {ν : Tmp → Value} {E : Act → List Tmp → Prop} {done : List Tmp} {o : Oper} {l : List Oper} {a : Act}
theorem parts_list {parts : Array (Nat × Operand)} {f : Nat × Operand → Nat × Value} {l : List (Nat × Value)} (h : parts.toList.map f = l) : parts.map f = l.toArray := by
  apply Array.ext'
  simpa using h
theorem wpF_cst (bs : List UInt8) (parts : Array (Nat × Operand)) (ho : o.op = .buildSlice 27 bs.length parts) (hv : parts.toList.map (fun p => (p.1, a.eval p.2)) = ((bs.map B).zipIdx 0).map fun x => (x.2, x.1)) (h0 : 0 < bs.length) (h1 : bs.length ≤ 1000000)
    (hf : isF fs o = true) (hw : Region.wanted o (yielded ops a.tmps) = true) (hT : ∀ d, o.dst = some d → T.lookup d = some (.cst bs))
    (h : wpF Try.prog ops W fs ds (phi W.heap.size T) ν E (o.dst.toList ++ done) l (a.put o.dst (vqF ν o))) : wpF Try.prog ops W fs ds (phi W.heap.size T) ν E done (o :: l) a :=
  wpF_gen hf hw (fun w hB _ => ⟨.slice (some ⟨w.heap.size, 0, none⟩) bs.length bs.length, _, by
      unfold execOp
      simp only [ho, Sem.run_bind]
      rw [parts_list hv, run_bs_u8 w bs h0 h1]
      rfl, fun d hd => by
        unfold phi
        rw [hT d hd]
        exact ⟨w.heap.size, (0, 0), rfl, hB.size, h1, heap_alloc_new w _⟩, GB.of hB.size ((Below.refl _ w).alloc (Nat.le_refl _) _)⟩) h
theorem wpF_mark (bs : List UInt8) (x : Tmp) (ho : o.op = .convert 27 27 (.tmp x)) (hx : a.eval (.tmp x) = ν x) (hd : x ∈ done) (hl : (o.looksAt ops).contains x = true) (hTx : T.lookup x = some (.cst bs))
    (hf : isF fs o = true) (hw : Region.wanted o (yielded ops a.tmps) = true) (hT : ∀ d, o.dst = some d → T.lookup d = some (.ful bs))
    (h : wpF Try.prog ops W fs ds (phi W.heap.size T) ν E (o.dst.toList ++ done) l (a.put o.dst (vqF ν o))) : wpF Try.prog ops W fs ds (phi W.heap.size T) ν E done (o :: l) a :=
  wpF_gen hf hw (fun w hB hk => by
    have h1 := hk x hd hl
    unfold phi at h1
    rw [hTx] at h1
    obtain ⟨g, f, e, hg, hb, hh⟩ := h1
    obtain ⟨w', h2, h3⟩ := run_mark w g bs.length bs.length (AB bs) f hh
    refine ⟨ν x, w', ?_, fun d hd => ?_, h3 _ hg⟩
    · unfold execOp
      simp only [ho, Sem.run_bind, hx]
      rw [e, h2]
      rfl
    · unfold phi
      rw [hT d hd]
      obtain ⟨f', hf'⟩ := (h3 _ hg).soft g _ _ f hh
      exact ⟨⟨g, 0, e⟩, by rw [e]; exact SlB.rowAt hf' rfl hb⟩) h
theorem wpF_markN (bs : List UInt8) (x : Tmp) (ho : o.op = .convert 27 27 (.tmp x)) (hx : a.eval (.tmp x) = ν x) (hd : x ∈ done) (hl : (o.looksAt ops).contains x = true) (hTx : T.lookup x = some (.cst bs))
    (hf : isF fs o = true) (hw : Region.wanted o (yielded ops a.tmps) = true) (hT : ∀ d, o.dst = some d → T.lookup d = some (.new bs))
    (h : wpF Try.prog ops W fs ds (phi W.heap.size T) ν E (o.dst.toList ++ done) l (a.put o.dst (vqF ν o))) : wpF Try.prog ops W fs ds (phi W.heap.size T) ν E done (o :: l) a :=
  wpF_gen hf hw (fun w hB hk => by
    have h1 := hk x hd hl
    unfold phi at h1
    rw [hTx] at h1
    obtain ⟨g, f, e, hg, hb, hh⟩ := h1
    obtain ⟨w', h2, h3⟩ := run_mark w g bs.length bs.length (AB bs) f hh
    refine ⟨ν x, w', ?_, fun d hd => ?_, h3 _ hg⟩
    · unfold execOp
      simp only [ho, Sem.run_bind, hx]
      rw [e, h2]
      rfl
    · unfold phi
      rw [hT d hd]
      obtain ⟨f', hf'⟩ := (h3 _ hg).soft g _ _ f hh
      refine ⟨by rw [e]; exact SlB.rowAt hf' rfl hb, fun ad had => ?_⟩
      rw [e] at had
      obtain rfl := Option.some.inj had
      exact ⟨_, f', hf'⟩) h
theorem RowT.len {w : World} {vs : List Value} {ls : List (List UInt8)} (h : RowT w vs ls) : vs.length = ls.length := h.rowS.len
theorem wpF_prn (vs : List Value) (ls : List (List UInt8)) (parts : Array (Nat × Operand)) (ho : o.op = .buildSlice 28 vs.length parts) (hv : parts.toList.map (fun p => (p.1, a.eval p.2)) = (vs.zipIdx 0).map fun x => (x.2, x.1)) (h0 : 0 < vs.length) (h1 : vs.length ≤ 1000000)
    (hs : ∀ v ∈ vs, isSliceV v = true) (hr : ∀ w, Below W.heap.size W w → (∀ d, d ∈ done → (o.looksAt ops).contains d = true → phi W.heap.size T d (ν d) w) → RowT w vs ls)
    (hf : isF fs o = true) (hw : Region.wanted o (yielded ops a.tmps) = true) (hT : ∀ d, o.dst = some d → T.lookup d = some (.prn ls))
    (h : wpF Try.prog ops W fs ds (phi W.heap.size T) ν E (o.dst.toList ++ done) l (a.put o.dst (vqF ν o))) : wpF Try.prog ops W fs ds (phi W.heap.size T) ν E done (o :: l) a :=
  wpF_gen hf hw (fun w hB hk => ⟨.slice (some ⟨w.heap.size, 0, none⟩) vs.length vs.length, _, by
      unfold execOp
      simp only [ho, Sem.run_bind]
      rw [parts_list hv, run_bs_sl w vs h0 h1 hs]
      rfl, fun d hd => by
        have h2 := hr w hB hk
        have hbel : Below w.heap.size w (w.alloc (.cells vs.toArray 27)) := (Below.refl _ w).alloc (Nat.le_refl _) _
        unfold phi
        rw [hT d hd]
        refine ⟨w.heap.size, 0, vs, by rw [h2.len], fun j u hj => ?_, h2.soft (Soft.of_below hbel)⟩
        rw [Nat.zero_add, (Row.new w _ vs.toArray).cell]
        simpa using hj, GB.of hB.size ((Below.refl _ w).alloc (Nat.le_refl _) _)⟩) h
theorem wpF_prt (vs : List Value) (ls : List (List UInt8)) (parts : Array (Nat × Operand)) (ho : o.op = .buildSlice 28 vs.length parts) (hv : parts.toList.map (fun p => (p.1, a.eval p.2)) = (vs.zipIdx 0).map fun x => (x.2, x.1)) (h0 : 0 < vs.length) (h1 : vs.length ≤ 1000000)
    (hs : ∀ v ∈ vs, isSliceV v = true) (hr : ∀ w, Below W.heap.size W w → (∀ d, d ∈ done → (o.looksAt ops).contains d = true → phi W.heap.size T d (ν d) w) → RowS w vs ls)
    (hf : isF fs o = true) (hw : Region.wanted o (yielded ops a.tmps) = true) (hT : ∀ d, o.dst = some d → T.lookup d = some (.prf ls))
    (h : wpF Try.prog ops W fs ds (phi W.heap.size T) ν E (o.dst.toList ++ done) l (a.put o.dst (vqF ν o))) : wpF Try.prog ops W fs ds (phi W.heap.size T) ν E done (o :: l) a :=
  wpF_gen hf hw (fun w hB hk => ⟨.slice (some ⟨w.heap.size, 0, none⟩) vs.length vs.length, _, by
      unfold execOp
      simp only [ho, Sem.run_bind]
      rw [parts_list hv, run_bs_sl w vs h0 h1 hs]
      rfl, fun d hd => by
        have h2 := hr w hB hk
        unfold phi
        rw [hT d hd]
        exact ⟨⟨w.heap.size, 0, by rw [h2.len]⟩, PartsAt.newAt h2 rfl h2.len (by rw [← h2.len]; exact h1)⟩, GB.of hB.size ((Below.refl _ w).alloc (Nat.le_refl _) _)⟩) h
theorem run_exec_append {P : Program} {o : Oper} {a : Act} (s x : Operand) (t tx : TypeId) (ho : o.op = .call { callee := .builtin .append, args := #[s, x], argTypes := #[t, tx] }) {w w' : World} {v' : Value}
    (hr : ∀ ty, (Builtin.append_ #[t, tx] ty #[a.eval s, a.eval x]).run P w = .ok v' w') : (execOp a.eval o).run P w = .ok (.value v') w' := by
  unfold execOp
  simp only [ho, resolve, invoke, builtin, Sem.run_bind, Sem.run_pure, Result.andThen_ok, List.map_toArray, List.map_cons, List.map_nil, hr]
theorem wpF_app (x y : Tmp) (b m : List UInt8) (ho : o.op = .call { callee := .builtin .append, args := #[.tmp x, .tmp y], argTypes := #[27, 27] }) (hx : a.eval (.tmp x) = ν x) (hy : a.eval (.tmp y) = ν y)
    (hdx : x ∈ done) (hlx : (o.looksAt ops).contains x = true) (hTx : T.lookup x = some (.ful b)) (hdy : y ∈ done) (hly : (o.looksAt ops).contains y = true) (hTy : T.lookup y = some (.byt m)) (hm : 0 < m.length) (hsz : b.length + m.length ≤ 1000000000)
    (hf : isF fs o = true) (hw : Region.wanted o (yielded ops a.tmps) = true) (hT : ∀ d, o.dst = some d → T.lookup d = some (.byt (b ++ m)))
    (h : wpF Try.prog ops W fs ds (phi W.heap.size T) ν E (o.dst.toList ++ done) l (a.put o.dst (vqF ν o))) : wpF Try.prog ops W fs ds (phi W.heap.size T) ν E done (o :: l) a :=
  wpF_gen hf hw (fun w hB hk => by
    have h1 := hk x hdx hlx
    have h2 := hk y hdy hly
    unfold phi at h1 h2
    rw [hTx] at h1
    rw [hTy] at h2
    obtain ⟨⟨g, o', e⟩, h1⟩ := h1
    have h2 : SlB w (ν y) m := h2
    rw [e] at h1
    obtain ⟨v', w', h3, h4, h5⟩ := run_app_full w g o' b m (ν y) 0 h1 h2 hm hsz
    refine ⟨v', w', run_exec_append _ _ _ _ ho (fun ty => by rw [hx, hy, e]; exact h3), fun d hd => ?_, GB.of hB.size h5⟩
    unfold phi
    rw [hT d hd]
    exact h4.slb) h
theorem wpF_appP (x y : Tmp) (b m : List (List UInt8)) (ho : o.op = .call { callee := .builtin .append, args := #[.tmp x, .tmp y], argTypes := #[28, 28] }) (hx : ∀ w, (∀ d, d ∈ done → (o.looksAt ops).contains d = true → phi W.heap.size T d (ν d) w) → Below W.heap.size W w → FK.holds (.prf b) W.heap.size (a.eval (.tmp x)) w) (hy : a.eval (.tmp y) = ν y)
    (hdy : y ∈ done) (hly : (o.looksAt ops).contains y = true) (hTy : T.lookup y = some (.prf m)) (hm : 0 < m.length) (hsz : b.length + m.length ≤ 1000000)
    (hf : isF fs o = true) (hw : Region.wanted o (yielded ops a.tmps) = true) (hT : ∀ d, o.dst = some d → T.lookup d = some (.prt (b ++ m)))
    (h : wpF Try.prog ops W fs ds (phi W.heap.size T) ν E (o.dst.toList ++ done) l (a.put o.dst (vqF ν o))) : wpF Try.prog ops W fs ds (phi W.heap.size T) ν E done (o :: l) a :=
  wpF_gen hf hw (fun w hB hk => by
    have h1 := hx w hk hB
    have h2 := hk y hdy hly
    unfold phi at h2
    rw [hTy] at h2
    obtain ⟨⟨g, o', e⟩, h1⟩ := h1
    obtain ⟨⟨g2, o2, e2⟩, h2⟩ := h2
    rw [e] at h1
    rw [e2] at h2
    obtain ⟨v', w', h3, h4, h5⟩ := run_appP_full w g o' g2 o2 b m 0 h1 h2 hm hsz
    refine ⟨v', w', run_exec_append _ _ _ _ ho (fun ty => by rw [e, hy, e2]; exact h3), fun d hd => ?_, GB.of hB.size h5⟩
    unfold phi
    rw [hT d hd]
    exact h4) h
end
section
variable {ops : Array Oper} {W : World} {φ : Tmp → Value → World → Prop} {ν : Tmp → Value} {done : List Tmp} {o : Oper} {a : Act} {C : World → Prop} {K : Act → Prop}
theorem qf_loadM (x : Operand) (ho : o.op = .load 30 x) (g : Nat) (hx : a.eval x = .pointer (some ⟨g, 0, none⟩)) (t : TypeId) (cs : Array Value) (hC : ∀ w, C w → PreV W ops φ ν done o w) (hr : Row W g t cs) (hs : cs.size = 75) (hk : K (a.put o.dst (.agg cs))) : o.quiet Try.prog a C K :=
  qf_loadA _ x ho g 0 hx t cs hC hr agg_msg 75 siz_msg (by omega) cs (sub_all cs 75 hs) hk
end
/-! ### the callees, as facts of a slot -/
section
variable {n : Nat} {T : List (Nat × FK)} {k : Tmp}
theorem of_byt {f : FuncId} {args : Array Value} {w : World} {l : List UInt8} (hT : T.lookup k = some (.byt l)) (h : Calls Try.prog f args w fun e w' => ∃ v', e = .returned v' ∧ Buf 5 w' w.heap.size v' l ∧ Below w.heap.size w w') :
    Calls Try.prog f args w (fun e w'' => ∃ v, e = .returned v ∧ (∀ d, some k = some d → phi n T d v w'') ∧ Below w.heap.size w w'') :=
  h.mono fun e w' ⟨v, h1, h2, h3⟩ => ⟨v, h1, fun d hd => by cases hd; unfold phi; rw [hT]; exact h2.slb, h3⟩
theorem of_new {f : FuncId} {args : Array Value} {w : World} {l : List UInt8} (hT : T.lookup k = some (.new l)) (h : Calls Try.prog f args w fun e w' => ∃ v', e = .returned v' ∧ Buf 5 w' w.heap.size v' l ∧ Below w.heap.size w w') :
    Calls Try.prog f args w (fun e w'' => ∃ v, e = .returned v ∧ (∀ d, some k = some d → phi n T d v w'') ∧ Below w.heap.size w w'') :=
  h.mono fun e w' ⟨v, h1, h2, h3⟩ => ⟨v, h1, fun d hd => by cases hd; unfold phi; rw [hT]; exact h2.slt, h3⟩
theorem of_prt {f : FuncId} {args : Array Value} {w : World} {ls : List (List UInt8)} (hT : T.lookup k = some (.prt ls)) (h : Calls Try.prog f args w fun e w' => ∃ v', e = .returned v' ∧ PartsAt w' v' ls ∧ Below w.heap.size w w') :
    Calls Try.prog f args w (fun e w'' => ∃ v, e = .returned v ∧ (∀ d, some k = some d → phi n T d v w'') ∧ Below w.heap.size w w'') :=
  h.mono fun e w' ⟨v, h1, h2, h3⟩ => ⟨v, h1, fun d hd => by cases hd; unfold phi; rw [hT]; exact h2, h3⟩
end
/-! ### a slice of slices that grows -/
def OwnP (w : World) (base : Nat) (v : Value) (ls : List (List UInt8)) : Prop := ∃ vs, w.ownsRow base 27 1 v ls.length vs ∧ RowT w vs ls
theorem OwnP.nil (w : World) (base : Nat) : OwnP w base (.slice none 0 0) [] := ⟨[], World.ownsRow_nil _ _ _ _, trivial⟩
theorem OwnP.soft {w w' : World} {base : Nat} {v : Value} {ls : List (List UInt8)} (h : OwnP w base v ls) (hb : Below w.heap.size w w') : OwnP w' base v ls := by
  obtain ⟨vs, h1, h2⟩ := h
  refine ⟨vs, ⟨h1.1, h1.2.imp id fun ⟨g, cap, cur, hv, hg, hh, h3⟩ => ⟨g, cap, cur, hv, hg, (hb.block g (Array.getElem?_eq_some_iff.1 hh).1).trans hh, h3⟩⟩, h2.soft (Soft.of_below hb)⟩
theorem OwnP.parts {w : World} {base : Nat} {v : Value} {ls : List (List UInt8)} (h : OwnP w base v ls) : PartsAt w v ls := by
  obtain ⟨vs, ⟨hl, h1⟩, h2⟩ := h
  rcases h1 with ⟨rfl, h0⟩ | ⟨g, cap, cur, rfl, _, hh, h3, h4, h5, h6⟩
  · exact ⟨none, 0, by rw [h0], by omega, Nat.zero_le _, fun i hi => by omega⟩
  · refine ⟨some ⟨g, 0, none⟩, cap, rfl, h3, h4, fun i hi => ?_⟩
    obtain ⟨u, hu1, hu2⟩ := h2.rowS.get i hi
    refine ⟨g, 0, u, rfl, ?_, hu2⟩
    rw [Nat.zero_add, (Row.of_heap hh).cell, ← Array.getElem?_toList]
    have : (cur.toList.take (ls.length * 1))[i]? = vs[i]? := by rw [h6]
    rw [List.getElem?_take, if_pos (by omega)] at this
    rw [this, hu1]
theorem SlT.kept {w w' : World} {own : Option Nat} {v : Value} {l : List UInt8} (h : SlT w v l) (hg : w.grownBy w' own) (ht : ∀ g, own = some g → ∃ cs f, w.heap[g]? = some (.cells cs 27 f)) : SlT w' v l := by
  have key : ∀ ad, addrV v = some ad → w'.heap[ad.block]? = w.heap[ad.block]? := fun ad had => by
    obtain ⟨cs, f, hf⟩ := h.2 ad had
    refine hg.block _ (Array.getElem?_eq_some_iff.1 hf).1 fun e => ?_
    obtain ⟨cs', f', hf'⟩ := ht _ e.symm
    rw [hf] at hf'
    simp at hf'
  refine ⟨?_, fun ad had => by rw [key ad had]; exact h.2 ad had⟩
  obtain ⟨⟨a, cap, e, h1, h2, h3, h4⟩, _⟩ := h
  refine ⟨a, cap, e, h1, h2, h3, fun ad had => ⟨(h4 ad had).1, fun i hi => ?_⟩⟩
  have := key ad (by rw [e]; exact had)
  rw [show w'.cell? ⟨ad.block, ad.off + i, none⟩ = w.cell? ⟨ad.block, ad.off + i, none⟩ by simp [World.cell?, this]]
  exact (h4 ad had).2 i hi
theorem RowT.kept {w w' : World} {own : Option Nat} (hg : w.grownBy w' own) (ht : ∀ g, own = some g → ∃ cs f, w.heap[g]? = some (.cells cs 27 f)) : ∀ {vs : List Value} {ls : List (List UInt8)}, RowT w vs ls → RowT w' vs ls
  | [], [], _ => trivial
  | _ :: _, _ :: _, h => ⟨h.1.kept hg ht, RowT.kept hg ht h.2⟩
  | [], _ :: _, h => h.elim
  | _ :: _, [], h => h.elim
theorem RowT.slices {w : World} : ∀ {vs : List Value} {ls : List (List UInt8)}, RowT w vs ls → ∀ v, v ∈ vs → isSliceV v = true
  | [], [], _, _, hv => by cases hv
  | v :: vs, _ :: _, h, u, hu => by
    rcases List.mem_cons.1 hu with rfl | hu
    · exact SlB.shape h.1.1
    · exact RowT.slices h.2 u hu
  | [], _ :: _, h, _, _ => h.elim
  | _ :: _, [], h, _, _ => h.elim
theorem wpl_appendP {w : World} {ops : Array Oper} {rest : List Oper} {o : Oper} {a : Act} {Q : Exit → Act → World → Prop} (hgd : o.guard = none) (s x : Operand)
    (ho : o.op = .call { callee := .builtin .append, args := #[s, x], argTypes := #[28, 28] })
    (base : Nat) (v : Value) (ls : List (List UInt8)) (hs : a.eval s = v) (hown : OwnP w base v ls) (u : Value) (ms : List (List UInt8)) (hx : a.eval x = u) (hu : FK.holds (.prn ms) 0 u w)
    (hlen : ls.length + ms.length ≤ 1000000) (hbase : base ≤ w.heap.size)
    (h : ∀ v' w', OwnP w' base v' (ls ++ ms) → w.grownBy w' v.ownBlock → wpList Try.prog ops Q rest (a.put o.dst v') w') : wpList Try.prog ops Q (o :: rest) a w := by
  obtain ⟨i, hi, hz, hs1, hb1⟩ := info_any info_sl27
  obtain ⟨vs, hr, ht⟩ := hown
  obtain ⟨b, o', us, rfl, hc, hut⟩ := hu
  refine wpList_append_own w hgd s x 28 ho base 27 i _ 1 24 Try.underlying28 hi hz hs1 hb1 rfl (by decide) v ls.length vs hs hr ⟨b, o', none⟩ ms.length ms.length us hx (by rw [hut.len, Nat.mul_one]) (fun j y hj => by rw [Addr.add_lit]; exact hc j y hj) (fun y hy => (one_slice (hut.slices y hy)).1) (by unfold maxLen; omega) (by omega) hbase fun v' w' h1 h2 _ => ?_
  refine h v' w' ?_ h2
  have hty : ∀ g, v.ownBlock = some g → ∃ cs f, w.heap[g]? = some (.cells cs 27 f) := fun g hg => by
    rcases hr.2 with ⟨rfl, _⟩ | ⟨g', cap, cur, rfl, _, hh, _⟩
    · cases hg
    · obtain rfl := Option.some.inj hg
      exact ⟨cur, (0, 0), hh⟩
  exact ⟨vs ++ us, by rw [List.length_append]; exact h1, RowT.append (hut.kept h2 hty) (ht.kept h2 hty)⟩
theorem OwnP.below {W w w' : World} {n base : Nat} {v : Value} {ls : List (List UInt8)} (h : OwnP w base v ls) (hn : n ≤ base) (hB : Below n W w) (hW : n ≤ W.heap.size) (hg : w.grownBy w' v.ownBlock) : Below n W w' := by
  obtain ⟨vs, h1, _⟩ := h
  exact hB.grown hg (Nat.le_trans hW hB.size) (fun k e => Nat.le_trans hn (h1.lt k e).1)
end Go.Proofs.Ytnenoecmmelehaa
