/- Part of the proof: NaksC, NaksB. No conditions of its own. -/
import Derived.ArgAppend
import Derived.Below
import Derived.BigQuiet
import Derived.Deep.CutBlock
import Derived.Deep.DeepCutAuto
import Derived.Deep.Draws
import Derived.Deep.LoopGhost
import Derived.Deep.Quiet
import Derived.Deep.QuietTactic
import Derived.Deep.RegionLaw
import Derived.KernelRfl
import Derived.Laws.AppendOwnNone
import Derived.Laws.Bits64b
import Derived.Laws.BitsAllLaws
import Derived.Laws.BytesArg
import Derived.Laws.CopyOwn
import Derived.Laws.CopyRow
import Derived.Laws.NewFold
import Derived.Laws.Strings
import Derived.Lib.AppendStr
import Derived.Lib.ConvBytes
import Derived.Lib.Hide
import Derived.Lib.MakeNoZero
import Derived.LoopIn
import Derived.LoopNIn
import Derived.Maps.AppendAt
import Derived.Orders
import Derived.OrdersIn
import Derived.OwnWalkIn
import Derived.RangeFuncBound
import Derived.RangeFuncCalls
import Derived.RangeFuncLeaves
import Derived.RangeFuncNested
import Derived.RangeFuncWrites
import Derived.RowKit3
import Derived.Shelf.Abstract
import Derived.Shelf.Bits.Mul64
import Derived.Shelf.Spec.BitsCarry
import Derived.StillTail
import Derived.Stop.BytesEq
import Derived.TacticsIn
import Derived.TacticsInMore
import Derived.Test.YtjpfhhndjpdmoaaGreatDoorProg
import Derived.Test.YtjpfhhndjpdmoaaGreatDoorRows
import Derived.WalkKit
import Derived.Test.YtjpfhhndjpdmoaaGreatDoorK46
import Derived.Test.YtjpfhhndjpdmoaaGreatDoorK47
namespace Go.Proofs.YtjpfhhndjpdmoaaGreatDoor
open Go.RowKit
set_option linter.unusedVariables false
set_option linter.unusedSimpArgs false
set_option linter.unusedSectionVars false

/-! ### numbers laid anew -/
def setN (ν : Env) : List (Nat × Loc) → Env
  | [] => ν
  | (k, x) :: l => fun i => match Nat.beq i k with | true => some x | false => setN ν l i
theorem setN_low {ν : Env} : ∀ {l : List (Nat × Loc)}, (∀ p ∈ l, SB ≤ p.1) → ∀ i, i < SB → setN ν l i = ν i
  | [], _, i, _ => rfl
  | (k, x) :: l, h, i, hi => by
    have hk := h (k, x) (List.mem_cons_self ..)
    show (match Nat.beq i k with | true => some x | false => setN ν l i) = _
    cases hb : Nat.beq i k with
    | true => have := nbeq hb; simp only at hk; omega
    | false => exact setN_low (fun p hp => h p (List.mem_cons_of_mem _ hp)) i hi
theorem setN_ext {ν : Env} : ∀ {l : List (Nat × Loc)}, (∀ p ∈ l, ν p.1 = none) → Ext ν (setN ν l)
  | [], _ => Ext.refl ν
  | (k, x) :: l, h => fun i y hy => by
    show (match Nat.beq i k with | true => some x | false => setN ν l i) = _
    cases hb : Nat.beq i k with
    | true => rw [nbeq hb, h (k, x) (List.mem_cons_self ..)] at hy; cases hy
    | false => exact setN_ext (fun p hp => h p (List.mem_cons_of_mem _ hp)) i y hy
theorem vrSym_val {ν : Env} {b lo hi : Nat} {k : IntKind} {ne : List Nat} {v : Value} {l : Loc} (h : VR ν (.sym b k lo hi ne) v) (hl : ν b = some l) : v = .int k (l.addr : Int) := by
  simp only [VR] at h
  obtain ⟨l', h1, h2, _⟩ := h
  rw [hl] at h1; cases h1
  exact h2
theorem vrSymL {ν : Env} {b n lo hi : Nat} {k : IntKind} {ne : List Nat} {l : Loc} (h : ν b = some l) (hn : l.addr = n) (h1 : lo ≤ n) (h2 : n ≤ hi) (h3 : hi ≤ topK k) (hne : ∀ c ∈ ne, ∃ l2, ν c = some l2 ∧ n ≠ l2.addr) : VR ν (.sym b k lo hi ne) (.int k (n : Int)) := by
  subst hn
  simp only [VR]
  exact ⟨_, h, rfl, h1, h2, h3, hne⟩
theorem goI_val {ν : Env} {n : Nat} {v : Value} (h : VR ν (goI n) v) : v = .int .i64 (n : Int) := by
  simp only [goI, VR] at h
  exact h.1
theorem ut22 : Tryz.prog.underlying 22 = some (.slice 5) := by kernel_rfl
theorem ut5 : Tryz.prog.underlying 5 = some (.int .u8) := by kernel_rfl
theorem ut9 : Tryz.prog.underlying 9 = some .string := by kernel_rfl
theorem us5 : sizeL Tryz.prog 5 = some 1 := by kernel_rfl
/-! ### what is known throughout -/
structure NkA where
  g : Nat
  o : Nat
  c : Nat
  fl : Nat
  ks : List UInt8
  g2 : Nat
  o2 : Nat
  c2 : Nat
  fl2 : Nat
  ds : List UInt8
  t1 : TypeId
  t2 : TypeId
  t3 : TypeId
  t4 : TypeId
  t5 : TypeId
  t6 : TypeId
  t7 : TypeId
structure NkW (p : NkA) (w0 : World) : Prop where
  hn : p.ks.length ≤ 9223372036854775807
  hfl : p.ks.length ≠ 0 → p.fl ≠ 0
  hc : ∀ i, i < p.ks.length → ∀ w, Below w0.heap.size w0 w → w.cell? ⟨p.g, p.o + i, none⟩ = some (.int .u8 ((p.ks.getD i 0).toNat : Int))
  hn2 : p.ds.length ≤ 9223372036854775807
  hfl2 : p.ds.length ≠ 0 → p.fl2 ≠ 0
  hcap : p.ds.length ≤ p.c2
  hz : p.fl2 = 0 → p.c2 = 0
  hc2 : ∀ i, i < p.ds.length → ∀ w, Below w0.heap.size w0 w → w.cell? ⟨p.g2, p.o2 + i, none⟩ = some (.int .u8 ((p.ds.getD i 0).toNat : Int))
  rows : GRows w0 p.t1 p.t2 p.t3 p.t4 p.t5 p.t6 p.t7
  hW : HashW w0
  hC : CurveW w0
def nkFx (p : NkA) : List (Nat × Loc) := [(1001000, ⟨p.g, p.o⟩), (1001001, ⟨p.ks.length, p.c⟩), (1001002, ⟨p.fl, 0⟩), (1001010, ⟨p.g2, p.o2⟩), (1001011, ⟨p.ds.length, p.c2⟩), (1001012, ⟨p.fl2, 0⟩)]
structure NkG (p : NkA) (l : List (Nat × Loc)) (ν : Env) : Prop where
  glob : GlobE Tryz.prog ν
  low : ∀ i, i < GN → ν i = nu0 p.t1 p.t2 p.t3 p.t4 p.t5 p.t6 p.t7 i
  fx : ∀ q ∈ nkFx p, ν q.1 = some q.2
  dat : ∀ k, k < 50 → ν (1000100 + k) = some ⟨(p.ds.getD k 0).toNat, 0⟩
  at_ : ∀ q ∈ l, ν q.1 = some q.2
instance nkG_ok (p : NkA) (l : List (Nat × Loc)) : GEok Tryz.prog (NkG p l) := ⟨fun ν ν' h hG => ⟨(globOk Tryz.prog).mono ν ν' h hG.glob, fun i hi => by
    have h1 := hG.low i hi
    have h2 : nu0 p.t1 p.t2 p.t3 p.t4 p.t5 p.t6 p.t7 i = some ⟨i, gSz (gB p.t1 p.t2 p.t3 p.t4 p.t5 p.t6 p.t7) i⟩ := by unfold nu0; rw [if_pos hi]
    rw [h2] at h1 ⊢
    exact h i _ h1, fun q hq => h _ _ (hG.fx q hq), fun k hk => h _ _ (hG.dat k hk), fun q hq => h _ _ (hG.at_ q hq)⟩, fun _ h => h.glob⟩
def idS (σ : Sg) (k : Nat) : Bool := match lkS σ k with
  | some (.num j) => Nat.beq j k
  | _ => false
theorem idS_ok {σ : Sg} {k : Nat} (h : idS σ k = true) (ν : Env) : envS GN σ ν k = ν k := by
  unfold idS at h
  unfold envS
  split at h
  · rename_i j hj; rw [hj]; rw [nbeq h]
  · cases h
def nkKB (σ : Sg) : Bool := ([1001000, 1001001, 1001002, 1001010, 1001011, 1001012].all (idS σ)) && ((List.range 50).all fun k => idS σ (Nat.add 1000100 k))
theorem NkG.env {p : NkA} {l l' : List (Nat × Loc)} {ν : Env} {σ : Sg} {nx : Nat} (h : NkG p l ν) (hK : insK GN nx σ = true) (hB : nkKB σ = true) (hl : ∀ q ∈ l', envS GN σ ν q.1 = some q.2) : NkG p l' (envS GN σ ν) := by
  simp only [nkKB, Bool.and_eq_true] at hB
  obtain ⟨h1, h2⟩ := hB
  refine ⟨glob_envS (Nat.le_of_ble_eq_true (by kernel_rfl)) hK h.glob, fun i hi => ?_, fun q hq => ?_, fun k hk => ?_, hl⟩
  · rw [← h.low i hi]
    unfold envS
    cases hl : lkS σ i with
    | some x => have := (insK_ok hK i x hl).1; omega
    | none => show (if i < GN then ν i else none) = _; rw [if_pos hi]
  · have hm : q.1 ∈ [1001000, 1001001, 1001002, 1001010, 1001011, 1001012] := by
      have : q.1 ∈ (nkFx p).map Prod.fst := List.mem_map_of_mem hq
      exact this
    rw [idS_ok (List.all_eq_true.1 h1 _ hm)]
    exact h.fx q hq
  · have := List.all_eq_true.1 h2 k (List.mem_range.2 hk)
    rw [show 1000100 + k = Nat.add 1000100 k from rfl, idS_ok this]
    exact h.dat k hk
theorem NkG.weak {p : NkA} {l l' : List (Nat × Loc)} {ν : Env} (h : NkG p l ν) (hl : ∀ q ∈ l', q ∈ l) : NkG p l' ν := ⟨h.glob, h.low, h.fx, h.dat, fun q hq => h.at_ q (hl q hq)⟩
section
variable {p : NkA} {w0 : World} {B : Nat} {l : List (Nat × Loc)} {i m : Nat} {ne : List Nat}
theorem nkX_val (hX : (1000012, (⟨i, 0⟩ : Loc)) ∈ l) : ∀ ν v, NkG p l ν → VR ν (nkX ne) v → v = .int .i64 (i : Int) := fun ν v hG hv => vrSym_val hv (hG.at_ _ hX)
theorem nkN_val (hN : (1000011, (⟨p.ks.length, 0⟩ : Loc)) ∈ l) : ∀ ν v, NkG p l ν → VR ν nkN v → v = .int .i64 (p.ks.length : Int) := fun ν v hG hv => vrSym_val hv (hG.at_ _ hN)
theorem nk_len (hn : p.ks.length ≤ 9223372036854775807) (hN : (1000011, (⟨p.ks.length, 0⟩ : Loc)) ∈ l) : HintOk Tryz.prog (NkG p l) B w0 ⟨4, [22], [.outS 1001000], nkN⟩ :=
  hint_len ut22 (fun ν hG => hG.fx (1001001, ⟨p.ks.length, p.c⟩) (by simp [nkFx])) (fun ν hG => vrSymL (hG.at_ _ hN) rfl (Nat.zero_le _) hn (by decide) (fun c hc => by cases hc))
theorem nk_lss (hX : (1000012, (⟨i, 0⟩ : Loc)) ∈ l) (hN : (1000011, (⟨p.ks.length, 0⟩ : Loc)) ∈ l) {r : Bool} (hr : decide (i < p.ks.length) = r) : HintOk Tryz.prog (NkG p l) B w0 ⟨6, [], [nkX ne, nkN], .v (.bool r)⟩ := hint_lss (nkX_val hX) (nkN_val hN) hr
theorem nk_ten (hX : (1000012, (⟨i, 0⟩ : Loc)) ∈ l) {r : Bool} (hr : decide (i < 10) = r) : HintOk Tryz.prog (NkG p l) B w0 ⟨6, [], [nkX ne, goI 10], .v (.bool r)⟩ := hint_lss (nkX_val hX) (fun ν v _ hv => goI_val hv) hr
theorem nkHk_ok {kd : LV} (H : NkW p w0) (hX : (1000012, (⟨i, 0⟩ : Loc)) ∈ l) (hN : (1000011, (⟨p.ks.length, 0⟩ : Loc)) ∈ l) (hA : (1000010, (⟨p.g, p.o + i⟩ : Loc)) ∈ l) (hX1 : (1000013, (⟨i + 1, 0⟩ : Loc)) ∈ l) (hne : ∀ c ∈ ne, ∃ j, (c, (⟨j, 0⟩ : Loc)) ∈ l ∧ j < i)
    (hi : i < p.ks.length) (hi9 : i < 10) (hkd : ∀ ν, NkG p l ν → VR ν kd (.int .u8 ((p.ks.getD i 0).toNat : Int))) : ∀ h ∈ nkHk ne kd, HintOk Tryz.prog (NkG p l) w0.heap.size w0 h := by
  intro h hh
  simp only [nkHk, List.mem_cons, List.not_mem_nil, or_false] at hh
  rcases hh with rfl | rfl | rfl | rfl | rfl | rfl
  · exact nk_len H.hn hN
  · exact nk_lss hX hN (decide_eq_true hi)
  · exact nk_ten hX (decide_eq_true hi9)
  · exact hint_index ut22 us5 (fun ν y hG hv => ⟨_, nkX_val hX ν y hG hv⟩) hi (fun ν hG => ⟨hG.fx (1001000, ⟨p.g, p.o⟩) (by simp [nkFx]), hG.fx (1001001, ⟨p.ks.length, p.c⟩) (by simp [nkFx]), _, hG.fx (1001002, ⟨p.fl, 0⟩) (by simp [nkFx]), H.hfl (by omega)⟩) (fun ν hG => hG.at_ _ hA)
  · exact hint_load ut5 (fun ν hG => hG.at_ _ hA) (H.hc i hi) hkd
  · refine hint_add (nkX_val hX) (by omega) (fun ν hG => vrSymL (hG.at_ _ hX1) rfl (by omega) (by show i + 1 ≤ 10; omega) (by decide) (fun c hc => ?_))
    rcases List.mem_cons.1 hc with rfl | hc
    · exact ⟨_, hG.at_ _ hX, by show i + 1 ≠ i; omega⟩
    · obtain ⟨j, h1, h2⟩ := hne c hc
      exact ⟨_, hG.at_ _ h1, by show i + 1 ≠ j; omega⟩
theorem nkHa_ok (H : NkW p w0) (hX : (1000012, (⟨i, 0⟩ : Loc)) ∈ l) (hN : (1000011, (⟨p.ks.length, 0⟩ : Loc)) ∈ l) (hi : p.ks.length ≤ i) : ∀ h ∈ nkHa ne, HintOk Tryz.prog (NkG p l) B w0 h := by
  intro h hh
  simp only [nkHa, List.mem_cons, List.not_mem_nil, or_false] at hh
  rcases hh with rfl | rfl
  · exact nk_len H.hn hN
  · exact nk_lss hX hN (decide_eq_false (by omega))
theorem nkHb_ok (H : NkW p w0) (hX : (1000012, (⟨i, 0⟩ : Loc)) ∈ l) (hN : (1000011, (⟨p.ks.length, 0⟩ : Loc)) ∈ l) (hi : i < p.ks.length) (h10 : ¬ i < 10) : ∀ h ∈ nkHb ne, HintOk Tryz.prog (NkG p l) B w0 h := by
  intro h hh
  simp only [nkHb, List.mem_cons, List.not_mem_nil, or_false] at hh
  rcases hh with rfl | rfl | rfl
  · exact nk_len H.hn hN
  · exact nk_lss hX hN (decide_eq_true hi)
  · exact nk_ten hX (decide_eq_false h10)
/-! ### the data -/
theorem vrsAt {ν : Env} : ∀ {cs : List LV} {vs : List Value}, cs.length = vs.length → (∀ (k : Nat) (x : LV), cs[k]? = some x → ∃ y, vs[k]? = some y ∧ VR ν x y) → VRs ν cs vs
  | [], vs, h, _ => by
    have : vs = [] := List.eq_nil_of_length_eq_zero (by simpa using h.symm)
    exact VRs.nil_iff.2 this
  | c :: cs, [], h, _ => by simp at h
  | c :: cs, v :: vs, h, hk => by
    obtain ⟨y, h1, h2⟩ := hk 0 c rfl
    cases h1
    exact VRs.cons_iff.2 ⟨v, vs, rfl, h2, vrsAt (by simpa using h) (fun k x hx => by simpa using hk (k + 1) x (by simpa using hx))⟩
theorem nkSyms_len : nkSyms.length = 50 := by kernel_rfl
theorem nkSyms_all : (List.range 50).map (fun k => LV.sym (1000100 + k) .u8 0 255 []) = nkSyms := by kernel_rfl
theorem nkSyms_at (k : Nat) (hk : k < 50) : nkSyms[k]? = some (.sym (1000100 + k) .u8 0 255 []) := by
  rw [← nkSyms_all, List.getElem?_map, List.getElem?_range hk]
  rfl
theorem nkSy_vrs {ν : Env} {bs : List UInt8} (L : Nat) (hL : L ≤ 50) (hl : L ≤ bs.length) (hν : ∀ k, k < 50 → ν (1000100 + k) = some ⟨(bs.getD k 0).toNat, 0⟩) : VRs ν (nkSy L) ((bs.take L).map fun b => .int .u8 b.toNat) := by
  refine vrsAt (by simp [nkSy, nkSyms_len]; omega) (fun k x hx => ?_)
  have hk : k < L := by
    have := (List.getElem?_eq_some_iff.1 hx).1
    simp [nkSy, nkSyms_len] at this; omega
  unfold nkSy at hx
  rw [List.getElem?_take_of_lt hk, nkSyms_at k (by omega)] at hx
  cases hx
  refine ⟨.int .u8 ((bs.getD k 0).toNat : Int), ?_, vrSymL (hν k (by omega)) rfl (Nat.zero_le _) (by have := (bs.getD k 0).toNat_lt; omega) (by decide) (fun c hc => by cases hc)⟩
  rw [List.getElem?_map, List.getElem?_take_of_lt hk, List.getElem?_eq_getElem (by omega)]
  simp [List.getD, List.getElem?_eq_getElem (show k < bs.length by omega)]
theorem nk_cut {L : Nat} (H : NkW p w0) (hL : L ≤ p.ds.length) (h1 : (1001020, (⟨p.g2, p.o2⟩ : Loc)) ∈ l) (h2 : (1001021, (⟨L, p.c2⟩ : Loc)) ∈ l) (h3 : (1001022, (⟨p.fl2, 0⟩ : Loc)) ∈ l) : HintOk Tryz.prog (NkG p l) w0.heap.size w0 ⟨2, [22], [.outS 1001010, goI L], .outS 1001020⟩ :=
  hint_cut ut22 us5 hL H.hcap H.hz (fun ν hG => ⟨hG.fx (1001010, ⟨p.g2, p.o2⟩) (by simp [nkFx]), hG.fx (1001011, ⟨p.ds.length, p.c2⟩) (by simp [nkFx]), ⟨p.fl2, 0⟩, hG.fx (1001012, ⟨p.fl2, 0⟩) (by simp [nkFx]), rfl⟩) (fun ν hG => ⟨hG.at_ _ h1, hG.at_ _ h2, ⟨p.fl2, 0⟩, hG.at_ _ h3, rfl⟩)
theorem nk_str {L : Nat} (H : NkW p w0) (hL : L ≤ p.ds.length) (hL5 : L ≤ 50) (h1 : (1001020, (⟨p.g2, p.o2⟩ : Loc)) ∈ l) (h2 : (1001021, (⟨L, p.c2⟩ : Loc)) ∈ l) (h3 : (1001022, (⟨p.fl2, 0⟩ : Loc)) ∈ l) : HintOk Tryz.prog (NkG p l) w0.heap.size w0 ⟨3, [22, 9], [.outS 1001020], .str (nkSy L)⟩ := by
  have hlen : (p.ds.take L).length = L := by rw [List.length_take]; omega
  refine hint_str (bs := p.ds.take L) (c := p.c2) ut22 ut5 ut9 (fun hne => H.hfl2 (fun h0 => hne ?_)) (fun ν hG => ⟨hG.at_ _ h1, ?_, ⟨p.fl2, 0⟩, hG.at_ _ h3, rfl⟩) (fun w hb i hi => ?_) (fun ν hG => nkSy_vrs L hL5 hL hG.dat)
  · rw [List.eq_nil_of_length_eq_zero h0]; simp
  · rw [hlen]; exact hG.at_ _ h2
  · rw [hlen] at hi
    have e : (p.ds.take L).getD i 0 = p.ds.getD i 0 := by
      simp only [List.getD_eq_getElem?_getD]
      rw [List.getElem?_take_of_lt hi]
    rw [e]
    exact H.hc2 i (by omega) w hb
def NkM (p : NkA) (M : Nat) : Prop := (M ≤ 50 ∧ p.ds.length = M) ∨ (M = 51 ∧ 51 ≤ p.ds.length)
theorem nkL_low {M : Nat} (h : M ≤ 50) : nkL M = M := by unfold nkL; rw [Nat.ble_eq_true_of_le h]
theorem nkHd_ok {M : Nat} (H : NkW p w0) (hM : NkM p M) (h0 : (1000014, (⟨p.ds.length, 0⟩ : Loc)) ∈ l) (h1 : (1001020, (⟨p.g2, p.o2⟩ : Loc)) ∈ l) (h2 : (1001021, (⟨nkL M, p.c2⟩ : Loc)) ∈ l) (h3 : (1001022, (⟨p.fl2, 0⟩ : Loc)) ∈ l) : ∀ h ∈ nkHd M, HintOk Tryz.prog (NkG p l) w0.heap.size w0 h := by
  intro h hh
  rcases hM with ⟨hM, hd⟩ | ⟨rfl, hd⟩
  · have hb : Nat.ble M 50 = true := Nat.ble_eq_true_of_le hM
    rw [nkL_low hM] at h2
    unfold nkHd at hh
    rw [hb] at hh
    simp only [List.mem_cons, List.not_mem_nil, or_false] at hh
    rcases hh with rfl | rfl | rfl
    · refine hint_len ut22 (n := p.ds.length) (fun ν hG => hG.fx (1001011, ⟨p.ds.length, p.c2⟩) (by simp [nkFx])) (fun ν hG => ?_)
      rw [hd]; exact goI_ok M
    · exact nk_cut H (by omega) h1 h2 h3
    · exact nk_str H (by omega) hM h1 h2 h3
  · have h2' : (1001021, (⟨50, p.c2⟩ : Loc)) ∈ l := h2
    have hh' : h ∈ ([⟨4, [22], [.outS 1001010], nkN2⟩, ⟨5, [], [nkN2, goI 50], goI 50⟩, ⟨2, [22], [.outS 1001010, goI 50], .outS 1001020⟩, ⟨3, [22, 9], [.outS 1001020], .str (nkSy 50)⟩] : List Hint) := hh
    simp only [List.mem_cons, List.not_mem_nil, or_false] at hh'
    rcases hh' with rfl | rfl | rfl | rfl
    · exact hint_len ut22 (n := p.ds.length) (fun ν hG => hG.fx (1001011, ⟨p.ds.length, p.c2⟩) (by simp [nkFx])) (fun ν hG => vrSymL (hG.at_ _ h0) rfl hd H.hn2 (by decide) (fun c hc => by cases hc))
    · exact hint_min (m := p.ds.length) (fun ν y hG hv => vrSym_val hv (hG.at_ _ h0)) (by omega)
    · exact nk_cut H (by omega) h1 h2' h3
    · exact nk_str H (by omega) (Nat.le_refl _) h1 h2' h3
/-! ### the rounds -/
def nkLc (p : NkA) (i m L : Nat) : List (Nat × Loc) := [(1000010, ⟨p.g, p.o + i⟩), (1000011, ⟨p.ks.length, 0⟩), (1000013, ⟨i + 1, 0⟩), (1000014, ⟨p.ds.length, 0⟩), (1000020, ⟨m, 0⟩), (1001020, ⟨p.g2, p.o2⟩), (1001021, ⟨L, p.c2⟩), (1001022, ⟨p.fl2, 0⟩)]
def nkKn (st i j kd : Nat) : List (Nat × Loc) := (1000012, ⟨i, 0⟩) :: (match st with
  | 0 => []
  | _ => [(1000000, ⟨j, 0⟩), (1000001, ⟨kd, 0⟩)])
structure NkS (p : NkA) (w0 : World) (M st i j kd : Nat) (ν : Env) (a : Act) (w : World) : Prop where
  s : StR Tryz.prog (NkG p (nkKn st i j kd)) GN w0.heap.size w0 ν (stOf 115 (nkPat (nkL M) st)) a w
  f : Free ν 4606
  e : ∀ k ∈ [1000010, 1000011, 1000013, 1000014, 1000020, 1001020, 1001021, 1001022], ν k = none
theorem tsN_ok {ne : List Nat} {kd : LV} : ∀ h ∈ nkHk ne kd, h.ts.length = tsN h.k := by
  intro h hh
  simp only [nkHk, List.mem_cons, List.not_mem_nil, or_false] at hh
  rcases hh with rfl | rfl | rfl | rfl | rfl | rfl <;> rfl
theorem tsD_ok {M : Nat} : ∀ h ∈ nkHd M, h.ts.length = tsN h.k := by
  intro h hh
  unfold nkHd at hh
  split at hh <;> simp only [List.mem_cons, List.not_mem_nil, or_false] at hh
  · rcases hh with rfl | rfl | rfl <;> rfl
  · rcases hh with rfl | rfl | rfl | rfl <;> rfl
theorem NkS.set {M st i j kd m L : Nat} {ν : Env} {a : Act} {w : World} (h : NkS p w0 M st i j kd ν a w) : StR Tryz.prog (NkG p (nkKn st i j kd ++ nkLc p i m L)) GN w0.heap.size w0 (setN ν (nkLc p i m L)) (stOf 115 (nkPat (nkL M) st)) a w ∧ Free (setN ν (nkLc p i m L)) 4606 := by
  have hE : Ext ν (setN ν (nkLc p i m L)) := setN_ext (fun q hq => h.e q.1 (by
    have : q.1 ∈ (nkLc p i m L).map Prod.fst := List.mem_map_of_mem hq
    exact this))
  have hlo : ∀ k, k < SB → setN ν (nkLc p i m L) k = ν k := setN_low (fun q hq => by
    have : q.1 ∈ (nkLc p i m L).map Prod.fst := List.mem_map_of_mem hq
    have h2 : q.1 ∈ [1000010, 1000011, 1000013, 1000014, 1000020, 1001020, 1001021, 1001022] := this
    have hsb : SB = 1000000 := rfl
    simp only [List.mem_cons, List.not_mem_nil, or_false] at h2
    omega)
  have hsb : (4606 : Nat) ≤ SB := by decide
  have h1 := GEok.mono (P := Tryz.prog) _ _ hE h.s.glob
  refine ⟨h.s.env hE (fun k hk => hlo k (Nat.lt_of_lt_of_le hk hsb)) ⟨h1.glob, h1.low, h1.fx, h1.dat, fun q hq => ?_⟩, fun k h1 h2 => by rw [hlo k h2]; exact h.f k h1 h2⟩
  rcases List.mem_append.1 hq with hq | hq
  · exact h1.at_ q hq
  · simp only [nkLc, List.mem_cons, List.not_mem_nil, or_false] at hq
    rcases hq with rfl | rfl | rfl | rfl | rfl | rfl | rfl | rfl
    all_goals kernel_rfl
theorem nk_run {t : Pat} {σ : Sg} {x : Ex} {hs : List Hint} {M st : Nat} {l' : List (Nat × Loc)} (H : NkW p w0) (hr : okS GN σ ⟨[], []⟩ t x 4606 (evCQ Tryz.prog GN (hintF hs cfP) 1000 nkLp (stOf 115 (nkPat (nkL M) st))) = true) (hts : ∀ h ∈ hs, h.ts.length = tsN h.k) (hh : ∀ h ∈ hs, HintOk Tryz.prog (NkG p l) w0.heap.size w0 h) (hB : nkKB σ = true) (hl : ∀ ν, NkG p l ν → ∀ q ∈ l', envS GN σ ν q.1 = some q.2)
    {ν : Env} {a : Act} {w : World} (hsr : StR Tryz.prog (NkG p l) GN w0.heap.size w0 ν (stOf 115 (nkPat (nkL M) st)) a w) (hf : Free ν 4606) : nkLp.wp Tryz.prog (fun e a' w' => e = exR x ∧ ∃ ν1, StR Tryz.prog (NkG p l') GN w0.heap.size w0 (envS GN σ ν1) (stOf 115 t) a' w' ∧ Free (envS GN σ ν1) t.nx ∧ NkG p l ν1) a w := by
  have hE : EvOk Tryz.prog (NkG p l) GN w0.heap.size w0 (hintF hs cfP) := hintF_ok (cfP_ok H.hW H.hC).wide hts hh
  exact stretchX (n := 1000) (c := nkLp) (s := stOf 115 (nkPat (nkL M) st)) (t := t) (σ := σ) (x := x) (by kernel_rfl) hE (Nat.le_refl _) hr (fun ν' h1 h2 => h1.env h2 hB (hl ν' h1)) hsr hf
theorem kb_J (st : Nat) (h : st = 0 ∨ st = 1) : nkKB (nkSgH st) = true ∧ nkKB (nkSgS st) = true := by
  rcases h with rfl | rfl <;> exact ⟨by kernel_rfl, by kernel_rfl⟩
theorem kb_N (a s : Nat) : nkKB (nkSgN a s) = true := by kernel_rfl
theorem kb_L : nkKB nkSgL = true ∧ nkKB nkSg0 = true := ⟨by kernel_rfl, by kernel_rfl⟩
theorem nk_out {M st i j kd : Nat} (H : NkW p w0) (hst : st = 0 ∨ st = 1) (hA : nkExA M st = true) (hB : nkExB M st = true) (hi : p.ks.length ≤ i ∨ i = 10) {ν : Env} {a : Act} {w : World} (h : NkS p w0 M st i j kd ν a w)
    {Q : Exit → Act → World → Prop} (hQ : ∀ ν a w, StR Tryz.prog (NkG p []) GN w0.heap.size w0 ν (stOf 115 (nkPat (nkL M) st)) a w → Free ν 4606 → Q (.exit 0) a w) : LoopW Tryz.prog nkLp Q a w := by
  have hX : (1000012, (⟨i, 0⟩ : Loc)) ∈ nkKn st i j kd ++ nkLc p i 0 0 := List.mem_append_left _ (List.mem_cons_self ..)
  have hN : (1000011, (⟨p.ks.length, 0⟩ : Loc)) ∈ nkKn st i j kd ++ nkLc p i 0 0 := List.mem_append_right _ (by simp [nkLc])
  obtain ⟨h1, h2⟩ := h.set (m := 0) (L := 0)
  by_cases hni : p.ks.length ≤ i
  · refine loopW_round (wp_mono (nk_run H hA (fun h hh => ?_) (nkHa_ok H hX hN hni) (kb_J st hst).1 (l' := []) (fun ν _ q hq => by cases hq) h1 h2) ?_)
    · simp only [nkHa, List.mem_cons, List.not_mem_nil, or_false] at hh
      rcases hh with rfl | rfl <;> rfl
    · rintro e a' w' ⟨rfl, ν1, g1, g2, _⟩
      exact hQ _ _ _ g1 g2
  · refine loopW_round (wp_mono (nk_run H hB (fun h hh => ?_) (nkHb_ok H hX hN (by omega) (by omega)) (kb_J st hst).1 (l' := []) (fun ν _ q hq => by cases hq) h1 h2) ?_)
    · simp only [nkHb, List.mem_cons, List.not_mem_nil, or_false] at hh
      rcases hh with rfl | rfl | rfl <;> rfl
    · rintro e a' w' ⟨rfl, ν1, g1, g2, _⟩
      exact hQ _ _ _ g1 g2
theorem ne_of {st i j kd m L : Nat} (hst : st = 0 ∨ (st = 1 ∧ j < i)) : ∀ c ∈ nkNe st, ∃ j', (c, (⟨j', 0⟩ : Loc)) ∈ nkKn st i j kd ++ nkLc p i m L ∧ j' < i := by
  intro c hc
  rcases hst with rfl | ⟨rfl, hj⟩
  · cases hc
  · obtain rfl : c = 1000000 := by simpa [nkNe] using hc
    exact ⟨j, by simp [nkKn], hj⟩
theorem nk_skip {M st i j kd : Nat} {k : LV} (H : NkW p w0) (hst : st = 0 ∨ (st = 1 ∧ j < i)) (hr : nkSkp M st k = true) (hi : i < p.ks.length) (hi9 : i < 10) (hk : ∀ ν, NkG p (nkKn st i j kd ++ nkLc p i 0 0) ν → VR ν k (.int .u8 ((p.ks.getD i 0).toNat : Int))) {ν : Env} {a : Act} {w : World} (h : NkS p w0 M st i j kd ν a w)
    {Q : Exit → Act → World → Prop} (hQ : ∀ ν a w, NkS p w0 M st (i + 1) j kd ν a w → LoopW Tryz.prog nkLp Q a w) : LoopW Tryz.prog nkLp Q a w := by
  have hst' : st = 0 ∨ st = 1 := by rcases hst with h | h; exact .inl h; exact .inr h.1
  obtain ⟨h1, h2⟩ := h.set (m := 0) (L := 0)
  have hr' : ∀ {x : Nat × Loc}, x ∈ nkLc p i 0 0 → x ∈ nkKn st i j kd ++ nkLc p i 0 0 := fun h => List.mem_append_right _ h
  refine loopW_round (wp_mono (nk_run H hr tsN_ok (nkHk_ok H (List.mem_append_left _ (List.mem_cons_self ..)) (hr' (by simp [nkLc])) (hr' (by simp [nkLc])) (hr' (by simp [nkLc])) (ne_of hst) hi hi9 hk) (kb_J st hst').2 (l' := nkKn st (i + 1) j kd) (fun ν hG q hq => ?_) h1 h2) ?_)
  · have h13 := hG.at_ (1000013, ⟨i + 1, 0⟩) (hr' (by simp [nkLc]))
    rcases hst' with rfl | rfl
    · simp only [nkKn, List.mem_cons, List.not_mem_nil, or_false] at hq
      subst hq
      exact h13
    · simp only [nkKn, List.mem_cons, List.not_mem_nil, or_false] at hq
      rcases hq with rfl | rfl | rfl
      · exact h13
      · exact hG.at_ (1000000, ⟨j, 0⟩) (by simp [nkKn])
      · exact hG.at_ (1000001, ⟨kd, 0⟩) (by simp [nkKn])
  · rintro e a' w' ⟨rfl, ν1, g1, g2, _⟩
    refine hQ _ _ _ ⟨g1, g2, fun k2 hk2 => ?_⟩
    simp only [List.mem_cons, List.not_mem_nil, or_false] at hk2
    rcases hst' with rfl | rfl <;> rcases hk2 with rfl | rfl | rfl | rfl | rfl | rfl | rfl | rfl <;> kernel_rfl
theorem nk_ask {M st i j kd m : Nat} {k : LV} (H : NkW p w0) (hM : NkM p M) (hst : st = 0 ∨ (st = 1 ∧ j < i)) (hr : nkRnd M st k = true) (hi : i < p.ks.length) (hi9 : i < 10) (hk : ∀ ν, NkG p (nkKn st i j kd ++ nkLc p i m (nkL M)) ν → VR ν k (.int .u8 ((p.ks.getD i 0).toNat : Int))) {ν : Env} {a : Act} {w : World} (h : NkS p w0 M st i j kd ν a w)
    {Q : Exit → Act → World → Prop} (hQ : ∀ ν a w, NkS p w0 M 1 (i + 1) i m ν a w → LoopW Tryz.prog nkLp Q a w) : LoopW Tryz.prog nkLp Q a w := by
  obtain ⟨h1, h2⟩ := h.set (m := m) (L := nkL M)
  have hr' : ∀ {x : Nat × Loc}, x ∈ nkLc p i m (nkL M) → x ∈ nkKn st i j kd ++ nkLc p i m (nkL M) := fun h => List.mem_append_right _ h
  have hX : (1000012, (⟨i, 0⟩ : Loc)) ∈ nkKn st i j kd ++ nkLc p i m (nkL M) := List.mem_append_left _ (List.mem_cons_self ..)
  refine loopW_round (wp_mono (nk_run H hr (fun h hh => ?_) (fun h hh => ?_) (kb_N _ _) (l' := nkKn 1 (i + 1) i m) (fun ν hG q hq => ?_) h1 h2) ?_)
  · rcases List.mem_append.1 hh with hh | hh
    · exact tsN_ok h hh
    · exact tsD_ok h hh
  · rcases List.mem_append.1 hh with hh | hh
    · exact nkHk_ok H hX (hr' (by simp [nkLc])) (hr' (by simp [nkLc])) (hr' (by simp [nkLc])) (ne_of hst) hi hi9 hk h hh
    · exact nkHd_ok H hM (hr' (by simp [nkLc])) (hr' (by simp [nkLc])) (hr' (by simp [nkLc])) (hr' (by simp [nkLc])) h hh
  · simp only [nkKn, List.mem_cons, List.not_mem_nil, or_false] at hq
    rcases hq with rfl | rfl | rfl
    · exact hG.at_ (1000013, ⟨i + 1, 0⟩) (hr' (by simp [nkLc]))
    · exact hG.at_ (1000012, ⟨i, 0⟩) hX
    · exact hG.at_ (1000020, ⟨m, 0⟩) (hr' (by simp [nkLc]))
  · rintro e a' w' ⟨rfl, ν1, g1, g2, _⟩
    refine hQ _ _ _ ⟨g1, g2, fun k2 hk2 => ?_⟩
    simp only [List.mem_cons, List.not_mem_nil, or_false] at hk2
    rcases hk2 with rfl | rfl | rfl | rfl | rfl | rfl | rfl | rfl <;> kernel_rfl
theorem nk_loop {M : Nat} (H : NkW p w0) (hM : NkM p M) (hAll : nkOut M 0 = true ∧ nkOut M 1 = true)
    {Q : Exit → Act → World → Prop} (hQ : ∀ st ν a w, (st = 0 ∨ st = 1) → StR Tryz.prog (NkG p []) GN w0.heap.size w0 ν (stOf 115 (nkPat (nkL M) st)) a w → Free ν 4606 → Q (.exit 0) a w) : ∀ d i, i + d = 10 → ∀ st j kd ν a w, (st = 0 ∨ (st = 1 ∧ j < i)) → NkS p w0 M st i j kd ν a w → LoopW Tryz.prog nkLp Q a w := by
  have hO : ∀ st, (st = 0 ∨ st = 1) → nkExA M st = true ∧ nkExB M st = true ∧ nkSkp M st (.v (.int .u8 0)) = true ∧ nkSkp M st (.v (.int .u8 1)) = true ∧ nkSkp M st (.v (.int .u8 13)) = true ∧ nkRnd M st nkKl = true ∧ nkRnd M st nkKh = true := by
    intro st hst
    have h1 : nkOut M st = true := by rcases hst with rfl | rfl; exact hAll.1; exact hAll.2
    unfold nkOut at h1
    simp only [Bool.and_eq_true] at h1
    exact h1
  intro d
  induction d with
  | zero =>
    intro i hi st j kd ν a w hst hs
    have hst' : st = 0 ∨ st = 1 := by rcases hst with h | h; exact .inl h; exact .inr h.1
    exact nk_out H hst' (hO st hst').1 (hO st hst').2.1 (.inr (by omega)) hs (fun ν a w g1 g2 => hQ st ν a w hst' g1 g2)
  | succ d ih =>
    intro i hi st j kd ν a w hst hs
    have hst' : st = 0 ∨ st = 1 := by rcases hst with h | h; exact .inl h; exact .inr h.1
    obtain ⟨q1, q2, q3, q4, q5, q6, q7⟩ := hO st hst'
    by_cases hni : p.ks.length ≤ i
    · exact nk_out H hst' q1 q2 (.inl hni) hs (fun ν a w g1 g2 => hQ st ν a w hst' g1 g2)
    · have hin : i < p.ks.length := by omega
      have hnx : st = 0 ∨ (st = 1 ∧ j < i + 1) := by rcases hst with h | h; exact .inl h; exact .inr ⟨h.1, by omega⟩
      have h255 : (p.ks.getD i 0).toNat ≤ 255 := by have := (p.ks.getD i 0).toNat_lt; omega
      have lit : ∀ n : Nat, (p.ks.getD i 0).toNat = n → ∀ ν, VR ν (.v (.int .u8 (n : Int))) (.int .u8 ((p.ks.getD i 0).toNat : Int)) := fun n hn ν => by rw [hn]; simp [VR, plainV]
      have sym : ∀ {ν : Env} {lo hi : Nat}, NkG p (nkKn st i j kd ++ nkLc p i (p.ks.getD i 0).toNat (nkL M)) ν → lo ≤ (p.ks.getD i 0).toNat → (p.ks.getD i 0).toNat ≤ hi → hi ≤ 255 → VR ν (.sym 1000020 .u8 lo hi []) (.int .u8 ((p.ks.getD i 0).toNat : Int)) := fun hG h1 h2 h3 => vrSymL (hG.at_ (1000020, ⟨(p.ks.getD i 0).toNat, 0⟩) (List.mem_append_right _ (by simp [nkLc]))) rfl h1 h2 h3 (fun c hc => by cases hc)
      by_cases h0 : (p.ks.getD i 0).toNat = 0
      · exact nk_skip H hst q3 hin (by omega) (fun ν _ => lit 0 h0 ν) hs (fun ν a w g => ih (i + 1) (by omega) st j kd ν a w hnx g)
      by_cases h1 : (p.ks.getD i 0).toNat = 1
      · exact nk_skip H hst q4 hin (by omega) (fun ν _ => lit 1 h1 ν) hs (fun ν a w g => ih (i + 1) (by omega) st j kd ν a w hnx g)
      by_cases h13 : (p.ks.getD i 0).toNat = 13
      · exact nk_skip H hst q5 hin (by omega) (fun ν _ => lit 13 h13 ν) hs (fun ν a w g => ih (i + 1) (by omega) st j kd ν a w hnx g)
      by_cases h12 : (p.ks.getD i 0).toNat ≤ 12
      · exact nk_ask (m := (p.ks.getD i 0).toNat) H hM hst q6 hin (by omega) (fun ν hG => sym hG (by omega) (by omega) (by omega)) hs (fun ν a w g => ih (i + 1) (by omega) 1 i _ ν a w (.inr ⟨rfl, by omega⟩) g)
      · exact nk_ask (m := (p.ks.getD i 0).toNat) H hM hst q7 hin (by omega) (fun ν hG => sym hG (by omega) (by omega) (by omega)) hs (fun ν a w g => ih (i + 1) (by omega) 1 i _ ν a w (.inr ⟨rfl, by omega⟩) g)
end
end Go.Proofs.YtjpfhhndjpdmoaaGreatDoor

namespace Go.Proofs.YtjpfhhndjpdmoaaGreatDoor
set_option maxRecDepth 100000 in
theorem nkBeg_ok (t1 t2 t3 t4 t5 t6 t7 : TypeId) : nkBeg t1 t2 t3 t4 t5 t6 t7 = true := by kernel_rfl
theorem nkBeg1_ok : nkUp nkBeg1 0 52 = true := by kernel_rfl
set_option maxRecDepth 100000 in
theorem nkEnd0_ok (t1 t2 t3 t4 t5 t6 t7 : TypeId) : nkEnd t1 t2 t3 t4 t5 t6 t7 0 0 = true := by kernel_rfl
theorem nkEs_0 (t1 t2 t3 t4 t5 t6 t7 : TypeId) (M : Nat) : nkEs t1 t2 t3 t4 t5 t6 t7 M 0 = nkEs t1 t2 t3 t4 t5 t6 t7 0 0 := rfl
end Go.Proofs.YtjpfhhndjpdmoaaGreatDoor
