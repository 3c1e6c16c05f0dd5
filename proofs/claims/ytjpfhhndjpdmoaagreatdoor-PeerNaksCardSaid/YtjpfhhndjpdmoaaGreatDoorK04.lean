/- Part of the proof: EvS, EvT. No conditions of its own. -/
import Derived.Below
import Derived.KernelRfl
import Derived.Laws.CopyRow
import Derived.Laws.NewFold
import Derived.Orders
import Derived.RowKit3
import Derived.Test.YtjpfhhndjpdmoaaGreatDoorK03
import Derived.Laws.BytesArg
namespace Go.Proofs.YtjpfhhndjpdmoaaGreatDoor
open Go.RowKit
set_option linter.unusedVariables false
set_option linter.unusedSimpArgs false

section
variable {P : Program} {nB B : Nat} {w0 : World} {ν : Env} {T : Tr LV} {H : Hp} {nx : Nat} {w : World} {out : Out}
def OV (ν : Env) : Option LV → Option Value → Prop
  | none, none => True
  | some x, some y => VR ν x y
  | _, _ => False
theorem sliceBound_ok {x : LV} {y : Value} {n m : Nat} {c : BoundsCode} (h : natL x = some n) (hv : VR ν x y) (hle : n ≤ m) : (Instr.sliceBound y m c).run P w = .ok n w := by
  obtain ⟨k, rfl⟩ := natL_ok h hv
  simp [Instr.sliceBound, asIntOf, hle]
theorem bounds_ok {isS : Bool} {len cap l h m : Nat} {lo hi mx : Option LV} {lo' hi' mx' : Option Value} (o1 : OV ν lo lo') (o2 : OV ν hi hi') (o3 : OV ν mx mx')
    (e1 : optN 0 lo = some l) (e2 : optN len hi = some h) (e3 : optN cap mx = some m) (h1 : l ≤ h) (h2 : hi.isSome = true → h ≤ m) (h3 : mx.isSome = true → m ≤ cap ∧ hi.isSome = true) :
    (Instr.sliceBounds isS len cap lo' hi' mx').run P w = .ok (l, h, m) w := by
  cases mx with
  | none =>
    cases mx' with
    | some _ => exact o3.elim
    | none =>
      simp only [optN, Option.some.injEq] at e3
      subst e3
      cases hi with
      | none =>
        cases hi' with
        | some _ => exact o2.elim
        | none =>
          simp only [optN, Option.some.injEq] at e2
          subst e2
          cases lo with
          | none =>
            cases lo' with
            | some _ => exact o1.elim
            | none =>
              simp only [optN, Option.some.injEq] at e1
              subst e1
              simp [Instr.sliceBounds]
          | some lo =>
            cases lo' with
            | none => exact o1.elim
            | some lo' => simp [Instr.sliceBounds, sliceBound_ok (P := P) (w := w) e1 o1 h1]
      | some hi =>
        cases hi' with
        | none => exact o2.elim
        | some hi' =>
          cases lo with
          | none =>
            cases lo' with
            | some _ => exact o1.elim
            | none =>
              simp only [optN, Option.some.injEq] at e1
              subst e1
              simp [Instr.sliceBounds, sliceBound_ok (P := P) (w := w) e2 o2 (h2 rfl)]
          | some lo =>
            cases lo' with
            | none => exact o1.elim
            | some lo' => simp [Instr.sliceBounds, sliceBound_ok (P := P) (w := w) e2 o2 (h2 rfl), sliceBound_ok (P := P) (w := w) e1 o1 h1]
  | some mx =>
    cases mx' with
    | none => exact o3.elim
    | some mx' =>
      obtain ⟨h4, h5⟩ := h3 rfl
      cases hi with
      | none => simp at h5
      | some hi =>
        cases hi' with
        | none => exact o2.elim
        | some hi' =>
          cases lo with
          | none =>
            cases lo' with
            | some _ => exact o1.elim
            | none =>
              simp only [optN, Option.some.injEq] at e1
              subst e1
              simp [Instr.sliceBounds, sliceBound_ok (P := P) (w := w) e3 o3 h4, sliceBound_ok (P := P) (w := w) e2 o2 (h2 rfl)]
          | some lo =>
            cases lo' with
            | none => exact o1.elim
            | some lo' => simp [Instr.sliceBounds, sliceBound_ok (P := P) (w := w) e3 o3 h4, sliceBound_ok (P := P) (w := w) e2 o2 (h2 rfl), sliceBound_ok (P := P) (w := w) e1 o1 h1]
theorem optV_ok {o : Option LV} {o' : Option Value} {r : Option Value} (h : optV o = some r) (hv : OV ν o o') : o' = r := by
  cases o with
  | none => cases o' with
    | none => simp [optV] at h; exact h
    | some _ => exact hv.elim
  | some x => cases o' with
    | none => exact hv.elim
    | some y =>
      cases x <;> simp [optV] at h
      subst h
      simp only [OV, VR] at hv
      rw [hv.1]
theorem op_slice {t : TypeId} {x : LV} {y : Value} {lo hi mx : Option LV} {lo' hi' mx' : Option Value} (h : sliceL P H nx t x lo hi mx = some out) (hx : VR ν x y) (o1 : OV ν lo lo') (o2 : OV ν hi hi') (o3 : OV ν mx mx') (hb : Below B w0 w) :
    Gives P nB B w0 ν H nx out w (Instr.sliceAt t y lo' hi' mx') := by
  cases x with
  | v x =>
    simp only [VR] at hx
    obtain ⟨rfl, _⟩ := hx
    simp only [sliceL] at h
    split at h
    · rename_i a b c e1 e2 e3
      rw [optV_ok e1 o1, optV_ok e2 o2, optV_ok e3 o3]
      exact pureL_ok h hb
    · cases h
  | ptr b off =>
    simp only [VR] at hx
    obtain ⟨lc, h1, rfl⟩ := hx
    simp only [sliceL] at h
    split at h
    · rename_i n elem hu
      split at h
      · rename_i e l hh he e1 e2
        split at h
        · rename_i hc
          cases h
          cases mx' with
          | some _ => exact o3.elim
          | none =>
            have hbd := bounds_ok (P := P) (w := w) (isS := false) (cap := n) o1 o2 (o3 : OV ν none none) e1 e2 (show optN n none = some n from rfl) hc.1 (fun _ => hc.2) (fun h => by cases h)
            refine gives_val (v' := .slice (some ⟨lc.addr, if n = l then off else off + l * (e + 1), none⟩) (hh - l) (n - l)) ?_ (by simp only [VR]; exact ⟨lc, h1, rfl⟩) hb
            simp only [Instr.sliceAt, Sem.run_bind, run_underlying hu, Result.andThen_ok, Instr.sureAddr, Sem.run_pure, hbd, run_sizeOf he]
            by_cases hnl : n = l <;> simp [hnl, add_off]
        · cases h
      · cases h
    · cases h
  | slice b off len c =>
    simp only [VR] at hx
    obtain ⟨lc, h1, rfl⟩ := hx
    simp only [sliceL] at h
    split at h
    · rename_i elem hu
      split at h
      · rename_i e l hh m he e1 e2 e3
        split at h
        · rename_i hc
          cases h
          have h4 : mx.isSome = true → hi.isSome = true := fun hm => by
            rcases hc.2.2.2 with h' | h'
            · cases mx <;> simp at hm h'
            · exact h'
          have hbd := bounds_ok (P := P) (w := w) (isS := true) (cap := c) o1 o2 o3 e1 e2 e3 hc.1 (fun _ => hc.2.1) (fun hm => ⟨hc.2.2.1, h4 hm⟩)
          refine gives_val (v' := .slice (some ⟨lc.addr, if m = l then off else off + l * (e + 1), none⟩) (hh - l) (m - l)) ?_ (by simp only [VR]; exact ⟨lc, h1, rfl⟩) hb
          simp only [Instr.sliceAt, Sem.run_bind, run_underlying hu, Result.andThen_ok, Instr.slice, hbd, run_sizeOf he, Sem.run_pure]
          by_cases hnl : m = l <;> simp [hnl, add_off]
        · cases h
      · cases h
    · cases h
  | buf b off len eb =>
    simp only [VR] at hx
    obtain ⟨lc, c, h1, rfl, h3, h4, h5⟩ := hx
    simp only [sliceL] at h
    split at h
    · rename_i elem hu
      split at h
      · rename_i e l hh he e1 e2
        split at h
        · rename_i hc
          cases mx' with
          | some _ => exact o3.elim
          | none =>
            have hbd := bounds_ok (P := P) (w := w) (isS := true) (cap := c) o1 o2 (o3 : OV ν none none) e1 e2 (show optN c none = some c from rfl) hc.1 (fun _ => by omega) (fun h => by cases h)
            obtain ⟨hc1, hc2, rfl⟩ := hc
            have hrun : (Instr.sliceAt t (.slice (some ⟨lc.addr, off, none⟩) len c) lo' hi' none).run P w = .ok (.slice (some (if c = l then ⟨lc.addr, off, none⟩ else ⟨lc.addr, off + l * (e + 1), none⟩)) (hh - l) (c - l)) w := by
              simp only [Instr.sliceAt, Sem.run_bind, run_underlying hu, Result.andThen_ok, Instr.slice, hbd, run_sizeOf he, Sem.run_pure]
              by_cases hnl : c = l <;> simp [hnl, add_off]
            split at h
            · rename_i hl
              cases h
              refine gives_val (v' := _) hrun ?_ hb
              simp only [VR]
              refine ⟨lc, c - l, h1, ?_, by omega, ?_, by omega⟩
              · by_cases hcl : c = l
                · have hl0 : l = 0 := by rcases hl with hl | hl <;> omega
                  subst hl0
                  simp [hcl]
                · rw [if_neg hcl]
              · have : l * (e + 1) + (c - l) * (e + 1) = c * (e + 1) := by rw [← Nat.add_mul]; congr 1; omega
                omega
            · rename_i hl
              cases h
              have : hh - l = 0 := by omega
              rw [this] at hrun
              exact gives_val hrun (by simp only [VR]; exact ⟨_, _, rfl, by split <;> rfl, by omega⟩) hb
        · cases h
      · cases h
    · cases h
  | emp =>
    simp only [VR] at hx
    obtain ⟨a, c, rfl, hsp, hcm⟩ := hx
    simp only [sliceL] at h
    split at h
    · rename_i elem hu e1 e2
      split at h
      · rename_i e he
        cases h
        cases mx' with
        | some _ => exact o3.elim
        | none =>
          have hbd := bounds_ok (P := P) (w := w) (isS := true) (len := 0) (cap := c) o1 o2 (o3 : OV ν none none) e1 e2 (show optN c none = some c from rfl) (Nat.le_refl _) (fun _ => Nat.zero_le _) (fun h => by cases h)
          refine gives_val (v' := .slice (some (if c = 0 then a else a.add (0 * e))) (0 - 0) (c - 0)) ?_ (by simp only [VR]; exact ⟨_, _, rfl, by split <;> simp_all [Addr.add], by omega⟩) hb
          simp only [Instr.sliceAt, Sem.run_bind, run_underlying hu, Result.andThen_ok, Instr.slice, hbd, run_sizeOf he, Sem.run_pure]
          by_cases hnl : c = 0 <;> simp [hnl]
      · cases h
    · cases h
  | sym b k lo hi ne => simp [sliceL] at h
  | outS b => simp [sliceL] at h
  | outP b => simp [sliceL] at h
  | str cs =>
    simp only [VR] at hx
    obtain ⟨bs, rfl, hbs⟩ := hx
    have hlen : bs.length = cs.length := by have := hbs.length; simpa using this
    simp only [sliceL] at h
    split at h
    · rename_i l hh hu e1 e2
      split at h
      · rename_i hc
        cases h
        cases mx' with
        | some _ => exact o3.elim
        | none =>
          have hbd := bounds_ok (P := P) (w := w) (isS := false) (len := cs.length) (cap := cs.length) o1 o2 (o3 : OV ν none none) e1 e2 (show optN cs.length none = some cs.length from rfl) hc.1 (fun _ => hc.2) (fun h => by cases h)
          have hsz : (⟨bs.toArray⟩ : ByteArray).size = cs.length := by rw [← hlen]; simp [ByteArray.size]
          have hex : (⟨bs.toArray⟩ : ByteArray).extract l hh = ⟨((bs.take hh).drop l).toArray⟩ := by
            apply ByteArray.ext
            rw [ByteArray.data_extract]
            apply Array.ext'
            simp [List.extract_eq_drop_take']
          refine gives_val (v' := .string ⟨((bs.take hh).drop l).toArray⟩) ?_ (by simp only [VR]; exact ⟨_, rfl, by rw [List.map_drop, List.map_take]; exact (hbs.take hh).drop l⟩) hb
          simp only [Instr.sliceAt, Sem.run_bind, run_underlying hu, Result.andThen_ok, Instr.slice, Option.isSome_none, Bool.false_eq_true, if_false, hsz, hbd, Sem.run_pure, hex]
      · cases h
    · cases h
  | fn f cs => simp [sliceL] at h
  | agg cs => simp [sliceL] at h
  | tup cs => simp [sliceL] at h
end
end Go.Proofs.YtjpfhhndjpdmoaaGreatDoor

namespace Go.Proofs.YtjpfhhndjpdmoaaGreatDoor
open Go.RowKit
set_option linter.unusedVariables false
set_option linter.unusedSimpArgs false

section
variable {P : Program} {nB B : Nat} {w0 : World} {ν : Env} {T : Tr LV} {H : Hp} {nx : Nat} {w : World} {out : Out}
theorem bytes_vrs : ∀ (l : List UInt8), VRs ν (l.map fun b => .v (.int .u8 b.toNat)) (l.map fun b => .int .u8 b.toNat)
  | [] => VRs.nil_iff.2 rfl
  | b :: l => VRs.cons_iff.2 ⟨_, _, rfl, by simp [VR, plainV], bytes_vrs l⟩
theorem lenL_ok {x : LV} {y : Value} {n : Nat} (h : lenL x = some n) (hv : VR ν x y) (w : World) : (Builtin.lenOf y).run P w = .ok n w := by
  cases x with
  | v x =>
    simp only [VR] at hv
    obtain ⟨rfl, _⟩ := hv
    unfold lenL at h
    split at h
    · rename_i e; cases e; cases h; rfl
    · rename_i e; cases e; cases h; rfl
    all_goals first | (rename_i e; cases e) | (cases h)
  | slice b off len c => simp only [VR] at hv; obtain ⟨l, _, rfl⟩ := hv; simp [lenL] at h; subst h; rfl
  | buf b off len e => simp only [VR] at hv; obtain ⟨l, c, _, rfl, _⟩ := hv; simp [lenL] at h; subst h; rfl
  | emp => simp only [VR] at hv; obtain ⟨l, c, rfl, _⟩ := hv; simp [lenL] at h; subst h; rfl
  | _ => simp [lenL] at h
theorem firstL_ok {e n : Nat} {x : LV} {y : Value} {l : List LV} {f : List Nat} {foot : Option (List Nat)} (h : firstL H e n x = some (l, f)) (hv : VR ν x y) (hH : HRF ν H foot w) (hf : ∀ i ∈ f, footHas foot i) :
    ∃ us, (∀ w', w'.heap = w.heap → (Builtin.firstCells e n y).run P w' = .ok us.toArray w') ∧ VRs ν l us ∧ l.length = n * e := by
  have hsl : ∀ (b off c m : Nat) (lc : Loc), ν b = some lc → (if n * e = 0 then some ([], []) else match H.get b with
      | some k => if ((k.cells.drop off).take (n * e)).length = n * e then some ((k.cells.drop off).take (n * e), [b]) else none
      | none => none) = some (l, f) → ∃ us, (∀ w', w'.heap = w.heap → (Builtin.firstCells e n (.slice (some ⟨lc.addr, off, none⟩) m c)).run P w' = .ok us.toArray w') ∧ VRs ν l us ∧ l.length = n * e := by
    intro b off c m lc hlc h
    split at h
    · rename_i h0
      cases h
      refine ⟨[], ?_, VRs.nil_iff.2 rfl, by simp [h0]⟩
      intro w' _; simp [Builtin.firstCells, h0, loadCells, loadCellsFrom]
    · split at h
      · rename_i k hk
        split at h
        · rename_i hl
          cases h
          obtain ⟨lc', h1, h2⟩ := hH b k (hf b (by simp)) hk
          rw [hlc] at h1; cases h1
          obtain ⟨us, h3, h4, h5⟩ := h2.stretch off (n * e) hl
          refine ⟨us, ?_, h4, hl⟩
          intro w' hw'
          have := run_loadCells_list (P := P) w' ⟨lc.addr, off, none⟩ us (fun j v hj => by rw [add_off, World.cell?_of_block (w := w) (by rw [hw'])]; exact h5 j v hj)
          rw [h3] at this
          exact this
        · cases h
      · cases h
  cases x with
  | v x =>
    simp only [VR] at hv
    obtain ⟨rfl, _⟩ := hv
    cases y with
    | string s =>
      simp only [firstL] at h
      split at h
      · rename_i hc
        cases h
        obtain ⟨rfl, hn⟩ := hc
        refine ⟨(s.data.toList.take n).map fun b => .int .u8 b.toNat, ?_, bytes_vrs _, ?_⟩
        · intro w' _
          simp only [Builtin.firstCells, Sem.run_pure]
          congr 1
          apply Array.ext'
          simp [ByteArray.data_extract, List.extract_eq_drop_take']
        · have : s.data.toList.length = s.size := by simp
          simp; omega
      · cases h
    | slice a m c =>
      cases a with
      | none => simp only [firstL] at h; split at h
                · rename_i h0; cases h; exact ⟨[], fun _ _ => rfl, VRs.nil_iff.2 rfl, by simp [h0]⟩
                · cases h
      | some a => simp [firstL] at h
    | _ => simp [firstL] at h
  | slice b off len c =>
    simp only [VR] at hv
    obtain ⟨lc, h1, rfl⟩ := hv
    simp only [firstL] at h
    exact hsl b off c len lc h1 h
  | buf b off len e' =>
    simp only [VR] at hv
    obtain ⟨lc, c, h1, rfl, _⟩ := hv
    simp only [firstL] at h
    exact hsl b off c len lc h1 h
  | emp =>
    simp only [VR] at hv
    obtain ⟨a, c, rfl, _⟩ := hv
    simp only [firstL] at h
    split at h
    · rename_i h0
      cases h
      subst h0
      exact ⟨[], fun _ _ => by simp [Builtin.firstCells, loadCells, loadCellsFrom], VRs.nil_iff.2 rfl, by simp⟩
    · cases h
  | _ => simp [firstL] at h
theorem bytesL_ok : ∀ {l : List LV} {bs : List UInt8} {us : List Value}, bytesL l = some bs → VRs ν l us → ∃ ns : List Int, us = ns.map (Value.int .u8) ∧ bs = ns.map fun n => UInt8.ofNat n.toNat
  | [], bs, us, h, hv => by simp [bytesL] at h; subst h; rw [VRs.nil_iff.1 hv]; exact ⟨[], rfl, rfl⟩
  | x :: l, bs, us, h, hv => by
    obtain ⟨u, us', rfl, h2, h3⟩ := VRs.cons_iff.1 hv
    unfold bytesL at h
    split at h
    · rename_i e; cases e
    · rename_i n l' e
      cases e
      simp only [Option.map_eq_some_iff] at h
      obtain ⟨bs', h4, rfl⟩ := h
      obtain ⟨ns, rfl, rfl⟩ := bytesL_ok h4 h3
      simp only [VR] at h2
      exact ⟨n :: ns, by rw [h2.1]; rfl, rfl⟩
    · cases h
theorem byteLVs_ok : ∀ {l : List LV} {us : List Value}, l.all byteLV = true → VRs ν l us → ∃ bs : List UInt8, us = bs.map fun b => Value.int .u8 (b.toNat : Int)
  | [], us, _, hv => ⟨[], by rw [VRs.nil_iff.1 hv]; rfl⟩
  | x :: l, us, h, hv => by
    obtain ⟨u, us', rfl, h2, h3⟩ := VRs.cons_iff.1 hv
    simp only [List.all_cons, Bool.and_eq_true] at h
    obtain ⟨bs, rfl⟩ := byteLVs_ok h.2 h3
    have key : ∃ n : Nat, n ≤ 255 ∧ u = .int .u8 (n : Int) := by
      have h1 := h.1
      unfold byteLV at h1
      split at h1
      · rename_i n
        simp only [VR] at h2
        exact ⟨n, Nat.le_of_ble_eq_true h1, h2.1⟩
      · simp only [VR] at h2
        obtain ⟨lc, _, e, _, g1, g2, _⟩ := h2
        exact ⟨lc.addr, Nat.le_trans g1 g2, e⟩
      · cases h1
    obtain ⟨n, hn, rfl⟩ := key
    refine ⟨UInt8.ofNat n :: bs, ?_⟩
    simp only [List.map_cons]
    congr 2
    simp [UInt8.toNat_ofNat, Nat.mod_eq_of_lt (show n < 256 by omega)]
theorem str_ok {src dst e b off len c : Nat} {lc : Loc} (hs : P.underlying src = some (.slice e)) (he : P.underlying e = some (.int .u8)) (hd : P.underlying dst = some .string) (hν : ν b = some lc) (h : strL H nx b off len = some out) (hH : HRF ν H out.foot w) (hb : Below B w0 w) :
    Gives P nB B w0 ν H nx out w (convert src dst (.slice (some ⟨lc.addr, off, none⟩) len c)) := by
  unfold strL at h
  split at h
  · rename_i k hk
    simp only at h
    split at h
    · rename_i hl
      split at h
      · rename_i bs hbs
        cases h
        obtain ⟨lc', h1, h2⟩ := hH b k (by simp [footHas]) hk
        rw [hν] at h1; cases h1
        obtain ⟨us, h3, h4, h5⟩ := h2.stretch off len hl
        obtain ⟨ns, rfl, rfl⟩ := bytesL_ok hbs h4
        have hlo := run_loadCells_list (P := P) w ⟨lc.addr, off, none⟩ (ns.map (Value.int .u8)) (fun j v hj => by rw [add_off]; exact h5 j v hj)
        rw [h3] at hlo
        refine gives_val (v' := _) (by rw [run_convert_bytes_string w src dst e _ len c hs he hd, run_bytesToString w _ len c ns hlo, foldl_push_bytes]) ?_ hb
        simp only [VR]
        refine ⟨?_, rfl⟩
        congr 1
        simp [ByteArray.empty, ByteArray.emptyWithCapacity]
        rfl
      · split at h
        · rename_i hall
          cases h
          obtain ⟨lc', h1, h2⟩ := hH b k (by simp [footHas]) hk
          rw [hν] at h1; cases h1
          obtain ⟨us, h3, h4, h5⟩ := h2.stretch off len hl
          obtain ⟨bs, rfl⟩ := byteLVs_ok hall h4
          have hus : (bs.map fun b => Value.int .u8 (b.toNat : Int)) = (bs.map fun b => (b.toNat : Int)).map (Value.int .u8) := by rw [List.map_map]; rfl
          rw [hus] at h5 h3
          have hlo := run_loadCells_list (P := P) w ⟨lc.addr, off, none⟩ _ (fun j v hj => by rw [add_off]; exact h5 j v hj)
          rw [h3] at hlo
          refine gives_val (v' := _) (by rw [run_convert_bytes_string w src dst e _ len c hs he hd, run_bytesToString w _ len c _ hlo, foldl_push_bytes]) ?_ hb
          simp only [VR]
          refine ⟨bs, ?_, h4⟩
          congr 1
          simp [ByteArray.empty, ByteArray.emptyWithCapacity]
          have : ((fun n : Int => UInt8.ofNat n.toNat) ∘ fun b : UInt8 => (b.toNat : Int)) = fun b => b := by
            funext b
            simp
          rw [this, List.map_id']
          rfl
        · cases h
    · cases h
  · cases h
theorem growBy_le (m : Nat) : ∀ (r c : Nat), c ≤ 2 * m → Builtin.growBy m r c ≤ 2 * m + 1024
  | 0, c, h => by simp [Builtin.growBy]; omega
  | r + 1, c, h => by
    simp only [Builtin.growBy]
    split
    · omega
    · rename_i hc
      by_cases h2 : c + (c + 768) / 4 ≤ 2 * m
      · exact growBy_le m r _ h2
      · -- then it is at least m, and stays
        have h3 : c + (c + 768) / 4 ≤ 2 * m + 1024 := by omega
        cases r with
        | zero => simp [Builtin.growBy]; omega
        | succ r => simp only [Builtin.growBy]; rw [if_pos (by omega)]; exact h3
theorem nextcap_le {m c : Nat} (h : c < m) : Builtin.nextslicecap m c ≤ 2 * m + 1024 := by
  unfold Builtin.nextslicecap
  split
  · omega
  · split
    · omega
    · exact growBy_le m 4 c (by omega)
theorem zeroCells_eq (z : Array Value) (n : Nat) : Builtin.zeroCells z n = ((List.replicate n z.toList).flatten).toArray := range_rep z n _ rfl
theorem repL_len (z : List LV) : ∀ n, (repL z n).length = n * z.length
  | 0 => by simp [repL]
  | n + 1 => by simp [repL, repL_len z n, Nat.succ_mul, Nat.add_comm]
theorem tail_ok {t2 : TypeId} {e n : Nat} {z new : List LV} {x : LV} {y : Value} {f : List Nat} {foot : Option (List Nat)} {v : Value} (hvz : VRs ν z v.cells.toList)
    (h : tailL P H t2 e z x = some (n, new, f)) (hv : VR ν x y) (hH : HRF ν H foot w) (hf : ∀ i ∈ f, footHas foot i) :
    ∃ (d2 : TypeDesc) (us : List Value), P.underlying t2 = some d2 ∧ VRs ν new us ∧ new.length = n * e ∧
      ((∃ k k', d2 = .int k ∧ y = .int k' (n : Int) ∧ us = (List.replicate n v.cells.toList).flatten ∧ z.length = e ∧ n ≤ 2 ^ 30) ∨ ((∀ k, d2 ≠ .int k) ∧ (Builtin.lenOf y).run P w = .ok n w ∧ ∀ w', w'.heap = w.heap → (Builtin.firstCells e n y).run P w' = .ok us.toArray w')) := by
  unfold tailL at h
  split at h
  · rename_i k hu
    split at h
    · rename_i m hm
      split at h
      · rename_i hc
        cases h
        obtain ⟨k', hy⟩ := natL_ok hm hv
        refine ⟨_, _, hu, repL_ok hvz n, ?_, .inl ⟨k, k', rfl, hy, rfl, hc.2, hc.1⟩⟩
        rw [← hc.2]; exact repL_len z n
      · cases h
    · cases h
  · rename_i d hd hu
    split at h
    · rename_i m hm
      split at h
      · rename_i l f' hl
        cases h
        obtain ⟨us, h1, h2, h3⟩ := firstL_ok hl hv hH hf
        refine ⟨d, us, hu, h2, h3, .inr ⟨fun k e => hd k e, lenL_ok hm hv w, h1⟩⟩
      · cases h
    · cases h
  · cases h
end
end Go.Proofs.YtjpfhhndjpdmoaaGreatDoor
