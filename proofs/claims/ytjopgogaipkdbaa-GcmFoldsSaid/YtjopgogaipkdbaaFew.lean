/- The walk of the document's Few: some of the parts, no more than some bytes of each. -/
import Derived.Test.YtjopgogaipkdbaaFold
import Derived.Test.YtjopgogaipkdbaaApp
import Derived.Test.YtjopgogaipkdbaaSealsLaw
import Derived.Deep.AppendSrc
import Derived.Deep.Upon
namespace Go.Proofs.Ytjopgogaipkdbaa
open Go.RowKit

/-- A slice of bytes that came in, of a slice of such. -/
def PB (w : World) (v : Value) (l : List UInt8) : Prop := ∃ a c, v = .slice a l.length c ∧ l.length ≤ c ∧ c ≤ maxLen ∧ (a = none → c = 0) ∧ (0 < l.length → SlB w v l)
theorem PB.below {w w' : World} {v : Value} {l : List UInt8} (h : PB w v l) (hb : Below w.heap.size w w') : PB w' v l := by
  obtain ⟨a, c, h1, h2, h3, h4, h5⟩ := h
  exact ⟨a, c, h1, h2, h3, h4, fun h => (h5 h).below hb⟩
theorem PB.take {w : World} {a : Option Addr} {n c : Nat} {l : List UInt8} (h : PB w (.slice a n c) l) (m : Nat) (hm : m ≤ n) : PB w (.slice a m c) (l.take m) := by
  obtain ⟨a', c', h1, h2, h3, h4, h5⟩ := h
  simp only [Value.slice.injEq] at h1
  obtain ⟨rfl, hn, rfl⟩ := h1
  have hl : (l.take m).length = m := by simp; omega
  exact ⟨a, c, by rw [hl], by omega, h3, h4, fun h => (h5 (by omega)).take m hm⟩
/-- Bytes onto an empty slice that has just been made: new memory. -/
theorem run_appendFresh {P : Program} (w : World) {t ty e : TypeId} (ht : P.underlying t = some (.slice e)) (hinf : (P.info? e).map (fun i => (i.zero, i.size, i.bytes)) = some (some (.int .u8 0), 1, 1)) (base g : Nat) (hg : base ≤ g) (hr : Row w g e #[])
    (x : Value) (m : List UInt8) (hx : PB w x m) (hm : m.length ≤ 140737488355328) (hb : base ≤ w.heap.size) :
    ∃ v' w', (Builtin.append_ #[t, t] ty #[.slice (some ⟨g, 0, none⟩) 0 0, x]).run P w = .ok v' w' ∧ Buf e w' base v' m ∧ Below w.heap.size w w' := by
  obtain ⟨i0, hi, hz0, hz1, hz2⟩ := info_parts hinf
  have hbuf : Buf e w base (.slice (some ⟨g, 0, none⟩) 0 0) [] := ⟨by simp, .inr ⟨g, 0, #[], rfl, hg, hr.heap, Nat.le_refl _, Nat.zero_le _, by simp, by simp⟩⟩
  obtain ⟨a, c, rfl, h1, h2, h3, h4⟩ := hx
  rcases Nat.eq_zero_or_pos m.length with h0 | h0
  · obtain rfl : m = [] := List.eq_nil_of_length_eq_zero h0
    refine ⟨_, w, ?_, hbuf, Below.refl _ w⟩
    refine run_append_nothing (P := P) w t t ty e i0 ht hi (some ⟨g, 0, none⟩) 0 0 (Nat.le_refl _) _ ?_
    cases a with
    | none => exact Src.ofNil w ht c
    | some a => exact Src.ofSlice w ht a 0 c [] (by simp) (fun _ _ h => by cases h) (fun _ h => by cases h)
  · obtain ⟨b, o, c', e', hc1, hc2, hc3, hc⟩ := (h4 h0).addr h0
    simp only [Value.slice.injEq] at e'
    obtain ⟨rfl, _, rfl⟩ := e'
    have hcell : ∀ j u, (m.map B)[j]? = some u → w.cell? ((⟨b, o, none⟩ : Addr).add j) = some u := fun j u hj => by
      have hj' : j < m.length := by simpa using (List.getElem?_eq_some_iff.1 hj).1
      rw [Addr.add_lit, hc j hj']
      simpa [gb, hj'] using hj
    have hone : ∀ u ∈ m.map B, u.oneCell' = true := fun u hu => by
      obtain ⟨y, _, rfl⟩ := List.mem_map.1 hu
      rfl
    obtain ⟨v', w', hrun, hown, _, _⟩ := run_append_own (P := P) w base t ty e i0 (.int .u8 0) 1 1 ht hi hz0 hz1 hz2 rfl (by decide) _ 0 [] hbuf ⟨b, o, none⟩ m.length c (m.map B) (by simp) hcell hone (by unfold maxLen; omega) (by omega) hb
    have hgrow := run_append_grow (P := P) w t ty e i0 (.int .u8 0) ht hi hz0 ⟨g, 0, none⟩ 0 0 [] (by simp) (fun _ _ h => by cases h) ⟨b, o, none⟩ m.length c (m.map B) (by rw [hz1]; simp) hcell (by omega) (by omega) (by rw [Nat.zero_add, nextslicecap_zero h0, hz2]; omega)
    rw [hrun] at hgrow
    simp only [Result.ok.injEq] at hgrow
    refine ⟨v', w', hrun, by simpa [Buf] using hown, ?_⟩
    rw [hgrow.2]
    exact ((Below.refl _ w).drew).alloc (Nat.le_refl _) _
theorem exec_append {P : Program} {o : Oper} {a : Act} {s x : Operand} {t : TypeId} {v u v' : Value} {w w' : World} (ho : o.op = .call { callee := .builtin .append, args := #[s, x], argTypes := #[t, t] }) (hs : a.eval s = v) (hx : a.eval x = u)
    (hr : (Builtin.append_ #[t, t] o.type #[v, u]).run P w = .ok v' w') : (execOp a.eval o).run P w = .ok (.value v') w' := by
  unfold execOp
  simp only [ho, resolve, invoke, builtin, Sem.run_bind, Sem.run_pure, Result.andThen_ok, List.map_toArray, List.map_cons, List.map_nil, hs, hx, hr]
/-- A slice of bytes stays where a slice of another type grows. -/
theorem Buf.keptT {T T' base base' n size : Nat} {w w' : World} {v v7 : Value} {l : List UInt8} {xs : List Value} (h : Buf T w base v l) (hT : T ≠ T') (h7 : w.ownsRow base' T' size v7 n xs) (hw : w.grownBy w' v7.ownBlock) : Buf T w' base v l := by
  refine h.kept hw ?_
  rcases h.2 with ⟨hv, _⟩ | ⟨k, cap, cur, hv, _, hh, _⟩
  · left; rw [hv]; rfl
  · right
    rw [hv]
    intro e
    rcases h7.2 with ⟨hv7, _⟩ | ⟨k7, cap7, cur7, hv7, _, hh7, _⟩
    · rw [hv7] at e; cases e
    · rw [hv7] at e
      simp only [Value.ownBlock, Option.some.injEq] at e
      subst e
      rw [hh] at hh7
      simp only [Option.some.injEq, Obj.cells.injEq] at hh7
      exact hT hh7.2.1
theorem info_sl : (Try.prog.info? 24).map (fun i => (i.zero, i.size, i.bytes)) = some (some (.slice none 0 0), 1, 24) := by kernel_rfl
theorem info_any {P : Program} {e : TypeId} {z : Value} {sz by' : Nat} (h : (P.info? e).map (fun i => (i.zero, i.size, i.bytes)) = some (some z, sz, by')) : ∃ i, P.info? e = some i ∧ i.zero = some z ∧ i.size = sz ∧ i.bytes = by' := by
  cases hi : P.info? e with
  | none => rw [hi] at h; cases h
  | some i =>
    rw [hi] at h
    simp only [Option.map_some, Option.some.injEq, Prod.mk.injEq] at h
    exact ⟨i, rfl, h.1, h.2.1, h.2.2⟩
def fewP (parts : List (List UInt8)) (n : Nat) : List (List UInt8) := (parts.take n).map (List.take 70)
/-- A slice of slices of bytes that came in. -/
def PtsIn (w : World) (vp : Value) (parts : List (List UInt8)) : Prop :=
  ∃ a cap, vp = .slice a parts.length cap ∧ parts.length ≤ cap ∧ cap ≤ maxLen ∧ ∀ i, i < parts.length → ∃ g o v, a = some ⟨g, o, none⟩ ∧ w.cell? ⟨g, o + i, none⟩ = some v ∧ PB w v (parts.getD i [])
theorem few_fin {w : World} {base i : Nat} {v : Value} {xs : List Value} {parts : List (List UInt8)} (h : w.ownsRow base 24 1 v i xs) (hx : ∀ j, j < i → Buf 5 w base (xs.getD j undef) ((parts.getD j []).take 70)) (hi : i = min 5 parts.length) : PartsAt w v (fewP parts 5) := by
  have hfl : (fewP parts 5).length = i := by simp [fewP, hi]
  have hxl : xs.length = i := by have := h.1; omega
  rcases h.2 with ⟨rfl, rfl⟩ | ⟨g, cap, cur, rfl, _, hh, h1, h2, h3, h4⟩
  · exact ⟨none, 0, by rw [hfl], by omega, Nat.zero_le _, fun j hj => by omega⟩
  · refine ⟨some ⟨g, 0, none⟩, cap, by rw [hfl], by omega, h2, fun j hj => ?_⟩
    have hj' : j < i := by omega
    have hrow : Row w g 24 cur := .of_heap hh
    have hb := hx j hj'
    have hg : (fewP parts 5).getD j [] = (parts.getD j []).take 70 := by
      have h5 : j < 5 := by omega
      have hp : j < parts.length := by omega
      simp [fewP, h5, hp]
    refine ⟨g, 0, xs.getD j undef, rfl, ?_, by rw [hg]; exact hb.slb, by rw [hg]; simp; omega⟩
    rw [Nat.zero_add, hrow.cell, ← Array.getElem?_toList]
    have : (cur.toList.take (i * 1))[j]? = xs[j]? := by rw [h4]
    rw [List.getElem?_take, if_pos (by omega)] at this
    rw [this]
    simp [show j < xs.length by omega]
set_option maxRecDepth 100000 in
set_option maxHeartbeats 4000000 in
theorem few_any (vp : Value) (parts : List (List UInt8)) (w : World) (hp : PtsIn w vp parts) :
    Calls Try.prog 20 #[vp, .int .i64 5, .int .i64 70] w fun e w' => ∃ v', e = .returned v' ∧ PartsAt w' v' (fewP parts 5) ∧ Below w.heap.size w w' := by
  obtain ⟨pa, pcap, rfl, hpc, hpm, hpe⟩ := hp
  have HPE := Lib.hid hpe
  unfold maxLen at hpm
  clear hpe
  go_enter Try.func20, Try.ntmps20
  go_wp2_with fail
  go_loopg [7, 8] 5 (fun n v iv wr => ∃ (i : Nat) (xs : List Value), n + i = 5 ∧ iv = .int .i64 (i : Int) ∧ i ≤ parts.length ∧ wr.ownsRow w.heap.size 24 1 v i xs ∧ (∀ j, j < i → Buf 5 wr w.heap.size (xs.getD j undef) ((parts.getD j []).take 70)) ∧ Below w.heap.size w wr)
  case atStart => exact ⟨0, [], by omega, rfl, Nat.zero_le _, World.ownsRow_nil w w.heap.size 24 1, fun j hj => by omega, Below.refl _ _⟩
  case round =>
    obtain ⟨i, xs, hi, rfl, hip, hrow, hxs, hB⟩ := hrel
    have hi0 : (0 : Int) ≤ (i : Int) := by omega
    have hi3 : ((i : Int)).toNat = i := by omega
    by_cases c1 : i < parts.length
    · have x1 : (i : Int) < (parts.length : Int) := by omega
      by_cases c2 : i < 5
      · have x2 : (i : Int) < 5 := by omega
        obtain ⟨g, o, ve, hpa, hce, hpb⟩ := HPE.out i c1
        subst hpa
        obtain ⟨l, hl⟩ : ∃ l, l = parts.getD i [] := ⟨_, rfl⟩
        rw [← hl] at hpb
        obtain ⟨ae, ce, hve, hlc, hcm, _, _⟩ := id hpb
        subst hve
        obtain ⟨m, hm⟩ : ∃ m, m = l.take 70 := ⟨_, rfl⟩
        have hml : m.length ≤ 70 := by rw [hm]; simp; omega
        have HROW := Lib.hid hrow
        have HXS := Lib.hid hxs
        have HM := Lib.hid hm
        have HL := Lib.hid hl
        clear hrow hxs hl
        go_upto_region 5 with (fail)
        have hBd : Below w.heap.size w wr.drew := hB.drew
        have hq : w.heap.size ≤ wr.drew.heap.size := hBd.size
        have HCE := Lib.hid (fun (w1 : World) (hb1 : Below wr.drew.heap.size wr.drew w1) => (((hBd.trans (hb1.mono hq)).cell (World.block_lt_of_cell? w _ hce)).trans hce))
        have HPB := Lib.hid (fun (w1 : World) (hb1 : Below wr.drew.heap.size wr.drew w1) => hpb.below (hBd.trans (hb1.mono hq)))
        clear hB hce hpb
        rcases Nat.lt_or_ge 70 l.length with h | h
        · have hl1 : ¬ ((l.length : Int) ≤ 70) := by omega
          have hl2 : (70 : Int) < (l.length : Int) := by omega
          have hl3 : (70 : Int) ≤ (ce : Int) := by omega
          have hpm' : ∀ w1, Below wr.drew.heap.size wr.drew w1 → PB w1 (.slice ae 70 ce) m := fun w1 hb1 => by
            rw [HM.out]
            exact (HPB.out w1 hb1).take 70 (by omega)
          have HPM := Lib.hid hpm'
          clear h hpm' hm
          refine wp_region_free 16 [21, 34, 35] (fun d v w' => if d = 21 then ∃ g, v = .slice (some ⟨g, 0, none⟩) 0 0 ∧ w.heap.size ≤ g ∧ Row w' g 5 #[] else if d = 34 then Buf 5 w' w.heap.size v m else ∃ h u, v = .slice (some ⟨h, 0, none⟩) 1 1 ∧ Row w' h 24 #[u] ∧ Buf 5 w' w.heap.size u m) (by kernel_rfl) (by kernel_rfl) (by kernel_rfl) ?hst ?h
          case hst =>
            intro d v w w' h hb
            by_cases e : d = 21
            · rw [if_pos e] at h ⊢
              obtain ⟨g, h1, h2, h3⟩ := h
              exact ⟨g, h1, h2, h3.below hb h3.lt⟩
            rw [if_neg e] at h ⊢
            by_cases e2 : d = 34
            · rw [if_pos e2] at h ⊢; exact h.grow hb
            · rw [if_neg e2] at h ⊢
              obtain ⟨g, u, h1, h2, h3⟩ := h
              exact ⟨g, u, h1, h2.below hb h2.lt, h3.grow hb⟩
          case h =>
          simp only [List.take_succ_cons, List.take_zero, List.drop_succ_cons, List.drop_zero]
          apply Exists.intro
          apply Exists.intro
          refine ⟨?_, ?_, ?_⟩
          · intro ν
            repeat (apply wpF_q rfl; focus (intro C hC hG; (first | go_big_quiet_skip | (go_big_quiet_want; go_big_quiet_op; first | go_big_quiet_on | (refine ⟨_, fun _ _ => rfl, ?_⟩; go_big_quiet_on)) | (go_big_quiet_want; apply qf_load1 _ _ rfl _ _ rfl; (exact hC); rotate_left 1; (focus (intro _; simp [go_sem]; done)); rotate_right 1; assumption; assumption; (simp only [Act.put, List.setIfInBounds_toArray, List.set_cons_zero, List.set_cons_succ]; go_big_quiet_on)) | (go_big_quiet_want; apply qf_loadA _ _ rfl _ _ rfl (sz := 47); (exact hC); rotate_left 1; (focus (intro _; simp [go_sem]; done)); (focus (intro _; simp [go_sem]; done)); rotate_right 1; assumption; assumption; assumption; (simp only [Act.put, List.setIfInBounds_toArray, List.set_cons_zero, List.set_cons_succ]; go_big_quiet_on)) | (go_big_quiet_want; apply qf_loadA _ _ rfl _ _ rfl (sz := 12); (exact hC); rotate_left 1; (focus (intro _; simp [go_sem]; done)); (focus (intro _; simp [go_sem]; done)); rotate_right 1; assumption; assumption; assumption; (simp only [Act.put, List.setIfInBounds_toArray, List.set_cons_zero, List.set_cons_succ]; go_big_quiet_on)) | (go_big_quiet_want; apply qf_loadA _ _ rfl _ _ rfl (sz := 16); (exact hC); rotate_left 1; (focus (intro _; simp [go_sem]; done)); (focus (intro _; simp [go_sem]; done)); rotate_right 1; assumption; assumption; assumption; (simp only [Act.put, List.setIfInBounds_toArray, List.set_cons_zero, List.set_cons_succ]; go_big_quiet_on)) | (go_big_quiet_want; apply qf_loadA _ _ rfl _ _ rfl (sz := 32); (exact hC); rotate_left 1; (focus (intro _; simp [go_sem]; done)); (focus (intro _; simp [go_sem]; done)); rotate_right 1; assumption; assumption; assumption; (simp only [Act.put, List.setIfInBounds_toArray, List.set_cons_zero, List.set_cons_succ]; go_big_quiet_on)) | (go_big_quiet_want; apply qf_loadA _ _ rfl _ _ rfl (sz := 2); (exact hC); rotate_left 1; (focus (intro _; simp [go_sem]; done)); (focus (intro _; simp [go_sem]; done)); rotate_right 1; assumption; assumption; assumption; (simp only [Act.put, List.setIfInBounds_toArray, List.set_cons_zero, List.set_cons_succ]; go_big_quiet_on))); exact wpQuiet_nil rfl))
            apply wpF_alloc rfl rfl
            · intro w1 hb1 _
              refine ⟨.slice (some ⟨w1.heap.size, 0, none⟩) 0 0, w1.alloc (.cells #[] 5), ?_, ?_, (Below.refl _ w1).alloc (Nat.le_refl _) _⟩
              · simp [go_sem]
              · intro d hd
                cases hd
                exact ⟨_, rfl, Nat.le_trans hq hb1.size, Row.new _ _ _⟩
            simp only [Act.put, vqF, Option.toList_some, List.cons_append, List.nil_append, List.setIfInBounds_toArray, List.set_cons_zero, List.set_cons_succ]
            repeat (apply wpF_q rfl; focus (intro C hC hG; (first | go_big_quiet_skip | (go_big_quiet_want; go_big_quiet_op; first | go_big_quiet_on | (refine ⟨_, fun _ _ => rfl, ?_⟩; go_big_quiet_on)) | (go_big_quiet_want; apply qf_load1 _ _ rfl _ _ rfl; (exact hC); rotate_left 1; (focus (intro _; simp [go_sem]; done)); rotate_right 1; assumption; assumption; (simp only [Act.put, List.setIfInBounds_toArray, List.set_cons_zero, List.set_cons_succ]; go_big_quiet_on)) | (go_big_quiet_want; apply qf_loadA _ _ rfl _ _ rfl (sz := 47); (exact hC); rotate_left 1; (focus (intro _; simp [go_sem]; done)); (focus (intro _; simp [go_sem]; done)); rotate_right 1; assumption; assumption; assumption; (simp only [Act.put, List.setIfInBounds_toArray, List.set_cons_zero, List.set_cons_succ]; go_big_quiet_on)) | (go_big_quiet_want; apply qf_loadA _ _ rfl _ _ rfl (sz := 12); (exact hC); rotate_left 1; (focus (intro _; simp [go_sem]; done)); (focus (intro _; simp [go_sem]; done)); rotate_right 1; assumption; assumption; assumption; (simp only [Act.put, List.setIfInBounds_toArray, List.set_cons_zero, List.set_cons_succ]; go_big_quiet_on)) | (go_big_quiet_want; apply qf_loadA _ _ rfl _ _ rfl (sz := 16); (exact hC); rotate_left 1; (focus (intro _; simp [go_sem]; done)); (focus (intro _; simp [go_sem]; done)); rotate_right 1; assumption; assumption; assumption; (simp only [Act.put, List.setIfInBounds_toArray, List.set_cons_zero, List.set_cons_succ]; go_big_quiet_on)) | (go_big_quiet_want; apply qf_loadA _ _ rfl _ _ rfl (sz := 32); (exact hC); rotate_left 1; (focus (intro _; simp [go_sem]; done)); (focus (intro _; simp [go_sem]; done)); rotate_right 1; assumption; assumption; assumption; (simp only [Act.put, List.setIfInBounds_toArray, List.set_cons_zero, List.set_cons_succ]; go_big_quiet_on)) | (go_big_quiet_want; apply qf_loadA _ _ rfl _ _ rfl (sz := 2); (exact hC); rotate_left 1; (focus (intro _; simp [go_sem]; done)); (focus (intro _; simp [go_sem]; done)); rotate_right 1; assumption; assumption; assumption; (simp only [Act.put, List.setIfInBounds_toArray, List.set_cons_zero, List.set_cons_succ]; go_big_quiet_on))); exact wpQuiet_nil rfl))
            (apply wpF_q rfl; focus (intro C hC hG; go_big_quiet_want; apply qf_loadC; (focus rfl); (focus rfl); (exact hC); (focus (intro _; simp [go_sem]; done)); (exact (fun w1 hb1 => HCE.out w1 hb1)); (simp only [Act.put, List.setIfInBounds_toArray, List.set_cons_zero, List.set_cons_succ]; go_big_quiet_on); exact wpQuiet_nil rfl))
            repeat (apply wpF_q rfl; focus (intro C hC hG; (first | go_big_quiet_skip | (go_big_quiet_want; go_big_quiet_op; first | go_big_quiet_on | (refine ⟨_, fun _ _ => rfl, ?_⟩; go_big_quiet_on)) | (go_big_quiet_want; apply qf_load1 _ _ rfl _ _ rfl; (exact hC); rotate_left 1; (focus (intro _; simp [go_sem]; done)); rotate_right 1; assumption; assumption; (simp only [Act.put, List.setIfInBounds_toArray, List.set_cons_zero, List.set_cons_succ]; go_big_quiet_on)) | (go_big_quiet_want; apply qf_loadA _ _ rfl _ _ rfl (sz := 47); (exact hC); rotate_left 1; (focus (intro _; simp [go_sem]; done)); (focus (intro _; simp [go_sem]; done)); rotate_right 1; assumption; assumption; assumption; (simp only [Act.put, List.setIfInBounds_toArray, List.set_cons_zero, List.set_cons_succ]; go_big_quiet_on)) | (go_big_quiet_want; apply qf_loadA _ _ rfl _ _ rfl (sz := 12); (exact hC); rotate_left 1; (focus (intro _; simp [go_sem]; done)); (focus (intro _; simp [go_sem]; done)); rotate_right 1; assumption; assumption; assumption; (simp only [Act.put, List.setIfInBounds_toArray, List.set_cons_zero, List.set_cons_succ]; go_big_quiet_on)) | (go_big_quiet_want; apply qf_loadA _ _ rfl _ _ rfl (sz := 16); (exact hC); rotate_left 1; (focus (intro _; simp [go_sem]; done)); (focus (intro _; simp [go_sem]; done)); rotate_right 1; assumption; assumption; assumption; (simp only [Act.put, List.setIfInBounds_toArray, List.set_cons_zero, List.set_cons_succ]; go_big_quiet_on)) | (go_big_quiet_want; apply qf_loadA _ _ rfl _ _ rfl (sz := 32); (exact hC); rotate_left 1; (focus (intro _; simp [go_sem]; done)); (focus (intro _; simp [go_sem]; done)); rotate_right 1; assumption; assumption; assumption; (simp only [Act.put, List.setIfInBounds_toArray, List.set_cons_zero, List.set_cons_succ]; go_big_quiet_on)) | (go_big_quiet_want; apply qf_loadA _ _ rfl _ _ rfl (sz := 2); (exact hC); rotate_left 1; (focus (intro _; simp [go_sem]; done)); (focus (intro _; simp [go_sem]; done)); rotate_right 1; assumption; assumption; assumption; (simp only [Act.put, List.setIfInBounds_toArray, List.set_cons_zero, List.set_cons_succ]; go_big_quiet_on))); exact wpQuiet_nil rfl))
            (apply wpF_q rfl; focus (intro C hC hG; go_big_quiet_want; apply qf_loadC; (focus rfl); (focus rfl); (exact hC); (focus (intro _; simp [go_sem]; done)); (exact (fun w1 hb1 => HCE.out w1 hb1)); (simp only [Act.put, List.setIfInBounds_toArray, List.set_cons_zero, List.set_cons_succ]; go_big_quiet_on); exact wpQuiet_nil rfl))
            repeat (apply wpF_q rfl; focus (intro C hC hG; (first | go_big_quiet_skip | (go_big_quiet_want; go_big_quiet_op; first | go_big_quiet_on | (refine ⟨_, fun _ _ => rfl, ?_⟩; go_big_quiet_on)) | (go_big_quiet_want; apply qf_load1 _ _ rfl _ _ rfl; (exact hC); rotate_left 1; (focus (intro _; simp [go_sem]; done)); rotate_right 1; assumption; assumption; (simp only [Act.put, List.setIfInBounds_toArray, List.set_cons_zero, List.set_cons_succ]; go_big_quiet_on)) | (go_big_quiet_want; apply qf_loadA _ _ rfl _ _ rfl (sz := 47); (exact hC); rotate_left 1; (focus (intro _; simp [go_sem]; done)); (focus (intro _; simp [go_sem]; done)); rotate_right 1; assumption; assumption; assumption; (simp only [Act.put, List.setIfInBounds_toArray, List.set_cons_zero, List.set_cons_succ]; go_big_quiet_on)) | (go_big_quiet_want; apply qf_loadA _ _ rfl _ _ rfl (sz := 12); (exact hC); rotate_left 1; (focus (intro _; simp [go_sem]; done)); (focus (intro _; simp [go_sem]; done)); rotate_right 1; assumption; assumption; assumption; (simp only [Act.put, List.setIfInBounds_toArray, List.set_cons_zero, List.set_cons_succ]; go_big_quiet_on)) | (go_big_quiet_want; apply qf_loadA _ _ rfl _ _ rfl (sz := 16); (exact hC); rotate_left 1; (focus (intro _; simp [go_sem]; done)); (focus (intro _; simp [go_sem]; done)); rotate_right 1; assumption; assumption; assumption; (simp only [Act.put, List.setIfInBounds_toArray, List.set_cons_zero, List.set_cons_succ]; go_big_quiet_on)) | (go_big_quiet_want; apply qf_loadA _ _ rfl _ _ rfl (sz := 32); (exact hC); rotate_left 1; (focus (intro _; simp [go_sem]; done)); (focus (intro _; simp [go_sem]; done)); rotate_right 1; assumption; assumption; assumption; (simp only [Act.put, List.setIfInBounds_toArray, List.set_cons_zero, List.set_cons_succ]; go_big_quiet_on)) | (go_big_quiet_want; apply qf_loadA _ _ rfl _ _ rfl (sz := 2); (exact hC); rotate_left 1; (focus (intro _; simp [go_sem]; done)); (focus (intro _; simp [go_sem]; done)); rotate_right 1; assumption; assumption; assumption; (simp only [Act.put, List.setIfInBounds_toArray, List.set_cons_zero, List.set_cons_succ]; go_big_quiet_on))); exact wpQuiet_nil rfl))
            apply wpF_alloc rfl rfl
            · intro w1 hb1 hf1
              obtain ⟨g', hg1, hg2, hg3⟩ := (show ∃ g, ν 21 = .slice (some ⟨g, 0, none⟩) 0 0 ∧ w.heap.size ≤ g ∧ Row w1 g 5 #[] from hf1 21 (by decide) rfl)
              obtain ⟨v', w', hr, hbf, hbl⟩ := run_appendFresh (P := Try.prog) w1 (ty := 24) Try.underlying24 info_u8 w.heap.size g' hg2 hg3 _ m (HPM.out w1 hb1) (by omega) (Nat.le_trans hq hb1.size)
              exact ⟨v', w', exec_append rfl hg1 rfl hr, fun d hd => by cases hd; exact hbf, hbl⟩
            simp only [Act.put, vqF, Option.toList_some, List.cons_append, List.nil_append, List.setIfInBounds_toArray, List.set_cons_zero, List.set_cons_succ]
            apply wpF_alloc rfl rfl
            · intro w1 hb1 hf1
              have h34 : Buf 5 w1 w.heap.size (ν 34) m := hf1 34 (by decide) rfl
              obtain ⟨a', c', hv⟩ : ∃ a c, ν 34 = .slice a m.length c := let ⟨a, c, h, _⟩ := h34.slb; ⟨a, c, h⟩
              refine ⟨.slice (some ⟨w1.heap.size, 0, none⟩) 1 1, w1.alloc (.cells #[ν 34] 24), ?_, ?_, (Below.refl _ w1).alloc (Nat.le_refl _) _⟩
              · simp [go_sem, hv]
              · intro d hd
                cases hd
                exact ⟨_, _, rfl, Row.new _ _ _, h34.alloc _⟩
            simp only [Act.put, vqF, Option.toList_some, List.cons_append, List.nil_append, List.setIfInBounds_toArray, List.set_cons_zero, List.set_cons_succ]
            exact wpF_nil ⟨rfl, rfl⟩
          · intro ν ν'
            kernel_rfl
          · intro ν w5 hw5 hf
            obtain ⟨hk, u, hk1, hk2, hk3⟩ := (show ∃ h u, ν 35 = .slice (some ⟨h, 0, none⟩) 1 1 ∧ Row w5 h 24 #[u] ∧ Buf 5 w5 w.heap.size u m from hf 35 (by decide))
            simp only [hk1]
            have hrow5 : w5.ownsRow w.heap.size 24 1 u7 i xs := ownsRow_low HROW.out ((Below.refl _ wr).drew.trans hw5)
            have hxs5 : ∀ j, j < i → Buf 5 w5 w.heap.size (xs.getD j undef) ((parts.getD j []).take 70) := fun j hj => (HXS.out j hj).grow ((Below.refl _ wr).drew.trans hw5)
            have hB5 := hBd.trans (hw5.mono hq)
            have hone : ∀ y ∈ [u], y.oneCell' = true := fun y hy => by
              obtain rfl : y = u := by simpa using hy
              obtain ⟨a, c, h, _⟩ := hk3.slb
              rw [h]
              rfl
            have hcell : ∀ j y, [u][j]? = some y → w5.cell? ((⟨hk, 0, none⟩ : Addr).add j) = some y := fun j y hj => by
              have hj1 : j < 1 := by simpa using (List.getElem?_eq_some_iff.1 hj).1
              obtain rfl : j = 0 := by omega
              rw [Addr.add_lit, hk2.cell]
              simpa using hj
            obtain ⟨i9, hi9, hz0, hz1, hz2⟩ := info_any info_sl
            have HROW5 := Lib.hid hrow5
            have HONE := Lib.hid hone
            have HCELL := Lib.hid hcell
            have HI9 := Lib.hid hi9
            have HZ0 := Lib.hid hz0
            have HZ1 := Lib.hid hz1
            have HZ2 := Lib.hid hz2
            have HB5 := Lib.hid hB5
            have hmx : i + 1 ≤ maxLen := by unfold maxLen; omega
            have HMX := Lib.hid hmx
            clear hrow5 hone hcell hi9 hz0 hz1 hz2 hk1 hk2 hf hmx hB5
            go_wp2_with (at_builtin; refine wpList_append_own _ rfl (.tmp 20) (.tmp 35) 38 rfl w.heap.size 24 i9 (.slice none 0 0) 1 24 Try.underlying38 HI9.out HZ0.out HZ1.out HZ2.out rfl (by decide) _ i xs rfl HROW5.out ⟨hk, 0, none⟩ 1 1 [u] rfl rfl HCELL.out HONE.out HMX.out (by omega) HB5.out.size ?_)
            intro v' w' hown hg _
            have hxs6 : ∀ j, j < i + 1 → Buf 5 w' w.heap.size ((xs ++ [u]).getD j undef) ((parts.getD j []).take 70) := fun j hj => by
              have hxl : xs.length = i := by have := HROW5.out.1; omega
              by_cases e : j < i
              · have : (xs ++ [u]).getD j undef = xs.getD j undef := by simp [List.getD_eq_getElem?_getD, List.getElem?_append, show j < xs.length by omega]
                rw [this]
                exact (hxs5 j e).keptT (by decide) HROW5.out hg
              · obtain rfl : j = i := by omega
                have : (xs ++ [u]).getD j undef = u := by simp [List.getD_eq_getElem?_getD, hxl]
                rw [this, ← HL.out, ← HM.out]
                exact hk3.keptT (by decide) HROW5.out hg
            have hB6 : Below w.heap.size w w' := HB5.out.grown hg HB5.out.size (fun k e => (World.ownsRow.lt HROW5.out k e).1)
            have HOWN := Lib.hid hown
            have HXS6 := Lib.hid hxs6
            clear hown hg hxs6 hxs5
            go_wp2_with fail
            go_roundg (gk - 1)
            case measure => omega
            case rel => exact ⟨i + 1, xs ++ [u], by omega, by go_num, by omega, HOWN.out, HXS6.out, hB6⟩
        · have hl1 : (l.length : Int) ≤ 70 := by omega
          have hl2 : ¬ (70 : Int) < (l.length : Int) := by omega
          have hl3 : (l.length : Int) ≤ (ce : Int) := by omega
          have hpm' : ∀ w1, Below wr.drew.heap.size wr.drew w1 → PB w1 (.slice ae l.length ce) m := fun w1 hb1 => by
            have := (HPB.out w1 hb1).take l.length (Nat.le_refl _)
            rw [List.take_of_length_le (Nat.le_refl _)] at this
            rwa [HM.out, List.take_of_length_le h]
          have HPM := Lib.hid hpm'
          clear h hpm' hm
          refine wp_region_free 16 [21, 34, 35] (fun d v w' => if d = 21 then ∃ g, v = .slice (some ⟨g, 0, none⟩) 0 0 ∧ w.heap.size ≤ g ∧ Row w' g 5 #[] else if d = 34 then Buf 5 w' w.heap.size v m else ∃ h u, v = .slice (some ⟨h, 0, none⟩) 1 1 ∧ Row w' h 24 #[u] ∧ Buf 5 w' w.heap.size u m) (by kernel_rfl) (by kernel_rfl) (by kernel_rfl) ?hst ?h
          case hst =>
            intro d v w w' h hb
            by_cases e : d = 21
            · rw [if_pos e] at h ⊢
              obtain ⟨g, h1, h2, h3⟩ := h
              exact ⟨g, h1, h2, h3.below hb h3.lt⟩
            rw [if_neg e] at h ⊢
            by_cases e2 : d = 34
            · rw [if_pos e2] at h ⊢; exact h.grow hb
            · rw [if_neg e2] at h ⊢
              obtain ⟨g, u, h1, h2, h3⟩ := h
              exact ⟨g, u, h1, h2.below hb h2.lt, h3.grow hb⟩
          case h =>
          simp only [List.take_succ_cons, List.take_zero, List.drop_succ_cons, List.drop_zero]
          apply Exists.intro
          apply Exists.intro
          refine ⟨?_, ?_, ?_⟩
          · intro ν
            repeat (apply wpF_q rfl; focus (intro C hC hG; (first | go_big_quiet_skip | (go_big_quiet_want; go_big_quiet_op; first | go_big_quiet_on | (refine ⟨_, fun _ _ => rfl, ?_⟩; go_big_quiet_on)) | (go_big_quiet_want; apply qf_load1 _ _ rfl _ _ rfl; (exact hC); rotate_left 1; (focus (intro _; simp [go_sem]; done)); rotate_right 1; assumption; assumption; (simp only [Act.put, List.setIfInBounds_toArray, List.set_cons_zero, List.set_cons_succ]; go_big_quiet_on)) | (go_big_quiet_want; apply qf_loadA _ _ rfl _ _ rfl (sz := 47); (exact hC); rotate_left 1; (focus (intro _; simp [go_sem]; done)); (focus (intro _; simp [go_sem]; done)); rotate_right 1; assumption; assumption; assumption; (simp only [Act.put, List.setIfInBounds_toArray, List.set_cons_zero, List.set_cons_succ]; go_big_quiet_on)) | (go_big_quiet_want; apply qf_loadA _ _ rfl _ _ rfl (sz := 12); (exact hC); rotate_left 1; (focus (intro _; simp [go_sem]; done)); (focus (intro _; simp [go_sem]; done)); rotate_right 1; assumption; assumption; assumption; (simp only [Act.put, List.setIfInBounds_toArray, List.set_cons_zero, List.set_cons_succ]; go_big_quiet_on)) | (go_big_quiet_want; apply qf_loadA _ _ rfl _ _ rfl (sz := 16); (exact hC); rotate_left 1; (focus (intro _; simp [go_sem]; done)); (focus (intro _; simp [go_sem]; done)); rotate_right 1; assumption; assumption; assumption; (simp only [Act.put, List.setIfInBounds_toArray, List.set_cons_zero, List.set_cons_succ]; go_big_quiet_on)) | (go_big_quiet_want; apply qf_loadA _ _ rfl _ _ rfl (sz := 32); (exact hC); rotate_left 1; (focus (intro _; simp [go_sem]; done)); (focus (intro _; simp [go_sem]; done)); rotate_right 1; assumption; assumption; assumption; (simp only [Act.put, List.setIfInBounds_toArray, List.set_cons_zero, List.set_cons_succ]; go_big_quiet_on)) | (go_big_quiet_want; apply qf_loadA _ _ rfl _ _ rfl (sz := 2); (exact hC); rotate_left 1; (focus (intro _; simp [go_sem]; done)); (focus (intro _; simp [go_sem]; done)); rotate_right 1; assumption; assumption; assumption; (simp only [Act.put, List.setIfInBounds_toArray, List.set_cons_zero, List.set_cons_succ]; go_big_quiet_on))); exact wpQuiet_nil rfl))
            apply wpF_alloc rfl rfl
            · intro w1 hb1 _
              refine ⟨.slice (some ⟨w1.heap.size, 0, none⟩) 0 0, w1.alloc (.cells #[] 5), ?_, ?_, (Below.refl _ w1).alloc (Nat.le_refl _) _⟩
              · simp [go_sem]
              · intro d hd
                cases hd
                exact ⟨_, rfl, Nat.le_trans hq hb1.size, Row.new _ _ _⟩
            simp only [Act.put, vqF, Option.toList_some, List.cons_append, List.nil_append, List.setIfInBounds_toArray, List.set_cons_zero, List.set_cons_succ]
            repeat (apply wpF_q rfl; focus (intro C hC hG; (first | go_big_quiet_skip | (go_big_quiet_want; go_big_quiet_op; first | go_big_quiet_on | (refine ⟨_, fun _ _ => rfl, ?_⟩; go_big_quiet_on)) | (go_big_quiet_want; apply qf_load1 _ _ rfl _ _ rfl; (exact hC); rotate_left 1; (focus (intro _; simp [go_sem]; done)); rotate_right 1; assumption; assumption; (simp only [Act.put, List.setIfInBounds_toArray, List.set_cons_zero, List.set_cons_succ]; go_big_quiet_on)) | (go_big_quiet_want; apply qf_loadA _ _ rfl _ _ rfl (sz := 47); (exact hC); rotate_left 1; (focus (intro _; simp [go_sem]; done)); (focus (intro _; simp [go_sem]; done)); rotate_right 1; assumption; assumption; assumption; (simp only [Act.put, List.setIfInBounds_toArray, List.set_cons_zero, List.set_cons_succ]; go_big_quiet_on)) | (go_big_quiet_want; apply qf_loadA _ _ rfl _ _ rfl (sz := 12); (exact hC); rotate_left 1; (focus (intro _; simp [go_sem]; done)); (focus (intro _; simp [go_sem]; done)); rotate_right 1; assumption; assumption; assumption; (simp only [Act.put, List.setIfInBounds_toArray, List.set_cons_zero, List.set_cons_succ]; go_big_quiet_on)) | (go_big_quiet_want; apply qf_loadA _ _ rfl _ _ rfl (sz := 16); (exact hC); rotate_left 1; (focus (intro _; simp [go_sem]; done)); (focus (intro _; simp [go_sem]; done)); rotate_right 1; assumption; assumption; assumption; (simp only [Act.put, List.setIfInBounds_toArray, List.set_cons_zero, List.set_cons_succ]; go_big_quiet_on)) | (go_big_quiet_want; apply qf_loadA _ _ rfl _ _ rfl (sz := 32); (exact hC); rotate_left 1; (focus (intro _; simp [go_sem]; done)); (focus (intro _; simp [go_sem]; done)); rotate_right 1; assumption; assumption; assumption; (simp only [Act.put, List.setIfInBounds_toArray, List.set_cons_zero, List.set_cons_succ]; go_big_quiet_on)) | (go_big_quiet_want; apply qf_loadA _ _ rfl _ _ rfl (sz := 2); (exact hC); rotate_left 1; (focus (intro _; simp [go_sem]; done)); (focus (intro _; simp [go_sem]; done)); rotate_right 1; assumption; assumption; assumption; (simp only [Act.put, List.setIfInBounds_toArray, List.set_cons_zero, List.set_cons_succ]; go_big_quiet_on))); exact wpQuiet_nil rfl))
            (apply wpF_q rfl; focus (intro C hC hG; go_big_quiet_want; apply qf_loadC; (focus rfl); (focus rfl); (exact hC); (focus (intro _; simp [go_sem]; done)); (exact (fun w1 hb1 => HCE.out w1 hb1)); (simp only [Act.put, List.setIfInBounds_toArray, List.set_cons_zero, List.set_cons_succ]; go_big_quiet_on); exact wpQuiet_nil rfl))
            repeat (apply wpF_q rfl; focus (intro C hC hG; (first | go_big_quiet_skip | (go_big_quiet_want; go_big_quiet_op; first | go_big_quiet_on | (refine ⟨_, fun _ _ => rfl, ?_⟩; go_big_quiet_on)) | (go_big_quiet_want; apply qf_load1 _ _ rfl _ _ rfl; (exact hC); rotate_left 1; (focus (intro _; simp [go_sem]; done)); rotate_right 1; assumption; assumption; (simp only [Act.put, List.setIfInBounds_toArray, List.set_cons_zero, List.set_cons_succ]; go_big_quiet_on)) | (go_big_quiet_want; apply qf_loadA _ _ rfl _ _ rfl (sz := 47); (exact hC); rotate_left 1; (focus (intro _; simp [go_sem]; done)); (focus (intro _; simp [go_sem]; done)); rotate_right 1; assumption; assumption; assumption; (simp only [Act.put, List.setIfInBounds_toArray, List.set_cons_zero, List.set_cons_succ]; go_big_quiet_on)) | (go_big_quiet_want; apply qf_loadA _ _ rfl _ _ rfl (sz := 12); (exact hC); rotate_left 1; (focus (intro _; simp [go_sem]; done)); (focus (intro _; simp [go_sem]; done)); rotate_right 1; assumption; assumption; assumption; (simp only [Act.put, List.setIfInBounds_toArray, List.set_cons_zero, List.set_cons_succ]; go_big_quiet_on)) | (go_big_quiet_want; apply qf_loadA _ _ rfl _ _ rfl (sz := 16); (exact hC); rotate_left 1; (focus (intro _; simp [go_sem]; done)); (focus (intro _; simp [go_sem]; done)); rotate_right 1; assumption; assumption; assumption; (simp only [Act.put, List.setIfInBounds_toArray, List.set_cons_zero, List.set_cons_succ]; go_big_quiet_on)) | (go_big_quiet_want; apply qf_loadA _ _ rfl _ _ rfl (sz := 32); (exact hC); rotate_left 1; (focus (intro _; simp [go_sem]; done)); (focus (intro _; simp [go_sem]; done)); rotate_right 1; assumption; assumption; assumption; (simp only [Act.put, List.setIfInBounds_toArray, List.set_cons_zero, List.set_cons_succ]; go_big_quiet_on)) | (go_big_quiet_want; apply qf_loadA _ _ rfl _ _ rfl (sz := 2); (exact hC); rotate_left 1; (focus (intro _; simp [go_sem]; done)); (focus (intro _; simp [go_sem]; done)); rotate_right 1; assumption; assumption; assumption; (simp only [Act.put, List.setIfInBounds_toArray, List.set_cons_zero, List.set_cons_succ]; go_big_quiet_on))); exact wpQuiet_nil rfl))
            (apply wpF_q rfl; focus (intro C hC hG; go_big_quiet_want; apply qf_loadC; (focus rfl); (focus rfl); (exact hC); (focus (intro _; simp [go_sem]; done)); (exact (fun w1 hb1 => HCE.out w1 hb1)); (simp only [Act.put, List.setIfInBounds_toArray, List.set_cons_zero, List.set_cons_succ]; go_big_quiet_on); exact wpQuiet_nil rfl))
            repeat (apply wpF_q rfl; focus (intro C hC hG; (first | go_big_quiet_skip | (go_big_quiet_want; go_big_quiet_op; first | go_big_quiet_on | (refine ⟨_, fun _ _ => rfl, ?_⟩; go_big_quiet_on)) | (go_big_quiet_want; apply qf_load1 _ _ rfl _ _ rfl; (exact hC); rotate_left 1; (focus (intro _; simp [go_sem]; done)); rotate_right 1; assumption; assumption; (simp only [Act.put, List.setIfInBounds_toArray, List.set_cons_zero, List.set_cons_succ]; go_big_quiet_on)) | (go_big_quiet_want; apply qf_loadA _ _ rfl _ _ rfl (sz := 47); (exact hC); rotate_left 1; (focus (intro _; simp [go_sem]; done)); (focus (intro _; simp [go_sem]; done)); rotate_right 1; assumption; assumption; assumption; (simp only [Act.put, List.setIfInBounds_toArray, List.set_cons_zero, List.set_cons_succ]; go_big_quiet_on)) | (go_big_quiet_want; apply qf_loadA _ _ rfl _ _ rfl (sz := 12); (exact hC); rotate_left 1; (focus (intro _; simp [go_sem]; done)); (focus (intro _; simp [go_sem]; done)); rotate_right 1; assumption; assumption; assumption; (simp only [Act.put, List.setIfInBounds_toArray, List.set_cons_zero, List.set_cons_succ]; go_big_quiet_on)) | (go_big_quiet_want; apply qf_loadA _ _ rfl _ _ rfl (sz := 16); (exact hC); rotate_left 1; (focus (intro _; simp [go_sem]; done)); (focus (intro _; simp [go_sem]; done)); rotate_right 1; assumption; assumption; assumption; (simp only [Act.put, List.setIfInBounds_toArray, List.set_cons_zero, List.set_cons_succ]; go_big_quiet_on)) | (go_big_quiet_want; apply qf_loadA _ _ rfl _ _ rfl (sz := 32); (exact hC); rotate_left 1; (focus (intro _; simp [go_sem]; done)); (focus (intro _; simp [go_sem]; done)); rotate_right 1; assumption; assumption; assumption; (simp only [Act.put, List.setIfInBounds_toArray, List.set_cons_zero, List.set_cons_succ]; go_big_quiet_on)) | (go_big_quiet_want; apply qf_loadA _ _ rfl _ _ rfl (sz := 2); (exact hC); rotate_left 1; (focus (intro _; simp [go_sem]; done)); (focus (intro _; simp [go_sem]; done)); rotate_right 1; assumption; assumption; assumption; (simp only [Act.put, List.setIfInBounds_toArray, List.set_cons_zero, List.set_cons_succ]; go_big_quiet_on))); exact wpQuiet_nil rfl))
            apply wpF_alloc rfl rfl
            · intro w1 hb1 hf1
              obtain ⟨g', hg1, hg2, hg3⟩ := (show ∃ g, ν 21 = .slice (some ⟨g, 0, none⟩) 0 0 ∧ w.heap.size ≤ g ∧ Row w1 g 5 #[] from hf1 21 (by decide) rfl)
              obtain ⟨v', w', hr, hbf, hbl⟩ := run_appendFresh (P := Try.prog) w1 (ty := 24) Try.underlying24 info_u8 w.heap.size g' hg2 hg3 _ m (HPM.out w1 hb1) (by omega) (Nat.le_trans hq hb1.size)
              exact ⟨v', w', exec_append rfl hg1 rfl hr, fun d hd => by cases hd; exact hbf, hbl⟩
            simp only [Act.put, vqF, Option.toList_some, List.cons_append, List.nil_append, List.setIfInBounds_toArray, List.set_cons_zero, List.set_cons_succ]
            apply wpF_alloc rfl rfl
            · intro w1 hb1 hf1
              have h34 : Buf 5 w1 w.heap.size (ν 34) m := hf1 34 (by decide) rfl
              obtain ⟨a', c', hv⟩ : ∃ a c, ν 34 = .slice a m.length c := let ⟨a, c, h, _⟩ := h34.slb; ⟨a, c, h⟩
              refine ⟨.slice (some ⟨w1.heap.size, 0, none⟩) 1 1, w1.alloc (.cells #[ν 34] 24), ?_, ?_, (Below.refl _ w1).alloc (Nat.le_refl _) _⟩
              · simp [go_sem, hv]
              · intro d hd
                cases hd
                exact ⟨_, _, rfl, Row.new _ _ _, h34.alloc _⟩
            simp only [Act.put, vqF, Option.toList_some, List.cons_append, List.nil_append, List.setIfInBounds_toArray, List.set_cons_zero, List.set_cons_succ]
            exact wpF_nil ⟨rfl, rfl⟩
          · intro ν ν'
            kernel_rfl
          · intro ν w5 hw5 hf
            obtain ⟨hk, u, hk1, hk2, hk3⟩ := (show ∃ h u, ν 35 = .slice (some ⟨h, 0, none⟩) 1 1 ∧ Row w5 h 24 #[u] ∧ Buf 5 w5 w.heap.size u m from hf 35 (by decide))
            simp only [hk1]
            have hrow5 : w5.ownsRow w.heap.size 24 1 u7 i xs := ownsRow_low HROW.out ((Below.refl _ wr).drew.trans hw5)
            have hxs5 : ∀ j, j < i → Buf 5 w5 w.heap.size (xs.getD j undef) ((parts.getD j []).take 70) := fun j hj => (HXS.out j hj).grow ((Below.refl _ wr).drew.trans hw5)
            have hB5 := hBd.trans (hw5.mono hq)
            have hone : ∀ y ∈ [u], y.oneCell' = true := fun y hy => by
              obtain rfl : y = u := by simpa using hy
              obtain ⟨a, c, h, _⟩ := hk3.slb
              rw [h]
              rfl
            have hcell : ∀ j y, [u][j]? = some y → w5.cell? ((⟨hk, 0, none⟩ : Addr).add j) = some y := fun j y hj => by
              have hj1 : j < 1 := by simpa using (List.getElem?_eq_some_iff.1 hj).1
              obtain rfl : j = 0 := by omega
              rw [Addr.add_lit, hk2.cell]
              simpa using hj
            obtain ⟨i9, hi9, hz0, hz1, hz2⟩ := info_any info_sl
            have HROW5 := Lib.hid hrow5
            have HONE := Lib.hid hone
            have HCELL := Lib.hid hcell
            have HI9 := Lib.hid hi9
            have HZ0 := Lib.hid hz0
            have HZ1 := Lib.hid hz1
            have HZ2 := Lib.hid hz2
            have HB5 := Lib.hid hB5
            have hmx : i + 1 ≤ maxLen := by unfold maxLen; omega
            have HMX := Lib.hid hmx
            clear hrow5 hone hcell hi9 hz0 hz1 hz2 hk1 hk2 hf hmx hB5
            go_wp2_with (at_builtin; refine wpList_append_own _ rfl (.tmp 20) (.tmp 35) 38 rfl w.heap.size 24 i9 (.slice none 0 0) 1 24 Try.underlying38 HI9.out HZ0.out HZ1.out HZ2.out rfl (by decide) _ i xs rfl HROW5.out ⟨hk, 0, none⟩ 1 1 [u] rfl rfl HCELL.out HONE.out HMX.out (by omega) HB5.out.size ?_)
            intro v' w' hown hg _
            have hxs6 : ∀ j, j < i + 1 → Buf 5 w' w.heap.size ((xs ++ [u]).getD j undef) ((parts.getD j []).take 70) := fun j hj => by
              have hxl : xs.length = i := by have := HROW5.out.1; omega
              by_cases e : j < i
              · have : (xs ++ [u]).getD j undef = xs.getD j undef := by simp [List.getD_eq_getElem?_getD, List.getElem?_append, show j < xs.length by omega]
                rw [this]
                exact (hxs5 j e).keptT (by decide) HROW5.out hg
              · obtain rfl : j = i := by omega
                have : (xs ++ [u]).getD j undef = u := by simp [List.getD_eq_getElem?_getD, hxl]
                rw [this, ← HL.out, ← HM.out]
                exact hk3.keptT (by decide) HROW5.out hg
            have hB6 : Below w.heap.size w w' := HB5.out.grown hg HB5.out.size (fun k e => (World.ownsRow.lt HROW5.out k e).1)
            have HOWN := Lib.hid hown
            have HXS6 := Lib.hid hxs6
            clear hown hg hxs6 hxs5
            go_wp2_with fail
            go_roundg (gk - 1)
            case measure => omega
            case rel => exact ⟨i + 1, xs ++ [u], by omega, by go_num, by omega, HOWN.out, HXS6.out, hB6⟩
      · have x2 : ¬ (i : Int) < 5 := by omega
        have HF := Lib.hid (few_fin (parts := parts) hrow hxs (by omega))
        clear hrow hxs
        go_wp2_with fail
        go_ret
        exact ⟨_, rfl, HF.out, hB⟩
    · have x1 : ¬ (i : Int) < (parts.length : Int) := by omega
      have HF := Lib.hid (few_fin (parts := parts) hrow hxs (by omega))
      clear hrow hxs
      go_wp2_with fail
      go_ret
      exact ⟨_, rfl, HF.out, hB⟩
end Go.Proofs.Ytjopgogaipkdbaa
