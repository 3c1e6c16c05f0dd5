/- Part of the proof: EvV. No conditions of its own. -/
import Derived.Below
import Derived.KernelRfl
import Derived.Laws.BytesArg
import Derived.Laws.CopyRow
import Derived.Laws.NewFold
import Derived.Lib.ConvBytes
import Derived.Orders
import Derived.RowKit3
import Derived.Test.YtjpfhhndjpdmoaaGreatDoorK05
namespace Go.Proofs.YtjpfhhndjpdmoaaGreatDoor
open Go.RowKit
set_option linter.unusedVariables false
set_option linter.unusedSimpArgs false

section
variable {P : Program} {nB B : Nat} {w0 : World} {ν : Env} {T : Tr LV} {H : Hp} {nx : Nat} {w : World} {out : Out}
theorem copy_run {t elem type : TypeId} {argTypes : Array TypeId} {a : Addr} {dl c n e : Nat} {y : Value} {us : List Value} {w' : World} (h0 : argTypes[0]? = some t) (hu : P.underlying t = some (.slice elem)) (he : sizeL P elem = some e)
    (hl : (Builtin.lenOf y).run P w = .ok n w) (hf : (Builtin.firstCells e (Nat.min n dl) y).run P w = .ok us.toArray w) (hs : (storeCells a us).run P w = .ok () w') :
    (Builtin.copy_ argTypes type #[.slice (some a) dl c, y]).run P w = .ok (goInt (Nat.min n dl)) w' := by
  simp [Builtin.copy_, h0, run_underlying hu, run_sizeOf he, hl, hf, hs]
theorem op_copy {type : TypeId} {argTypes : Array TypeId} {s x : LV} {s' x' : Value} (h : copyL P nB H nx argTypes.toList s x = some out) (hs : VR ν s s') (hx : VR ν x x') (hH : HRF ν H out.foot w) (hlow : LowF nB B ν H out.foot) (hid : ∀ i k, H.get i = some k → i < nx) (hb : Below B w0 w) :
    Gives P nB B w0 ν H nx out w (Builtin.copy_ argTypes type #[s', x']) := by
  unfold copyL at h
  split at h
  · rename_i t rest hat
    have h0 : argTypes[0]? = some t := by rw [← Array.getElem?_toList, hat]; rfl
    split at h
    · rename_i elem hu
      split at h
      · rename_i e dl n he hdl hn
        have main : ∀ (b off c : Nat) (lc : Loc) (new : List LV) (f : List Nat) (k : Blk), ν b = some lc → firstL H (e + 1) (Nat.min n dl) x = some (new, f) → nB ≤ b → H.get b = some k → off + Nat.min n dl * (e + 1) ≤ k.cells.length ∧ new.all LV.isOne = true →
            out = ⟨goI (Nat.min n dl), [(b, some ⟨k.elem, k.exact, k.mrk, putL k.cells off new⟩)], nx, some (b :: f)⟩ → Gives P nB B w0 ν H nx out w (Builtin.copy_ argTypes type #[.slice (some ⟨lc.addr, off, none⟩) dl c, x']) := by
          intro b off c lc new f k hlc hfi hnB hk hc ho
          subst ho
          obtain ⟨us, h1, h2, h3⟩ := firstL_ok (w := w) (P := P) hfi hx hH (fun i hi => List.mem_cons_of_mem _ hi)
          obtain ⟨lc', h4, h5⟩ := hH b k (by simp [footHas]) hk
          rw [hlc] at h4; cases h4
          obtain ⟨w', h6, h7⟩ := store_ok (P := P) (off := off) (v := goI (Nat.min n dl)) (foot := some (b :: f)) (v' := goInt (Nat.min n dl : Nat)) (hid b k hk) hnB hk hlc h5 (hlow b k lc (by simp [footHas]) hnB hk hlc) h2 hc.2 (by rw [h3]; exact hc.1) hb (by simp [goI, VR, goInt, plainV])
          exact ⟨_, w', ν, h7, copy_run h0 hu he (lenL_ok hn hx w) (h1 w rfl) h6⟩
        simp only at h
        split at h
        · rename_i new f b off len c hfi
          simp only [VR] at hs
          obtain ⟨lc, hlc, rfl⟩ := hs
          simp only [lenL, Option.some.injEq] at hdl
          subst hdl
          split at h
          · rename_i hnB
            split at h
            · rename_i k hk
              split at h
              · rename_i hc
                cases h
                exact main b off c lc new f k hlc hfi hnB hk hc rfl
              · cases h
            · cases h
          · cases h
        · rename_i new f b off len eb hfi
          simp only [VR] at hs
          obtain ⟨lc, c, hlc, rfl, _⟩ := hs
          simp only [lenL, Option.some.injEq] at hdl
          subst hdl
          split at h
          · rename_i hnB
            split at h
            · rename_i k hk
              split at h
              · rename_i hc
                cases h
                exact main b off c lc new f k hlc hfi hnB hk hc rfl
              · cases h
            · cases h
          · cases h
        · rename_i new f hfi
          simp only [VR] at hs
          obtain ⟨rfl, _⟩ := hs
          cases h
          obtain ⟨us, h1, h2, h3⟩ := firstL_ok (w := w) (P := P) hfi hx hH (fun i hi => hi)
          simp only [lenL, Option.some.injEq] at hdl
          subst hdl
          refine gives_val (v' := goInt (Nat.min n 0 : Nat)) ?_ (by simp [goI, VR, goInt, plainV]) hb
          have h1' := h1 w rfl
          rw [show Nat.min n 0 = 0 by simp] at h1' ⊢
          simp [Builtin.copy_, h0, run_underlying hu, run_sizeOf he, lenL_ok hn hx w, h1']
        · cases h
      · cases h
    · cases h
  · cases h
theorem freeze_heap (w : World) (a : Addr) (n : Nat) (h : n ≠ 0) (c : Array Value) (e : TypeId) (fr : Nat × Nat) (hg : w.heap[a.block]? = some (.cells c e fr)) : (w.freeze a n).heap[a.block]? = some (.cells c e (if fr.1 == fr.2 then (a.off, a.off + n) else (min fr.1 a.off, max fr.2 (a.off + n)))) ∧ (∀ k, k ≠ a.block → (w.freeze a n).heap[k]? = w.heap[k]?) ∧ (w.freeze a n).heap.size = w.heap.size := by
  obtain ⟨lo, hi⟩ := fr
  have hlt : a.block < w.heap.size := (Array.getElem?_eq_some_iff.1 hg).1
  have hv : w.heap[a.block] = .cells c e (lo, hi) := (Array.getElem?_eq_some_iff.1 hg).2
  unfold World.freeze
  rw [if_neg h]
  refine ⟨?_, fun k hk => ?_, by simp⟩
  · rw [Array.getElem?_eq_getElem (by simpa using hlt), Array.getElem_modify]
    simp [hv]
  · simp [Array.getElem?_modify, Ne.symm hk]
theorem op_mark {src dst e e0 b off len c : Nat} {lc : Loc} {k : Blk} {foot : Option (List Nat)} (hs : P.underlying src = some (.slice e0)) (hd : P.underlying dst = some (.slice e)) (he : P.underlying e = some (.int .u8)) (hsd : (src == dst) = true) (hνb : ν b = some lc) (hk : H.get b = some k) (hnB : nB ≤ b)
    (hH : HRF ν H foot w) (hlow : LowF nB B ν H foot) (hf : footHas foot b) (hid : b < nx) (hb : Below B w0 w) :
    Gives P nB B w0 ν H nx ⟨.slice b off len c, [(b, some ⟨k.elem, k.exact, true, k.cells⟩)], nx, foot⟩ w (convert src dst (.slice (some ⟨lc.addr, off, none⟩) len c)) := by
  obtain ⟨lc', h1, h2⟩ := hH b k hf hk
  rw [hνb] at h1; cases h1
  obtain ⟨cc, fr, g1, g2, g3, g4, g5, g6, _⟩ := h2
  have hsh : w.shape? lc.addr = some (k.elem, cc.size) := by simp [World.shape?, g1]
  obtain ⟨f1, f2, f3⟩ := freeze_heap w ⟨lc.addr, cc.size, none⟩ 1 (by simp) cc k.elem fr g1
  have hrun : (convert src dst (.slice (some ⟨lc.addr, off, none⟩) len c)).run P w = .ok (.slice (some ⟨lc.addr, off, none⟩) len c) (w.freeze ⟨lc.addr, cc.size, none⟩ 1) := by
    simp [convert, run_underlying hs, run_underlying hd, run_underlying he, hsd, markStringish, hsh]
  refine ⟨_, _, ν, post_set hid hnB hk hνb f1 (fun a ha => f2 a ha) f3 g2 ?_ (fun h => absurd h (by simp)) g3 g4 g5 ?_ ?_, hrun⟩
  · split
    · exact .inr (Nat.le_refl _)
    · rename_i hne
      simp only [beq_iff_eq] at hne
      rcases g6 with g6 | g6
      · exact (hne g6).elim
      · exact .inr (by simp; omega)
  · refine hb.trans ⟨?_, ?_, ?_, by omega, fun a ha => f2 a (by have := hlow b k lc hf hnB hk hνb; show a ≠ lc.addr; omega)⟩
    all_goals (unfold World.freeze; rfl)
  · simp only [VR]; exact ⟨lc, hνb, rfl⟩
theorem op_toBytesC {dst e : TypeId} {src : TypeId} {d0 : TypeDesc} {s : ByteArray} {cs : List LV} (hcs0 : VRs ν cs (s.data.toList.map fun b => .int .u8 b.toNat)) (hsz : ¬ 2 ^ 40 < s.size) (hd : P.underlying dst = some (.slice e)) (he : P.underlying e = some (.int .u8)) (hs : P.underlying src = some d0) (hν : ν nx = none) (h : new1 nx e false true cs (.buf nx 0 s.size 1) [] = some out) (hb : Below B w0 w) (hB : B ≤ w0.heap.size) :
    Gives P nB B w0 ν H nx out w (convert src dst (.string s)) := by
  obtain ⟨h1, rfl⟩ := new1_inv h
  have hrun := Lib.run_convert_string_bytes w src dst e s hs hd he
  have hheap : (Lib.bytesWorld w e s).heap = w.heap.push (.cells (Lib.bytesCells w e s) e ((Lib.bytesCells w e s).size, (Lib.bytesCells w e s).size + 1)) := by
    apply Array.ext
    · rw [Lib.bytesWorld_size]; simp
    · intro i hi1 hi2
      have : (Lib.bytesWorld w e s).heap[i]? = (w.heap.push (.cells (Lib.bytesCells w e s) e ((Lib.bytesCells w e s).size, (Lib.bytesCells w e s).size + 1)))[i]? := by
        rw [Lib.bytesWorld_size] at hi1
        by_cases h : i < w.heap.size
        · rw [Lib.bytesWorld_at_old w e s i h, Array.getElem?_push, if_neg (by omega)]
        · have : i = w.heap.size := by omega
          subst this
          rw [Lib.bytesWorld_at_new]; simp
      rw [Array.getElem?_eq_getElem hi1, Array.getElem?_eq_getElem hi2] at this
      exact Option.some.inj this
  have hcap : s.size ≤ grownCap w s.size 0 e := by unfold grownCap; simp [Question.cut]
  have hcs : (Lib.bytesCells w e s).toList = s.data.toList.map (fun b => Value.int .u8 b.toNat) ++ List.replicate (grownCap w s.size 0 e - s.size) (.int .u8 0) := by simp [Lib.bytesCells]
  refine ⟨_, _, _, post_new (w' := Lib.bytesWorld w e s) hν hheap (.inr (Nat.le_refl _)) (fun h => absurd h (by simp)) (fun h => by cases h) ⟨_, _, hcs, hcs0⟩ h1 ?_ ?_, hrun⟩
  · exact hb.trans ⟨by unfold Lib.bytesWorld World.freeze; split <;> rfl, by unfold Lib.bytesWorld World.freeze; split <;> rfl, by unfold Lib.bytesWorld World.freeze; split <;> rfl, by rw [Lib.bytesWorld_size]; omega, fun a ha => Lib.bytesWorld_at_old w e s a (by have := hb.size; omega)⟩
  · simp only [VR]
    refine ⟨_, _, envNew_self _, rfl, hcap, ?_, by unfold grownCap; simp only [Question.cut]; have := Nat.mod_lt (w.tape w.drawn (.appendCap s.size 0 e)) (show 0 < 2 ^ 63 - s.size by omega); omega⟩
    have : (Lib.bytesCells w e s).size = s.size + (grownCap w s.size 0 e - s.size) := by simp [Lib.bytesCells]
    simp only
    omega
theorem op_toBytes {dst e : TypeId} {src : TypeId} {d0 : TypeDesc} {s : ByteArray} (hsz : ¬ 2 ^ 40 < s.size) (hd : P.underlying dst = some (.slice e)) (he : P.underlying e = some (.int .u8)) (hs : P.underlying src = some d0) (hν : ν nx = none) (h : new1 nx e false true (s.data.toList.map fun b => .v (.int .u8 b.toNat)) (.buf nx 0 s.size 1) [] = some out) (hb : Below B w0 w) (hB : B ≤ w0.heap.size) :
    Gives P nB B w0 ν H nx out w (convert src dst (.string s)) := op_toBytesC (bytes_vrs _) hsz hd he hs hν h hb hB
end
end Go.Proofs.YtjpfhhndjpdmoaaGreatDoor
