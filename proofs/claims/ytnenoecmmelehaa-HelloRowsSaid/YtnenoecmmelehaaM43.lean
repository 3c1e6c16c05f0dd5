/- Part of the proof: HDoorS. No conditions of its own. -/
import Derived.Below
import Derived.BigQuiet
import Derived.ChangeOld
import Derived.Deep.AppendLies
import Derived.Deep.CutBlock
import Derived.Deep.DeepCutAuto
import Derived.Deep.Draws
import Derived.Deep.LoopGhost
import Derived.Deep.MidRow
import Derived.Deep.Quiet
import Derived.Deep.QuietTactic
import Derived.Deep.RegionLaw
import Derived.Great.BuildSlice
import Derived.Great.FillDense
import Derived.Laws.AppendOwn
import Derived.Laws.AppendOwnNone
import Derived.Laws.BytesArg
import Derived.Laws.Concat
import Derived.Laws.MakeOwn
import Derived.Lib.AppendZerosOnto
import Derived.Lib.BufferWrite
import Derived.Lib.ConvBytes
import Derived.Lib.Hide
import Derived.Lib.SlBytesConst
import Derived.OpenShut
import Derived.ProofKit
import Derived.ShutString
import Derived.StillTail
import Derived.Stop.BytesEq
import Derived.Test.YtnenoecmmelehaaProg
import Derived.WalkKit
import Derived.WalkLawsBesides
import Derived.WalkSpells
import Derived.Test.YtnenoecmmelehaaM36
import Derived.Test.YtnenoecmmelehaaM41
namespace Go.Proofs.Ytnenoecmmelehaa
open Go.RowKit
set_option linter.unusedVariables false

theorem cells?_all {w : World} {base : Nat} {a : Addr} {n : Nat} {cs : List Value} (h : w.cells? base a n = some cs) : cs.length = n ∧ ∀ j u, cs[j]? = some u → w.cell? (a.add j) = some u := by
  obtain ⟨_, h2, h3⟩ := World.cells?_some h
  refine ⟨h2, fun j u hj => ?_⟩
  have hl := (List.getElem?_eq_some_iff.1 hj).1
  rw [← hj]
  exact h3 j (by omega)
section
variable {H : Type} {enc : TypeId × Value → H} {w : World} {held : Bool}
theorem rmsg_cells {L : List Value} (hLl : L.length = 75) {fuel : Nat} {y : DataW H × List MemPlace} (hf : DataW.trod enc Try.prog w 0 (fun _ => true) held fuel 25 L = some y) : ∃ m, RMsgAt w L.toArray m := by
  obtain ⟨xs, n, _, hx, hl, hlen, hfs⟩ := DataW.trod_struct Try.underlying25 hf
  have e32 : Try.prog.cellsOf 22 = 32 := by kernel_rfl
  have e1 : Try.prog.cellsOf 4 = 1 := by kernel_rfl
  have ei : Try.prog.cellsOf 3 = 1 := by kernel_rfl
  have es : Try.prog.cellsOf 9 = 1 := by kernel_rfl
  have el : Try.prog.cellsOf 23 = 1 := by kernel_rfl
  have e75 : Try.prog.cellsOf 25 = 75 := by kernel_rfl
  have hl13 : xs.length = 13 := hlen
  have gx : ∀ i, i < 13 → ∃ y, xs[i]? = some y := fun i hi => ⟨_, List.getElem?_eq_getElem (by omega)⟩
  have f0 := hfs 0 _ rfl
  have f1 := hfs 1 _ rfl
  have f2 := hfs 2 _ rfl
  have f3 := hfs 3 _ rfl
  have f4 := hfs 4 _ rfl
  have f5 := hfs 5 _ rfl
  have f6 := hfs 6 _ rfl
  have f7 := hfs 7 _ rfl
  have f8 := hfs 8 _ rfl
  have f9 := hfs 9 _ rfl
  have f10 := hfs 10 _ rfl
  have f11 := hfs 11 _ rfl
  have f12 := hfs 12 _ rfl
  simp only [List.getElem_toArray, List.getElem_cons_zero, List.getElem_cons_succ, e32, e1, ei, es, el, List.drop_zero] at f0 f1 f2 f3 f4 f5 f6 f7 f8 f9 f10 f11 f12
  obtain ⟨y0, g0⟩ := gx 0 (by omega)
  obtain ⟨y1, g1⟩ := gx 1 (by omega)
  obtain ⟨y2, g2⟩ := gx 2 (by omega)
  obtain ⟨y3, g3⟩ := gx 3 (by omega)
  obtain ⟨y4, g4⟩ := gx 4 (by omega)
  obtain ⟨y5, g5⟩ := gx 5 (by omega)
  obtain ⟨y6, g6⟩ := gx 6 (by omega)
  obtain ⟨y7, g7⟩ := gx 7 (by omega)
  obtain ⟨y8, g8⟩ := gx 8 (by omega)
  obtain ⟨y9, g9⟩ := gx 9 (by omega)
  obtain ⟨y10, g10⟩ := gx 10 (by omega)
  obtain ⟨y11, g11⟩ := gx 11 (by omega)
  obtain ⟨y12, g12⟩ := gx 12 (by omega)
  rw [g0] at f0
  rw [g1] at f1
  rw [g2] at f2
  rw [g3] at f3
  rw [g4] at f4
  rw [g5] at f5
  rw [g6] at f6
  rw [g7] at f7
  rw [g8] at f8
  rw [g9] at f9
  rw [g10] at f10
  rw [g11] at f11
  rw [g12] at f12
  obtain ⟨k, c0, _⟩ := DataW.trod_int Try.underlying3 f0
  obtain ⟨rd, hr, c1, _⟩ := trod_arr Try.underlying22 Try.underlying5 (by kernel_rfl) e32 f1
  obtain ⟨mk, hm, c2, _⟩ := trod_arr Try.underlying22 Try.underlying5 (by kernel_rfl) e32 f2
  obtain ⟨s3, c3, _⟩ := DataW.trod_string Try.underlying9 f3
  obtain ⟨s4, c4, _⟩ := DataW.trod_string Try.underlying9 f4
  obtain ⟨s5, c5, _⟩ := DataW.trod_string Try.underlying9 f5
  obtain ⟨s6, c6, _⟩ := DataW.trod_string Try.underlying9 f6
  obtain ⟨s7, c7, _⟩ := DataW.trod_string Try.underlying9 f7
  obtain ⟨life, c9, _⟩ := DataW.trod_int Try.underlying3 f9
  obtain ⟨age, c10, _⟩ := DataW.trod_int Try.underlying3 f10
  obtain ⟨psk, c11, _⟩ := DataW.trod_bool Try.underlying4 f11
  obtain ⟨retry, c12, _⟩ := DataW.trod_bool Try.underlying4 f12
  obtain ⟨vc, hvc⟩ : ∃ v, L[70]? = some v := ⟨_, List.getElem?_eq_getElem (by omega)⟩
  have c8 : List.take 1 (L.drop 70) = [vc] := by
    apply List.ext_getElem?
    intro i
    match i with
    | 0 => rw [List.getElem?_take, if_pos (by decide), List.getElem?_drop]; exact hvc
    | i + 1 => rw [List.getElem?_take, if_neg (by omega)]; rfl
  rw [c8] at f8
  obtain ⟨parts, hp⟩ := strs_cell f8
  obtain ⟨ac, cc, rfl, _⟩ := id hp
  have step : ∀ n k, L.drop n = (L.drop n).take k ++ L.drop (n + k) := fun n k => by
    have := List.take_append_drop k (L.drop n)
    rw [List.drop_drop] at this
    exact this.symm
  have hend : L.drop 75 = [] := List.drop_eq_nil_of_le (by omega)
  have hLe : L = [Value.int .i64 k] ++ (rd.map B ++ (mk.map B ++ [S s3.data.toList, S s4.data.toList, S s5.data.toList, S s6.data.toList, S s7.data.toList, .slice ac parts.length cc, .int .i64 life, .int .i64 age, .bool psk, .bool retry])) := by
    have a0 := step 0 1
    have a1 := step 1 32
    have a2 := step 33 32
    have a3 := step 65 1
    have a4 := step 66 1
    have a5 := step 67 1
    have a6 := step 68 1
    have a7 := step 69 1
    have a8 := step 70 1
    have a9 := step 71 1
    have a10 := step 72 1
    have a11 := step 73 1
    have a12 := step 74 1
    rw [List.drop_zero, c0] at a0
    rw [c1] at a1
    rw [c2] at a2
    rw [c3, S_of] at a3
    rw [c4, S_of] at a4
    rw [c5, S_of] at a5
    rw [c6, S_of] at a6
    rw [c7, S_of] at a7
    rw [c8] at a8
    rw [c9] at a9
    rw [c10] at a10
    rw [c11] at a11
    rw [c12, hend] at a12
    rw [a0, a1, a2, a3, a4, a5, a6, a7, a8, a9, a10, a11, a12]
    rfl
  refine ⟨⟨k, rd, mk, s3.data.toList, s4.data.toList, s5.data.toList, s6.data.toList, s7.data.toList, parts, life, age, psk, retry⟩, ac, cc, ?_, hp, hr, hm⟩
  rw [← mD_of hr hm]
  unfold mC
  rw [← hLe]
theorem open_msgs {r : Reach} {b0 : Nat} {v : Value} {d : DataW H} {ps : List MemPlace} (hval : Value.okWide Try.prog w r b0 48 v) (hd : DataW.Trod enc Try.prog w 0 (fun _ => true) held 48 v d ps) : ∃ ms, MsgsIn w v ms := by
  have ht := Try.underlying48
  obtain ⟨a, len, cap, rfl⟩ := Go.WideShapes.okWide_slice ht hval
  obtain ⟨fuel, hf⟩ := hd
  have e75 : Try.prog.cellsOf 25 = 75 := by kernel_rfl
  rcases DataW.trod_slice ht hf with ⟨hcs, _⟩ | ⟨x, l, c, elems, rest, n, _, hcs, _, _, hl, hm, hlen, hel, _, _⟩
  · simp [Value.cells] at hcs
    obtain ⟨rfl, rfl, rfl⟩ := hcs
    exact ⟨[], none, 0, rfl, Nat.le_refl _, Nat.zero_le _, fun i m hi => by cases hi⟩
  · simp [Value.cells] at hcs
    obtain ⟨rfl, rfl, rfl⟩ := hcs
    have hs : x.spot = none := by
      simp only [Value.okWide, ht, Cell.okWide, Cell.ok] at hval
      exact hval.2.2.2.1
    obtain ⟨b, o, sp⟩ := x
    simp only at hs
    subst hs
    have each : ∀ i, ∃ m, i < len → ∃ C, w.rangeAt b (o + i * 75) C.toList ∧ RMsgAt w C m := fun i => by
      by_cases hi : i < len
      · have h1 := hel i hi
        rw [List.getElem?_eq_getElem (by omega), e75, Option.bind_eq_some_iff] at h1
        obtain ⟨cs', hcs, hy⟩ := h1
        obtain ⟨h2, h3⟩ := cells?_all hcs
        obtain ⟨m, hm⟩ := rmsg_cells h2 hy
        refine ⟨m, fun _ => ⟨cs'.toArray, fun j u hj => ?_, hm⟩⟩
        have := h3 j u (by simpa using hj)
        rw [Addr.add_lit, Addr.add_lit] at this
        exact this
      · exact ⟨emptyM 0, fun h => absurd h hi⟩
    obtain ⟨f, hf⟩ := Classical.axiomOfChoice each
    have hpl : ((List.range len).map f).length = len := by simp
    refine ⟨(List.range len).map f, some ⟨b, o, none⟩, cap, by rw [hpl], by omega, hm, fun i m hi => ?_⟩
    have hil : i < len := by have := (List.getElem?_eq_some_iff.1 hi).1; omega
    obtain ⟨C, h1, h2⟩ := hf i hil
    have : f i = m := by simpa [hil] using hi
    exact ⟨b, o, C, rfl, h1, this ▸ h2⟩
end
end Go.Proofs.Ytnenoecmmelehaa
