/- The walks of chapter 05's Letter: key, plain, beside. -/
import Derived.Test.YtjopgogaipkdbaaClone
import Derived.Test.YtjopgogaipkdbaaGSeal
import Derived.Test.YtjopgogaipkdbaaDoor
namespace Go.Proofs.Ytjopgogaipkdbaa
open Go.RowKit

/-- A letter's cells. -/
def letC (key : List UInt8) (short : Bool) (nonce : List UInt8) (vp vb : Value) : Array Value := (key.map B ++ ([Value.bool short] ++ (nonce.map B ++ [vp, vb]))).toArray
section
variable {key nonce : List UInt8} {short : Bool} {vp vb : Value} (hk : key.length = 32) (hn : nonce.length = 12)
include hk in
theorem letC_short : (letC key short nonce vp vb)[32]? = some (.bool short) := by simp [letC, hk]
include hk hn in
theorem letC_plain : (letC key short nonce vp vb)[45]? = some vp := by simp [letC, hk, hn]
include hk hn in
theorem letC_beside : (letC key short nonce vp vb)[46]? = some vb := by simp [letC, hk, hn]
include hk hn in
theorem letC_size : (letC key short nonce vp vb).size = 47 := by simp [letC, hk, hn]
end
set_option maxRecDepth 100000 in
set_option maxHeartbeats 2000000 in
theorem lplain_any (key nonce : List UInt8) (short : Bool) (vp vb : Value) (l : List UInt8) (w : World) (hk : key.length = 32) (hn : nonce.length = 12) (hp : SlB w vp l) :
    Calls Try.prog 26 #[.agg (letC key short nonce vp vb)] w fun e w' => ∃ v', e = .returned v' ∧ Buf 5 w' w.heap.size v' (l.take 100) ∧ Below w.heap.size w w' := by
  obtain ⟨a, cap, hvv⟩ : ∃ a c, vp = .slice a l.length c := let ⟨a, c, h, _⟩ := hp; ⟨a, c, h⟩
  subst hvv
  have hc := letC_plain (short := short) (vp := .slice a l.length cap) (vb := vb) hk hn
  obtain ⟨C, hC⟩ : ∃ C, C = letC key short nonce (.slice a l.length cap) vb := ⟨_, rfl⟩
  rw [← hC] at hc ⊢
  clear hC
  have hB : Below w.heap.size w ((w.alloc (.cells C 50)).alloc (.cells #[] 5)) := ((Below.refl _ w).alloc (Nat.le_refl _) _).alloc (by simp) _
  have HB := Lib.hid hB
  clear hB
  rcases Nat.lt_or_ge 100 l.length with h | h
  · have hl1 : ¬ ((l.length : Int) ≤ 100) := by omega
    have hl2 : (100 : Int) < (l.length : Int) := by omega
    have hcp : l.length ≤ cap := by obtain ⟨a', c', h, h1, _⟩ := hp; simp only [Value.slice.injEq] at h; omega
    have hl3 : (100 : Int) ≤ (cap : Int) := by omega
    have hle : ([] : List UInt8).length + (l.take 100).length ≤ 140737488355328 := by simp; omega
    have HLE := Lib.hid hle
    have HS := Lib.hid (hp.take 100 (by omega))
    clear hp h hle hcp
    go_enter Try.func26, Try.ntmps26
    go_wp2_with (at_builtin; refine wpl_appendS rfl (.tmp 3) (.tmp 10) 24 rfl Try.underlying24 info_u8 w.heap.size _ [] rfl (Buf.empty _ _ _ (by simp) (by simp)) _ (l.take 100) rfl (HS.out.below HB.out) HLE.out (by simp; omega) ?_)
    intro v' w' hb' hg'
    have hBw : Below w.heap.size w w' := HB.out.grown hg' (by simp; omega) (fun k e => by simp [Value.ownBlock] at e; omega)
    have Hb := Lib.hid (show Buf 5 w' w.heap.size v' (l.take 100) from hb')
    clear hb' hg'
    go_wp2_with fail
    go_ret
    exact ⟨_, rfl, (by exact Hb.out), hBw⟩
  · have hl1 : (l.length : Int) ≤ 100 := by omega
    have hl2 : ¬ (100 : Int) < (l.length : Int) := by omega
    have hcp : l.length ≤ cap := by obtain ⟨a', c', h, h1, _⟩ := hp; simp only [Value.slice.injEq] at h; omega
    have hl3 : (l.length : Int) ≤ (cap : Int) := by omega
    have hle : ([] : List UInt8).length + l.length ≤ 140737488355328 := by simp; omega
    have HLE := Lib.hid hle
    have HS := Lib.hid hp
    have hfin : l.take 100 = l := List.take_of_length_le h
    have HF := Lib.hid hfin
    clear hp h hle hcp hfin
    go_enter Try.func26, Try.ntmps26
    go_wp2_with (at_builtin; refine wpl_appendS rfl (.tmp 3) (.tmp 10) 24 rfl Try.underlying24 info_u8 w.heap.size _ [] rfl (Buf.empty _ _ _ (by simp) (by simp)) _ l rfl (HS.out.below HB.out) HLE.out (by simp; omega) ?_)
    intro v' w' hb' hg'
    have hBw : Below w.heap.size w w' := HB.out.grown hg' (by simp; omega) (fun k e => by simp [Value.ownBlock] at e; omega)
    have Hb := Lib.hid (show Buf 5 w' w.heap.size v' l from hb')
    clear hb' hg'
    go_wp2_with fail
    go_ret
    exact ⟨_, rfl, (by rw [HF.out]; exact Hb.out), hBw⟩
set_option maxRecDepth 100000 in
set_option maxHeartbeats 2000000 in
theorem lbeside_any (key nonce : List UInt8) (short : Bool) (vp vb : Value) (l : List UInt8) (w : World) (hk : key.length = 32) (hn : nonce.length = 12) (hp : SlB w vb l) :
    Calls Try.prog 28 #[.agg (letC key short nonce vp vb)] w fun e w' => ∃ v', e = .returned v' ∧ Buf 5 w' w.heap.size v' (l.take 60) ∧ Below w.heap.size w w' := by
  obtain ⟨a, cap, hvv⟩ : ∃ a c, vb = .slice a l.length c := let ⟨a, c, h, _⟩ := hp; ⟨a, c, h⟩
  subst hvv
  have hc := letC_beside (short := short) (vp := vp) (vb := .slice a l.length cap) hk hn
  obtain ⟨C, hC⟩ : ∃ C, C = letC key short nonce vp (.slice a l.length cap) := ⟨_, rfl⟩
  rw [← hC] at hc ⊢
  clear hC
  have hB : Below w.heap.size w ((w.alloc (.cells C 50)).alloc (.cells #[] 5)) := ((Below.refl _ w).alloc (Nat.le_refl _) _).alloc (by simp) _
  have HB := Lib.hid hB
  clear hB
  rcases Nat.lt_or_ge 60 l.length with h | h
  · have hl1 : ¬ ((l.length : Int) ≤ 60) := by omega
    have hl2 : (60 : Int) < (l.length : Int) := by omega
    have hcp : l.length ≤ cap := by obtain ⟨a', c', h, h1, _⟩ := hp; simp only [Value.slice.injEq] at h; omega
    have hl3 : (60 : Int) ≤ (cap : Int) := by omega
    have hle : ([] : List UInt8).length + (l.take 60).length ≤ 140737488355328 := by simp; omega
    have HLE := Lib.hid hle
    have HS := Lib.hid (hp.take 60 (by omega))
    clear hp h hle hcp
    go_enter Try.func28, Try.ntmps28
    go_wp2_with (at_builtin; refine wpl_appendS rfl (.tmp 3) (.tmp 10) 24 rfl Try.underlying24 info_u8 w.heap.size _ [] rfl (Buf.empty _ _ _ (by simp) (by simp)) _ (l.take 60) rfl (HS.out.below HB.out) HLE.out (by simp; omega) ?_)
    intro v' w' hb' hg'
    have hBw : Below w.heap.size w w' := HB.out.grown hg' (by simp; omega) (fun k e => by simp [Value.ownBlock] at e; omega)
    have Hb := Lib.hid (show Buf 5 w' w.heap.size v' (l.take 60) from hb')
    clear hb' hg'
    go_wp2_with fail
    go_ret
    exact ⟨_, rfl, (by exact Hb.out), hBw⟩
  · have hl1 : (l.length : Int) ≤ 60 := by omega
    have hl2 : ¬ (60 : Int) < (l.length : Int) := by omega
    have hcp : l.length ≤ cap := by obtain ⟨a', c', h, h1, _⟩ := hp; simp only [Value.slice.injEq] at h; omega
    have hl3 : (l.length : Int) ≤ (cap : Int) := by omega
    have hle : ([] : List UInt8).length + l.length ≤ 140737488355328 := by simp; omega
    have HLE := Lib.hid hle
    have HS := Lib.hid hp
    have hfin : l.take 60 = l := List.take_of_length_le h
    have HF := Lib.hid hfin
    clear hp h hle hcp hfin
    go_enter Try.func28, Try.ntmps28
    go_wp2_with (at_builtin; refine wpl_appendS rfl (.tmp 3) (.tmp 10) 24 rfl Try.underlying24 info_u8 w.heap.size _ [] rfl (Buf.empty _ _ _ (by simp) (by simp)) _ l rfl (HS.out.below HB.out) HLE.out (by simp; omega) ?_)
    intro v' w' hb' hg'
    have hBw : Below w.heap.size w w' := HB.out.grown hg' (by simp; omega) (fun k e => by simp [Value.ownBlock] at e; omega)
    have Hb := Lib.hid (show Buf 5 w' w.heap.size v' l from hb')
    clear hb' hg'
    go_wp2_with fail
    go_ret
    exact ⟨_, rfl, (by rw [HF.out]; exact Hb.out), hBw⟩
/-- The key's bytes. -/
def keyOf (key : List UInt8) (short : Bool) : List UInt8 := if short then key.take 16 else key
set_option maxRecDepth 100000 in
set_option maxHeartbeats 2000000 in
theorem lkey_any (key nonce : List UInt8) (short : Bool) (vp vb : Value) (w : World) (hk : key.length = 32) :
    Calls Try.prog 25 #[.agg (letC key short nonce vp vb)] w fun e w' => ∃ v', e = .returned v' ∧ Buf 5 w' w.heap.size v' (keyOf key short) ∧ Below w.heap.size w w' := by
  have hc := letC_short (nonce := nonce) (short := short) (vp := vp) (vb := vb) hk
  have hcell : ∀ i, i < 32 → (letC key short nonce vp vb)[i]? = some (B (gb key i)) := fun i hi => by simp [letC, List.getElem?_append, hk, hi, gb]
  obtain ⟨C, hC⟩ : ∃ C, C = letC key short nonce vp vb := ⟨_, rfl⟩
  rw [← hC] at hc hcell ⊢
  have hS : ∀ m, m ≤ 32 → SlB ((w.alloc (.cells C 50)).alloc (.cells #[] 5)) (.slice (some ⟨w.heap.size, 0, none⟩) m 32) (key.take m) := fun m hm => by
    have hlen : (key.take m).length = m := by simp; omega
    refine ⟨some ⟨w.heap.size, 0, none⟩, 32, by rw [hlen], by omega, by decide, (fun h => by cases h), fun ad had => ?_⟩
    obtain rfl := Option.some.inj had
    refine ⟨rfl, fun i hi => ?_⟩
    rw [Nat.zero_add, ((Row.new w _ C).alloc _).cell, hcell i (by omega)]
    simp [gb, show i < m by omega]
  have hB : Below w.heap.size w ((w.alloc (.cells C 50)).alloc (.cells #[] 5)) := ((Below.refl _ w).alloc (Nat.le_refl _) _).alloc (by simp) _
  have HB := Lib.hid hB
  have HS := Lib.hid hS
  have HKL := Lib.hid hk
  clear hB hS hC hcell hk
  cases short with
  | true =>
    go_enter Try.func25, Try.ntmps25
    go_wp2_with (at_builtin; refine wpl_appendS rfl (.tmp 5) (.tmp 7) 24 rfl Try.underlying24 info_u8 w.heap.size _ [] rfl (Buf.empty _ _ _ (by simp) (by simp)) _ (key.take 16) rfl (HS.out 16 (by decide)) (by simp [HKL.out]) (by simp; omega) ?_)
    intro v' w' hb' hg'
    have hBw : Below w.heap.size w w' := HB.out.grown hg' (by simp; omega) (fun k e => by simp [Value.ownBlock] at e; omega)
    have Hb := Lib.hid (show Buf 5 w' w.heap.size v' (key.take 16) from hb')
    clear hb' hg'
    go_wp2_with fail
    go_ret
    exact ⟨_, rfl, Hb.out, hBw⟩
  | false =>
    have hs32 := HS.out 32 (by decide)
    rw [List.take_of_length_le (by rw [HKL.out]; decide)] at hs32
    have HS32 := Lib.hid hs32
    clear hs32
    go_enter Try.func25, Try.ntmps25
    go_wp2_with (at_builtin; refine wpl_appendS rfl (.tmp 9) (.tmp 11) 24 rfl Try.underlying24 info_u8 w.heap.size _ [] rfl (Buf.empty _ _ _ (by simp) (by simp)) _ key rfl HS32.out (by simp [HKL.out]) (by simp; omega) ?_)
    intro v' w' hb' hg'
    have hBw : Below w.heap.size w w' := HB.out.grown hg' (by simp; omega) (fun k e => by simp [Value.ownBlock] at e; omega)
    have Hb := Lib.hid (show Buf 5 w' w.heap.size v' key from hb')
    clear hb' hg'
    go_wp2_with fail
    go_ret
    exact ⟨_, rfl, Hb.out, hBw⟩
end Go.Proofs.Ytjopgogaipkdbaa

/- A letter that came in. -/
namespace Go.Proofs.Ytjopgogaipkdbaa
open Go.RowKit
section
variable {H : Type} {enc : TypeId × Value → H} {w : World} {held : Bool}
theorem open_letter {r : Reach} {b0 : Nat} {v : Value} {d : DataW H} {ps : List MemPlace} (hval : Value.okWide Try.prog w r b0 50 v) (hd : DataW.Trod enc Try.prog w 0 (fun _ => true) held 50 v d ps) :
    ∃ key short nonce vp vb l bs, key.length = 32 ∧ nonce.length = 12 ∧ v = .agg (letC key short nonce vp vb) ∧ SlB w vp l ∧ SlB w vb bs := by
  unfold Value.okWide at hval
  rw [Try.underlying50] at hval
  obtain ⟨cs, rfl, hsz, hrow⟩ := hval
  obtain ⟨fuel, hf⟩ := hd
  obtain ⟨xs, n, _, hx, hl, hlen, hfs⟩ := DataW.trod_struct Try.underlying50 hf
  have e32 : Try.prog.cellsOf 22 = 32 := by kernel_rfl
  have e12 : Try.prog.cellsOf 48 = 12 := by kernel_rfl
  have e1 : Try.prog.cellsOf 4 = 1 := by kernel_rfl
  have es : Try.prog.cellsOf 24 = 1 := by kernel_rfl
  have e47 : Try.prog.cellsOf 50 = 47 := by kernel_rfl
  have f0 := hfs 0 _ rfl
  have f1 := hfs 1 _ rfl
  have f2 := hfs 2 _ rfl
  have f3 := hfs 3 _ rfl
  have f4 := hfs 4 _ rfl
  simp only [List.getElem_toArray, List.getElem_cons_zero, List.getElem_cons_succ, e32, e12, e1, es, List.drop_zero, Value.cells] at f0 f1 f2 f3 f4
  have hl5 : xs.length = 5 := hlen
  obtain ⟨y0, g0⟩ : ∃ y, xs[0]? = some y := ⟨_, List.getElem?_eq_getElem (by omega)⟩
  obtain ⟨y1, g1⟩ : ∃ y, xs[1]? = some y := ⟨_, List.getElem?_eq_getElem (by omega)⟩
  obtain ⟨y2, g2⟩ : ∃ y, xs[2]? = some y := ⟨_, List.getElem?_eq_getElem (by omega)⟩
  obtain ⟨y3, g3⟩ : ∃ y, xs[3]? = some y := ⟨_, List.getElem?_eq_getElem (by omega)⟩
  obtain ⟨y4, g4⟩ : ∃ y, xs[4]? = some y := ⟨_, List.getElem?_eq_getElem (by omega)⟩
  rw [g0] at f0
  rw [g1] at f1
  rw [g2] at f2
  rw [g3] at f3
  rw [g4] at f4
  obtain ⟨key, hk, hkc, _⟩ := trod_arr Try.underlying22 Try.underlying5 (by kernel_rfl) e32 f0
  obtain ⟨short, hsc, _⟩ := DataW.trod_bool Try.underlying4 f1
  obtain ⟨nonce, hn, hnc, _⟩ := trod_arr Try.underlying48 Try.underlying5 (by kernel_rfl) e12 f2
  obtain ⟨L, hL⟩ : ∃ L, L = cs.toList := ⟨_, rfl⟩
  have hLl : L.length = 47 := by rw [hL, Array.length_toList, hsz, e47]
  rw [← hL] at hkc hsc hnc f3 f4
  obtain ⟨vp, hvp⟩ : ∃ v, L[45]? = some v := ⟨_, List.getElem?_eq_getElem (by omega)⟩
  obtain ⟨vb, hvb⟩ : ∃ v, L[46]? = some v := ⟨_, List.getElem?_eq_getElem (by omega)⟩
  have d45 : (L.drop 45) = [vp, vb] := by
    apply List.ext_getElem?
    intro i
    rw [List.getElem?_drop]
    match i with
    | 0 => exact hvp
    | 1 => exact hvb
    | i + 2 => rw [List.getElem?_eq_none (by omega)]; rfl
  have d46 : (L.drop 46) = [vb] := by
    have := congrArg (List.drop 1) d45
    rw [List.drop_drop] at this
    exact this
  rw [d45, List.take_succ_cons, List.take_zero] at f3
  rw [d46, List.take_succ_cons, List.take_zero] at f4
  obtain ⟨ts, hts, _, hcl⟩ := hrow
  have ets : Try.prog.cellTypes Try.prog.depth 50 = some (List.replicate 32 5 ++ ([4] ++ (List.replicate 12 5 ++ [24, 24]))) := by kernel_rfl
  rw [ets] at hts
  obtain rfl := Option.some.inj hts
  have c45 : cs[45]? = some vp := by rw [← Array.getElem?_toList, ← hL]; exact hvp
  have c46 : cs[46]? = some vb := by rw [← Array.getElem?_toList, ← hL]; exact hvb
  have s45 : ∀ a n c, vp = .slice (some a) n c → a.spot = none := by
    rintro a n c rfl
    obtain ⟨u, hu, hok⟩ := hcl 45 _ c45
    have hu2 : some 24 = some u := hu
    obtain rfl := Option.some.inj hu2
    simp only [Cell.okWide, Try.underlying24, Cell.ok] at hok
    exact hok.2.2.2.1
  have s46 : ∀ a n c, vb = .slice (some a) n c → a.spot = none := by
    rintro a n c rfl
    obtain ⟨u, hu, hok⟩ := hcl 46 _ c46
    have hu2 : some 24 = some u := hu
    obtain rfl := Option.some.inj hu2
    simp only [Cell.okWide, Try.underlying24, Cell.ok] at hok
    exact hok.2.2.2.1
  obtain ⟨l, hl3⟩ := byt_cell Try.underlying24 Try.underlying5 (by kernel_rfl) s45 f3
  obtain ⟨bs, hl4⟩ := byt_cell Try.underlying24 Try.underlying5 (by kernel_rfl) s46 f4
  refine ⟨key, short, nonce, vp, vb, l, bs, hk, hn, ?_, hl3, hl4⟩
  have hLe : L = key.map B ++ ([Value.bool short] ++ (nonce.map B ++ [vp, vb])) := by
    rw [← hkc, ← hsc, ← hnc, ← d45]
    have a1 := (List.take_append_drop 12 (L.drop 33))
    rw [List.drop_drop] at a1
    have a2 := (List.take_append_drop 1 (L.drop 32))
    rw [List.drop_drop] at a2
    rw [show 33 + 12 = 45 from rfl] at a1
    rw [show 32 + 1 = 33 from rfl] at a2
    rw [a1, a2, List.take_append_drop]
  rw [letC, ← hLe, hL]
end
end Go.Proofs.Ytjopgogaipkdbaa
