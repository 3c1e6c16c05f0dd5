/- Part of the proof: HBare, HSmall, HAny, HBuild. No conditions of its own. -/
import Derived.Below
import Derived.BigQuiet
import Derived.Deep.CutBlock
import Derived.Deep.DeepCutAuto
import Derived.Deep.Draws
import Derived.Deep.LoopGhost
import Derived.Deep.Quiet
import Derived.Deep.QuietTactic
import Derived.Deep.RegionLaw
import Derived.Laws.AppendOwn
import Derived.Laws.AppendOwnNone
import Derived.Laws.BytesArg
import Derived.Laws.Concat
import Derived.Laws.MakeOwn
import Derived.Lib.AppendZerosOnto
import Derived.Lib.Hide
import Derived.StillTail
import Derived.Stop.BytesEq
import Derived.Test.YtnenoecmmelehaaProg
import Derived.WalkKit
import Derived.WalkLawsBesides
import Derived.WalkSpells
import Derived.Test.YtnenoecmmelehaaM05
namespace Go.Proofs.Ytnenoecmmelehaa
open Go.RowKit

set_option maxRecDepth 100000 in
set_option maxHeartbeats 4000000 in
theorem bare_any (k : Int) (r mk : List UInt8) (a1 a2 a3 a4 a5 a6 : Option Addr) (n1 n2 n3 n4 n5 n6 c1 c2 c3 c4 c5 c6 : Nat) (life age : Int) (psk retry : Bool) (w : World) (hr : r.length = 32) (hm : mk.length = 32)
    (b1 : n1 ≤ 100000000) (b2 : n2 ≤ 100000000) (b3 : n3 ≤ 100000000) (b4 : n4 ≤ 100000000) (b5 : n5 ≤ 100000000) (b6 : n6 ≤ 100000000) :
    Calls Try.prog 37 #[.agg (mC k r mk [.slice a1 n1 c1, .slice a2 n2 c2, .slice a3 n3 c3, .slice a4 n4 c4, .slice a5 n5 c5, .slice a6 n6 c6, .int .i64 life, .int .i64 age, .bool psk, .bool retry])] w fun e w' => e = .returned (.bool (decide (n1 + n2 + n3 + n4 + n5 + n6 = 0) && r == zero32 && mk == zero32 && decide (life = 0) && decide (age = 0) && !psk && !retry)) ∧ Below w.heap.size w w' := by
  have hg := fun i => mC_get (k := k) (l := [.slice a1 n1 c1, .slice a2 n2 c2, .slice a3 n3 c3, .slice a4 n4 c4, .slice a5 n5 c5, .slice a6 n6 c6, .int .i64 life, .int .i64 age, .bool psk, .bool retry]) hr hm i
  have g65 := hg 0
  have g66 := hg 1
  have g67 := hg 2
  have g68 := hg 3
  have g69 := hg 4
  have g70 := hg 5
  have g71 := hg 6
  have g72 := hg 7
  have g73 := hg 8
  have g74 := hg 9
  simp only [Nat.reduceAdd, List.getElem?_cons_zero, List.getElem?_cons_succ] at g65 g66 g67 g68 g69 g70 g71 g72 g73 g74
  have hsz := mC_size (k := k) (l := [.slice a1 n1 c1, .slice a2 n2 c2, .slice a3 n3 c3, .slice a4 n4 c4, .slice a5 n5 c5, .slice a6 n6 c6, .int .i64 life, .int .i64 age, .bool psk, .bool retry]) hr hm
  have hrr := mC_random (k := k) (mk := mk) (l := [.slice a1 n1 c1, .slice a2 n2 c2, .slice a3 n3 c3, .slice a4 n4 c4, .slice a5 n5 c5, .slice a6 n6 c6, .int .i64 life, .int .i64 age, .bool psk, .bool retry]) hr
  have hmm := mC_mark (k := k) (l := [.slice a1 n1 c1, .slice a2 n2 c2, .slice a3 n3 c3, .slice a4 n4 c4, .slice a5 n5 c5, .slice a6 n6 c6, .int .i64 life, .int .i64 age, .bool psk, .bool retry]) hr hm
  obtain ⟨C, hC⟩ : ∃ C, C = mC k r mk [.slice a1 n1 c1, .slice a2 n2 c2, .slice a3 n3 c3, .slice a4 n4 c4, .slice a5 n5 c5, .slice a6 n6 c6, .int .i64 life, .int .i64 age, .bool psk, .bool retry] := ⟨_, rfl⟩
  rw [← hC] at g65 g66 g67 g68 g69 g70 g71 g72 g73 g74 hsz hrr hmm ⊢
  have z1 : 1 + 32 ≤ C.size := by rw [hsz]; simp
  have z2 : 33 + 32 ≤ C.size := by rw [hsz]; simp
  have HE := fun w xs hx => equal32 xs zero32 hx rfl w
  rw [zero32_lit] at HE
  have he1 := HE (w.alloc (.cells C 30)) r hr
  have he2 := HE (w.alloc (.cells C 30)) mk hm
  have hB : Below w.heap.size w (w.alloc (.cells C 30)) := (Below.refl _ w).alloc (Nat.le_refl _) _
  have HB := Lib.hid hB
  have t1 : IntKind.i64.wrap ((n1 : Int) + (n2 : Int)) = (n1 : Int) + (n2 : Int) := by rw [IntKind.wrap_i64]; omega
  have t2 : IntKind.i64.wrap ((n1 : Int) + (n2 : Int) + (n3 : Int)) = (n1 : Int) + (n2 : Int) + (n3 : Int) := by rw [IntKind.wrap_i64]; omega
  have t3 : IntKind.i64.wrap ((n1 : Int) + (n2 : Int) + (n3 : Int) + (n4 : Int)) = (n1 : Int) + (n2 : Int) + (n3 : Int) + (n4 : Int) := by rw [IntKind.wrap_i64]; omega
  have t4 : IntKind.i64.wrap ((n1 : Int) + (n2 : Int) + (n3 : Int) + (n4 : Int) + (n5 : Int)) = (n1 : Int) + (n2 : Int) + (n3 : Int) + (n4 : Int) + (n5 : Int) := by rw [IntKind.wrap_i64]; omega
  have t5 : IntKind.i64.wrap ((n1 : Int) + (n2 : Int) + (n3 : Int) + (n4 : Int) + (n5 : Int) + (n6 : Int)) = (n1 : Int) + (n2 : Int) + (n3 : Int) + (n4 : Int) + (n5 : Int) + (n6 : Int) := by rw [IntKind.wrap_i64]; omega
  clear hC hg hsz HE hB hr hm
  by_cases hn : n1 + n2 + n3 + n4 + n5 + n6 = 0
  · have hd : decide (n1 + n2 + n3 + n4 + n5 + n6 = 0) = true := by simpa using hn
    rw [hd]
    obtain ⟨rfl, rfl, rfl, rfl, rfl, rfl⟩ : n1 = 0 ∧ n2 = 0 ∧ n3 = 0 ∧ n4 = 0 ∧ n5 = 0 ∧ n6 = 0 := by omega
    clear t1 t2 t3 t4 t5 hn hd b1 b2 b3 b4 b5 b6
    cases h0 : (r == zero32) with
    | false =>
      rw [h0] at he1
      go_enter Try.func37, Try.ntmps37
      go_wp2_with fail
      go_ret
      exact ⟨by simp, HB.out⟩
    | true =>
      rw [h0] at he1
      cases h1 : (mk == zero32) with
      | false =>
        rw [h1] at he2
        go_enter Try.func37, Try.ntmps37
        go_wp2_with fail
        go_ret
        exact ⟨by simp, HB.out⟩
      | true =>
        rw [h1] at he2
        go_enter Try.func37, Try.ntmps37
        go_wp2_with fail
        all_goals go_ret
        all_goals exact ⟨by clear HB; simp_all, HB.out⟩
  · have hd : decide (n1 + n2 + n3 + n4 + n5 + n6 = 0) = false := by simpa using hn
    rw [hd]
    have q1 : ((n1 : Int) + (n2 : Int) + (n3 : Int) + (n4 : Int) + (n5 : Int) + (n6 : Int) == 0) = false := by rw [beq_eq_false_iff_ne]; omega
    have q2 : ¬ ((n1 : Int) + (n2 : Int) + (n3 : Int) + (n4 : Int) + (n5 : Int) + (n6 : Int) = 0) := by omega
    clear hn hd
    go_enter Try.func37, Try.ntmps37
    go_wp2_with fail
    go_ret
    exact ⟨by simp, HB.out⟩
end Go.Proofs.Ytnenoecmmelehaa

namespace Go.Proofs.Ytnenoecmmelehaa
open Go.RowKit

def kindP (k : Int) : Bool := decide (k = 1) || decide (k = 2) || decide (k = 4) || decide (k = 8) || decide (k = 11) || decide (k = 13) || decide (k = 15) || decide (k = 20)
set_option maxRecDepth 100000 in
set_option maxHeartbeats 2000000 in
theorem isKind_any (k : Int) (w : World) : Calls Try.prog 27 #[.int .i64 k] w fun e w' => e = .returned (.bool (kindP k)) ∧ w' = w := by
  go_enter Try.func27, Try.ntmps27
  go_wp2_with fail
  all_goals go_ret
  all_goals exact ⟨by unfold kindP; simp_all, rfl⟩
set_option maxRecDepth 100000 in
theorem right1_any (a : Option Addr) (n c : Nat) (w : World) : Calls Try.prog 36 #[.slice a n c] w fun e w' => e = .returned (.bool (!(decide (1 ≤ n) && decide (n ≤ 2048)))) ∧ w' = w := by
  have e1 : (decide ((1 : Int) ≤ (n : Int)) && decide ((n : Int) ≤ 2048)) = (decide (1 ≤ n) && decide (n ≤ 2048)) := by
    rw [show decide ((1 : Int) ≤ (n : Int)) = decide (1 ≤ n) by rw [decide_eq_decide]; omega, show decide ((n : Int) ≤ 2048) = decide (n ≤ 2048) by rw [decide_eq_decide]; omega]
  have hw := within_any (n : Int) 1 2048 w
  rw [e1] at hw
  obtain ⟨b, hb⟩ : ∃ b, b = (decide (1 ≤ n) && decide (n ≤ 2048)) := ⟨_, rfl⟩
  rw [← hb] at hw ⊢
  have HW := Lib.hid hw
  clear hw e1 hb
  go_enter Try.func36, Try.ntmps36
  go_wp2_with fail
  refine HW.out.mono ?_
  rintro e w1 ⟨rfl, rfl⟩
  go_wp2_with fail
  go_ret
  exact ⟨rfl, rfl⟩
theorem ext_S (l : List UInt8) (i j : Nat) : (⟨l.toArray⟩ : ByteArray).extract i j = ⟨((l.drop i).take (j - i)).toArray⟩ := by
  apply ByteArray.ext
  simp [ByteArray.data_extract]
theorem ext0_S (l : List UInt8) (j : Nat) : (⟨l.toArray⟩ : ByteArray).extract 0 j = ⟨(l.take j).toArray⟩ := by
  rw [ext_S, List.drop_zero, Nat.sub_zero]
set_option maxRecDepth 100000 in
theorem short_any (l : List UInt8) (w : World) : Calls Try.prog 21 #[S l] w fun e w' => e = .returned (S (l.take 2100)) ∧ w' = w := by
  rcases Nat.lt_or_ge 2100 l.length with h | h
  · have hl1 : ¬ ((l.length : Int) ≤ 2100) := by omega
    have hl2 : (2100 : Int) < (l.length : Int) := by omega
    go_enter Try.func21, Try.ntmps21
    go_wp2_with fail
    go_ret
    exact ⟨congrArg (fun s => Ending.returned (Value.string s)) (ext0_S l 2100), rfl⟩
  · have hl1 : (l.length : Int) ≤ 2100 := by omega
    have hl2 : ¬ (2100 : Int) < (l.length : Int) := by omega
    go_enter Try.func21, Try.ntmps21
    go_wp2_with fail
    go_ret
    exact ⟨congrArg (fun s => Ending.returned (Value.string s)) ((ext0_S l l.length).trans (by rw [List.take_of_length_le (Nat.le_refl _), List.take_of_length_le h])), rfl⟩
end Go.Proofs.Ytnenoecmmelehaa

namespace Go.Proofs.Ytnenoecmmelehaa
open Go.RowKit

def badC (c : List UInt8) : Bool := !(decide (1 ≤ c.length) && decide (c.length ≤ 2048))
set_option maxRecDepth 100000 in
set_option maxHeartbeats 2000000 in
theorem index_any (vp : Value) (parts : List (List UInt8)) (w : World) (hp : PartsAt w vp parts) :
    Calls Try.prog 51 #[vp, .func (.func 36) #[] #[]] w fun e w' => (∃ i : Int, e = .returned (.int .i64 i) ∧ ((0 ≤ i ∧ parts.any badC = true) ∨ (i = -1 ∧ parts.any badC = false))) ∧ w' = w := by
  obtain ⟨pa, pcap, rfl, hpc, hpm, hpe⟩ := hp
  have HPE := Lib.hid hpe
  unfold maxLen at hpm
  clear hpe
  go_enter Try.func51, Try.ntmps51
  go_wp2_with fail
  go_loopg [5, 8] parts.length (fun g u iv wr => ∃ k : Nat, g + k = parts.length ∧ iv = .int .i64 (k : Int) ∧ (∀ j, j < k → badC (parts.getD j []) = false) ∧ w = wr)
  case atStart => exact ⟨0, by omega, rfl, fun j hj => by omega, rfl⟩
  case round =>
    obtain ⟨k, hk, rfl, hno, hw⟩ := hrel
    subst hw
    by_cases h : k < parts.length
    · obtain ⟨g, o, v, ha, hc, hs⟩ := HPE.out k h
      obtain ⟨a', c', rfl⟩ : ∃ a c, v = .slice a (parts.getD k []).length c := let ⟨a, c, h, _⟩ := hs; ⟨a, c, h⟩
      subst ha
      have x0 : (0 : Int) ≤ (k : Int) := by omega
      have x1 : (k : Int) < (parts.length : Int) := by omega
      have x3 : ((k : Int)).toNat = k := by omega
      have hbd : (k : Int) + 1 ≤ 9223372036854775807 := by omega
      have hmem : parts.getD k [] ∈ parts := by
        rw [List.getD_eq_getElem?_getD, List.getElem?_eq_getElem h]
        exact List.getElem_mem h
      have hbad : (!(decide (1 ≤ (parts.getD k []).length) && decide ((parts.getD k []).length ≤ 2048))) = badC (parts.getD k []) := rfl
      obtain ⟨q, hq⟩ : ∃ q, q = parts.getD k [] := ⟨_, rfl⟩
      rw [← hq] at hc hmem hbad
      have HR := Lib.hid (right1_any a' q.length c' w)
      rw [hbad] at HR
      have HNO := Lib.hid hno
      have HQ := Lib.hid hq
      clear hs hno hbad hq
      go_wp2_with fail
      refine HR.out.mono ?_
      rintro e w1 ⟨rfl, rfl⟩
      cases hb : badC q with
      | true =>
        have HANY := Lib.hid (show parts.any badC = true from List.any_eq_true.2 ⟨q, hmem, hb⟩)
        clear hmem
        go_wp2_with fail
        go_ret
        exact ⟨⟨_, rfl, .inl ⟨x0, HANY.out⟩⟩, rfl⟩
      | false =>
        have HB := Lib.hid hb
        clear hb hmem
        go_wp2_with fail
        go_roundg (gk - 1)
        case measure => omega
        case rel => exact ⟨k + 1, by omega, by go_num, fun j hj => by
          by_cases e : j < k
          · exact HNO.out j e
          · obtain rfl : j = k := by omega
            rw [← HQ.out]
            exact HB.out, rfl⟩
    · obtain rfl : k = parts.length := by omega
      have HANY := Lib.hid (show parts.any badC = false from by
        rw [List.any_eq_false]
        intro c hc
        obtain ⟨i, hi, he⟩ := List.getElem_of_mem hc
        have := hno i hi
        rw [List.getD_eq_getElem?_getD, List.getElem?_eq_getElem hi, Option.getD_some, he] at this
        rw [this]
        decide)
      have x1 : ¬ (parts.length : Int) < (parts.length : Int) := by omega
      clear hno
      go_wp2_with fail
      go_ret
      exact ⟨⟨_, rfl, .inr ⟨rfl, by simpa using HANY.out⟩⟩, rfl⟩
set_option maxRecDepth 100000 in
theorem contains_any (vp : Value) (parts : List (List UInt8)) (w : World) (hp : PartsAt w vp parts) :
    Calls Try.prog 35 #[vp, .func (.func 36) #[] #[]] w fun e w' => e = .returned (.bool (parts.any badC)) ∧ w' = w := by
  have hi0 := index_any vp parts w hp
  obtain ⟨b, hb0⟩ : ∃ b, b = parts.any badC := ⟨_, rfl⟩
  rw [← hb0] at hi0 ⊢
  have HI := Lib.hid hi0
  clear hp hi0 hb0
  go_enter Try.func35, Try.ntmps35
  go_wp2_with fail
  refine HI.out.mono ?_
  rintro e w1 ⟨⟨i, rfl, hi⟩, rfl⟩
  rcases hi with ⟨h0, rfl⟩ | ⟨rfl, rfl⟩
  · have h1 : (0 : Int) ≤ i := h0
    go_wp2_with fail
    go_ret
    exact ⟨rfl, rfl⟩
  · go_wp2_with fail
    go_ret
    exact ⟨rfl, rfl⟩
end Go.Proofs.Ytnenoecmmelehaa

namespace Go.Proofs.Ytnenoecmmelehaa
open Go.RowKit

set_option maxRecDepth 100000 in
theorem built_lit (k life age : Int) (a0 a1 a2 a3 a4 a5 a6 a7 a8 a9 a10 a11 a12 a13 a14 a15 a16 a17 a18 a19 a20 a21 a22 a23 a24 a25 a26 a27 a28 a29 a30 a31 b0 b1 b2 b3 b4 b5 b6 b7 b8 b9 b10 b11 b12 b13 b14 b15 b16 b17 b18 b19 b20 b21 b22 b23 b24 b25 b26 b27 b28 b29 b30 b31 : Value) (s1 s2 s3 s4 s5 : ByteArray) (ac : Option Addr) (n cc : Nat) (psk retry : Bool) :
    Try.prog.built 25 [(0, .int .i64 k), (1, .agg #[a0, a1, a2, a3, a4, a5, a6, a7, a8, a9, a10, a11, a12, a13, a14, a15, a16, a17, a18, a19, a20, a21, a22, a23, a24, a25, a26, a27, a28, a29, a30, a31]), (2, .agg #[b0, b1, b2, b3, b4, b5, b6, b7, b8, b9, b10, b11, b12, b13, b14, b15, b16, b17, b18, b19, b20, b21, b22, b23, b24, b25, b26, b27, b28, b29, b30, b31]), (3, .string s1), (4, .string s2), (5, .string s3), (6, .string s4), (7, .string s5), (8, .slice ac n cc), (9, .int .i64 life), (10, .int .i64 age), (11, .bool psk), (12, .bool retry)] = some #[.int .i64 k, a0, a1, a2, a3, a4, a5, a6, a7, a8, a9, a10, a11, a12, a13, a14, a15, a16, a17, a18, a19, a20, a21, a22, a23, a24, a25, a26, a27, a28, a29, a30, a31, b0, b1, b2, b3, b4, b5, b6, b7, b8, b9, b10, b11, b12, b13, b14, b15, b16, b17, b18, b19, b20, b21, b22, b23, b24, b25, b26, b27, b28, b29, b30, b31, .string s1, .string s2, .string s3, .string s4, .string s5, .slice ac n cc, .int .i64 life, .int .i64 age, .bool psk, .bool retry] := by kernel_rfl
theorem list32 (l : List Value) (h : l.length = 32) : ∃ a0 a1 a2 a3 a4 a5 a6 a7 a8 a9 a10 a11 a12 a13 a14 a15 a16 a17 a18 a19 a20 a21 a22 a23 a24 a25 a26 a27 a28 a29 a30 a31 : Value, l = [a0, a1, a2, a3, a4, a5, a6, a7, a8, a9, a10, a11, a12, a13, a14, a15, a16, a17, a18, a19, a20, a21, a22, a23, a24, a25, a26, a27, a28, a29, a30, a31] := by
  obtain ⟨a0, l, rfl⟩ := List.exists_cons_of_length_eq_add_one (n := 31) h
  have h : l.length = 31 := by simpa using h
  obtain ⟨a1, l, rfl⟩ := List.exists_cons_of_length_eq_add_one (n := 30) h
  have h : l.length = 30 := by simpa using h
  obtain ⟨a2, l, rfl⟩ := List.exists_cons_of_length_eq_add_one (n := 29) h
  have h : l.length = 29 := by simpa using h
  obtain ⟨a3, l, rfl⟩ := List.exists_cons_of_length_eq_add_one (n := 28) h
  have h : l.length = 28 := by simpa using h
  obtain ⟨a4, l, rfl⟩ := List.exists_cons_of_length_eq_add_one (n := 27) h
  have h : l.length = 27 := by simpa using h
  obtain ⟨a5, l, rfl⟩ := List.exists_cons_of_length_eq_add_one (n := 26) h
  have h : l.length = 26 := by simpa using h
  obtain ⟨a6, l, rfl⟩ := List.exists_cons_of_length_eq_add_one (n := 25) h
  have h : l.length = 25 := by simpa using h
  obtain ⟨a7, l, rfl⟩ := List.exists_cons_of_length_eq_add_one (n := 24) h
  have h : l.length = 24 := by simpa using h
  obtain ⟨a8, l, rfl⟩ := List.exists_cons_of_length_eq_add_one (n := 23) h
  have h : l.length = 23 := by simpa using h
  obtain ⟨a9, l, rfl⟩ := List.exists_cons_of_length_eq_add_one (n := 22) h
  have h : l.length = 22 := by simpa using h
  obtain ⟨a10, l, rfl⟩ := List.exists_cons_of_length_eq_add_one (n := 21) h
  have h : l.length = 21 := by simpa using h
  obtain ⟨a11, l, rfl⟩ := List.exists_cons_of_length_eq_add_one (n := 20) h
  have h : l.length = 20 := by simpa using h
  obtain ⟨a12, l, rfl⟩ := List.exists_cons_of_length_eq_add_one (n := 19) h
  have h : l.length = 19 := by simpa using h
  obtain ⟨a13, l, rfl⟩ := List.exists_cons_of_length_eq_add_one (n := 18) h
  have h : l.length = 18 := by simpa using h
  obtain ⟨a14, l, rfl⟩ := List.exists_cons_of_length_eq_add_one (n := 17) h
  have h : l.length = 17 := by simpa using h
  obtain ⟨a15, l, rfl⟩ := List.exists_cons_of_length_eq_add_one (n := 16) h
  have h : l.length = 16 := by simpa using h
  obtain ⟨a16, l, rfl⟩ := List.exists_cons_of_length_eq_add_one (n := 15) h
  have h : l.length = 15 := by simpa using h
  obtain ⟨a17, l, rfl⟩ := List.exists_cons_of_length_eq_add_one (n := 14) h
  have h : l.length = 14 := by simpa using h
  obtain ⟨a18, l, rfl⟩ := List.exists_cons_of_length_eq_add_one (n := 13) h
  have h : l.length = 13 := by simpa using h
  obtain ⟨a19, l, rfl⟩ := List.exists_cons_of_length_eq_add_one (n := 12) h
  have h : l.length = 12 := by simpa using h
  obtain ⟨a20, l, rfl⟩ := List.exists_cons_of_length_eq_add_one (n := 11) h
  have h : l.length = 11 := by simpa using h
  obtain ⟨a21, l, rfl⟩ := List.exists_cons_of_length_eq_add_one (n := 10) h
  have h : l.length = 10 := by simpa using h
  obtain ⟨a22, l, rfl⟩ := List.exists_cons_of_length_eq_add_one (n := 9) h
  have h : l.length = 9 := by simpa using h
  obtain ⟨a23, l, rfl⟩ := List.exists_cons_of_length_eq_add_one (n := 8) h
  have h : l.length = 8 := by simpa using h
  obtain ⟨a24, l, rfl⟩ := List.exists_cons_of_length_eq_add_one (n := 7) h
  have h : l.length = 7 := by simpa using h
  obtain ⟨a25, l, rfl⟩ := List.exists_cons_of_length_eq_add_one (n := 6) h
  have h : l.length = 6 := by simpa using h
  obtain ⟨a26, l, rfl⟩ := List.exists_cons_of_length_eq_add_one (n := 5) h
  have h : l.length = 5 := by simpa using h
  obtain ⟨a27, l, rfl⟩ := List.exists_cons_of_length_eq_add_one (n := 4) h
  have h : l.length = 4 := by simpa using h
  obtain ⟨a28, l, rfl⟩ := List.exists_cons_of_length_eq_add_one (n := 3) h
  have h : l.length = 3 := by simpa using h
  obtain ⟨a29, l, rfl⟩ := List.exists_cons_of_length_eq_add_one (n := 2) h
  have h : l.length = 2 := by simpa using h
  obtain ⟨a30, l, rfl⟩ := List.exists_cons_of_length_eq_add_one (n := 1) h
  have h : l.length = 1 := by simpa using h
  obtain ⟨a31, l, rfl⟩ := List.exists_cons_of_length_eq_add_one (n := 0) h
  have h : l.length = 0 := by simpa using h
  obtain rfl : l = [] := List.eq_nil_of_length_eq_zero h
  exact ⟨a0, a1, a2, a3, a4, a5, a6, a7, a8, a9, a10, a11, a12, a13, a14, a15, a16, a17, a18, a19, a20, a21, a22, a23, a24, a25, a26, a27, a28, a29, a30, a31, rfl⟩
theorem built_msg (k life age : Int) (r mk : List UInt8) (s1 s2 s3 s4 s5 : List UInt8) (ac : Option Addr) (n cc : Nat) (psk retry : Bool) (hr : r.length = 32) (hm : mk.length = 32) :
    Try.prog.built 25 [(0, .int .i64 k), (1, .agg (AB r)), (2, .agg (AB mk)), (3, S s1), (4, S s2), (5, S s3), (6, S s4), (7, S s5), (8, .slice ac n cc), (9, .int .i64 life), (10, .int .i64 age), (11, .bool psk), (12, .bool retry)] = some (mC k r mk [S s1, S s2, S s3, S s4, S s5, .slice ac n cc, .int .i64 life, .int .i64 age, .bool psk, .bool retry]) := by
  obtain ⟨a0, a1, a2, a3, a4, a5, a6, a7, a8, a9, a10, a11, a12, a13, a14, a15, a16, a17, a18, a19, a20, a21, a22, a23, a24, a25, a26, a27, a28, a29, a30, a31, ea⟩ := list32 (r.map B) (by simpa using hr)
  obtain ⟨b0, b1, b2, b3, b4, b5, b6, b7, b8, b9, b10, b11, b12, b13, b14, b15, b16, b17, b18, b19, b20, b21, b22, b23, b24, b25, b26, b27, b28, b29, b30, b31, eb⟩ := list32 (mk.map B) (by simpa using hm)
  unfold mC AB
  rw [ea, eb]
  exact built_lit k life age a0 a1 a2 a3 a4 a5 a6 a7 a8 a9 a10 a11 a12 a13 a14 a15 a16 a17 a18 a19 a20 a21 a22 a23 a24 a25 a26 a27 a28 a29 a30 a31 b0 b1 b2 b3 b4 b5 b6 b7 b8 b9 b10 b11 b12 b13 b14 b15 b16 b17 b18 b19 b20 b21 b22 b23 b24 b25 b26 b27 b28 b29 b30 b31 _ _ _ _ _ ac n cc psk retry
end Go.Proofs.Ytnenoecmmelehaa
