/- Part of the proof: RefSum. No conditions of its own. -/
import Derived.ArgAppend
import Derived.Below
import Derived.BigQuiet
import Derived.BigRegion
import Derived.ChangeOld
import Derived.Deep.CutBlock
import Derived.Deep.DeepCutAuto
import Derived.Deep.Draws
import Derived.Deep.LoopGhost
import Derived.Deep.Quiet
import Derived.Deep.QuietTactic
import Derived.Deep.RegionHeld3
import Derived.Deep.RegionLaw
import Derived.Laws.AppendOwnNone
import Derived.Laws.Bits64
import Derived.Laws.BitsAllLaws
import Derived.Laws.BytesArg
import Derived.Laws.CopyOwn
import Derived.Laws.MakeOwn
import Derived.Lib.AppendStr
import Derived.Lib.AppendZerosOnto
import Derived.Lib.BufferMore
import Derived.Lib.ConvBytes
import Derived.Lib.Hide
import Derived.LoopIn
import Derived.LoopNIn
import Derived.Maps.AppendAt
import Derived.OpenShut
import Derived.OrdersIn
import Derived.OwnWalkIn
import Derived.ProofKit
import Derived.RangeFuncBound
import Derived.RangeFuncBox
import Derived.RangeFuncCalls
import Derived.RangeFuncLeaves
import Derived.RangeFuncNested
import Derived.Shelf.Abstract
import Derived.ShutString
import Derived.StillTail
import Derived.TacticsIn
import Derived.TacticsInMore
import Derived.Test.YtcfbiafedfkbhaaDoorProg
import Derived.WalkKit
import Derived.WalkSpells
import Derived.Test.YtcfbiafedfkbhaaDoorO11
import Derived.Test.YtcfbiafedfkbhaaDoorO36
import Derived.Test.YtcfbiafedfkbhaaDoorO37
namespace Go.Proofs.YtcfbiafedfkbhaaDoor
open Go.RowKit
set_option linter.unusedVariables false
set_option linter.unusedSimpArgs false

theorem ret_row2x {P : Program} {fn : Func} {p q : Tmp} {ty tz : TypeId} {tmps : Array Value} {w : World} {R : Ending → World → Prop} {e : Exit} (he : e = .ret ∨ e = .normal) (h : fn.results = #[.cell p ty, .cell q tz]) (g k : Nat) (t u : TypeId) (cs ds : Array Value) (n m : Nat) (d d' : TypeDesc)
    (hp : tmps.getD p undef = .pointer (some ⟨g, 0, none⟩)) (hr : Row w g t cs) (hq : tmps.getD q undef = .pointer (some ⟨k, 0, none⟩)) (hr' : Row w k u ds)
    (hu : P.underlying ty = some d) (hd : (match d with | .struct _ | .array _ _ => true | _ => false) = true) (hi : (P.info? ty).map (·.size) = some n) (hn : cs.size = n)
    (hu' : P.underlying tz = some d') (hd' : (match d' with | .struct _ | .array _ _ => true | _ => false) = true) (hi' : (P.info? tz).map (·.size) = some m) (hn' : ds.size = m)
    (hR : R (.returned (.tuple #[.agg cs, .agg ds])) w) : bodyPost P fn R e { tmps, defers := [] } w := by
  have hres : (results fn tmps).run P w = .ok (.tuple #[.agg cs, .agg ds]) w := by
    have hp' : tmps[p]?.getD undef = .pointer (some ⟨g, 0, none⟩) := by simpa using hp
    have hq' : tmps[q]?.getD undef = .pointer (some ⟨k, 0, none⟩) := by simpa using hq
    simp [results, h, hp', hq', asAddr, run_loadVar_row w g t ty cs (0, 0) d hr.heap hu hd (by rw [hi, hn]), run_loadVar_row w k u tz ds (0, 0) d' hr'.heap hu' hd' (by rw [hi', hn'])]
  rcases he with rfl | rfl <;> exact ⟨rfl, _, hres, hR⟩
theorem AD_rounds : AD roundsS = #[.int .u32 1116352408, .int .u32 1899447441, .int .u32 3049323471, .int .u32 3921009573, .int .u32 961987163, .int .u32 1508970993, .int .u32 2453635748, .int .u32 2870763221, .int .u32 3624381080, .int .u32 310598401, .int .u32 607225278, .int .u32 1426881987, .int .u32 1925078388, .int .u32 2162078206, .int .u32 2614888103, .int .u32 3248222580, .int .u32 3835390401, .int .u32 4022224774, .int .u32 264347078, .int .u32 604807628, .int .u32 770255983, .int .u32 1249150122, .int .u32 1555081692, .int .u32 1996064986, .int .u32 2554220882, .int .u32 2821834349, .int .u32 2952996808, .int .u32 3210313671, .int .u32 3336571891, .int .u32 3584528711, .int .u32 113926993, .int .u32 338241895, .int .u32 666307205, .int .u32 773529912, .int .u32 1294757372, .int .u32 1396182291, .int .u32 1695183700, .int .u32 1986661051, .int .u32 2177026350, .int .u32 2456956037, .int .u32 2730485921, .int .u32 2820302411, .int .u32 3259730800, .int .u32 3345764771, .int .u32 3516065817, .int .u32 3600352804, .int .u32 4094571909, .int .u32 275423344, .int .u32 430227734, .int .u32 506948616, .int .u32 659060556, .int .u32 883997877, .int .u32 958139571, .int .u32 1322822218, .int .u32 1537002063, .int .u32 1747873779, .int .u32 1955562222, .int .u32 2024104815, .int .u32 2227730452, .int .u32 2361852424, .int .u32 2428436474, .int .u32 2756734187, .int .u32 3204031479, .int .u32 3329325298] := by kernel_rfl
set_option maxRecDepth 100000 in
set_option maxHeartbeats 4000000 in
theorem rconst_any (w : World) : Calls Tryd.prog 87 #[] w fun e w' => e = .returned (.tuple #[.agg (AD startS), .agg (AD roundsS)]) ∧ Below w.heap.size w w' := by
  go_enter Tryd.func87, Tryd.ntmps87
  go_wp2_with fail
  rw [← AD_rounds, ← AD_start]
  refine ret_row2x (.inl rfl) rfl w.heap.size (w.heap.size + 1) 141 142 (AD startS) (AD roundsS) 8 64 _ _ rfl ?_ rfl ?_ Tryd.underlying141 rfl (by kernel_rfl) rfl Tryd.underlying142 rfl (by kernel_rfl) rfl ⟨rfl, ?_⟩
  · exact (Row.setRow ((Row.new w _ _).alloc _) _).setRowOther _ _ (by omega)
  · exact Row.setRow (Row.setRowOther (Row.newAt _ _ _ _ (by simp)) _ _ (by omega)) _
  · exact bSetRow (bSetRow (((Below.refl _ w).alloc (Nat.le_refl _) _).alloc (by simp) _) (Nat.le_refl _) _) (by omega) _
theorem dw_max (a : UInt32) : bits .xor .u32 IntKind.u32.max (a.toNat : Int) = ((cw a).toNat : Int) := by
  have h := dw_xor 4294967295 a
  have e : xw 4294967295 a = cw a := by
    apply u32_ext
    intro i
    rw [tb_xw, tb_cw]
    have h1 := Nat.testBit_two_pow_sub_one 32 i
    rw [show (4294967295 : UInt32).toNat = 2 ^ 32 - 1 from rfl, h1]
    by_cases h : i < 32
    · simp [h]
    · rw [tb_big a i h]; simp [h]
  rw [e] at h
  exact h
theorem sum5 (a b c d e : UInt32) : Value.int .u32 (((a.toNat : Int) + (b.toNat : Int) + (c.toNat : Int) + (d.toNat : Int) + (e.toNat : Int)) % 4294967296) = D (aw (aw (aw (aw a b) c) d) e) := by
  unfold D
  congr 1
  simp only [← dw_addm]
  omega
theorem sum5r (v a b c d : UInt32) : Value.int .u32 (((v.toNat : Int) + ((a.toNat : Int) + (b.toNat : Int) + (c.toNat : Int) + (d.toNat : Int))) % 4294967296) = D (aw v (aw (aw (aw a b) c) d)) := by
  unfold D
  congr 1
  simp only [← dw_addm]
  omega
section
attribute [local go_sem] dw_xor dw_and dw_or dw_add dw_addm sr_8 sr_1024 dw_max
set_option maxRecDepth 100000 in
set_option maxHeartbeats 8000000 in
theorem rsum_any (w : World) (L : List UInt8) (hl : L.length ≤ 1000000) : Calls Tryd.prog 72 #[S L] w fun e w' => e = .returned (S (shaS L)) ∧ Below w.heap.size w w' := by
  have HL := Lib.hid hl
  have n2 : (L.length : Int) ≤ 1000000 := by omega
  clear hl
  go_enter Tryd.func72, Tryd.ntmps72
  go_wp2_with fail
  refine (rconst_any w).mono ?_
  rintro e w1 ⟨rfl, hB1⟩
  have HB1 := Lib.hid hB1
  clear hB1
  obtain ⟨A3, hA3⟩ : ∃ A, A = AD startS := ⟨_, rfl⟩
  obtain ⟨A4, hA4⟩ : ∃ A, A = AD roundsS := ⟨_, rfl⟩
  have s3 : A3.size = 8 := by rw [hA3]; kernel_rfl
  have s4 : A4.size = 64 := by rw [hA4]; kernel_rfl
  have o3 : allOne A3 = true := by rw [hA3]; kernel_rfl
  have o4 : allOne A4 = true := by rw [hA4]; kernel_rfl
  rw [← hA3, ← hA4]
  have HA := Lib.hid (⟨hA3, hA4⟩ : _ ∧ _)
  clear hA3 hA4
  go_upto_region 2 with (fail)
  obtain ⟨g3, hg3⟩ : ∃ g, g = w1.heap.size := ⟨_, rfl⟩
  obtain ⟨g4, hg4⟩ : ∃ g, g = w1.heap.size + 1 := ⟨_, rfl⟩
  rw [← hg4, ← hg3]
  refine gen_wpR (SuR w g3 g4 startS) ?_ ?_
  · have hs := HB1.out.size
    rw [HA.out.1, HA.out.2] at *
    subst hg3
    subst hg4
    refine ⟨(Row.setRow ((Row.new w1 _ _).alloc _) _).setRowOther _ _ (by omega), Row.setRow (Row.setRowOther (Row.newAt _ _ _ _ (by simp)) _ _ (by omega)) _, bSetRow (bSetRow ((HB1.out.alloc hs _).alloc (by simp; omega) _) hs _) (by omega) _, hs, by omega⟩
  clear hg3 hg4 s3 s4 o3 o4 HA HB1
  intro w2 hS2
  obtain ⟨vc, wc, hconv, hoc, hbc⟩ := conv_str w2 L HL.out
  obtain ⟨ac, cc, rfl, _⟩ := hoc.slb
  have HSC := Lib.hid (hS2.below hbc)
  have HOC := Lib.hid (⟨hS2.bel.size, hoc⟩ : _ ∧ _)
  have hsz := (hS2.bel.trans (hbc.mono hS2.bel.size)).size
  clear hS2 hoc hbc
  go_wp2_with (at_builtin; refine wpl_appM rfl (.tmp 28) (.tmp 29) rfl w.heap.size _ L rfl ((HOC.out.2.low HOC.out.1).below ((Below.refl _ _).alloc (Nat.le_refl _) _)) (.slice (some ⟨wc.heap.size, 0, none⟩) 1 1) [128] rfl (Row.slW (l := [128]) (t := 5) (Row.new wc _ _) (by simp)) (by simp) (by simp; omega) (by simp; omega) ?_)
  intro v3 w3 ho3 hg3
  have HST := Lib.hid (⟨(HSC.out.below ((Below.refl _ _).alloc (Nat.le_refl _) _)).grown ((HOC.out.2.low HOC.out.1).below ((Below.refl _ _).alloc (Nat.le_refl _) _)) hg3, ho3⟩ : SuR w g3 g4 startS w3 ∧ OwnM w3 w.heap.size v3 (L ++ [128]))
  obtain ⟨a3, c3, rfl, _⟩ := ho3.slb
  obtain ⟨l2, hl2⟩ : ∃ l, l = L ++ [128] := ⟨_, rfl⟩
  have hln2 : l2.length = L.length + 1 := by rw [hl2]; simp
  rw [← hl2] at HST ⊢
  obtain ⟨z, hz⟩ : ∃ z, z = (119 - L.length % 64) % 64 := ⟨_, rfl⟩
  have HZ := Lib.hid hz
  have HL2 := Lib.hid (⟨hl2, hln2⟩ : _ ∧ _)
  have hz64 : z ≤ 63 := by omega
  clear ho3 hg3 HSC HOC hsz hz hl2 hln2 hconv
  go_upto_block 0 with (fail)
  go_cut [3, 4, 5] (fun t3 t4 t5 wr => t3 = .pointer (some ⟨g3, 0, none⟩) ∧ t4 = .pointer (some ⟨g4, 0, none⟩) ∧ ∃ (a : Option Addr) (c : Nat) (l : List UInt8), t5 = .slice a l.length c ∧ l = l2 ++ List.replicate z 0 ∧ SuR w g3 g4 startS wr ∧ OwnM wr w.heap.size (.slice a l.length c) l)
  case first =>
    --<A1
    go_wp2_with fail
    go_loopg [5] z (fun gk t5 wr => ∃ (r : Nat) (a : Option Addr) (c : Nat) (l : List UInt8), gk + r = z ∧ t5 = .slice a l.length c ∧ l = l2 ++ List.replicate r 0 ∧ SuR w g3 g4 startS wr ∧ OwnM wr w.heap.size (.slice a l.length c) l)
    case atStart => exact ⟨0, a3, c3, l2, by omega, rfl, by simp, HST.out.1, HST.out.2⟩
    case round =>
      clear HST
      obtain ⟨r, a, c, l, hr, rfl, hle, hS, hO⟩ := hrel
      have hll : l.length = L.length + 1 + r := by rw [hle, List.length_append, HL2.out.2, List.length_replicate]
      have HLE := Lib.hid hle
      have HSS := Lib.hid (⟨hS, hO⟩ : _ ∧ _)
      have hzz := HZ.out
      have hsz := hS.bel.size
      clear hle hS hO
      by_cases hrz : r < z
      · have x1 : ((l.length : Int) % 64 != 56) = true := by rw [bne_iff_ne]; omega
        have x2 : (l.length : Int) ≤ 1000100 := by omega
        have x3 : ¬ (l.length : Int) % 64 = 56 := by omega
        have HLL := Lib.hid hll
        clear hzz hll
        go_wp2_with (at_builtin; refine wpl_appM rfl (.tmp 35) (.tmp 36) rfl w.heap.size _ l rfl (HSS.out.2.below ((Below.refl _ _).alloc (Nat.le_refl _) _)) (.slice (some ⟨wr.heap.size, 0, none⟩) 1 1) [0] rfl (Row.slW (l := [0]) (t := 5) (Row.new wr _ _) (by simp)) (by simp) (by simp; omega) (by simp; omega) ?_)
        intro v4 w4 ho4 hg4
        have HS4 := Lib.hid (⟨(HSS.out.1.below ((Below.refl _ _).alloc (Nat.le_refl _) _)).grown (HSS.out.2.below ((Below.refl _ _).alloc (Nat.le_refl _) _)) hg4, ho4⟩ : SuR w g3 g4 startS w4 ∧ OwnM w4 w.heap.size v4 (l ++ [0]))
        obtain ⟨a4, c4, rfl, _⟩ := ho4.slb
        clear ho4 hg4
        go_wp2_with fail
        go_roundg (gk - 1)
        case measure => omega
        case rel => exact ⟨r + 1, a4, c4, l ++ [0], by omega, rfl, by rw [HLE.out, List.append_assoc, List.replicate_succ'], HS4.out.1, HS4.out.2⟩
      · obtain rfl : r = z := by omega
        have x1 : ((l.length : Int) % 64 != 56) = false := by rw [bne_eq_false_iff_eq]; omega
        have x2 : (l.length : Int) ≤ 1000100 := by omega
        have x3 : (l.length : Int) % 64 = 56 := by omega
        have HLL := Lib.hid (⟨hll, hrz⟩ : _ ∧ _)
        clear hzz hll hrz
        go_wp2_with fail
        go_meet
        case rel => exact ⟨rfl, rfl, a, c, l, rfl, HLE.out, HSS.out.1, HSS.out.2⟩
    --A1>
  case rest =>
    --<B1
    clear HST
    obtain ⟨rfl, rfl, a, c, l, rfl, hle, hS, hO⟩ := hcut
    have hll : l.length = L.length + 1 + z := by rw [hle, List.length_append, HL2.out.2, List.length_replicate]
    have HLE := Lib.hid hle
    have HSS := Lib.hid (⟨hS, hO⟩ : _ ∧ _)
    have hzz := HZ.out
    have hsz := hS.bel.size
    clear hle hS hO
    · have x2 : (l.length : Int) ≤ 1000100 := by omega
      have n1 : (0 : Int) ≤ (L.length : Int) := by omega
      have n3 : IntKind.u64.wrap (L.length : Int) = (L.length : Int) := by rw [IntKind.wrap_u64]; omega
      have n4 : IntKind.u64.wrap ((L.length : Int) * 8) = (L.length : Int) * 8 := by rw [IntKind.wrap_u64]; omega
      have HLL := Lib.hid (⟨hll, hzz⟩ : _ ∧ _)
      clear hzz hll
      go_wp2_with fail
      clear n3 n4
      go_loopg [5, 7] 8 (fun gk t5 t7 wx => ∃ (r : Nat) (i : Int) (a : Option Addr) (c : Nat) (l4 : List UInt8), gk + r = 8 ∧ t7 = .int .i64 i ∧ i = 56 - 8 * (r : Int) ∧ t5 = .slice a l4.length c ∧ l4 = l ++ l8P L.length r ∧ SuR w g3 g4 startS wx ∧ OwnM wx w.heap.size (.slice a l4.length c) l4)
      case atStart => exact ⟨0, 56, a, c, l, by omega, rfl, by omega, rfl, by simp [l8P], HSS.out.1, HSS.out.2⟩
      case round =>
        clear HSS
        obtain ⟨r, i, a, c, l4, hr8, rfl, hi, rfl, hl4, hS, hO⟩ := hrel
        have h4l : l4.length = l.length + r := by rw [hl4, List.length_append, l8P_len]
        have HL4 := Lib.hid hl4
        have HS4 := Lib.hid (⟨hS, hO⟩ : _ ∧ _)
        have hsz := hS.bel.size
        have HH := Lib.hid h4l
        have x4 : (l4.length : Int) ≤ 1000200 := by have := HH.out; omega
        have x5 : l4.length ≤ 1000200 := by omega
        clear hl4 hS hO h4l
        by_cases h8 : r < 8
        · obtain ⟨e, rfl⟩ : ∃ e : Nat, i = (e : Int) := ⟨i.toNat, by omega⟩
          have he : e = 56 - 8 * r := by omega
          have c1 : (0 : Int) ≤ (e : Int) := by omega
          have c2 : (e : Int) ≤ 56 := by omega
          have v8 : IntKind.u8.wrap ((L.length : Int) * 8 / 2 ^ e) = ((UInt8.ofNat (L.length * 8 / 2 ^ e)).toNat : Int) := by rw [← u8wrapS]; simp
          obtain ⟨x, hx⟩ : ∃ x, x = UInt8.ofNat (L.length * 8 / 2 ^ e) := ⟨_, rfl⟩
          rw [← hx] at v8
          have HST := Lib.hid (show l4 ++ [x] = l ++ l8P L.length (r + 1) by rw [HL4.out, List.append_assoc, hx, he, l8P_step])
          have HI := Lib.hid (⟨hi, he, h8, hr8⟩ : _ ∧ _ ∧ _ ∧ _)
          clear hx he hi h8 hr8
          go_wp2_with (at_builtin; refine wpl_appM rfl (.tmp 46) (.tmp 51) rfl w.heap.size _ l4 rfl (HS4.out.2.below ((Below.refl _ _).alloc (Nat.le_refl _) _)) (.slice (some ⟨wr.heap.size, 0, none⟩) 1 1) [x] rfl (Row.slW (l := [x]) (t := 5) (Row.new wr _ _) (by simp)) (by simp) (by simp; omega) (by simp; omega) ?_)
          intro v5 w5 ho5 hg5
          have HS5 := Lib.hid (⟨(HS4.out.1.below ((Below.refl _ _).alloc (Nat.le_refl _) _)).grown (HS4.out.2.below ((Below.refl _ _).alloc (Nat.le_refl _) _)) hg5, ho5⟩ : SuR w g3 g4 startS w5 ∧ OwnM w5 w.heap.size v5 (l4 ++ [x]))
          obtain ⟨a5, c5, rfl, _⟩ := ho5.slb
          clear ho5 hg5
          go_wp2_with fail
          go_roundg (gk - 1)
          case measure => have := HI.out; omega
          case rel => exact ⟨r + 1, (e : Int) - 8, a5, c5, l4 ++ [x], by have := HI.out; omega, rfl, by have := HI.out; omega, rfl, HST.out, HS5.out.1, HS5.out.2⟩
        · have c5 : ¬ (0 : Int) ≤ i := by omega
          obtain rfl : r = 8 := by omega
          obtain ⟨E, hE⟩ : ∃ E, E = padS L.length L := ⟨_, rfl⟩
          have hE4 : l4 = E := by
            rw [hE, HL4.out, HLE.out, HL2.out.1, HZ.out]
            simp [padS, l8P]
          subst hE4
          have HE := Lib.hid hE
          clear hE h8 hi hr8
          have h64 : l4.length % 64 = 0 := by rw [HE.out]; exact padS_64 _ _
          obtain ⟨N, hN⟩ : ∃ N, N = l4.length / 64 := ⟨_, rfl⟩
          have hNl : l4.length = 64 * N := by omega
          obtain ⟨b5, rfl, hcap, hsb⟩ := SuB.of HS4.out.1 HS4.out.2
          obtain ⟨m, hm⟩ : ∃ m, m = l4.length := ⟨_, rfl⟩
          rw [← hm] at hNl x4 hcap ⊢
          have HM := Lib.hid (⟨hm, hN, hNl, hcap⟩ : _ ∧ _ ∧ _ ∧ _)
          have HSB := Lib.hid hsb
          have hcap' : (m : Int) ≤ (c : Int) := by omega
          clear hm hN hNl h64 hcap hsb HS4 HH x5 hsz
          go_wp2_with fail
          clear c5
          go_loopg [8] N (fun gk t8 wx => ∃ (k at' : Nat), gk + k = N ∧ at' = 64 * k ∧ t8 = .int .i64 (at' : Int) ∧ SuB w g3 g4 b5 l4 (pressAll startS k l4) wx)
          case atStart => exact ⟨0, 0, by omega, rfl, rfl, HSB.out⟩
          case round =>
            clear HSB
            obtain ⟨k, at', hgk, hat, rfl, hB⟩ := hrel
            by_cases hkN : k < N
            · have y1 : (at' : Int) < (m : Int) := by have := HM.out.2.2.1; omega
              have y2 : (at' : Int) + 64 ≤ (m : Int) := by have := HM.out.2.2.1; omega
              have y3 : (0 : Int) ≤ (at' : Int) := by omega
              obtain ⟨H, hH⟩ : ∃ H, H = pressAll startS k l4 := ⟨_, rfl⟩
              have hH8 : H.length = 8 := by rw [hH]; exact pressAll_len _ _ rfl _
              obtain ⟨blk, hblk⟩ : ∃ b, b = (l4.drop (64 * k)).take 64 := ⟨_, rfl⟩
              have HNX := Lib.hid (show pressAll startS (k + 1) l4 = pressS H blk by rw [pressAll_snoc, hH, hblk])
              have HGB := Lib.hid (show ∀ j, j < 64 → gb l4 (at' + j) = blk.getD j 0 from fun j hj => by rw [hat, hblk]; exact gb_blk l4 k j hj)
              rw [← hH] at hB
              have HBK := Lib.hid hB
              have HK := Lib.hid (⟨hgk, hat, hkN, hH8⟩ : _ ∧ _ ∧ _ ∧ _)
              clear hB hgk hat hkN hH hblk hH8
              go_upto_region 14 with (fail)
              obtain ⟨g9, hg9⟩ : ∃ g, g = wr.heap.size := ⟨_, rfl⟩
              rw [← hg9, ← zw64]
              refine gen_wpR (SuC w g3 g4 b5 l4 H g9 (schS blk 0)) (by rw [hg9]; exact SuC.new HBK.out) ?_
              clear hg9 HBK
              intro w6 hC
              have HC := Lib.hid hC
              clear hC
              go_wp2_with fail
              go_loopg [10] 64 (fun gi t10 wx => ∃ (i : Nat), gi + i = 64 ∧ t10 = .int .i64 (i : Int) ∧ SuC w g3 g4 b5 l4 H g9 (schS blk i) wx)
              case atStart => exact ⟨0, by omega, rfl, HC.out⟩
              case round =>
                clear HC
                obtain ⟨i, hi, rfl, hC⟩ := hrel
                by_cases h64 : i < 64
                · have i1 : (i : Int) < 64 := by omega
                  have i0 : (0 : Int) ≤ (i : Int) := by omega
                  by_cases h16 : i < 16
                  · have i2 : (i : Int) < 16 := by omega
                    --<P1
                    obtain ⟨J0, hJ0⟩ : ∃ e, e = at' + 4 * i := ⟨_, rfl⟩
                    obtain ⟨J1, hJ1⟩ : ∃ e, e = J0 + 1 := ⟨_, rfl⟩
                    obtain ⟨J2, hJ2⟩ : ∃ e, e = J0 + 2 := ⟨_, rfl⟩
                    obtain ⟨J3, hJ3⟩ : ∃ e, e = J0 + 3 := ⟨_, rfl⟩
                    have s0 : (at' : Int) + 4 * (i : Int) = (J0 : Int) := by omega
                    have s1 : (J0 : Int) + 1 = (J1 : Int) := by omega
                    have s2 : (J0 : Int) + 2 = (J2 : Int) := by omega
                    have s3 : (J0 : Int) + 3 = (J3 : Int) := by omega
                    have p0 : (0 : Int) ≤ (J0 : Int) := by omega
                    have p1 : (0 : Int) ≤ (J1 : Int) := by omega
                    have p2 : (0 : Int) ≤ (J2 : Int) := by omega
                    have p3 : (0 : Int) ≤ (J3 : Int) := by omega
                    have q0 : (J0 : Int) < (m : Int) := by omega
                    have q1 : (J1 : Int) < (m : Int) := by omega
                    have q2 : (J2 : Int) < (m : Int) := by omega
                    have q3 : (J3 : Int) < (m : Int) := by omega
                    have hcell : ∀ j, j < 4 → wr.drew.cell? ⟨b5, J0 + j, none⟩ = some (B (blk.getD (4 * i + j) 0)) := fun j hj => by
                      have h1 := hC.sb.cl (J0 + j) (by have := HM.out.1; omega)
                      rw [hJ0, Nat.add_assoc, HGB.out (4 * i + j) (by omega)] at h1
                      rw [hJ0, Nat.add_assoc]
                      exact h1
                    obtain ⟨x0, e0⟩ : ∃ x, x = blk.getD (4 * i) 0 := ⟨_, rfl⟩
                    obtain ⟨x1, e1⟩ : ∃ x, x = blk.getD (4 * i + 1) 0 := ⟨_, rfl⟩
                    obtain ⟨x2, e2⟩ : ∃ x, x = blk.getD (4 * i + 2) 0 := ⟨_, rfl⟩
                    obtain ⟨x3, e3⟩ : ∃ x, x = blk.getD (4 * i + 3) 0 := ⟨_, rfl⟩
                    have hc0 := hcell 0 (by omega)
                    have hc1 := hcell 1 (by omega)
                    have hc2 := hcell 2 (by omega)
                    have hc3 := hcell 3 (by omega)
                    rw [Nat.add_zero, Nat.add_zero, ← e0] at hc0
                    rw [← hJ1, ← e1] at hc1
                    rw [← hJ2, ← e2] at hc2
                    rw [← hJ3, ← e3] at hc3
                    have hx0 := x0.toNat_lt
                    have hx1 := x1.toNat_lt
                    have hx2 := x2.toNat_lt
                    have hx3 := x3.toNat_lt
                    have hc5 : wr.drew.cell? ⟨g9, i, none⟩ = some (D (gw (schS blk i) i)) := by rw [hC.r9.drew.cell]; exact AD_get _ _ (by rw [schS_len]; omega)
                    have hf5 : wr.drew.frozen? ⟨g9, i, none⟩ = false := hC.r9.drew.frozen i
                    have HEE := Lib.hid (⟨e0, e1, e2, e3⟩ : _ ∧ _ ∧ _ ∧ _)
                    have HCC := Lib.hid hC
                    have HI := Lib.hid (⟨hi, h16⟩ : _ ∧ _)
                    clear hcell e0 e1 e2 e3 hC hJ0 hJ1 hJ2 hJ3 hi h16 h64
                    go_upto_region 19 with (fail)
                    refine wp_region_qtail (fun w' => w' = _) 31 (by kernel_rfl) (by kernel_rfl) rfl ?_
                    simp only [List.take_succ_cons, List.take_zero, List.drop_succ_cons, List.drop_zero]
                    repeat (first | go_big_quiet_skip | (go_big_quiet_want; go_big_quiet_op; go_big_quiet_on))
                    refine wpQuiet_nil ?_
                    rintro _ rfl
                    go_wp2_with fail
                    go_roundg (gk - 1)
                    case measure => have := HI.out; omega
                    case rel =>
                      refine ⟨i + 1, by have := HI.out; omega, by go_num, ?_⟩
                      have := (HCC.out.below (Below.refl _ _).drew).set i (be4 x0 x1 x2 x3)
                      rw [be4_bits]
                      have e : schS blk (i + 1) = (schS blk i).set i (be4 x0 x1 x2 x3) := by
                        rw [schS, if_pos HI.out.2]
                        unfold wordS
                        rw [← HEE.out.1, ← HEE.out.2.1, ← HEE.out.2.2.1, ← HEE.out.2.2.2]
                      rw [e]
                      exact this
                    --P1>
                  · have i2 : ¬ (i : Int) < 16 := by omega
                    have z0 : (16 : Int) ≤ (i : Int) := by omega
                    have z2 : ((i : Int) - 15).toNat = i - 15 := by omega
                    have z3 : ((i : Int) - 2).toNat = i - 2 := by omega
                    have z4 : ((i : Int) - 16).toNat = i - 16 := by omega
                    have z5 : ((i : Int) - 7).toNat = i - 7 := by omega
                    have cell : ∀ (W : World) (j : Nat), j < 64 → Row W g9 142 (AD (schS blk i)) → W.cell? ⟨g9, j, none⟩ = some (D (gw (schS blk i) j)) := fun W j hj hr => by rw [hr.cell]; exact AD_get _ _ (by rw [schS_len]; exact hj)
                    have hcx := cell wr.drew (i - 15) (by omega) hC.r9.drew
                    have hcy := cell wr.drew (i - 2) (by omega) hC.r9.drew
                    obtain ⟨x, ex⟩ : ∃ x, x = gw (schS blk i) (i - 15) := ⟨_, rfl⟩
                    obtain ⟨y, ey⟩ : ∃ x, x = gw (schS blk i) (i - 2) := ⟨_, rfl⟩
                    obtain ⟨u, eu⟩ : ∃ x, x = gw (schS blk i) (i - 16) := ⟨_, rfl⟩
                    obtain ⟨v, ev⟩ : ∃ x, x = gw (schS blk i) (i - 7) := ⟨_, rfl⟩
                    rw [← ex] at hcx
                    rw [← ey] at hcy
                    have hau : (AD (schS blk i))[i - 16]? = some (D u) := by rw [eu]; exact AD_get _ _ (by rw [schS_len]; omega)
                    have hav : (AD (schS blk i))[i - 7]? = some (D v) := by rw [ev]; exact AD_get _ _ (by rw [schS_len]; omega)
                    obtain ⟨A9, hA9⟩ : ∃ A, A = AD (schS blk i) := ⟨_, rfl⟩
                    rw [← hA9] at hau hav
                    have HA9 := Lib.hid hA9
                    have HEE := Lib.hid (show mixW (schS blk i) i = aw (aw (aw u (s0 x)) v) (s1 y) by
                      unfold mixW
                      rw [← ex, ← ey, ← eu, ← ev, ← mix_doc])
                    have HCC := Lib.hid hC
                    have HI := Lib.hid (⟨hi, h16, h64⟩ : _ ∧ _ ∧ _)
                    have q64 : i < 64 := h64
                    clear cell ex ey eu ev hC hA9 hi h16 h64
                    --<P2
                    go_upto_region 20 with (fail)
                    refine wp_region_qtail (fun w' => w' = _) 9 (by kernel_rfl) (by kernel_rfl) rfl ?_
                    simp only [List.take_succ_cons, List.take_zero, List.drop_succ_cons, List.drop_zero]
                    repeat (first | go_big_quiet_skip | (go_big_quiet_want; go_big_quiet_op; go_big_quiet_on))
                    refine wpQuiet_nil ?_
                    rintro _ rfl
                    clear hcx hcy
                    go_upto_region 21 with (fail)
                    have HC2 := Lib.hid (HCC.out.below (Below.refl _ _).drew)
                    have hr9 : Row wr.drew.drew g9 142 A9 := by rw [HA9.out]; exact HC2.out.r9.drew
                    have hlt9 := hr9.lt
                    refine wp_region_qtail (Below wr.drew.drew.heap.size wr.drew.drew) 28 (by kernel_rfl) (by kernel_rfl) (Below.refl _ _) ?_
                    simp only [List.take_succ_cons, List.take_zero, List.drop_succ_cons, List.drop_zero]
                    iterate 6 (first | go_big_quiet_skip | (go_big_quiet_want; go_big_quiet_op; first | go_big_quiet_on | (refine ⟨_, fun _ _ => rfl, ?_⟩; go_big_quiet_on)) | (go_big_quiet_want; apply qb_load1 _ _ rfl _ _ rfl; rotate_left 2; (focus (intro _; simp [go_sem]; done)); rotate_right 2; assumption; assumption; assumption; (simp only [Act.put, lS]; go_big_quiet_on)) | (go_big_quiet_want; apply qb_loadA _ _ rfl _ _ rfl (sz := 16); rotate_left 2; (focus (intro _; simp [go_sem]; done)); (focus (intro _; simp [go_sem]; done)); rotate_right 2; assumption; assumption; assumption; assumption; (simp only [Act.put, lS]; go_big_quiet_on)))
                    (go_big_quiet_want; refine qb_call _ _ ?_ _ (fun w' _ => rturn_7 x w') (Nat.le_refl _) ?_; (focus (intro w; simp [go_sem]; done)); (simp only [Act.put, lS]; go_big_quiet_on))
                    (first | go_big_quiet_skip | (go_big_quiet_want; go_big_quiet_op; first | go_big_quiet_on | (refine ⟨_, fun _ _ => rfl, ?_⟩; go_big_quiet_on)) | (go_big_quiet_want; apply qb_load1 _ _ rfl _ _ rfl; rotate_left 2; (focus (intro _; simp [go_sem]; done)); rotate_right 2; assumption; assumption; assumption; (simp only [Act.put, lS]; go_big_quiet_on)) | (go_big_quiet_want; apply qb_loadA _ _ rfl _ _ rfl (sz := 16); rotate_left 2; (focus (intro _; simp [go_sem]; done)); (focus (intro _; simp [go_sem]; done)); rotate_right 2; assumption; assumption; assumption; assumption; (simp only [Act.put, lS]; go_big_quiet_on)))
                    (go_big_quiet_want; refine qb_call _ _ ?_ _ (fun w' _ => rturn_18 x w') (Nat.le_refl _) ?_; (focus (intro w; simp [go_sem]; done)); (simp only [Act.put, lS]; go_big_quiet_on))
                    iterate 11 (first | go_big_quiet_skip | (go_big_quiet_want; go_big_quiet_op; first | go_big_quiet_on | (refine ⟨_, fun _ _ => rfl, ?_⟩; go_big_quiet_on)) | (go_big_quiet_want; apply qb_load1 _ _ rfl _ _ rfl; rotate_left 2; (focus (intro _; simp [go_sem]; done)); rotate_right 2; assumption; assumption; assumption; (simp only [Act.put, lS]; go_big_quiet_on)) | (go_big_quiet_want; apply qb_loadA _ _ rfl _ _ rfl (sz := 16); rotate_left 2; (focus (intro _; simp [go_sem]; done)); (focus (intro _; simp [go_sem]; done)); rotate_right 2; assumption; assumption; assumption; assumption; (simp only [Act.put, lS]; go_big_quiet_on)))
                    (go_big_quiet_want; refine qb_call _ _ ?_ _ (fun w' _ => rturn_17 y w') (Nat.le_refl _) ?_; (focus (intro w; simp [go_sem]; done)); (simp only [Act.put, lS]; go_big_quiet_on))
                    (first | go_big_quiet_skip | (go_big_quiet_want; go_big_quiet_op; first | go_big_quiet_on | (refine ⟨_, fun _ _ => rfl, ?_⟩; go_big_quiet_on)) | (go_big_quiet_want; apply qb_load1 _ _ rfl _ _ rfl; rotate_left 2; (focus (intro _; simp [go_sem]; done)); rotate_right 2; assumption; assumption; assumption; (simp only [Act.put, lS]; go_big_quiet_on)) | (go_big_quiet_want; apply qb_loadA _ _ rfl _ _ rfl (sz := 16); rotate_left 2; (focus (intro _; simp [go_sem]; done)); (focus (intro _; simp [go_sem]; done)); rotate_right 2; assumption; assumption; assumption; assumption; (simp only [Act.put, lS]; go_big_quiet_on)))
                    (go_big_quiet_want; refine qb_call _ _ ?_ _ (fun w' _ => rturn_19 y w') (Nat.le_refl _) ?_; (focus (intro w; simp [go_sem]; done)); (simp only [Act.put, lS]; go_big_quiet_on))
                    iterate 5 (first | go_big_quiet_skip | (go_big_quiet_want; go_big_quiet_op; first | go_big_quiet_on | (refine ⟨_, fun _ _ => rfl, ?_⟩; go_big_quiet_on)) | (go_big_quiet_want; apply qb_load1 _ _ rfl _ _ rfl; rotate_left 2; (focus (intro _; simp [go_sem]; done)); rotate_right 2; assumption; assumption; assumption; (simp only [Act.put, lS]; go_big_quiet_on)) | (go_big_quiet_want; apply qb_loadA _ _ rfl _ _ rfl (sz := 16); rotate_left 2; (focus (intro _; simp [go_sem]; done)); (focus (intro _; simp [go_sem]; done)); rotate_right 2; assumption; assumption; assumption; assumption; (simp only [Act.put, lS]; go_big_quiet_on)))
                    refine wpQuiet_nil ?_
                    intro w7 hB7
                    have HC7 := Lib.hid ((HC2.out.below (Below.refl _ _).drew).below hB7)
                    have hc5 : w7.cell? ⟨g9, i, none⟩ = some (D (gw (schS blk i) i)) := by rw [HC7.out.r9.cell]; exact AD_get _ _ (by rw [schS_len]; exact q64)
                    have hf5 : w7.frozen? ⟨g9, i, none⟩ = false := HC7.out.r9.frozen i
                    clear hau hav hr9 hlt9 hB7
                    go_wp2_with fail
                    go_roundg (gk - 1)
                    case measure => have := HI.out; omega
                    case rel =>
                      refine ⟨i + 1, by have := HI.out; omega, by go_num, ?_⟩
                      have := HC7.out.set i (mixW (schS blk i) i)
                      rw [show schS blk (i + 1) = (schS blk i).set i (mixW (schS blk i) i) by rw [schS, if_neg HI.out.2.1]]
                      rw [HEE.out] at this ⊢
                      exact this
                    --P2>
                · obtain rfl : i = 64 := by omega
                  have z1 : ¬ ((64 : Nat) : Int) < 64 := by omega
                  obtain ⟨SC, hSC⟩ : ∃ S, S = schS blk 64 := ⟨_, rfl⟩
                  rw [← hSC] at hC
                  have hSCl : SC.length = 64 := by rw [hSC]; exact schS_len _ _
                  have hr3 := hC.sb.su.r3
                  have hH8 := HK.out.2.2.2
                  have q1 : (AD H).size = 8 := by rw [AD_size]; exact hH8
                  have hsub := sub_all (AD H) 8 q1
                  have q3 : allOne (AD H) = true := List.all_eq_true.2 fun u hu => by
                    obtain ⟨y, _, rfl⟩ := List.mem_map.1 (by simpa [AD] using hu)
                    rfl
                  have q4 : over (AD H) 0 (AD H) = AD H := over_all _ _ (by rw [q1])
                  have HSCC := Lib.hid (⟨hSC, hSCl, hH8⟩ : _ ∧ _ ∧ _)
                  have HC3 := Lib.hid hC
                  have hlt3 := hr3.lt
                  clear hC hSC hSCl hi h64 hH8
                  go_upto_region 23 with (fail)
                  --<P3
                  obtain ⟨g14, hg14⟩ : ∃ g, g = wr.heap.size := ⟨_, rfl⟩
                  rw [← zw8, ← hg14]
                  refine gen_wpR (SuD w g3 g4 b5 l4 H g9 SC g14 H) (by rw [hg14]; exact SuD.new HC3.out _ _) ?_
                  clear hg14 hr3 q1 hsub q3 q4 hlt3 HC3
                  intro w8 hD
                  have HD := Lib.hid hD
                  clear hD
                  go_wp2_with fail
                  go_loopg [15] 64 (fun gj t15 wx => ∃ (j : Nat) (v : S8), gj + j = 64 ∧ t15 = .int .i64 (j : Int) ∧ v = runS roundsS SC (ofS H) j ∧ SuD w g3 g4 b5 l4 H g9 SC g14 (s8L v) wx)
                  case atStart => exact ⟨0, ofS H, by omega, rfl, rfl, by rw [s8L_of HSCC.out.2.2]; exact HD.out⟩
                  case round =>
                    clear HD
                    obtain ⟨j, ⟨va, vb, vc, vd, ve, vf, vg, vh⟩, hj, rfl, hv, hD⟩ := hrel
                    by_cases h64 : j < 64
                    · have i1 : (j : Int) < 64 := by omega
                      have i0 : (0 : Int) ≤ (j : Int) := by omega
                      --<P4
                      obtain ⟨A14, hA14⟩ : ∃ A, A = AD (s8L ⟨va, vb, vc, vd, ve, vf, vg, vh⟩) := ⟨_, rfl⟩
                      have m0 : A14[0]? = some (D va) := by rw [hA14]; rfl
                      have m1 : A14[1]? = some (D vb) := by rw [hA14]; rfl
                      have m2 : A14[2]? = some (D vc) := by rw [hA14]; rfl
                      have m3 : A14[3]? = some (D vd) := by rw [hA14]; rfl
                      have m4 : A14[4]? = some (D ve) := by rw [hA14]; rfl
                      have m5 : A14[5]? = some (D vf) := by rw [hA14]; rfl
                      have m6 : A14[6]? = some (D vg) := by rw [hA14]; rfl
                      have m7 : A14[7]? = some (D vh) := by rw [hA14]; rfl
                      have m8 : A14.size = 8 := by rw [hA14]; rfl
                      have hrd : Row wr.drew g14 141 A14 := by rw [hA14]; exact hD.r14.drew
                      have hc4 : wr.drew.cell? ⟨g14, 4, none⟩ = some (D ve) := by rw [hrd.cell]; exact m4
                      have hc0 : wr.drew.cell? ⟨g14, 0, none⟩ = some (D va) := by rw [hrd.cell]; exact m0
                      obtain ⟨kk, ek⟩ : ∃ x, x = gw roundsS j := ⟨_, rfl⟩
                      obtain ⟨ww, ew⟩ : ∃ x, x = gw SC j := ⟨_, rfl⟩
                      obtain ⟨A4, hA4⟩ : ∃ A, A = AD roundsS := ⟨_, rfl⟩
                      obtain ⟨A9, hA9⟩ : ∃ A, A = AD SC := ⟨_, rfl⟩
                      have hak : A4[j]? = some (D kk) := by rw [hA4, ek]; exact AD_get _ _ h64
                      have haw : A9[j]? = some (D ww) := by rw [hA9, ew]; exact AD_get _ _ (by rw [HSCC.out.2.1]; exact h64)
                      have HD1 := Lib.hid hD
                      have HAA := Lib.hid (⟨hA14, hA4, hA9⟩ : _ ∧ _ ∧ _)
                      have HEE := Lib.hid (⟨ek, ew, hv⟩ : _ ∧ _ ∧ _)
                      have HI := Lib.hid (⟨hj, h64⟩ : _ ∧ _)
                      clear hA14 hA4 hA9 ek ew hv hD hj h64 hrd
                      go_upto_region 26 with (fail)
                      refine wp_region_qtail (fun w' => w' = _) 5 (by kernel_rfl) (by kernel_rfl) rfl ?_
                      simp only [List.take_succ_cons, List.take_zero, List.drop_succ_cons, List.drop_zero]
                      repeat (first | go_big_quiet_skip | (go_big_quiet_want; go_big_quiet_op; go_big_quiet_on))
                      refine wpQuiet_nil ?_
                      rintro _ rfl
                      clear hc4 hc0
                      go_upto_region 27 with (fail)
                      have HD2 := Lib.hid (HD1.out.below (Below.refl _ _).drew)
                      have hra : Row wr.drew.drew g14 141 A14 := by rw [HAA.out.1]; exact HD2.out.r14.drew
                      have hrb : Row wr.drew.drew g4 142 A4 := by rw [HAA.out.2.1]; exact HD2.out.sc.sb.su.r4.drew
                      have hrc : Row wr.drew.drew g9 142 A9 := by rw [HAA.out.2.2]; exact HD2.out.sc.r9.drew
                      have hla := hra.lt
                      have hlb := hrb.lt
                      have hlc := hrc.lt
                      refine wp_region_qtail (Below wr.drew.drew.heap.size wr.drew.drew) 29 (by kernel_rfl) (by kernel_rfl) (Below.refl _ _) ?_
                      simp only [List.take_succ_cons, List.take_zero, List.drop_succ_cons, List.drop_zero]
                      iterate 3 (first | go_big_quiet_skip | (go_big_quiet_want; go_big_quiet_op; first | go_big_quiet_on | (refine ⟨_, fun _ _ => rfl, ?_⟩; go_big_quiet_on)) | (go_big_quiet_want; apply qb_load1 _ _ rfl _ _ rfl; rotate_left 2; (focus (intro _; simp [go_sem]; done)); rotate_right 2; assumption; assumption; assumption; (simp only [Act.put, lS]; go_big_quiet_on)) | (go_big_quiet_want; apply qb_loadA _ _ rfl _ _ rfl (sz := 16); rotate_left 2; (focus (intro _; simp [go_sem]; done)); (focus (intro _; simp [go_sem]; done)); rotate_right 2; assumption; assumption; assumption; assumption; (simp only [Act.put, lS]; go_big_quiet_on)))
                      (go_big_quiet_want; refine qb_call _ _ ?_ _ (fun w' _ => rturn_6 ve w') (Nat.le_refl _) ?_; (focus (intro w; simp [go_sem]; done)); (simp only [Act.put, lS]; go_big_quiet_on))
                      (first | go_big_quiet_skip | (go_big_quiet_want; go_big_quiet_op; first | go_big_quiet_on | (refine ⟨_, fun _ _ => rfl, ?_⟩; go_big_quiet_on)) | (go_big_quiet_want; apply qb_load1 _ _ rfl _ _ rfl; rotate_left 2; (focus (intro _; simp [go_sem]; done)); rotate_right 2; assumption; assumption; assumption; (simp only [Act.put, lS]; go_big_quiet_on)) | (go_big_quiet_want; apply qb_loadA _ _ rfl _ _ rfl (sz := 16); rotate_left 2; (focus (intro _; simp [go_sem]; done)); (focus (intro _; simp [go_sem]; done)); rotate_right 2; assumption; assumption; assumption; assumption; (simp only [Act.put, lS]; go_big_quiet_on)))
                      (go_big_quiet_want; refine qb_call _ _ ?_ _ (fun w' _ => rturn_11 ve w') (Nat.le_refl _) ?_; (focus (intro w; simp [go_sem]; done)); (simp only [Act.put, lS]; go_big_quiet_on))
                      iterate 2 (first | go_big_quiet_skip | (go_big_quiet_want; go_big_quiet_op; first | go_big_quiet_on | (refine ⟨_, fun _ _ => rfl, ?_⟩; go_big_quiet_on)) | (go_big_quiet_want; apply qb_load1 _ _ rfl _ _ rfl; rotate_left 2; (focus (intro _; simp [go_sem]; done)); rotate_right 2; assumption; assumption; assumption; (simp only [Act.put, lS]; go_big_quiet_on)) | (go_big_quiet_want; apply qb_loadA _ _ rfl _ _ rfl (sz := 16); rotate_left 2; (focus (intro _; simp [go_sem]; done)); (focus (intro _; simp [go_sem]; done)); rotate_right 2; assumption; assumption; assumption; assumption; (simp only [Act.put, lS]; go_big_quiet_on)))
                      (go_big_quiet_want; refine qb_call _ _ ?_ _ (fun w' _ => rturn_25 ve w') (Nat.le_refl _) ?_; (focus (intro w; simp [go_sem]; done)); (simp only [Act.put, lS]; go_big_quiet_on))
                      iterate 20 (first | go_big_quiet_skip | (go_big_quiet_want; go_big_quiet_op; first | go_big_quiet_on | (refine ⟨_, fun _ _ => rfl, ?_⟩; go_big_quiet_on)) | (go_big_quiet_want; apply qb_load1 _ _ rfl _ _ rfl; rotate_left 2; (focus (intro _; simp [go_sem]; done)); rotate_right 2; assumption; assumption; assumption; (simp only [Act.put, lS]; go_big_quiet_on)) | (go_big_quiet_want; apply qb_loadA _ _ rfl _ _ rfl (sz := 16); rotate_left 2; (focus (intro _; simp [go_sem]; done)); (focus (intro _; simp [go_sem]; done)); rotate_right 2; assumption; assumption; assumption; assumption; (simp only [Act.put, lS]; go_big_quiet_on)))
                      refine wpQuiet_nil ?_
                      intro w9 hB9
                      have HD3 := Lib.hid ((HD2.out.below (Below.refl _ _).drew).below hB9)
                      clear hra hrb hrc hla hlb hlc hak haw hB9 HD2 HD1
                      go_upto_region 28 with (fail)
                      --<P5
                      have HD4 := Lib.hid (HD3.out.below (Below.refl _ _).drew)
                      have hra : Row w9.drew g14 141 A14 := by rw [HAA.out.1]; exact HD4.out.r14
                      have hla := hra.lt
                      refine wp_region_qtail (Below w9.drew.heap.size w9.drew) 23 (by kernel_rfl) (by kernel_rfl) (Below.refl _ _) ?_
                      simp only [List.take_succ_cons, List.take_zero, List.drop_succ_cons, List.drop_zero]
                      (first | go_big_quiet_skip | (go_big_quiet_want; go_big_quiet_op; first | go_big_quiet_on | (refine ⟨_, fun _ _ => rfl, ?_⟩; go_big_quiet_on)) | (go_big_quiet_want; apply qb_load1 _ _ rfl _ _ rfl; rotate_left 2; (focus (intro _; simp [go_sem]; done)); rotate_right 2; assumption; assumption; assumption; (simp only [Act.put, lS]; go_big_quiet_on)) | (go_big_quiet_want; apply qb_loadA _ _ rfl _ _ rfl (sz := 16); rotate_left 2; (focus (intro _; simp [go_sem]; done)); (focus (intro _; simp [go_sem]; done)); rotate_right 2; assumption; assumption; assumption; assumption; (simp only [Act.put, lS]; go_big_quiet_on)))
                      (go_big_quiet_want; refine qb_call _ _ ?_ _ (fun w' _ => rturn_2 va w') (Nat.le_refl _) ?_; (focus (intro w; simp [go_sem]; done)); (simp only [Act.put, lS]; go_big_quiet_on))
                      (first | go_big_quiet_skip | (go_big_quiet_want; go_big_quiet_op; first | go_big_quiet_on | (refine ⟨_, fun _ _ => rfl, ?_⟩; go_big_quiet_on)) | (go_big_quiet_want; apply qb_load1 _ _ rfl _ _ rfl; rotate_left 2; (focus (intro _; simp [go_sem]; done)); rotate_right 2; assumption; assumption; assumption; (simp only [Act.put, lS]; go_big_quiet_on)) | (go_big_quiet_want; apply qb_loadA _ _ rfl _ _ rfl (sz := 16); rotate_left 2; (focus (intro _; simp [go_sem]; done)); (focus (intro _; simp [go_sem]; done)); rotate_right 2; assumption; assumption; assumption; assumption; (simp only [Act.put, lS]; go_big_quiet_on)))
                      (go_big_quiet_want; refine qb_call _ _ ?_ _ (fun w' _ => rturn_13 va w') (Nat.le_refl _) ?_; (focus (intro w; simp [go_sem]; done)); (simp only [Act.put, lS]; go_big_quiet_on))
                      iterate 2 (first | go_big_quiet_skip | (go_big_quiet_want; go_big_quiet_op; first | go_big_quiet_on | (refine ⟨_, fun _ _ => rfl, ?_⟩; go_big_quiet_on)) | (go_big_quiet_want; apply qb_load1 _ _ rfl _ _ rfl; rotate_left 2; (focus (intro _; simp [go_sem]; done)); rotate_right 2; assumption; assumption; assumption; (simp only [Act.put, lS]; go_big_quiet_on)) | (go_big_quiet_want; apply qb_loadA _ _ rfl _ _ rfl (sz := 16); rotate_left 2; (focus (intro _; simp [go_sem]; done)); (focus (intro _; simp [go_sem]; done)); rotate_right 2; assumption; assumption; assumption; assumption; (simp only [Act.put, lS]; go_big_quiet_on)))
                      (go_big_quiet_want; refine qb_call _ _ ?_ _ (fun w' _ => rturn_22 va w') (Nat.le_refl _) ?_; (focus (intro w; simp [go_sem]; done)); (simp only [Act.put, lS]; go_big_quiet_on))
                      iterate 16 (first | go_big_quiet_skip | (go_big_quiet_want; go_big_quiet_op; first | go_big_quiet_on | (refine ⟨_, fun _ _ => rfl, ?_⟩; go_big_quiet_on)) | (go_big_quiet_want; apply qb_load1 _ _ rfl _ _ rfl; rotate_left 2; (focus (intro _; simp [go_sem]; done)); rotate_right 2; assumption; assumption; assumption; (simp only [Act.put, lS]; go_big_quiet_on)) | (go_big_quiet_want; apply qb_loadA _ _ rfl _ _ rfl (sz := 16); rotate_left 2; (focus (intro _; simp [go_sem]; done)); (focus (intro _; simp [go_sem]; done)); rotate_right 2; assumption; assumption; assumption; assumption; (simp only [Act.put, lS]; go_big_quiet_on)))
                      refine wpQuiet_nil ?_
                      intro w10 hB10
                      have HD5 := Lib.hid (HD4.out.below hB10)
                      have hr10 : Row w10 g14 141 A14 := by rw [HAA.out.1]; exact HD5.out.r14
                      clear hra hla hB10 HD4 HD3
                      have n0 := (Array.getElem?_eq_some_iff.1 m0).2
                      have n1 := (Array.getElem?_eq_some_iff.1 m1).2
                      have n2 := (Array.getElem?_eq_some_iff.1 m2).2
                      have n3 := (Array.getElem?_eq_some_iff.1 m3).2
                      have n4 := (Array.getElem?_eq_some_iff.1 m4).2
                      have n5 := (Array.getElem?_eq_some_iff.1 m5).2
                      have n6 := (Array.getElem?_eq_some_iff.1 m6).2
                      have n7 := (Array.getElem?_eq_some_iff.1 m7).2
                      go_wp2_with fail
                      go_roundg (gk - 1)
                      case measure => have := HI.out; omega
                      case rel =>
                        refine ⟨j + 1, oneS kk ww ⟨va, vb, vc, vd, ve, vf, vg, vh⟩, by have := HI.out; omega, by go_num, by rw [HEE.out.2.2, HEE.out.1, HEE.out.2.1]; rfl, ?_⟩
                        have := HD5.out.row (s8L (oneS kk ww ⟨va, vb, vc, vd, ve, vf, vg, vh⟩))
                        simp only [ch_doc, maj_doc]
                        rw [sum5, sum5r]
                        exact this
                      --P5>
                      --P4>
                    · obtain rfl : j = 64 := by omega
                      have i1 : ¬ ((64 : Nat) : Int) < 64 := by omega
                      obtain ⟨V, hV⟩ : ∃ V, V = s8L (⟨va, vb, vc, vd, ve, vf, vg, vh⟩ : S8) := ⟨_, rfl⟩
                      have hV8 : V.length = 8 := by rw [hV]; rfl
                      rw [← hV] at hD
                      have HAP := Lib.hid (show addP H V 8 = pressS H blk by
                        rw [hV, hv, HSCC.out.1]
                        exact addP_press H blk HSCC.out.2.2)
                      have HD := Lib.hid hD
                      have HV8 := Lib.hid hV8
                      clear hD hV hv hV8 hj h64
                      go_wp2_with fail
                      go_loopg [20] 8 (fun gj t20 wx => ∃ (j : Nat), gj + j = 8 ∧ t20 = .int .i64 (j : Int) ∧ SuD w g3 g4 b5 l4 (addP H V j) g9 SC g14 V wx)
                      case atStart => exact ⟨0, by omega, rfl, HD.out⟩
                      case round =>
                        clear HD
                        obtain ⟨j, hj, rfl, hD⟩ := hrel
                        by_cases h8 : j < 8
                        · have i3 : (j : Int) < 8 := by omega
                          have i0 : (0 : Int) ≤ (j : Int) := by omega
                          --<P6
                          obtain ⟨x, hx⟩ : ∃ x, x = gw H j := ⟨_, rfl⟩
                          obtain ⟨y, hy⟩ : ∃ x, x = gw V j := ⟨_, rfl⟩
                          have hc3 : wr.drew.cell? ⟨g3, j, none⟩ = some (D x) := by
                            rw [hD.sc.sb.su.r3.drew.cell, AD_get _ _ (by rw [addP_len, HSCC.out.2.2]; exact h8), addP_get _ _ _ _ (Nat.le_refl _), hx]
                          have hc14 : wr.drew.cell? ⟨g14, j, none⟩ = some (D y) := by
                            rw [hD.r14.drew.cell, AD_get _ _ (by rw [HV8.out]; exact h8), hy]
                          have hf3 : wr.drew.frozen? ⟨g3, j, none⟩ = false := hD.sc.sb.su.r3.drew.frozen j
                          have HD6 := Lib.hid ((hD.below (Below.refl _ _).drew).set3 j (aw x y))
                          have HST := Lib.hid (show addP H V (j + 1) = (addP H V j).set j (aw x y) by rw [addP, hx, hy])
                          have HI := Lib.hid (⟨hj, h8⟩ : _ ∧ _)
                          clear hD hj h8 hx hy
                          go_upto_region 33 with (fail)
                          refine wp_region_qtail (fun w' => w' = _) 8 (by kernel_rfl) (by kernel_rfl) rfl ?_
                          simp only [List.take_succ_cons, List.take_zero, List.drop_succ_cons, List.drop_zero]
                          repeat (first | go_big_quiet_skip | (go_big_quiet_want; go_big_quiet_op; go_big_quiet_on))
                          refine wpQuiet_nil ?_
                          rintro _ rfl
                          go_wp2_with fail
                          go_roundg (gk - 1)
                          case measure => have := HI.out; omega
                          case rel => exact ⟨j + 1, by have := HI.out; omega, by go_num, by rw [HST.out]; exact HD6.out⟩
                          --P6>
                        · obtain rfl : j = 8 := by omega
                          have i3 : ¬ ((8 : Nat) : Int) < 8 := by omega
                          --<P7
                          have HB9 := Lib.hid (show SuB w g3 g4 b5 l4 (pressAll startS (k + 1) l4) wr by rw [HNX.out, ← HAP.out]; exact hD.sc.sb)
                          clear hD hj h8
                          go_wp2_with fail
                          go_roundg (N - (k + 1))
                          case measure => have := HK.out; omega
                          case rel => exact ⟨k + 1, at' + 64, by have := HK.out; omega, by have := HK.out.2.1; omega, by go_num, HB9.out⟩
                          --P7>
                  --P3>
            · have y1 : ¬ (at' : Int) < (m : Int) := by have := HM.out; omega
              --<P8
              obtain ⟨H, hH⟩ : ∃ H, H = pressAll startS k l4 := ⟨_, rfl⟩
              have hH8 : H.length = 8 := by rw [hH]; exact pressAll_len _ _ rfl _
              have HRES := Lib.hid (show bytesS H = shaS L by
                have hkN' : k = l4.length / 64 := by have := HM.out; omega
                rw [hH, shaS, ← HE.out, hkN'])
              rw [← hH] at hB
              have HF := Lib.hid (show SuF w g3 H wr (.slice none 0 0) (bytesS (H.take 0)) from ⟨hB.su.r3, hB.su.bel, OwnW.nil _ _, hB.su.l3⟩)
              have HH8 := Lib.hid hH8
              clear hB hH hH8 hgk hat hkN
              go_wp2_with fail
              go_loopg [21, 22] 8 (fun gj t21 t22 wx => ∃ (j : Nat) (a : Option Addr) (c : Nat) (l : List UInt8), gj + j = 8 ∧ t22 = .int .i64 (j : Int) ∧ t21 = .slice a l.length c ∧ l = bytesS (H.take j) ∧ SuF w g3 H wx (.slice a l.length c) l)
              case atStart => exact ⟨0, none, 0, [], by omega, rfl, rfl, rfl, HF.out⟩
              case round =>
                clear HF
                obtain ⟨j, a, c, l, hj, rfl, rfl, hl, hF⟩ := hrel
                by_cases h8 : j < 8
                · have i3 : (j : Int) < 8 := by omega
                  have i0 : (0 : Int) ≤ (j : Int) := by omega
                  --<P9
                  obtain ⟨x, hx⟩ : ∃ x, x = gw H j := ⟨_, rfl⟩
                  have u0 : IntKind.u8.wrap ((x.toNat : Int) / 16777216) = ((UInt8.ofNat (x.toNat / 16777216)).toNat : Int) := by rw [← u8wrapS]; simp
                  have u1 : IntKind.u8.wrap ((x.toNat : Int) / 65536) = ((UInt8.ofNat (x.toNat / 65536)).toNat : Int) := by rw [← u8wrapS]; simp
                  have u2 : IntKind.u8.wrap ((x.toNat : Int) / 256) = ((UInt8.ofNat (x.toNat / 256)).toNat : Int) := by rw [← u8wrapS]; simp
                  have u3 : IntKind.u8.wrap (x.toNat : Int) = ((UInt8.ofNat x.toNat).toNat : Int) := u8wrapS _
                  obtain ⟨y0, hy0⟩ : ∃ y, y = UInt8.ofNat (x.toNat / 16777216) := ⟨_, rfl⟩
                  obtain ⟨y1, hy1⟩ : ∃ y, y = UInt8.ofNat (x.toNat / 65536) := ⟨_, rfl⟩
                  obtain ⟨y2, hy2⟩ : ∃ y, y = UInt8.ofNat (x.toNat / 256) := ⟨_, rfl⟩
                  obtain ⟨y3, hy3⟩ : ∃ y, y = UInt8.ofNat x.toNat := ⟨_, rfl⟩
                  rw [← hy0] at u0
                  rw [← hy1] at u1
                  rw [← hy2] at u2
                  rw [← hy3] at u3
                  have hlb : (bytesS (H.take j)).length = 4 * j := by rw [bytesS_len, List.length_take, HH8.out]; omega
                  have HNX := Lib.hid (show l ++ [y0, y1, y2, y3] = bytesS (H.take (j + 1)) by rw [bytesS_step H j (by rw [HH8.out]; exact h8), hl, hy0, hy1, hy2, hy3, hx]; rfl)
                  have hll : l.length ≤ 32 := by rw [hl, hlb]; omega
                  obtain ⟨A3, hA3⟩ : ∃ A, A = AD H := ⟨_, rfl⟩
                  have hax : A3[j]? = some (D x) := by rw [hA3, hx]; exact AD_get _ _ (by rw [HH8.out]; exact h8)
                  have hr3 : Row wr.drew g3 141 A3 := by rw [hA3]; exact hF.r3.drew
                  have hlt3 := hr3.lt
                  have HF2 := Lib.hid (hF.below (Below.refl _ _).drew)
                  have HI := Lib.hid (⟨hj, h8, hll⟩ : _ ∧ _ ∧ _)
                  clear hx hy0 hy1 hy2 hy3 hlb hl hA3 hF hj h8 hll
                  go_upto_region 38 with (fail)
                  refine wp_region_free 21 [257] (fun _ v w' => ∃ g, v = .slice (some ⟨g, 0, none⟩) 4 4 ∧ Row w' g 5 (AB [y0, y1, y2, y3])) (by kernel_rfl) (by kernel_rfl) (by kernel_rfl) ?hst ?h
                  case hst =>
                    intro d v w w' h hb
                    obtain ⟨g, h1, h2⟩ := h
                    exact ⟨g, h1, h2.below hb h2.lt⟩
                  case h =>
                  simp only [List.take_succ_cons, List.take_zero, List.drop_succ_cons, List.drop_zero]
                  apply Exists.intro
                  apply Exists.intro
                  refine ⟨?_, ?_, ?_⟩
                  · intro ν
                    iterate 20 (apply wpF_q rfl; focus (intro C hC hG; (first | go_big_quiet_skip | (go_big_quiet_want; go_big_quiet_op; first | go_big_quiet_on | (refine ⟨_, fun _ _ => rfl, ?_⟩; go_big_quiet_on)) | (go_big_quiet_want; apply qf_load1 _ _ rfl _ _ rfl; (exact hC); rotate_left 1; (focus (intro _; simp [go_sem]; done)); rotate_right 1; assumption; assumption; (simp only [Act.put, lS]; go_big_quiet_on)) | (go_big_quiet_want; apply qf_loadA _ _ rfl _ _ rfl (sz := 32); (exact hC); rotate_left 1; (focus (intro _; simp [go_sem]; done)); (focus (intro _; simp [go_sem]; done)); rotate_right 1; assumption; assumption; assumption; (simp only [Act.put, lS]; go_big_quiet_on))); exact wpQuiet_nil rfl))
                    apply wpF_alloc rfl rfl
                    · intro w hb _
                      refine ⟨.slice (some ⟨w.heap.size, 0, none⟩) 4 4, w.alloc (.cells (AB [y0, y1, y2, y3]) 5), ?_, ?_, (Below.refl _ w).alloc (Nat.le_refl _) _⟩
                      · simp [go_sem, AB]
                      · intro d hd
                        exact ⟨_, rfl, Row.new _ _ _⟩
                    simp only [Act.put, vqF, pS]
                    exact wpF_nil ⟨rfl, rfl⟩
                  · intro ν ν'
                    kernel_rfl
                  · intro ν w5 hw5 hf
                    obtain ⟨g5, hν, hr5⟩ : ∃ g, ν 257 = .slice (some ⟨g, 0, none⟩) 4 4 ∧ Row w5 g 5 (AB [y0, y1, y2, y3]) := hf 257 (by decide)
                    simp only [hν]
                    have HF5 := Lib.hid (HF2.out.below hw5)
                    have HS5 := Lib.hid (Row.slW (l := [y0, y1, y2, y3]) hr5 (by simp))
                    clear hf hw5 hr5 hr3 hlt3 hax
                    go_wp2_with (at_builtin; refine wpl_appW rfl (.tmp 237) (.tmp 257) rfl w.heap.size _ l rfl HF5.out.own (.slice (some ⟨g5, 0, none⟩) 4 4) [y0, y1, y2, y3] rfl HS5.out (by have := HI.out; simp; omega) HF5.out.bel.size ?_)
                    intro v6 w6 ho6 hg6 _
                    have HF6 := Lib.hid (HF5.out.app ho6 hg6)
                    obtain ⟨a6, c6, rfl, _⟩ := ho6.slb
                    clear ho6 hg6
                    go_wp2_with fail
                    go_roundg (gk - 1)
                    case measure => have := HI.out; omega
                    case rel => exact ⟨j + 1, a6, c6, l ++ [y0, y1, y2, y3], by have := HI.out; omega, by go_num, rfl, HNX.out, HF6.out⟩
                  --P9>
                · obtain rfl : j = 8 := by omega
                  have i3 : ¬ ((8 : Nat) : Int) < 8 := by omega
                  --<PA
                  have hle : l = shaS L := by rw [hl, ← HRES.out, List.take_of_length_le (by rw [HH8.out]; omega)]
                  subst hle
                  have hconv := run_conv_slb (P := Tryd.prog) wr 23 5 9 Tryd.underlying23 Tryd.underlying5 Tryd.underlying9 _ _ hF.own.slb
                  have HB := Lib.hid hF.bel
                  clear hl hF hj h8
                  go_wp2_with fail
                  go_ret
                  exact ⟨rfl, HB.out⟩
                  --PA>
              --P8>
    --B1>
end
end Go.Proofs.YtcfbiafedfkbhaaDoor
