/- What the laws on blocks share: the arrays' equality, count, none, blocks. -/
import Derived.Test.YtjopgogaipkdbaaQuiet
import Derived.Test.YtjopgogaipkdbaaSeal
import Derived.Test.YtjopgogaipkdbaaOpen
import Derived.Test.YtjopgogaipkdbaaNew
import Derived.Test.YtjopgogaipkdbaaNew32
import Derived.Test.YtjopgogaipkdbaaSealSpec
import Derived.Stop.BytesEq
namespace Go.Proofs.Ytjopgogaipkdbaa
open Go.RowKit

/-- Two blocks are the same. -/
theorem equal_blk (xs ys : List UInt8) (hx : xs.length = 16) (hy : ys.length = 16) (w : World) :
    (Op.equalIn 10000 23 (.agg (AB xs)) (.agg (AB ys))).run Try.prog w = .ok (xs == ys) w :=
  run_equalIn_bytes w 9998 23 5 16 Try.underlying23 Try.underlying5 (fun _ => by kernel_rfl) xs ys hx hy

attribute [go_sem] equal_blk
theorem none_any (w : World) : Calls Try.prog 19 #[] w fun e w' => e = .returned (.pointer none) ∧ w = w' := by
  go_enter Try.func19, Try.ntmps19
  go_wp2
  go_ret
  exact ⟨rfl, rfl⟩

def cnt (n : Nat) : List UInt8 := (List.range n).map UInt8.ofNat
theorem cnt_len (n : Nat) : (cnt n).length = n := by simp [cnt]
theorem cnt_succ (n : Nat) : cnt n ++ [UInt8.ofNat n] = cnt (n + 1) := by simp [cnt, List.range_succ]
theorem ofNat_int (k : Nat) (h : k < 256) : ((UInt8.ofNat k).toNat : Int) = k := by
  rw [UInt8.toNat_ofNat']; omega

set_option maxRecDepth 100000 in
set_option maxHeartbeats 2000000 in
theorem count16 (w : World) : Calls Try.prog 38 #[.int .i64 16] w fun e w' => ∃ v, e = .returned v ∧ SlB w' v (cnt 16) ∧ Below w.heap.size w w' := by
  go_enter Try.func38, Try.ntmps38
  go_wp2_with fail
  go_loopg [3, 4] 16 (fun n v i wr => ∃ k : Nat, n + k = 16 ∧ i = .int .i64 k ∧ Buf 5 wr w.heap.size v (cnt k) ∧ Below w.heap.size w wr)
  case atStart => exact ⟨0, by omega, rfl, by simpa [Buf, cnt] using World.ownsRow_nil w w.heap.size 5 1, Below.refl _ w⟩
  case round =>
    obtain ⟨k, hk, rfl, hbuf, hB⟩ := hrel
    have hsz := hB.size
    by_cases h : k < 16
    · have b1 : (k : Int) < 16 := by omega
      have hcl := cnt_len k
      obtain ⟨L, hL⟩ : ∃ L, L = cnt k := ⟨_, rfl⟩
      rw [← hL] at hbuf hcl
      have HL := Lib.hid hL
      clear hL
      go_wp2_with (at_builtin; refine wpl_append1 rfl (.tmp 10) (.tmp 13) 24 rfl Try.underlying24 info_u8 w.heap.size _ L rfl (hbuf.alloc _) wr.heap.size (UInt8.ofNat k) rfl ?c1 ?c2 ?c3 ?c4)
      case c1 => simp; omega
      case c2 => omega
      case c3 => simp; omega
      case c4 =>
        intro v' w' hbuf' hgrow
        have hB' : Below w.heap.size w w' := (hB.alloc hsz _).grown hgrow (by simp; omega) (fun j e => (hbuf.lt j e).1)
        have e8 : L ++ [UInt8.ofNat k] = cnt (k + 1) := by rw [HL.out, cnt_succ]
        have HB' := Lib.hid (e8 ▸ hbuf')
        clear hbuf' hgrow hB hbuf e8
        go_wp2_with fail
        go_roundg (gk - 1)
        case measure => omega
        case rel => exact ⟨k + 1, by omega, by go_num, HB'.out, hB'⟩
    · obtain rfl : k = 16 := by omega
      have hS := hbuf.slb
      have HS := Lib.hid hS
      clear hS hbuf
      go_wp2_with fail
      go_ret
      exact ⟨_, rfl, HS.out, hB⟩

/-! ### the standard's block -/
def elv (k : Nat) : List UInt8 := tab 16 fun i => if i < k then UInt8.ofNat (17 * i) else 0
theorem elv_len (k : Nat) : (elv k).length = 16 := tab_length _ _
theorem elv_zero : elv 0 = List.replicate 16 0 := by decide +kernel
theorem elv_step (k : Nat) : (elv k).set k (UInt8.ofNat (17 * k)) = elv (k + 1) := by
  unfold elv
  rw [tab_set]
  apply tab_congr
  intro i hi
  by_cases h1 : i = k
  · simp [h1]
  · by_cases h2 : i < k
    · simp [h1, h2, show i < k + 1 by omega]
    · simp [h1, h2, show ¬ i < k + 1 by omega]
theorem std_first : gb (sealN (expand (cnt 16)) 10 (elv 16) 10) 0 = 0x69 := by decide +kernel
theorem std_last : gb (sealN (expand (cnt 16)) 10 (elv 16) 10) 15 = 0x5A := by decide +kernel

set_option maxRecDepth 100000 in
set_option maxHeartbeats 2000000 in
theorem blocks_any (w : World) : Calls Try.prog 15 #[] w fun e w' => e = .returned (.bool true) ∧ Below w.heap.size w w' := by
  go_enter Try.func15, Try.ntmps15
  go_wp2_with (go_at_call 38; refine (count16 _).mono ?_; rintro e w1 ⟨v, rfl, hs1, hB1⟩)
  go_wp2_with (go_at_call 14; refine (new_ok _ _ _ hs1 (cnt_len 16)).mono ?_; rintro e w2 ⟨p, rfl, hK, hB2⟩; obtain ⟨kb, rfl⟩ : ∃ kb, p = .pointer (some ⟨kb, 0, none⟩) := (let ⟨kb, _, _, _, h, _⟩ := hK; ⟨kb, h⟩); clear hs1; replace hB2 := hB1.trans (hB2.mono hB1.size); clear hB1)
  obtain ⟨W, hW⟩ : ∃ W, W = expand (cnt 16) := ⟨_, rfl⟩
  rw [← hW] at hK
  have HW := Lib.hid hW
  clear hW
  have hsz := hB2.size
  go_loopg [4] 16 (fun n i wr => ∃ k : Nat, n + k = 16 ∧ i = .int .i64 k ∧ Row wr w2.heap.size 23 (AB (elv k)) ∧ Below w2.heap.size w2 wr)
  case atStart => exact ⟨0, by omega, rfl, by rw [elv_zero]; exact Row.new _ _ _, (Below.refl _ _).alloc (Nat.le_refl _) _⟩
  case round =>
    obtain ⟨k, hk, rfl, hR, hB⟩ := hrel
    have hlt := hR.lt
    have hlen := elv_len k
    by_cases h : k < 16
    · have b1 : (k : Int) < 16 := by omega
      have hv : Value.int .u8 (17 * (k : Int)) = B (UInt8.ofNat (17 * k)) := by rw [B, ofNat_int _ (by omega)]; congr 1
      have HV := Lib.hid hv
      clear hv
      go_wp2_with fail
      go_roundg (gk - 1)
      case measure => omega
      case rel => exact ⟨k + 1, by omega, by go_num, by rw [HV.out, ← elv_step]; exact hR.setByte k _, hB.setCell (Nat.le_refl _) _⟩
    · obtain rfl : k = 16 := by omega
      have HK := hK.below hB
      have HB := Lib.hid (hB2.trans (hB.mono hsz))
      obtain ⟨b, hb⟩ : ∃ b, b = elv 16 := ⟨_, rfl⟩
      rw [← hb] at hR hlen
      have Hb := Lib.hid hb
      clear hK hB hB2 hb
      have hcc : ∀ c, c = sealN W 10 b 10 → c.length = 16 ∧ gb c 0 = 0x69 ∧ gb c 15 = 0x5A := by
        rintro c rfl
        exact ⟨sealN_len _ _ _ _, by rw [HW.out, Hb.out]; exact std_first, by rw [HW.out, Hb.out]; exact std_last⟩
      have Hcc := Lib.hid hcc
      clear hcc
      go_wp2_with (go_at_call 16; refine (seal_any _ _ 10 _ _ HK hlen).mono ?_; rintro e w3 ⟨rfl, hB3⟩; obtain ⟨c, hc⟩ : ∃ c, c = sealN W 10 b 10 := ⟨_, rfl⟩; rw [← hc]; obtain ⟨hcl, hc0, hc15⟩ := Hcc.out c hc; have HC := Lib.hid hc; clear hc)
      obtain ⟨wz, hwz⟩ : ∃ wz, wz = ((w3.alloc (.cells #[.int .u8 0, .int .u8 0, .int .u8 0, .int .u8 0, .int .u8 0, .int .u8 0, .int .u8 0, .int .u8 0, .int .u8 0, .int .u8 0, .int .u8 0, .int .u8 0, .int .u8 0, .int .u8 0, .int .u8 0, .int .u8 0] 23)).setRow w3.heap.size (AB c)) := ⟨_, rfl⟩
      rw [← hwz]
      have hBz : Below w3.heap.size w3 wz := by rw [hwz]; exact bSetRow ((Below.refl _ _).alloc (Nat.le_refl _) _) (Nat.le_refl _) _
      have hC : Row wz w3.heap.size 23 (AB c) := by rw [hwz]; exact (Row.new _ _ _).setRow _
      have hKz := (HK.below hB3).below hBz
      have hRz := (hR.below hB3 hR.lt).below hBz (Nat.lt_of_lt_of_le hR.lt hB3.size)
      have hBw : Below w.heap.size w wz := (HB.out.trans (hB3.mono HB.out.size)).trans (hBz.mono (Nat.le_trans HB.out.size hB3.size))
      clear HK hR hB3 HB hBz hwz Hcc HW Hb
      have l1 := hC.lt
      have l2 := hRz.lt
      have g0 : (AB c)[0]? = some (.int .u8 105) := by rw [AB_get _ _ (by omega), hc0]; rfl
      have g15 : (AB c)[15]? = some (.int .u8 90) := by rw [AB_get _ _ (by omega), hc15]; rfl
      have sc : sub (AB c) 0 16 = AB c := sub_all _ _ (by rw [AB_size, hcl])
      have sb : sub (AB b) 0 16 = AB b := sub_all _ _ (by rw [AB_size, hlen])
      have sz1 : 0 + 16 ≤ (AB c).size := by rw [AB_size, hcl]; omega
      have sz2 : 0 + 16 ≤ (AB b).size := by rw [AB_size, hlen]; omega
      have hopen : openD W 10 10 c = b := by rw [HC.out]; exact openD_sealN W 10 b hlen 10
      refine wp_region_qtail (Below wz.heap.size wz) 15 (by kernel_rfl) (by kernel_rfl) (Below.refl _ _).drew ?_
      simp only [List.take_succ_cons, List.take_zero, List.drop_succ_cons, List.drop_zero]
      repeat (first | go_big_quiet_skip | (go_big_quiet_want; go_big_quiet_op; first | go_big_quiet_on | (refine ⟨_, fun _ _ => rfl, ?_⟩; go_big_quiet_on)) | (go_big_quiet_want; apply qb_load1 _ _ rfl _ _ rfl; rotate_left 2; (focus (intro _; simp [go_sem]; done)); rotate_right 2; assumption; assumption; assumption; (simp only [Act.put, List.setIfInBounds_toArray, List.set_cons_zero, List.set_cons_succ]; go_big_quiet_on)) | (go_big_quiet_want; apply qb_loadA _ _ rfl _ _ rfl (sz := 16); rotate_left 2; (focus (intro _; simp [go_sem]; done)); (focus (intro _; simp [go_sem]; done)); rotate_right 2; assumption; assumption; assumption; assumption; (simp only [Act.put, List.setIfInBounds_toArray, List.set_cons_zero, List.set_cons_succ]; go_big_quiet_on)))
      go_big_quiet_want
      refine qb_call 18 #[.pointer (some ⟨kb, 0, none⟩), .agg (AB c)] (fun w => by simp [go_sem]) (.agg (AB b)) (fun w' hw' => ?_) (Nat.le_refl _) ?_
      · have := open_any _ W 10 c w' (hKz.below hw') hcl
        rwa [hopen] at this
      (simp only [Act.put, List.setIfInBounds_toArray, List.set_cons_zero, List.set_cons_succ]; go_big_quiet_on)
      repeat (first | go_big_quiet_skip | (go_big_quiet_want; go_big_quiet_op; first | go_big_quiet_on | (refine ⟨_, fun _ _ => rfl, ?_⟩; go_big_quiet_on)) | (go_big_quiet_want; apply qb_load1 _ _ rfl _ _ rfl; rotate_left 2; (focus (intro _; simp [go_sem]; done)); rotate_right 2; assumption; assumption; assumption; (simp only [Act.put, List.setIfInBounds_toArray, List.set_cons_zero, List.set_cons_succ]; go_big_quiet_on)) | (go_big_quiet_want; apply qb_loadA _ _ rfl _ _ rfl (sz := 16); rotate_left 2; (focus (intro _; simp [go_sem]; done)); (focus (intro _; simp [go_sem]; done)); rotate_right 2; assumption; assumption; assumption; assumption; (simp only [Act.put, List.setIfInBounds_toArray, List.set_cons_zero, List.set_cons_succ]; go_big_quiet_on)))
      refine wpQuiet_nil ?_
      intro w' hw'
      have HB := hBw.trans (hw'.mono hBw.size)
      go_wp2
      go_ret
      exact ⟨rfl, HB⟩
end Go.Proofs.Ytjopgogaipkdbaa
