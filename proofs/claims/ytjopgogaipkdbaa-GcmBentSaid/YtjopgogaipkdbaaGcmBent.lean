/- The law GcmBent: the walk. -/
import Derived.Test.YtjopgogaipkdbaaBentEnd
import Derived.Test.YtjopgogaipkdbaaLawKit
import Derived.Deep.CutBlock
namespace Go.Proofs.Ytjopgogaipkdbaa
open Go.RowKit

theorem slb_pre {w : World} {g cap : Nat} {T : TypeId} {cur : Array Value} {l : List UInt8} (hr : Row w g T cur) (hp : Pre cur l) (h1 : l.length ≤ cap) (h2 : cap ≤ maxLen) (h3 : cur.size = cap) : SlB w (.slice (some ⟨g, 0, none⟩) l.length cap) l := (Buf.mk' (base := 0) hr hp h1 h2 h3 (Nat.zero_le _)).slb
theorem set_xr_zero {l : List UInt8} {k : Nat} (hk : k < l.length) : l.set k (xr (gb l k) 0) = l := by
  have e : xr (gb l k) 0 = l[k] := by
    unfold xr
    rw [UInt8.xor_zero]
    simp [gb, hk]
  rw [e, List.set_getElem_self]
theorem wrap64_small (k : Nat) (h : k ≤ 1000) : wrap64 (k : Int) = (k : Int) := by unfold wrap64; omega
theorem bent2 (k L j : Nat) (h : k = j + (L + 16)) (hj : j < 12) (hL : L ≤ 1000) : (k : Int) < (L : Int) + 28 ∧ IntKind.i64.wrap ((L : Int) + 16 + 12) = (L : Int) + 28 ∧ IntKind.i64.wrap ((k : Int) - ((L : Int) + 16)) = (j : Int) ∧ (k : Int) - ((L : Int) + 16) = (j : Int) ∧ (0 : Int) ≤ (j : Int) ∧ (j : Int) < 12 ∧ ((j : Int)).toNat = j := by
  refine ⟨by omega, ?_, ?_, by omega, by omega, by omega, by omega⟩
  · rw [IntKind.wrap_i64]; omega
  · rw [IntKind.wrap_i64]; omega
theorem bent3 (k L j b : Nat) (h : k = j + (L + 28)) (hj : j < b) (hb : b ≤ 1000) (hL : L ≤ 1000) : ¬ (k : Int) < (L : Int) + 28 ∧ IntKind.i64.wrap ((L : Int) + 16 + 12) = (L : Int) + 28 ∧ IntKind.i64.wrap ((k : Int) - ((L : Int) + 16)) = (j : Int) + 12 ∧ (k : Int) - ((L : Int) + 16) = (j : Int) + 12 ∧ (0 : Int) ≤ (j : Int) ∧ (j : Int) < (b : Int) ∧ ((j : Int)).toNat = j ∧ IntKind.i64.wrap ((j : Int) + 12 - 12) = (j : Int) ∧ (j : Int) + 12 - 12 = (j : Int) := by
  refine ⟨by omega, ?_, ?_, by omega, by omega, by omega, by omega, ?_, by omega⟩
  · rw [IntKind.wrap_i64]; omega
  · rw [IntKind.wrap_i64]; omega
  · rw [IntKind.wrap_i64]; omega
theorem equal_lit (w : World) : (Op.equalIn 10000 23 (.agg #[.int .u8 0, .int .u8 0, .int .u8 0, .int .u8 0, .int .u8 0, .int .u8 0, .int .u8 0, .int .u8 0, .int .u8 0, .int .u8 0, .int .u8 0, .int .u8 0, .int .u8 0, .int .u8 0, .int .u8 0, .int .u8 0]) (.agg #[.int .u8 0, .int .u8 0, .int .u8 0, .int .u8 0, .int .u8 0, .int .u8 0, .int .u8 0, .int .u8 0, .int .u8 0, .int .u8 0, .int .u8 0, .int .u8 0, .int .u8 0, .int .u8 0, .int .u8 0, .int .u8 0])).run Try.prog w = .ok true w := by
  have := run_equalIn_bytes (P := Try.prog) w 9998 23 5 16 Try.underlying23 Try.underlying5 (fun _ => by kernel_rfl) (List.replicate 16 0) (List.replicate 16 0) rfl rfl
  rw [show (List.replicate 16 (0 : UInt8) == List.replicate 16 0) = true by rfl] at this
  exact this
attribute [local go_sem] equal_lit
/-- What the switch has left. -/
def BentR (x : UInt8) (k : Nat) (A nonce bs s n b : List UInt8) : Prop :=
  (x = 0 ∧ s = A ∧ n = nonce ∧ b = bs) ∨ (x ≠ 0 ∧ k < A.length ∧ s = A.set k (xr (gb A k) x) ∧ n = nonce ∧ b = bs) ∨ (x ≠ 0 ∧ ¬ k < A.length ∧ s = A)
set_option maxRecDepth 100000 in
set_option maxHeartbeats 8000000 in
theorem gcmBent_any (key nonce l0 bs0 : List UInt8) (short : Bool) (vp vb : Value) (at' : Int) (x : UInt8) (w : World) (hk : key.length = 32) (hn : nonce.length = 12) (hp : SlB w vp l0) (hb : SlB w vb bs0) :
    Calls Try.prog 13 #[.agg (letC key short nonce vp vb), .int .i64 at', B x] w fun e w' => e = .returned (.bool true) ∧ Below w.heap.size w w' := by
  have hsz := letC_size (short := short) (vp := vp) (vb := vb) hk hn
  have hno := letC_nonce (short := short) (vp := vp) (vb := vb) hk hn
  have hkk := keyOf_len key short hk
  have HKEY := Lib.hid (fun w => lkey_any key nonce short vp vb w hk)
  have HPL := Lib.hid (fun w h => lplain_any key nonce short vp vb l0 w hk hn h)
  have HBE := Lib.hid (fun w h => lbeside_any key nonce short vp vb bs0 w hk hn h)
  obtain ⟨C, hC⟩ : ∃ C, C = letC key short nonce vp vb := ⟨_, rfl⟩
  rw [← hC] at hsz hno HKEY HPL HBE ⊢
  clear hC
  obtain ⟨K, hK⟩ : ∃ K, K = keyOf key short := ⟨_, rfl⟩
  rw [← hK] at HKEY hkk
  obtain ⟨bs, hbs⟩ : ∃ l, l = bs0.take 60 := ⟨_, rfl⟩
  obtain ⟨l, hl⟩ : ∃ l, l = l0.take 100 := ⟨_, rfl⟩
  rw [← hl] at HPL
  rw [← hbs] at HBE
  have hll : l.length ≤ 100 := by rw [hl]; simp; omega
  have hbl : bs.length ≤ 60 := by rw [hbs]; simp; omega
  have hsc := sub_all C 47 hsz
  have z47 : 0 + 47 ≤ C.size := by rw [hsz]; decide
  have z33 : 33 + 12 ≤ C.size := by rw [hsz]; decide
  have hn16 := (AB_size nonce).trans hn
  have HN := Lib.hid hn
  have HSZ := Lib.hid hsz
  have HP := Lib.hid hp
  have HB := Lib.hid hb
  clear hK hk hn hp hb hsz hbs hl
  go_enter Try.func13, Try.ntmps13
  go_wp2_with fail
  refine (HKEY.out _).mono ?_
  rintro e w1 ⟨v1, rfl, hb1, hB1⟩
  have i1 := (Row.new w 50 C).below hB1 (by simp)
  have hA1 : Below w.heap.size w w1 := ((Below.refl _ w).alloc (Nat.le_refl _) _).trans (hB1.mono (by simp))
  have HS1 := Lib.hid hb1.slb
  clear hb1 hB1
  go_wp2_with fail
  refine (gnew_ok v1 K _ HS1.out hkk).mono ?_
  rintro e w2 ⟨p, rfl, hbx, hB2⟩
  obtain ⟨xb, hpx⟩ : ∃ xb, p = .pointer (some ⟨xb, 0, none⟩) := let ⟨a, _, h, _⟩ := hbx; ⟨a, h⟩
  subst hpx
  have i2 := i1.below hB2 i1.lt
  have hA2 := hA1.trans (hB2.mono hA1.size)
  have HBX := Lib.hid hbx
  clear hbx hB2 i1 hA1 HS1
  go_wp2_with fail
  refine (gboxes_any _).mono ?_
  rintro e w3 ⟨rfl, hb3⟩
  have i3 := i2.below hb3 i2.lt
  have hA3 := hA2.trans (hb3.mono hA2.size)
  have HBX := Lib.hid (HBX.out.below hb3)
  clear i2 hA2 hb3
  go_upto_region 4 with (fail)
  have HI3 := Lib.hid i3
  have HBX3 := Lib.hid HBX.out
  go_wp2_with fail
  refine (HBE.out _ (HB.out.below hA3)).mono ?_
  rintro e w4 ⟨v9, rfl, hb4, hB4⟩
  have i4 := i3.below hB4 i3.lt
  have HA3 := Lib.hid hA3
  have HB4 := Lib.hid hB4
  have HBX := Lib.hid (HBX.out.below hB4)
  have q4 := hB4.size
  have H9 := Lib.hid (show Buf 5 w4 w3.heap.size v9 bs from hb4)
  clear i3 hA3 hB4 hb4
  go_upto_region 5 with (fail)
  have i5 := i4.drew
  have hB5 : Below w3.heap.size w3 w4.drew := HB4.out.drew
  have HBX := Lib.hid (HBX.out.below (Below.refl _ _).drew)
  have HP5 := Lib.hid (HP.out.below (HA3.out.trans (hB5.mono HA3.out.size)))
  have H9 := Lib.hid (show Buf 5 w4.drew w3.heap.size v9 bs from H9.out.grow (Below.refl _ _).drew)
  clear i4 HB4
  obtain ⟨A, hA⟩ : ∃ A, A = sealB (expand K) (lastOf K) (hOf K) nonce l bs := ⟨_, rfl⟩
  have hAl : A.length = l.length + 16 := by rw [hA, sealB_len]
  have hsA : ∀ w' vp' vb', BoxAt 84 67 23 w' (.pointer (some ⟨xb, 0, none⟩)) (expand K) (lastOf K) (hOf K) → SlB w' vp' l → SlB w' vb' bs → Calls Try.prog 27 #[.pointer (some ⟨xb, 0, none⟩), .agg (AB nonce), vp', vb'] w' fun e w'' => ∃ v', e = .returned v' ∧ Buf 5 w'' w'.heap.size v' A ∧ Below w'.heap.size w' w'' := fun w' vp' vb' h1 h2 h3 => by
    rw [hA]
    exact gseal_any _ _ _ _ nonce _ _ l bs w' h1 HN.out h2 (by omega) h3 (by omega)
  have HSA := Lib.hid hsA
  have HAE := Lib.hid hA
  have HAL := Lib.hid hAl
  clear hA hAl hsA
  refine wp_region_free 7 [33, 35] (bufF 5 w4.drew.heap.size (fun d => if d = 35 then A else l)) (by kernel_rfl) (by kernel_rfl) (by kernel_rfl) (bufF_stab _ _ _) ?_
  simp only [List.take_succ_cons, List.take_zero, List.drop_succ_cons, List.drop_zero]
  apply Exists.intro
  apply Exists.intro
  refine ⟨?_, ?_, ?_⟩
  · intro ν
    repeat (apply wpF_q rfl; focus (intro C hC hG; (first | go_big_quiet_skip | (go_big_quiet_want; go_big_quiet_op; first | go_big_quiet_on | (refine ⟨_, fun _ _ => rfl, ?_⟩; go_big_quiet_on)) | (go_big_quiet_want; apply qf_load1 _ _ rfl _ _ rfl; (exact hC); rotate_left 1; (focus (intro _; simp [go_sem]; done)); rotate_right 1; assumption; assumption; (simp only [Act.put, List.setIfInBounds_toArray, List.set_cons_zero, List.set_cons_succ]; go_big_quiet_on)) | (go_big_quiet_want; apply qf_loadA _ _ rfl _ _ rfl (sz := 47); (exact hC); rotate_left 1; (focus (intro _; simp [go_sem]; done)); (focus (intro _; simp [go_sem]; done)); rotate_right 1; assumption; assumption; assumption; (simp only [Act.put, List.setIfInBounds_toArray, List.set_cons_zero, List.set_cons_succ]; go_big_quiet_on)) | (go_big_quiet_want; apply qf_loadA _ _ rfl _ _ rfl (sz := 12); (exact hC); rotate_left 1; (focus (intro _; simp [go_sem]; done)); (focus (intro _; simp [go_sem]; done)); rotate_right 1; assumption; assumption; assumption; (simp only [Act.put, List.setIfInBounds_toArray, List.set_cons_zero, List.set_cons_succ]; go_big_quiet_on)) | (go_big_quiet_want; apply qf_loadA _ _ rfl _ _ rfl (sz := 16); (exact hC); rotate_left 1; (focus (intro _; simp [go_sem]; done)); (focus (intro _; simp [go_sem]; done)); rotate_right 1; assumption; assumption; assumption; (simp only [Act.put, List.setIfInBounds_toArray, List.set_cons_zero, List.set_cons_succ]; go_big_quiet_on)) | (go_big_quiet_want; apply qf_loadA _ _ rfl _ _ rfl (sz := 32); (exact hC); rotate_left 1; (focus (intro _; simp [go_sem]; done)); (focus (intro _; simp [go_sem]; done)); rotate_right 1; assumption; assumption; assumption; (simp only [Act.put, List.setIfInBounds_toArray, List.set_cons_zero, List.set_cons_succ]; go_big_quiet_on)) | (go_big_quiet_want; apply qf_loadA _ _ rfl _ _ rfl (sz := 2); (exact hC); rotate_left 1; (focus (intro _; simp [go_sem]; done)); (focus (intro _; simp [go_sem]; done)); rotate_right 1; assumption; assumption; assumption; (simp only [Act.put, List.setIfInBounds_toArray, List.set_cons_zero, List.set_cons_succ]; go_big_quiet_on))); exact wpQuiet_nil rfl))
    (apply wpF_free; (focus rfl); (focus rfl); (exact (fun w hb _ => bufX hb (Nat.le_refl _) rfl (HPL.out w (HP5.out.below hb)))); (focus (intro w; simp [go_sem]; done)); simp only [Act.put, vqF, Option.toList_some, List.cons_append, List.nil_append, List.setIfInBounds_toArray, List.set_cons_zero, List.set_cons_succ])
    repeat (apply wpF_q rfl; focus (intro C hC hG; (first | go_big_quiet_skip | (go_big_quiet_want; go_big_quiet_op; first | go_big_quiet_on | (refine ⟨_, fun _ _ => rfl, ?_⟩; go_big_quiet_on)) | (go_big_quiet_want; apply qf_load1 _ _ rfl _ _ rfl; (exact hC); rotate_left 1; (focus (intro _; simp [go_sem]; done)); rotate_right 1; assumption; assumption; (simp only [Act.put, List.setIfInBounds_toArray, List.set_cons_zero, List.set_cons_succ]; go_big_quiet_on)) | (go_big_quiet_want; apply qf_loadA _ _ rfl _ _ rfl (sz := 47); (exact hC); rotate_left 1; (focus (intro _; simp [go_sem]; done)); (focus (intro _; simp [go_sem]; done)); rotate_right 1; assumption; assumption; assumption; (simp only [Act.put, List.setIfInBounds_toArray, List.set_cons_zero, List.set_cons_succ]; go_big_quiet_on)) | (go_big_quiet_want; apply qf_loadA _ _ rfl _ _ rfl (sz := 12); (exact hC); rotate_left 1; (focus (intro _; simp [go_sem]; done)); (focus (intro _; simp [go_sem]; done)); rotate_right 1; assumption; assumption; assumption; (simp only [Act.put, List.setIfInBounds_toArray, List.set_cons_zero, List.set_cons_succ]; go_big_quiet_on)) | (go_big_quiet_want; apply qf_loadA _ _ rfl _ _ rfl (sz := 16); (exact hC); rotate_left 1; (focus (intro _; simp [go_sem]; done)); (focus (intro _; simp [go_sem]; done)); rotate_right 1; assumption; assumption; assumption; (simp only [Act.put, List.setIfInBounds_toArray, List.set_cons_zero, List.set_cons_succ]; go_big_quiet_on)) | (go_big_quiet_want; apply qf_loadA _ _ rfl _ _ rfl (sz := 32); (exact hC); rotate_left 1; (focus (intro _; simp [go_sem]; done)); (focus (intro _; simp [go_sem]; done)); rotate_right 1; assumption; assumption; assumption; (simp only [Act.put, List.setIfInBounds_toArray, List.set_cons_zero, List.set_cons_succ]; go_big_quiet_on)) | (go_big_quiet_want; apply qf_loadA _ _ rfl _ _ rfl (sz := 2); (exact hC); rotate_left 1; (focus (intro _; simp [go_sem]; done)); (focus (intro _; simp [go_sem]; done)); rotate_right 1; assumption; assumption; assumption; (simp only [Act.put, List.setIfInBounds_toArray, List.set_cons_zero, List.set_cons_succ]; go_big_quiet_on))); exact wpQuiet_nil rfl))
    (apply wpF_free; (focus rfl); (focus rfl); (exact (fun w hb hf => bufX hb (Nat.le_refl _) rfl (HSA.out w _ _ (HBX.out.below hb) (bufS (l := l) (hf 33 (by decide) rfl) rfl) (H9.out.grow hb).slb))); (focus (intro w; simp [go_sem]; done)); simp only [Act.put, vqF, Option.toList_some, List.cons_append, List.nil_append, List.setIfInBounds_toArray, List.set_cons_zero, List.set_cons_succ])
    exact wpF_nil ⟨rfl, rfl⟩
  · intro ν ν'
    kernel_rfl
  · intro ν w5 hw5 hf
    have h35 : Buf 5 w5 w4.drew.heap.size (ν 35) A := hf 35 (by decide)
    obtain ⟨v10, hv10⟩ : ∃ v, v = ν 35 := ⟨_, rfl⟩
    rw [← hv10] at h35 ⊢
    obtain ⟨gs, cs, cur, e10, hgs, hrs, hc1, hm1, hz1, hpre⟩ := h35.open (by have := HAL.out; omega)
    have e10' := e10.trans (by rw [HAL.out])
    subst e10'
    have hB6 := hB5.trans (hw5.mono hB5.size)
    have hW5 := hw5
    have i6 := i5.below hw5 i5.lt
    clear hw5 hf hv10 e10 h35
    go_upto_region 7 with (fail)
    obtain ⟨a9, c9, e9, m9⟩ : ∃ a c, v9 = .slice a bs.length c ∧ bs.length ≤ c := by
      obtain ⟨a, c, h, h1, _⟩ := H9.out.slb
      exact ⟨a, c, h, h1⟩
    subst e9
    obtain ⟨w6, hw6⟩ : ∃ w6, w6 = (w5.alloc (.cells #[.int .u8 0, .int .u8 0, .int .u8 0, .int .u8 0, .int .u8 0, .int .u8 0, .int .u8 0, .int .u8 0, .int .u8 0, .int .u8 0, .int .u8 0, .int .u8 0] 48)).setRow w5.heap.size (AB nonce) := ⟨_, rfl⟩
    rw [← hw6]
    have hb56 : Below w5.heap.size w5 w6 := by rw [hw6]; exact bSetRow ((Below.refl _ w5).alloc (Nat.le_refl _) _) (Nat.le_refl _) _
    have r11 : Row w6 w5.heap.size 48 (AB nonce) := by rw [hw6]; exact (Row.new w5 _ _).setRow _
    have hB7 := hB6.trans (hb56.mono hB6.size)
    have ngs := hrs.lt
    have hrs := hrs.below hb56 hrs.lt
    have hW6 := hW5.trans (hb56.mono hW5.size)
    obtain ⟨gn, hgn⟩ : ∃ g, g = w5.heap.size := ⟨_, rfl⟩
    have ngn : w4.drew.heap.size ≤ gn := by have := hW5.size; omega
    rw [← hgn] at r11 ngs ⊢
    clear hw6 hb56 hB6 hgn hW5
    obtain ⟨N, hN⟩ : ∃ N, N = l.length + 28 + bs.length := ⟨_, rfl⟩
    obtain ⟨u, hu⟩ : ∃ u : Nat, IntKind.u64.wrap at' = (u : Int) := ⟨(IntKind.u64.wrap at').toNat, by rw [IntKind.wrap_u64]; omega⟩
    obtain ⟨k, hkE⟩ : ∃ k, k = u % N := ⟨_, rfl⟩
    have hkN : k < N := by rw [hkE]; exact Nat.mod_lt _ (by omega)
    have y0 : ((l.length + 16 : Nat) : Int) = (l.length : Int) + 16 := by omega
    have y1 : IntKind.i64.wrap ((l.length : Int) + 16 + 12) = (l.length : Int) + 28 := by rw [IntKind.wrap_i64]; omega
    have y2 : IntKind.i64.wrap ((l.length : Int) + 28 + (bs.length : Int)) = (N : Int) := by rw [IntKind.wrap_i64]; omega
    have y3 : IntKind.u64.wrap (N : Int) = (N : Int) := by rw [IntKind.wrap_u64]; omega
    have y4 : Int.tmod (u : Int) (N : Int) = (k : Int) := by rw [hkE]; rfl
    have y5 : IntKind.i64.wrap (k : Int) = (k : Int) := by rw [IntKind.wrap_i64]; omega
    have y6 : IntKind.u64.wrap (k : Int) = (k : Int) := by rw [IntKind.wrap_u64]; omega
    have y7 : ¬ (N : Int) = 0 := by omega
    have hk1000 : k ≤ 1000 := by omega
    have HAW := Lib.hid hpre
    have HAL6 := HAL.out
    go_cut [12] (fun v wr => v = .int .i64 (k : Int) ∧ wr = w6)
    case first =>
      go_wp2_with fail
      go_meet
      case rel =>
        refine ⟨?_, rfl⟩
        congr 1
        rw [show (u : Int) % ((l.length : Int) + 28 + (bs.length : Int)) = (k : Int) by
          have e : ((l.length : Int) + 28 + (bs.length : Int)) = (N : Int) := by omega
          rw [hkE, e]
          exact (Int.natCast_emod u N).symm]
        exact wrap64_small k hk1000
    case rest =>
      obtain ⟨e1, e2⟩ := hcut
      subst e1
      subst e2
      clear y1 y2 y3 y4 y6 y7 hu hkE
      go_upto_block 0 with (fail)
      go_cut [] (fun wr => ∃ s' n' b' : List UInt8, s'.length = l.length + 16 ∧ n'.length = 12 ∧ b'.length = bs.length ∧ SlB wr (.slice (some ⟨gs, 0, none⟩) (l.length + 16) cs) s' ∧ Row wr gn 48 (AB n') ∧ SlB wr (.slice a9 bs.length c9) b' ∧ Below w3.heap.size w3 wr ∧ BentR x k A nonce bs s' n' b')
      case first =>
        have hx0 : 0 ≤ (k : Int) := by omega
        have hx1 : ((k : Int)).toNat = k := by omega
        have HS9 := Lib.hid (H9.out.slb)
        have qz : w3.heap.size ≤ w4.drew.heap.size := hB5.size
        rcases Nat.lt_or_ge k (l.length + 16) with h | h
        · have c1 : (k : Int) < (l.length : Int) + 16 := by omega
          have hcl : wc.cell? ⟨gs, k, none⟩ = some (B (gb A k)) := by
            rw [hrs.cell]
            exact hpre.get k (by omega)
          have hks : k < cur.size := by have := hpre.size; omega
          have hsb : SlB (wc.setCell ⟨gs, k, none⟩ (B (xr (gb A k) x))) (.slice (some ⟨gs, 0, none⟩) (l.length + 16) cs) (A.set k (xr (gb A k) x)) := by
            have := slb_pre (cap := cs) (hrs.set k (B (xr (gb A k) x))) (hpre.set k (xr (gb A k) x) (by omega)) (by simp; omega) hm1 (by simp; omega)
            rwa [List.length_set, HAL6] at this
          have hb9 : SlB (wc.setCell ⟨gs, k, none⟩ (B (xr (gb A k) x))) (.slice a9 bs.length c9) bs := HS9.out.below (hW6.setCell hgs _)
          have HSB := Lib.hid hsb
          have HB9 := Lib.hid hb9
          have hB8 := hB7.setCell (p := ⟨gs, k, none⟩) (by show w3.heap.size ≤ gs; omega) (B (xr (gb A k) x))
          have hr8 := r11.setOther ⟨gs, k, none⟩ (B (xr (gb A k) x)) (by show gn ≠ gs; omega)
          have HFIN := Lib.hid (show BentR x k A nonce bs (A.set k (xr (gb A k) x)) nonce bs from by
            by_cases hx : x = 0
            · subst hx
              exact .inl ⟨rfl, set_xr_zero (by omega), rfl, rfl⟩
            · exact .inr (.inl ⟨hx, by omega, rfl, rfl, rfl⟩))
          clear hsb hb9 h
          go_wp2_with fail
          go_meet
          case rel => exact ⟨A.set k (xr (gb A k) x), nonce, bs, by rw [List.length_set, HAL6], HN.out, rfl, HSB.out, hr8, HB9.out, hB8, HFIN.out⟩
        · have c1 : ¬ (k : Int) < (l.length : Int) + 16 := by omega
          rcases Nat.lt_or_ge k (l.length + 28) with h2 | h2
          · obtain ⟨j, hj⟩ : ∃ j, k = j + (l.length + 16) := ⟨k - (l.length + 16), by omega⟩
            have hj12 : j < 12 := by omega
            have hn12 := HN.out
            have hn12' := (AB_size nonce).trans hn12
            have hsb : SlB (wc.setCell ⟨gn, j, none⟩ (B (xr (gb nonce j) x))) (.slice (some ⟨gs, 0, none⟩) (l.length + 16) cs) A := by
              have := slb_pre (cap := cs) (hrs.setOther ⟨gn, j, none⟩ (B (xr (gb nonce j) x)) (by show gs ≠ gn; omega)) hpre (by omega) hm1 hz1
              rwa [HAL6] at this
            have hb9 : SlB (wc.setCell ⟨gn, j, none⟩ (B (xr (gb nonce j) x))) (.slice a9 bs.length c9) bs := HS9.out.below (hW6.setCell ngn _)
            have HSB := Lib.hid hsb
            have HB9 := Lib.hid hb9
            have hB8 := hB7.setCell (p := ⟨gn, j, none⟩) (by show w3.heap.size ≤ gn; omega) (B (xr (gb nonce j) x))
            have hr8 := r11.setByte j (xr (gb nonce j) x)
            have HFIN := Lib.hid (show BentR x k A nonce bs A (nonce.set j (xr (gb nonce j) x)) bs from by
              by_cases hx : x = 0
              · subst hx
                exact .inl ⟨rfl, rfl, set_xr_zero (by omega), rfl⟩
              · exact .inr (.inr ⟨hx, by omega, rfl⟩))
            obtain ⟨c2, z1, z2, z3, z4, z5, z6⟩ := bent2 k l.length j hj hj12 (by omega)
            clear hsb hb9 h h2 hj
            go_wp2_with fail
            go_meet
            case rel => exact ⟨A, nonce.set j (xr (gb nonce j) x), bs, HAL6, by rw [List.length_set]; exact hn12, rfl, HSB.out, hr8, HB9.out, hB8, HFIN.out⟩
          · obtain ⟨j, hj⟩ : ∃ j, k = j + (l.length + 28) := ⟨k - (l.length + 28), by omega⟩
            have hjb : j < bs.length := by omega
            obtain ⟨g9, cap9, cur9, e9, hg9, hr9, hc9, hm9, hz9, hp9⟩ := H9.out.open (by omega)
            have hlt9 := hr9.lt
            simp only [Value.slice.injEq] at e9
            have e9' := e9.1
            have e9'' := e9.2.2
            subst e9'
            subst e9''
            have hr9 := hr9.below hW6 hr9.lt
            have hcl : wc.cell? ⟨g9, j, none⟩ = some (B (gb bs j)) := by
              rw [hr9.cell]
              exact hp9.get j hjb
            have hks : j < cur9.size := by have := hp9.size; omega
            have hsb : SlB (wc.setCell ⟨g9, j, none⟩ (B (xr (gb bs j) x))) (.slice (some ⟨gs, 0, none⟩) (l.length + 16) cs) A := by
              have := slb_pre (cap := cs) (hrs.setOther ⟨g9, j, none⟩ (B (xr (gb bs j) x)) (by show gs ≠ g9; omega)) hpre (by omega) hm1 hz1
              rwa [HAL6] at this
            have hb9 : SlB (wc.setCell ⟨g9, j, none⟩ (B (xr (gb bs j) x))) (.slice (some ⟨g9, 0, none⟩) bs.length c9) (bs.set j (xr (gb bs j) x)) := by
              have := slb_pre (cap := c9) (hr9.set j (B (xr (gb bs j) x))) (hp9.set j (xr (gb bs j) x) hjb) (by simp; omega) hm9 (by simp; omega)
              rwa [List.length_set] at this
            have HSB := Lib.hid hsb
            have HB9 := Lib.hid hb9
            have hB8 := hB7.setCell (p := ⟨g9, j, none⟩) hg9 (B (xr (gb bs j) x))
            have hr8 := r11.setOther ⟨g9, j, none⟩ (B (xr (gb bs j) x)) (by show gn ≠ g9; omega)
            have HFIN := Lib.hid (show BentR x k A nonce bs A nonce (bs.set j (xr (gb bs j) x)) from by
              by_cases hx : x = 0
              · subst hx
                exact .inl ⟨rfl, rfl, rfl, set_xr_zero hjb⟩
              · exact .inr (.inr ⟨hx, by omega, rfl⟩))
            obtain ⟨c2, z1, z2, z3, z4, z5, z6, z7, z8⟩ := bent3 k l.length j bs.length hj hjb (by omega) (by omega)
            clear hsb hb9 h h2 hj e9 HS9 H9
            go_wp2_with fail
            go_meet
            case rel => exact ⟨A, nonce, bs.set j (xr (gb bs j) x), HAL6, HN.out, by rw [List.length_set], HSB.out, hr8, HB9.out, hB8, HFIN.out⟩
      case rest =>
        obtain ⟨s', n', b', hsl, hnl, hbl', hs8, r8, hb8, hB8, hR⟩ := hcut
        have i8 := HI3.out.below hB8 HI3.out.lt
        have HBX := Lib.hid (HBX3.out.below hB8)
        have hA8 := HA3.out.trans (hB8.mono HA3.out.size)
        have HP8 := Lib.hid (HP.out.below hA8)
        have hn16' := (AB_size n').trans hnl
        clear hrs hgs hB7 hW6 r11 ngn ngs
        have hop := gopen_any (.pointer (some ⟨xb, 0, none⟩)) (expand K) (lastOf K) (hOf K) n' (.slice (some ⟨gs, 0, none⟩) (l.length + 16) cs) (.slice a9 bs.length c9) s' b' wc HBX.out hnl hs8 (by omega) (by omega) hb8 (by omega)
        have HS8 := Lib.hid hs8
        have HB8 := Lib.hid hb8
        have HR := Lib.hid hR
        have HNL := Lib.hid hnl
        have HSL := Lib.hid hsl
        have hkL : (k < A.length) = (k < l.length + 16) := by rw [HAL6]
        have HKL := Lib.hid hkL
        clear hs8 hb8 hB8 hR hnl hkL
        have hx0 : (x = 0 ∧ (((x.toNat : Int) == 0) = true) ∧ ((x.toNat : Int) = 0)) ∨ (x ≠ 0 ∧ (((x.toNat : Int) == 0) = false) ∧ ¬ ((x.toNat : Int) = 0)) := by
          by_cases hx : x = 0
          · subst hx; exact .inl ⟨rfl, rfl, rfl⟩
          · right
            have h1 : ¬ ((x.toNat : Int) = 0) := by
              intro e
              exact hx (UInt8.toNat_inj.1 (by simp; omega))
            exact ⟨hx, by rw [beq_eq_false_iff_ne]; exact h1, h1⟩
        by_cases hg : tagF (expand K) (lastOf K) (hOf K) n' (s'.take (s'.length - 16)) b' = s'.drop (s'.length - 16)
        · simp only [if_pos hg] at hop
          obtain ⟨t, ht⟩ : ∃ t, t = turnF (expand K) (lastOf K) n' (s'.take (s'.length - 16)) := ⟨_, rfl⟩
          rw [← ht] at hop
          have htl : t.length ≤ 100 := by rw [ht, turnF_len]; simp; omega
          have HOP := Lib.hid hop
          have HT := Lib.hid ht
          have HG := Lib.hid hg
          clear hop ht hg
          rcases hx0 with ⟨hx, hx1, hx2⟩ | ⟨hx, hx1, hx2⟩
          · have hbk : s' = A ∧ n' = nonce ∧ b' = bs := by
              rcases HR.out with ⟨_, h⟩ | ⟨h, _⟩ | ⟨h, _⟩
              · exact h
              · exact absurd hx h
              · exact absurd hx h
            have htl' : t = l := by rw [HT.out, hbk.1, hbk.2.1, HAE.out, sealB_take, turnF_turnF]
            have HTL := Lib.hid htl'
            subst hx
            clear hbk htl' hsl
            go_wp2_with fail
            refine HOP.out.mono ?_
            rintro e w9 ⟨⟨vo, rfl, ho9⟩, hb9⟩
            have i9 := i8.below hb9 i8.lt
            have hA9 := hA8.trans (hb9.mono hA8.size)
            have HO9 := Lib.hid ho9
            clear HOP hb9 hA8 i8 ho9
            go_upto_region 15 with (fail)
            have i10 := i9.drew
            have hA10 := hA9.drew
            have q10 := hA10.size
            have HO10 := Lib.hid (HO9.out.grow (Below.refl _ _).drew)
            have HPA := Lib.hid (HP.out.below hA10)
            clear hA9 i9
            refine wp_region_free 10 [103] (bufF 5 w.heap.size (fun _ => l)) (by kernel_rfl) (by kernel_rfl) (by kernel_rfl) (bufF_stab _ _ _) ?_
            simp only [List.take_succ_cons, List.take_zero, List.drop_succ_cons, List.drop_zero]
            apply Exists.intro
            apply Exists.intro
            refine ⟨?_, ?_, ?_⟩
            · intro ν'
              repeat (apply wpF_q rfl; focus (intro C hC hG; (first | go_big_quiet_skip | (go_big_quiet_want; go_big_quiet_op; first | go_big_quiet_on | (refine ⟨_, fun _ _ => rfl, ?_⟩; go_big_quiet_on)) | (go_big_quiet_want; apply qf_load1 _ _ rfl _ _ rfl; (exact hC); rotate_left 1; (focus (intro _; simp [go_sem]; done)); rotate_right 1; assumption; assumption; (simp only [Act.put, List.setIfInBounds_toArray, List.set_cons_zero, List.set_cons_succ]; go_big_quiet_on)) | (go_big_quiet_want; apply qf_loadA _ _ rfl _ _ rfl (sz := 47); (exact hC); rotate_left 1; (focus (intro _; simp [go_sem]; done)); (focus (intro _; simp [go_sem]; done)); rotate_right 1; assumption; assumption; assumption; (simp only [Act.put, List.setIfInBounds_toArray, List.set_cons_zero, List.set_cons_succ]; go_big_quiet_on)) | (go_big_quiet_want; apply qf_loadA _ _ rfl _ _ rfl (sz := 12); (exact hC); rotate_left 1; (focus (intro _; simp [go_sem]; done)); (focus (intro _; simp [go_sem]; done)); rotate_right 1; assumption; assumption; assumption; (simp only [Act.put, List.setIfInBounds_toArray, List.set_cons_zero, List.set_cons_succ]; go_big_quiet_on)) | (go_big_quiet_want; apply qf_loadA _ _ rfl _ _ rfl (sz := 16); (exact hC); rotate_left 1; (focus (intro _; simp [go_sem]; done)); (focus (intro _; simp [go_sem]; done)); rotate_right 1; assumption; assumption; assumption; (simp only [Act.put, List.setIfInBounds_toArray, List.set_cons_zero, List.set_cons_succ]; go_big_quiet_on)) | (go_big_quiet_want; apply qf_loadA _ _ rfl _ _ rfl (sz := 32); (exact hC); rotate_left 1; (focus (intro _; simp [go_sem]; done)); (focus (intro _; simp [go_sem]; done)); rotate_right 1; assumption; assumption; assumption; (simp only [Act.put, List.setIfInBounds_toArray, List.set_cons_zero, List.set_cons_succ]; go_big_quiet_on)) | (go_big_quiet_want; apply qf_loadA _ _ rfl _ _ rfl (sz := 2); (exact hC); rotate_left 1; (focus (intro _; simp [go_sem]; done)); (focus (intro _; simp [go_sem]; done)); rotate_right 1; assumption; assumption; assumption; (simp only [Act.put, List.setIfInBounds_toArray, List.set_cons_zero, List.set_cons_succ]; go_big_quiet_on))); exact wpQuiet_nil rfl))
              (apply wpF_q rfl; focus (intro C hC hG; go_big_quiet_want; apply qf_conv; (focus rfl); (exact hC); (focus rfl); (exact Try.underlying24); (exact Try.underlying5); (exact Try.underlying9); (exact (fun w hb _ => (show SlB w vo l from HTL.out ▸ (HO10.out.grow hb).slb))); (simp only [Act.put, List.setIfInBounds_toArray, List.set_cons_zero, List.set_cons_succ]; go_big_quiet_on); exact wpQuiet_nil rfl))
              repeat (apply wpF_q rfl; focus (intro C hC hG; (first | go_big_quiet_skip | (go_big_quiet_want; go_big_quiet_op; first | go_big_quiet_on | (refine ⟨_, fun _ _ => rfl, ?_⟩; go_big_quiet_on)) | (go_big_quiet_want; apply qf_load1 _ _ rfl _ _ rfl; (exact hC); rotate_left 1; (focus (intro _; simp [go_sem]; done)); rotate_right 1; assumption; assumption; (simp only [Act.put, List.setIfInBounds_toArray, List.set_cons_zero, List.set_cons_succ]; go_big_quiet_on)) | (go_big_quiet_want; apply qf_loadA _ _ rfl _ _ rfl (sz := 47); (exact hC); rotate_left 1; (focus (intro _; simp [go_sem]; done)); (focus (intro _; simp [go_sem]; done)); rotate_right 1; assumption; assumption; assumption; (simp only [Act.put, List.setIfInBounds_toArray, List.set_cons_zero, List.set_cons_succ]; go_big_quiet_on)) | (go_big_quiet_want; apply qf_loadA _ _ rfl _ _ rfl (sz := 12); (exact hC); rotate_left 1; (focus (intro _; simp [go_sem]; done)); (focus (intro _; simp [go_sem]; done)); rotate_right 1; assumption; assumption; assumption; (simp only [Act.put, List.setIfInBounds_toArray, List.set_cons_zero, List.set_cons_succ]; go_big_quiet_on)) | (go_big_quiet_want; apply qf_loadA _ _ rfl _ _ rfl (sz := 16); (exact hC); rotate_left 1; (focus (intro _; simp [go_sem]; done)); (focus (intro _; simp [go_sem]; done)); rotate_right 1; assumption; assumption; assumption; (simp only [Act.put, List.setIfInBounds_toArray, List.set_cons_zero, List.set_cons_succ]; go_big_quiet_on)) | (go_big_quiet_want; apply qf_loadA _ _ rfl _ _ rfl (sz := 32); (exact hC); rotate_left 1; (focus (intro _; simp [go_sem]; done)); (focus (intro _; simp [go_sem]; done)); rotate_right 1; assumption; assumption; assumption; (simp only [Act.put, List.setIfInBounds_toArray, List.set_cons_zero, List.set_cons_succ]; go_big_quiet_on)) | (go_big_quiet_want; apply qf_loadA _ _ rfl _ _ rfl (sz := 2); (exact hC); rotate_left 1; (focus (intro _; simp [go_sem]; done)); (focus (intro _; simp [go_sem]; done)); rotate_right 1; assumption; assumption; assumption; (simp only [Act.put, List.setIfInBounds_toArray, List.set_cons_zero, List.set_cons_succ]; go_big_quiet_on))); exact wpQuiet_nil rfl))
              (apply wpF_free; (focus rfl); (focus rfl); (exact (fun w hb _ => bufX hb q10 rfl (HPL.out w (HPA.out.below hb)))); (focus (intro w; simp [go_sem]; done)); simp only [Act.put, vqF, Option.toList_some, List.cons_append, List.nil_append, List.setIfInBounds_toArray, List.set_cons_zero, List.set_cons_succ])
              (apply wpF_q rfl; focus (intro C hC hG; go_big_quiet_want; apply qf_conv; (focus rfl); (exact hC); (focus rfl); (exact Try.underlying24); (exact Try.underlying5); (exact Try.underlying9); (exact (fun w hb hf => bufS (l := l) (hf 103 (by decide) rfl) rfl)); (simp only [Act.put, List.setIfInBounds_toArray, List.set_cons_zero, List.set_cons_succ]; go_big_quiet_on); exact wpQuiet_nil rfl))
              repeat (apply wpF_q rfl; focus (intro C hC hG; (first | go_big_quiet_skip | (go_big_quiet_want; go_big_quiet_op; first | go_big_quiet_on | (refine ⟨_, fun _ _ => rfl, ?_⟩; go_big_quiet_on)) | (go_big_quiet_want; apply qf_load1 _ _ rfl _ _ rfl; (exact hC); rotate_left 1; (focus (intro _; simp [go_sem]; done)); rotate_right 1; assumption; assumption; (simp only [Act.put, List.setIfInBounds_toArray, List.set_cons_zero, List.set_cons_succ]; go_big_quiet_on)) | (go_big_quiet_want; apply qf_loadA _ _ rfl _ _ rfl (sz := 47); (exact hC); rotate_left 1; (focus (intro _; simp [go_sem]; done)); (focus (intro _; simp [go_sem]; done)); rotate_right 1; assumption; assumption; assumption; (simp only [Act.put, List.setIfInBounds_toArray, List.set_cons_zero, List.set_cons_succ]; go_big_quiet_on)) | (go_big_quiet_want; apply qf_loadA _ _ rfl _ _ rfl (sz := 12); (exact hC); rotate_left 1; (focus (intro _; simp [go_sem]; done)); (focus (intro _; simp [go_sem]; done)); rotate_right 1; assumption; assumption; assumption; (simp only [Act.put, List.setIfInBounds_toArray, List.set_cons_zero, List.set_cons_succ]; go_big_quiet_on)) | (go_big_quiet_want; apply qf_loadA _ _ rfl _ _ rfl (sz := 16); (exact hC); rotate_left 1; (focus (intro _; simp [go_sem]; done)); (focus (intro _; simp [go_sem]; done)); rotate_right 1; assumption; assumption; assumption; (simp only [Act.put, List.setIfInBounds_toArray, List.set_cons_zero, List.set_cons_succ]; go_big_quiet_on)) | (go_big_quiet_want; apply qf_loadA _ _ rfl _ _ rfl (sz := 32); (exact hC); rotate_left 1; (focus (intro _; simp [go_sem]; done)); (focus (intro _; simp [go_sem]; done)); rotate_right 1; assumption; assumption; assumption; (simp only [Act.put, List.setIfInBounds_toArray, List.set_cons_zero, List.set_cons_succ]; go_big_quiet_on)) | (go_big_quiet_want; apply qf_loadA _ _ rfl _ _ rfl (sz := 2); (exact hC); rotate_left 1; (focus (intro _; simp [go_sem]; done)); (focus (intro _; simp [go_sem]; done)); rotate_right 1; assumption; assumption; assumption; (simp only [Act.put, List.setIfInBounds_toArray, List.set_cons_zero, List.set_cons_succ]; go_big_quiet_on))); exact wpQuiet_nil rfl))
              exact wpF_nil ⟨rfl, rfl⟩
            · intro ν' ν''
              kernel_rfl
            · intro ν' w11 hw11 _
              have hA11 := hA10.trans (hw11.mono hA10.size)
              clear hA10 hw11 i10
              go_wp2_with fail
              go_ret
              exact ⟨rfl, hA11⟩
          · rcases Nat.lt_or_ge k (l.length + 16) with h | h
            · have hh0 : hOf K = List.replicate 16 0 := by
                rcases HR.out with ⟨h1, _⟩ | ⟨_, h2, rfl, rfl, rfl⟩ | ⟨_, h2, _⟩
                · exact absurd h1 hx
                · exact bent_nought (hOf_len K) HAE.out hx h2 HG.out
                · exact absurd (by rw [HAL6]; exact h) h2
              have hrs : ∀ w', Calls Try.prog 17 #[S K, .agg (AB (List.replicate 16 0))] w' (fun e w'' => e = .returned (.agg (AB (List.replicate 16 0))) ∧ Below w'.heap.size w' w'') := fun w' => by
                have := rseal_any K (List.replicate 16 0) w' hkk (by decide)
                rw [show sealN (expand K) (lastOf K) (List.replicate 16 0) (lastOf K) = List.replicate 16 0 from hh0] at this
                exact this
              have hz : AB (List.replicate 16 0) = #[.int .u8 0, .int .u8 0, .int .u8 0, .int .u8 0, .int .u8 0, .int .u8 0, .int .u8 0, .int .u8 0, .int .u8 0, .int .u8 0, .int .u8 0, .int .u8 0, .int .u8 0, .int .u8 0, .int .u8 0, .int .u8 0] := by kernel_rfl
              rw [hz] at hrs
              have HRS := Lib.hid hrs
              have c1 : (k : Int) < (l.length : Int) + 16 := by omega
              clear h hrs hh0 hsl hz
              go_wp2_with fail
              refine HOP.out.mono ?_
              rintro e w9 ⟨⟨vo, rfl, ho9⟩, hb9⟩
              have i9 := i8.below hb9 i8.lt
              have hA9 := hA8.trans (hb9.mono hA8.size)
              clear HOP hb9 hA8 i8 ho9
              go_wp2_with fail
              refine (HKEY.out _).mono ?_
              rintro e w10 ⟨v1', rfl, hk10, hb10⟩
              have hA10 := hA9.trans (hb10.mono hA9.size)
              have hconv := run_conv_slb (P := Try.prog) w10 24 5 9 Try.underlying24 Try.underlying5 Try.underlying9 _ _ hk10.slb
              clear i9 hA9 hk10 hb10
              go_wp2_with fail
              refine (HRS.out _).mono ?_
              rintro e w11 ⟨rfl, hb11⟩
              have hA11 := hA10.trans (hb11.mono hA10.size)
              clear hA10 hb11 hconv
              go_wp2_with fail
              go_ret
              exact ⟨rfl, hA11⟩
            · have hs0 : s' = A := by
                rcases HR.out with ⟨h1, _⟩ | ⟨_, h2, _⟩ | ⟨_, _, h3⟩
                · exact absurd h1 hx
                · rw [HAL6] at h2; omega
                · exact h3
              have hbk : sealB (expand K) (lastOf K) (hOf K) n' t b' = s' := by
                rw [HT.out]
                exact seal_back (by omega) HG.out
              have hse : ∀ w' vp', BoxAt 84 67 23 w' (.pointer (some ⟨xb, 0, none⟩)) (expand K) (lastOf K) (hOf K) → SlB w' vp' t → SlB w' (.slice a9 bs.length c9) b' → Calls Try.prog 27 #[.pointer (some ⟨xb, 0, none⟩), .agg (AB n'), vp', .slice a9 bs.length c9] w' fun e w'' => ∃ v', e = .returned v' ∧ Buf 5 w'' w'.heap.size v' s' ∧ Below w'.heap.size w' w'' := fun w' vp' h1 h2 h3 => by
                rw [← hbk]
                exact gseal_any _ _ _ _ n' _ _ t b' w' h1 HNL.out h2 (by omega) h3 (by omega)
              have HSE := Lib.hid hse
              have c1 : ¬ (k : Int) < (l.length : Int) + 16 := by omega
              clear h hse hbk hs0 hsl
              go_wp2_with fail
              refine HOP.out.mono ?_
              rintro e w9 ⟨⟨vo, rfl, ho9⟩, hb9⟩
              have r9 := r8.below hb9 r8.lt
              have hA9 := hA8.trans (hb9.mono hA8.size)
              have HO9 := Lib.hid ho9
              have HS9 := Lib.hid (HS8.out.below hb9)
              have HB9 := Lib.hid (HB8.out.below hb9)
              have HBX := Lib.hid (HBX.out.below hb9)
              clear HOP hb9 hA8 i8 ho9 r8
              go_upto_region 18 with (fail)
              have r10 := r9.drew
              have hA10 := hA9.drew
              have HO10 := Lib.hid (HO9.out.grow (Below.refl _ _).drew)
              have HS10 := Lib.hid (HS9.out.below (Below.refl _ _).drew)
              have HB10 := Lib.hid (HB9.out.below (Below.refl _ _).drew)
              have HBX := Lib.hid (HBX.out.below (Below.refl _ _).drew)
              have hsn' := sub_all (AB n') 12 hn16'
              have zn' : 0 + 12 ≤ (AB n').size := by rw [hn16']; decide
              clear hA9 r9
              refine wp_region_free 13 [129] (bufF 5 w9.drew.heap.size (fun _ => s')) (by kernel_rfl) (by kernel_rfl) (by kernel_rfl) (bufF_stab _ _ _) ?_
              simp only [List.take_succ_cons, List.take_zero, List.drop_succ_cons, List.drop_zero]
              apply Exists.intro
              apply Exists.intro
              refine ⟨?_, ?_, ?_⟩
              · intro ν'
                repeat (apply wpF_q rfl; focus (intro C hC hG; (first | go_big_quiet_skip | (go_big_quiet_want; go_big_quiet_op; first | go_big_quiet_on | (refine ⟨_, fun _ _ => rfl, ?_⟩; go_big_quiet_on)) | (go_big_quiet_want; apply qf_load1 _ _ rfl _ _ rfl; (exact hC); rotate_left 1; (focus (intro _; simp [go_sem]; done)); rotate_right 1; assumption; assumption; (simp only [Act.put, List.setIfInBounds_toArray, List.set_cons_zero, List.set_cons_succ]; go_big_quiet_on)) | (go_big_quiet_want; apply qf_loadA _ _ rfl _ _ rfl (sz := 47); (exact hC); rotate_left 1; (focus (intro _; simp [go_sem]; done)); (focus (intro _; simp [go_sem]; done)); rotate_right 1; assumption; assumption; assumption; (simp only [Act.put, List.setIfInBounds_toArray, List.set_cons_zero, List.set_cons_succ]; go_big_quiet_on)) | (go_big_quiet_want; apply qf_loadA _ _ rfl _ _ rfl (sz := 12); (exact hC); rotate_left 1; (focus (intro _; simp [go_sem]; done)); (focus (intro _; simp [go_sem]; done)); rotate_right 1; assumption; assumption; assumption; (simp only [Act.put, List.setIfInBounds_toArray, List.set_cons_zero, List.set_cons_succ]; go_big_quiet_on)) | (go_big_quiet_want; apply qf_loadA _ _ rfl _ _ rfl (sz := 16); (exact hC); rotate_left 1; (focus (intro _; simp [go_sem]; done)); (focus (intro _; simp [go_sem]; done)); rotate_right 1; assumption; assumption; assumption; (simp only [Act.put, List.setIfInBounds_toArray, List.set_cons_zero, List.set_cons_succ]; go_big_quiet_on)) | (go_big_quiet_want; apply qf_loadA _ _ rfl _ _ rfl (sz := 32); (exact hC); rotate_left 1; (focus (intro _; simp [go_sem]; done)); (focus (intro _; simp [go_sem]; done)); rotate_right 1; assumption; assumption; assumption; (simp only [Act.put, List.setIfInBounds_toArray, List.set_cons_zero, List.set_cons_succ]; go_big_quiet_on)) | (go_big_quiet_want; apply qf_loadA _ _ rfl _ _ rfl (sz := 2); (exact hC); rotate_left 1; (focus (intro _; simp [go_sem]; done)); (focus (intro _; simp [go_sem]; done)); rotate_right 1; assumption; assumption; assumption; (simp only [Act.put, List.setIfInBounds_toArray, List.set_cons_zero, List.set_cons_succ]; go_big_quiet_on))); exact wpQuiet_nil rfl))
                (apply wpF_free; (focus rfl); (focus rfl); (exact (fun w hb _ => bufX hb (Nat.le_refl _) rfl (HSE.out w _ (HBX.out.below hb) (HO10.out.grow hb).slb (HB10.out.below hb)))); (focus (intro w; simp [go_sem]; done)); simp only [Act.put, vqF, Option.toList_some, List.cons_append, List.nil_append, List.setIfInBounds_toArray, List.set_cons_zero, List.set_cons_succ])
                (apply wpF_q rfl; focus (intro C hC hG; go_big_quiet_want; apply qf_conv; (focus rfl); (exact hC); (focus rfl); (exact Try.underlying24); (exact Try.underlying5); (exact Try.underlying9); (exact (fun w hb hf => bufS (l := s') (hf 129 (by decide) rfl) rfl)); (simp only [Act.put, List.setIfInBounds_toArray, List.set_cons_zero, List.set_cons_succ]; go_big_quiet_on); exact wpQuiet_nil rfl))
                repeat (apply wpF_q rfl; focus (intro C hC hG; (first | go_big_quiet_skip | (go_big_quiet_want; go_big_quiet_op; first | go_big_quiet_on | (refine ⟨_, fun _ _ => rfl, ?_⟩; go_big_quiet_on)) | (go_big_quiet_want; apply qf_load1 _ _ rfl _ _ rfl; (exact hC); rotate_left 1; (focus (intro _; simp [go_sem]; done)); rotate_right 1; assumption; assumption; (simp only [Act.put, List.setIfInBounds_toArray, List.set_cons_zero, List.set_cons_succ]; go_big_quiet_on)) | (go_big_quiet_want; apply qf_loadA _ _ rfl _ _ rfl (sz := 47); (exact hC); rotate_left 1; (focus (intro _; simp [go_sem]; done)); (focus (intro _; simp [go_sem]; done)); rotate_right 1; assumption; assumption; assumption; (simp only [Act.put, List.setIfInBounds_toArray, List.set_cons_zero, List.set_cons_succ]; go_big_quiet_on)) | (go_big_quiet_want; apply qf_loadA _ _ rfl _ _ rfl (sz := 12); (exact hC); rotate_left 1; (focus (intro _; simp [go_sem]; done)); (focus (intro _; simp [go_sem]; done)); rotate_right 1; assumption; assumption; assumption; (simp only [Act.put, List.setIfInBounds_toArray, List.set_cons_zero, List.set_cons_succ]; go_big_quiet_on)) | (go_big_quiet_want; apply qf_loadA _ _ rfl _ _ rfl (sz := 16); (exact hC); rotate_left 1; (focus (intro _; simp [go_sem]; done)); (focus (intro _; simp [go_sem]; done)); rotate_right 1; assumption; assumption; assumption; (simp only [Act.put, List.setIfInBounds_toArray, List.set_cons_zero, List.set_cons_succ]; go_big_quiet_on)) | (go_big_quiet_want; apply qf_loadA _ _ rfl _ _ rfl (sz := 32); (exact hC); rotate_left 1; (focus (intro _; simp [go_sem]; done)); (focus (intro _; simp [go_sem]; done)); rotate_right 1; assumption; assumption; assumption; (simp only [Act.put, List.setIfInBounds_toArray, List.set_cons_zero, List.set_cons_succ]; go_big_quiet_on)) | (go_big_quiet_want; apply qf_loadA _ _ rfl _ _ rfl (sz := 2); (exact hC); rotate_left 1; (focus (intro _; simp [go_sem]; done)); (focus (intro _; simp [go_sem]; done)); rotate_right 1; assumption; assumption; assumption; (simp only [Act.put, List.setIfInBounds_toArray, List.set_cons_zero, List.set_cons_succ]; go_big_quiet_on))); exact wpQuiet_nil rfl))
                (apply wpF_q rfl; focus (intro C hC hG; go_big_quiet_want; apply qf_conv; (focus rfl); (exact hC); (focus rfl); (exact Try.underlying24); (exact Try.underlying5); (exact Try.underlying9); (exact (fun w hb _ => HS10.out.below hb)); (simp only [Act.put, List.setIfInBounds_toArray, List.set_cons_zero, List.set_cons_succ]; go_big_quiet_on); exact wpQuiet_nil rfl))
                repeat (apply wpF_q rfl; focus (intro C hC hG; (first | go_big_quiet_skip | (go_big_quiet_want; go_big_quiet_op; first | go_big_quiet_on | (refine ⟨_, fun _ _ => rfl, ?_⟩; go_big_quiet_on)) | (go_big_quiet_want; apply qf_load1 _ _ rfl _ _ rfl; (exact hC); rotate_left 1; (focus (intro _; simp [go_sem]; done)); rotate_right 1; assumption; assumption; (simp only [Act.put, List.setIfInBounds_toArray, List.set_cons_zero, List.set_cons_succ]; go_big_quiet_on)) | (go_big_quiet_want; apply qf_loadA _ _ rfl _ _ rfl (sz := 47); (exact hC); rotate_left 1; (focus (intro _; simp [go_sem]; done)); (focus (intro _; simp [go_sem]; done)); rotate_right 1; assumption; assumption; assumption; (simp only [Act.put, List.setIfInBounds_toArray, List.set_cons_zero, List.set_cons_succ]; go_big_quiet_on)) | (go_big_quiet_want; apply qf_loadA _ _ rfl _ _ rfl (sz := 12); (exact hC); rotate_left 1; (focus (intro _; simp [go_sem]; done)); (focus (intro _; simp [go_sem]; done)); rotate_right 1; assumption; assumption; assumption; (simp only [Act.put, List.setIfInBounds_toArray, List.set_cons_zero, List.set_cons_succ]; go_big_quiet_on)) | (go_big_quiet_want; apply qf_loadA _ _ rfl _ _ rfl (sz := 16); (exact hC); rotate_left 1; (focus (intro _; simp [go_sem]; done)); (focus (intro _; simp [go_sem]; done)); rotate_right 1; assumption; assumption; assumption; (simp only [Act.put, List.setIfInBounds_toArray, List.set_cons_zero, List.set_cons_succ]; go_big_quiet_on)) | (go_big_quiet_want; apply qf_loadA _ _ rfl _ _ rfl (sz := 32); (exact hC); rotate_left 1; (focus (intro _; simp [go_sem]; done)); (focus (intro _; simp [go_sem]; done)); rotate_right 1; assumption; assumption; assumption; (simp only [Act.put, List.setIfInBounds_toArray, List.set_cons_zero, List.set_cons_succ]; go_big_quiet_on)) | (go_big_quiet_want; apply qf_loadA _ _ rfl _ _ rfl (sz := 2); (exact hC); rotate_left 1; (focus (intro _; simp [go_sem]; done)); (focus (intro _; simp [go_sem]; done)); rotate_right 1; assumption; assumption; assumption; (simp only [Act.put, List.setIfInBounds_toArray, List.set_cons_zero, List.set_cons_succ]; go_big_quiet_on))); exact wpQuiet_nil rfl))
                exact wpF_nil ⟨rfl, rfl⟩
              · intro ν' ν''
                kernel_rfl
              · intro ν' w11 hw11 _
                have hA11 := hA10.trans (hw11.mono hA10.size)
                clear hA10 hw11 r10
                go_wp2_with fail
                go_ret
                exact ⟨rfl, hA11⟩
        · simp only [if_neg hg] at hop
          have hne : x ≠ 0 := by
            rintro rfl
            rcases HR.out with ⟨_, rfl, rfl, rfl⟩ | ⟨h, _⟩ | ⟨h, _⟩
            · apply hg
              rw [HAE.out, sealB_take, sealB_drop]
            · exact h rfl
            · exact h rfl
          rcases hx0 with ⟨h, _⟩ | ⟨_, hx1, hx2⟩
          · exact absurd h hne
          have HOP := Lib.hid hop
          clear hg hne hop hsl
          go_wp2_with fail
          refine HOP.out.mono ?_
          rintro e w9 ⟨rfl, hb9⟩
          have hA9 := hA8.trans (hb9.mono hA8.size)
          clear HOP hb9 hA8
          rcases Nat.lt_or_ge k (l.length + 16) with h | h
          · have c1 : (k : Int) < (l.length : Int) + 16 := by omega
            clear h
            go_wp2_with fail
            go_ret
            exact ⟨rfl, hA9⟩
          · have c1 : ¬ (k : Int) < (l.length : Int) + 16 := by omega
            clear h
            go_upto_region 18 with (fail)
            have hA10 := hA9.drew
            clear hA9
            refine wp_region_free 13 [] (fun _ _ _ => True) (by kernel_rfl) (by kernel_rfl) (by kernel_rfl) (fun _ _ _ _ _ _ => trivial) ?_
            simp only [List.take_succ_cons, List.take_zero, List.drop_succ_cons, List.drop_zero]
            apply Exists.intro
            apply Exists.intro
            refine ⟨?_, ?_, ?_⟩
            · intro ν'
              repeat (apply wpF_q rfl; focus (intro C hC hG; (first | go_big_quiet_skip | (go_big_quiet_want; go_big_quiet_op; first | go_big_quiet_on | (refine ⟨_, fun _ _ => rfl, ?_⟩; go_big_quiet_on)) | (go_big_quiet_want; apply qf_load1 _ _ rfl _ _ rfl; (exact hC); rotate_left 1; (focus (intro _; simp [go_sem]; done)); rotate_right 1; assumption; assumption; (simp only [Act.put, List.setIfInBounds_toArray, List.set_cons_zero, List.set_cons_succ]; go_big_quiet_on)) | (go_big_quiet_want; apply qf_loadA _ _ rfl _ _ rfl (sz := 47); (exact hC); rotate_left 1; (focus (intro _; simp [go_sem]; done)); (focus (intro _; simp [go_sem]; done)); rotate_right 1; assumption; assumption; assumption; (simp only [Act.put, List.setIfInBounds_toArray, List.set_cons_zero, List.set_cons_succ]; go_big_quiet_on)) | (go_big_quiet_want; apply qf_loadA _ _ rfl _ _ rfl (sz := 12); (exact hC); rotate_left 1; (focus (intro _; simp [go_sem]; done)); (focus (intro _; simp [go_sem]; done)); rotate_right 1; assumption; assumption; assumption; (simp only [Act.put, List.setIfInBounds_toArray, List.set_cons_zero, List.set_cons_succ]; go_big_quiet_on)) | (go_big_quiet_want; apply qf_loadA _ _ rfl _ _ rfl (sz := 16); (exact hC); rotate_left 1; (focus (intro _; simp [go_sem]; done)); (focus (intro _; simp [go_sem]; done)); rotate_right 1; assumption; assumption; assumption; (simp only [Act.put, List.setIfInBounds_toArray, List.set_cons_zero, List.set_cons_succ]; go_big_quiet_on)) | (go_big_quiet_want; apply qf_loadA _ _ rfl _ _ rfl (sz := 32); (exact hC); rotate_left 1; (focus (intro _; simp [go_sem]; done)); (focus (intro _; simp [go_sem]; done)); rotate_right 1; assumption; assumption; assumption; (simp only [Act.put, List.setIfInBounds_toArray, List.set_cons_zero, List.set_cons_succ]; go_big_quiet_on)) | (go_big_quiet_want; apply qf_loadA _ _ rfl _ _ rfl (sz := 2); (exact hC); rotate_left 1; (focus (intro _; simp [go_sem]; done)); (focus (intro _; simp [go_sem]; done)); rotate_right 1; assumption; assumption; assumption; (simp only [Act.put, List.setIfInBounds_toArray, List.set_cons_zero, List.set_cons_succ]; go_big_quiet_on))); exact wpQuiet_nil rfl))
              exact wpF_nil ⟨rfl, rfl⟩
            · intro ν' ν''
              rfl
            · intro ν' w10 hw10 _
              have hA11 := hA10.trans (hw10.mono hA10.size)
              clear hA10 hw10
              go_wp2_with fail
              go_ret
              exact ⟨rfl, hA11⟩
theorem gcmBent_all (key nonce l0 bs0 : List UInt8) (short : Bool) (vp vb : Value) (a1 a2 : Int) (w : World) (hk : key.length = 32) (hn : nonce.length = 12) (hp : SlB w vp l0) (hb : SlB w vb bs0) (_w1 : (Lit.int .i64 a1).wf = true) (w2 : (Lit.int .u8 a2).wf = true) :
    Calls Try.prog 13 #[.agg (letC key short nonce vp vb), .int .i64 a1, .int .u8 a2] w fun e w' => e = .returned (.bool true) ∧ Below w.heap.size w w' := by
  obtain ⟨x, rfl⟩ := wf_byte w2
  exact gcmBent_any key nonce l0 bs0 short vp vb a1 x w hk hn hp hb
end Go.Proofs.Ytjopgogaipkdbaa
