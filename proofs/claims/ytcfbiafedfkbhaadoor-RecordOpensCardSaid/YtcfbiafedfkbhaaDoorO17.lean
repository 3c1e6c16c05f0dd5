/- Part of the proof: Ready. No conditions of its own. -/
import Derived.BigQuiet
import Derived.BigRegion
import Derived.Deep.LoopGhost
import Derived.Deep.Quiet
import Derived.Deep.QuietTactic
import Derived.Lib.Hide
import Derived.StillTail
import Derived.Test.YtcfbiafedfkbhaaDoorProg
import Derived.WalkKit
import Derived.WalkSpells
import Derived.Test.YtcfbiafedfkbhaaDoorO12
namespace Go.Proofs.YtcfbiafedfkbhaaDoor
open Go.RowKit
theorem keyC_set0 (T K : List UInt8) (kv : Value) (h : 0 < T.length) : (keyC T K kv).setIfInBounds 0 (.int .u8 99) = keyC (T.set 0 0x63) K kv := keyC_setT T K kv 0 0x63 h
theorem keyC_set99 (T K : List UInt8) (kv : Value) (hT : T.length = 256) (h : 99 < K.length) : (keyC T K kv).setIfInBounds 355 (.int .u8 0) = keyC T (K.set 99 0) kv := keyC_setK T K kv 99 256 0 hT h
theorem keyC_355 (T K : List UInt8) (kv : Value) (hT : T.length = 256) (h : 99 < K.length) : (keyC T K kv)[355]? = some (B (gb K 99)) := keyC_K T K kv 99 256 hT h
theorem grownBy_set {w w1 : World} {g : Nat} (h : w.grownBy w1 (some g)) (i : Nat) (v : Value) : w.grownBy (w1.setCell ⟨g, i, none⟩ v) (some g) :=
  ⟨h.os, h.tape, h.output, by simpa using h.size, fun k hk hne => (heap_setCell_other w1 _ k v (by intro e; exact hne (by rw [e]))).trans (h.block k hk hne)⟩
theorem grownBy_drew {w w1 : World} {g : Option Nat} (h : w.grownBy w1 g) : w.grownBy w1.drew g := ⟨h.os, h.tape, h.output, h.size, h.block⟩
attribute [local go_sem] sp_l1 sp_l2 sp_l3 sp_l4 sp_r4 sp_r5 sp_r6 sp_r7 sp_or sp_x9 sp_x99 keyC_T keyC_K keyC_setT keyC_setK keyC_size keyC_set0 keyC_set99 keyC_355

theorem ready_any (g : Nat) (kv : Value) (w : World) (hr : Row w g 109 (keyC (List.replicate 256 0) (List.replicate 256 0) kv)) :
    Calls Tryd.prog 59 #[.pointer (some ⟨g, 0, none⟩)] w fun e w' => e = .returned (.tuple #[]) ∧ Row w' g 109 (keyC boxT boxK kv) ∧ w.grownBy w' (some g) := by
  go_enter Tryd.func59, Tryd.ntmps59
  go_wp2
  go_loopg [2, 3] 255 (fun n p q wr => ∃ k : Nat, n + k = 255 ∧ k < 255 ∧ p = B (rd k).p ∧ q = B (rd k).q ∧ Row wr g 109 (keyC (rd k).T (rd k).K kv) ∧ w.grownBy wr (some g))
  case atStart => exact ⟨0, by omega, by omega, rfl, rfl, hr, World.grownBy.refl _ _⟩
  case round =>
    have hgk : gk = gk := rfl
    clear hgk
    obtain ⟨k, hn, hk, rfl, rfl, hR, hG⟩ := hrel
    have hT := rd_T k
    have hK := rd_K k
    have hq1 : (rd (k + 1)).q = qn (rd k).q := rfl
    have hp1 : xr (rd k).p (dbl (rd k).p) = (rd (k + 1)).p := rfl
    obtain ⟨p, hp⟩ : ∃ p, p = (rd k).p := ⟨_, rfl⟩
    obtain ⟨q, hq⟩ : ∃ q, q = (rd k).q := ⟨_, rfl⟩
    obtain ⟨T, hTT⟩ : ∃ T, T = (rd k).T := ⟨_, rfl⟩
    obtain ⟨K, hKK⟩ : ∃ K, K = (rd k).K := ⟨_, rfl⟩
    rw [← hTT, ← hKK] at hR
    rw [← hTT] at hT
    rw [← hKK] at hK
    rw [← hq] at hq1 ⊢
    rw [← hp] at hp1 ⊢
    have HP := Lib.hid hp1
    clear hp hq hp1
    by_cases h128 : q3 q &&& 0x80 ≠ 0
    · skip
      have hd : (bits .and .u8 ((xr (xr (xr q (shl q 1)) (shl (xr q (shl q 1)) 2)) (shl (xr (xr q (shl q 1)) (shl (xr q (shl q 1)) 2)) 4)).toNat : Int) 128 != 0) = true := by rw [sp_and]; exact decide_eq_true h128
      have hQ : xr (xr (xr (xr q (shl q 1)) (shl (xr q (shl q 1)) 2)) (shl (xr (xr q (shl q 1)) (shl (xr q (shl q 1)) 2)) 4)) 9 = (rd (k + 1)).q := by rw [hq1]; unfold qn; rw [if_pos h128]; rfl
      have HD := Lib.hid hd
      have HQ := Lib.hid hQ
      clear hQ h128 hq1
      go_wp2_with (go_at_call 60; refine (double_any _ _).mono ?_; rintro e w' ⟨rfl, rfl⟩)
      rw [HQ.out, HP.out]
      clear HQ HD hd HP
      obtain ⟨q', hq'⟩ : ∃ q', q' = (rd (k + 1)).q := ⟨_, rfl⟩
      obtain ⟨p', hp'⟩ : ∃ p', p' = (rd (k + 1)).p := ⟨_, rfl⟩
      rw [← hq', ← hp']
      obtain ⟨x, hx⟩ : ∃ x, x = xr (xr (xr (xr (xr q' (orr (shl q' 1) (shr q' 7))) (orr (shl q' 2) (shr q' 6))) (orr (shl q' 3) (shr q' 5))) (orr (shl q' 4) (shr q' 4))) 0x63 := ⟨_, rfl⟩
      rw [← hx]
      have EX : T.set p'.toNat x = (rd (k + 1)).T ∧ K.set x.toNat p' = (rd (k + 1)).K := by
        have hxa : x = affine (rd (k + 1)).q := by rw [hx, hq']; rfl
        rw [hxa, hp', hTT, hKK]; exact ⟨rfl, rfl⟩
      have EXH := Lib.hid EX
      have HQ := Lib.hid hq'
      have HP := Lib.hid hp'
      have HTT := Lib.hid hTT
      have HKK := Lib.hid hKK
      clear EX hx hq' hp' hTT hKK
      have i1 : (p'.toNat : Int) < 256 := by have := p'.toNat_lt; omega
      have i2 : (x.toNat : Int) < 256 := by have := x.toNat_lt; omega
      have j1 : p'.toNat < 256 := p'.toNat_lt
      have j2 : x.toNat < 256 := x.toNat_lt
      have R2 := (hR.set p'.toNat (B x)).set (256 + x.toNat) (B p')
      rw [keyC_setT _ _ _ _ _ (by omega), keyC_setK _ _ _ _ 256 _ (by simpa using hT) (by omega), EXH.out.1, EXH.out.2] at R2
      have G2 := grownBy_set (grownBy_set hG p'.toNat (B x)) (256 + x.toNat) (B p')
      have R2 := Lib.hid R2
      have G2 := Lib.hid G2
      by_cases hlast : k = 254
      · subst hlast
        have h1 : p' = 1 := by rw [HP.out, rd_p]; exact pk_round.2
        have t1 : ((p'.toNat : Int) == 1) = true := by rw [h1]; rfl
        have HP1 := Lib.hid h1
        clear h1
        go_wp2
        go_region
        obtain ⟨W, hW⟩ : ∃ W, W = ((wr.setCell ⟨g, p'.toNat, none⟩ (B x)).setCell ⟨g, 256 + x.toNat, none⟩ (B p')).drew := ⟨_, rfl⟩
        have RW : Row W g 109 (keyC (rd 255).T (rd 255).K kv) := by rw [hW]; exact R2.out
        have GW : w.grownBy W (some g) := by rw [hW]; exact grownBy_drew G2.out
        rw [← hW]
        have e1 := rd_T 255
        have e2 := rd_K 255
        have HF := Lib.hid (And.intro boxT_eq boxK_eq)
        generalize (rd 255).T = T1 at *
        generalize (rd 255).K = K1 at *
        clear hW hR hG R2 G2
        go_wp2
        go_region
        go_wp2
        go_end0
        refine ⟨rfl, ?_, ?_⟩
        · have R3 := (RW.set 0 (.int .u8 99)).set 355 (.int .u8 0)
          rw [keyC_set0 _ _ _ (by omega), keyC_set99 _ _ _ (by rw [List.length_set, e1]) (by omega)] at R3
          rw [HF.out.1, HF.out.2]
          exact R3
        · exact grownBy_drew (grownBy_set (grownBy_set GW 0 _) 355 _)
      · have h1 : p' ≠ 1 := by rw [HP.out, rd_p]; exact pk_round.1 k (by omega)
        have t1 : ((p'.toNat : Int) == 1) = false := by
          have : p'.toNat ≠ 1 := fun e => h1 (by rw [← UInt8.ofNat_toNat (x := p'), e]; rfl)
          simp; omega
        have HP1 := Lib.hid h1
        clear h1
        go_wp2
        go_region
        go_wp2
        go_roundg (gk - 1)
        case measure => omega
        case rel => exact ⟨k + 1, by omega, by omega, by rw [← HP.out], by rw [← HQ.out], R2.out, grownBy_drew G2.out⟩
    · skip
      have hd : (bits .and .u8 ((xr (xr (xr q (shl q 1)) (shl (xr q (shl q 1)) 2)) (shl (xr (xr q (shl q 1)) (shl (xr q (shl q 1)) 2)) 4)).toNat : Int) 128 != 0) = false := by rw [sp_and]; exact decide_eq_false h128
      have hQ : xr (xr (xr q (shl q 1)) (shl (xr q (shl q 1)) 2)) (shl (xr (xr q (shl q 1)) (shl (xr q (shl q 1)) 2)) 4) = (rd (k + 1)).q := by rw [hq1]; unfold qn; rw [if_neg h128]; rfl
      have HD := Lib.hid hd
      have HQ := Lib.hid hQ
      clear hQ h128 hq1
      go_wp2_with (go_at_call 60; refine (double_any _ _).mono ?_; rintro e w' ⟨rfl, rfl⟩)
      rw [HQ.out, HP.out]
      clear HQ HD hd HP
      obtain ⟨q', hq'⟩ : ∃ q', q' = (rd (k + 1)).q := ⟨_, rfl⟩
      obtain ⟨p', hp'⟩ : ∃ p', p' = (rd (k + 1)).p := ⟨_, rfl⟩
      rw [← hq', ← hp']
      obtain ⟨x, hx⟩ : ∃ x, x = xr (xr (xr (xr (xr q' (orr (shl q' 1) (shr q' 7))) (orr (shl q' 2) (shr q' 6))) (orr (shl q' 3) (shr q' 5))) (orr (shl q' 4) (shr q' 4))) 0x63 := ⟨_, rfl⟩
      rw [← hx]
      have EX : T.set p'.toNat x = (rd (k + 1)).T ∧ K.set x.toNat p' = (rd (k + 1)).K := by
        have hxa : x = affine (rd (k + 1)).q := by rw [hx, hq']; rfl
        rw [hxa, hp', hTT, hKK]; exact ⟨rfl, rfl⟩
      have EXH := Lib.hid EX
      have HQ := Lib.hid hq'
      have HP := Lib.hid hp'
      have HTT := Lib.hid hTT
      have HKK := Lib.hid hKK
      clear EX hx hq' hp' hTT hKK
      have i1 : (p'.toNat : Int) < 256 := by have := p'.toNat_lt; omega
      have i2 : (x.toNat : Int) < 256 := by have := x.toNat_lt; omega
      have j1 : p'.toNat < 256 := p'.toNat_lt
      have j2 : x.toNat < 256 := x.toNat_lt
      have R2 := (hR.set p'.toNat (B x)).set (256 + x.toNat) (B p')
      rw [keyC_setT _ _ _ _ _ (by omega), keyC_setK _ _ _ _ 256 _ (by simpa using hT) (by omega), EXH.out.1, EXH.out.2] at R2
      have G2 := grownBy_set (grownBy_set hG p'.toNat (B x)) (256 + x.toNat) (B p')
      have R2 := Lib.hid R2
      have G2 := Lib.hid G2
      by_cases hlast : k = 254
      · subst hlast
        have h1 : p' = 1 := by rw [HP.out, rd_p]; exact pk_round.2
        have t1 : ((p'.toNat : Int) == 1) = true := by rw [h1]; rfl
        have HP1 := Lib.hid h1
        clear h1
        go_wp2
        go_region
        obtain ⟨W, hW⟩ : ∃ W, W = ((wr.setCell ⟨g, p'.toNat, none⟩ (B x)).setCell ⟨g, 256 + x.toNat, none⟩ (B p')).drew := ⟨_, rfl⟩
        have RW : Row W g 109 (keyC (rd 255).T (rd 255).K kv) := by rw [hW]; exact R2.out
        have GW : w.grownBy W (some g) := by rw [hW]; exact grownBy_drew G2.out
        rw [← hW]
        have e1 := rd_T 255
        have e2 := rd_K 255
        have HF := Lib.hid (And.intro boxT_eq boxK_eq)
        generalize (rd 255).T = T1 at *
        generalize (rd 255).K = K1 at *
        clear hW hR hG R2 G2
        go_wp2
        go_region
        go_wp2
        go_end0
        refine ⟨rfl, ?_, ?_⟩
        · have R3 := (RW.set 0 (.int .u8 99)).set 355 (.int .u8 0)
          rw [keyC_set0 _ _ _ (by omega), keyC_set99 _ _ _ (by rw [List.length_set, e1]) (by omega)] at R3
          rw [HF.out.1, HF.out.2]
          exact R3
        · exact grownBy_drew (grownBy_set (grownBy_set GW 0 _) 355 _)
      · have h1 : p' ≠ 1 := by rw [HP.out, rd_p]; exact pk_round.1 k (by omega)
        have t1 : ((p'.toNat : Int) == 1) = false := by
          have : p'.toNat ≠ 1 := fun e => h1 (by rw [← UInt8.ofNat_toNat (x := p'), e]; rfl)
          simp; omega
        have HP1 := Lib.hid h1
        clear h1
        go_wp2
        go_region
        go_wp2
        go_roundg (gk - 1)
        case measure => omega
        case rel => exact ⟨k + 1, by omega, by omega, by rw [← HP.out], by rw [← HQ.out], R2.out, grownBy_drew G2.out⟩
end Go.Proofs.YtcfbiafedfkbhaaDoor
