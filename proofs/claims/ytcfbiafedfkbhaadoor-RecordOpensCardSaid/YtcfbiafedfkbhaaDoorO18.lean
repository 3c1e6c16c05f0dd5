/- Part of the proof: New, Clone. No conditions of its own. -/
import Derived.BigQuiet
import Derived.BigRegion
import Derived.Deep.CutBlock
import Derived.Deep.DeepCutAuto
import Derived.Deep.LoopGhost
import Derived.Deep.Quiet
import Derived.Deep.QuietTactic
import Derived.Deep.RegionLaw
import Derived.Lib.Hide
import Derived.RangeFuncBox
import Derived.StillTail
import Derived.Test.YtcfbiafedfkbhaaDoorProg
import Derived.WalkKit
import Derived.WalkSpells
import Derived.Test.YtcfbiafedfkbhaaDoorO17
import Derived.Laws.AppendOwnNone
import Derived.Test.YtcfbiafedfkbhaaDoorO04
namespace Go.Proofs.YtcfbiafedfkbhaaDoor
open Go.RowKit

set_option maxRecDepth 100000 in
theorem build_key (w : World) : (Instr.build 109 #[]).run Tryd.prog w = .ok (.agg (keyC z256 z256 (.slice none 0 0))) w := by kernel_rfl

theorem exec_build_key (ρ : Operand → Value) (dst : Option Tmp) (type : TypeId) (pos : String) (after : Array Edge) (guard : Option (Nat × Bool)) (w : World) :
    (execOp ρ { dst, op := .build 109 #[], type, pos, after, guard }).run Tryd.prog w = .ok (.value (.agg (keyC z256 z256 (.slice none 0 0)))) w := by
  unfold execOp
  simp only [List.map_toArray, List.map_nil, Sem.run_bind, build_key, Result.andThen_ok]
  rfl
attribute [local go_sem ↓] exec_build_key
attribute [local go_sem] keyC_T keyC_K keyC_setT keyC_setK keyC_size keyC_v keyC_setv boxT_len boxK_len
theorem info_u8 : (Tryd.prog.info? 5).map (fun i => (i.zero, i.size, i.bytes)) = some (some (.int .u8 0), 1, 1) := by kernel_rfl
theorem info_blk : (Tryd.prog.info? 84).map (fun i => (i.zero, i.size, i.bytes)) = some (some (.agg (AB (List.replicate 16 0))), 16, 16) := by kernel_rfl
set_option maxRecDepth 100000 in
set_option maxHeartbeats 2000000 in
theorem new_ok (v : Value) (l : List UInt8) (w : World) (hv : SlB w v l) (hl : l.length = 16) :
    Calls Tryd.prog 44 #[v] w fun e w' => ∃ p, e = .returned (.tuple #[p, .int .i64 0]) ∧ KeyAt 109 84 w' p (expand l) 11 ∧ Below w.heap.size w w' := by
  obtain ⟨b, o, cap, rfl, hcap, hmax, hb, hcell⟩ := hv.addr (by omega)
  rw [hl] at hcap ⊢
  have HL := Lib.hid hl
  have hcell16 : ∀ i, i < 16 → w.cell? ⟨b, o + i, none⟩ = some (B (gb l i)) := fun i hi => hcell i (by omega)
  clear hl hcell
  obtain ⟨i0, hi, hz0, hz1, hz2⟩ := info_parts info_u8
  go_enter Tryd.func44, Tryd.ntmps44
  go_wp2_with fail
  refine (ready_any _ _ _ (Row.new w _ _)).mono ?_
  rintro e w1 ⟨rfl, hk1, hg1⟩
  have hsz : w.heap.size + 1 ≤ w1.heap.size := by have := hg1.size; simpa using this
  have hB1 : Below w.heap.size w w1 := ((Below.refl _ w).alloc (Nat.le_refl _) _).grown hg1 (by simp) (fun k e => by cases e; exact Nat.le_refl _)
  have hc1 : ∀ i, i < 16 → w1.cell? ⟨b, o + i, none⟩ = some (B (gb l i)) := fun i hi => (hB1.cell hb).trans (hcell16 i hi)
  clear hcell16 hg1
  have hn1 : ∀ j u, (l.map B)[j]? = some u → w1.cell? ((⟨b, o, none⟩ : Addr).add j) = some u := by
    intro j u hj
    have hj' : j < l.length := by simpa using (List.getElem?_eq_some_iff.1 hj).1
    rw [Addr.add_lit, hc1 j (by have := HL.out; omega)]
    simpa [gb, hj'] using hj
  have hn2 : ∀ u ∈ l.map B, u.oneCell' = true := by
    intro u hu; obtain ⟨x, _, rfl⟩ := List.mem_map.1 hu; rfl
  have hn3 : (l.map B).length = 16 * 1 := by simp [HL.out]
  go_wp2_with (at_builtin; refine wpList_append_own _ rfl _ _ 23 rfl (w.heap.size + 1) 5 i0 (.int .u8 0) 1 1 Tryd.underlying23 hi hz0 hz1 hz2 rfl (by decide) (.slice none 0 0) 0 [] rfl (World.ownsRow_nil _ _ _ _) ⟨b, o, none⟩ 16 cap (l.map B) rfl hn3 hn1 hn2 (by unfold maxLen; omega) (by omega) (by omega) ?_)
  intro v2 w2 hown2 hgrow2 _
  have hbuf2 : Buf 5 w2 (w.heap.size + 1) v2 (ks 4 l 0).w := by
    show w2.ownsRow _ _ 1 v2 l.length (l.map B)
    rw [HL.out]; exact hown2
  have hk2 : Row w2 w.heap.size 109 (keyC boxT boxK (.slice none 0 0)) := (row_congr (hgrow2.block w.heap.size (by omega) (by simp [Value.ownBlock]))).trans hk1
  have hB2 : Below w.heap.size w w2 := hB1.grown hgrow2 (by omega) (fun k e => by cases e)
  have hsz2 : w.heap.size + 1 ≤ w2.heap.size := Nat.le_trans hsz hgrow2.size
  have HLK := Lib.hid (ks_len 4 l HL.out)
  clear hc1 hown2 hgrow2 hn1 hn2 hn3 hk1 hB1 hsz
  go_wp2_with fail
  go_loopg [6, 7, 9] 40 (fun n v c i wr => ∃ m : Nat, n + m = 40 ∧ i = .int .i64 (4 + m : Nat) ∧ c = B (ks 4 l m).c ∧ Buf 5 wr (w.heap.size + 1) v (ks 4 l m).w ∧ Row wr w.heap.size 109 (keyC boxT boxK (.slice none 0 0)) ∧ Below w.heap.size w wr ∧ w.heap.size + 1 ≤ wr.heap.size)
  case atStart => exact ⟨0, by omega, rfl, rfl, hbuf2, hk2, hB2, hsz2⟩
  case round =>
    clear hbuf2 hk2 hB2 hsz2
    obtain ⟨no, rfl⟩ : ∃ no : Nat, no = gk := ⟨_, rfl⟩
    obtain ⟨m, hm, rfl, rfl, hbuf, hk, hB, hsz⟩ := hrel
    have hlen := HLK.out m
    obtain ⟨W, hW⟩ : ∃ W, W = (ks 4 l m).w := ⟨_, rfl⟩
    obtain ⟨c, hc⟩ : ∃ c, c = (ks 4 l m).c := ⟨_, rfl⟩
    rw [← hW] at hbuf hlen
    rw [← hc]
    obtain ⟨g, cap, cur, rfl, hg, hrow, hlc, hcm, hcs, hpre⟩ := hbuf.open (by omega)
    by_cases hlt : m < 40
    · have hW' := Lib.hid hW
      have hc' := Lib.hid hc
      have hlen' := Lib.hid hlen
      have hX := hpre.sub (12 + m * 4) 4 (by omega)
      obtain ⟨X, hXe⟩ : ∃ X, X = (W.drop (12 + m * 4)).take 4 := ⟨_, rfl⟩
      have hXl : X.length = 4 := by rw [hXe]; simp; omega
      rw [← hXe] at hX
      have HXj : Hid (∀ j, j < 4 → gb X j = gb W (W.length - 4 + j)) := by
        show ∀ j, j < 4 → gb X j = gb W (W.length - 4 + j)
        intro j hj
        rw [hXe, hlen]
        have : 12 + m * 4 + j = 4 * 4 + m * 4 - 4 + j := by omega
        simp [gb, hj, this]
      clear hXe
      have hcap : ¬ cap = 12 + m * 4 := by omega
      rw [hlen] at hlc ⊢
      unfold maxLen at hcm
      clear hlen hW hc
      have hcs' := Lib.hid hcs
      have hpre := Lib.hid hpre
      have hlt2 : 12 + m * 4 + 4 ≤ cur.size := by omega
      clear hcs
      have e4 : 16 + m * 4 - (12 + m * 4) = 4 := by omega
      have e5 : 16 + m * 4 - 4 = 12 + m * 4 := by omega
      have b1 : (16 + (m : Int) * 4) < 176 := by omega
      go_upto_block 3 with (fail)
      obtain ⟨wo, rfl⟩ : ∃ wo : World, wo = wr := ⟨_, rfl⟩
      obtain ⟨w5, hw5⟩ : ∃ w5, w5 = (wo.alloc (.cells #[.int .u8 0, .int .u8 0, .int .u8 0, .int .u8 0] 110)).setRow wo.heap.size (AB X) := ⟨_, rfl⟩
      rw [← hw5]
      have r1 : Row w5 wo.heap.size 110 (AB X) := by rw [hw5]; exact (Row.new _ _ _).setRow _
      have r2 : Row w5 g 5 cur := by rw [hw5]; exact (hrow.alloc _).setRowOther _ _ (by have := hrow.lt; omega)
      have r3 : Row w5 w.heap.size 109 (keyC boxT boxK (.slice none 0 0)) := by rw [hw5]; exact (hk.alloc _).setRowOther _ _ (by omega)
      have hB5 : Below w.heap.size w w5 := by rw [hw5]; exact bSetRow (hB.alloc (by omega) _) (by omega) _
      have hs5 : w5.heap.size = wo.heap.size + 1 := by rw [hw5]; simp
      clear hw5
      have hs5 := Lib.hid hs5
      go_cut [7] (fun c' w2 => c' = B (if (4 + m) % 4 = 0 then dbl c else c) ∧ Row w2 wo.heap.size 110 (AB ((List.range 4).map (wx 4 (4 + m) c W))) ∧ Row w2 g 5 cur ∧ Row w2 w.heap.size 109 (keyC boxT boxK (.slice none 0 0)) ∧ Below w.heap.size w w2 ∧ w2.heap.size = wo.heap.size + 1)
      case first =>
        have hl1 := boxT_len
        have y0 := (gb X 0).toNat_lt
        have y1 := (gb X 1).toNat_lt
        have y2 := (gb X 2).toNat_lt
        have y3 := (gb X 3).toNat_lt
        have z0 : ((gb X 0).toNat : Int) < 256 := by omega
        have z1 : ((gb X 1).toNat : Int) < 256 := by omega
        have z2 : ((gb X 2).toNat : Int) < 256 := by omega
        have z3 : ((gb X 3).toNat : Int) < 256 := by omega
        by_cases h0 : (4 + m) % 4 = 0
        · go_wp2_with fail
          refine wp_region_qtail (fun w' => w' = _) 35 (by kernel_rfl) (by kernel_rfl) rfl ?_
          simp only [List.take_succ_cons, List.take_zero, List.drop_succ_cons, List.drop_zero]
          repeat (first | go_big_quiet_skip | (go_big_quiet_want; go_big_quiet_op; go_big_quiet_on))
          refine wpQuiet_nil ?_
          rintro _ rfl
          go_wp2_with (go_at_call 60; refine (double_any _ _).mono ?_; rintro e w' ⟨rfl, rfl⟩)
          go_meet
          case rel => exact ⟨by rw [if_pos h0], by rw [wx_turn HXj.out h0]; exact r1.setRow _, r2.setRowOther _ _ (by have := hrow.lt; omega), r3.setRowOther _ _ (by omega), (bSetRow hB5 (by omega) _).drew, by simpa using hs5.out⟩
        · go_wp2_with fail
          go_meet
          case rel => exact ⟨by rw [if_neg h0], by rw [wx_plain HXj.out hXl h0 (by omega)]; exact r1, r2, r3, hB5, by simpa using hs5.out⟩
      case rest =>
        clear r1 r2 r3 hB5 hs5 hX hrow hk hB hbuf
        obtain ⟨c2, hc2⟩ : ∃ c2, c2 = (if (4 + m) % 4 = 0 then dbl c else c) := ⟨_, rfl⟩
        obtain ⟨Y, hY⟩ : ∃ Y, Y = (List.range 4).map (wx 4 (4 + m) c W) := ⟨_, rfl⟩
        rw [← hc2, ← hY] at hcut
        have hYl : Y.length = 4 := by rw [hY]; simp
        have HC2 := Lib.hid hc2
        have HY := Lib.hid hY
        clear hc2 hY
        obtain ⟨rfl, r1, r2, r3, hB5, hs5⟩ := hcut
        have hbuf5 : Buf 5 wc (w.heap.size + 1) (.slice (some ⟨g, 0, none⟩) (16 + m * 4) cap) (wj 4 (4 + m) c W 0) := by
          have e0 : wj 4 (4 + m) c W 0 = W := by simp [wj]
          have := Buf.mk' (base := w.heap.size + 1) r2 hpre.out (by rw [hlen'.out]; exact hlc) hcm hcs'.out hg
          rw [e0]
          rwa [hlen'.out] at this
        have e6 : (16 + (m : Int) * 4 - 16) = (m : Int) * 4 := by omega
        have hs5 := Lib.hid hs5
        go_wp2_with fail
        obtain ⟨wq, rfl⟩ : ∃ wq : World, wq = wc := ⟨_, rfl⟩
        go_loopg [6, 139] 4 (fun n v jv wr => ∃ j : Nat, n + j = 4 ∧ jv = .int .i64 j ∧ Buf 5 wr (w.heap.size + 1) v (wj 4 (4 + m) c W j) ∧ Row wr w.heap.size 109 (keyC boxT boxK (.slice none 0 0)) ∧ Below w.heap.size w wr ∧ w.heap.size + 1 ≤ wr.heap.size)
        case atStart => exact ⟨0, by omega, rfl, hbuf5, r3, hB5, by have := hs5.out; omega⟩
        case round =>
          clear hbuf5 r1 r2 r3 hB5 hs5
          obtain ⟨j, hj, rfl, hbuf, hk, hB, hsz⟩ := hrel
          have hwl := wj_len 4 (4 + m) c W j
          obtain ⟨V, hV⟩ : ∃ V, V = wj 4 (4 + m) c W j := ⟨_, rfl⟩
          rw [← hV] at hbuf hwl
          have hVl : V.length = 16 + m * 4 + j := by rw [hwl, hlen'.out]
          obtain ⟨g', cap', cur', rfl, hg', hrow', hlc', hcm', hcs', hpre'⟩ := hbuf.open (by omega)
          by_cases hj4 : j < 4
          · have hcx : wr.cell? ⟨g', m * 4 + j, none⟩ = some (B (gb V (m * 4 + j))) := (hrow'.cell _).trans (hpre'.get _ (by omega))
            have HV := Lib.hid hV
            have HVl := Lib.hid hVl
            have hgb := hbuf.lt g' rfl
            have hkb : some w.heap.size ≠ (Value.slice (some ⟨g', 0, none⟩) (16 + m * 4 + j) cap').ownBlock := by simp [Value.ownBlock]; omega
            rw [hVl] at hbuf ⊢
            clear hV hwl hVl hcs' hpre' hrow'
            go_wp2_with (at_builtin; refine wpl_append1 rfl (.tmp 143) (.tmp 152) 23 rfl Tryd.underlying23 info_u8 (w.heap.size + 1) _ V rfl (hbuf.alloc _) wr.heap.size (xr (gb V (m * 4 + j)) (gb Y j)) rfl ?c1 ?c2 ?c3 ?c4)
            case c1 => simp
            case c2 => have := HVl.out; omega
            case c3 => simp; omega
            case c4 =>
              intro v' w' hbuf' hgrow
              have hB' : Below w.heap.size w w' := (hB.alloc (by omega) _).grown hgrow (by simp; omega) (fun k e => by simp [Value.ownBlock] at e; omega)
              have hk' : Row w' w.heap.size 109 (keyC boxT boxK (.slice none 0 0)) := (row_congr (hgrow.block w.heap.size (by simp; omega) hkb)).trans (hk.alloc _)
              have hsz' : w.heap.size + 1 ≤ w'.heap.size := by have := hgrow.size; simp at this; omega
              have e8 : V ++ [xr (gb V (m * 4 + j)) (gb Y j)] = wj 4 (4 + m) c W (j + 1) := by
                have := wj_step 4 (4 + m) c W j (by omega) (by have := hlen'.out; omega) hj4
                rw [← this, HV.out, HY.out, hlen'.out, show 4 * 4 + m * 4 - 4 * 4 + j = m * 4 + j by omega]
                simp [gb, hj4]
              have HB' := Lib.hid (e8 ▸ hbuf')
              clear hbuf' hgrow hB hk hcx hbuf hkb e8
              go_wp2_with fail
              go_roundg (gk - 1)
              case measure => omega
              case rel => exact ⟨j + 1, by omega, by go_num, HB'.out, hk', hB', hsz'⟩
          · obtain rfl : j = 4 := by omega
            have HV := Lib.hid hV
            have HVl := Lib.hid hVl
            rw [hVl] at hbuf ⊢
            clear hV hwl hVl hcs' hpre' hrow'
            go_wp2_with fail
            go_roundg (no - 1)
            case measure => omega
            case rel =>
              refine ⟨m + 1, by omega, by go_num, ?_, ?_, hk, hB, hsz⟩
              · rw [HC2.out, hc'.out]; rfl
              · have e9 : V = (ks 4 l (m + 1)).w := by rw [HV.out, hW'.out, hc'.out]; rfl
                rw [← e9]
                show Buf _ _ _ _ _
                have := hbuf
                rwa [← HVl.out] at this
    · obtain rfl : m = 40 := by omega
      have hE : W = expand l := by rw [hW]; unfold expand; rw [HL.out]
      have HE := Lib.hid hE
      have Hlen := Lib.hid hlen
      rw [hlen] at hlc ⊢
      have hpre := Lib.hid hpre
      have Hcs := Lib.hid hcs
      have hcs2 : 176 ≤ cur.size := by omega
      unfold maxLen at hcm
      clear hW hc hE hlen hcs
      have hnil : wr.ownsRow (w.heap.size + 1) 84 16 (.slice none 0 0) 0 (((W.take (16 * 0)).map B)) := by simpa using World.ownsRow_nil wr (w.heap.size + 1) 84 16
      have hWl : W.length = 176 := Hlen.out
      have HWl := Lib.hid hWl
      clear hWl
      go_wp2_with fail
      go_loopg [6] 11 (fun n v wr => ∃ (r : Nat) (of : Nat) (kv : Value), n + r = 11 ∧ v = .slice (some ⟨g, of, none⟩) (176 - 16 * r) (cap - 16 * r) ∧ (r < 11 → of = 16 * r) ∧ Row wr g 5 cur ∧ wr.ownsRow (w.heap.size + 1) 84 16 kv r ((W.take (16 * r)).map B) ∧ kv.ownBlock ≠ some g ∧
        Row wr w.heap.size 109 (keyC boxT boxK kv) ∧ Below w.heap.size w wr ∧ w.heap.size + 1 ≤ wr.heap.size)
      case atStart => exact ⟨0, 0, .slice none 0 0, by omega, rfl, fun _ => rfl, hrow, hnil, by simp [Value.ownBlock], hk, hB, hsz⟩
      case round =>
        clear hnil hrow hbuf hk hB hsz
        obtain ⟨r, of, kv, hr, rfl, hof, hrow, hown, hne, hk, hB, hsz⟩ := hrel
        by_cases h11 : r < 11
        · obtain rfl := hof h11
          have hX := hpre.out.sub (16 * r) 16 (by have := HWl.out; omega)
          obtain ⟨X, hXe⟩ : ∃ X, X = (W.drop (16 * r)).take 16 := ⟨_, rfl⟩
          have hXl : X.length = 16 := by rw [hXe]; have := HWl.out; simp; omega
          rw [← hXe] at hX
          have HXe := Lib.hid hXe; clear hXe
          have hlt2 : 16 * r + 16 ≤ cur.size := by omega
          obtain ⟨L, hL⟩ : ∃ L, L = 176 - 16 * r := ⟨_, rfl⟩
          obtain ⟨cc, hcc⟩ : ∃ cc, cc = cap - 16 * r := ⟨_, rfl⟩
          rw [← hL, ← hcc]
          have q1 : 0 < (L : Int) := by omega
          have q2 : (16 : Int) ≤ (cc : Int) := by omega
          have q3 : (16 : Int) ≤ (L : Int) := by omega
          have q4 : L ≤ cc := by omega
          have HL2 := Lib.hid hL; have Hcc := Lib.hid hcc
          clear hL hcc hof
          have hX1 : ∀ j u, (X.map B)[j]? = some u → (wr.drew.alloc (.cells (AB X) 84)).cell? ((⟨wr.heap.size, 0, none⟩ : Addr).add j) = some u := by
            intro j u hj
            have hj' : j < X.length := by simpa using (List.getElem?_eq_some_iff.1 hj).1
            rw [Addr.add_lit, Nat.zero_add]
            refine ((Row.newAt wr.drew wr.heap.size _ _ rfl).byte j hj').trans ?_
            simpa [gb, hj'] using hj
          have hX2 : ∀ u ∈ X.map B, u.oneCell' = true := by intro u hu; obtain ⟨x, _, rfl⟩ := List.mem_map.1 hu; rfl
          have hX3 : (X.map B).length = 1 * 16 := by simp [hXl]
          have hlt1 : w.heap.size < wr.heap.size := by omega
          have hlt3 : g < wr.heap.size := hrow.lt
          obtain ⟨ib, hib, hzb, hsb, hbb⟩ := info_parts info_blk
          have hkb : some w.heap.size ≠ kv.ownBlock := fun e => by have := (hown.lt _ e.symm).1; omega
          go_wp2_with fail
          go_region_law ((refine wp_append_own _ (.tmp 164) (.tmp 169) 107 rfl (w.heap.size + 1) 84 ib _ 16 16 Tryd.underlying107 hib hzb hsb hbb rfl (by decide) kv r _ rfl (hown.drew.alloc _) ⟨wr.heap.size, 0, none⟩ 1 1 (X.map B) rfl hX3 hX1 hX2 (by unfold maxLen; omega) (by omega) (by simp; omega) ?_; intro v' w' hown' hgrow _; obtain ⟨g2, cap2, rfl⟩ := ownsRow_succ hown'; have hk' : Row w' w.heap.size 109 (keyC boxT boxK kv) := (row_congr (hgrow.block w.heap.size (by simp; omega) hkb)).trans (Row.alloc hk.drew _)))
          all_goals
            have hrow' : Row w' g 5 cur := (row_congr (hgrow.block g (by simp; omega) (fun e => hne e.symm))).trans (Row.alloc hrow.drew _)
            have hne' := ownsRow_ne hown' hrow' (by decide)
            have hB' : Below w.heap.size w w' := (hB.drew.alloc (by simp; omega) _).grown hgrow (by simp; omega) (fun k e => by have := (hown.lt _ e).1; omega)
            have hsz' : w.heap.size + 1 ≤ w'.heap.size := by have := hgrow.size; simp at this; omega
            have eW : (W.take (16 * r)).map B ++ X.map B = (W.take (16 * (r + 1))).map B := by
              rw [← List.map_append, HXe.out, ← List.take_add, show 16 * r + 16 = 16 * (r + 1) by omega]
            have hown2 : (w'.setCell ⟨w.heap.size, 512, none⟩ (.slice (some ⟨g2, 0, none⟩) (r + 1) cap2)).ownsRow (w.heap.size + 1) 84 16 (.slice (some ⟨g2, 0, none⟩) (r + 1) cap2) (r + 1) ((W.take (16 * (r + 1))).map B) :=
              ownsRow_setCell_below (eW ▸ hown') (by simp) _
            have hk2 : Row (w'.setCell ⟨w.heap.size, 512, none⟩ (.slice (some ⟨g2, 0, none⟩) (r + 1) cap2)) w.heap.size 109 (keyC boxT boxK (.slice (some ⟨g2, 0, none⟩) (r + 1) cap2)) := by
              have := hk'.set 512 (.slice (some ⟨g2, 0, none⟩) (r + 1) cap2)
              rwa [keyC_setv _ _ _ _ 512 (by rw [boxT_len, boxK_len])] at this
            have hrow2 := hrow'.setOther ⟨w.heap.size, 512, none⟩ (.slice (some ⟨g2, 0, none⟩) (r + 1) cap2) (by simp; omega)
            have hB2 := hB'.setCell (p := ⟨w.heap.size, 512, none⟩) (Nat.le_refl _) (.slice (some ⟨g2, 0, none⟩) (r + 1) cap2)
            have H1 := Lib.hid hown2; have H2 := Lib.hid hk2; have H3 := Lib.hid hrow2; have H4 := Lib.hid hB2
            clear hown2 hk2 hrow2 hB2 eW hB' hrow' hk' hown' hgrow hown hk hrow hB hX hX1 hX2 hX3
            by_cases h16 : cc = 16
            · go_wp2
              go_roundg (gk - 1)
              case measure => omega
              case rel => exact ⟨r + 1, 16 * r, _, by omega, slice_eq (by have := HL2.out; omega) (by have := Hcc.out; omega), fun h => (by have := Hcc.out; omega), H3.out, H1.out, hne', H2.out, H4.out, by simpa using hsz'⟩
            · go_wp2
              go_roundg (gk - 1)
              case measure => omega
              case rel => exact ⟨r + 1, 16 * r + 16, _, by omega, slice_eq (by have := HL2.out; omega) (by have := Hcc.out; omega), fun h => by omega, H3.out, H1.out, hne', H2.out, H4.out, by simpa using hsz'⟩
        · obtain rfl : r = 11 := by omega
          have e12 : 176 - 16 * 11 = 0 := rfl
          rcases hown.2 with ⟨_, h0⟩ | ⟨kk, cap2, cur2, rfl, hbk, hhk, hc1, hc2, hc3, hc4⟩
          · omega
          have HF : Hid (KeyAt 109 84 wr (.pointer (some ⟨w.heap.size, 0, none⟩)) (expand l) 11) := by
            refine ⟨w.heap.size, kk, cap2, cur2, rfl, hk, Row.of_heap hhk, ?_, ?_, hc1, hc2⟩
            · rw [← HE.out, HWl.out]
            · rw [← HE.out]
              have h4 := hc4
              rw [show 11 * 16 = W.length by rw [HWl.out], List.take_length] at h4
              exact h4
          clear hc4 hc3 hhk
          go_wp2
          go_ret2
          exact ⟨_, rfl, HF.out, hB⟩
end Go.Proofs.YtcfbiafedfkbhaaDoor

namespace Go.Proofs.YtcfbiafedfkbhaaDoor
open Go.RowKit

theorem eql_nil_slice (w : World) (a : Option Addr) (n c : Nat) : (binOp .eql 23 (.slice a n c) (.slice none 0 0)).run Tryd.prog w = .ok (.bool a.isNone) w := by
  simp only [binOp]
  simp [Op.equal, Op.maxDepth, Lib.run_equalIn_slice_nil w 9999 23 5 a n c 0 0 Tryd.underlying23]
attribute [local go_sem] eql_nil_slice
set_option maxRecDepth 100000 in
set_option maxHeartbeats 1000000 in
theorem clone_any (v : Value) (l : List UInt8) (w : World) (hv : SlB w v l) (hl : l.length ≤ 140737488355328) : Calls Tryd.prog 30 #[v] w fun e w' => ∃ v', e = .returned v' ∧ Buf 5 w' w.heap.size v' l ∧ Below w.heap.size w w' := by
  have hv0 := hv
  obtain ⟨a, cap, rfl, h1, h2, h3, h4⟩ := hv
  cases a with
  | none =>
    obtain rfl : cap = 0 := h3 rfl
    have : l = [] := List.eq_nil_of_length_eq_zero (by omega)
    subst this
    go_enter Tryd.func30, Tryd.ntmps30
    go_wp2_with fail
    go_ret
    exact ⟨_, rfl, by simpa [Buf] using World.ownsRow_nil w w.heap.size 5 1, Below.refl _ w⟩
  | some ad =>
    have HV := Lib.hid hv0
    clear hv0 h4 h3
    have hB : Below w.heap.size w (w.alloc (.cells #[] 5)) := (Below.refl _ w).alloc (Nat.le_refl _) _
    have hS : SlB (w.alloc (.cells #[] 5)) (.slice (some ad) l.length cap) l := HV.out.below hB
    have HS := Lib.hid hS
    have HB := Lib.hid hB
    clear hS hB
    go_enter Tryd.func30, Tryd.ntmps30
    go_wp2_with (at_builtin; refine wpl_appendS rfl (.tmp 5) (.tmp 6) 23 rfl Tryd.underlying23 info_u8 w.heap.size _ [] rfl (Buf.empty _ _ _ rfl (Nat.le_refl _)) _ l rfl HS.out (by simpa using hl) (by simp) ?_)
    intro v' w' hb hg
    have hBw : Below w.heap.size w w' := HB.out.grown hg (by simp) (fun k e => by simp [Value.ownBlock] at e; omega)
    have Hb := Lib.hid (show Buf 5 w' w.heap.size v' l from hb)
    clear hb hg
    go_wp2_with fail
    go_ret
    exact ⟨_, rfl, Hb.out, hBw⟩
end Go.Proofs.YtcfbiafedfkbhaaDoor
