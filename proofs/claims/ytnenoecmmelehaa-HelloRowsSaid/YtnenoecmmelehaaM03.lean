/- Part of the proof: HLawB. No conditions of its own. -/
import Derived.BigQuiet
import Derived.Deep.Quiet
import Derived.Deep.QuietTactic
import Derived.Lib.Hide
import Derived.StillTail
import Derived.WalkKit
import Derived.Test.YtnenoecmmelehaaM02
namespace Go.Proofs.Ytnenoecmmelehaa
open Go.RowKit

theorem bareP_all {m : MsgP} (h : bareP m = true) : m.session = [] ∧ m.share = [] ∧ m.ticket = [] ∧ m.nonce = [] ∧ m.sig = [] ∧ m.certs = [] ∧ m.random = zero32 ∧ m.mark = zero32 ∧ m.life = 0 ∧ m.age = 0 ∧ m.psk = false ∧ m.retry = false := by
  unfold bareP at h
  simpa [Bool.and_eq_true, and_assoc, List.isEmpty_iff] using h
theorem wideP_all {n : Int} (h : wideP n = true) : 0 ≤ n ∧ n < 4294967296 := by
  unfold wideP at h
  simpa using h
theorem wide_num {n : Int} (h : wideP n = true) : ((valP (numB n.toNat 4) : Nat) : Int) = n := by
  have := wideP_all h
  rw [valP_4 _ (by omega)]; omega
def extB (m : MsgP) : List UInt8 := if m.psk then (hModes ++ (hPsk ++ (numB (vecB (vecB m.ticket 2 ++ numB m.age.toNat 4) 2 ++ (hBinder ++ m.mark)).length 2 ++ numB (vecB m.ticket 2 ++ numB m.age.toNat 4).length 2))) ++ (numB m.ticket.length 2 ++ (m.ticket ++ (numB m.age.toNat 4 ++ (hBinder ++ m.mark)))) else []
def shareB (m : MsgP) : List UInt8 := if m.share = [] then [] else hGroup ++ (numB m.share.length 2 ++ m.share)
def p35 (m : MsgP) : List UInt8 := hSuites ++ (numB (offersP m).length 2 ++ (hAble ++ (hShare ++ numB (vecB (shareB m) 2).length 2)))
theorem offers_eq (m : MsgP) : offersP m = hAble ++ (hShare ++ (numB (vecB (shareB m) 2).length 2 ++ (numB (shareB m).length 2 ++ (shareB m ++ extB m)))) := by
  unfold offersP extB shareB
  simp only [vecB, List.append_assoc]
theorem body1_eq (m : MsgP) (hk : m.kind = 1) : bodyP m = hVersion ++ (m.random ++ (numB m.session.length 1 ++ (m.session ++ (p35 m ++ (numB (shareB m).length 2 ++ (shareB m ++ extB m)))))) := by
  unfold bodyP
  rw [if_pos hk]
  have h := offers_eq m
  have e : p35 m ++ (numB (shareB m).length 2 ++ (shareB m ++ extB m)) = hSuites ++ vecB (offersP m) 2 := by
    unfold p35
    show _ = hSuites ++ (numB (offersP m).length 2 ++ offersP m)
    simp only [List.append_assoc]
    rw [← h]
  rw [e]
  simp only [vecB, List.append_assoc]
theorem p35_len (m : MsgP) : (p35 m).length = 35 := by
  unfold p35; simp only [List.length_append, numB_len]; rfl
theorem share_len {m : MsgP} (h : m.share = [] ∨ m.share.length = 65) : (shareB m).length = if m.share = [] then 0 else 69 := by
  unfold shareB
  split
  · rfl
  · rename_i hs
    simp only [List.length_append, numB_len]
    rcases h with h | h
    · exact absurd h hs
    · rw [h]; rfl
theorem share_drop {m : MsgP} (h : m.share = [] ∨ m.share.length = 65) : (if 4 < (shareB m).length then (shareB m).drop 4 else []) = m.share := by
  rw [share_len h]
  by_cases hs : m.share = []
  · rw [if_pos hs, if_neg (by omega), hs]
  · rw [if_neg hs, if_pos (by omega)]
    unfold shareB
    rw [if_neg hs, drop_cat (by decide), show 4 - hGroup.length = 2 from rfl, drop_len (numB_len _ _)]
theorem MsgP.eta {m m' : MsgP} (h1 : m.kind = m'.kind) (h2 : m.random = m'.random) (h3 : m.mark = m'.mark) (h4 : m.session = m'.session) (h5 : m.share = m'.share) (h6 : m.ticket = m'.ticket) (h7 : m.nonce = m'.nonce) (h8 : m.sig = m'.sig) (h9 : m.certs = m'.certs) (h10 : m.life = m'.life) (h11 : m.age = m'.age) (h12 : m.psk = m'.psk) (h13 : m.retry = m'.retry) : m = m' := by
  cases m; cases m'; simp_all
structure Is1 (m : MsgP) : Prop where
  ses : m.session.length ≤ 32
  sh : m.share = [] ∨ m.share.length = 65
  no : m.nonce = []
  sg : m.sig = []
  ce : m.certs = []
  li : m.life = 0
  re : m.retry = false
  yes : m.psk = true → 1 ≤ m.ticket.length ∧ m.ticket.length ≤ 1000 ∧ wideP m.age = true
  not : m.psk = false → m.ticket = [] ∧ m.age = 0 ∧ m.mark = zero32
theorem is1 {m : MsgP} (hr : rightP m = true) (hk : m.kind = 1) : Is1 m := by
  unfold rightP at hr
  rw [if_pos hk] at hr
  simp only [Bool.and_eq_true, Bool.or_eq_true, decide_eq_true_eq, beq_iff_eq, Bool.not_eq_true'] at hr
  obtain ⟨⟨⟨h1, h2⟩, h3⟩, h4⟩ := hr
  cases hp : m.psk
  · rw [hp] at h4
    have := bareP_all h4
    dsimp at this
    obtain ⟨_, _, a3, a4, a5, a6, _, a8, a9, a10, _, a12⟩ := this
    exact ⟨h1, h2, a4, a5, a6, a9, a12, (fun h => by rw [hp] at h; cases h), fun _ => ⟨a3, a10, a8⟩⟩
  · rw [hp] at h4
    have := bareP_all h4
    dsimp at this
    obtain ⟨_, _, _, a4, a5, a6, _, _, a9, _, _, a12⟩ := this
    rcases h3 with h3 | h3
    · rw [hp] at h3; cases h3
    · exact ⟨h1, h2, a4, a5, a6, a9, a12, (fun _ => ⟨h3.1.1, h3.1.2, h3.2⟩), fun h => by rw [hp] at h; cases h⟩
theorem ext_len {m : MsgP} (hm : m.mark.length = 32) : (extB m).length = if m.psk then 53 + m.ticket.length else 0 := by
  unfold extB
  split
  · simp only [List.length_append, numB_len, hm]
    show 6 + (2 + (2 + 2)) + (2 + (m.ticket.length + (4 + (3 + 32)))) = _
    omega
  · rfl
theorem parse_1 (m : MsgP) (hk : m.kind = 1) (h : Is1 m) (h32 : m.random.length = 32) (hm : m.mark.length = 32) : parse1 (bodyP m) = m := by
  have hsl := share_len h.sh
  have hsd := share_drop h.sh
  have hel := ext_len hm
  have hs69 : (shareB m).length ≤ 69 := by rw [hsl]; split <;> omega
  have e0 : takeR 2 (bodyP m) = m.random ++ (numB m.session.length 1 ++ (m.session ++ (p35 m ++ (numB (shareB m).length 2 ++ (shareB m ++ extB m))))) := by
    rw [body1_eq m hk, takeR_cat (show hVersion.length = 2 from rfl)]
  have e1 : takeV 32 (takeR 2 (bodyP m)) = m.random := by rw [e0, takeV_cat h32]
  have e2 : p_l1 (bodyP m) = numB m.session.length 1 ++ (m.session ++ (p35 m ++ (numB (shareB m).length 2 ++ (shareB m ++ extB m)))) := by
    unfold p_l1; rw [e0, takeR_cat h32]
  have n1 : valP (numB m.session.length 1) = m.session.length := valP_1 _ (by have := h.ses; omega)
  have e3 : cvV 1 32 (p_l1 (bodyP m)) = m.session := by rw [e2, cvV_cat h.ses n1]
  have e4 : p_l3 35 (bodyP m) = numB (shareB m).length 2 ++ (shareB m ++ extB m) := by
    unfold p_l3; rw [e2, cvR_cat h.ses n1, takeR_cat (p35_len m)]
  have n2 : valP (numB (shareB m).length 2) = (shareB m).length := valP_2 _ (by omega)
  have e5 : cvV 2 69 (p_l3 35 (bodyP m)) = shareB m := by rw [e4, cvV_cat hs69 n2]
  have e6 : p_l4 (bodyP m) = extB m := by unfold p_l4; rw [e4, cvR_cat hs69 n2]
  have e7 : p_share (bodyP m) = m.share := by unfold p_share; rw [e5, hsd]
  unfold parse1
  rw [e6]
  cases hp : m.psk
  · obtain ⟨t1, t2, t3⟩ := h.not hp
    rw [hp] at hel
    rw [if_neg (by rw [hel, if_neg (by decide)]; omega), e1, e3, e7]
    exact MsgP.eta hk.symm rfl t3.symm rfl rfl t1.symm h.no.symm h.sg.symm h.ce.symm h.li.symm t2.symm hp.symm h.re.symm
  · obtain ⟨t1, t2, t3⟩ := h.yes hp
    rw [hp] at hel
    have n3 : valP (numB m.ticket.length 2) = m.ticket.length := valP_2 _ (by omega)
    have e8 : p_l5 (bodyP m) = numB m.ticket.length 2 ++ (m.ticket ++ (numB m.age.toNat 4 ++ (hBinder ++ m.mark))) := by
      unfold p_l5; rw [e6]; unfold extB; rw [hp, if_pos rfl, takeR_cat]
      simp only [List.length_append, numB_len]; rfl
    have e9 : cvV 2 1000 (p_l5 (bodyP m)) = m.ticket := by rw [e8, cvV_cat t2 n3]
    have e10 : p_l6 (bodyP m) = numB m.age.toNat 4 ++ (hBinder ++ m.mark) := by unfold p_l6; rw [e8, cvR_cat t2 n3]
    rw [if_pos (by rw [hel, if_pos rfl]; omega), e1, e3, e7, e9, e10, takeV_cat (numB_len _ _), takeR_cat (numB_len _ _), takeR_cat (show hBinder.length = 3 from rfl), takeV_all hm, wide_num t3]
    exact MsgP.eta hk.symm rfl rfl rfl rfl rfl h.no.symm h.sg.symm h.ce.symm h.li.symm rfl hp.symm h.re.symm
theorem guess_1 (m : MsgP) (hk : m.kind = 1) (h : Is1 m) (h32 : m.random.length = 32) (hm : m.mark.length = 32) : guess1 (bodyP m) = m := by
  have hsl := share_len h.sh
  have hel := ext_len hm
  have hb := body1_eq m hk
  have n1 : valP (numB m.session.length 1) = m.session.length := valP_1 _ (by have := h.ses; omega)
  have hses := h.ses
  have l0 : hVersion.length = 2 := rfl
  have l1 := p35_len m
  have d2 : (bodyP m).drop 2 = m.random ++ (numB m.session.length 1 ++ (m.session ++ (p35 m ++ (numB (shareB m).length 2 ++ (shareB m ++ extB m))))) := by rw [hb, drop_len l0]
  have d34 : (bodyP m).drop 34 = numB m.session.length 1 ++ (m.session ++ (p35 m ++ (numB (shareB m).length 2 ++ (shareB m ++ extB m)))) := by
    rw [show 34 = 2 + 32 from rfl, ← List.drop_drop, d2, drop_len h32]
  have d35 : (bodyP m).drop 35 = m.session ++ (p35 m ++ (numB (shareB m).length 2 ++ (shareB m ++ extB m))) := by
    rw [show 35 = 34 + 1 from rfl, ← List.drop_drop, d34, drop_len (numB_len _ _)]
  have dp : (bodyP m).drop (35 + m.session.length + 35) = numB (shareB m).length 2 ++ (shareB m ++ extB m) := by
    rw [← List.drop_drop, ← List.drop_drop, d35, drop_len rfl, drop_len l1]
  have dq : (bodyP m).drop (72 + m.session.length) = shareB m ++ extB m := by
    rw [show 72 + m.session.length = (35 + m.session.length + 35) + 2 by omega, ← List.drop_drop, dp, drop_len (numB_len _ _)]
  have n2 : valP (numB (shareB m).length 2) = (shareB m).length := valP_2 _ (by rw [hsl]; split <;> omega)
  have g1 : g_n (bodyP m) = m.session.length := by
    unfold g_n getP atP
    rw [d34, takeV_cat (numB_len _ _), n1]; omega
  have g2 : g_p (bodyP m) = 72 + m.session.length := by unfold g_p; rw [g1]
  have g3 : getP (bodyP m) (g_p (bodyP m) - 2) 2 = (shareB m).length := by
    unfold getP atP
    rw [g2, show 72 + m.session.length - 2 = 35 + m.session.length + 35 by omega, dp, takeV_cat (numB_len _ _), n2]
  have g4 : g_q (bodyP m) = 72 + m.session.length + (shareB m).length := by
    unfold g_q
    rw [g3, g2, hsl]
    split <;> split <;> omega
  have g5 : g_share (bodyP m) = m.share := by
    unfold g_share atP
    rw [g3, g2, hsl]
    by_cases hs : m.share = []
    · rw [if_pos hs, if_neg (by omega), hs]
    · rw [if_neg hs, if_pos (by omega)]
      rw [← List.drop_drop, dq]
      unfold shareB
      rw [if_neg hs, List.append_assoc, List.append_assoc, drop_cat (by decide), show 4 - hGroup.length = 2 from rfl, drop_len (numB_len _ _), takeV_cat]
      rcases h.sh with h | h
      · exact absurd h hs
      · exact h
  have de : (bodyP m).drop (72 + m.session.length + (shareB m).length) = extB m := by
    rw [← List.drop_drop, dq, drop_len rfl]
  have hlen : (bodyP m).length = 72 + m.session.length + (shareB m).length + (extB m).length := by
    rw [hb]; simp only [List.length_append, numB_len, l0, l1, h32]; omega
  have r1 : atP (bodyP m) 2 32 = m.random := by unfold atP; rw [d2, takeV_cat h32]
  have r2 : atP (bodyP m) 35 (g_n (bodyP m)) = m.session := by unfold atP; rw [g1, d35, takeV_cat rfl]
  unfold guess1
  rw [r1, r2, g5, g4, hlen]
  cases hp : m.psk
  · obtain ⟨t1, t2, t3⟩ := h.not hp
    rw [hp] at hel
    rw [if_neg (by rw [hel, if_neg (by decide)]; omega)]
    exact MsgP.eta hk.symm rfl t3.symm rfl rfl t1.symm h.no.symm h.sg.symm h.ce.symm h.li.symm t2.symm hp.symm h.re.symm
  · obtain ⟨t1, t2, t3⟩ := h.yes hp
    rw [hp] at hel
    have n3 : valP (numB m.ticket.length 2) = m.ticket.length := valP_2 _ (by omega)
    have f1 : (bodyP m).drop (72 + m.session.length + (shareB m).length + 12) = numB m.ticket.length 2 ++ (m.ticket ++ (numB m.age.toNat 4 ++ (hBinder ++ m.mark))) := by
      rw [← List.drop_drop, de]; unfold extB; rw [hp, if_pos rfl, drop_len]
      simp only [List.length_append, numB_len]; rfl
    have f2 : (bodyP m).drop (72 + m.session.length + (shareB m).length + 14) = m.ticket ++ (numB m.age.toNat 4 ++ (hBinder ++ m.mark)) := by
      rw [show 72 + m.session.length + (shareB m).length + 14 = (72 + m.session.length + (shareB m).length + 12) + 2 by omega, ← List.drop_drop, f1, drop_len (numB_len _ _)]
    have f3 : (bodyP m).drop (72 + m.session.length + (shareB m).length + 14 + m.ticket.length) = numB m.age.toNat 4 ++ (hBinder ++ m.mark) := by
      rw [← List.drop_drop, f2, drop_len rfl]
    have f4 : (bodyP m).drop (72 + m.session.length + (shareB m).length + 14 + m.ticket.length + 7) = m.mark := by
      rw [← List.drop_drop, f3, drop_cat (by rw [numB_len]; omega), numB_len, drop_len (show hBinder.length = 7 - 4 from rfl)]
    have g6 : g_t (bodyP m) = m.ticket.length := by
      unfold g_t getP atP
      rw [g4, f1, takeV_cat (numB_len _ _), n3]; omega
    rw [if_pos (by rw [hel, if_pos rfl]; omega), g6]
    unfold getP atP
    rw [f2, f3, f4, takeV_cat rfl, takeV_cat (numB_len _ _), takeV_all hm, wide_num t3]
    exact MsgP.eta hk.symm rfl rfl rfl rfl rfl h.no.symm h.sg.symm h.ce.symm h.li.symm rfl hp.symm h.re.symm
end Go.Proofs.Ytnenoecmmelehaa
