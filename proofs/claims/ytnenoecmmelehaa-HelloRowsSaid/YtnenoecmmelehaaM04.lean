/- Part of the proof: HLawC, Quiet, Conv, App. No conditions of its own. -/
import Derived.BigQuiet
import Derived.Deep.Quiet
import Derived.Deep.QuietTactic
import Derived.Lib.Hide
import Derived.StillTail
import Derived.WalkKit
import Derived.Test.YtnenoecmmelehaaM03
import Derived.Test.YtnenoecmmelehaaM01
import Derived.Deep.Draws
import Derived.Laws.BytesArg
import Derived.Test.YtnenoecmmelehaaM02
import Derived.Deep.RegionLaw
import Derived.Laws.AppendOwnNone
namespace Go.Proofs.Ytnenoecmmelehaa
open Go.RowKit

/-! ### a Server's -/
structure Is2 (m : MsgP) : Prop where
  ses : m.session.length ≤ 32
  ti : m.ticket = []
  no : m.nonce = []
  sg : m.sig = []
  ce : m.certs = []
  mr : m.mark = zero32
  li : m.life = 0
  ag : m.age = 0
  yes : m.retry = true → m.share = [] ∧ m.random = zero32 ∧ m.psk = false
  not : m.retry = false → m.share.length = 65 ∧ m.random ≠ hAgain
theorem is2 {m : MsgP} (hr : rightP m = true) (hk : m.kind = 2) : Is2 m := by
  unfold rightP at hr
  rw [if_neg (by rw [hk]; decide), if_pos hk] at hr
  simp only [Bool.and_eq_true, decide_eq_true_eq] at hr
  obtain ⟨h1, h2⟩ := hr
  cases hp : m.retry
  · rw [hp] at h2
    simp only [Bool.false_eq_true, if_false, Bool.and_eq_true, beq_iff_eq, Bool.not_eq_true', beq_eq_false_iff_ne, ne_eq] at h2
    have := bareP_all h2.2
    dsimp at this
    obtain ⟨_, _, a3, a4, a5, a6, _, a8, a9, a10, _, _⟩ := this
    exact ⟨h1, a3, a4, a5, a6, a8, a9, a10, (fun h => by rw [hp] at h; cases h), fun _ => h2.1⟩
  · rw [hp, if_pos rfl] at h2
    have := bareP_all h2
    dsimp at this
    obtain ⟨_, a2, a3, a4, a5, a6, a7, a8, a9, a10, a11, _⟩ := this
    exact ⟨h1, a3, a4, a5, a6, a8, a9, a10, (fun _ => ⟨a2, a7, a11⟩), fun h => by rw [hp] at h; cases h⟩
def q17 (m : MsgP) : List UInt8 := hSuite ++ (numB (answersP m).length 2 ++ (hChosen ++ (hShare ++ (numB (hGroup ++ vecB m.share 2).length 2 ++ hGroup))))
theorem q17_len (m : MsgP) : (q17 m).length = 17 := by unfold q17; simp only [List.length_append, numB_len]; rfl
def ext2 (m : MsgP) : List UInt8 := if m.psk then hPsk ++ hFirst else []
theorem ext2_len (m : MsgP) : (ext2 m).length = if m.psk then 6 else 0 := by unfold ext2; split <;> rfl
theorem body2_eq (m : MsgP) (hk : m.kind = 2) (hp : m.retry = false) : bodyP m = hVersion ++ (m.random ++ (numB m.session.length 1 ++ (m.session ++ (q17 m ++ (numB m.share.length 2 ++ (m.share ++ ext2 m)))))) := by
  unfold bodyP
  rw [if_neg (by rw [hk]; decide), if_pos hk, hp]
  have e : q17 m ++ (numB m.share.length 2 ++ (m.share ++ ext2 m)) = hSuite ++ vecB (answersP m) 2 := by
    unfold q17 ext2
    show _ = hSuite ++ (numB (answersP m).length 2 ++ answersP m)
    conv => rhs; rhs; rhs; unfold answersP
    rw [hp]
    simp only [vecB, List.append_assoc, Bool.false_eq_true, if_false]
  rw [e]
  simp only [vecB, List.append_assoc, Bool.false_eq_true, if_false]
theorem body2r_eq (m : MsgP) (hk : m.kind = 2) (hp : m.retry = true) : bodyP m = hVersion ++ (hAgain ++ (numB m.session.length 1 ++ (m.session ++ (hSuite ++ vecB (answersP m) 2)))) := by
  unfold bodyP
  rw [if_neg (by rw [hk]; decide), if_pos hk, hp]
  simp only [vecB, List.append_assoc, if_true]
theorem parse_2 (m : MsgP) (hk : m.kind = 2) (h : Is2 m) (h32 : m.random.length = 32) : parse2 (bodyP m) = m := by
  have n1 : valP (numB m.session.length 1) = m.session.length := valP_1 _ (by have := h.ses; omega)
  cases hp : m.retry
  · obtain ⟨t1, t2⟩ := h.not hp
    have hb := body2_eq m hk hp
    have e0 : takeR 2 (bodyP m) = m.random ++ (numB m.session.length 1 ++ (m.session ++ (q17 m ++ (numB m.share.length 2 ++ (m.share ++ ext2 m))))) := by
      rw [hb, takeR_cat (show hVersion.length = 2 from rfl)]
    have e2 : p_l1 (bodyP m) = numB m.session.length 1 ++ (m.session ++ (q17 m ++ (numB m.share.length 2 ++ (m.share ++ ext2 m)))) := by
      unfold p_l1; rw [e0, takeR_cat h32]
    have n2 : valP (numB m.share.length 2) = m.share.length := valP_2 _ (by omega)
    have e4 : p_l3 17 (bodyP m) = numB m.share.length 2 ++ (m.share ++ ext2 m) := by
      unfold p_l3; rw [e2, cvR_cat h.ses n1, takeR_cat (q17_len m)]
    unfold parse2
    rw [e0, takeV_cat h32, if_neg t2, e2, cvV_cat h.ses n1, e4, cvV_cat (by omega) n2, cvR_cat (by omega) n2, ext2_len]
    refine MsgP.eta hk.symm rfl h.mr.symm rfl rfl h.ti.symm h.no.symm h.sg.symm h.ce.symm h.li.symm h.ag.symm ?_ hp.symm
    dsimp
    cases m.psk <;> rfl
  · obtain ⟨t1, t2, t3⟩ := h.yes hp
    have hb := body2r_eq m hk hp
    have e0 : takeR 2 (bodyP m) = hAgain ++ (numB m.session.length 1 ++ (m.session ++ (hSuite ++ vecB (answersP m) 2))) := by
      rw [hb, takeR_cat (show hVersion.length = 2 from rfl)]
    have e2 : p_l1 (bodyP m) = numB m.session.length 1 ++ (m.session ++ (hSuite ++ vecB (answersP m) 2)) := by
      unfold p_l1; rw [e0, takeR_cat (show hAgain.length = 32 from rfl)]
    unfold parse2
    rw [e0, takeV_cat (show hAgain.length = 32 from rfl), if_pos rfl, e2, cvV_cat h.ses n1]
    exact MsgP.eta hk.symm t2.symm h.mr.symm rfl t1.symm h.ti.symm h.no.symm h.sg.symm h.ce.symm h.li.symm h.ag.symm t3.symm hp.symm
theorem guess_2 (m : MsgP) (hk : m.kind = 2) (h : Is2 m) (h32 : m.random.length = 32) : guess2 (bodyP m) = m := by
  have n1 : valP (numB m.session.length 1) = m.session.length := valP_1 _ (by have := h.ses; omega)
  have hses := h.ses
  have key : ∀ (r X : List UInt8), r.length = 32 → bodyP m = hVersion ++ (r ++ (numB m.session.length 1 ++ (m.session ++ X))) →
      atP (bodyP m) 2 32 = r ∧ g_n (bodyP m) = m.session.length ∧ atP (bodyP m) 35 (g_n (bodyP m)) = m.session ∧ (bodyP m).drop (35 + m.session.length) = X ∧ (bodyP m).length = 35 + m.session.length + X.length := fun r X hr hb => by
    have d2 : (bodyP m).drop 2 = r ++ (numB m.session.length 1 ++ (m.session ++ X)) := by rw [hb, drop_len (show hVersion.length = 2 from rfl)]
    have d34 : (bodyP m).drop 34 = numB m.session.length 1 ++ (m.session ++ X) := by
      rw [show 34 = 2 + 32 from rfl, ← List.drop_drop, d2, drop_len hr]
    have d35 : (bodyP m).drop 35 = m.session ++ X := by
      rw [show 35 = 34 + 1 from rfl, ← List.drop_drop, d34, drop_len (numB_len _ _)]
    have g1 : g_n (bodyP m) = m.session.length := by
      unfold g_n getP atP
      rw [d34, takeV_cat (numB_len _ _), n1]; omega
    refine ⟨by unfold atP; rw [d2, takeV_cat hr], g1, by unfold atP; rw [g1, d35, takeV_cat rfl], by rw [← List.drop_drop, d35, drop_len rfl], ?_⟩
    rw [hb]; simp only [List.length_append, numB_len, hr, show hVersion.length = 2 from rfl]; omega
  cases hp : m.retry
  · obtain ⟨t1, t2⟩ := h.not hp
    obtain ⟨k1, k2, k3, k4, k5⟩ := key m.random _ h32 (body2_eq m hk hp)
    have l17 := q17_len m
    have le := ext2_len m
    unfold guess2
    rw [k1, if_neg t2, k3, k2, k5]
    have d1 : atP (bodyP m) (50 + m.session.length + 4) 65 = m.share := by
      unfold atP
      rw [show 50 + m.session.length + 4 = (35 + m.session.length) + 17 + 2 by omega, ← List.drop_drop, ← List.drop_drop, k4, drop_len l17, drop_len (numB_len _ _), takeV_cat t1]
    rw [d1]
    refine MsgP.eta hk.symm rfl h.mr.symm rfl rfl h.ti.symm h.no.symm h.sg.symm h.ce.symm h.li.symm h.ag.symm ?_ hp.symm
    dsimp
    simp only [List.length_append, l17, numB_len, t1, le]
    cases m.psk
    · simp; omega
    · simp; omega
  · obtain ⟨t1, t2, t3⟩ := h.yes hp
    obtain ⟨k1, k2, k3, _, _⟩ := key hAgain _ rfl (body2r_eq m hk hp)
    unfold guess2
    rw [k1, if_pos rfl, k3]
    exact MsgP.eta hk.symm t2.symm h.mr.symm rfl t1.symm h.ti.symm h.no.symm h.sg.symm h.ce.symm h.li.symm h.ag.symm t3.symm hp.symm
/-! ### a Ticket's -/
theorem both_4 (m : MsgP) (hk : m.kind = 4) (hr : rightP m = true) : parse4 (bodyP m) = m ∧ guess4 (bodyP m) = m := by
  unfold rightP at hr
  rw [if_neg (by rw [hk]; decide), if_neg (by rw [hk]; decide), if_pos hk] at hr
  simp only [Bool.and_eq_true, decide_eq_true_eq] at hr
  obtain ⟨⟨⟨⟨⟨⟨w1, w2⟩, l1⟩, l2⟩, l3⟩, l4⟩, h2⟩ := hr
  have := bareP_all h2
  dsimp at this
  obtain ⟨a1, a2, _, _, a5, a6, a7, a8, _, _, a11, a12⟩ := this
  have hb : bodyP m = numB m.life.toNat 4 ++ (numB m.age.toNat 4 ++ (numB m.nonce.length 1 ++ (m.nonce ++ (numB m.ticket.length 2 ++ (m.ticket ++ hNone2))))) := by
    unfold bodyP
    rw [if_neg (by rw [hk]; decide), if_neg (by rw [hk]; decide), if_pos hk]
    simp only [vecB, List.append_assoc]
  have n1 : valP (numB m.nonce.length 1) = m.nonce.length := valP_1 _ (by omega)
  have n2 : valP (numB m.ticket.length 2) = m.ticket.length := valP_2 _ (by omega)
  refine ⟨?_, ?_⟩
  · unfold parse4
    rw [hb]
    simp only [takeV_cat (numB_len _ _), takeR_cat (numB_len _ _), cvV_cat l2 n1, cvR_cat l2 n1, cvV_cat l4 n2, wide_num w1, wide_num w2]
    exact MsgP.eta hk.symm a7.symm a8.symm a1.symm a2.symm rfl rfl a5.symm a6.symm rfl rfl a11.symm a12.symm
  · have d4 : (bodyP m).drop 4 = numB m.age.toNat 4 ++ (numB m.nonce.length 1 ++ (m.nonce ++ (numB m.ticket.length 2 ++ (m.ticket ++ hNone2)))) := by rw [hb, drop_len (numB_len _ _)]
    have d8 : (bodyP m).drop 8 = numB m.nonce.length 1 ++ (m.nonce ++ (numB m.ticket.length 2 ++ (m.ticket ++ hNone2))) := by
      rw [show 8 = 4 + 4 from rfl, ← List.drop_drop, d4, drop_len (numB_len _ _)]
    have d9 : (bodyP m).drop 9 = m.nonce ++ (numB m.ticket.length 2 ++ (m.ticket ++ hNone2)) := by
      rw [show 9 = 8 + 1 from rfl, ← List.drop_drop, d8, drop_len (numB_len _ _)]
    have g1 : g_4 (bodyP m) = m.nonce.length := by
      unfold g_4 getP atP
      rw [d8, takeV_cat (numB_len _ _), n1]; omega
    have dt : (bodyP m).drop (9 + m.nonce.length) = numB m.ticket.length 2 ++ (m.ticket ++ hNone2) := by rw [← List.drop_drop, d9, drop_len rfl]
    have du : (bodyP m).drop (9 + m.nonce.length + 2) = m.ticket ++ hNone2 := by rw [← List.drop_drop, dt, drop_len (numB_len _ _)]
    have g2 : min (getP (bodyP m) (9 + g_4 (bodyP m)) 2) 1000 = m.ticket.length := by
      unfold getP atP
      rw [g1, dt, takeV_cat (numB_len _ _), n2]; omega
    have g3 : getP (bodyP m) 0 4 = valP (numB m.life.toNat 4) := by unfold getP atP; rw [List.drop_zero, hb, takeV_cat (numB_len _ _)]
    have g4 : getP (bodyP m) 4 4 = valP (numB m.age.toNat 4) := by unfold getP atP; rw [d4, takeV_cat (numB_len _ _)]
    unfold guess4
    rw [g2, g1, g3, g4]
    unfold atP
    rw [d9, du, takeV_cat rfl, takeV_cat rfl, wide_num w1, wide_num w2]
    exact MsgP.eta hk.symm a7.symm a8.symm a1.symm a2.symm rfl rfl a5.symm a6.symm rfl rfl a11.symm a12.symm
/-! ### certificates -/
theorem certsL_ok : ∀ (n : Nat) (l : List (List UInt8)), l.length ≤ n → (∀ c, c ∈ l → 1 ≤ c.length ∧ c.length ≤ 2048) → certsL n (certsP l) false = l
  | 0, l, h, _ => by rw [List.eq_nil_of_length_eq_zero (Nat.le_zero.1 h)]; rfl
  | n + 1, [], _, _ => rfl
  | n + 1, c :: l, h, hc => by
    have h1 := hc c (by simp)
    have n3 : valP (numB c.length 3) = c.length := valP_3 _ (by omega)
    have e : certsP (c :: l) = numB c.length 3 ++ (c ++ (hNone2 ++ certsP l)) := by
      unfold certsP
      simp only [List.flatMap_cons, vecB, List.append_assoc]
    rw [e]
    unfold certsL
    rw [if_pos (by simp only [Bool.and_eq_true, decide_eq_true_eq, Bool.not_false, and_true, List.length_append, numB_len]; omega), cvV_cat h1.2 n3, cvR_cat h1.2 n3, cvB_cat h1.2 n3, takeR_cat (show hNone2.length = 2 from rfl), short_cat (show hNone2.length = 2 from rfl)]
    rw [show ((false || false) || false) = false from rfl, certsL_ok n l (by simpa using h) (fun c' hc' => hc c' (by simp [hc']))]
theorem certsG_ok (b : List UInt8) : ∀ (n : Nat) (l : List (List UInt8)) (p : Nat), l.length ≤ n → (∀ c, c ∈ l → 1 ≤ c.length ∧ c.length ≤ 2048) → b.drop p = certsP l → b.length = p + (certsP l).length → certsG b n p = l
  | 0, l, p, h, _, _, _ => by rw [List.eq_nil_of_length_eq_zero (Nat.le_zero.1 h)]; rfl
  | n + 1, [], p, _, _, _, hl => by
    unfold certsG
    rw [if_neg (by rw [hl]; simp [certsP])]
  | n + 1, c :: l, p, h, hc, hd, hl => by
    have h1 := hc c (by simp)
    have n3 : valP (numB c.length 3) = c.length := valP_3 _ (by omega)
    have e : certsP (c :: l) = numB c.length 3 ++ (c ++ (hNone2 ++ certsP l)) := by
      unfold certsP
      simp only [List.flatMap_cons, vecB, List.append_assoc]
    rw [e] at hd hl
    simp only [List.length_append, numB_len, show hNone2.length = 2 from rfl] at hl
    have g : min (getP b p 3) 2048 = c.length := by
      unfold getP atP
      rw [hd, takeV_cat (numB_len _ _), n3]; omega
    have d3 : b.drop (p + 3) = c ++ (hNone2 ++ certsP l) := by rw [← List.drop_drop, hd, drop_len (numB_len _ _)]
    unfold certsG
    rw [if_pos (by omega), g]
    have e1 : atP b (p + 3) c.length = c := by unfold atP; rw [d3, takeV_cat rfl]
    rw [e1, certsG_ok b n l _ (by simpa using h) (fun c' hc' => hc c' (by simp [hc'])) (by rw [← List.drop_drop, ← List.drop_drop, d3, drop_len rfl, drop_len (show hNone2.length = 2 from rfl)]) (by omega)]
theorem both_11 (m : MsgP) (hk : m.kind = 11) (hr : rightP m = true) : parse11 (bodyP m) = m ∧ guess11 (bodyP m) = m := by
  unfold rightP at hr
  rw [if_neg (by rw [hk]; decide), if_neg (by rw [hk]; decide), if_neg (by rw [hk]; decide), if_pos hk] at hr
  simp only [Bool.and_eq_true, decide_eq_true_eq, List.all_eq_true] at hr
  obtain ⟨⟨l1, l2⟩, h2⟩ := hr
  have := bareP_all h2
  dsimp at this
  obtain ⟨a1, a2, a3, a4, a5, _, a7, a8, a9, a10, a11, a12⟩ := this
  have hb : bodyP m = (hNone1 ++ numB (certsP m.certs).length 3) ++ certsP m.certs := by
    unfold bodyP
    rw [if_neg (by rw [hk]; decide), if_neg (by rw [hk]; decide), if_neg (by rw [hk]; decide), if_neg (by rw [hk]; decide), if_pos hk]
    simp only [vecB, List.append_assoc]
  have h4 : (hNone1 ++ numB (certsP m.certs).length 3).length = 4 := by simp only [List.length_append, numB_len]; rfl
  refine ⟨?_, ?_⟩
  · unfold parse11
    rw [hb, takeR_cat h4, short_cat h4, certsL_ok 6 m.certs (by omega) l2]
    exact MsgP.eta hk.symm a7.symm a8.symm a1.symm a2.symm a3.symm a4.symm a5.symm rfl a9.symm a10.symm a11.symm a12.symm
  · unfold guess11
    rw [certsG_ok (bodyP m) 6 m.certs 4 (by omega) l2 (by rw [hb, drop_len h4]) (by rw [hb, List.length_append, h4])]
    exact MsgP.eta hk.symm a7.symm a8.symm a1.symm a2.symm a3.symm a4.symm a5.symm rfl a9.symm a10.symm a11.symm a12.symm
theorem both_15 (m : MsgP) (hk : m.kind = 15) (hr : rightP m = true) : parse15 (bodyP m) = m ∧ guess15 (bodyP m) = m := by
  unfold rightP at hr
  rw [if_neg (by rw [hk]; decide), if_neg (by rw [hk]; decide), if_neg (by rw [hk]; decide), if_neg (by rw [hk]; decide), if_pos hk] at hr
  simp only [Bool.and_eq_true, decide_eq_true_eq] at hr
  obtain ⟨⟨l1, l2⟩, h2⟩ := hr
  have := bareP_all h2
  dsimp at this
  obtain ⟨a1, a2, a3, a4, _, a6, a7, a8, a9, a10, a11, a12⟩ := this
  have hb : bodyP m = hSigned ++ (numB m.sig.length 2 ++ m.sig) := by
    unfold bodyP
    rw [if_neg (by rw [hk]; decide), if_neg (by rw [hk]; decide), if_neg (by rw [hk]; decide), if_neg (by rw [hk]; decide), if_neg (by rw [hk]; decide), if_neg (by rw [hk]; decide), if_pos hk]
    rfl
  have n2 : valP (numB m.sig.length 2) = m.sig.length := valP_2 _ (by omega)
  have d2 : (bodyP m).drop 2 = numB m.sig.length 2 ++ m.sig := by rw [hb, drop_len (show hSigned.length = 2 from rfl)]
  have d4 : (bodyP m).drop 4 = m.sig := by rw [show 4 = 2 + 2 from rfl, ← List.drop_drop, d2, drop_len (numB_len _ _)]
  refine ⟨?_, ?_⟩
  · unfold parse15
    rw [hb, takeR_cat (show hSigned.length = 2 from rfl), cvV_all l2 n2]
    exact MsgP.eta hk.symm a7.symm a8.symm a1.symm a2.symm a3.symm a4.symm rfl a6.symm a9.symm a10.symm a11.symm a12.symm
  · have g : min (getP (bodyP m) 2 2) 100 = m.sig.length := by
      unfold getP atP
      rw [d2, takeV_cat (numB_len _ _), n2]; omega
    unfold guess15
    rw [g]
    unfold atP
    rw [d4, takeV_all rfl]
    exact MsgP.eta hk.symm a7.symm a8.symm a1.symm a2.symm a3.symm a4.symm rfl a6.symm a9.symm a10.symm a11.symm a12.symm
theorem both_20 (m : MsgP) (hk : m.kind = 20) (hr : rightP m = true) (hm : m.mark.length = 32) : parse20 (bodyP m) = m ∧ guess20 (bodyP m) = m := by
  unfold rightP at hr
  rw [if_neg (by rw [hk]; decide), if_neg (by rw [hk]; decide), if_neg (by rw [hk]; decide), if_neg (by rw [hk]; decide), if_neg (by rw [hk]; decide), if_pos hk] at hr
  have := bareP_all hr
  dsimp at this
  obtain ⟨a1, a2, a3, a4, a5, a6, a7, _, a9, a10, a11, a12⟩ := this
  have hb : bodyP m = m.mark := by
    unfold bodyP
    rw [if_neg (by rw [hk]; decide), if_neg (by rw [hk]; decide), if_neg (by rw [hk]; decide), if_neg (by rw [hk]; decide), if_neg (by rw [hk]; decide), if_neg (by rw [hk]; decide), if_neg (by rw [hk]; decide)]
  refine ⟨?_, ?_⟩
  · unfold parse20
    rw [hb, takeV_all hm]
    exact MsgP.eta hk.symm a7.symm rfl a1.symm a2.symm a3.symm a4.symm a5.symm a6.symm a9.symm a10.symm a11.symm a12.symm
  · unfold guess20 atP
    rw [hb, List.drop_zero, takeV_all hm]
    exact MsgP.eta hk.symm a7.symm rfl a1.symm a2.symm a3.symm a4.symm a5.symm a6.symm a9.symm a10.symm a11.symm a12.symm
theorem right_kinds {m : MsgP} (hr : rightP m = true) : m.kind = 1 ∨ m.kind = 2 ∨ m.kind = 4 ∨ m.kind = 8 ∨ m.kind = 11 ∨ m.kind = 13 ∨ m.kind = 15 ∨ m.kind = 20 := by
  unfold rightP at hr
  by_cases h1 : m.kind = 1; · exact .inl h1
  by_cases h2 : m.kind = 2; · exact .inr (.inl h2)
  by_cases h4 : m.kind = 4; · exact .inr (.inr (.inl h4))
  by_cases h8 : m.kind = 8; · exact .inr (.inr (.inr (.inl h8)))
  by_cases h11 : m.kind = 11; · exact .inr (.inr (.inr (.inr (.inl h11))))
  by_cases h13 : m.kind = 13; · exact .inr (.inr (.inr (.inr (.inr (.inl h13)))))
  by_cases h15 : m.kind = 15; · exact .inr (.inr (.inr (.inr (.inr (.inr (.inl h15))))))
  by_cases h20 : m.kind = 20; · exact .inr (.inr (.inr (.inr (.inr (.inr (.inr h20))))))
  rw [if_neg h1, if_neg h2, if_neg h4, if_neg h11, if_neg h15, if_neg h20, if_neg (by simp [h8, h13])] at hr
  cases hr
theorem parseP_1 (b : List UInt8) : parseP 1 b = parse1 b := by unfold parseP; rw [if_pos rfl]
theorem parseP_2 (b : List UInt8) : parseP 2 b = parse2 b := by unfold parseP; rw [if_neg (by decide), if_pos rfl]
theorem parseP_4 (b : List UInt8) : parseP 4 b = parse4 b := by unfold parseP; rw [if_neg (by decide), if_neg (by decide), if_pos rfl]
theorem parseP_11 (b : List UInt8) : parseP 11 b = parse11 b := by unfold parseP; rw [if_neg (by decide), if_neg (by decide), if_neg (by decide), if_pos rfl]
theorem parseP_15 (b : List UInt8) : parseP 15 b = parse15 b := by unfold parseP; rw [if_neg (by decide), if_neg (by decide), if_neg (by decide), if_neg (by decide), if_pos rfl]
theorem parseP_20 (b : List UInt8) : parseP 20 b = parse20 b := by unfold parseP; rw [if_neg (by decide), if_neg (by decide), if_neg (by decide), if_neg (by decide), if_neg (by decide), if_pos rfl]
theorem parseP_8 (b : List UInt8) : parseP 8 b = emptyM 8 := by unfold parseP; rw [if_neg (by decide), if_neg (by decide), if_neg (by decide), if_neg (by decide), if_neg (by decide), if_neg (by decide)]
theorem parseP_13 (b : List UInt8) : parseP 13 b = emptyM 13 := by unfold parseP; rw [if_neg (by decide), if_neg (by decide), if_neg (by decide), if_neg (by decide), if_neg (by decide), if_neg (by decide)]
theorem guessP_1 (b : List UInt8) : guessP 1 b = guess1 b := by unfold guessP; rw [if_pos rfl]
theorem guessP_2 (b : List UInt8) : guessP 2 b = guess2 b := by unfold guessP; rw [if_neg (by decide), if_pos rfl]
theorem guessP_4 (b : List UInt8) : guessP 4 b = guess4 b := by unfold guessP; rw [if_neg (by decide), if_neg (by decide), if_pos rfl]
theorem guessP_11 (b : List UInt8) : guessP 11 b = guess11 b := by unfold guessP; rw [if_neg (by decide), if_neg (by decide), if_neg (by decide), if_pos rfl]
theorem guessP_15 (b : List UInt8) : guessP 15 b = guess15 b := by unfold guessP; rw [if_neg (by decide), if_neg (by decide), if_neg (by decide), if_neg (by decide), if_pos rfl]
theorem guessP_20 (b : List UInt8) : guessP 20 b = guess20 b := by unfold guessP; rw [if_neg (by decide), if_neg (by decide), if_neg (by decide), if_neg (by decide), if_neg (by decide), if_pos rfl]
theorem guessP_8 (b : List UInt8) : guessP 8 b = emptyM 8 := by unfold guessP; rw [if_neg (by decide), if_neg (by decide), if_neg (by decide), if_neg (by decide), if_neg (by decide), if_neg (by decide)]
theorem guessP_13 (b : List UInt8) : guessP 13 b = emptyM 13 := by unfold guessP; rw [if_neg (by decide), if_neg (by decide), if_neg (by decide), if_neg (by decide), if_neg (by decide), if_neg (by decide)]
theorem read_back {m : MsgP} (hr : rightP m = true) (h32 : m.random.length = 32) (hm : m.mark.length = 32) : parseP m.kind (bodyP m) = m ∧ guessP m.kind (bodyP m) = m := by
  have empty : m.kind = 8 ∨ m.kind = 13 → emptyM m.kind = m := fun hk => by
    unfold rightP at hr
    rcases hk with hk | hk <;> rw [if_neg (by rw [hk]; decide), if_neg (by rw [hk]; decide), if_neg (by rw [hk]; decide), if_neg (by rw [hk]; decide), if_neg (by rw [hk]; decide), if_neg (by rw [hk]; decide), if_pos (by simp [hk])] at hr
    all_goals
      have := bareP_all hr
      obtain ⟨a1, a2, a3, a4, a5, a6, a7, a8, a9, a10, a11, a12⟩ := this
      exact MsgP.eta rfl a7.symm a8.symm a1.symm a2.symm a3.symm a4.symm a5.symm a6.symm a9.symm a10.symm a11.symm a12.symm
  rcases right_kinds hr with hk | hk | hk | hk | hk | hk | hk | hk
  · have h := is1 hr hk
    have p := parse_1 m hk h h32 hm
    have g := guess_1 m hk h h32 hm
    rw [hk, parseP_1, guessP_1]; exact ⟨p, g⟩
  · have h := is2 hr hk
    have p := parse_2 m hk h h32
    have g := guess_2 m hk h h32
    rw [hk, parseP_2, guessP_2]; exact ⟨p, g⟩
  · have h := both_4 m hk hr
    rw [hk, parseP_4, guessP_4]; exact h
  · have h := empty (.inl hk)
    rw [hk] at h ⊢; rw [parseP_8, guessP_8]; exact ⟨h, h⟩
  · have h := both_11 m hk hr
    rw [hk, parseP_11, guessP_11]; exact h
  · have h := empty (.inr hk)
    rw [hk] at h ⊢; rw [parseP_13, guessP_13]; exact ⟨h, h⟩
  · have h := both_15 m hk hr
    rw [hk, parseP_15, guessP_15]; exact h
  · have h := both_20 m hk hr hm
    rw [hk, parseP_20, guessP_20]; exact h
end Go.Proofs.Ytnenoecmmelehaa

namespace Go.Proofs.Ytnenoecmmelehaa
open Go.RowKit
section
variable {P : Program} {ops : Array Oper} {md : Region.Mode} {C : World → Prop}
def wpAnyQL (P : Program) (md : Region.Mode) (ops : Array Oper) (C : World → Prop) (n : Nat) (L : Array Bool → Act → Prop) : Nat → Array Bool → Act → Prop
  | 0, listed, a => L listed a
  | f + 1, listed, a =>
    Region.ready md ops listed ≠ [] ∧ ∀ i ∈ Region.ready md ops listed, i < n ∧ qOp P ops C i (wpAnyQL P md ops C n L f (listed.setIfInBounds i true)) a
theorem quiet_at_eq (o : Oper) (a : Act) (W : World) (K : Act → Prop) :
    Oper.quiet P o a (fun w' => w' = W) K = (∃ v, Oper.quietUpon P (fun w' => w' = W) W v ((execOp a.eval o).run P W) ∧ K (a.put o.dst v)) := by
  unfold Oper.quiet Oper.quietAt
  simp only [forall_eq]
end
attribute [go_sem ↓] quiet_at_eq
end Go.Proofs.Ytnenoecmmelehaa

/- Operations of a region that draws its order, in the class of all worlds that are as W below n. -/
namespace Go.Proofs.Ytnenoecmmelehaa
open Go.RowKit
/-! ### the class of all worlds that are as W below n -/
section
variable {P : Program} {n : Nat} {W : World} {o : Oper} {a : Act} {K : Act → Prop}
end
end Go.Proofs.Ytnenoecmmelehaa

namespace Go.Proofs.Ytnenoecmmelehaa
open Go.RowKit

theorem strOfNums_S (l : List UInt8) : strOfNums (l.map fun x => (x.toNat : Int)) = ⟨l.toArray⟩ := by
  apply ByteArray.ext
  apply Array.toList_inj.1
  simp only [strOfNums, List.map_map]
  refine (List.map_congr_left fun x _ => ?_).trans (List.map_id l)
  simp
section
variable {P : Program}
theorem run_conv_slb (w : World) (src e dst : TypeId) (hs : P.underlying src = some (.slice e)) (he : P.underlying e = some (.int .u8)) (hd : P.underlying dst = some .string) (v : Value) (l : List UInt8) (h : SlB w v l) :
    (convert src dst v).run P w = .ok (S l) w := by
  obtain ⟨a, cap, rfl, h1, h2, h3, h4⟩ := h
  cases a with
  | none =>
    have : l = [] := List.eq_nil_of_length_eq_zero (by have := h3 rfl; omega)
    subst this
    exact run_convert_bytes_nil w src e hs he _ _ dst hd
  | some ad =>
    obtain ⟨b, o, s⟩ := ad
    obtain ⟨hsp, hc⟩ := h4 _ rfl
    simp only at hsp
    subst hsp
    rw [run_convert_bytes_arg w src e hs he b o l.length cap (l.map fun x => (x.toNat : Int)) (by simp) (fun i hi => by
      rw [hc i hi]
      simp [gb, hi]) dst hd, strOfNums_S]
end
end Go.Proofs.Ytnenoecmmelehaa

namespace Go.Proofs.Ytnenoecmmelehaa
open Go.RowKit

theorem wpl_appendS {P : Program} {w : World} {ops : Array Oper} {rest : List Oper} {o : Oper} {a : Act} {Q : Exit → Act → World → Prop} (hgd : o.guard = none) (s x : Operand) (t : TypeId)
    (ho : o.op = .call { callee := .builtin .append, args := #[s, x], argTypes := #[t, t] })
    {e : TypeId} (ht : P.underlying t = some (.slice e)) (hinf : (P.info? e).map (fun i => (i.zero, i.size, i.bytes)) = some (some (.int .u8 0), 1, 1))
    (base : Nat) (v : Value) (l : List UInt8) (hs : a.eval s = v) (hbuf : Buf e w base v l) (vx : Value) (m : List UInt8) (hx : a.eval x = vx) (hS : SlB w vx m)
    (hlen : l.length + m.length ≤ 140737488355328) (hbase : base ≤ w.heap.size)
    (h : ∀ v' w', Buf e w' base v' (l ++ m) → w.grownBy w' v.ownBlock → wpList P ops Q rest (a.put o.dst v') w') : wpList P ops Q (o :: rest) a w := by
  obtain ⟨i0, hi, hz0, hz1, hz2⟩ := info_parts hinf
  obtain ⟨ad, cap, rfl, h1, h2, h3, h4⟩ := hS
  cases ad with
  | none =>
    have hm : m = [] := List.eq_nil_of_length_eq_zero (by have := h3 rfl; omega)
    subst hm
    obtain rfl : cap = 0 := h3 rfl
    refine wpList_append_own_none hgd s x t ho base e i0 1 ht hi v l.length (l.map B) hs hbuf hx ?_
    have := h v w (by simpa using hbuf) (World.grownBy.refl w _)
    exact this
  | some ad =>
    obtain ⟨hsp, hc⟩ := h4 _ rfl
    obtain ⟨b, o', sp⟩ := ad
    simp only at hsp
    subst hsp
    refine wpList_append_own w hgd s x t ho base e i0 (.int .u8 0) 1 1 ht hi hz0 hz1 hz2 rfl (by decide) v l.length (l.map B) hs hbuf ⟨b, o', none⟩ m.length cap (m.map B) hx (by simp) ?_ ?_ (by unfold maxLen; omega) (by omega) hbase ?_
    · intro j u hj
      have hj' : j < m.length := by simpa using (List.getElem?_eq_some_iff.1 hj).1
      rw [Addr.add_lit, hc j hj']
      simpa [gb, hj'] using hj
    · intro u hu
      obtain ⟨y, _, rfl⟩ := List.mem_map.1 hu
      rfl
    · intro v' w' hb hg _
      exact h v' w' (by simpa [Buf] using hb) hg
theorem Buf.empty {e : TypeId} (w : World) (base g : Nat) (hg : g = w.heap.size) (hb : base ≤ g) : Buf e (w.alloc (.cells #[] e)) base (.slice (some ⟨g, 0, none⟩) 0 0) [] :=
  ⟨by simp, .inr ⟨g, 0, #[], rfl, hb, by rw [hg]; exact heap_alloc_new w _, Nat.le_refl _, Nat.zero_le _, by simp, by simp⟩⟩
theorem SlB.take {w : World} {a : Option Addr} {n cap : Nat} {l : List UInt8} (h : SlB w (.slice a n cap) l) (m : Nat) (hm : m ≤ n) : SlB w (.slice a m cap) (l.take m) := by
  obtain ⟨a', cap', hv, h1, h2, h3, h4⟩ := h
  simp only [Value.slice.injEq] at hv
  obtain ⟨rfl, rfl, rfl⟩ := hv
  have hlen : (l.take m).length = m := by simp; omega
  refine ⟨a, cap, by rw [hlen], by omega, h2, h3, fun ad had => ⟨(h4 ad had).1, fun i hi => ?_⟩⟩
  rw [(h4 ad had).2 i (by omega)]
  simp [gb, show i < m by omega]
theorem SlB.len {w : World} {a : Option Addr} {n cap : Nat} {l : List UInt8} (h : SlB w (.slice a n cap) l) : l.length = n := by
  obtain ⟨a', cap', hv, _⟩ := h
  simp only [Value.slice.injEq] at hv
  exact hv.2.1.symm
theorem Pre.set {cur : Array Value} {l : List UInt8} (h : Pre cur l) (k : Nat) (x : UInt8) (_hk : k < l.length) : Pre (cur.setIfInBounds k (B x)) (l.set k x) := by
  have h' : cur.toList.take l.length = l.map B := h
  unfold Pre
  rw [List.length_set, Array.toList_setIfInBounds, List.take_set, h', List.map_set]
theorem KeyAt.setCell {tk te t : TypeId} {w : World} {p : Value} {W : List UInt8} {m g : Nat} {cu : Array Value} (h : KeyAt tk te w p W m) (hr : Row w g t cu) (h1 : t ≠ tk) (h2 : t ≠ te) (i : Nat) (v : Value) : KeyAt tk te (w.setCell ⟨g, i, none⟩ v) p W m := by
  obtain ⟨kb, kk, cap, cur, e1, e2, e3, e4⟩ := h
  have n1 : kb ≠ g := by
    rintro rfl
    have := hr.symm.trans e2
    simp only [Option.some.injEq, Prod.mk.injEq] at this
    exact h1 this.1
  have n2 : kk ≠ g := by
    rintro rfl
    have := hr.symm.trans e3
    simp only [Option.some.injEq, Prod.mk.injEq] at this
    exact h2 this.1
  exact ⟨kb, kk, cap, cur, e1, e2.setOther _ _ n1, e3.setOther _ _ n2, e4⟩
end Go.Proofs.Ytnenoecmmelehaa
