/- Part of the proof: EvC, EvR. No conditions of its own. -/
import Derived.KernelRfl
import Derived.Orders
import Derived.RowKit3
import Derived.Test.YtjpfhhndjpdmoaaGreatDoorK01
import Derived.Below
import Derived.Laws.CopyRow
namespace Go.Proofs.YtjpfhhndjpdmoaaGreatDoor
set_option linter.unusedVariables false

structure Rc where
  j : Nat
  d : Dl
  nx : Nat
  foot : Option (List Nat)
structure St where
  nt : Nat
  T : Tr LV
  H : Hp
  nx : Nat
  wr : List Nat
inductive Ex where
  | normal
  | exit (id : Nat)
  | ret
def oldW (nx : Nat) : Dl → List Nat
  | [] => []
  | (i, _) :: d => if i < nx then i :: oldW nx d else oldW nx d
def apartB (W : List Nat) : Option (List Nat) → Bool
  | none => W.isEmpty
  | some F => W.all fun i => !F.contains i
def overH (H : Hp) (mask : Nat) : List Rc → Hp
  | [] => H
  | r :: rs => if mask.testBit r.j then (overH H mask rs).app r.d else overH H mask rs
def allH (H : Hp) : List Rc → Hp
  | [] => H
  | r :: rs => (allH H rs).app r.d
def freeB (mask : Nat) (W : List Nat) (foot : Option (List Nat)) : List Rc → Bool
  | [] => true
  | r :: rs => (mask.testBit r.j || (apartB (oldW r.nx r.d) foot && apartB W r.foot)) && freeB mask W foot rs
def pastOf (ms : List Nat) : List Edge → Nat
  | [] => 0
  | e :: es => if Region.binds .any e then 2 ^ e.on ||| ms.getD e.on 0 ||| pastOf ms es else pastOf ms es
def pastsL : List Oper → List Nat → List Nat
  | [], ms => ms
  | o :: l, ms => pastsL l (ms ++ [pastOf ms o.after.toList])
def edgesB : Nat → List Oper → Bool
  | _, [] => true
  | k, o :: l => (o.after.toList.all fun e => !Region.binds .any e || decide (e.on < k)) && edgesB (k + 1) l
def pairB (ops : Array Oper) (x : Oper) (jx : Nat) : Nat → List Oper → List Nat → Bool
  | _, [], _ => true
  | _, _, [] => false
  | k, y :: l, m :: ms => (m.testBit jx || x.apart ops y) && pairB ops x jx (k + 1) l ms
def pairsB (ops : Array Oper) : Nat → List Oper → List Nat → Bool
  | _, [], _ => true
  | _, _, [] => false
  | k, x :: l, _ :: ms => pairB ops x k (k + 1) l ms && pairsB ops (k + 1) l ms
def regB (ops : Array Oper) : Bool := let l := ops.toList; let ms := pastsL l []; edgesB 0 l && pairsB ops 0 l ms
section
variable (P : Program) (nB : Nat) (callf : FuncId → List LV → Hp → Nat → Option Out)
def wantL (ops : Array Oper) (T : Tr LV) (o : Oper) : Option Bool :=
  match o.guard with
  | none => some true
  | some (j, want) => match (ops[j]?).bind (·.dst) with
    | some d => match T.get d with
      | some (.v (.bool b)) => some (b == want)
      | some (.tup _) => some false
      | _ => none
    | none => none
def putT (nt : Nat) (T : Tr LV) (dst : Option Tmp) (v : LV) : Tr LV := match dst with | some d => if d < nt then T.set d (some v) else T | none => T
def footB : Option (List Nat) → Nat → Bool
  | none, _ => true
  | some F, i => F.contains i
def dOk (H : Hp) (nx nx' : Nat) (foot : Option (List Nat)) : Dl → Bool
  | [] => true
  | (i, _) :: d => (if i < nx then (H.get i).isSome && footB foot i else decide (i < nx')) && dOk H nx nx' foot d
def evDraw (nt : Nat) (ops : Array Oper) (H : Hp) : List Oper → List Nat → Nat → Tr LV → Nat → List Rc → Option (Tr LV × Nat × List Rc)
  | [], _, _, T, nx, rs => some (T, nx, rs)
  | o :: l, m :: ms, k, T, nx, rs => match wantL ops T o with
    | some true => match evOp P nB callf T (overH H m rs) nx o with
      | some out => if nx ≤ out.nx ∧ freeB m (oldW nx out.d) out.foot rs = true ∧ dOk (overH H m rs) nx out.nx out.foot out.d = true then evDraw nt ops H l ms (k + 1) (putT nt T o.dst out.v) out.nx (⟨k, out.d, nx, out.foot⟩ :: rs) else none
      | none => none
    | some false => evDraw nt ops H l ms (k + 1) (putT nt T o.dst (.tup [])) nx (⟨k, [], nx, some []⟩ :: rs)
    | none => none
  | _ :: _, [], _, _, _, _ => none
def evSeq (ops : Array Oper) : List Oper → St → Option St
  | [], s => some s
  | o :: l, s => match wantL ops s.T o with
    | some true => match evOp P nB callf s.T s.H s.nx o with
      | some out => if s.nx ≤ out.nx then evSeq ops l ⟨s.nt, putT s.nt s.T o.dst out.v, s.H.app out.d, out.nx, oldW s.nx out.d ++ s.wr⟩ else none
      | none => none
    | some false => evSeq ops l { s with T := putT s.nt s.T o.dst (.tup []) }
    | none => none
def wrOf : List Rc → List Nat
  | [] => []
  | r :: rs => oldW r.nx r.d ++ wrOf rs
def evReg (ops : Array Oper) (draw : Bool) (s : St) : Option St :=
  match draw with
  | false => evSeq P nB callf ops ops.toList s
  | true => if regB ops = true then match evDraw P nB callf s.nt ops s.H ops.toList (pastsL ops.toList []) 0 s.T s.nx [] with
    | some (T, nx, rs) => some ⟨s.nt, T, allH s.H rs, nx, wrOf rs ++ s.wr⟩
    | none => none else none
def evC (P : Program) (nB : Nat) (callf : FuncId → List LV → Hp → Nat → Option Out) : Nat → Code → St → Option (Ex × St)
  | 0, _, _ => none
  | n + 1, c, s => match c with
    | .skip => some (.normal, s)
    | .region _ ops draw => match evReg P nB callf ops draw s with | some s => some (.normal, s) | none => none
    | .seq a b => match evC P nB callf n a s with
      | some (.normal, s) => evC P nB callf n b s
      | r => r
    | .cond c a b => match opd P s.T c with
      | some (.v (.bool true)) => evC P nB callf n a s
      | some (.v (.bool false)) => evC P nB callf n b s
      | _ => none
    | .block id b => match evC P nB callf n b s with
      | some (.exit i, s) => if i = id then some (.normal, s) else some (.exit i, s)
      | r => r
    | .loop b => match evC P nB callf n b s with
      | some (.normal, s) => evC P nB callf n (.loop b) s
      | r => r
    | .exit id => some (.exit id, s)
    | .ret => some (.ret, s)
    | _ => none
def resL (P : Program) (T : Tr LV) (H : Hp) : List ResultVar → Option (List LV)
  | [] => some []
  | .tmp t :: l => match T.get t with
    | some v => (resL P T H l).map (v :: ·)
    | none => none
  | .cell a t :: l => match T.get a with
    | some (.ptr b off) => match H.get b with
      | some k => match partL P t k.cells off with
        | some v => (resL P T H l).map (v :: ·)
        | none => none
      | none => none
    | _ => none
def oneL : List LV → LV
  | [x] => x
  | l => .tup l
def argsT : Nat → List LV → Tr LV → Tr LV
  | _, [], T => T
  | i, x :: l, T => argsT (i + 1) l (T.set i (some x))
mutual
def LV.ids : LV → List Nat
  | .ptr b _ => [b]
  | .slice b _ _ _ => [b]
  | .buf b _ _ _ => [b]
  | .emp => []
  | .sym _ _ _ _ _ => []
  | .str _ => []
  | .outS _ => []
  | .outP _ => []
  | .fn _ cs => idsL cs
  | .agg cs => idsL cs
  | .tup cs => idsL cs
  | .v _ => []
def idsL : List LV → List Nat
  | [] => []
  | .v _ :: l => idsL l
  | x :: l => x.ids ++ idsL l
end
def reach (nx0 : Nat) (H : Hp) : Nat → List Nat → Tr Unit → Dl → Dl
  | 0, _, _, d => d
  | _ + 1, [], _, d => d
  | f + 1, i :: l, seen, d => match seen.get i with
    | some _ => reach nx0 H f l seen d
    | none => if i < nx0 then reach nx0 H f l seen d else match H.get i with
      | some k => reach nx0 H f (idsL k.cells ++ l) (seen.set i (some ())) ((i, some k) :: d)
      | none => reach nx0 H f l seen d
def olds (nx0 : Nat) (H : Hp) : List Nat → Tr Unit → Dl
  | [], _ => []
  | i :: l, seen => if i < nx0 then match seen.get i with
    | some _ => olds nx0 H l seen
    | none => (i, H.get i) :: olds nx0 H l (seen.set i (some ()))
    else olds nx0 H l seen
def idsD : Dl → List Nat
  | [] => []
  | (_, some k) :: d => idsL k.cells ++ idsD d
  | _ :: d => idsD d
abbrev Orc := FuncId → Option (List LV → Hp → Nat → Option Out)
def evF (P : Program) (nB lf : Nat) (orc : Orc) : Nat → FuncId → List LV → Hp → Nat → Option Out
  | 0, _, _, _, _ => none
  | n + 1, f, args, H, nx => match orc f with
    | some g => g args H nx
    | none => match P.funcs[f]? with
      | some fn => match fn.body with
        | some c =>
          match evC P nB (evF P nB lf orc n) lf c ⟨args.length + (fn.ntmps - args.length), argsT 0 args .nil, H, nx, []⟩ with
          | some (.exit _, _) => none
          | some (_, s) => match resL P s.T s.H fn.results.toList with
            | some rs => let v := oneL rs; let od := olds nx s.H s.wr .nil
              some ⟨v, od ++ reach nx s.H (s.nx + 100000) (v.ids ++ idsD od) .nil [], s.nx, none⟩
            | none => none
          | none => none
        | none => none
      | none => none
end
end Go.Proofs.YtjpfhhndjpdmoaaGreatDoor

namespace Go.Proofs.YtjpfhhndjpdmoaaGreatDoor
open Go.RowKit
set_option linter.unusedVariables false
set_option linter.unusedSimpArgs false

/-! ### tables -/
namespace Tr
variable {α : Type}
theorem get_nil (n : Nat) : (Tr.nil : Tr α).get n = none := by cases n <;> rfl
theorem half_inj {a b : Nat} (h2 : a % 2 = b % 2) (hd : a / 2 = b / 2) : a = b := by omega
theorem get_nodeL (l r : Tr α) (v : Option α) (k : Nat) (h : k % 2 = 0) : (Tr.node l v r).get (k + 1) = l.get (k / 2) := by
  show (match k % 2 with | 0 => l.get (k / 2) | _ + 1 => r.get (k / 2)) = _
  rw [h]
theorem get_nodeR (l r : Tr α) (v : Option α) (k : Nat) (h : k % 2 = 1) : (Tr.node l v r).get (k + 1) = r.get (k / 2) := by
  show (match k % 2 with | 0 => l.get (k / 2) | _ + 1 => r.get (k / 2)) = _
  rw [h]
theorem setF_eq (f : Nat) (t : Tr α) (n : Nat) (x : Option α) : ∃ l v r, setF (f + 1) t n x = (match n with
    | 0 => Tr.node l x r
    | k + 1 => match k % 2 with | 0 => .node (setF f l (k / 2) x) v r | _ + 1 => .node l v (setF f r (k / 2) x)) ∧ ∀ m, t.get m = (Tr.node l v r).get m := by
  cases t with
  | nil => exact ⟨.nil, none, .nil, by cases n with | zero => rfl | succ k => rfl, fun m => by
      cases m with
      | zero => rfl
      | succ k =>
        rcases Nat.mod_two_eq_zero_or_one k with h | h
        · rw [get_nodeL _ _ _ _ h, get_nil, get_nil]
        · rw [get_nodeR _ _ _ _ h, get_nil, get_nil]⟩
  | node l v r => exact ⟨l, v, r, by cases n with | zero => rfl | succ k => rfl, fun m => rfl⟩
theorem get_setF (x : Option α) : ∀ (f : Nat) (t : Tr α) (n m : Nat), n < f → (setF f t n x).get m = if m = n then x else t.get m
  | 0, _, n, _, h => by omega
  | f + 1, t, n, m, h => by
    obtain ⟨l, v, r, e, hg⟩ := setF_eq f t n x
    rw [e, hg m]
    cases n with
    | zero =>
      cases m with
      | zero => rfl
      | succ k =>
        rw [if_neg (by omega)]
        rcases Nat.mod_two_eq_zero_or_one k with h | h
        · simp only [get_nodeL _ _ _ _ h]
        · simp only [get_nodeR _ _ _ _ h]
    | succ k =>
      rcases Nat.mod_two_eq_zero_or_one k with hk | hk
      · simp only [hk]
        cases m with
        | zero => rfl
        | succ j =>
          rcases Nat.mod_two_eq_zero_or_one j with hj | hj
          · rw [get_nodeL _ _ _ _ hj, get_nodeL _ _ _ _ hj, get_setF x f l (k / 2) (j / 2) (by omega)]
            by_cases hjk : j = k
            · subst hjk; simp
            · rw [if_neg (fun e => hjk (half_inj (by omega) e)), if_neg (by omega)]
          · rw [get_nodeR _ _ _ _ hj, get_nodeR _ _ _ _ hj, if_neg (by omega)]
      · simp only [hk]
        cases m with
        | zero => rfl
        | succ j =>
          rcases Nat.mod_two_eq_zero_or_one j with hj | hj
          · rw [get_nodeL _ _ _ _ hj, get_nodeL _ _ _ _ hj, if_neg (by omega)]
          · rw [get_nodeR _ _ _ _ hj, get_nodeR _ _ _ _ hj, get_setF x f r (k / 2) (j / 2) (by omega)]
            by_cases hjk : j = k
            · subst hjk; simp
            · rw [if_neg (fun e => hjk (half_inj (by omega) e)), if_neg (by omega)]
theorem get_set (t : Tr α) (n : Nat) (x : Option α) (m : Nat) : (t.set n x).get m = if m = n then x else t.get m := get_setF x (n + 1) t n m (by omega)
end Tr
def dget : Dl → Nat → Option (Option Blk)
  | [], _ => none
  | (i, b) :: d, j => match dget d j with
    | some x => some x
    | none => if j = i then some b else none
theorem get_app : ∀ (d : Dl) (H : Hp) (j : Nat), (H.app d).get j = match dget d j with | some x => x | none => H.get j
  | [], H, j => rfl
  | (i, b) :: d, H, j => by
    rw [Hp.app, get_app d, dget]
    cases hd : dget d j with
    | some x => rfl
    | none =>
      simp only
      rw [Tr.get_set]
      split <;> rfl

/-! ### values -/
structure Loc where
  addr : Nat
  sz : Nat
abbrev Env := Nat → Option Loc
mutual
def VR (ν : Env) : LV → Value → Prop
  | .v x, y => y = x ∧ plainV x = true
  | .ptr b off, y => ∃ l, ν b = some l ∧ y = .pointer (some ⟨l.addr, off, none⟩)
  | .slice b off len cap, y => ∃ l, ν b = some l ∧ y = .slice (some ⟨l.addr, off, none⟩) len cap
  | .buf b off len e, y => ∃ l c, ν b = some l ∧ y = .slice (some ⟨l.addr, off, none⟩) len c ∧ len ≤ c ∧ off + c * e = l.sz ∧ c ≤ 2 ^ 63 - 1
  | .emp, y => ∃ (a : Addr) (c : Nat), y = .slice (some a) 0 c ∧ a.spot = none ∧ c ≤ 2 ^ 63 - 1
  | .sym b k lo hi ne, y => ∃ l, ν b = some l ∧ y = .int k (.ofNat l.addr) ∧ lo ≤ l.addr ∧ l.addr ≤ hi ∧ hi ≤ topK k ∧ ∀ c ∈ ne, ∃ l2, ν c = some l2 ∧ l.addr ≠ l2.addr
  | .outS b, y => ∃ l m f, ν b = some l ∧ ν (b + 1) = some m ∧ ν (b + 2) = some f ∧ y = .slice (if f.addr = 0 then none else some ⟨l.addr, l.sz, none⟩) m.addr m.sz
  | .outP b, y => ∃ l, ν b = some l ∧ y = .pointer (some ⟨l.addr, l.sz, none⟩)
  | .str cs, y => ∃ bs : List UInt8, y = .string ⟨bs.toArray⟩ ∧ VRs ν cs (bs.map fun b => .int .u8 b.toNat)
  | .fn f cs, y => ∃ vs, y = .func f #[] vs.toArray ∧ VRs ν cs vs
  | .agg cs, y => ∃ vs, y = .agg vs.toArray ∧ VRs ν cs vs
  | .tup cs, y => ∃ vs, y = .tuple vs.toArray ∧ VRs ν cs vs
def VRs (ν : Env) : List LV → List Value → Prop
  | [], vs => vs = []
  | c :: cs, vs => ∃ u us, vs = u :: us ∧ VR ν c u ∧ VRs ν cs us
end
def Ext (ν ν' : Env) : Prop := ∀ i l, ν i = some l → ν' i = some l
theorem Ext.refl (ν : Env) : Ext ν ν := fun _ _ h => h
theorem Ext.trans {a b c : Env} (h : Ext a b) (k : Ext b c) : Ext a c := fun i l hi => k i l (h i l hi)
mutual
theorem VR.ext {ν ν' : Env} (h : Ext ν ν') : ∀ (x : LV) (y : Value), VR ν x y → VR ν' x y
  | .v x, y, hv => by simpa [VR] using hv
  | .ptr b off, y, hv => by
    simp only [VR] at hv ⊢
    obtain ⟨l, h1, h2⟩ := hv
    exact ⟨l, h b l h1, h2⟩
  | .slice b off len cap, y, hv => by
    simp only [VR] at hv ⊢
    obtain ⟨l, h1, h2⟩ := hv
    exact ⟨l, h b l h1, h2⟩
  | .buf b off len e, y, hv => by
    simp only [VR] at hv ⊢
    obtain ⟨l, c, h1, h2⟩ := hv
    exact ⟨l, c, h b l h1, h2⟩
  | .emp, y, hv => by simpa [VR] using hv
  | .sym b k lo hi ne, y, hv => by
    simp only [VR] at hv ⊢
    obtain ⟨l, h1, h2, h3, h4, h5, h6⟩ := hv
    refine ⟨l, h b l h1, h2, h3, h4, h5, fun c hc => ?_⟩
    obtain ⟨l2, g1, g2⟩ := h6 c hc
    exact ⟨l2, h c l2 g1, g2⟩
  | .outS b, y, hv => by
    simp only [VR] at hv ⊢
    obtain ⟨l, m, f, h1, h2, h3, h4⟩ := hv
    exact ⟨l, m, f, h _ _ h1, h _ _ h2, h _ _ h3, h4⟩
  | .outP b, y, hv => by
    simp only [VR] at hv ⊢
    obtain ⟨l, h1, h2⟩ := hv
    exact ⟨l, h _ _ h1, h2⟩
  | .str cs, y, hv => by
    simp only [VR] at hv ⊢
    obtain ⟨bs, h1, h2⟩ := hv
    exact ⟨bs, h1, VRs.ext h cs _ h2⟩
  | .fn f cs, y, hv => by
    simp only [VR] at hv ⊢
    obtain ⟨vs, h1, h2⟩ := hv
    exact ⟨vs, h1, VRs.ext h cs vs h2⟩
  | .agg cs, y, hv => by
    simp only [VR] at hv ⊢
    obtain ⟨vs, h1, h2⟩ := hv
    exact ⟨vs, h1, VRs.ext h cs vs h2⟩
  | .tup cs, y, hv => by
    simp only [VR] at hv ⊢
    obtain ⟨vs, h1, h2⟩ := hv
    exact ⟨vs, h1, VRs.ext h cs vs h2⟩
theorem VRs.ext {ν ν' : Env} (h : Ext ν ν') : ∀ (cs : List LV) (vs : List Value), VRs ν cs vs → VRs ν' cs vs
  | [], vs, hv => by simpa [VRs] using hv
  | c :: cs, vs, hv => by
    simp only [VRs] at hv ⊢
    obtain ⟨u, us, h1, h2, h3⟩ := hv
    exact ⟨u, us, h1, VR.ext h c u h2, VRs.ext h cs us h3⟩
end
theorem VRs.nil_iff {ν : Env} {vs : List Value} : VRs ν [] vs ↔ vs = [] := by simp [VRs]
theorem VRs.cons_iff {ν : Env} {c : LV} {cs : List LV} {vs : List Value} : VRs ν (c :: cs) vs ↔ ∃ u us, vs = u :: us ∧ VR ν c u ∧ VRs ν cs us := by simp [VRs]
theorem VRs.length {ν : Env} : ∀ {cs : List LV} {vs : List Value}, VRs ν cs vs → vs.length = cs.length
  | [], vs, h => by rw [VRs.nil_iff.1 h]; rfl
  | c :: cs, vs, h => by
    obtain ⟨u, us, rfl, _, h3⟩ := VRs.cons_iff.1 h
    simp [VRs.length h3]
theorem VRs.append {ν : Env} : ∀ {cs ds : List LV} {vs us : List Value}, VRs ν cs vs → VRs ν ds us → VRs ν (cs ++ ds) (vs ++ us)
  | [], ds, vs, us, h, k => by rw [VRs.nil_iff.1 h]; exact k
  | c :: cs, ds, vs, us, h, k => by
    obtain ⟨u, us', rfl, h2, h3⟩ := VRs.cons_iff.1 h
    exact VRs.cons_iff.2 ⟨u, _, rfl, h2, VRs.append h3 k⟩
theorem VRs.split {ν : Env} : ∀ {cs ds : List LV} {vs : List Value}, VRs ν (cs ++ ds) vs → ∃ us ws, vs = us ++ ws ∧ VRs ν cs us ∧ VRs ν ds ws
  | [], ds, vs, h => ⟨[], vs, rfl, VRs.nil_iff.2 rfl, h⟩
  | c :: cs, ds, vs, h => by
    obtain ⟨u, us', rfl, h2, h3⟩ := VRs.cons_iff.1 h
    obtain ⟨a, b, rfl, ha, hb⟩ := VRs.split h3
    exact ⟨u :: a, b, rfl, VRs.cons_iff.2 ⟨u, a, rfl, h2, ha⟩, hb⟩
theorem VRs.take {ν : Env} {cs : List LV} {vs : List Value} (h : VRs ν cs vs) (n : Nat) : VRs ν (cs.take n) (vs.take n) := by
  rw [← List.take_append_drop n cs] at h
  obtain ⟨a, b, rfl, ha, hb⟩ := VRs.split h
  by_cases hn : n ≤ cs.length
  · have : a.length = n := by rw [ha.length]; simp; omega
    rw [← this, List.take_left]; rwa [this]
  · have hl := ha.length
    have hb' := hb.length
    simp at hl hb'
    have e1 : b = [] := List.eq_nil_of_length_eq_zero (by omega)
    subst e1
    rw [List.append_nil, List.take_of_length_le (by omega)]
    rwa [List.take_of_length_le (by omega)] at ha ⊢
theorem VRs.drop {ν : Env} {cs : List LV} {vs : List Value} (h : VRs ν cs vs) (n : Nat) : VRs ν (cs.drop n) (vs.drop n) := by
  rw [← List.take_append_drop n cs] at h
  obtain ⟨a, b, rfl, ha, hb⟩ := VRs.split h
  by_cases hn : n ≤ cs.length
  · have : a.length = n := by rw [ha.length]; simp; omega
    rw [← this, List.drop_left]; rwa [this]
  · have hl := ha.length
    have hb' := hb.length
    simp at hl hb'
    have e1 : b = [] := List.eq_nil_of_length_eq_zero (by omega)
    subst e1
    rw [List.append_nil, List.drop_of_length_le (show a.length ≤ n by omega)]
    rwa [List.drop_of_length_le (by omega)] at hb ⊢
theorem VRs.get {ν : Env} {cs : List LV} {vs : List Value} (h : VRs ν cs vs) (i : Nat) (x : LV) (hx : cs[i]? = some x) : ∃ y, vs[i]? = some y ∧ VR ν x y := by
  induction cs generalizing vs i with
  | nil => simp at hx
  | cons c cs ih =>
    obtain ⟨u, us, rfl, h2, h3⟩ := VRs.cons_iff.1 h
    cases i with
    | zero => simp at hx; subst hx; exact ⟨u, rfl, h2⟩
    | succ i => simpa using ih h3 i (by simpa using hx)
theorem putL_eq : ∀ (cs : List LV) (off : Nat) (l : List LV), off + l.length ≤ cs.length → putL cs off l = cs.take off ++ l ++ cs.drop (off + l.length)
  | cs, off, [], h => by cases cs <;> cases off <;> simp [putL]
  | [], off, x :: xs, h => by simp at h
  | c :: cs, 0, x :: xs, h => by
    have := putL_eq cs 0 xs (by simp at h ⊢; omega)
    simp only [putL, this]
    simp [Nat.add_comm]
  | c :: cs, off + 1, x :: xs, h => by
    have := putL_eq cs off (x :: xs) (by simp at h ⊢; omega)
    simp only [putL, this]
    rw [List.take_succ_cons, show off + 1 + (x :: xs).length = (off + (x :: xs).length) + 1 by omega, List.drop_succ_cons]
    simp
theorem putL_len (cs : List LV) (off : Nat) (l : List LV) (h : off + l.length ≤ cs.length) : (putL cs off l).length = cs.length := by
  rw [putL_eq cs off l h]; simp; omega
theorem VRs.put {ν : Env} {cs l : List LV} {vs us : List Value} {off : Nat} (h : VRs ν cs vs) (k : VRs ν l us) (hl : off + l.length ≤ cs.length) :
    VRs ν (putL cs off l) (vs.take off ++ us ++ vs.drop (off + us.length)) := by
  rw [putL_eq cs off l hl, k.length]
  exact ((h.take off).append k).append (h.drop _)
theorem VR.one {ν : Env} {x : LV} {y : Value} (h : VR ν x y) (h1 : x.isOne = true) : y.oneCell' = true := by
  cases x with
  | v x =>
    simp only [VR] at h
    obtain ⟨rfl, hp⟩ := h
    cases y <;> simp_all [plainV, Value.oneCell']
  | ptr b off => simp only [VR] at h; obtain ⟨l, _, rfl⟩ := h; rfl
  | slice b off len cap => simp only [VR] at h; obtain ⟨l, _, rfl⟩ := h; rfl
  | buf b off len e => simp only [VR] at h; obtain ⟨l, c, _, rfl, _⟩ := h; rfl
  | emp => simp only [VR] at h; obtain ⟨a, c, rfl, _⟩ := h; rfl
  | sym b k lo hi ne => simp only [VR] at h; obtain ⟨l, _, rfl, _⟩ := h; rfl
  | str cs => simp only [VR] at h; obtain ⟨bs, rfl, _⟩ := h; rfl
  | outS b => simp only [VR] at h; obtain ⟨l, m, f, _, _, _, rfl⟩ := h; rfl
  | outP b => simp only [VR] at h; obtain ⟨l, _, rfl⟩ := h; rfl
  | fn f cs => simp only [VR] at h; obtain ⟨vs, rfl, _⟩ := h; rfl
  | agg cs => simp [LV.isOne] at h1
  | tup cs => simp [LV.isOne] at h1
theorem VRs.one {ν : Env} : ∀ {cs : List LV} {vs : List Value}, VRs ν cs vs → cs.all LV.isOne = true → ∀ v ∈ vs, v.oneCell' = true
  | [], vs, h, _ => by rw [VRs.nil_iff.1 h]; simp
  | c :: cs, vs, h, h1 => by
    obtain ⟨u, us, rfl, h2, h3⟩ := VRs.cons_iff.1 h
    simp only [List.all_cons, Bool.and_eq_true] at h1
    intro v hv
    rcases List.mem_cons.1 hv with rfl | hv
    · exact h2.one h1.1
    · exact VRs.one h3 h1.2 v hv
theorem VR.cells {ν : Env} {x : LV} {y : Value} (h : VR ν x y) (ht : ∀ cs, x ≠ .tup cs) : VRs ν x.cells y.cells.toList := by
  cases x with
  | agg cs => simp only [VR] at h; obtain ⟨vs, rfl, h⟩ := h; simpa [LV.cells, Value.cells] using h
  | tup cs => exact absurd rfl (ht cs)
  | v x =>
    have h' := h
    simp only [VR] at h
    obtain ⟨rfl, hp⟩ := h
    cases y <;> simp [plainV] at hp <;> exact VRs.cons_iff.2 ⟨_, _, rfl, h', VRs.nil_iff.2 rfl⟩
  | ptr b off => have h' := h; simp only [VR] at h; obtain ⟨l, _, rfl⟩ := h; exact VRs.cons_iff.2 ⟨_, _, rfl, h', VRs.nil_iff.2 rfl⟩
  | slice b off len cap => have h' := h; simp only [VR] at h; obtain ⟨l, _, rfl⟩ := h; exact VRs.cons_iff.2 ⟨_, _, rfl, h', VRs.nil_iff.2 rfl⟩
  | buf b off len e => have h' := h; simp only [VR] at h; obtain ⟨l, c, _, rfl, _⟩ := h; exact VRs.cons_iff.2 ⟨_, _, rfl, h', VRs.nil_iff.2 rfl⟩
  | emp => have h' := h; simp only [VR] at h; obtain ⟨a, c, rfl, _⟩ := h; exact VRs.cons_iff.2 ⟨_, _, rfl, h', VRs.nil_iff.2 rfl⟩
  | sym b k lo hi ne => have h' := h; simp only [VR] at h; obtain ⟨l, _, rfl, _⟩ := h; exact VRs.cons_iff.2 ⟨_, _, rfl, h', VRs.nil_iff.2 rfl⟩
  | str cs => have h' := h; simp only [VR] at h; obtain ⟨bs, rfl, _⟩ := h; exact VRs.cons_iff.2 ⟨_, _, rfl, h', VRs.nil_iff.2 rfl⟩
  | outS b => have h' := h; simp only [VR] at h; obtain ⟨l, m, f, _, _, _, rfl⟩ := h; exact VRs.cons_iff.2 ⟨_, _, rfl, h', VRs.nil_iff.2 rfl⟩
  | outP b => have h' := h; simp only [VR] at h; obtain ⟨l, _, rfl⟩ := h; exact VRs.cons_iff.2 ⟨_, _, rfl, h', VRs.nil_iff.2 rfl⟩
  | fn f cs => have h' := h; simp only [VR] at h; obtain ⟨vs, rfl, _⟩ := h; exact VRs.cons_iff.2 ⟨_, _, rfl, h', VRs.nil_iff.2 rfl⟩
theorem valsL_eq {ν : Env} : ∀ {cs : List LV} {xs ys : List Value}, LV.valsL cs = some xs → VRs ν cs ys → ys = xs
  | [], xs, ys, h, k => by simp [LV.valsL] at h; subst h; exact VRs.nil_iff.1 k
  | .v x :: cs, xs, ys, h, k => by
    simp only [LV.valsL, Option.map_eq_some_iff] at h
    obtain ⟨l, h1, rfl⟩ := h
    obtain ⟨u, us, rfl, h2, h3⟩ := VRs.cons_iff.1 k
    simp only [VR] at h2
    rw [h2.1, valsL_eq h1 h3]
  | .ptr _ _ :: _, _, _, h, _ => by simp [LV.valsL] at h
  | .slice _ _ _ _ :: _, _, _, h, _ => by simp [LV.valsL] at h
  | .buf _ _ _ _ :: _, _, _, h, _ => by simp [LV.valsL] at h
  | .emp :: _, _, _, h, _ => by simp [LV.valsL] at h
  | .sym _ _ _ _ _ :: _, _, _, h, _ => by simp [LV.valsL] at h
  | .str _ :: _, _, _, h, _ => by simp [LV.valsL] at h
  | .outS _ :: _, _, _, h, _ => by simp [LV.valsL] at h
  | .outP _ :: _, _, _, h, _ => by simp [LV.valsL] at h
  | .fn _ _ :: _, _, _, h, _ => by simp [LV.valsL] at h
  | .agg _ :: _, _, _, h, _ => by simp [LV.valsL] at h
  | .tup _ :: _, _, _, h, _ => by simp [LV.valsL] at h
theorem val?_eq {ν : Env} {x : LV} {y z : Value} (h : x.val? = some y) (k : VR ν x z) : z = y := by
  cases x with
  | v x => simp [LV.val?] at h; simp only [VR] at k; rw [k.1, h]
  | agg cs =>
    simp only [LV.val?, Option.map_eq_some_iff] at h
    obtain ⟨l, h1, rfl⟩ := h
    simp only [VR] at k
    obtain ⟨vs, rfl, k⟩ := k
    rw [valsL_eq h1 k]
  | _ => simp [LV.val?] at h
theorem lvsOf_ok {ν : Env} : ∀ {xs : List Value} {l : List LV}, lvsOf xs = some l → VRs ν l xs
  | [], l, h => by simp [lvsOf] at h; subst h; exact VRs.nil_iff.2 rfl
  | x :: xs, l, h => by
    simp only [lvsOf] at h
    split at h
    · rename_i hp
      simp only [Option.map_eq_some_iff] at h
      obtain ⟨l', h1, rfl⟩ := h
      exact VRs.cons_iff.2 ⟨x, xs, rfl, by simp [VR, hp], lvsOf_ok h1⟩
    · cases h
theorem lvsOf_one : ∀ {xs : List Value} {l : List LV}, lvsOf xs = some l → l.all LV.isOne = true
  | [], l, h => by simp [lvsOf] at h; subst h; rfl
  | x :: xs, l, h => by
    simp only [lvsOf] at h
    split at h
    · simp only [Option.map_eq_some_iff] at h
      obtain ⟨l', h1, rfl⟩ := h
      simp [LV.isOne, lvsOf_one h1]
    · cases h
theorem lvOf_ok {ν : Env} {x : Value} {l : LV} (h : lvOf x = some l) : VR ν l x := by
  unfold lvOf at h
  split at h
  · simp only [Option.map_eq_some_iff] at h
    obtain ⟨l', h1, rfl⟩ := h
    simp only [VR]
    exact ⟨_, by simp, lvsOf_ok h1⟩
  · split at h
    · rename_i hp
      cases h
      simp [VR, hp]
    · cases h
theorem pureRun_ok {α : Type} {P : Program} : ∀ (m : Sem α) (a : α), pureRun P m = some a → ∀ w, m.run P w = .ok a w
  | .pure b, a, h, w => by simp [pureRun] at h; subst h; rfl
  | .program k, a, h, w => by simp only [pureRun] at h; exact pureRun_ok (k P) a h w
  | .mark _ k, a, h, w => by simp only [pureRun] at h; exact pureRun_ok k a h w
  | .load _ _ _, _, h, _ | .store _ _ _ _, _, h, _ | .new _ _, _, h, _ | .shape _ _, _, h, _ | .freeze _ _ _, _, h, _ | .frozen _ _, _, h, _ | .getObj _ _, _, h, _ | .setObj _ _ _, _, h, _ | .choose _ _, _, h, _ | .sys _ _, _, h, _ | .halt _, _, h, _ => by simp [pureRun] at h
end Go.Proofs.YtjpfhhndjpdmoaaGreatDoor
