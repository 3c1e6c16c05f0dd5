/- Part of the proof: NaksA, NaksR0, NaksR1, NaksR2, NaksR3, NaksR4, NaksR5. No conditions of its own. -/
import Derived.ArgAppend
import Derived.Below
import Derived.BigQuiet
import Derived.Deep.CutBlock
import Derived.Deep.DeepCutAuto
import Derived.Deep.Draws
import Derived.Deep.LoopGhost
import Derived.Deep.Quiet
import Derived.Deep.QuietTactic
import Derived.Deep.RegionLaw
import Derived.KernelRfl
import Derived.Laws.AppendOwnNone
import Derived.Laws.Bits64b
import Derived.Laws.BitsAllLaws
import Derived.Laws.BytesArg
import Derived.Laws.CopyOwn
import Derived.Laws.CopyRow
import Derived.Laws.NewFold
import Derived.Laws.Strings
import Derived.Lib.AppendStr
import Derived.Lib.ConvBytes
import Derived.Lib.Hide
import Derived.Lib.MakeNoZero
import Derived.LoopIn
import Derived.LoopNIn
import Derived.Maps.AppendAt
import Derived.Orders
import Derived.OrdersIn
import Derived.OwnWalkIn
import Derived.RangeFuncBound
import Derived.RangeFuncCalls
import Derived.RangeFuncLeaves
import Derived.RangeFuncNested
import Derived.RangeFuncWrites
import Derived.RowKit3
import Derived.Shelf.Abstract
import Derived.Shelf.Bits.Mul64
import Derived.Shelf.Spec.BitsCarry
import Derived.StillTail
import Derived.Stop.BytesEq
import Derived.TacticsIn
import Derived.TacticsInMore
import Derived.Test.YtjpfhhndjpdmoaaGreatDoorProg
import Derived.Test.YtjpfhhndjpdmoaaGreatDoorRows
import Derived.WalkKit
import Derived.Test.YtjpfhhndjpdmoaaGreatDoorK41
import Derived.Test.YtjpfhhndjpdmoaaGreatDoorK44
import Derived.Test.YtjpfhhndjpdmoaaGreatDoorK46
namespace Go.Proofs.YtjpfhhndjpdmoaaGreatDoor
open Go.RowKit
set_option linter.unusedVariables false
set_option linter.unusedSimpArgs false

def nkTl : List LV := cfgTl ++ [.v (.int .i64 100), .v (.int .i64 5)]
def pickD (d : Dl) : List Nat → List (Nat × Blk)
  | [] => []
  | i :: l => match dget d i with
    | some (some k) => (i, k) :: pickD d l
    | _ => pickD d l
def nkC : List (Nat × Blk) := pickD cfgD [4549, 4548, 4550, 1628]
def nkSyms : List LV := [.sym 1000100 .u8 0 255 [], .sym 1000101 .u8 0 255 [], .sym 1000102 .u8 0 255 [], .sym 1000103 .u8 0 255 [], .sym 1000104 .u8 0 255 [], .sym 1000105 .u8 0 255 [], .sym 1000106 .u8 0 255 [], .sym 1000107 .u8 0 255 [], .sym 1000108 .u8 0 255 [], .sym 1000109 .u8 0 255 [], .sym 1000110 .u8 0 255 [], .sym 1000111 .u8 0 255 [], .sym 1000112 .u8 0 255 [], .sym 1000113 .u8 0 255 [], .sym 1000114 .u8 0 255 [], .sym 1000115 .u8 0 255 [], .sym 1000116 .u8 0 255 [], .sym 1000117 .u8 0 255 [], .sym 1000118 .u8 0 255 [], .sym 1000119 .u8 0 255 [], .sym 1000120 .u8 0 255 [], .sym 1000121 .u8 0 255 [], .sym 1000122 .u8 0 255 [], .sym 1000123 .u8 0 255 [], .sym 1000124 .u8 0 255 [], .sym 1000125 .u8 0 255 [], .sym 1000126 .u8 0 255 [], .sym 1000127 .u8 0 255 [], .sym 1000128 .u8 0 255 [], .sym 1000129 .u8 0 255 [], .sym 1000130 .u8 0 255 [], .sym 1000131 .u8 0 255 [], .sym 1000132 .u8 0 255 [], .sym 1000133 .u8 0 255 [], .sym 1000134 .u8 0 255 [], .sym 1000135 .u8 0 255 [], .sym 1000136 .u8 0 255 [], .sym 1000137 .u8 0 255 [], .sym 1000138 .u8 0 255 [], .sym 1000139 .u8 0 255 [], .sym 1000140 .u8 0 255 [], .sym 1000141 .u8 0 255 [], .sym 1000142 .u8 0 255 [], .sym 1000143 .u8 0 255 [], .sym 1000144 .u8 0 255 [], .sym 1000145 .u8 0 255 [], .sym 1000146 .u8 0 255 [], .sym 1000147 .u8 0 255 [], .sym 1000148 .u8 0 255 [], .sym 1000149 .u8 0 255 []]
def nkSy (L : Nat) : List LV := nkSyms.take L
def nkX (ne : List Nat) : LV := .sym 1000012 .i64 0 10 ne
def nkX1 (ne : List Nat) : LV := .sym 1000013 .i64 1 10 (1000012 :: ne)
def nkN : LV := .sym 1000011 .i64 0 9223372036854775807 []
def nkN2 : LV := .sym 1000014 .i64 51 9223372036854775807 []
def nkLen (L : Nat) : Nat := Nat.add 5 L
def nkNe (st : Nat) : List Nat := match st with | 0 => [] | _ => [1000000]
def nkL (M : Nat) : Nat := match Nat.ble M 50 with | true => M | false => 50
def nkP (L st : Nat) : List LV := .v (.string ⟨#[110]⟩) :: (nkTl ++ (match st with
  | 0 => [.v (.int .i64 0), .v (.slice none 0 0), .v (.int .i64 (-1)), .v (.slice none 0 0), .v (.pointer none), .v (.int .i64 0)]
  | _ => [.v (.int .i64 1), .buf 4581 0 (nkLen L) 1, .sym 1000000 .i64 0 10 [], .buf 4587 0 6 1, .v (.pointer none), .v (.int .i64 0)]))
def nkAsked (L : Nat) : List LV := .v (.int .u8 1) :: .sym 1000000 .u8 0 10 [] :: .v (.int .u8 0) :: .v (.int .u8 (.ofNat (nkLen L))) :: .sym 1000001 .u8 2 255 [] :: nkSy L
def nkSaid : List LV := [.v (.int .u8 2), .sym 1000000 .u8 0 10 [], .v (.int .u8 0), .v (.int .u8 6), .v (.int .u8 3), .v (.int .u8 13)]
def nkD (L st : Nat) : List (Nat × Blk) := (4562, ⟨80, true, false, nkP L st⟩) :: (match st with
  | 0 => nkC
  | _ => (4581, ⟨5, false, false, nkAsked L⟩) :: (4587, ⟨5, false, true, nkSaid⟩) :: nkC)
def nkT : List (Nat × LV) := [(0, .outS 1001000), (1, .outS 1001010), (7, .v (.bool true)), (8, .ptr 4562 0), (9, .v (.int .i64 0))]
def nkPat (L st : Nat) : Pat := ⟨(10, nkX (nkNe st)) :: nkT, nkD L st, 4606⟩
def nkPat1 : Pat := ⟨nkT, nkD 0 0, 4606⟩
def nkSg0 : Sg := [(4549, .num 4549), (4548, .num 4548), (4550, .num 4550), (1628, .num 1628), (4562, .num 4562), (1001000, .num 1001000), (1001001, .num 1001001), (1001002, .num 1001002), (1001010, .num 1001010), (1001011, .num 1001011), (1001012, .num 1001012), (1000100, .num 1000100), (1000101, .num 1000101), (1000102, .num 1000102), (1000103, .num 1000103), (1000104, .num 1000104), (1000105, .num 1000105), (1000106, .num 1000106), (1000107, .num 1000107), (1000108, .num 1000108), (1000109, .num 1000109), (1000110, .num 1000110), (1000111, .num 1000111), (1000112, .num 1000112), (1000113, .num 1000113), (1000114, .num 1000114), (1000115, .num 1000115), (1000116, .num 1000116), (1000117, .num 1000117), (1000118, .num 1000118), (1000119, .num 1000119), (1000120, .num 1000120), (1000121, .num 1000121), (1000122, .num 1000122), (1000123, .num 1000123), (1000124, .num 1000124), (1000125, .num 1000125), (1000126, .num 1000126), (1000127, .num 1000127), (1000128, .num 1000128), (1000129, .num 1000129), (1000130, .num 1000130), (1000131, .num 1000131), (1000132, .num 1000132), (1000133, .num 1000133), (1000134, .num 1000134), (1000135, .num 1000135), (1000136, .num 1000136), (1000137, .num 1000137), (1000138, .num 1000138), (1000139, .num 1000139), (1000140, .num 1000140), (1000141, .num 1000141), (1000142, .num 1000142), (1000143, .num 1000143), (1000144, .num 1000144), (1000145, .num 1000145), (1000146, .num 1000146), (1000147, .num 1000147), (1000148, .num 1000148), (1000149, .num 1000149)]
def nkSgJ (st : Nat) : Sg := match st with
  | 0 => nkSg0
  | _ => (1000000, .num 1000000) :: (1000001, .num 1000001) :: (4581, .num 4581) :: (4587, .num 4587) :: nkSg0
def nkSgH (st : Nat) : Sg := (1000012, .num 1000012) :: nkSgJ st
def nkSgL : Sg := (1000012, .lit 0) :: nkSg0
def nkSgS (st : Nat) : Sg := (1000012, .num 1000013) :: nkSgJ st
def nkSgN (a s : Nat) : Sg := (1000012, .num 1000013) :: (1000000, .num 1000012) :: (1000001, .num 1000020) :: (4581, .num a) :: (4587, .num s) :: nkSg0
def nkAn (L st : Nat) : Nat := match L with | 0 => 4621 | _ => 4623
def nkSn (L st : Nat) : Nat := match L with | 0 => 4627 | _ => 4629
abbrev nkF : FuncId := 4
noncomputable def nkB : Code := Cd.bodyOf Tryz.prog nkF
noncomputable def nkC3 : Code := Cd.drop 3 nkB
noncomputable def nkLp : Code := Cd.a (Cd.a (Cd.b (Cd.a nkC3)))
noncomputable def nkEn : Code := Cd.b nkC3
def nkHk (ne : List Nat) (kd : LV) : List Hint := [⟨4, [22], [.outS 1001000], nkN⟩, ⟨6, [], [nkX ne, nkN], .v (.bool true)⟩, ⟨6, [], [nkX ne, goI 10], .v (.bool true)⟩, ⟨0, [22], [.outS 1001000, nkX ne], .outP 1000010⟩, ⟨1, [5], [.outP 1000010], kd⟩, ⟨10, [], [nkX ne, goI 1], nkX1 ne⟩]
def nkHd (M : Nat) : List Hint := match Nat.ble M 50 with
  | true => [⟨4, [22], [.outS 1001010], goI M⟩, ⟨2, [22], [.outS 1001010, goI M], .outS 1001020⟩, ⟨3, [22, 9], [.outS 1001020], .str (nkSy M)⟩]
  | false => [⟨4, [22], [.outS 1001010], nkN2⟩, ⟨5, [], [nkN2, goI 50], goI 50⟩, ⟨2, [22], [.outS 1001010, goI 50], .outS 1001020⟩, ⟨3, [22, 9], [.outS 1001020], .str (nkSy 50)⟩]
def nkHa (ne : List Nat) : List Hint := [⟨4, [22], [.outS 1001000], nkN⟩, ⟨6, [], [nkX ne, nkN], .v (.bool false)⟩]
def nkHb (ne : List Nat) : List Hint := [⟨4, [22], [.outS 1001000], nkN⟩, ⟨6, [], [nkX ne, nkN], .v (.bool true)⟩, ⟨6, [], [nkX ne, goI 10], .v (.bool false)⟩]
def nkKl : LV := .sym 1000020 .u8 2 12 []
def nkKh : LV := .sym 1000020 .u8 14 255 []
noncomputable def nkRnd (M st : Nat) (kd : LV) : Bool := okS GN (nkSgN (nkAn (nkL M) st) (nkSn (nkL M) st)) ⟨[], []⟩ (nkPat (nkL M) 1) .normal 4606 (evCQ Tryz.prog GN (hintF (nkHk (nkNe st) kd ++ nkHd M) cfP) 1000 nkLp (stOf 115 (nkPat (nkL M) st)))
noncomputable def nkSkp (M st : Nat) (kd : LV) : Bool := okS GN (nkSgS st) ⟨[], []⟩ (nkPat (nkL M) st) .normal 4606 (evCQ Tryz.prog GN (hintF (nkHk (nkNe st) kd) cfP) 1000 nkLp (stOf 115 (nkPat (nkL M) st)))
noncomputable def nkExA (M st : Nat) : Bool := okS GN (nkSgH st) ⟨[], []⟩ (nkPat (nkL M) st) (.exit 0) 4606 (evCQ Tryz.prog GN (hintF (nkHa (nkNe st)) cfP) 1000 nkLp (stOf 115 (nkPat (nkL M) st)))
noncomputable def nkExB (M st : Nat) : Bool := okS GN (nkSgH st) ⟨[], []⟩ (nkPat (nkL M) st) (.exit 0) 4606 (evCQ Tryz.prog GN (hintF (nkHb (nkNe st)) cfP) 1000 nkLp (stOf 115 (nkPat (nkL M) st)))
def nkEs (t1 t2 t3 t4 t5 t6 t7 : TypeId) (M st : Nat) : St := ⟨115, trOf (nkPat (nkL M) st).T, Hp.app (hpOf (nkPat (nkL M) st).D) (gD t1 t2 t3 t4 t5 t6 t7), 4606, []⟩
noncomputable def nkEnd (t1 t2 t3 t4 t5 t6 t7 : TypeId) (M st : Nat) : Bool := okE Tryz.prog 4606 Tryz.f4.results.toList (evCQ Tryz.prog GN cfE 1000 nkEn (nkEs t1 t2 t3 t4 t5 t6 t7 M st))
noncomputable def nkOut (M st : Nat) : Bool := nkExA M st && (nkExB M st && (nkSkp M st (.v (.int .u8 0)) && (nkSkp M st (.v (.int .u8 1)) && (nkSkp M st (.v (.int .u8 13)) && (nkRnd M st nkKl && nkRnd M st nkKh)))))
noncomputable def nkAll (t1 t2 t3 t4 t5 t6 t7 : TypeId) (M : Nat) : Bool := (nkOut M 0 && nkOut M 1) && nkEnd t1 t2 t3 t4 t5 t6 t7 M 1
def nkSt0 (t1 t2 t3 t4 t5 t6 t7 : TypeId) : St := ⟨115, argsT 0 [.outS 1001000, .outS 1001010] .nil, GH t1 t2 t3 t4 t5 t6 t7, GN, []⟩
noncomputable def nkBeg (t1 t2 t3 t4 t5 t6 t7 : TypeId) : Bool := okS GN nkSg0 ⟨[], []⟩ nkPat1 .normal GN (evPre Tryz.prog GN cfP 100000 3 nkB (nkSt0 t1 t2 t3 t4 t5 t6 t7))
noncomputable def nkBeg1 (M : Nat) : Bool := okS GN nkSgL ⟨[], []⟩ (nkPat (nkL M) 0) .normal 4606 (evPre Tryz.prog GN cfP 1000 0 (Cd.a nkC3) (stOf 115 nkPat1))
noncomputable def nkUp (p : Nat → Bool) (a n : Nat) : Bool := match n with | 0 => true | k + 1 => p (Nat.add a k) && nkUp p a k
theorem nkUp_ok {p : Nat → Bool} {a : Nat} : ∀ {n : Nat}, nkUp p a n = true → ∀ j, a ≤ j → j < a + n → p j = true
  | 0, _, j, h1, h2 => by omega
  | n + 1, h, j, h1, h2 => by
    simp only [nkUp, Bool.and_eq_true] at h
    by_cases e : j = a + n
    · subst e; exact h.1
    · exact nkUp_ok h.2 j h1 (by omega)
end Go.Proofs.YtjpfhhndjpdmoaaGreatDoor

namespace Go.Proofs.YtjpfhhndjpdmoaaGreatDoor
set_option maxRecDepth 100000 in
theorem nkAll_0 (t1 t2 t3 t4 t5 t6 t7 : TypeId) : nkUp (nkAll t1 t2 t3 t4 t5 t6 t7) 0 9 = true := by kernel_rfl
end Go.Proofs.YtjpfhhndjpdmoaaGreatDoor

namespace Go.Proofs.YtjpfhhndjpdmoaaGreatDoor
set_option maxRecDepth 100000 in
theorem nkAll_1 (t1 t2 t3 t4 t5 t6 t7 : TypeId) : nkUp (nkAll t1 t2 t3 t4 t5 t6 t7) 9 9 = true := by kernel_rfl
end Go.Proofs.YtjpfhhndjpdmoaaGreatDoor

namespace Go.Proofs.YtjpfhhndjpdmoaaGreatDoor
set_option maxRecDepth 100000 in
theorem nkAll_2 (t1 t2 t3 t4 t5 t6 t7 : TypeId) : nkUp (nkAll t1 t2 t3 t4 t5 t6 t7) 18 9 = true := by kernel_rfl
end Go.Proofs.YtjpfhhndjpdmoaaGreatDoor

namespace Go.Proofs.YtjpfhhndjpdmoaaGreatDoor
set_option maxRecDepth 100000 in
theorem nkAll_3 (t1 t2 t3 t4 t5 t6 t7 : TypeId) : nkUp (nkAll t1 t2 t3 t4 t5 t6 t7) 27 9 = true := by kernel_rfl
end Go.Proofs.YtjpfhhndjpdmoaaGreatDoor

namespace Go.Proofs.YtjpfhhndjpdmoaaGreatDoor
set_option maxRecDepth 100000 in
theorem nkAll_4 (t1 t2 t3 t4 t5 t6 t7 : TypeId) : nkUp (nkAll t1 t2 t3 t4 t5 t6 t7) 36 8 = true := by kernel_rfl
end Go.Proofs.YtjpfhhndjpdmoaaGreatDoor

namespace Go.Proofs.YtjpfhhndjpdmoaaGreatDoor
set_option maxRecDepth 100000 in
theorem nkAll_5 (t1 t2 t3 t4 t5 t6 t7 : TypeId) : nkUp (nkAll t1 t2 t3 t4 t5 t6 t7) 44 8 = true := by kernel_rfl
end Go.Proofs.YtjpfhhndjpdmoaaGreatDoor
