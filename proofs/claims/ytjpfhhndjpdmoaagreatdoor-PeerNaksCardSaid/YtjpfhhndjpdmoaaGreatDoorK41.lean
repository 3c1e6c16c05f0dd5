/- Part of the proof: Sg11, Sg12, Sg13, Sg14, EvCl, EvCm, EvCf. No conditions of its own. -/
import Derived.ArgAppend
import Derived.Below
import Derived.BigQuiet
import Derived.Deep.CutBlock
import Derived.Deep.DeepCutAuto
import Derived.Deep.Draws
import Derived.Deep.LoopGhost
import Derived.Deep.Quiet
import Derived.Deep.QuietTactic
import Derived.Deep.RegionLaw
import Derived.KernelRfl
import Derived.Laws.AppendOwnNone
import Derived.Laws.Bits64b
import Derived.Laws.BitsAllLaws
import Derived.Laws.BytesArg
import Derived.Laws.CopyOwn
import Derived.Laws.CopyRow
import Derived.Laws.NewFold
import Derived.Laws.Strings
import Derived.Lib.AppendStr
import Derived.Lib.ConvBytes
import Derived.Lib.Hide
import Derived.Lib.MakeNoZero
import Derived.Maps.AppendAt
import Derived.Orders
import Derived.RowKit3
import Derived.Shelf.Bits.Mul64
import Derived.Shelf.Spec.BitsCarry
import Derived.StillTail
import Derived.Stop.BytesEq
import Derived.Test.YtjpfhhndjpdmoaaGreatDoorProg
import Derived.Test.YtjpfhhndjpdmoaaGreatDoorRows
import Derived.WalkKit
import Derived.Test.YtjpfhhndjpdmoaaGreatDoorK37
import Derived.Test.YtjpfhhndjpdmoaaGreatDoorK39
import Derived.Test.YtjpfhhndjpdmoaaGreatDoorK40
import Derived.Test.YtjpfhhndjpdmoaaGreatDoorK18
import Derived.Test.YtjpfhhndjpdmoaaGreatDoorK30
namespace Go.Proofs.YtjpfhhndjpdmoaaGreatDoor
open Go.RowKit
def sg11 : Stg := ⟨54, [(.agg [(.v (.int .i64 3)), (.v (.string ⟨#[114, 111, 111, 116]⟩)), (.v (.string ⟨#[99, 108, 105, 101, 110, 116]⟩)), (.v (.int .i64 0)), (.v (.int .i64 1000)), (.buf 65 0 65 1), (.v (.bool false)), (.v (.int .i64 0)), (.v (.int .i64 9))])], [(65, ⟨5, false, true, (q8 [4, 209, 46, 211, 16, 55, 59, 18, 74, 208, 42, 35, 62, 143, 215, 225, 45, 31, 169, 165, 160, 17, 73, 87, 91, 63, 187, 26, 189, 16, 208, 44, 23, 211, 197, 1, 216, 233, 202, 145, 210, 176, 54, 219, 188, 205, 234, 144, 21, 120, 180, 24, 182, 122, 190, 85, 22, 65, 127, 138, 163, 231, 233, 60, 140])⟩)], 3112, (.agg (q8 [247, 217, 128, 169, 55, 154, 186, 201, 103, 126, 55, 63, 21, 109, 29, 84, 149, 71, 5, 155, 155, 180, 48, 12, 107, 239, 117, 1, 188, 132, 27, 116])), [], 3766⟩
theorem sg11_run : stB sg11 (evFQ Tryz.prog 13 100000 orcB 60 sg11.f sg11.a (hpOf sg11.D) sg11.nx) = true := by kernel_rfl
end Go.Proofs.YtjpfhhndjpdmoaaGreatDoor

namespace Go.Proofs.YtjpfhhndjpdmoaaGreatDoor
open Go.RowKit
def sg12 : Stg := ⟨91, [(.agg (q8 [3, 0, 0, 0, 0, 0, 0, 0, 0, 0, 0, 0, 0, 0, 0, 0, 0, 0, 0, 0, 0, 0, 0, 0, 0, 0, 0, 0, 0, 0, 0, 1])), (.agg (q8 [247, 217, 128, 169, 55, 154, 186, 201, 103, 126, 55, 63, 21, 109, 29, 84, 149, 71, 5, 155, 155, 180, 48, 12, 107, 239, 117, 1, 188, 132, 27, 116]))], [], 3781, (.agg (q8 [248, 220, 251, 201, 205, 203, 234, 225, 115, 80, 107, 237, 188, 104, 58, 95, 131, 194, 44, 26, 123, 94, 60, 98, 58, 242, 170, 136, 73, 8, 33, 13])), [], 3781⟩
theorem sg12_run : stB sg12 (orcC sg12.f sg12.a (hpOf sg12.D) sg12.nx) = true := by kernel_rfl
end Go.Proofs.YtjpfhhndjpdmoaaGreatDoor

namespace Go.Proofs.YtjpfhhndjpdmoaaGreatDoor
open Go.RowKit
def sg13 : Stg := ⟨84, [(.agg (q8 [248, 220, 251, 201, 205, 203, 234, 225, 115, 80, 107, 237, 188, 104, 58, 95, 131, 194, 44, 26, 123, 94, 60, 98, 58, 242, 170, 136, 73, 8, 33, 13])), (.agg (q8 [107, 23, 209, 242, 225, 44, 66, 71, 248, 188, 230, 229, 99, 164, 64, 242, 119, 3, 125, 129, 45, 235, 51, 160, 244, 161, 57, 69, 216, 152, 194, 150, 79, 227, 66, 226, 254, 26, 127, 155, 142, 231, 235, 74, 124, 15, 158, 22, 43, 206, 51, 87, 107, 49, 94, 206, 203, 182, 64, 104, 55, 191, 81, 245]))], [], 3783, (.agg (q8 [27, 72, 221, 59, 124, 122, 62, 181, 67, 95, 240, 80, 3, 4, 190, 79, 141, 58, 87, 79, 125, 164, 96, 216, 32, 187, 13, 172, 22, 180, 101, 67, 139, 141, 150, 6, 62, 211, 232, 67, 134, 221, 217, 101, 9, 103, 29, 229, 213, 97, 81, 211, 99, 231, 224, 106, 72, 15, 63, 200, 188, 202, 234, 64])), [], 3783⟩
theorem sg13_run : stB sg13 (orcC sg13.f sg13.a (hpOf sg13.D) sg13.nx) = true := by kernel_rfl
end Go.Proofs.YtjpfhhndjpdmoaaGreatDoor

namespace Go.Proofs.YtjpfhhndjpdmoaaGreatDoor
open Go.RowKit
def sg14 : Stg := ⟨55, [(.agg [(.v (.int .i64 3)), (.v (.string ⟨#[114, 111, 111, 116]⟩)), (.v (.string ⟨#[99, 108, 105, 101, 110, 116]⟩)), (.v (.int .i64 0)), (.v (.int .i64 1000)), (.buf 65 0 65 1), (.v (.bool false)), (.v (.int .i64 0)), (.v (.int .i64 9))]), (.agg (q8 [27, 72, 221, 59, 124, 122, 62, 181, 67, 95, 240, 80, 3, 4, 190, 79, 141, 58, 87, 79, 125, 164, 96, 216, 32, 187, 13, 172, 22, 180, 101, 67, 114, 163, 207, 240, 172, 169, 107, 97, 57, 196, 24, 100, 130, 113, 111, 156, 236, 144, 172, 235, 115, 189, 119, 193, 11, 95, 245, 236, 134, 166, 192, 121]))], [(65, ⟨5, false, true, (q8 [4, 209, 46, 211, 16, 55, 59, 18, 74, 208, 42, 35, 62, 143, 215, 225, 45, 31, 169, 165, 160, 17, 73, 87, 91, 63, 187, 26, 189, 16, 208, 44, 23, 211, 197, 1, 216, 233, 202, 145, 210, 176, 54, 219, 188, 205, 234, 144, 21, 120, 180, 24, 182, 122, 190, 85, 22, 65, 127, 138, 163, 231, 233, 60, 140])⟩)], 3789, (.buf 4548 0 289 1), [(4548, some ⟨5, false, false, (q8 [48, 130, 1, 29, 48, 129, 197, 160, 3, 2, 1, 2, 2, 1, 3, 48, 10, 6, 8, 42, 134, 72, 206, 61, 4, 3, 2, 48, 13, 48, 11, 6, 3, 85, 4, 3, 12, 4, 114, 111, 111, 116, 48, 7, 2, 1, 0, 2, 2, 3, 232, 48, 15, 48, 13, 6, 3, 85, 4, 3, 12, 6, 99, 108, 105, 101, 110, 116, 48, 89, 48, 19, 6, 7, 42, 134, 72, 206, 61, 2, 1, 6, 8, 42, 134, 72, 206, 61, 3, 1, 7, 3, 66, 0, 4, 209, 46, 211, 16, 55, 59, 18, 74, 208, 42, 35, 62, 143, 215, 225, 45, 31, 169, 165, 160, 17, 73, 87, 91, 63, 187, 26, 189, 16, 208, 44, 23, 211, 197, 1, 216, 233, 202, 145, 210, 176, 54, 219, 188, 205, 234, 144, 21, 120, 180, 24, 182, 122, 190, 85, 22, 65, 127, 138, 163, 231, 233, 60, 140, 163, 43, 48, 41, 48, 12, 6, 3, 85, 29, 19, 1, 1, 255, 4, 2, 48, 0, 48, 13, 6, 3, 85, 29, 15, 1, 1, 255, 4, 3, 2, 1, 1, 48, 10, 6, 3, 85, 29, 37, 4, 3, 2, 1, 2, 48, 10, 6, 8, 42, 134, 72, 206, 61, 4, 3, 2, 3, 71, 0, 48, 68, 2, 32, 27, 72, 221, 59, 124, 122, 62, 181, 67, 95, 240, 80, 3, 4, 190, 79, 141, 58, 87, 79, 125, 164, 96, 216, 32, 187, 13, 172, 22, 180, 101, 67, 2, 32, 114, 163, 207, 240, 172, 169, 107, 97, 57, 196, 24, 100, 130, 113, 111, 156, 236, 144, 172, 235, 115, 189, 119, 193, 11, 95, 245, 236, 134, 166, 192, 121])⟩)], 4549⟩
theorem sg14_run : stB sg14 (evFQ Tryz.prog 13 100000 orcB 60 sg14.f sg14.a (hpOf sg14.D) sg14.nx) = true := by kernel_rfl
end Go.Proofs.YtjpfhhndjpdmoaaGreatDoor

namespace Go.Proofs.YtjpfhhndjpdmoaaGreatDoor
open Go.RowKit
set_option linter.unusedVariables false
set_option linter.unusedSimpArgs false

def q64 (l : List Nat) : List LV := l.map fun (q : Nat) => LV.v (.int .u64 (q : Int))
def q32 (l : List UInt32) : List LV := l.map fun q => LV.v (.int .u32 (q.toNat : Int))
def gD (t1 t2 t3 t4 t5 t6 t7 : TypeId) : Dl := [(1, some ⟨t1, true, false, q64 (nL N256)⟩), (2, some ⟨t2, true, false, q64 (nL GX)⟩), (3, some ⟨t3, true, false, q64 (nL GY)⟩), (6, some ⟨t4, true, false, q64 (nL P256)⟩), (7, some ⟨t5, true, false, q64 (nL B256)⟩), (8, some ⟨t6, true, false, q32 startS⟩), (10, some ⟨t7, true, false, q32 roundsS⟩)]
def GH (t1 t2 t3 t4 t5 t6 t7 : TypeId) : Hp := Hp.app .nil (gD t1 t2 t3 t4 t5 t6 t7)
abbrev GN : Nat := 13
def sgs : List Stg := [sg0, sg1, sg2, sg3, sg4, sg5, sg6, sg7, sg8, sg9, sg10, sg11, sg12, sg13, sg14]
def orcS : Orc := stageO [84, 91, 54, 55] sgs orcB
def isTrueO : Option Out → Bool
  | some ⟨.v (.bool true), _, nx, _⟩ => Nat.ble GN nx
  | _ => false
theorem peers_run (t1 t2 t3 t4 t5 t6 t7 : TypeId) : isTrueO (evFQ Tryz.prog GN 100000 orcS 60 12 [] (GH t1 t2 t3 t4 t5 t6 t7) GN) = true := by kernel_rfl
end Go.Proofs.YtjpfhhndjpdmoaaGreatDoor

namespace Go.Proofs.YtjpfhhndjpdmoaaGreatDoor
open Go.RowKit
set_option linter.unusedVariables false
set_option linter.unusedSimpArgs false

theorem noGoB : (Tryz.prog.funcs.toList.all fun fn => !(fn.name == "runtime.NumGoroutine")) = true := by kernel_rfl
theorem noGo : ∀ (f : FuncId) (fn : Func), Tryz.prog.funcs[f]? = some fn → (fn.name == "runtime.NumGoroutine") = false := by
  intro f fn h
  have h1 : fn ∈ Tryz.prog.funcs.toList := by
    rw [Array.getElem?_eq_some_iff] at h
    obtain ⟨hf, rfl⟩ := h
    exact Array.getElem_mem_toList hf
  have h2 := List.all_eq_true.1 noGoB fn h1
  simpa using h2
theorem szOB : Tryz.prog.funcs.size ≤ OB := Nat.le_of_ble_eq_true (by kernel_rfl)
theorem noH_S : NoH orcS := noH_stage (by kernel_rfl) noH_B
theorem sgs_ok {w : World} (hW : HashW w) (hC : CurveW w) : ∀ s ∈ sgs, FnOk Tryz.prog GN w.heap.size w s.f (stO s) := by
  have h1 : CallOk Tryz.prog GN w.heap.size w orcC := orcB_ok hW hC
  have h2 : CallOk Tryz.prog GN w.heap.size w (evFQ Tryz.prog 13 100000 orcB 60) := by
    rw [evFQ_evF]
    exact evF_ok (by kernel_rfl) (Nat.le_refl _) noGo szOB noH_B (orcB_ok hW hC) 60
  intro s hs
  simp only [sgs, List.mem_cons, List.not_mem_nil, or_false] at hs
  rcases hs with rfl | rfl | rfl | rfl | rfl | rfl | rfl | rfl | rfl | rfl | rfl | rfl | rfl | rfl | rfl
  · exact stO_ok h1 _ (by kernel_rfl) sg0_run
  · exact stO_ok h1 _ (by kernel_rfl) sg1_run
  · exact stO_ok h1 _ (by kernel_rfl) sg2_run
  · exact stO_ok h2 _ (by kernel_rfl) sg3_run
  · exact stO_ok h1 _ (by kernel_rfl) sg4_run
  · exact stO_ok h1 _ (by kernel_rfl) sg5_run
  · exact stO_ok h2 _ (by kernel_rfl) sg6_run
  · exact stO_ok h2 _ (by kernel_rfl) sg7_run
  · exact stO_ok h1 _ (by kernel_rfl) sg8_run
  · exact stO_ok h1 _ (by kernel_rfl) sg9_run
  · exact stO_ok h2 _ (by kernel_rfl) sg10_run
  · exact stO_ok h2 _ (by kernel_rfl) sg11_run
  · exact stO_ok h1 _ (by kernel_rfl) sg12_run
  · exact stO_ok h1 _ (by kernel_rfl) sg13_run
  · exact stO_ok h2 _ (by kernel_rfl) sg14_run
theorem orcS_ok {w : World} (hW : HashW w) (hC : CurveW w) : OrcOk Tryz.prog GN w.heap.size w orcS := stageO_ok (sgs_ok hW hC) (orcB_ok hW hC)
theorem callS_ok {w : World} (hW : HashW w) (hC : CurveW w) : CallOk Tryz.prog GN w.heap.size w (evFQ Tryz.prog GN 100000 orcS 60) := by
  rw [evFQ_evF]
  exact evF_ok (by kernel_rfl) (Nat.le_refl _) noGo szOB noH_S (orcS_ok hW hC) 60
/-! ### the package variables -/
theorem row_blk {ν : Env} {w : World} {g : Nat} {t : TypeId} {vs : List Value} {cells : List LV} (h : Row w g t vs.toArray) (hv : VRs ν cells vs) (ha : cells.all LV.isOne = true) : BlkR ν ⟨g, cells.length⟩ ⟨t, true, false, cells⟩ w.heap[g]? := by
  have hl : vs.length = cells.length := by rw [hv.length]
  refine ⟨vs.toArray, (0, 0), h.heap, by simpa using hl, fun _ => by simpa using hl.symm, ⟨vs, [], by simp, hv⟩, ha, .inl rfl, fun _ => rfl⟩
theorem q64_vrs {ν : Env} (l : List Nat) : VRs ν (q64 l) (l.map Q) := ints_ok l
theorem q32_vrs {ν : Env} : ∀ (l : List UInt32), VRs ν (q32 l) (l.map D)
  | [] => VRs.nil_iff.2 rfl
  | q :: l => VRs.cons_iff.2 ⟨_, _, rfl, by simp [VR, plainV, D], q32_vrs l⟩
theorem q64_one : ∀ (l : List Nat), (q64 l).all LV.isOne = true
  | [] => rfl
  | q :: l => by simp only [q64, List.map_cons, List.all_cons, LV.isOne, Bool.true_and]; exact q64_one l
theorem q32_one : ∀ (l : List UInt32), (q32 l).all LV.isOne = true
  | [] => rfl
  | q :: l => by simp only [q32, List.map_cons, List.all_cons, LV.isOne, Bool.true_and]; exact q32_one l
def gB (t1 t2 t3 t4 t5 t6 t7 : TypeId) : List (Nat × Blk) := [(1, ⟨t1, true, false, q64 (nL N256)⟩), (2, ⟨t2, true, false, q64 (nL GX)⟩), (3, ⟨t3, true, false, q64 (nL GY)⟩), (6, ⟨t4, true, false, q64 (nL P256)⟩), (7, ⟨t5, true, false, q64 (nL B256)⟩), (8, ⟨t6, true, false, q32 startS⟩), (10, ⟨t7, true, false, q32 roundsS⟩)]
def gSz : List (Nat × Blk) → Nat → Nat
  | [], _ => 0
  | (j, k) :: l, i => if i = j then k.cells.length else gSz l i
def nu0 (t1 t2 t3 t4 t5 t6 t7 : TypeId) : Env := fun i => if i < GN then some ⟨i, gSz (gB t1 t2 t3 t4 t5 t6 t7) i⟩ else none
structure GRows (w : World) (t1 t2 t3 t4 t5 t6 t7 : TypeId) : Prop where
  r1 : Row w 1 t1 (AQ (nL N256))
  r2 : Row w 2 t2 (AQ (nL GX))
  r3 : Row w 3 t3 (AQ (nL GY))
  r4 : Row w 6 t4 (AQ (nL P256))
  r5 : Row w 7 t5 (AQ (nL B256))
  r6 : Row w 8 t6 (AD startS)
  r7 : Row w 10 t7 (AD roundsS)
theorem grows {w : World} (hW : HashW w) (hC : CurveW w) : ∃ t1 t2 t3 t4 t5 t6 t7, GRows w t1 t2 t3 t4 t5 t6 t7 := by
  obtain ⟨t1, h1⟩ := hC.order
  obtain ⟨t2, h2⟩ := hC.baseX
  obtain ⟨t3, h3⟩ := hC.baseY
  obtain ⟨t4, h4⟩ := hC.prime
  obtain ⟨t5, h5⟩ := hC.coeff
  obtain ⟨t6, h6⟩ := hW.starts
  obtain ⟨t7, h7⟩ := hW.rnds
  exact ⟨t1, t2, t3, t4, t5, t6, t7, h1, h2, h3, h4, h5, h6, h7⟩
section
variable {w : World} {t1 t2 t3 t4 t5 t6 t7 : TypeId}
theorem gh_mem {i : Nat} {k : Blk} (h : (GH t1 t2 t3 t4 t5 t6 t7).get i = some k) : (i, k) ∈ gB t1 t2 t3 t4 t5 t6 t7 := hpOf_get h
theorem gh_low {i : Nat} {k : Blk} (h : (GH t1 t2 t3 t4 t5 t6 t7).get i = some k) : i < GN := by
  have hm := gh_mem h
  simp only [gB, List.mem_cons, List.not_mem_nil, or_false, Prod.mk.injEq] at hm
  rcases hm with ⟨rfl, _⟩ | ⟨rfl, _⟩ | ⟨rfl, _⟩ | ⟨rfl, _⟩ | ⟨rfl, _⟩ | ⟨rfl, _⟩ | ⟨rfl, _⟩ <;> decide
theorem nu0_some {i : Nat} {l : Loc} (h : nu0 t1 t2 t3 t4 t5 t6 t7 i = some l) : l.addr = i := by
  unfold nu0 at h
  split at h
  · cases h; rfl
  · cases h
theorem gh_hrf (h : GRows w t1 t2 t3 t4 t5 t6 t7) : HRF (nu0 t1 t2 t3 t4 t5 t6 t7) (GH t1 t2 t3 t4 t5 t6 t7) none w := by
  intro i k _ hk
  have hm := gh_mem hk
  simp only [gB, List.mem_cons, List.not_mem_nil, or_false, Prod.mk.injEq] at hm
  rcases hm with ⟨rfl, rfl⟩ | ⟨rfl, rfl⟩ | ⟨rfl, rfl⟩ | ⟨rfl, rfl⟩ | ⟨rfl, rfl⟩ | ⟨rfl, rfl⟩ | ⟨rfl, rfl⟩
  · exact ⟨_, rfl, row_blk h.r1 (q64_vrs _) (q64_one _)⟩
  · exact ⟨_, rfl, row_blk h.r2 (q64_vrs _) (q64_one _)⟩
  · exact ⟨_, rfl, row_blk h.r3 (q64_vrs _) (q64_one _)⟩
  · exact ⟨_, rfl, row_blk h.r4 (q64_vrs _) (q64_one _)⟩
  · exact ⟨_, rfl, row_blk h.r5 (q64_vrs _) (q64_one _)⟩
  · exact ⟨_, rfl, row_blk h.r6 (q32_vrs _) (q32_one _)⟩
  · exact ⟨_, rfl, row_blk h.r7 (q32_vrs _) (q32_one _)⟩
theorem closed_call (hW : HashW w) (hC : CurveW w) (hg : GRows w t1 t2 t3 t4 t5 t6 t7) {f : FuncId} (hob : Nat.ble OB f = false) {args : List LV} {vs : List Value} {out : Out} (h : evFQ Tryz.prog GN 100000 orcS 60 f args (GH t1 t2 t3 t4 t5 t6 t7) GN = some out) (hnx : GN ≤ out.nx)
    (hvs : VRs (nu0 t1 t2 t3 t4 t5 t6 t7) args vs) : Calls Tryz.prog f vs.toArray w (fun e w' => ∃ v' ν', e = .returned v' ∧ OpPost GN w.heap.size w (nu0 t1 t2 t3 t4 t5 t6 t7) ν' (GH t1 t2 t3 t4 t5 t6 t7) GN out w w' v') := by
  obtain ⟨_, _, h3⟩ := callS_ok hW hC f args _ _ out hob h hnx
  refine h3 _ vs w (fun i hi _ => ?_) hvs (gh_hrf hg) (fun i k l _ hi hk _ => ?_) (fun i j ki kj li lj _ _ h4 h5 h6 => ?_) (fun i k hk => gh_low hk) (fun g hg' => ?_) (Below.refl _ w)
  · unfold nu0; rw [if_neg (by omega)]
  · have := gh_low hk; omega
  · rw [← nu0_some h4, ← nu0_some h5, h6]
  · have hs : Tryz.prog.globals.size = GN := by kernel_rfl
    rw [hs] at hg'
    exact ⟨_, by unfold nu0; rw [if_pos hg']⟩
end
theorem peers_any (w : World) (hW : HashW w) (hC : CurveW w) : Calls Tryz.prog 12 #[] w fun e w' => e = .returned (.bool true) ∧ Below w.heap.size w w' := by
  obtain ⟨t1, t2, t3, t4, t5, t6, t7, hg⟩ := grows hW hC
  have hr := peers_run t1 t2 t3 t4 t5 t6 t7
  cases ho : evFQ Tryz.prog GN 100000 orcS 60 12 [] (GH t1 t2 t3 t4 t5 t6 t7) GN with
  | none => rw [ho] at hr; cases hr
  | some out =>
    rw [ho] at hr
    have hv : out.v = .v (.bool true) ∧ GN ≤ out.nx := by
      unfold isTrueO at hr
      split at hr
      · rename_i e; cases e; exact ⟨rfl, Nat.le_of_ble_eq_true hr⟩
      · cases hr
    refine (closed_call hW hC hg (by kernel_rfl) ho hv.2 (VRs.nil_iff.2 rfl)).mono ?_
    rintro e w' ⟨v', ν', rfl, hp⟩
    have h1 := hp.val
    rw [hv.1] at h1
    simp only [VR] at h1
    rw [h1.1]
    exact ⟨rfl, hp.below⟩
end Go.Proofs.YtjpfhhndjpdmoaaGreatDoor

namespace Go.Proofs.YtjpfhhndjpdmoaaGreatDoor
open Go.RowKit
set_option linter.unusedVariables false
def caseVs (nm : ByteArray) (sz wt : Int) : List Value := List.replicate 64 (.int .u8 0) ++ [.bool false, .string nm, .int .i64 sz, .int .i64 wt]
def cfgTl : List LV := [(.slice 4549 0 1 1), (.v (.int .u8 3)), (.v (.int .u8 0)), (.v (.int .u8 0)), (.v (.int .u8 0)), (.v (.int .u8 0)), (.v (.int .u8 0)), (.v (.int .u8 0)), (.v (.int .u8 0)), (.v (.int .u8 0)), (.v (.int .u8 0)), (.v (.int .u8 0)), (.v (.int .u8 0)), (.v (.int .u8 0)), (.v (.int .u8 0)), (.v (.int .u8 0)), (.v (.int .u8 0)), (.v (.int .u8 0)), (.v (.int .u8 0)), (.v (.int .u8 0)), (.v (.int .u8 0)), (.v (.int .u8 0)), (.v (.int .u8 0)), (.v (.int .u8 0)), (.v (.int .u8 0)), (.v (.int .u8 0)), (.v (.int .u8 0)), (.v (.int .u8 0)), (.v (.int .u8 0)), (.v (.int .u8 0)), (.v (.int .u8 0)), (.v (.int .u8 0)), (.v (.int .u8 3)), (.slice 4550 0 1 1), (.v (.int .i64 5)), (.v (.int .u8 0)), (.v (.int .u8 0)), (.v (.int .u8 0)), (.v (.int .u8 0)), (.v (.int .u8 0)), (.v (.int .u8 0)), (.v (.int .u8 0)), (.v (.int .u8 0)), (.v (.int .u8 0)), (.v (.int .u8 0)), (.v (.int .u8 0)), (.v (.int .u8 0)), (.v (.int .u8 0)), (.v (.int .u8 0)), (.v (.int .u8 0)), (.v (.int .u8 0)), (.v (.int .u8 0)), (.v (.int .u8 0)), (.v (.int .u8 0)), (.v (.int .u8 0)), (.v (.int .u8 0)), (.v (.int .u8 0)), (.v (.int .u8 0)), (.v (.int .u8 0)), (.v (.int .u8 0)), (.v (.int .u8 0)), (.v (.int .u8 0)), (.v (.int .u8 0)), (.v (.int .u8 0)), (.v (.int .u8 0)), (.v (.int .u8 0)), (.v (.int .u8 0)), (.v (.bool false)), (.v (.slice none 0 0)), (.v (.int .u8 0)), (.v (.int .u8 0)), (.v (.int .u8 0)), (.v (.int .u8 0)), (.v (.int .u8 0)), (.v (.int .u8 0)), (.v (.int .u8 0)), (.v (.int .u8 0)), (.v (.int .u8 0)), (.v (.int .u8 0)), (.v (.int .u8 0)), (.v (.int .u8 0)), (.v (.int .u8 0)), (.v (.int .u8 0)), (.v (.int .u8 0)), (.v (.int .u8 0)), (.v (.int .u8 0)), (.v (.int .u8 0)), (.v (.int .u8 0)), (.v (.int .u8 0)), (.v (.int .u8 0)), (.v (.int .u8 0)), (.v (.int .u8 0)), (.v (.int .u8 0)), (.v (.int .u8 0)), (.v (.int .u8 0)), (.v (.int .u8 0)), (.v (.int .u8 0)), (.v (.int .u8 0)), (.v (.int .u8 0)), (.v (.int .u8 0)), (.v (.int .u8 0)), (.v (.int .i64 0)), (.v (.int .i64 0)), (.v (.string ⟨#[]⟩)), (.v (.string ⟨#[]⟩)), (.v (.int .i64 0)), (.v (.int .i64 0)), (.v (.slice none 0 0)), (.v (.bool false)), (.v (.int .i64 0)), (.v (.int .i64 0)), (.v (.int .u8 0)), (.v (.int .u8 0)), (.v (.int .u8 0)), (.v (.int .u8 0)), (.v (.int .u8 0)), (.v (.int .u8 0)), (.v (.int .u8 0)), (.v (.int .u8 0)), (.v (.int .u8 0)), (.v (.int .u8 0)), (.v (.int .u8 0)), (.v (.int .u8 0)), (.v (.int .u8 0)), (.v (.int .u8 0)), (.v (.int .u8 0)), (.v (.int .u8 0)), (.v (.int .u8 0)), (.v (.int .u8 0)), (.v (.int .u8 0)), (.v (.int .u8 0)), (.v (.int .u8 0)), (.v (.int .u8 0)), (.v (.int .u8 0)), (.v (.int .u8 0)), (.v (.int .u8 0)), (.v (.int .u8 0)), (.v (.int .u8 0)), (.v (.int .u8 0)), (.v (.int .u8 0)), (.v (.int .u8 0)), (.v (.int .u8 0)), (.v (.int .u8 0))]
def cfgB : List LV := [(.slice 4551 0 1 1), (.v (.int .u8 3)), (.v (.int .u8 0)), (.v (.int .u8 0)), (.v (.int .u8 0)), (.v (.int .u8 0)), (.v (.int .u8 0)), (.v (.int .u8 0)), (.v (.int .u8 0)), (.v (.int .u8 0)), (.v (.int .u8 0)), (.v (.int .u8 0)), (.v (.int .u8 0)), (.v (.int .u8 0)), (.v (.int .u8 0)), (.v (.int .u8 0)), (.v (.int .u8 0)), (.v (.int .u8 0)), (.v (.int .u8 0)), (.v (.int .u8 0)), (.v (.int .u8 0)), (.v (.int .u8 0)), (.v (.int .u8 0)), (.v (.int .u8 0)), (.v (.int .u8 0)), (.v (.int .u8 0)), (.v (.int .u8 0)), (.v (.int .u8 0)), (.v (.int .u8 0)), (.v (.int .u8 0)), (.v (.int .u8 0)), (.v (.int .u8 0)), (.v (.int .u8 2)), (.slice 4552 0 1 1), (.v (.int .i64 5)), (.v (.int .u8 0)), (.v (.int .u8 0)), (.v (.int .u8 0)), (.v (.int .u8 0)), (.v (.int .u8 0)), (.v (.int .u8 0)), (.v (.int .u8 0)), (.v (.int .u8 0)), (.v (.int .u8 0)), (.v (.int .u8 0)), (.v (.int .u8 0)), (.v (.int .u8 0)), (.v (.int .u8 0)), (.v (.int .u8 0)), (.v (.int .u8 0)), (.v (.int .u8 0)), (.v (.int .u8 0)), (.v (.int .u8 0)), (.v (.int .u8 0)), (.v (.int .u8 0)), (.v (.int .u8 0)), (.v (.int .u8 0)), (.v (.int .u8 0)), (.v (.int .u8 0)), (.v (.int .u8 0)), (.v (.int .u8 0)), (.v (.int .u8 0)), (.v (.int .u8 0)), (.v (.int .u8 0)), (.v (.int .u8 0)), (.v (.int .u8 0)), (.v (.int .u8 0)), (.v (.bool false)), (.v (.slice none 0 0)), (.v (.int .u8 0)), (.v (.int .u8 0)), (.v (.int .u8 0)), (.v (.int .u8 0)), (.v (.int .u8 0)), (.v (.int .u8 0)), (.v (.int .u8 0)), (.v (.int .u8 0)), (.v (.int .u8 0)), (.v (.int .u8 0)), (.v (.int .u8 0)), (.v (.int .u8 0)), (.v (.int .u8 0)), (.v (.int .u8 0)), (.v (.int .u8 0)), (.v (.int .u8 0)), (.v (.int .u8 0)), (.v (.int .u8 0)), (.v (.int .u8 0)), (.v (.int .u8 0)), (.v (.int .u8 0)), (.v (.int .u8 0)), (.v (.int .u8 0)), (.v (.int .u8 0)), (.v (.int .u8 0)), (.v (.int .u8 0)), (.v (.int .u8 0)), (.v (.int .u8 0)), (.v (.int .u8 0)), (.v (.int .u8 0)), (.v (.int .u8 0)), (.v (.int .u8 0)), (.v (.int .i64 0)), (.v (.int .i64 0)), (.v (.string ⟨#[]⟩)), (.v (.string ⟨#[]⟩)), (.v (.int .i64 0)), (.v (.int .i64 0)), (.v (.slice none 0 0)), (.v (.bool false)), (.v (.int .i64 0)), (.v (.int .i64 0)), (.v (.int .u8 5)), (.v (.int .u8 0)), (.v (.int .u8 0)), (.v (.int .u8 0)), (.v (.int .u8 0)), (.v (.int .u8 0)), (.v (.int .u8 0)), (.v (.int .u8 0)), (.v (.int .u8 0)), (.v (.int .u8 0)), (.v (.int .u8 0)), (.v (.int .u8 0)), (.v (.int .u8 0)), (.v (.int .u8 0)), (.v (.int .u8 0)), (.v (.int .u8 0)), (.v (.int .u8 0)), (.v (.int .u8 0)), (.v (.int .u8 0)), (.v (.int .u8 0)), (.v (.int .u8 0)), (.v (.int .u8 0)), (.v (.int .u8 0)), (.v (.int .u8 0)), (.v (.int .u8 0)), (.v (.int .u8 0)), (.v (.int .u8 0)), (.v (.int .u8 0)), (.v (.int .u8 0)), (.v (.int .u8 0)), (.v (.int .u8 0)), (.v (.int .u8 0))]
def cfgV (nm : ByteArray) (sz wt : Int) : LV := .tup [.agg (.v (.string nm) :: (cfgTl ++ [.v (.int .i64 sz), .v (.int .i64 wt)])), .agg cfgB, .v (.bool true)]
def cfgD : Dl := [(4552, some ⟨22, true, false, [(.buf 1628 0 293 1)]⟩), (3088, some ⟨5, false, false, (q8 [48, 130, 1, 29, 48, 129, 197, 160, 3, 2, 1, 2, 2, 1, 2, 48, 10, 6, 8, 42, 134, 72, 206, 61, 4, 3, 2, 48, 13, 48, 11, 6, 3, 85, 4, 3, 12, 4, 114, 111, 111, 116, 48, 7, 2, 1, 0, 2, 2, 3, 232, 48, 15, 48, 13, 6, 3, 85, 4, 3, 12, 6, 115, 101, 114, 118, 101, 114, 48, 89, 48, 19, 6, 7, 42, 134, 72, 206, 61, 2, 1, 6, 8, 42, 134, 72, 206, 61, 3, 1, 7, 3, 66, 0, 4, 159, 176, 243, 232, 3, 133, 114, 170, 205, 88, 177, 60, 228, 219, 248, 241, 146, 30, 63, 184, 32, 221, 197, 79, 18, 193, 110, 130, 137, 152, 224, 2, 161, 196, 92, 237, 119, 195, 217, 74, 220, 219, 113, 119, 88, 114, 103, 131, 213, 114, 48, 139, 82, 23, 186, 234, 112, 133, 69, 215, 1, 96, 118, 95, 163, 43, 48, 41, 48, 12, 6, 3, 85, 29, 19, 1, 1, 255, 4, 2, 48, 0, 48, 13, 6, 3, 85, 29, 15, 1, 1, 255, 4, 3, 2, 1, 1, 48, 10, 6, 3, 85, 29, 37, 4, 3, 2, 1, 1, 48, 10, 6, 8, 42, 134, 72, 206, 61, 4, 3, 2, 3, 71, 0, 48, 68, 2, 32, 2, 34, 66, 41, 235, 228, 92, 206, 230, 200, 151, 34, 60, 21, 101, 206, 145, 1, 66, 245, 200, 224, 43, 39, 93, 251, 82, 150, 178, 12, 120, 170, 2, 32, 117, 119, 67, 63, 35, 179, 44, 227, 0, 160, 55, 29, 86, 202, 121, 61, 50, 160, 53, 184, 20, 10, 160, 82, 66, 7, 85, 0, 99, 149, 77, 62])⟩), (4551, some ⟨22, true, false, [(.buf 3088 0 289 1)]⟩), (1628, some ⟨5, false, false, (q8 [48, 130, 1, 33, 48, 129, 201, 160, 3, 2, 1, 2, 2, 1, 1, 48, 10, 6, 8, 42, 134, 72, 206, 61, 4, 3, 2, 48, 13, 48, 11, 6, 3, 85, 4, 3, 12, 4, 114, 111, 111, 116, 48, 7, 2, 1, 0, 2, 2, 3, 232, 48, 13, 48, 11, 6, 3, 85, 4, 3, 12, 4, 114, 111, 111, 116, 48, 89, 48, 19, 6, 7, 42, 134, 72, 206, 61, 2, 1, 6, 8, 42, 134, 72, 206, 61, 3, 1, 7, 3, 66, 0, 4, 153, 95, 123, 98, 33, 154, 66, 70, 244, 115, 118, 65, 26, 205, 177, 105, 5, 93, 141, 222, 239, 84, 122, 208, 225, 12, 44, 85, 188, 77, 193, 111, 188, 193, 162, 112, 89, 74, 172, 83, 188, 101, 97, 201, 95, 58, 170, 119, 18, 71, 62, 143, 159, 77, 83, 173, 225, 7, 124, 85, 137, 115, 128, 207, 163, 49, 48, 47, 48, 18, 6, 3, 85, 29, 19, 1, 1, 255, 4, 8, 48, 6, 1, 1, 255, 2, 1, 0, 48, 13, 6, 3, 85, 29, 15, 1, 1, 255, 4, 3, 2, 1, 3, 48, 10, 6, 3, 85, 29, 37, 4, 3, 2, 1, 0, 48, 10, 6, 8, 42, 134, 72, 206, 61, 4, 3, 2, 3, 71, 0, 48, 68, 2, 32, 73, 126, 189, 214, 73, 0, 24, 180, 105, 76, 79, 117, 199, 4, 42, 163, 36, 158, 134, 107, 209, 115, 7, 23, 154, 161, 77, 109, 218, 250, 142, 77, 2, 32, 5, 102, 29, 61, 220, 168, 13, 196, 62, 169, 37, 98, 146, 163, 244, 234, 25, 68, 159, 188, 31, 67, 233, 198, 239, 15, 128, 45, 229, 26, 77, 37])⟩), (4550, some ⟨22, true, false, [(.buf 1628 0 293 1)]⟩), (4548, some ⟨5, false, false, (q8 [48, 130, 1, 29, 48, 129, 197, 160, 3, 2, 1, 2, 2, 1, 3, 48, 10, 6, 8, 42, 134, 72, 206, 61, 4, 3, 2, 48, 13, 48, 11, 6, 3, 85, 4, 3, 12, 4, 114, 111, 111, 116, 48, 7, 2, 1, 0, 2, 2, 3, 232, 48, 15, 48, 13, 6, 3, 85, 4, 3, 12, 6, 99, 108, 105, 101, 110, 116, 48, 89, 48, 19, 6, 7, 42, 134, 72, 206, 61, 2, 1, 6, 8, 42, 134, 72, 206, 61, 3, 1, 7, 3, 66, 0, 4, 209, 46, 211, 16, 55, 59, 18, 74, 208, 42, 35, 62, 143, 215, 225, 45, 31, 169, 165, 160, 17, 73, 87, 91, 63, 187, 26, 189, 16, 208, 44, 23, 211, 197, 1, 216, 233, 202, 145, 210, 176, 54, 219, 188, 205, 234, 144, 21, 120, 180, 24, 182, 122, 190, 85, 22, 65, 127, 138, 163, 231, 233, 60, 140, 163, 43, 48, 41, 48, 12, 6, 3, 85, 29, 19, 1, 1, 255, 4, 2, 48, 0, 48, 13, 6, 3, 85, 29, 15, 1, 1, 255, 4, 3, 2, 1, 1, 48, 10, 6, 3, 85, 29, 37, 4, 3, 2, 1, 2, 48, 10, 6, 8, 42, 134, 72, 206, 61, 4, 3, 2, 3, 71, 0, 48, 68, 2, 32, 27, 72, 221, 59, 124, 122, 62, 181, 67, 95, 240, 80, 3, 4, 190, 79, 141, 58, 87, 79, 125, 164, 96, 216, 32, 187, 13, 172, 22, 180, 101, 67, 2, 32, 114, 163, 207, 240, 172, 169, 107, 97, 57, 196, 24, 100, 130, 113, 111, 156, 236, 144, 172, 235, 115, 189, 119, 193, 11, 95, 245, 236, 134, 166, 192, 121])⟩), (4549, some ⟨22, true, false, [(.buf 4548 0 289 1)]⟩)]
end Go.Proofs.YtjpfhhndjpdmoaaGreatDoor
