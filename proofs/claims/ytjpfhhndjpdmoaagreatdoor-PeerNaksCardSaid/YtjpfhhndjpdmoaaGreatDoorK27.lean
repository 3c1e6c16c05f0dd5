/- Part of the proof: Right, NewSpec. No conditions of its own. -/
import Derived.BigQuiet
import Derived.Deep.Quiet
import Derived.Deep.QuietTactic
import Derived.Laws.BitsAllLaws
import Derived.Lib.Hide
import Derived.StillTail
import Derived.Test.YtjpfhhndjpdmoaaGreatDoorProg
import Derived.WalkKit
import Derived.Test.YtjpfhhndjpdmoaaGreatDoorK13
import Derived.Test.YtjpfhhndjpdmoaaGreatDoorK26
import Derived.Test.YtjpfhhndjpdmoaaGreatDoorK12
namespace Go.Proofs.YtjpfhhndjpdmoaaGreatDoor
open Go.RowKit
theorem d_lt (x : UInt32) : 0 ≤ (x.toNat : Int) ∧ (x.toNat : Int) < 4294967296 := by have := x.toNat_lt; omega
set_option maxRecDepth 100000 in
theorem right_7 (x : UInt32) (w : World) : Calls Tryz.prog 215 #[D x, .int .i64 7] w fun e w' => e = .returned (D (rr 7 x)) ∧ w' = w := by
  obtain ⟨h1, h2⟩ := d_lt x
  have hb : bits .and .u64 (IntKind.u64.wrap (-7)) 31 = 25 := by kernel_rfl
  go_enter Tryz.func215, Tryz.ntmps215
  go_wp2
  go_ret
  refine ⟨?_, rfl⟩
  rw [← rr_bits 7 x 33554432 128 rfl rfl]
  rfl
set_option maxRecDepth 100000 in
theorem right_18 (x : UInt32) (w : World) : Calls Tryz.prog 215 #[D x, .int .i64 18] w fun e w' => e = .returned (D (rr 18 x)) ∧ w' = w := by
  obtain ⟨h1, h2⟩ := d_lt x
  have hb : bits .and .u64 (IntKind.u64.wrap (-18)) 31 = 14 := by kernel_rfl
  go_enter Tryz.func215, Tryz.ntmps215
  go_wp2
  go_ret
  refine ⟨?_, rfl⟩
  rw [← rr_bits 18 x 16384 262144 rfl rfl]
  rfl
set_option maxRecDepth 100000 in
theorem right_17 (x : UInt32) (w : World) : Calls Tryz.prog 215 #[D x, .int .i64 17] w fun e w' => e = .returned (D (rr 17 x)) ∧ w' = w := by
  obtain ⟨h1, h2⟩ := d_lt x
  have hb : bits .and .u64 (IntKind.u64.wrap (-17)) 31 = 15 := by kernel_rfl
  go_enter Tryz.func215, Tryz.ntmps215
  go_wp2
  go_ret
  refine ⟨?_, rfl⟩
  rw [← rr_bits 17 x 32768 131072 rfl rfl]
  rfl
set_option maxRecDepth 100000 in
theorem right_19 (x : UInt32) (w : World) : Calls Tryz.prog 215 #[D x, .int .i64 19] w fun e w' => e = .returned (D (rr 19 x)) ∧ w' = w := by
  obtain ⟨h1, h2⟩ := d_lt x
  have hb : bits .and .u64 (IntKind.u64.wrap (-19)) 31 = 13 := by kernel_rfl
  go_enter Tryz.func215, Tryz.ntmps215
  go_wp2
  go_ret
  refine ⟨?_, rfl⟩
  rw [← rr_bits 19 x 8192 524288 rfl rfl]
  rfl
set_option maxRecDepth 100000 in
theorem right_6 (x : UInt32) (w : World) : Calls Tryz.prog 215 #[D x, .int .i64 6] w fun e w' => e = .returned (D (rr 6 x)) ∧ w' = w := by
  obtain ⟨h1, h2⟩ := d_lt x
  have hb : bits .and .u64 (IntKind.u64.wrap (-6)) 31 = 26 := by kernel_rfl
  go_enter Tryz.func215, Tryz.ntmps215
  go_wp2
  go_ret
  refine ⟨?_, rfl⟩
  rw [← rr_bits 6 x 67108864 64 rfl rfl]
  rfl
set_option maxRecDepth 100000 in
theorem right_11 (x : UInt32) (w : World) : Calls Tryz.prog 215 #[D x, .int .i64 11] w fun e w' => e = .returned (D (rr 11 x)) ∧ w' = w := by
  obtain ⟨h1, h2⟩ := d_lt x
  have hb : bits .and .u64 (IntKind.u64.wrap (-11)) 31 = 21 := by kernel_rfl
  go_enter Tryz.func215, Tryz.ntmps215
  go_wp2
  go_ret
  refine ⟨?_, rfl⟩
  rw [← rr_bits 11 x 2097152 2048 rfl rfl]
  rfl
set_option maxRecDepth 100000 in
theorem right_25 (x : UInt32) (w : World) : Calls Tryz.prog 215 #[D x, .int .i64 25] w fun e w' => e = .returned (D (rr 25 x)) ∧ w' = w := by
  obtain ⟨h1, h2⟩ := d_lt x
  have hb : bits .and .u64 (IntKind.u64.wrap (-25)) 31 = 7 := by kernel_rfl
  go_enter Tryz.func215, Tryz.ntmps215
  go_wp2
  go_ret
  refine ⟨?_, rfl⟩
  rw [← rr_bits 25 x 128 33554432 rfl rfl]
  rfl
set_option maxRecDepth 100000 in
theorem right_2 (x : UInt32) (w : World) : Calls Tryz.prog 215 #[D x, .int .i64 2] w fun e w' => e = .returned (D (rr 2 x)) ∧ w' = w := by
  obtain ⟨h1, h2⟩ := d_lt x
  have hb : bits .and .u64 (IntKind.u64.wrap (-2)) 31 = 30 := by kernel_rfl
  go_enter Tryz.func215, Tryz.ntmps215
  go_wp2
  go_ret
  refine ⟨?_, rfl⟩
  rw [← rr_bits 2 x 1073741824 4 rfl rfl]
  rfl
set_option maxRecDepth 100000 in
theorem right_13 (x : UInt32) (w : World) : Calls Tryz.prog 215 #[D x, .int .i64 13] w fun e w' => e = .returned (D (rr 13 x)) ∧ w' = w := by
  obtain ⟨h1, h2⟩ := d_lt x
  have hb : bits .and .u64 (IntKind.u64.wrap (-13)) 31 = 19 := by kernel_rfl
  go_enter Tryz.func215, Tryz.ntmps215
  go_wp2
  go_ret
  refine ⟨?_, rfl⟩
  rw [← rr_bits 13 x 524288 8192 rfl rfl]
  rfl
set_option maxRecDepth 100000 in
theorem right_22 (x : UInt32) (w : World) : Calls Tryz.prog 215 #[D x, .int .i64 22] w fun e w' => e = .returned (D (rr 22 x)) ∧ w' = w := by
  obtain ⟨h1, h2⟩ := d_lt x
  have hb : bits .and .u64 (IntKind.u64.wrap (-22)) 31 = 10 := by kernel_rfl
  go_enter Tryz.func215, Tryz.ntmps215
  go_wp2
  go_ret
  refine ⟨?_, rfl⟩
  rw [← rr_bits 22 x 1024 4194304 rfl rfl]
  rfl
end Go.Proofs.YtjpfhhndjpdmoaaGreatDoor

namespace Go.Proofs.YtjpfhhndjpdmoaaGreatDoor
open Go.RowKit

def dbl (x : UInt8) : UInt8 := if x &&& 0x80 ≠ 0 then (x <<< 1) ^^^ 0x1B else x <<< 1
def tmN : Nat → UInt8 → UInt8 → UInt8 → UInt8
  | 0, _, _, p => p
  | f + 1, a, n, p => if n = 0 then p else tmN f (dbl a) (n >>> 1) (if n &&& 1 = 1 then xr p a else p)
def tm (a n : UInt8) : UInt8 := tmN 8 a n 0
def mixB (b r : List UInt8) (i : Nat) : Nat → UInt8
  | 0 => 0
  | j + 1 => xr (mixB b r i j) (tm (gb b (i / 4 * 4 + (i + j) % 4)) (gb r j))
def mixL (b r : List UInt8) (k j : Nat) : List UInt8 := tab 16 fun i => if i < k then mixB b r i 4 else if i = k then mixB b r k j else 0
def addF (a b : List UInt8) (k : Nat) : List UInt8 := tab 16 fun i => if i < k then xr (gb a i) (gb b i) else gb a i
/-! ### one byte's operations as the walk spells them -/
def dblOk (n : Nat) : Bool :=
  let x := UInt8.ofNat n
  if bits .and .u8 (x.toNat : Int) 128 != 0 then bits .xor .u8 ((x.toNat : Int) * 2 % 256) 27 == ((dbl x).toNat : Int) else ((x.toNat : Int) * 2 % 256) == ((dbl x).toNat : Int)
def halfOk (n : Nat) : Bool :=
  let x := UInt8.ofNat n
  (bits .and .u8 (x.toNat : Int) 1 == ((x &&& 1).toNat : Int)) && ((x.toNat : Int) / 2 == ((x >>> 1).toNat : Int)) && (bits .and .u8 (x.toNat : Int) 1 == 1) == decide (x &&& 1 = 1)
end Go.Proofs.YtjpfhhndjpdmoaaGreatDoor

/- What block's ready makes: the two boxes, by the powers of three. -/
namespace Go.Proofs.YtjpfhhndjpdmoaaGreatDoor
open Go.RowKit

def orr (a b : UInt8) : UInt8 := a ||| b
def shl (a n : UInt8) : UInt8 := a <<< n
def shr (a n : UInt8) : UInt8 := a >>> n
def q3 (q : UInt8) : UInt8 := xr (xr (xr q (shl q 1)) (shl (xr q (shl q 1)) 2)) (shl (xr (xr q (shl q 1)) (shl (xr q (shl q 1)) 2)) 4)
def qn (q : UInt8) : UInt8 := if q3 q &&& 0x80 ≠ 0 then xr (q3 q) 9 else q3 q
def affine (q : UInt8) : UInt8 :=
  xr (xr (xr (xr (xr q (orr (shl q 1) (shr q 7))) (orr (shl q 2) (shr q 6))) (orr (shl q 3) (shr q 5))) (orr (shl q 4) (shr q 4))) 0x63
structure Rd where
  p : UInt8
  q : UInt8
  T : List UInt8
  K : List UInt8
def rd : Nat → Rd
  | 0 => ⟨1, 1, List.replicate 256 0, List.replicate 256 0⟩
  | k + 1 =>
    let r := rd k
    let p := xr r.p (dbl r.p)
    let q := qn r.q
    let x := affine q
    ⟨p, q, r.T.set p.toNat x, r.K.set x.toNat p⟩
def pk : Nat → UInt8
  | 0 => 1
  | k + 1 => xr (pk k) (dbl (pk k))
def pkOk : Nat → UInt8 → Bool
  | 0, p => p == 1
  | k + 1, p => p != 1 && pkOk k (xr p (dbl p))
def boxT : List UInt8 := [99, 124, 119, 123, 242, 107, 111, 197, 48, 1, 103, 43, 254, 215, 171, 118, 202, 130, 201, 125, 250, 89, 71, 240, 173, 212, 162, 175, 156, 164, 114, 192, 183, 253, 147, 38, 54, 63, 247, 204, 52, 165, 229, 241, 113, 216, 49, 21, 4, 199, 35, 195, 24, 150, 5, 154, 7, 18, 128, 226, 235, 39, 178, 117, 9, 131, 44, 26, 27, 110, 90, 160, 82, 59, 214, 179, 41, 227, 47, 132, 83, 209, 0, 237, 32, 252, 177, 91, 106, 203, 190, 57, 74, 76, 88, 207, 208, 239, 170, 251, 67, 77, 51, 133, 69, 249, 2, 127, 80, 60, 159, 168, 81, 163, 64, 143, 146, 157, 56, 245, 188, 182, 218, 33, 16, 255, 243, 210, 205, 12, 19, 236, 95, 151, 68, 23, 196, 167, 126, 61, 100, 93, 25, 115, 96, 129, 79, 220, 34, 42, 144, 136, 70, 238, 184, 20, 222, 94, 11, 219, 224, 50, 58, 10, 73, 6, 36, 92, 194, 211, 172, 98, 145, 149, 228, 121, 231, 200, 55, 109, 141, 213, 78, 169, 108, 86, 244, 234, 101, 122, 174, 8, 186, 120, 37, 46, 28, 166, 180, 198, 232, 221, 116, 31, 75, 189, 139, 138, 112, 62, 181, 102, 72, 3, 246, 14, 97, 53, 87, 185, 134, 193, 29, 158, 225, 248, 152, 17, 105, 217, 142, 148, 155, 30, 135, 233, 206, 85, 40, 223, 140, 161, 137, 13, 191, 230, 66, 104, 65, 153, 45, 15, 176, 84, 187, 22]
def boxK : List UInt8 := [82, 9, 106, 213, 48, 54, 165, 56, 191, 64, 163, 158, 129, 243, 215, 251, 124, 227, 57, 130, 155, 47, 255, 135, 52, 142, 67, 68, 196, 222, 233, 203, 84, 123, 148, 50, 166, 194, 35, 61, 238, 76, 149, 11, 66, 250, 195, 78, 8, 46, 161, 102, 40, 217, 36, 178, 118, 91, 162, 73, 109, 139, 209, 37, 114, 248, 246, 100, 134, 104, 152, 22, 212, 164, 92, 204, 93, 101, 182, 146, 108, 112, 72, 80, 253, 237, 185, 218, 94, 21, 70, 87, 167, 141, 157, 132, 144, 216, 171, 0, 140, 188, 211, 10, 247, 228, 88, 5, 184, 179, 69, 6, 208, 44, 30, 143, 202, 63, 15, 2, 193, 175, 189, 3, 1, 19, 138, 107, 58, 145, 17, 65, 79, 103, 220, 234, 151, 242, 207, 206, 240, 180, 230, 115, 150, 172, 116, 34, 231, 173, 53, 133, 226, 249, 55, 232, 28, 117, 223, 110, 71, 241, 26, 113, 29, 41, 197, 137, 111, 183, 98, 14, 170, 24, 190, 27, 252, 86, 62, 75, 198, 210, 121, 32, 154, 219, 192, 254, 120, 205, 90, 244, 31, 221, 168, 51, 136, 7, 199, 49, 177, 18, 16, 89, 39, 128, 236, 95, 96, 81, 127, 169, 25, 181, 74, 13, 45, 229, 122, 159, 147, 201, 156, 239, 160, 224, 59, 77, 174, 42, 245, 176, 200, 235, 187, 60, 131, 83, 153, 97, 23, 43, 4, 126, 186, 119, 214, 38, 225, 105, 20, 99, 85, 33, 12, 125]
/-! ### spellings -/
def spellOk (n : Nat) : Bool :=
  let x := UInt8.ofNat n
  ((x.toNat : Int) * 2 % 256 == ((shl x 1).toNat : Int)) && ((x.toNat : Int) * 4 % 256 == ((shl x 2).toNat : Int)) && ((x.toNat : Int) * 8 % 256 == ((shl x 3).toNat : Int)) && ((x.toNat : Int) * 16 % 256 == ((shl x 4).toNat : Int)) &&
  ((x.toNat : Int) / 16 == ((shr x 4).toNat : Int)) && ((x.toNat : Int) / 32 == ((shr x 5).toNat : Int)) && ((x.toNat : Int) / 64 == ((shr x 6).toNat : Int)) && ((x.toNat : Int) / 128 == ((shr x 7).toNat : Int)) &&
  (bits .and .u8 (x.toNat : Int) 128 != 0) == decide (x &&& 0x80 ≠ 0)
section
variable (x y : UInt8)
end
/-! ### a Key's cells: the two boxes, and the slice of the rounds' keys -/
def keyC (T K : List UInt8) (kv : Value) : Array Value := (T.map B ++ K.map B ++ [kv]).toArray
end Go.Proofs.YtjpfhhndjpdmoaaGreatDoor

/- What block's New reckons: the rounds' keys; how slices of bytes lie in memory. -/
namespace Go.Proofs.YtjpfhhndjpdmoaaGreatDoor
open Go.RowKit

def SlB (w : World) (v : Value) (l : List UInt8) : Prop :=
  ∃ (a : Option Addr) (cap : Nat), v = .slice a l.length cap ∧ l.length ≤ cap ∧ cap ≤ maxLen ∧ (a = none → cap = 0) ∧
    ∀ ad, a = some ad → ad.spot = none ∧ ∀ i, i < l.length → w.cell? ⟨ad.block, ad.off + i, none⟩ = some (B (gb l i))
theorem SlB.below {w w' : World} {v : Value} {l : List UInt8} (h : SlB w v l) (hb : Below w.heap.size w w') : SlB w' v l := by
  obtain ⟨a, cap, hv, h1, h2, h3, h4⟩ := h
  refine ⟨a, cap, hv, h1, h2, h3, fun ad had => ⟨(h4 ad had).1, fun i hi => ?_⟩⟩
  have hc := (h4 ad had).2 i hi
  exact (hb.cell (World.block_lt_of_cell? w _ hc)).trans hc
theorem SlB.addr {w : World} {v : Value} {l : List UInt8} (h : SlB w v l) (hl : 0 < l.length) : ∃ b o cap, v = .slice (some ⟨b, o, none⟩) l.length cap ∧ l.length ≤ cap ∧ cap ≤ maxLen ∧ b < w.heap.size ∧
    ∀ i, i < l.length → w.cell? ⟨b, o + i, none⟩ = some (B (gb l i)) := by
  obtain ⟨a, cap, hv, h1, h2, h3, h4⟩ := h
  cases a with
  | none => have := h3 rfl; omega
  | some ad =>
    obtain ⟨b, o, s⟩ := ad
    obtain ⟨hs, hc⟩ := h4 _ rfl
    simp only at hs
    subst hs
    exact ⟨b, o, cap, hv, h1, h2, World.block_lt_of_cell? w _ (hc 0 hl), hc⟩
def Pre (cur : Array Value) (l : List UInt8) : Prop := cur.toList.take l.length = l.map B
theorem Pre.get {cur : Array Value} {l : List UInt8} (h : Pre cur l) (i : Nat) (hi : i < l.length) : cur[i]? = some (B (gb l i)) := by
  have : (cur.toList.take l.length)[i]? = (l.map B)[i]? := by rw [h]
  rw [List.getElem?_take, if_pos hi] at this
  simp only [Array.getElem?_toList] at this
  rw [this]
  simp [gb, hi]
theorem Pre.size {cur : Array Value} {l : List UInt8} (h : Pre cur l) : l.length ≤ cur.size := by
  have := congrArg List.length h
  simp only [List.length_take, List.length_map, Array.length_toList] at this
  omega
theorem Pre.sub {cur : Array Value} {l : List UInt8} (h : Pre cur l) (o n : Nat) (hn : o + n ≤ l.length) : sub cur o n = AB ((l.drop o).take n) := by
  have hs := h.size
  apply Array.ext
  · simp [Go.Proofs.YtjpfhhndjpdmoaaGreatDoor.sub, AB]; omega
  · intro i h1 h2
    have hi : i < n := by simp [Go.Proofs.YtjpfhhndjpdmoaaGreatDoor.sub] at h1; omega
    have hg := h.get (o + i) (by omega)
    have e1 : (Go.Proofs.YtjpfhhndjpdmoaaGreatDoor.sub cur o n)[i]? = cur[o + i]? := by
      simp only [Go.Proofs.YtjpfhhndjpdmoaaGreatDoor.sub, Array.getElem?_extract]
      rw [if_pos (by omega)]
    have e2 : (AB ((l.drop o).take n))[i]? = some (B (gb l (o + i))) := by
      rw [AB_get _ _ (by simp; omega)]
      congr 2
      simp [gb, hi, List.getElem?_drop]
    have : (Go.Proofs.YtjpfhhndjpdmoaaGreatDoor.sub cur o n)[i]? = (AB ((l.drop o).take n))[i]? := by rw [e1, e2, hg]
    rw [Array.getElem?_eq_getElem h1, Array.getElem?_eq_getElem h2] at this
    exact Option.some.inj this
def Buf (e : TypeId) (w : World) (base : Nat) (v : Value) (l : List UInt8) : Prop := w.ownsRow base e 1 v l.length (l.map B)
theorem Buf.open {e : TypeId} {w : World} {base : Nat} {v : Value} {l : List UInt8} (h : Buf e w base v l) (hl : 0 < l.length) :
    ∃ g cap cur, v = .slice (some ⟨g, 0, none⟩) l.length cap ∧ base ≤ g ∧ Row w g e cur ∧ l.length ≤ cap ∧ cap ≤ maxLen ∧ cur.size = cap ∧ Pre cur l := by
  rcases h.2 with ⟨_, h0⟩ | ⟨g, cap, cur, hv, hg, hh, h1, h2, h3, h4⟩
  · omega
  · exact ⟨g, cap, cur, hv, hg, Row.of_heap hh, h1, h2, by simpa using h3, by simpa [Pre] using h4⟩
theorem Buf.slb {e : TypeId} {w : World} {base : Nat} {v : Value} {l : List UInt8} (h : Buf e w base v l) : SlB w v l := by
  rcases h.2 with ⟨hv, h0⟩ | ⟨g, cap, cur, hv, hg, hh, h1, h2, h3, h4⟩
  · have : l = [] := List.eq_nil_of_length_eq_zero h0
    subst this
    exact ⟨none, 0, hv, Nat.le_refl _, Nat.zero_le _, fun _ => rfl, fun _ h => by cases h⟩
  · refine ⟨_, cap, hv, h1, h2, fun h => (by cases h), fun ad had => ?_⟩
    obtain rfl := Option.some.inj had
    refine ⟨rfl, fun i hi => ?_⟩
    have hp : Pre cur l := by simpa [Pre] using h4
    exact ((Row.of_heap hh).cell _).trans (by rw [Nat.zero_add]; exact hp.get i hi)

theorem Buf.alloc {e : TypeId} {w : World} {base : Nat} {v : Value} {l : List UInt8} (h : Buf e w base v l) (o : Obj) : Buf e (w.alloc o) base v l := World.ownsRow.alloc h o
theorem Buf.kept {e : TypeId} {w w' : World} {base : Nat} {v : Value} {l : List UInt8} {r : Option Nat} (h : Buf e w base v l) (hg : w.grownBy w' r) (hne : v.ownBlock = none ∨ v.ownBlock ≠ r) : Buf e w' base v l := World.ownsRow.kept h hg hne
theorem Buf.lt {e : TypeId} {w : World} {base : Nat} {v : Value} {l : List UInt8} (h : Buf e w base v l) (k : Nat) (hk : v.ownBlock = some k) : base ≤ k ∧ k < w.heap.size := World.ownsRow.lt h k hk
theorem wpl_append1 {P : Program} {w : World} {ops : Array Oper} {rest : List Oper} {o : Oper} {a : Act} {Q : Exit → Act → World → Prop} (hgd : o.guard = none) (s x : Operand) (t : TypeId)
    (ho : o.op = .call { callee := .builtin .append, args := #[s, x], argTypes := #[t, t] })
    {e : TypeId} (ht : P.underlying t = some (.slice e)) (hinf : (P.info? e).map (fun i => (i.zero, i.size, i.bytes)) = some (some (.int .u8 0), 1, 1))
    (base : Nat) (v : Value) (l : List UInt8) (hs : a.eval s = v) (hbuf : Buf e w base v l) (g : Nat) (y : UInt8) (hx : a.eval x = .slice (some ⟨g, 0, none⟩) 1 1) (hcell : w.cell? ⟨g, 0, none⟩ = some (B y))
    (hlen : l.length + 1 ≤ 140737488355328) (hbase : base ≤ w.heap.size)
    (h : ∀ v' w', Buf e w' base v' (l ++ [y]) → w.grownBy w' v.ownBlock → wpList P ops Q rest (a.put o.dst v') w') : wpList P ops Q (o :: rest) a w := by
  obtain ⟨i0, hi, hz0, hz1, hz2⟩ := info_parts hinf
  refine wpList_append_own w hgd s x t ho base e i0 (.int .u8 0) 1 1 ht hi hz0 hz1 hz2 rfl (by decide) v l.length (l.map B) hs hbuf ⟨g, 0, none⟩ 1 1 [B y] hx rfl ?_ ?_ (by unfold maxLen; omega) (by omega) hbase ?_
  · intro j u hj
    match j, hj with
    | 0, hj => simp only [List.getElem?_cons_zero, Option.some.injEq] at hj; subst hj; rw [Addr.add_zero']; exact hcell
  · intro u hu; obtain rfl := List.mem_singleton.1 hu; rfl
  · intro v' w' h1 h2 _
    exact h v' w' (by simpa [Buf] using h1) h2
theorem ownsRow_ne {w : World} {base : Nat} {e t : TypeId} {size : Nat} {v : Value} {n : Nat} {xs : List Value} {g : Nat} {cur : Array Value} (h : w.ownsRow base e size v n xs) (hr : Row w g t cur) (hte : t ≠ e) : v.ownBlock ≠ some g := by
  intro e1
  rcases h.2 with ⟨rfl, _⟩ | ⟨g', cap, cur', rfl, _, hh, _⟩
  · simp [Value.ownBlock] at e1
  · simp only [Value.ownBlock, Option.some.injEq] at e1
    subst e1
    have := hr.heap
    rw [hh] at this
    simp only [Option.some.injEq, Obj.cells.injEq] at this
    exact hte this.2.1.symm
def z256 : List UInt8 := List.replicate 256 0
/-! ### the rounds' keys -/
def wx (n i : Nat) (c : UInt8) (w : List UInt8) (j : Nat) : UInt8 :=
  let l := w.length
  if i % n = 0 then (if j = 0 then xr (gb boxT (gb w (l - 4 + 1)).toNat) c else gb boxT (gb w (l - 4 + (j + 1) % 4)).toNat)
  else if n = 8 ∧ i % n = 4 then gb boxT (gb w (l - 4 + j)).toNat
  else gb w (l - 4 + j)
def wj (n i : Nat) (c : UInt8) (w : List UInt8) (j : Nat) : List UInt8 :=
  w ++ (List.range j).map fun k => xr (gb w (w.length - n * 4 + k)) (wx n i c w k)
structure Ks where
  w : List UInt8
  c : UInt8
def ks (n : Nat) (key : List UInt8) : Nat → Ks
  | 0 => ⟨key, 1⟩
  | m + 1 => let s := ks n key m; ⟨wj n (n + m) s.c s.w 4, if (n + m) % n = 0 then dbl s.c else s.c⟩
def expand (key : List UInt8) : List UInt8 := (ks (key.length / 4) key (3 * (key.length / 4) + 28)).w
section
variable {n i : Nat} {c : UInt8} {W X : List UInt8}
end

/-! ### a Key in memory -/
def KeyAt (tk te : TypeId) (w : World) (p : Value) (W : List UInt8) (m : Nat) : Prop :=
  ∃ kb kk cap cur, p = .pointer (some ⟨kb, 0, none⟩) ∧ Row w kb tk (keyC boxT boxK (.slice (some ⟨kk, 0, none⟩) m cap)) ∧ Row w kk te cur ∧ W.length = 16 * m ∧ Pre cur W ∧ m ≤ cap ∧ cap ≤ maxLen
theorem KeyAt.below {tk te : TypeId} {w w' : World} {p : Value} {W : List UInt8} {m : Nat} (h : KeyAt tk te w p W m) (hb : Below w.heap.size w w') : KeyAt tk te w' p W m := by
  obtain ⟨kb, kk, cap, cur, h1, h2, h3, h4⟩ := h
  exact ⟨kb, kk, cap, cur, h1, h2.below hb h2.lt, h3.below hb h3.lt, h4⟩
end Go.Proofs.YtjpfhhndjpdmoaaGreatDoor
