/- Part of the proof: NewSpec, HSpec, HLaw. No conditions of its own. -/
import Derived.BigQuiet
import Derived.Deep.Quiet
import Derived.Deep.QuietTactic
import Derived.Lib.Hide
import Derived.StillTail
import Derived.WalkKit
import Derived.Test.YtnenoecmmelehaaM01
namespace Go.Proofs.Ytnenoecmmelehaa
open Go.RowKit

def dbl (x : UInt8) : UInt8 := if x &&& 0x80 ≠ 0 then (x <<< 1) ^^^ 0x1B else x <<< 1
def tmN : Nat → UInt8 → UInt8 → UInt8 → UInt8
  | 0, _, _, p => p
  | f + 1, a, n, p => if n = 0 then p else tmN f (dbl a) (n >>> 1) (if n &&& 1 = 1 then xr p a else p)
def tm (a n : UInt8) : UInt8 := tmN 8 a n 0
def mixB (b r : List UInt8) (i : Nat) : Nat → UInt8
  | 0 => 0
  | j + 1 => xr (mixB b r i j) (tm (gb b (i / 4 * 4 + (i + j) % 4)) (gb r j))
def mixL (b r : List UInt8) (k j : Nat) : List UInt8 := tab 16 fun i => if i < k then mixB b r i 4 else if i = k then mixB b r k j else 0
def addF (a b : List UInt8) (k : Nat) : List UInt8 := tab 16 fun i => if i < k then xr (gb a i) (gb b i) else gb a i
/-! ### one byte's operations as the walk spells them -/
def dblOk (n : Nat) : Bool :=
  let x := UInt8.ofNat n
  if bits .and .u8 (x.toNat : Int) 128 != 0 then bits .xor .u8 ((x.toNat : Int) * 2 % 256) 27 == ((dbl x).toNat : Int) else ((x.toNat : Int) * 2 % 256) == ((dbl x).toNat : Int)
def halfOk (n : Nat) : Bool :=
  let x := UInt8.ofNat n
  (bits .and .u8 (x.toNat : Int) 1 == ((x &&& 1).toNat : Int)) && ((x.toNat : Int) / 2 == ((x >>> 1).toNat : Int)) && (bits .and .u8 (x.toNat : Int) 1 == 1) == decide (x &&& 1 = 1)
end Go.Proofs.Ytnenoecmmelehaa

/- What block's ready makes: the two boxes, by the powers of three. -/
namespace Go.Proofs.Ytnenoecmmelehaa
open Go.RowKit

def orr (a b : UInt8) : UInt8 := a ||| b
def shl (a n : UInt8) : UInt8 := a <<< n
def shr (a n : UInt8) : UInt8 := a >>> n
def q3 (q : UInt8) : UInt8 := xr (xr (xr q (shl q 1)) (shl (xr q (shl q 1)) 2)) (shl (xr (xr q (shl q 1)) (shl (xr q (shl q 1)) 2)) 4)
def qn (q : UInt8) : UInt8 := if q3 q &&& 0x80 ≠ 0 then xr (q3 q) 9 else q3 q
def affine (q : UInt8) : UInt8 :=
  xr (xr (xr (xr (xr q (orr (shl q 1) (shr q 7))) (orr (shl q 2) (shr q 6))) (orr (shl q 3) (shr q 5))) (orr (shl q 4) (shr q 4))) 0x63
structure Rd where
  p : UInt8
  q : UInt8
  T : List UInt8
  K : List UInt8
def rd : Nat → Rd
  | 0 => ⟨1, 1, List.replicate 256 0, List.replicate 256 0⟩
  | k + 1 =>
    let r := rd k
    let p := xr r.p (dbl r.p)
    let q := qn r.q
    let x := affine q
    ⟨p, q, r.T.set p.toNat x, r.K.set x.toNat p⟩
def pk : Nat → UInt8
  | 0 => 1
  | k + 1 => xr (pk k) (dbl (pk k))
def pkOk : Nat → UInt8 → Bool
  | 0, p => p == 1
  | k + 1, p => p != 1 && pkOk k (xr p (dbl p))
def boxT : List UInt8 := [99, 124, 119, 123, 242, 107, 111, 197, 48, 1, 103, 43, 254, 215, 171, 118, 202, 130, 201, 125, 250, 89, 71, 240, 173, 212, 162, 175, 156, 164, 114, 192, 183, 253, 147, 38, 54, 63, 247, 204, 52, 165, 229, 241, 113, 216, 49, 21, 4, 199, 35, 195, 24, 150, 5, 154, 7, 18, 128, 226, 235, 39, 178, 117, 9, 131, 44, 26, 27, 110, 90, 160, 82, 59, 214, 179, 41, 227, 47, 132, 83, 209, 0, 237, 32, 252, 177, 91, 106, 203, 190, 57, 74, 76, 88, 207, 208, 239, 170, 251, 67, 77, 51, 133, 69, 249, 2, 127, 80, 60, 159, 168, 81, 163, 64, 143, 146, 157, 56, 245, 188, 182, 218, 33, 16, 255, 243, 210, 205, 12, 19, 236, 95, 151, 68, 23, 196, 167, 126, 61, 100, 93, 25, 115, 96, 129, 79, 220, 34, 42, 144, 136, 70, 238, 184, 20, 222, 94, 11, 219, 224, 50, 58, 10, 73, 6, 36, 92, 194, 211, 172, 98, 145, 149, 228, 121, 231, 200, 55, 109, 141, 213, 78, 169, 108, 86, 244, 234, 101, 122, 174, 8, 186, 120, 37, 46, 28, 166, 180, 198, 232, 221, 116, 31, 75, 189, 139, 138, 112, 62, 181, 102, 72, 3, 246, 14, 97, 53, 87, 185, 134, 193, 29, 158, 225, 248, 152, 17, 105, 217, 142, 148, 155, 30, 135, 233, 206, 85, 40, 223, 140, 161, 137, 13, 191, 230, 66, 104, 65, 153, 45, 15, 176, 84, 187, 22]
def boxK : List UInt8 := [82, 9, 106, 213, 48, 54, 165, 56, 191, 64, 163, 158, 129, 243, 215, 251, 124, 227, 57, 130, 155, 47, 255, 135, 52, 142, 67, 68, 196, 222, 233, 203, 84, 123, 148, 50, 166, 194, 35, 61, 238, 76, 149, 11, 66, 250, 195, 78, 8, 46, 161, 102, 40, 217, 36, 178, 118, 91, 162, 73, 109, 139, 209, 37, 114, 248, 246, 100, 134, 104, 152, 22, 212, 164, 92, 204, 93, 101, 182, 146, 108, 112, 72, 80, 253, 237, 185, 218, 94, 21, 70, 87, 167, 141, 157, 132, 144, 216, 171, 0, 140, 188, 211, 10, 247, 228, 88, 5, 184, 179, 69, 6, 208, 44, 30, 143, 202, 63, 15, 2, 193, 175, 189, 3, 1, 19, 138, 107, 58, 145, 17, 65, 79, 103, 220, 234, 151, 242, 207, 206, 240, 180, 230, 115, 150, 172, 116, 34, 231, 173, 53, 133, 226, 249, 55, 232, 28, 117, 223, 110, 71, 241, 26, 113, 29, 41, 197, 137, 111, 183, 98, 14, 170, 24, 190, 27, 252, 86, 62, 75, 198, 210, 121, 32, 154, 219, 192, 254, 120, 205, 90, 244, 31, 221, 168, 51, 136, 7, 199, 49, 177, 18, 16, 89, 39, 128, 236, 95, 96, 81, 127, 169, 25, 181, 74, 13, 45, 229, 122, 159, 147, 201, 156, 239, 160, 224, 59, 77, 174, 42, 245, 176, 200, 235, 187, 60, 131, 83, 153, 97, 23, 43, 4, 126, 186, 119, 214, 38, 225, 105, 20, 99, 85, 33, 12, 125]
/-! ### spellings -/
def spellOk (n : Nat) : Bool :=
  let x := UInt8.ofNat n
  ((x.toNat : Int) * 2 % 256 == ((shl x 1).toNat : Int)) && ((x.toNat : Int) * 4 % 256 == ((shl x 2).toNat : Int)) && ((x.toNat : Int) * 8 % 256 == ((shl x 3).toNat : Int)) && ((x.toNat : Int) * 16 % 256 == ((shl x 4).toNat : Int)) &&
  ((x.toNat : Int) / 16 == ((shr x 4).toNat : Int)) && ((x.toNat : Int) / 32 == ((shr x 5).toNat : Int)) && ((x.toNat : Int) / 64 == ((shr x 6).toNat : Int)) && ((x.toNat : Int) / 128 == ((shr x 7).toNat : Int)) &&
  (bits .and .u8 (x.toNat : Int) 128 != 0) == decide (x &&& 0x80 ≠ 0)
section
variable (x y : UInt8)
end
/-! ### a Key's cells: the two boxes, and the slice of the rounds' keys -/
def keyC (T K : List UInt8) (kv : Value) : Array Value := (T.map B ++ K.map B ++ [kv]).toArray
end Go.Proofs.Ytnenoecmmelehaa

/- What block's New reckons: the rounds' keys; how slices of bytes lie in memory. -/
namespace Go.Proofs.Ytnenoecmmelehaa
open Go.RowKit

def SlB (w : World) (v : Value) (l : List UInt8) : Prop :=
  ∃ (a : Option Addr) (cap : Nat), v = .slice a l.length cap ∧ l.length ≤ cap ∧ cap ≤ maxLen ∧ (a = none → cap = 0) ∧
    ∀ ad, a = some ad → ad.spot = none ∧ ∀ i, i < l.length → w.cell? ⟨ad.block, ad.off + i, none⟩ = some (B (gb l i))
theorem SlB.below {w w' : World} {v : Value} {l : List UInt8} (h : SlB w v l) (hb : Below w.heap.size w w') : SlB w' v l := by
  obtain ⟨a, cap, hv, h1, h2, h3, h4⟩ := h
  refine ⟨a, cap, hv, h1, h2, h3, fun ad had => ⟨(h4 ad had).1, fun i hi => ?_⟩⟩
  have hc := (h4 ad had).2 i hi
  exact (hb.cell (World.block_lt_of_cell? w _ hc)).trans hc
theorem SlB.addr {w : World} {v : Value} {l : List UInt8} (h : SlB w v l) (hl : 0 < l.length) : ∃ b o cap, v = .slice (some ⟨b, o, none⟩) l.length cap ∧ l.length ≤ cap ∧ cap ≤ maxLen ∧ b < w.heap.size ∧
    ∀ i, i < l.length → w.cell? ⟨b, o + i, none⟩ = some (B (gb l i)) := by
  obtain ⟨a, cap, hv, h1, h2, h3, h4⟩ := h
  cases a with
  | none => have := h3 rfl; omega
  | some ad =>
    obtain ⟨b, o, s⟩ := ad
    obtain ⟨hs, hc⟩ := h4 _ rfl
    simp only at hs
    subst hs
    exact ⟨b, o, cap, hv, h1, h2, World.block_lt_of_cell? w _ (hc 0 hl), hc⟩
def Pre (cur : Array Value) (l : List UInt8) : Prop := cur.toList.take l.length = l.map B
theorem Pre.get {cur : Array Value} {l : List UInt8} (h : Pre cur l) (i : Nat) (hi : i < l.length) : cur[i]? = some (B (gb l i)) := by
  have : (cur.toList.take l.length)[i]? = (l.map B)[i]? := by rw [h]
  rw [List.getElem?_take, if_pos hi] at this
  simp only [Array.getElem?_toList] at this
  rw [this]
  simp [gb, hi]
theorem Pre.size {cur : Array Value} {l : List UInt8} (h : Pre cur l) : l.length ≤ cur.size := by
  have := congrArg List.length h
  simp only [List.length_take, List.length_map, Array.length_toList] at this
  omega
theorem Pre.sub {cur : Array Value} {l : List UInt8} (h : Pre cur l) (o n : Nat) (hn : o + n ≤ l.length) : sub cur o n = AB ((l.drop o).take n) := by
  have hs := h.size
  apply Array.ext
  · simp [Go.Proofs.Ytnenoecmmelehaa.sub, AB]; omega
  · intro i h1 h2
    have hi : i < n := by simp [Go.Proofs.Ytnenoecmmelehaa.sub] at h1; omega
    have hg := h.get (o + i) (by omega)
    have e1 : (Go.Proofs.Ytnenoecmmelehaa.sub cur o n)[i]? = cur[o + i]? := by
      simp only [Go.Proofs.Ytnenoecmmelehaa.sub, Array.getElem?_extract]
      rw [if_pos (by omega)]
    have e2 : (AB ((l.drop o).take n))[i]? = some (B (gb l (o + i))) := by
      rw [AB_get _ _ (by simp; omega)]
      congr 2
      simp [gb, hi, List.getElem?_drop]
    have : (Go.Proofs.Ytnenoecmmelehaa.sub cur o n)[i]? = (AB ((l.drop o).take n))[i]? := by rw [e1, e2, hg]
    rw [Array.getElem?_eq_getElem h1, Array.getElem?_eq_getElem h2] at this
    exact Option.some.inj this
def Buf (e : TypeId) (w : World) (base : Nat) (v : Value) (l : List UInt8) : Prop := w.ownsRow base e 1 v l.length (l.map B)
theorem Buf.open {e : TypeId} {w : World} {base : Nat} {v : Value} {l : List UInt8} (h : Buf e w base v l) (hl : 0 < l.length) :
    ∃ g cap cur, v = .slice (some ⟨g, 0, none⟩) l.length cap ∧ base ≤ g ∧ Row w g e cur ∧ l.length ≤ cap ∧ cap ≤ maxLen ∧ cur.size = cap ∧ Pre cur l := by
  rcases h.2 with ⟨_, h0⟩ | ⟨g, cap, cur, hv, hg, hh, h1, h2, h3, h4⟩
  · omega
  · exact ⟨g, cap, cur, hv, hg, Row.of_heap hh, h1, h2, by simpa using h3, by simpa [Pre] using h4⟩
theorem Buf.slb {e : TypeId} {w : World} {base : Nat} {v : Value} {l : List UInt8} (h : Buf e w base v l) : SlB w v l := by
  rcases h.2 with ⟨hv, h0⟩ | ⟨g, cap, cur, hv, hg, hh, h1, h2, h3, h4⟩
  · have : l = [] := List.eq_nil_of_length_eq_zero h0
    subst this
    exact ⟨none, 0, hv, Nat.le_refl _, Nat.zero_le _, fun _ => rfl, fun _ h => by cases h⟩
  · refine ⟨_, cap, hv, h1, h2, fun h => (by cases h), fun ad had => ?_⟩
    obtain rfl := Option.some.inj had
    refine ⟨rfl, fun i hi => ?_⟩
    have hp : Pre cur l := by simpa [Pre] using h4
    exact ((Row.of_heap hh).cell _).trans (by rw [Nat.zero_add]; exact hp.get i hi)

theorem Buf.mk' {e : TypeId} {w : World} {base g cap : Nat} {cur : Array Value} {l : List UInt8} (hr : Row w g e cur) (hp : Pre cur l) (h1 : l.length ≤ cap) (h2 : cap ≤ maxLen) (h3 : cur.size = cap) (hg : base ≤ g) :
    Buf e w base (.slice (some ⟨g, 0, none⟩) l.length cap) l :=
  ⟨by simp, .inr ⟨g, cap, cur, rfl, hg, hr.heap, h1, h2, by simpa using h3, by simpa [Pre] using hp⟩⟩
theorem Buf.alloc {e : TypeId} {w : World} {base : Nat} {v : Value} {l : List UInt8} (h : Buf e w base v l) (o : Obj) : Buf e (w.alloc o) base v l := World.ownsRow.alloc h o
theorem Buf.kept {e : TypeId} {w w' : World} {base : Nat} {v : Value} {l : List UInt8} {r : Option Nat} (h : Buf e w base v l) (hg : w.grownBy w' r) (hne : v.ownBlock = none ∨ v.ownBlock ≠ r) : Buf e w' base v l := World.ownsRow.kept h hg hne
theorem Buf.lt {e : TypeId} {w : World} {base : Nat} {v : Value} {l : List UInt8} (h : Buf e w base v l) (k : Nat) (hk : v.ownBlock = some k) : base ≤ k ∧ k < w.heap.size := World.ownsRow.lt h k hk
theorem ownsRow_ne {w : World} {base : Nat} {e t : TypeId} {size : Nat} {v : Value} {n : Nat} {xs : List Value} {g : Nat} {cur : Array Value} (h : w.ownsRow base e size v n xs) (hr : Row w g t cur) (hte : t ≠ e) : v.ownBlock ≠ some g := by
  intro e1
  rcases h.2 with ⟨rfl, _⟩ | ⟨g', cap, cur', rfl, _, hh, _⟩
  · simp [Value.ownBlock] at e1
  · simp only [Value.ownBlock, Option.some.injEq] at e1
    subst e1
    have := hr.heap
    rw [hh] at this
    simp only [Option.some.injEq, Obj.cells.injEq] at this
    exact hte this.2.1.symm
def z256 : List UInt8 := List.replicate 256 0
/-! ### the rounds' keys -/
def wx (n i : Nat) (c : UInt8) (w : List UInt8) (j : Nat) : UInt8 :=
  let l := w.length
  if i % n = 0 then (if j = 0 then xr (gb boxT (gb w (l - 4 + 1)).toNat) c else gb boxT (gb w (l - 4 + (j + 1) % 4)).toNat)
  else if n = 8 ∧ i % n = 4 then gb boxT (gb w (l - 4 + j)).toNat
  else gb w (l - 4 + j)
def wj (n i : Nat) (c : UInt8) (w : List UInt8) (j : Nat) : List UInt8 :=
  w ++ (List.range j).map fun k => xr (gb w (w.length - n * 4 + k)) (wx n i c w k)
structure Ks where
  w : List UInt8
  c : UInt8
def ks (n : Nat) (key : List UInt8) : Nat → Ks
  | 0 => ⟨key, 1⟩
  | m + 1 => let s := ks n key m; ⟨wj n (n + m) s.c s.w 4, if (n + m) % n = 0 then dbl s.c else s.c⟩
def expand (key : List UInt8) : List UInt8 := (ks (key.length / 4) key (3 * (key.length / 4) + 28)).w
section
variable {n i : Nat} {c : UInt8} {W X : List UInt8}
end

/-! ### a Key in memory -/
def KeyAt (tk te : TypeId) (w : World) (p : Value) (W : List UInt8) (m : Nat) : Prop :=
  ∃ kb kk cap cur, p = .pointer (some ⟨kb, 0, none⟩) ∧ Row w kb tk (keyC boxT boxK (.slice (some ⟨kk, 0, none⟩) m cap)) ∧ Row w kk te cur ∧ W.length = 16 * m ∧ Pre cur W ∧ m ≤ cap ∧ cap ≤ maxLen
theorem KeyAt.below {tk te : TypeId} {w w' : World} {p : Value} {W : List UInt8} {m : Nat} (h : KeyAt tk te w p W m) (hb : Below w.heap.size w w') : KeyAt tk te w' p W m := by
  obtain ⟨kb, kk, cap, cur, h1, h2, h3, h4⟩ := h
  exact ⟨kb, kk, cap, cur, h1, h2.below hb h2.lt, h3.below hb h3.lt, h4⟩
end Go.Proofs.Ytnenoecmmelehaa

namespace Go.Proofs.Ytnenoecmmelehaa
open Go.RowKit

structure MsgP where
  kind : Int
  random : List UInt8
  mark : List UInt8
  session : List UInt8
  share : List UInt8
  ticket : List UInt8
  nonce : List UInt8
  sig : List UInt8
  certs : List (List UInt8)
  life : Int
  age : Int
  psk : Bool
  retry : Bool
def zero32 : List UInt8 := List.replicate 32 0
def numB (n size : Nat) : List UInt8 := tab size fun i => UInt8.ofNat (n / 2 ^ (8 * (size - 1 - i)))
theorem numB_len (n size : Nat) : (numB n size).length = size := tab_length _ _
def vecB (l : List UInt8) (size : Nat) : List UInt8 := numB l.length size ++ l
theorem vecB_len (l : List UInt8) (size : Nat) : (vecB l size).length = size + l.length := by simp [vecB, numB_len]
def wideP (n : Int) : Bool := decide (0 ≤ n) && decide (n < 4294967296)
def hVersion : List UInt8 := [0x03, 0x03]
def hSuites : List UInt8 := [0x00, 0x02, 0x13, 0x01, 0x01, 0x00]
def hSuite : List UInt8 := [0x13, 0x01, 0x00]
def hAble : List UInt8 := [0x00, 0x2B, 0x00, 0x03, 0x02, 0x03, 0x04, 0x00, 0x0A, 0x00, 0x04, 0x00, 0x02, 0x00, 0x17, 0x00, 0x0D, 0x00, 0x04, 0x00, 0x02, 0x04, 0x03]
def hChosen : List UInt8 := [0x00, 0x2B, 0x00, 0x02, 0x03, 0x04]
def hShare : List UInt8 := [0x00, 0x33]
def hGroup : List UInt8 := [0x00, 0x17]
def hModes : List UInt8 := [0x00, 0x2D, 0x00, 0x02, 0x01, 0x01]
def hPsk : List UInt8 := [0x00, 0x29]
def hBinder : List UInt8 := [0x00, 0x21, 0x20]
def hFirst : List UInt8 := [0x00, 0x02, 0x00, 0x00]
def hAsked : List UInt8 := [0x00, 0x00, 0x08, 0x00, 0x0D, 0x00, 0x04, 0x00, 0x02, 0x04, 0x03]
def hSigned : List UInt8 := [0x04, 0x03]
def hNone2 : List UInt8 := [0x00, 0x00]
def hNone1 : List UInt8 := [0x00]
def hAgain : List UInt8 := [0xCF, 0x21, 0xAD, 0x74, 0xE5, 0x9A, 0x61, 0x11, 0xBE, 0x1D, 0x8C, 0x02, 0x1E, 0x65, 0xB8, 0x91, 0xC2, 0xA2, 0x11, 0x16, 0x7A, 0xBB, 0x8C, 0x5E, 0x07, 0x9E, 0x09, 0xE2, 0xC8, 0xA8, 0x33, 0x9C]
def bareP (m : MsgP) : Bool :=
  m.session == [] && m.share == [] && m.ticket == [] && m.nonce == [] && m.sig == [] && m.certs.isEmpty && m.random == zero32 && m.mark == zero32 && m.life == 0 && m.age == 0 && !m.psk && !m.retry
def rightP (m : MsgP) : Bool :=
  if m.kind = 1 then
    (decide (m.session.length ≤ 32) && (m.share == [] || m.share.length == 65) && (!m.psk || (decide (1 ≤ m.ticket.length) && decide (m.ticket.length ≤ 1000) && wideP m.age))) &&
      bareP (if m.psk then { m with session := [], share := [], random := zero32, psk := false, ticket := [], age := 0, mark := zero32 } else { m with session := [], share := [], random := zero32, psk := false })
  else if m.kind = 2 then
    decide (m.session.length ≤ 32) && (if m.retry then bareP { m with session := [], retry := false } else (m.share.length == 65 && !(m.random == hAgain)) && bareP { m with session := [], share := [], random := zero32, psk := false })
  else if m.kind = 4 then
    (wideP m.life && wideP m.age && decide (1 ≤ m.nonce.length) && decide (m.nonce.length ≤ 8) && decide (1 ≤ m.ticket.length) && decide (m.ticket.length ≤ 1000)) && bareP { m with life := 0, age := 0, nonce := [], ticket := [] }
  else if m.kind = 11 then
    (decide (m.certs.length ≤ 5) && m.certs.all fun c => decide (1 ≤ c.length) && decide (c.length ≤ 2048)) && bareP { m with certs := [] }
  else if m.kind = 15 then (decide (1 ≤ m.sig.length) && decide (m.sig.length ≤ 100)) && bareP { m with sig := [] }
  else if m.kind = 20 then bareP { m with mark := zero32 }
  else if m.kind = 8 ∨ m.kind = 13 then bareP m
  else false
def offersP (m : MsgP) : List UInt8 :=
  hAble ++ (hShare ++ (vecB (vecB (if m.share = [] then [] else hGroup ++ vecB m.share 2) 2) 2 ++ (if m.psk then hModes ++ (hPsk ++ vecB (vecB (vecB m.ticket 2 ++ numB m.age.toNat 4) 2 ++ (hBinder ++ m.mark)) 2) else [])))
def answersP (m : MsgP) : List UInt8 :=
  hChosen ++ (hShare ++ ((if m.retry then vecB hGroup 2 else vecB (hGroup ++ vecB m.share 2) 2) ++ (if m.psk then hPsk ++ hFirst else [])))
def certsP (l : List (List UInt8)) : List UInt8 := l.flatMap fun c => vecB c 3 ++ hNone2
def bodyP (m : MsgP) : List UInt8 :=
  if m.kind = 1 then hVersion ++ (m.random ++ (vecB m.session 1 ++ (hSuites ++ vecB (offersP m) 2)))
  else if m.kind = 2 then hVersion ++ ((if m.retry then hAgain else m.random) ++ (vecB m.session 1 ++ (hSuite ++ vecB (answersP m) 2)))
  else if m.kind = 4 then numB m.life.toNat 4 ++ (numB m.age.toNat 4 ++ (vecB m.nonce 1 ++ (vecB m.ticket 2 ++ hNone2)))
  else if m.kind = 8 then hNone2
  else if m.kind = 11 then hNone1 ++ vecB (certsP m.certs) 3
  else if m.kind = 13 then hAsked
  else if m.kind = 15 then hSigned ++ vecB m.sig 2
  else m.mark
def writeP (m : MsgP) : List UInt8 := [UInt8.ofNat m.kind.toNat] ++ vecB (bodyP m) 3
end Go.Proofs.Ytnenoecmmelehaa

namespace Go.Proofs.Ytnenoecmmelehaa
open Go.RowKit

def takeV (n : Nat) (l : List UInt8) : List UInt8 := if l.length < n then List.replicate n 0 else l.take n
def takeR (n : Nat) (l : List UInt8) : List UInt8 := if l.length < n then l else l.drop n
def shortB (n : Nat) (l : List UInt8) : Bool := decide (l.length < n)
def valP (l : List UInt8) : Nat := l.foldl (fun n x => n * 256 + x.toNat) 0
def cvV (size most : Nat) (l : List UInt8) : List UInt8 := if most < valP (takeV size l) then [] else takeV (valP (takeV size l)) (takeR size l)
def cvR (size most : Nat) (l : List UInt8) : List UInt8 := if most < valP (takeV size l) then takeR size l else takeR (valP (takeV size l)) (takeR size l)
def cvB (size most : Nat) (l : List UInt8) : Bool := shortB size l || (if most < valP (takeV size l) then true else shortB (valP (takeV size l)) (takeR size l))
theorem takeV_len (n : Nat) (l : List UInt8) : (takeV n l).length = n := by unfold takeV; split <;> simp <;> omega
theorem takeR_len (n : Nat) (l : List UInt8) : (takeR n l).length ≤ l.length := by unfold takeR; split <;> simp
theorem cvR_len (s m : Nat) (l : List UInt8) : (cvR s m l).length ≤ l.length := by
  unfold cvR; split
  · exact takeR_len _ _
  · exact Nat.le_trans (takeR_len _ _) (takeR_len _ _)
theorem cvV_len (s m : Nat) (l : List UInt8) : (cvV s m l).length ≤ m := by
  unfold cvV; split
  · simp
  · rw [takeV_len]; omega
theorem takeV_cat {n : Nat} {a b : List UInt8} (h : a.length = n) : takeV n (a ++ b) = a := by
  unfold takeV; rw [if_neg (by simp; omega), ← h, List.take_left']; rfl
theorem takeR_cat {n : Nat} {a b : List UInt8} (h : a.length = n) : takeR n (a ++ b) = b := by
  unfold takeR; rw [if_neg (by simp; omega), ← h, List.drop_left']; rfl
theorem takeV_all {n : Nat} {a : List UInt8} (h : a.length = n) : takeV n a = a := by
  have := takeV_cat (b := []) h; rwa [List.append_nil] at this
theorem short_cat {n : Nat} {a b : List UInt8} (h : a.length = n) : shortB n (a ++ b) = false := by
  unfold shortB; rw [decide_eq_false_iff_not]; simp; omega
theorem valP_1 (n : Nat) (h : n < 256) : valP (numB n 1) = n := by
  show (0 * 256 + (UInt8.ofNat (n / 2 ^ (8 * (1 - 1 - 0)))).toNat) = n
  simp only [UInt8.toNat_ofNat']; omega
theorem valP_2 (n : Nat) (h : n < 65536) : valP (numB n 2) = n := by
  show ((0 * 256 + (UInt8.ofNat (n / 2 ^ (8 * (2 - 1 - 0)))).toNat) * 256 + (UInt8.ofNat (n / 2 ^ (8 * (2 - 1 - 1)))).toNat) = n
  simp only [UInt8.toNat_ofNat']; omega
theorem valP_3 (n : Nat) (h : n < 16777216) : valP (numB n 3) = n := by
  show (((0 * 256 + (UInt8.ofNat (n / 2 ^ (8 * (3 - 1 - 0)))).toNat) * 256 + (UInt8.ofNat (n / 2 ^ (8 * (3 - 1 - 1)))).toNat) * 256 + (UInt8.ofNat (n / 2 ^ (8 * (3 - 1 - 2)))).toNat) = n
  simp only [UInt8.toNat_ofNat']; omega
theorem valP_4 (n : Nat) (h : n < 4294967296) : valP (numB n 4) = n := by
  show ((((0 * 256 + (UInt8.ofNat (n / 2 ^ (8 * (4 - 1 - 0)))).toNat) * 256 + (UInt8.ofNat (n / 2 ^ (8 * (4 - 1 - 1)))).toNat) * 256 + (UInt8.ofNat (n / 2 ^ (8 * (4 - 1 - 2)))).toNat) * 256 + (UInt8.ofNat (n / 2 ^ (8 * (4 - 1 - 3)))).toNat) = n
  simp only [UInt8.toNat_ofNat']; omega
theorem valP_lt (l : List UInt8) : valP l < 256 ^ l.length := by
  have key : ∀ (l : List UInt8) (n : Nat), l.foldl (fun n x => n * 256 + x.toNat) n < (n + 1) * 256 ^ l.length := by
    intro l
    induction l with
    | nil => intro n; simp
    | cons x l ih =>
      intro n
      have := ih (n * 256 + x.toNat)
      have hx := x.toNat_lt
      simp only [List.foldl_cons, List.length_cons]
      refine Nat.lt_of_lt_of_le this ?_
      rw [Nat.pow_succ, Nat.mul_comm (256 ^ l.length) 256, ← Nat.mul_assoc]
      exact Nat.mul_le_mul_right _ (by omega)
  have := key l 0
  simpa [valP] using this
section
variable {s m : Nat} {x b : List UInt8} (hx : x.length ≤ m) (hn : valP (numB x.length s) = x.length)
include hx hn in
theorem cvV_cat : cvV s m (numB x.length s ++ (x ++ b)) = x := by
  unfold cvV
  rw [takeV_cat (numB_len _ _), takeR_cat (numB_len _ _), hn, if_neg (by omega), takeV_cat rfl]
include hx hn in
theorem cvR_cat : cvR s m (numB x.length s ++ (x ++ b)) = b := by
  unfold cvR
  rw [takeV_cat (numB_len _ _), takeR_cat (numB_len _ _), hn, if_neg (by omega), takeR_cat rfl]
include hx hn in
theorem cvB_cat : cvB s m (numB x.length s ++ (x ++ b)) = false := by
  unfold cvB
  rw [takeV_cat (numB_len _ _), takeR_cat (numB_len _ _), hn, if_neg (by omega), short_cat rfl, short_cat (numB_len _ _)]
  rfl
include hx hn in
theorem cvV_all : cvV s m (numB x.length s ++ x) = x := by
  have := cvV_cat (b := []) hx hn; rwa [List.append_nil] at this
end
def emptyM (k : Int) : MsgP := ⟨k, zero32, zero32, [], [], [], [], [], [], 0, 0, false, false⟩
def certsL : Nat → List UInt8 → Bool → List (List UInt8)
  | 0, _, _ => []
  | n + 1, l, bad => if decide (0 < l.length) && !bad then cvV 3 2048 l :: certsL n (takeR 2 (cvR 3 2048 l)) ((bad || cvB 3 2048 l) || shortB 2 (cvR 3 2048 l)) else []
def p_l1 (b : List UInt8) : List UInt8 := takeR 32 (takeR 2 b)
def p_l3 (n : Nat) (b : List UInt8) : List UInt8 := takeR n (cvR 1 32 (p_l1 b))
def p_l4 (b : List UInt8) : List UInt8 := cvR 2 69 (p_l3 35 b)
def p_l5 (b : List UInt8) : List UInt8 := takeR 12 (p_l4 b)
def p_l6 (b : List UInt8) : List UInt8 := cvR 2 1000 (p_l5 b)
def p_share (b : List UInt8) : List UInt8 := if 4 < (cvV 2 69 (p_l3 35 b)).length then (cvV 2 69 (p_l3 35 b)).drop 4 else []
def parse1 (b : List UInt8) : MsgP :=
  if 0 < (p_l4 b).length then
    { emptyM 1 with random := takeV 32 (takeR 2 b), session := cvV 1 32 (p_l1 b), share := p_share b, psk := true, ticket := cvV 2 1000 (p_l5 b), age := (valP (takeV 4 (p_l6 b)) : Int), mark := takeV 32 (takeR 3 (takeR 4 (p_l6 b))) }
  else { emptyM 1 with random := takeV 32 (takeR 2 b), session := cvV 1 32 (p_l1 b), share := p_share b }
def parse2 (b : List UInt8) : MsgP :=
  if takeV 32 (takeR 2 b) = hAgain then { emptyM 2 with session := cvV 1 32 (p_l1 b), retry := true }
  else { emptyM 2 with random := takeV 32 (takeR 2 b), session := cvV 1 32 (p_l1 b), share := cvV 2 65 (p_l3 17 b), psk := decide (0 < (cvR 2 65 (p_l3 17 b)).length) }
def parse4 (b : List UInt8) : MsgP :=
  { emptyM 4 with life := (valP (takeV 4 b) : Int), age := (valP (takeV 4 (takeR 4 b)) : Int), nonce := cvV 1 8 (takeR 4 (takeR 4 b)), ticket := cvV 2 1000 (cvR 1 8 (takeR 4 (takeR 4 b))) }
def parse11 (b : List UInt8) : MsgP := { emptyM 11 with certs := certsL 6 (takeR 4 b) (shortB 4 b) }
def parse15 (b : List UInt8) : MsgP := { emptyM 15 with sig := cvV 2 100 (takeR 2 b) }
def parse20 (b : List UInt8) : MsgP := { emptyM 20 with mark := takeV 32 b }
def parseP (k : Int) (b : List UInt8) : MsgP :=
  if k = 1 then parse1 b else if k = 2 then parse2 b else if k = 4 then parse4 b else if k = 11 then parse11 b else if k = 15 then parse15 b else if k = 20 then parse20 b else emptyM k

def atP (b : List UInt8) (p n : Nat) : List UInt8 := takeV n (b.drop p)
def getP (b : List UInt8) (p n : Nat) : Nat := valP (atP b p n)
def g_n (b : List UInt8) : Nat := min (getP b 34 1) 32
def g_p (b : List UInt8) : Nat := 72 + g_n b
def g_q (b : List UInt8) : Nat := if 0 < getP b (g_p b - 2) 2 then g_p b + 69 else g_p b
def g_t (b : List UInt8) : Nat := min (getP b (g_q b + 12) 2) 1000
def g_share (b : List UInt8) : List UInt8 := if 0 < getP b (g_p b - 2) 2 then atP b (g_p b + 4) 65 else []
def guess1 (b : List UInt8) : MsgP :=
  if g_q b < b.length then
    { emptyM 1 with random := atP b 2 32, session := atP b 35 (g_n b), share := g_share b, psk := true, ticket := atP b (g_q b + 14) (g_t b), age := (getP b (g_q b + 14 + g_t b) 4 : Int), mark := atP b (g_q b + 14 + g_t b + 7) 32 }
  else { emptyM 1 with random := atP b 2 32, session := atP b 35 (g_n b), share := g_share b }
def guess2 (b : List UInt8) : MsgP :=
  if atP b 2 32 = hAgain then { emptyM 2 with session := atP b 35 (g_n b), retry := true }
  else { emptyM 2 with random := atP b 2 32, session := atP b 35 (g_n b), share := atP b (50 + g_n b + 4) 65, psk := decide (50 + g_n b + 69 < b.length) }
def g_4 (b : List UInt8) : Nat := min (getP b 8 1) 8
def guess4 (b : List UInt8) : MsgP :=
  { emptyM 4 with life := (getP b 0 4 : Int), age := (getP b 4 4 : Int), nonce := atP b 9 (g_4 b), ticket := atP b (9 + g_4 b + 2) (min (getP b (9 + g_4 b) 2) 1000) }
def certsG (b : List UInt8) : Nat → Nat → List (List UInt8)
  | 0, _ => []
  | n + 1, p => if p < b.length then atP b (p + 3) (min (getP b p 3) 2048) :: certsG b n (p + 3 + min (getP b p 3) 2048 + 2) else []
def guess11 (b : List UInt8) : MsgP := { emptyM 11 with certs := certsG b 6 4 }
def guess15 (b : List UInt8) : MsgP := { emptyM 15 with sig := atP b 4 (min (getP b 2 2) 100) }
def guess20 (b : List UInt8) : MsgP := { emptyM 20 with mark := atP b 0 32 }
def guessP (k : Int) (b : List UInt8) : MsgP :=
  if k = 1 then guess1 b else if k = 2 then guess2 b else if k = 4 then guess4 b else if k = 11 then guess11 b else if k = 15 then guess15 b else if k = 20 then guess20 b else emptyM k
theorem drop_cat {p : Nat} {a b : List UInt8} (h : a.length ≤ p) : (a ++ b).drop p = b.drop (p - a.length) := by
  rw [List.drop_append, List.drop_eq_nil_of_le h, List.nil_append]
theorem drop_len {p : Nat} {a b : List UInt8} (h : a.length = p) : (a ++ b).drop p = b := by rw [drop_cat (by omega), h, Nat.sub_self, List.drop_zero]
end Go.Proofs.Ytnenoecmmelehaa
