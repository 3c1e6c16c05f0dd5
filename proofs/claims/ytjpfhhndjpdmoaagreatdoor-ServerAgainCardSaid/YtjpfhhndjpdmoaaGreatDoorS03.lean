/- Part of the proof: EvQ,EvS,EvT. No conditions of its own. -/
import Derived.Test.YtjpfhhndjpdmoaaGreatDoorS02
import Derived.Laws.BytesArg
namespace Go.Proofs.YtjpfhhndjpdmoaaGreatDoor
open Go.RowKit
set_option linter.unusedVariables false
set_option linter.unusedSimpArgs false

section
variable {P:Program} {nB B:Nat} {w0:World} {ν : Env} {T:Tr LV} {H:Hp} {nx:Nat} {w:World} {out:Out}
theorem intL_ok {x:LV} {y:Value} {n:Int} (h:intL x = some n) (hv:VR ν x y) : ∃ k,y = .int k n:=by
 unfold intL at h
 split at h
 ·rename_i k m
  cases h
  simp only [VR] at hv
  exact ⟨k,hv.1⟩
 ·cases h
theorem natL_ok {x:LV} {y:Value} {n:Nat} (h:natL x = some n) (hv:VR ν x y) : ∃ k,y = .int k (n:Int):=by
 unfold natL at h
 split at h
 ·rename_i m hm
  cases h
  exact intL_ok hm hv
 ·cases h
theorem op_fieldAddr {s f:Nat} {fs:Array Field} {b off n:Nat} {fd:Field} {y:Value} {foot:Option (List Nat)} (hu:P.underlying s = some (.struct fs)) (hx:VR ν (.ptr b off) y) (hf:fs[f]? = some fd) (hn:sizeL P fd.type = some (n + 1)) (hb:Below B w0 w) :
  Gives P nB B w0 ν H nx ⟨.ptr b (off + fd.offset),[],nx,foot⟩ w (Instr.fieldAt s y f):=by
 simp only [VR] at hx
 obtain ⟨l,h1,rfl⟩:=hx
 refine gives_val (v':=.pointer (some ⟨l.addr,l.base + off + fd.offset,none⟩)) ?_ (by simp only [VR]; exact ⟨l,h1,by rw [Nat.add_assoc]⟩) hb
 simp [Instr.fieldAt,run_underlying hu,hf,Instr.sureAddr,fieldPlace,run_sizeOf hn,add_off]
theorem op_field {s f:Nat} {fs:Array Field} {cs:List LV} {fd:Field} {y:Value} {l:LV} {foot:Option (List Nat)} (hu:P.underlying s = some (.struct fs)) (hx:VR ν (.agg cs) y) (hf:fs[f]? = some fd) (hl:partL P fd.type cs fd.offset = some l) (hb:Below B w0 w) :
  Gives P nB B w0 ν H nx ⟨l,[],nx,foot⟩ w (Instr.field s y f):=by
 simp only [VR] at hx
 obtain ⟨us,rfl,hus⟩:=hx
 obtain ⟨v,hv,hvv⟩:=part_ok hl hus w
 exact gives_val (v':=v) (by simp [Instr.field,run_underlying hu,hf,asAgg,hv]) hvv hb
theorem op_indexA {t elem:TypeId} {n i e b off:Nat} {x z:Value} {y:LV} {foot:Option (List Nat)} (hu:P.underlying t = some (.array n elem)) (hx:VR ν (.ptr b off) x) (hy:VR ν y z) (hi:natL y = some i) (he:sizeL P elem = some e) (hlt:i < n) (hb:Below B w0 w) :
  Gives P nB B w0 ν H nx ⟨.ptr b (off + i * e),[],nx,foot⟩ w (Instr.indexAt t x z):=by
 simp only [VR] at hx
 obtain ⟨l,h1,rfl⟩:=hx
 obtain ⟨k,rfl⟩:=natL_ok hi hy
 refine gives_val (v':=.pointer (some ⟨l.addr,l.base + off + i * e,none⟩)) ?_ (by simp only [VR]; exact ⟨l,h1,by rw [Nat.add_assoc]⟩) hb
 simp [Instr.indexAt,asIntOf,run_underlying hu,Instr.sureAddr,run_sizeOf he,add_off,hlt]
theorem op_indexS {t elem:TypeId} {n c i e b off:Nat} {l:Loc} {z:Value} {y:LV} {foot:Option (List Nat)} (hu:P.underlying t = some (.slice elem)) (hν : ν b = some l) (hy:VR ν y z) (hi:natL y = some i) (he:sizeL P elem = some e) (hlt:i < n) (hb:Below B w0 w) :
  Gives P nB B w0 ν H nx ⟨.ptr b (off + i * e),[],nx,foot⟩ w (Instr.indexAt t (.slice (some ⟨l.addr,l.base + off,none⟩) n c) z):=by
 obtain ⟨k,rfl⟩:=natL_ok hi hy
 refine gives_val (v':=.pointer (some ⟨l.addr,l.base + off + i * e,none⟩)) ?_ (by simp only [VR]; exact ⟨l,hν,by rw [Nat.add_assoc]⟩) hb
 simp [Instr.indexAt,asIntOf,run_underlying hu,run_sizeOf he,add_off,hlt]
theorem op_index {t elem:TypeId} {n i e:Nat} {cs:List LV} {x z:Value} {y l:LV} {foot:Option (List Nat)} (hu:P.underlying t = some (.array n elem)) (hx:VR ν (.agg cs) x) (hy:VR ν y z) (hi:natL y = some i) (he:sizeL P elem = some e) (hlt:i < n) (hl:partL P elem cs (i * e) = some l) (hb:Below B w0 w) :
  Gives P nB B w0 ν H nx ⟨l,[],nx,foot⟩ w (Instr.index t x z):=by
 simp only [VR] at hx
 obtain ⟨us,rfl,hus⟩:=hx
 obtain ⟨k,rfl⟩:=natL_ok hi hy
 obtain ⟨v,hv,hvv⟩:=part_ok hl hus w
 exact gives_val (v':=v) (by simp [Instr.index,asIntOf,run_underlying hu,run_sizeOf he,hlt,hv]) hvv hb
theorem op_extract {cs:List LV} {i:Nat} {x:Value} {l:LV} {foot:Option (List Nat)} (hx:VR ν (.tup cs) x) (hl:cs[i]? = some l) (hb:Below B w0 w) : Gives P nB B w0 ν H nx ⟨l,[],nx,foot⟩ w (Instr.extract x i):=by
 simp only [VR] at hx
 obtain ⟨us,rfl,hus⟩:=hx
 obtain ⟨v,hv,hvv⟩:=hus.get i l hl
 exact gives_val (v':=v) (by simp [Instr.extract,hv]) hvv hb
theorem op_s2a {t elem:TypeId} {n len c b off:Nat} {l:Loc} {foot:Option (List Nat)} (hu:P.underlying t = some (.array n elem)) (hν : ν b = some l) (hle:n ≤ len) (hb:Below B w0 w) :
  Gives P nB B w0 ν H nx ⟨.ptr b off,[],nx,foot⟩ w (Instr.arrayAt t (.slice (some ⟨l.addr,l.base + off,none⟩) len c)) :=
 gives_val (v':=.pointer (some ⟨l.addr,l.base + off,none⟩)) (by simp [Instr.arrayAt,run_underlying hu]; omega) (by simp only [VR]; exact ⟨l,hν,rfl⟩) hb
theorem op_makeFunc {f:Fn} {caps:Array Operand} {cs:List LV} {a:Act} {foot:Option (List Nat)} (h:VRs ν cs (caps.toList.map a.eval)) (hb:Below B w0 w) :
  Gives P nB B w0 ν H nx ⟨.fn f cs,[],nx,foot⟩ w (Instr.makeFunc f #[] (caps.map a.eval)) :=
 gives_val (v':=.func f #[] (caps.map a.eval)) rfl (by simp only [VR]; exact ⟨caps.toList.map a.eval,by congr 1; apply Array.ext'; simp,h⟩) hb
theorem wrap_nat (n:Nat) (h:n ≤ 2 ^ 62) : IntKind.i64.wrap (n:Int) = n:=by
 have hm : (n:Int) % (2 ^ IntKind.i64.bits : Int) = n:=Int.emod_eq_of_lt (by omega) (by show (n:Int) < 2 ^ 64; omega)
 unfold IntKind.wrap
 simp only [hm]
 rw [if_neg]
 show ¬ ((true && decide ((n:Int) ≥ 2 ^ 63)) = true)
 simp only [Bool.true_and,decide_eq_true_eq]
 omega
theorem flat_nil : ∀ c,(List.replicate c ([] : List Value)).flatten = []
 | 0=>rfl
 | c + 1=>by rw [List.replicate_succ,List.flatten_cons,flat_nil c]; rfl
theorem op_makeSlice {t elem:TypeId} {l c n:Nat} {x y:LV} {x' y':Value} {z:List LV} {inf:TypeInfo} (hu:P.underlying t = some (.slice elem)) (hx:VR ν x x') (hy:VR ν y y') (hl:natL x = some l) (hc:natL y = some c) (hz:zeroL P elem = some z) (hn:sizeL P elem = some n) (hi:P.info? elem = some inf)
  (hzn:z.length = n) (hle:l ≤ c) (hc30:c ≤ 2 ^ 30) (h40:inf.bytes * c ≤ 2 ^ 40) (h:new1 nx elem true false (repL z c) (.slice nx 0 l c) [] = some out) (hν : ν nx = none) (hb:Below B w0 w) (hB:B ≤ w0.heap.size) :
  Gives P nB B w0 ν H nx out w (Instr.makeSlice t x' y'):=by
 obtain ⟨h1,rfl⟩:=new1_inv h
 obtain ⟨v,hv,hvs,_⟩:=run_zero (ν:=ν) hz
 obtain ⟨k1,rfl⟩:=natL_ok hl hx
 obtain ⟨k2,rfl⟩:=natL_ok hc hy
 have hvz : v.cells.size = n:=by have:=hvs.length; simp at this; rw [this,hzn]
 have hwl : IntKind.i64.wrap (l:Int) = l:=wrap_nat l (by omega)
 have hwc : IntKind.i64.wrap (c:Int) = c:=wrap_nat c (by omega)
 refine gives_new (v':=.slice (some ⟨w.heap.size,0,none⟩) l c) (c:=((List.replicate c v.cells.toList).flatten).toArray) hν ?_ (by simpa using repL_ok hvs c) h1 hb hB (by simp [VR,envNew])
 have hb2 : ¬ (inf.bytes : Int) * (c:Int) > 2 ^ 48:=by
  have : ((inf.bytes * c : Nat) : Int) ≤ ((2 ^ 40 : Nat) : Int):=Int.ofNat_le.2 h40
  rw [Int.natCast_mul] at this
  have e : ((2 ^ 40 : Nat) : Int) < 2 ^ 48:=by decide
  omega
 have hti : (typeInfo elem).run P w = .ok inf w:=by simp [typeInfo,hi]
 simp only [Instr.makeSlice,Sem.run_bind,run_underlying hu,Result.andThen_ok,asInt,asIntOf,Sem.run_pure,hti,hwl,hwc]
 have hcond : ¬ ((decide ((c:Int) < 0) || decide ((inf.bytes : Int) * (c:Int) > 2 ^ 48) || decide ((l:Int) < 0) || decide ((l:Int) > (c:Int))) = true):=by
  rw [Bool.or_eq_true,Bool.or_eq_true,Bool.or_eq_true]
  simp only [decide_eq_true_eq]
  omega
 rw [if_neg hcond]
 simp only [Sem.run_bind,run_askRoom,Result.andThen_ok,run_sizeOf hn]
 by_cases hc0 : (c:Int).toNat * n = 0
 ·rw [if_pos hc0]
  have hrl : (List.replicate c v.cells.toList).flatten = []:=by
   rcases Nat.mul_eq_zero.1 hc0 with h | h
   ·have : c = 0:=by omega
    subst this; rfl
   ·have : v.cells.toList = []:=by apply List.eq_nil_of_length_eq_zero; rw [Array.length_toList,hvz,h]
    rw [this]; exact flat_nil c
  have hc0' : c * n = 0:=by simpa using hc0
  simp [newRow,hc0',hrl,show Array.range 0 = #[] from rfl]
 ·rw [if_neg hc0]
  simp only [Sem.run_bind,hv,Result.andThen_ok,Sem.run_pure]
  rw [range_rep v.cells c _ (by rw [hvz]; rfl)]
  simp [newRow]
end
end Go.Proofs.YtjpfhhndjpdmoaaGreatDoor

namespace Go.Proofs.YtjpfhhndjpdmoaaGreatDoor
open Go.RowKit
set_option linter.unusedVariables false
set_option linter.unusedSimpArgs false

section
variable {P:Program} {nB B:Nat} {w0:World} {ν : Env} {T:Tr LV} {H:Hp} {nx:Nat} {w:World} {out:Out}
def OV (ν : Env) : Option LV → Option Value → Prop
 | none,none=>True
 | some x,some y=>VR ν x y
 | _,_=>False
theorem sliceBound_ok {x:LV} {y:Value} {n m:Nat} {c:BoundsCode} (h:natL x = some n) (hv:VR ν x y) (hle:n ≤ m) : (Instr.sliceBound y m c).run P w = .ok n w:=by
 obtain ⟨k,rfl⟩:=natL_ok h hv
 simp [Instr.sliceBound,asIntOf,hle]
theorem bounds_ok {isS:Bool} {len cap l h m:Nat} {lo hi mx:Option LV} {lo' hi' mx':Option Value} (o1:OV ν lo lo') (o2:OV ν hi hi') (o3:OV ν mx mx')
  (e1:optN 0 lo = some l) (e2:optN len hi = some h) (e3:optN cap mx = some m) (h1:l ≤ h) (h2:hi.isSome = true → h ≤ m) (h3:mx.isSome = true → m ≤ cap ∧ hi.isSome = true) :
  (Instr.sliceBounds isS len cap lo' hi' mx').run P w = .ok (l,h,m) w:=by
 cases mx with
 | none =>
  cases mx' with
  | some _=>exact o3.elim
  | none =>
   simp only [optN,Option.some.injEq] at e3
   subst e3
   cases hi with
   | none =>
    cases hi' with
    | some _=>exact o2.elim
    | none =>
     simp only [optN,Option.some.injEq] at e2
     subst e2
     cases lo with
     | none =>
      cases lo' with
      | some _=>exact o1.elim
      | none =>
       simp only [optN,Option.some.injEq] at e1
       subst e1
       simp [Instr.sliceBounds]
     | some lo =>
      cases lo' with
      | none=>exact o1.elim
      | some lo'=>simp [Instr.sliceBounds,sliceBound_ok (P:=P) (w:=w) e1 o1 h1]
   | some hi =>
    cases hi' with
    | none=>exact o2.elim
    | some hi' =>
     cases lo with
     | none =>
      cases lo' with
      | some _=>exact o1.elim
      | none =>
       simp only [optN,Option.some.injEq] at e1
       subst e1
       simp [Instr.sliceBounds,sliceBound_ok (P:=P) (w:=w) e2 o2 (h2 rfl)]
     | some lo =>
      cases lo' with
      | none=>exact o1.elim
      | some lo'=>simp [Instr.sliceBounds,sliceBound_ok (P:=P) (w:=w) e2 o2 (h2 rfl),sliceBound_ok (P:=P) (w:=w) e1 o1 h1]
 | some mx =>
  cases mx' with
  | none=>exact o3.elim
  | some mx' =>
   obtain ⟨h4,h5⟩:=h3 rfl
   cases hi with
   | none=>simp at h5
   | some hi =>
    cases hi' with
    | none=>exact o2.elim
    | some hi' =>
     cases lo with
     | none =>
      cases lo' with
      | some _=>exact o1.elim
      | none =>
       simp only [optN,Option.some.injEq] at e1
       subst e1
       simp [Instr.sliceBounds,sliceBound_ok (P:=P) (w:=w) e3 o3 h4,sliceBound_ok (P:=P) (w:=w) e2 o2 (h2 rfl)]
     | some lo =>
      cases lo' with
      | none=>exact o1.elim
      | some lo'=>simp [Instr.sliceBounds,sliceBound_ok (P:=P) (w:=w) e3 o3 h4,sliceBound_ok (P:=P) (w:=w) e2 o2 (h2 rfl),sliceBound_ok (P:=P) (w:=w) e1 o1 h1]
theorem optV_ok {o:Option LV} {o':Option Value} {r:Option Value} (h:optV o = some r) (hv:OV ν o o') : o' = r:=by
 cases o with
 | none=>cases o' with
  | none=>simp [optV] at h; exact h
  | some _=>exact hv.elim
 | some x=>cases o' with
  | none=>exact hv.elim
  | some y =>
   cases x <;> simp [optV] at h
   subst h
   simp only [OV,VR] at hv
   rw [hv.1]
theorem op_slice {t:TypeId} {x:LV} {y:Value} {lo hi mx:Option LV} {lo' hi' mx':Option Value} (h:sliceL P H nx t x lo hi mx = some out) (hx:VR ν x y) (o1:OV ν lo lo') (o2:OV ν hi hi') (o3:OV ν mx mx') (hH:HRF ν H out.foot w) (hb:Below B w0 w) :
  Gives P nB B w0 ν H nx out w (Instr.sliceAt t y lo' hi' mx'):=by
 cases x with
 | v x =>
  simp only [VR] at hx
  obtain ⟨rfl,_⟩:=hx
  simp only [sliceL] at h
  split at h
  ·rename_i a b c e1 e2 e3
   rw [optV_ok e1 o1,optV_ok e2 o2,optV_ok e3 o3]
   exact pureL_ok h hb
  ·cases h
 | ptr b off =>
  simp only [VR] at hx
  obtain ⟨lc,h1,rfl⟩:=hx
  simp only [sliceL] at h
  split at h
  ·rename_i n elem hu
   split at h
   ·rename_i e l hh he e1 e2
    split at h
    ·rename_i hc
     cases h
     cases mx' with
     | some _=>exact o3.elim
     | none =>
      have hbd:=bounds_ok (P:=P) (w:=w) (isS:=false) (cap:=n) o1 o2 (o3:OV ν none none) e1 e2 (show optN n none = some n from rfl) hc.1 (fun _=>hc.2) (fun h=>by cases h)
      refine gives_val (v':=.slice (some ⟨lc.addr,lc.base + (if n = l then off else off + l * (e + 1)),none⟩) (hh - l) (n - l)) ?_ (by simp only [VR]; exact ⟨lc,h1,rfl⟩) hb
      simp only [Instr.sliceAt,Sem.run_bind,run_underlying hu,Result.andThen_ok,Instr.sureAddr,Sem.run_pure,hbd,run_sizeOf he]
      by_cases hnl : n = l <;> simp [hnl,add_off,Nat.add_assoc]
    ·cases h
   ·cases h
  ·cases h
 | slice b off len c =>
  simp only [VR] at hx
  obtain ⟨lc,h1,rfl⟩:=hx
  simp only [sliceL] at h
  split at h
  ·rename_i elem hu
   split at h
   ·rename_i e l hh m he e1 e2 e3
    split at h
    ·rename_i hc
     cases h
     have h4 : mx.isSome = true → hi.isSome = true:=fun hm=>by
      rcases hc.2.2.2 with h' | h'
      ·cases mx <;> simp at hm h'
      ·exact h'
     have hbd:=bounds_ok (P:=P) (w:=w) (isS:=true) (cap:=c) o1 o2 o3 e1 e2 e3 hc.1 (fun _=>hc.2.1) (fun hm=>⟨hc.2.2.1,h4 hm⟩)
     refine gives_val (v':=.slice (some ⟨lc.addr,lc.base + (if m = l then off else off + l * (e + 1)),none⟩) (hh - l) (m - l)) ?_ (by simp only [VR]; exact ⟨lc,h1,rfl⟩) hb
     simp only [Instr.sliceAt,Sem.run_bind,run_underlying hu,Result.andThen_ok,Instr.slice,hbd,run_sizeOf he,Sem.run_pure]
     by_cases hnl : m = l <;> simp [hnl,add_off,Nat.add_assoc]
    ·cases h
   ·cases h
  ·cases h
 | buf b off len eb =>
  simp only [VR] at hx
  obtain ⟨lc,c,h1,rfl,h3,h4,h5⟩:=hx
  simp only [sliceL] at h
  split at h
  ·rename_i elem hu
   split at h
   ·rename_i e l hh he e1 e2
    cases mx' with
    | some _=>exact o3.elim
    | none =>
     have run : l ≤ hh → hh ≤ c → (Instr.sliceAt t (.slice (some ⟨lc.addr,lc.base + off,none⟩) len c) lo' hi' none).run P w = .ok (.slice (some (if c = l then ⟨lc.addr,lc.base + off,none⟩ else ⟨lc.addr,lc.base + off + l * (e + 1),none⟩)) (hh - l) (c - l)) w:=fun q1 q2=>by
      have hbd:=bounds_ok (P:=P) (w:=w) (isS:=true) (cap:=c) o1 o2 (o3:OV ν none none) e1 e2 (show optN c none = some c from rfl) q1 (fun _=>q2) (fun h=>by cases h)
      simp only [Instr.sliceAt,Sem.run_bind,run_underlying hu,Result.andThen_ok,Instr.slice,hbd,run_sizeOf he,Sem.run_pure]
      by_cases hnl : c = l <;> simp [hnl,add_off]
     have part : l ≤ hh → hh ≤ c → eb = e + 1 → (l < c ∨ l = 0) → VR ν (.buf b (off + l * (e + 1)) (hh - l) eb) (.slice (some (if c = l then ⟨lc.addr,lc.base + off,none⟩ else ⟨lc.addr,lc.base + off + l * (e + 1),none⟩)) (hh - l) (c - l)):=fun q1 q2 q3 q4=>by
      subst q3
      simp only [VR]
      refine ⟨lc,c - l,h1,?_,by omega,?_,by omega⟩
      ·by_cases hcl : c = l
       ·have hl0 : l = 0:=by rcases q4 with hl | hl <;> omega
        subst hl0
        simp [hcl]
       ·rw [if_neg hcl,Nat.add_assoc]
      ·have : l * (e + 1) + (c - l) * (e + 1) = c * (e + 1):=by rw [← Nat.add_mul]; congr 1; omega
       omega
     split at h
     ·rename_i hc
      obtain ⟨hc1,hc2,hc3⟩:=hc
      split at h
      ·rename_i hl
       cases h
       exact gives_val (v':=_) (run hc1 (by omega)) (part hc1 (by omega) hc3 (by omega)) hb
      ·rename_i hl
       cases h
       have hr:=run hc1 (by omega)
       have : hh - l = 0:=by omega
       rw [this] at hr
       exact gives_val hr (by simp only [VR]; exact ⟨_,_,rfl,by split <;> rfl,by omega⟩) hb
     ·split at h
      ·rename_i k hk
       split at h
       ·rename_i hc
        cases h
        obtain ⟨hc1,hc2,hc3⟩:=hc
        obtain ⟨lc',g1,g2⟩:=hH b k (by simp [footHas]) hk
        rw [h1] at g1; cases g1
        obtain ⟨cc,fr,k1,k2,k3,⟨pre,vs,rest,k4,k0,k5⟩,_⟩:=g2
        have hcl : cc.size = pre.length + (vs.length + rest.length):=by have:=congrArg List.length k4; simpa using this
        have hvl:=k5.length
        have hle : hh * (e + 1) ≤ c * (e + 1):=by rw [hc2] at h4; omega
        have hhc : hh ≤ c:=Nat.le_of_mul_le_mul_right hle (by omega)
        exact gives_val (v':=_) (run (by omega) hhc) (part (by omega) hhc hc2 (by omega)) hb
       ·cases h
      ·cases h
   ·rename_i e l hh mx he e1 e2
    split at h
    ·rename_i m hm
     split at h
     ·rename_i hc
      cases h
      obtain ⟨q1,q2,q3,q4,q5⟩:=hc
      have hbd:=bounds_ok (P:=P) (w:=w) (isS:=true) (cap:=c) (mx:=some mx) (m:=m) o1 o2 o3 e1 e2 (show optN c (some mx) = some m from hm) q1 (fun _=>q2) (fun _=>⟨by omega,q5⟩)
      refine gives_val (v':=.slice (some ⟨lc.addr,lc.base + (if m = l then off else off + l * (e + 1)),none⟩) (hh - l) (m - l)) ?_ (by simp only [VR]; exact ⟨lc,h1,rfl⟩) hb
      simp only [Instr.sliceAt,Sem.run_bind,run_underlying hu,Result.andThen_ok,Instr.slice,hbd,run_sizeOf he,Sem.run_pure]
      by_cases hnl : m = l <;> simp [hnl,add_off,Nat.add_assoc]
     ·cases h
    ·cases h
   ·cases h
  ·cases h
 | emp =>
  simp only [VR] at hx
  obtain ⟨a,c,rfl,hsp,hcm⟩:=hx
  simp only [sliceL] at h
  split at h
  ·rename_i elem hu e1 e2
   split at h
   ·rename_i e he
    cases h
    cases mx' with
    | some _=>exact o3.elim
    | none =>
     have hbd:=bounds_ok (P:=P) (w:=w) (isS:=true) (len:=0) (cap:=c) o1 o2 (o3:OV ν none none) e1 e2 (show optN c none = some c from rfl) (Nat.le_refl _) (fun _=>Nat.zero_le _) (fun h=>by cases h)
     refine gives_val (v':=.slice (some (if c = 0 then a else a.add (0 * e))) (0 - 0) (c - 0)) ?_ (by simp only [VR]; exact ⟨_,_,rfl,by split <;> simp_all [Addr.add],by omega⟩) hb
     simp only [Instr.sliceAt,Sem.run_bind,run_underlying hu,Result.andThen_ok,Instr.slice,hbd,run_sizeOf he,Sem.run_pure]
     by_cases hnl : c = 0 <;> simp [hnl]
   ·cases h
  ·cases h
 | ifc u z=>simp [sliceL] at h
 | sym b k lo hi ne=>simp [sliceL] at h
 | outS b=>simp [sliceL] at h
 | outP b=>simp [sliceL] at h
 | str cs =>
  simp only [VR] at hx
  obtain ⟨bs,rfl,hbs⟩:=hx
  have hlen : bs.length = cs.length:=by have:=hbs.length; simpa using this
  simp only [sliceL] at h
  split at h
  ·rename_i l hh hu e1 e2
   split at h
   ·rename_i hc
    cases h
    cases mx' with
    | some _=>exact o3.elim
    | none =>
     have hbd:=bounds_ok (P:=P) (w:=w) (isS:=false) (len:=cs.length) (cap:=cs.length) o1 o2 (o3:OV ν none none) e1 e2 (show optN cs.length none = some cs.length from rfl) hc.1 (fun _=>hc.2) (fun h=>by cases h)
     have hsz : (⟨bs.toArray⟩ : ByteArray).size = cs.length:=by rw [← hlen]; simp [ByteArray.size]
     have hex : (⟨bs.toArray⟩ : ByteArray).extract l hh = ⟨((bs.take hh).drop l).toArray⟩:=by
      apply ByteArray.ext
      rw [ByteArray.data_extract]
      apply Array.ext'
      simp [List.extract_eq_drop_take']
     refine gives_val (v':=.string ⟨((bs.take hh).drop l).toArray⟩) ?_ (by simp only [VR]; exact ⟨_,rfl,by rw [List.map_drop,List.map_take]; exact (hbs.take hh).drop l⟩) hb
     simp only [Instr.sliceAt,Sem.run_bind,run_underlying hu,Result.andThen_ok,Instr.slice,Option.isSome_none,Bool.false_eq_true,if_false,hsz,hbd,Sem.run_pure,hex]
   ·cases h
  ·cases h
 | fn f cs=>simp [sliceL] at h
 | agg cs=>simp [sliceL] at h
 | tup cs=>simp [sliceL] at h
end
end Go.Proofs.YtjpfhhndjpdmoaaGreatDoor

namespace Go.Proofs.YtjpfhhndjpdmoaaGreatDoor
open Go.RowKit
set_option linter.unusedVariables false
set_option linter.unusedSimpArgs false

section
variable {P:Program} {nB B:Nat} {w0:World} {ν : Env} {T:Tr LV} {H:Hp} {nx:Nat} {w:World} {out:Out}
theorem bytes_vrs : ∀ (l:List UInt8),VRs ν (l.map fun b=>.v (.int .u8 b.toNat)) (l.map fun b=>.int .u8 b.toNat)
 | []=>VRs.nil_iff.2 rfl
 | b :: l=>VRs.cons_iff.2 ⟨_,_,rfl,by simp [VR,plainV],bytes_vrs l⟩
theorem lenL_ok {x:LV} {y:Value} {n:Nat} (h:lenL x = some n) (hv:VR ν x y) (w:World) : (Builtin.lenOf y).run P w = .ok n w:=by
 cases x with
 | v x =>
  simp only [VR] at hv
  obtain ⟨rfl,_⟩:=hv
  unfold lenL at h
  split at h
  ·rename_i e; cases e; cases h; rfl
  ·rename_i e; cases e; cases h; rfl
  all_goals first | (rename_i e; cases e) | (cases h)
 | slice b off len c=>simp only [VR] at hv; obtain ⟨l,_,rfl⟩:=hv; simp [lenL] at h; subst h; rfl
 | buf b off len e=>simp only [VR] at hv; obtain ⟨l,c,_,rfl,_⟩:=hv; simp [lenL] at h; subst h; rfl
 | emp=>simp only [VR] at hv; obtain ⟨l,c,rfl,_⟩:=hv; simp [lenL] at h; subst h; rfl
 | _=>simp [lenL] at h
theorem firstL_ok {e n:Nat} {x:LV} {y:Value} {l:List LV} {f:List Nat} {foot:Option (List Nat)} (h:firstL H e n x = some (l,f)) (hv:VR ν x y) (hH:HRF ν H foot w) (hf:∀ i ∈ f,footHas foot i) :
  ∃ us,(∀ w',w'.heap = w.heap → (Builtin.firstCells e n y).run P w' = .ok us.toArray w') ∧ VRs ν l us ∧ l.length = n * e:=by
 have hsl : ∀ (b off c m:Nat) (lc:Loc),ν b = some lc → (if n * e = 0 then some ([],[]) else match H.get b with
   | some k=>if ((k.cells.drop off).take (n * e)).length = n * e then some ((k.cells.drop off).take (n * e),[b]) else none
   | none=>none) = some (l,f) → ∃ us,(∀ w',w'.heap = w.heap → (Builtin.firstCells e n (.slice (some ⟨lc.addr,lc.base + off,none⟩) m c)).run P w' = .ok us.toArray w') ∧ VRs ν l us ∧ l.length = n * e:=by
  intro b off c m lc hlc h
  split at h
  ·rename_i h0
   cases h
   refine ⟨[],?_,VRs.nil_iff.2 rfl,by simp [h0]⟩
   intro w' _; simp [Builtin.firstCells,h0,loadCells,loadCellsFrom]
  ·split at h
   ·rename_i k hk
    split at h
    ·rename_i hl
     cases h
     obtain ⟨lc',h1,h2⟩:=hH b k (hf b (by simp)) hk
     rw [hlc] at h1; cases h1
     obtain ⟨us,h3,h4,h5⟩:=h2.stretch off (n * e) hl
     refine ⟨us,?_,h4,hl⟩
     intro w' hw'
     have:=run_loadCells_list (P:=P) w' ⟨lc.addr,lc.base + off,none⟩ us (fun j v hj=>by rw [add_off,World.cell?_of_block (w:=w) (by rw [hw'])]; exact h5 j v hj)
     rw [h3] at this
     exact this
    ·cases h
   ·cases h
 cases x with
 | v x =>
  simp only [VR] at hv
  obtain ⟨rfl,_⟩:=hv
  cases y with
  | string s =>
   simp only [firstL] at h
   split at h
   ·rename_i hc
    cases h
    obtain ⟨rfl,hn⟩:=hc
    refine ⟨(s.data.toList.take n).map fun b=>.int .u8 b.toNat,?_,bytes_vrs _,?_⟩
    ·intro w' _
     simp only [Builtin.firstCells,Sem.run_pure]
     congr 1
     apply Array.ext'
     simp [ByteArray.data_extract,List.extract_eq_drop_take']
    ·have : s.data.toList.length = s.size:=by simp
     simp; omega
   ·cases h
  | slice a m c =>
   cases a with
   | none=>simp only [firstL] at h; split at h
           ·rename_i h0; cases h; exact ⟨[],fun _ _=>rfl,VRs.nil_iff.2 rfl,by simp [h0]⟩
           ·cases h
   | some a=>simp [firstL] at h
  | _=>simp [firstL] at h
 | slice b off len c =>
  simp only [VR] at hv
  obtain ⟨lc,h1,rfl⟩:=hv
  simp only [firstL] at h
  exact hsl b off c len lc h1 h
 | buf b off len e' =>
  simp only [VR] at hv
  obtain ⟨lc,c,h1,rfl,_⟩:=hv
  simp only [firstL] at h
  exact hsl b off c len lc h1 h
 | emp =>
  simp only [VR] at hv
  obtain ⟨a,c,rfl,_⟩:=hv
  simp only [firstL] at h
  split at h
  ·rename_i h0
   cases h
   subst h0
   exact ⟨[],fun _ _=>by simp [Builtin.firstCells,loadCells,loadCellsFrom],VRs.nil_iff.2 rfl,by simp⟩
  ·cases h
 | _=>simp [firstL] at h
theorem bytesL_ok : ∀ {l:List LV} {bs:List UInt8} {us:List Value},bytesL l = some bs → VRs ν l us → ∃ ns : List Int,us = ns.map (Value.int .u8) ∧ bs = ns.map fun n=>UInt8.ofNat n.toNat
 | [],bs,us,h,hv=>by simp [bytesL] at h; subst h; rw [VRs.nil_iff.1 hv]; exact ⟨[],rfl,rfl⟩
 | x :: l,bs,us,h,hv=>by
  obtain ⟨u,us',rfl,h2,h3⟩:=VRs.cons_iff.1 hv
  unfold bytesL at h
  split at h
  ·rename_i e; cases e
  ·rename_i n l' e
   cases e
   simp only [Option.map_eq_some_iff] at h
   obtain ⟨bs',h4,rfl⟩:=h
   obtain ⟨ns,rfl,rfl⟩:=bytesL_ok h4 h3
   simp only [VR] at h2
   exact ⟨n :: ns,by rw [h2.1]; rfl,rfl⟩
  ·cases h
theorem byteLVs_ok : ∀ {l:List LV} {us:List Value},l.all byteLV = true → VRs ν l us → ∃ bs : List UInt8,us = bs.map fun b=>Value.int .u8 (b.toNat : Int)
 | [],us,_,hv=>⟨[],by rw [VRs.nil_iff.1 hv]; rfl⟩
 | x :: l,us,h,hv=>by
  obtain ⟨u,us',rfl,h2,h3⟩:=VRs.cons_iff.1 hv
  simp only [List.all_cons,Bool.and_eq_true] at h
  obtain ⟨bs,rfl⟩:=byteLVs_ok h.2 h3
  have key : ∃ n : Nat,n ≤ 255 ∧ u = .int .u8 (n:Int):=by
   have h1:=h.1
   unfold byteLV at h1
   split at h1
   ·rename_i n
    simp only [VR] at h2
    exact ⟨n,Nat.le_of_ble_eq_true h1,h2.1⟩
   ·simp only [VR] at h2
    obtain ⟨lc,_,e,_,g1,g2,_⟩:=h2
    exact ⟨lc.addr,Nat.le_trans g1 g2,e⟩
   ·cases h1
  obtain ⟨n,hn,rfl⟩:=key
  refine ⟨UInt8.ofNat n :: bs,?_⟩
  simp only [List.map_cons]
  congr 2
  simp [UInt8.toNat_ofNat,Nat.mod_eq_of_lt (show n < 256 by omega)]
theorem str_ok {src dst e b off len c:Nat} {lc:Loc} (hs:P.underlying src = some (.slice e)) (he:P.underlying e = some (.int .u8)) (hd:P.underlying dst = some .string) (hν : ν b = some lc) (h:strL H nx b off len = some out) (hH:HRF ν H out.foot w) (hb:Below B w0 w) :
  Gives P nB B w0 ν H nx out w (convert src dst (.slice (some ⟨lc.addr,lc.base + off,none⟩) len c)):=by
 unfold strL at h
 split at h
 ·rename_i k hk
  simp only at h
  split at h
  ·rename_i hl
   split at h
   ·rename_i bs hbs
    cases h
    obtain ⟨lc',h1,h2⟩:=hH b k (by simp [footHas]) hk
    rw [hν] at h1; cases h1
    obtain ⟨us,h3,h4,h5⟩:=h2.stretch off len hl
    obtain ⟨ns,rfl,rfl⟩:=bytesL_ok hbs h4
    have hlo:=run_loadCells_list (P:=P) w ⟨lc.addr,lc.base + off,none⟩ (ns.map (Value.int .u8)) (fun j v hj=>by rw [add_off]; exact h5 j v hj)
    rw [h3] at hlo
    refine gives_val (v':=_) (by rw [run_convert_bytes_string w src dst e _ len c hs he hd,run_bytesToString w _ len c ns hlo,foldl_push_bytes]) ?_ hb
    simp only [VR]
    refine ⟨?_,rfl⟩
    congr 1
    simp [ByteArray.empty,ByteArray.emptyWithCapacity]
    rfl
   ·split at h
    ·rename_i hall
     cases h
     obtain ⟨lc',h1,h2⟩:=hH b k (by simp [footHas]) hk
     rw [hν] at h1; cases h1
     obtain ⟨us,h3,h4,h5⟩:=h2.stretch off len hl
     obtain ⟨bs,rfl⟩:=byteLVs_ok hall h4
     have hus : (bs.map fun b=>Value.int .u8 (b.toNat : Int)) = (bs.map fun b=>(b.toNat : Int)).map (Value.int .u8):=by rw [List.map_map]; rfl
     rw [hus] at h5 h3
     have hlo:=run_loadCells_list (P:=P) w ⟨lc.addr,lc.base + off,none⟩ _ (fun j v hj=>by rw [add_off]; exact h5 j v hj)
     rw [h3] at hlo
     refine gives_val (v':=_) (by rw [run_convert_bytes_string w src dst e _ len c hs he hd,run_bytesToString w _ len c _ hlo,foldl_push_bytes]) ?_ hb
     simp only [VR]
     refine ⟨bs,?_,h4⟩
     congr 1
     simp [ByteArray.empty,ByteArray.emptyWithCapacity]
     have : ((fun n:Int=>UInt8.ofNat n.toNat) ∘ fun b : UInt8=>(b.toNat : Int)) = fun b=>b:=by
      funext b
      simp
     rw [this,List.map_id']
     rfl
    ·cases h
  ·cases h
 ·cases h
theorem growBy_le (m:Nat) : ∀ (r c:Nat),c ≤ 2 * m → Builtin.growBy m r c ≤ 2 * m + 1024
 | 0,c,h=>by simp [Builtin.growBy]; omega
 | r + 1,c,h=>by
  simp only [Builtin.growBy]
  split
  ·omega
  ·rename_i hc
   by_cases h2 : c + (c + 768) / 4 ≤ 2 * m
   ·exact growBy_le m r _ h2
   ·-- then it is at least m,and stays
    have h3 : c + (c + 768) / 4 ≤ 2 * m + 1024:=by omega
    cases r with
    | zero=>simp [Builtin.growBy]; omega
    | succ r=>simp only [Builtin.growBy]; rw [if_pos (by omega)]; exact h3
theorem nextcap_le {m c:Nat} (h:c < m) : Builtin.nextslicecap m c ≤ 2 * m + 1024:=by
 unfold Builtin.nextslicecap
 split
 ·omega
 ·split
  ·omega
  ·exact growBy_le m 4 c (by omega)
theorem zeroCells_eq (z:Array Value) (n:Nat) : Builtin.zeroCells z n = ((List.replicate n z.toList).flatten).toArray:=range_rep z n _ rfl
theorem repL_len (z:List LV) : ∀ n,(repL z n).length = n * z.length
 | 0=>by simp [repL]
 | n + 1=>by simp [repL,repL_len z n,Nat.succ_mul,Nat.add_comm]
theorem tail_ok {t2:TypeId} {e n:Nat} {z new:List LV} {x:LV} {y:Value} {f:List Nat} {foot:Option (List Nat)} {v:Value} (hvz:VRs ν z v.cells.toList)
  (h:tailL P H t2 e z x = some (n,new,f)) (hv:VR ν x y) (hH:HRF ν H foot w) (hf:∀ i ∈ f,footHas foot i) :
  ∃ (d2:TypeDesc) (us:List Value),P.underlying t2 = some d2 ∧ VRs ν new us ∧ new.length = n * e ∧
   ((∃ k k',d2 = .int k ∧ y = .int k' (n:Int) ∧ us = (List.replicate n v.cells.toList).flatten ∧ z.length = e ∧ n ≤ 2 ^ 30) ∨ ((∀ k,d2 ≠ .int k) ∧ (Builtin.lenOf y).run P w = .ok n w ∧ ∀ w',w'.heap = w.heap → (Builtin.firstCells e n y).run P w' = .ok us.toArray w')):=by
 unfold tailL at h
 split at h
 ·rename_i k hu
  split at h
  ·rename_i m hm
   split at h
   ·rename_i hc
    cases h
    obtain ⟨k',hy⟩:=natL_ok hm hv
    refine ⟨_,_,hu,repL_ok hvz n,?_,.inl ⟨k,k',rfl,hy,rfl,hc.2,hc.1⟩⟩
    rw [← hc.2]; exact repL_len z n
   ·cases h
  ·cases h
 ·rename_i d hd hu
  split at h
  ·rename_i m hm
   split at h
   ·rename_i l f' hl
    cases h
    obtain ⟨us,h1,h2,h3⟩:=firstL_ok hl hv hH hf
    refine ⟨d,us,hu,h2,h3,.inr ⟨fun k e=>hd k e,lenL_ok hm hv w,h1⟩⟩
   ·cases h
  ·cases h
 ·cases h
end
end Go.Proofs.YtjpfhhndjpdmoaaGreatDoor
