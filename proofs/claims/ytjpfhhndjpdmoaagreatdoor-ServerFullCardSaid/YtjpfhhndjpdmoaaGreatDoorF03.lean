/- Part of the proof: EvT,EvU,EvV. No conditions of its own. -/
import Derived.Laws.BytesArg
import Derived.Test.YtjpfhhndjpdmoaaGreatDoorF02
import Derived.Lib.ConvBytes
namespace Go.Proofs.YtjpfhhndjpdmoaaGreatDoor
open Go.RowKit
set_option linter.unusedVariables false
set_option linter.unusedSimpArgs false

section
variable {P:Program} {nB B:Nat} {w0:World} {ν : Env} {T:Tr LV} {H:Hp} {nx:Nat} {w:World} {out:Out}
theorem bytes_vrs : ∀ (l:List UInt8),VRs ν (l.map fun b=>.v (.int .u8 b.toNat)) (l.map fun b=>.int .u8 b.toNat)
 | []=>VRs.nil_iff.2 rfl
 | b :: l=>VRs.cons_iff.2 ⟨_,_,rfl,by simp [VR,plainV],bytes_vrs l⟩
theorem lenL_ok {x:LV} {y:Value} {n:Nat} (h:lenL x = some n) (hv:VR ν x y) (w:World) : (Builtin.lenOf y).run P w = .ok n w:=by
 cases x with
 | v x =>
  simp only [VR] at hv
  obtain ⟨rfl,_⟩:=hv
  unfold lenL at h
  split at h
  ·rename_i e; cases e; cases h; rfl
  ·rename_i e; cases e; cases h; rfl
  all_goals first | (rename_i e; cases e) | (cases h)
 | slice b off len c=>simp only [VR] at hv; obtain ⟨l,_,rfl⟩:=hv; simp [lenL] at h; subst h; rfl
 | buf b off len e=>simp only [VR] at hv; obtain ⟨l,c,_,rfl,_⟩:=hv; simp [lenL] at h; subst h; rfl
 | emp=>simp only [VR] at hv; obtain ⟨l,c,rfl,_⟩:=hv; simp [lenL] at h; subst h; rfl
 | _=>simp [lenL] at h
theorem firstL_ok {e n:Nat} {x:LV} {y:Value} {l:List LV} {f:List Nat} {foot:Option (List Nat)} (h:firstL H e n x = some (l,f)) (hv:VR ν x y) (hH:HRF ν H foot w) (hf:∀ i ∈ f,footHas foot i) :
  ∃ us,(∀ w',w'.heap = w.heap → (Builtin.firstCells e n y).run P w' = .ok us.toArray w') ∧ VRs ν l us ∧ l.length = n * e:=by
 have hsl : ∀ (b off c m:Nat) (lc:Loc),ν b = some lc → (if n * e = 0 then some ([],[]) else match H.get b with
   | some k=>if ((k.cells.drop off).take (n * e)).length = n * e then some ((k.cells.drop off).take (n * e),[b]) else none
   | none=>none) = some (l,f) → ∃ us,(∀ w',w'.heap = w.heap → (Builtin.firstCells e n (.slice (some ⟨lc.addr,lc.base + off,none⟩) m c)).run P w' = .ok us.toArray w') ∧ VRs ν l us ∧ l.length = n * e:=by
  intro b off c m lc hlc h
  split at h
  ·rename_i h0
   cases h
   refine ⟨[],?_,VRs.nil_iff.2 rfl,by simp [h0]⟩
   intro w' _; simp [Builtin.firstCells,h0,loadCells,loadCellsFrom]
  ·split at h
   ·rename_i k hk
    split at h
    ·rename_i hl
     cases h
     obtain ⟨lc',h1,h2⟩:=hH b k (hf b (by simp)) hk
     rw [hlc] at h1; cases h1
     obtain ⟨us,h3,h4,h5⟩:=h2.stretch off (n * e) hl
     refine ⟨us,?_,h4,hl⟩
     intro w' hw'
     have:=run_loadCells_list (P:=P) w' ⟨lc.addr,lc.base + off,none⟩ us (fun j v hj=>by rw [add_off,World.cell?_of_block (w:=w) (by rw [hw'])]; exact h5 j v hj)
     rw [h3] at this
     exact this
    ·cases h
   ·cases h
 cases x with
 | v x =>
  simp only [VR] at hv
  obtain ⟨rfl,_⟩:=hv
  cases y with
  | string s =>
   simp only [firstL] at h
   split at h
   ·rename_i hc
    cases h
    obtain ⟨rfl,hn⟩:=hc
    refine ⟨(s.data.toList.take n).map fun b=>.int .u8 b.toNat,?_,bytes_vrs _,?_⟩
    ·intro w' _
     simp only [Builtin.firstCells,Sem.run_pure]
     congr 1
     apply Array.ext'
     simp [ByteArray.data_extract,List.extract_eq_drop_take']
    ·have : s.data.toList.length = s.size:=by simp
     simp; omega
   ·cases h
  | slice a m c =>
   cases a with
   | none=>simp only [firstL] at h; split at h
           ·rename_i h0; cases h; exact ⟨[],fun _ _=>rfl,VRs.nil_iff.2 rfl,by simp [h0]⟩
           ·cases h
   | some a=>simp [firstL] at h
  | _=>simp [firstL] at h
 | slice b off len c =>
  simp only [VR] at hv
  obtain ⟨lc,h1,rfl⟩:=hv
  simp only [firstL] at h
  exact hsl b off c len lc h1 h
 | buf b off len e' =>
  simp only [VR] at hv
  obtain ⟨lc,c,h1,rfl,_⟩:=hv
  simp only [firstL] at h
  exact hsl b off c len lc h1 h
 | emp =>
  simp only [VR] at hv
  obtain ⟨a,c,rfl,_⟩:=hv
  simp only [firstL] at h
  split at h
  ·rename_i h0
   cases h
   subst h0
   exact ⟨[],fun _ _=>by simp [Builtin.firstCells,loadCells,loadCellsFrom],VRs.nil_iff.2 rfl,by simp⟩
  ·cases h
 | _=>simp [firstL] at h
theorem bytesL_ok : ∀ {l:List LV} {bs:List UInt8} {us:List Value},bytesL l = some bs → VRs ν l us → ∃ ns : List Int,us = ns.map (Value.int .u8) ∧ bs = ns.map fun n=>UInt8.ofNat n.toNat
 | [],bs,us,h,hv=>by simp [bytesL] at h; subst h; rw [VRs.nil_iff.1 hv]; exact ⟨[],rfl,rfl⟩
 | x :: l,bs,us,h,hv=>by
  obtain ⟨u,us',rfl,h2,h3⟩:=VRs.cons_iff.1 hv
  unfold bytesL at h
  split at h
  ·rename_i e; cases e
  ·rename_i n l' e
   cases e
   simp only [Option.map_eq_some_iff] at h
   obtain ⟨bs',h4,rfl⟩:=h
   obtain ⟨ns,rfl,rfl⟩:=bytesL_ok h4 h3
   simp only [VR] at h2
   exact ⟨n :: ns,by rw [h2.1]; rfl,rfl⟩
  ·cases h
theorem byteLVs_ok : ∀ {l:List LV} {us:List Value},l.all byteLV = true → VRs ν l us → ∃ bs : List UInt8,us = bs.map fun b=>Value.int .u8 (b.toNat : Int)
 | [],us,_,hv=>⟨[],by rw [VRs.nil_iff.1 hv]; rfl⟩
 | x :: l,us,h,hv=>by
  obtain ⟨u,us',rfl,h2,h3⟩:=VRs.cons_iff.1 hv
  simp only [List.all_cons,Bool.and_eq_true] at h
  obtain ⟨bs,rfl⟩:=byteLVs_ok h.2 h3
  have key : ∃ n : Nat,n ≤ 255 ∧ u = .int .u8 (n:Int):=by
   have h1:=h.1
   unfold byteLV at h1
   split at h1
   ·rename_i n
    simp only [VR] at h2
    exact ⟨n,Nat.le_of_ble_eq_true h1,h2.1⟩
   ·simp only [VR] at h2
    obtain ⟨lc,_,e,_,g1,g2,_⟩:=h2
    exact ⟨lc.addr,Nat.le_trans g1 g2,e⟩
   ·cases h1
  obtain ⟨n,hn,rfl⟩:=key
  refine ⟨UInt8.ofNat n :: bs,?_⟩
  simp only [List.map_cons]
  congr 2
  simp [UInt8.toNat_ofNat,Nat.mod_eq_of_lt (show n < 256 by omega)]
theorem str_ok {src dst e b off len c:Nat} {lc:Loc} (hs:P.underlying src = some (.slice e)) (he:P.underlying e = some (.int .u8)) (hd:P.underlying dst = some .string) (hν : ν b = some lc) (h:strL H nx b off len = some out) (hH:HRF ν H out.foot w) (hb:Below B w0 w) :
  Gives P nB B w0 ν H nx out w (convert src dst (.slice (some ⟨lc.addr,lc.base + off,none⟩) len c)):=by
 unfold strL at h
 split at h
 ·rename_i k hk
  simp only at h
  split at h
  ·rename_i hl
   split at h
   ·rename_i bs hbs
    cases h
    obtain ⟨lc',h1,h2⟩:=hH b k (by simp [footHas]) hk
    rw [hν] at h1; cases h1
    obtain ⟨us,h3,h4,h5⟩:=h2.stretch off len hl
    obtain ⟨ns,rfl,rfl⟩:=bytesL_ok hbs h4
    have hlo:=run_loadCells_list (P:=P) w ⟨lc.addr,lc.base + off,none⟩ (ns.map (Value.int .u8)) (fun j v hj=>by rw [add_off]; exact h5 j v hj)
    rw [h3] at hlo
    refine gives_val (v':=_) (by rw [run_convert_bytes_string w src dst e _ len c hs he hd,run_bytesToString w _ len c ns hlo,foldl_push_bytes]) ?_ hb
    simp only [VR]
    refine ⟨?_,rfl⟩
    congr 1
    simp [ByteArray.empty,ByteArray.emptyWithCapacity]
    rfl
   ·split at h
    ·rename_i hall
     cases h
     obtain ⟨lc',h1,h2⟩:=hH b k (by simp [footHas]) hk
     rw [hν] at h1; cases h1
     obtain ⟨us,h3,h4,h5⟩:=h2.stretch off len hl
     obtain ⟨bs,rfl⟩:=byteLVs_ok hall h4
     have hus : (bs.map fun b=>Value.int .u8 (b.toNat : Int)) = (bs.map fun b=>(b.toNat : Int)).map (Value.int .u8):=by rw [List.map_map]; rfl
     rw [hus] at h5 h3
     have hlo:=run_loadCells_list (P:=P) w ⟨lc.addr,lc.base + off,none⟩ _ (fun j v hj=>by rw [add_off]; exact h5 j v hj)
     rw [h3] at hlo
     refine gives_val (v':=_) (by rw [run_convert_bytes_string w src dst e _ len c hs he hd,run_bytesToString w _ len c _ hlo,foldl_push_bytes]) ?_ hb
     simp only [VR]
     refine ⟨bs,?_,h4⟩
     congr 1
     simp [ByteArray.empty,ByteArray.emptyWithCapacity]
     have : ((fun n:Int=>UInt8.ofNat n.toNat) ∘ fun b : UInt8=>(b.toNat : Int)) = fun b=>b:=by
      funext b
      simp
     rw [this,List.map_id']
     rfl
    ·cases h
  ·cases h
 ·cases h
theorem growBy_le (m:Nat) : ∀ (r c:Nat),c ≤ 2 * m → Builtin.growBy m r c ≤ 2 * m + 1024
 | 0,c,h=>by simp [Builtin.growBy]; omega
 | r + 1,c,h=>by
  simp only [Builtin.growBy]
  split
  ·omega
  ·rename_i hc
   by_cases h2 : c + (c + 768) / 4 ≤ 2 * m
   ·exact growBy_le m r _ h2
   ·-- then it is at least m,and stays
    have h3 : c + (c + 768) / 4 ≤ 2 * m + 1024:=by omega
    cases r with
    | zero=>simp [Builtin.growBy]; omega
    | succ r=>simp only [Builtin.growBy]; rw [if_pos (by omega)]; exact h3
theorem nextcap_le {m c:Nat} (h:c < m) : Builtin.nextslicecap m c ≤ 2 * m + 1024:=by
 unfold Builtin.nextslicecap
 split
 ·omega
 ·split
  ·omega
  ·exact growBy_le m 4 c (by omega)
theorem zeroCells_eq (z:Array Value) (n:Nat) : Builtin.zeroCells z n = ((List.replicate n z.toList).flatten).toArray:=range_rep z n _ rfl
theorem repL_len (z:List LV) : ∀ n,(repL z n).length = n * z.length
 | 0=>by simp [repL]
 | n + 1=>by simp [repL,repL_len z n,Nat.succ_mul,Nat.add_comm]
theorem tail_ok {t2:TypeId} {e n:Nat} {z new:List LV} {x:LV} {y:Value} {f:List Nat} {foot:Option (List Nat)} {v:Value} (hvz:VRs ν z v.cells.toList)
  (h:tailL P H t2 e z x = some (n,new,f)) (hv:VR ν x y) (hH:HRF ν H foot w) (hf:∀ i ∈ f,footHas foot i) :
  ∃ (d2:TypeDesc) (us:List Value),P.underlying t2 = some d2 ∧ VRs ν new us ∧ new.length = n * e ∧
   ((∃ k k',d2 = .int k ∧ y = .int k' (n:Int) ∧ us = (List.replicate n v.cells.toList).flatten ∧ z.length = e ∧ n ≤ 2 ^ 30) ∨ ((∀ k,d2 ≠ .int k) ∧ (Builtin.lenOf y).run P w = .ok n w ∧ ∀ w',w'.heap = w.heap → (Builtin.firstCells e n y).run P w' = .ok us.toArray w')):=by
 unfold tailL at h
 split at h
 ·rename_i k hu
  split at h
  ·rename_i m hm
   split at h
   ·rename_i hc
    cases h
    obtain ⟨k',hy⟩:=natL_ok hm hv
    refine ⟨_,_,hu,repL_ok hvz n,?_,.inl ⟨k,k',rfl,hy,rfl,hc.2,hc.1⟩⟩
    rw [← hc.2]; exact repL_len z n
   ·cases h
  ·cases h
 ·rename_i d hd hu
  split at h
  ·rename_i m hm
   split at h
   ·rename_i l f' hl
    cases h
    obtain ⟨us,h1,h2,h3⟩:=firstL_ok hl hv hH hf
    refine ⟨d,us,hu,h2,h3,.inr ⟨fun k e=>hd k e,lenL_ok hm hv w,h1⟩⟩
   ·cases h
  ·cases h
 ·cases h
end
end Go.Proofs.YtjpfhhndjpdmoaaGreatDoor

namespace Go.Proofs.YtjpfhhndjpdmoaaGreatDoor
open Go.RowKit
set_option linter.unusedVariables false
set_option linter.unusedSimpArgs false

section
variable {P:Program} {nB B:Nat} {w0:World} {ν : Env} {T:Tr LV} {H:Hp} {nx:Nat} {w:World} {out:Out}
def TailR (P:Program) (w:World) (v:Value) (bytes:Nat) (e n:Nat) (t2:TypeId) (y:Value) (us:List Value) : Prop :=
 ∃ d2,P.underlying t2 = some d2 ∧ ((∃ k k',d2 = .int k ∧ y = .int k' (n:Int) ∧ us = (List.replicate n v.cells.toList).flatten ∧ v.cells.size = e ∧ n ≤ 2 ^ 30 ∧ bytes * n ≤ 2 ^ 40) ∨ ((∀ k,d2 ≠ .int k) ∧ (Builtin.lenOf y).run P w = .ok n w ∧ ∀ w',w'.heap = w.heap → (Builtin.firstCells e n y).run P w' = .ok us.toArray w'))
theorem notInt {d:TypeDesc} (h:∀ k,d ≠ .int k) : (match d with | .int _=>true | _=>false) = false:=by
 cases d <;> first | rfl | exact (h _ rfl).elim
theorem append_in {t t2 elem type:TypeId} {argTypes:Array TypeId} {a:Addr} {sl c e n:Nat} {y v:Value} {us:List Value} {w':World} {inf:TypeInfo} (h0:argTypes[0]? = some t) (h1:argTypes[1]? = some t2) (hu:P.underlying t = some (.slice elem)) (he:sizeL P elem = some e) (hi:P.info? elem = some inf)
  (hz:∀ w,(zeroValue elem).run P w = .ok v w) (ht:TailR P w v inf.bytes e n t2 y us) (hle:sl + n ≤ c) (hs:(storeCells (a.add (sl * e)) us).run P w = .ok () w') :
  (Builtin.append_ argTypes type #[.slice (some a) sl c,y]).run P w = .ok (.slice (some a) (sl + n) c) w':=by
 obtain ⟨d2,hd2,⟨k,k',rfl,rfl,rfl,hvz,hn,hbn⟩ | ⟨hd,hlen,hcells⟩⟩:=ht
 ·have hti : (typeInfo elem).run P w = .ok inf w:=by simp [typeInfo,hi]
  have hbn' : ¬ ((n:Int) * (inf.bytes : Int) > 2 ^ 48):=by
   have : ((inf.bytes * n : Nat) : Int) ≤ ((2 ^ 40 : Nat) : Int):=Int.ofNat_le.2 hbn
   rw [Int.natCast_mul,Int.mul_comm] at this
   have e : ((2 ^ 40 : Nat) : Int) < 2 ^ 48:=by decide
   omega
  have hw : IntKind.i64.wrap (n:Int) = n:=wrap_nat n (by omega)
  simp only [Builtin.append_,h0,h1,show (#[Value.slice (some a) sl c,Value.int k' (n:Int)])[0]? = some (.slice (some a) sl c) from rfl,show (#[Value.slice (some a) sl c,Value.int k' (n:Int)])[1]? = some (.int k' (n:Int)) from rfl,
   Sem.run_bind,run_underlying hu,Result.andThen_ok,run_sizeOf he,run_underlying hd2,Sem.run_pure,if_true,asInt,asIntOf,hw,hti]
  rw [if_neg (by omega)]
  simp only [Sem.run_bind,Sem.run_pure,Result.andThen_ok,hti]
  rw [if_neg hbn']
  simp only [Sem.run_bind,Sem.run_pure,Result.andThen_ok,Int.toNat_natCast]
  rw [if_pos hle]
  by_cases hn0 : n * e = 0
  ·have hnil : (List.replicate n v.cells.toList).flatten = []:=by
    rcases Nat.mul_eq_zero.1 hn0 with h | h
    ·subst h; rfl
    ·have : v.cells.toList = []:=List.eq_nil_of_length_eq_zero (by rw [Array.length_toList,hvz,h])
     rw [this]; exact flat_nil n
   rw [hnil] at hs
   simp [hn0,hs]
  ·simp [hn0,hz,zeroCells_eq,hs]
 ·simp only [Builtin.append_,h0,h1,show (#[Value.slice (some a) sl c,y])[0]? = some (.slice (some a) sl c) from rfl,show (#[Value.slice (some a) sl c,y])[1]? = some y from rfl,
   Sem.run_bind,run_underlying hu,Result.andThen_ok,run_sizeOf he,run_underlying hd2,Sem.run_pure,notInt hd,Bool.false_eq_true,if_false,hlen,Bool.not_false,if_true]
  rw [if_pos hle]
  simp [hcells w rfl,hs]
theorem append_grow {t t2 elem type:TypeId} {argTypes:Array TypeId} {s y v:Value} {sl c e n:Nat} {us os:List Value} {inf:TypeInfo} {base:Option Addr} (h0:argTypes[0]? = some t) (h1:argTypes[1]? = some t2) (hu:P.underlying t = some (.slice elem)) (he:sizeL P elem = some e) (hi:P.info? elem = some inf)
  (hz:∀ w,(zeroValue elem).run P w = .ok v w) (ht:TailR P w v inf.bytes e n t2 y us) (hs:s = .slice base sl c) (hlt:c < sl + n) (hbn:inf.bytes * (2 * (sl + n) + 1024) ≤ 2 ^ 40) (hsm:sl + n ≤ 2 ^ 40) (hos:∀ w',w'.heap = w.heap → (Builtin.firstCells e sl s).run P w' = .ok os.toArray w') :
  ∃ nc,(sl + n ≤ nc ∧ nc ≤ 2 ^ 63 - 1) ∧ (Builtin.append_ argTypes type #[s,y]).run P w = .ok (.slice (some ⟨w.heap.size,0,none⟩) (sl + n) nc) (w.drew.alloc (.cells (os ++ us ++ (List.replicate (nc - (sl + n)) v.cells.toList).flatten).toArray elem)):=by
 subst hs
 have hti : ∀ w,(typeInfo elem).run P w = .ok inf w:=fun w=>by simp [typeInfo,hi]
 have hnc : ¬ (Builtin.nextslicecap (sl + n) c * inf.bytes > 2 ^ 48):=by
  have h1:=nextcap_le hlt
  have h2 : Builtin.nextslicecap (sl + n) c * inf.bytes ≤ (2 * (sl + n) + 1024) * inf.bytes:=Nat.mul_le_mul_right _ h1
  rw [Nat.mul_comm (2 * (sl + n) + 1024)] at h2
  omega
 have hmx : ¬ (((sl + n : Nat) : Int) > IntKind.i64.max):=by
  have : IntKind.i64.max = 2 ^ 63 - 1:=by decide
  rw [this]; omega
 have hq : (Question.appendCap (sl + n) c elem).forced = false:=rfl
 refine ⟨sl + n + w.tape w.drawn (.appendCap (sl + n) c elem) % (2 ^ 63 - (sl + n)),⟨by omega,by have:=Nat.mod_lt (w.tape w.drawn (.appendCap (sl + n) c elem)) (show 0 < 2 ^ 63 - (sl + n) by omega); omega⟩,?_⟩
 have hcd : w.drew.heap = w.heap:=rfl
 obtain ⟨d2,hd2,⟨k,k',rfl,rfl,rfl,hvz,hn,hbn2⟩ | ⟨hd,hlen,hcells⟩⟩:=ht
 ·have hbn' : ¬ ((n:Int) * (inf.bytes : Int) > 2 ^ 48):=by
   have : ((inf.bytes * n : Nat) : Int) ≤ ((2 ^ 40 : Nat) : Int):=Int.ofNat_le.2 hbn2
   rw [Int.natCast_mul,Int.mul_comm] at this
   have e : ((2 ^ 40 : Nat) : Int) < 2 ^ 48:=by decide
   omega
  have hw : IntKind.i64.wrap (n:Int) = n:=wrap_nat n (by omega)
  simp only [Builtin.append_,h0,h1,show (#[Value.slice base sl c,Value.int k' (n:Int)])[0]? = some (.slice base sl c) from rfl,show (#[Value.slice base sl c,Value.int k' (n:Int)])[1]? = some (.int k' (n:Int)) from rfl,
   Sem.run_bind,run_underlying hu,Result.andThen_ok,run_sizeOf he,run_underlying hd2,Sem.run_pure,if_true,asInt,asIntOf,hw,hti]
  rw [if_neg (by omega)]
  simp only [Sem.run_bind,Sem.run_pure,Result.andThen_ok,hti]
  rw [if_neg hbn']
  simp only [Sem.run_bind,Sem.run_pure,Result.andThen_ok,Int.toNat_natCast]
  rw [if_neg (by omega)]
  simp only [Sem.run_bind,Sem.run_pure,Result.andThen_ok,hti]
  rw [if_neg (fun h=>hmx h.1)]
  simp only [Sem.run_bind,Sem.run_pure,Result.andThen_ok,hti]
  rw [if_neg hnc]
  simp only [Sem.run_bind,Sem.run_pure,Result.andThen_ok,hti,run_choose_drew,hq,Bool.false_eq_true,if_false,Question.cut,run_askRoom,hos _ hcd]
  by_cases hn0 : n * e = 0
  ·have hnil : (List.replicate n v.cells.toList).flatten = []:=by
    rcases Nat.mul_eq_zero.1 hn0 with h | h
    ·subst h; rfl
    ·have : v.cells.toList = []:=List.eq_nil_of_length_eq_zero (by rw [Array.length_toList,hvz,h])
     rw [this]; exact flat_nil n
   simp [hn0,hz,zeroCells_eq,hnil,newRow]
  ·simp [hn0,hz,zeroCells_eq,newRow]
 ·simp only [Builtin.append_,h0,h1,show (#[Value.slice base sl c,y])[0]? = some (.slice base sl c) from rfl,show (#[Value.slice base sl c,y])[1]? = some y from rfl,
   Sem.run_bind,run_underlying hu,Result.andThen_ok,run_sizeOf he,run_underlying hd2,Sem.run_pure,notInt hd,Bool.false_eq_true,if_false,hlen,Bool.not_false,if_true]
  rw [if_neg (by omega)]
  simp only [Sem.run_bind,Sem.run_pure,Result.andThen_ok,hti]
  rw [if_neg (fun h=>hmx h.1)]
  simp only [Sem.run_bind,Sem.run_pure,Result.andThen_ok,hti]
  rw [if_neg hnc]
  simp only [Sem.run_bind,Sem.run_pure,Result.andThen_ok,hti,run_choose_drew,hq,Bool.false_eq_true,if_false,Question.cut,run_askRoom,hos _ hcd,hcells _ hcd,hz,zeroCells_eq]
  simp [newRow]
theorem tailR_of {t2:TypeId} {e n:Nat} {z new:List LV} {x:LV} {y:Value} {f:List Nat} {foot:Option (List Nat)} {v:Value} {bytes:Nat} (hvz:VRs ν z v.cells.toList)
  (h:tailL P H t2 e z x = some (n,new,f)) (hv:VR ν x y) (hH:HRF ν H foot w) (hf:∀ i ∈ f,footHas foot i) (hb:bytes * n ≤ 2 ^ 40) :
  ∃ us,VRs ν new us ∧ new.length = n * e ∧ TailR P w v bytes e n t2 y us:=by
 obtain ⟨d2,us,h1,h2,h3,h4⟩:=tail_ok hvz h hv hH hf
 refine ⟨us,h2,h3,d2,h1,?_⟩
 rcases h4 with ⟨k,k',h5,h6,h7,h8,h9⟩ | ⟨h5,h6,h7⟩
 ·exact .inl ⟨k,k',h5,h6,h7,by have:=hvz.length; simp at this; omega,h9,hb⟩
 ·exact .inr ⟨h5,h6,h7⟩
theorem append_nil {t t2 elem type:TypeId} {argTypes:Array TypeId} {e:Nat} {y v:Value} {us:List Value} {inf:TypeInfo} (h0:argTypes[0]? = some t) (h1:argTypes[1]? = some t2) (hu:P.underlying t = some (.slice elem)) (he:sizeL P elem = some e) (hi:P.info? elem = some inf)
  (hz:∀ w,(zeroValue elem).run P w = .ok v w) (ht:TailR P w v inf.bytes e 0 t2 y us) :
  (Builtin.append_ argTypes type #[.slice none 0 0,y]).run P w = .ok (.slice none 0 0) w:=by
 obtain ⟨d2,hd2,⟨k,k',rfl,rfl,rfl,hvz,hn,hbn⟩ | ⟨hd,hlen,hcells⟩⟩:=ht
 ·have hti : (typeInfo elem).run P w = .ok inf w:=by simp [typeInfo,hi]
  have hw : IntKind.i64.wrap ((0 : Nat) : Int) = (0 : Nat):=wrap_nat 0 (by omega)
  simp only [Builtin.append_,h0,h1,show (#[Value.slice none 0 0,Value.int k' ((0 : Nat) : Int)])[0]? = some (.slice none 0 0) from rfl,show (#[Value.slice none 0 0,Value.int k' ((0 : Nat) : Int)])[1]? = some (.int k' ((0 : Nat) : Int)) from rfl,
   Sem.run_bind,run_underlying hu,Result.andThen_ok,run_sizeOf he,run_underlying hd2,Sem.run_pure,if_true,asInt,asIntOf,hw,hti]
  simp [hti]
 ·simp only [Builtin.append_,h0,h1,show (#[Value.slice none 0 0,y])[0]? = some (.slice none 0 0) from rfl,show (#[Value.slice none 0 0,y])[1]? = some y from rfl,
   Sem.run_bind,run_underlying hu,Result.andThen_ok,run_sizeOf he,run_underlying hd2,Sem.run_pure,notInt hd,Bool.false_eq_true,if_false,hlen,Bool.not_false,if_true]
  simp [hcells w rfl]
theorem flat_len {vs:List Value} : ∀ n,((List.replicate n vs).flatten).length = n * vs.length
 | 0=>by simp
 | n + 1=>by rw [List.replicate_succ,List.flatten_cons,List.length_append,flat_len n,Nat.succ_mul,Nat.add_comm]
theorem gives_grow {elem:TypeId} {mk:Bool} {e sl n nc:Nat} {old new:List LV} {os us:List Value} {v:Value} {m:Sem Value} {foot:Option (List Nat)} (hν : ν nx = none) (ho:VRs ν old os) (hn:VRs ν new us) (hol:old.length = sl * (e + 1)) (hnl:new.length = n * (e + 1)) (hv:v.cells.size = e + 1) (hnc:sl + n ≤ nc ∧ nc ≤ 2 ^ 63 - 1) (h1:(old ++ new).all LV.isOne = true)
  (hb:Below B w0 w) (hB:B ≤ w0.heap.size) (hm:m.run P w = .ok (.slice (some ⟨w.heap.size,0,none⟩) (sl + n) nc) (w.drew.alloc (.cells (os ++ us ++ (List.replicate (nc - (sl + n)) v.cells.toList).flatten).toArray elem))) :
  Gives P nB B w0 ν H nx ⟨.buf nx 0 (sl + n) (e + 1),[(nx,some ⟨elem,false,mk,old ++ new⟩)],nx + 1,foot⟩ w m:=by
 have e1:=ho.length
 have e2:=hn.length
 have hsz : (os ++ us ++ (List.replicate (nc - (sl + n)) v.cells.toList).flatten).length = nc * (e + 1):=by
  rw [List.length_append,List.length_append,flat_len,e1,e2,hol,hnl,Array.length_toList,hv,← Nat.add_mul,← Nat.add_mul]
  congr 1; omega
 refine ⟨_,_,_,post_new (w':=w.drew.alloc (.cells (os ++ us ++ (List.replicate (nc - (sl + n)) v.cells.toList).flatten).toArray elem)) (fr:=(0,0)) (v':=.slice (some ⟨w.heap.size,0,none⟩) (sl + n) nc) hν rfl (.inl rfl) (fun _=>rfl) (fun h=>by cases h) ⟨os ++ us,_,by simp; rfl,ho.append hn⟩ h1 (below_alloc hb.drew hB _) ?_,hm⟩
 simp only [VR]
 exact ⟨_,nc,envNew_self _,rfl,hnc.1,by simpa using hsz.symm,hnc.2⟩
theorem heap_da (w:World) (o:Obj) : (w.drew.alloc o).heap = w.heap.push o:=rfl
theorem post_over {b:Nat} {l lb:Loc} {k:Blk} {kb:Blk} {v:LV} {foot:Option (List Nat)} {w':World} {v':Value}
  (hbn:b < nx) (hnB:nB ≤ b) (hH:H.get b = some kb) (hνb : ν b = some lb) (hν : ν nx = none) (hblk:BlkR (envNew ν nx l) l k w'.heap[l.addr]?) (ho:∀ a,a < w.heap.size → a ≠ lb.addr → w'.heap[a]? = w.heap[a]?)
  (hl:w.heap.size ≤ l.addr ∨ lb.addr = l.addr) (hb:Below B w0 w') (hsz:w.heap.size ≤ w'.heap.size) (hv:VR (envNew ν nx l) v v') :
  OpPost nB B w0 ν (envNew ν nx l) H nx ⟨v,[(b,none),(nx,some k)],nx + 1,foot⟩ w w' v':=by
 have hd : ∀ i,dget [(b,none),(nx,some k)] i = if i = nx then some (some k) else if i = b then some none else none:=fun i=>by
  simp only [dget]
  by_cases h1 : i = nx <;> simp [h1]
 exact {
  ext:=fun i hi=>by unfold envNew; rw [if_neg (by simp at hi; omega)]
  val:=hv
  blk:=fun i k' h=>by
   simp only [hd] at h
   split at h
   ·rename_i e; subst e; cases h; exact ⟨l,envNew_self _,hblk⟩
   ·split at h <;> cases h
  frame:=fun a ha h=>ho a ha (fun e=>h b lb hbn (by simp only [hd]; split <;> simp) hνb e.symm)
  fresh:=fun i k' l' hi h hl'=>by
   simp only [hd] at h
   split at h
   ·rename_i e; subst e
    rw [envNew_self] at hl'; cases hl'
    exact hl.imp id (fun e=>⟨b,lb,hbn,by simp only [hd]; rw [if_neg (by omega)]; simp,hνb,e⟩)
   ·split at h <;> cases h
  inj:=fun i j ki kj li lj _ _ h1 h2 _ _ _=>by
   simp only [hd] at h1 h2
   split at h1
   ·rename_i e1
    split at h2
    ·rename_i e2; rw [e1,e2]
    ·split at h2 <;> cases h2
   ·split at h1 <;> cases h1
  old:=fun i hi h=>by
   simp only [hd] at h
   rw [if_neg (by omega)] at h
   split at h
   ·rename_i e; subst e; exact ⟨hnB,by simp [hH]⟩
   ·cases h
  new:=fun i hi h=>by
   simp only [hd] at h
   split at h
   ·rename_i e; simp; omega
   ·split at h
    ·omega
    ·cases h
  below:=hb
  size:=hsz }
theorem op_append {type:TypeId} {argTypes:Array TypeId} {s x:LV} {s' x':Value} (h:appendL P nB H nx argTypes.toList s x = some out) (hs:VR ν s s') (hx:VR ν x x') (hν : out.nx = nx + 1 → ν nx = none) (hH:HRF ν H out.foot w) (hlow:LowF nB B ν H out.foot) (hid:∀ i k,H.get i = some k → i < nx) (hb:Below B w0 w) (hB:B ≤ w0.heap.size) :
  Gives P nB B w0 ν H nx out w (Builtin.append_ argTypes type #[s',x']):=by
 unfold appendL at h
 split at h
 ·rename_i t t2 rest hat
  have h0 : argTypes[0]? = some t:=by rw [← Array.getElem?_toList,hat]; rfl
  have h1 : argTypes[1]? = some t2:=by rw [← Array.getElem?_toList,hat]; rfl
  split at h
  ·rename_i elem hu
   split at h
   ·rename_i e sl z inf he hsl hz hi
    obtain ⟨v,hv,hvz,hz1⟩:=run_zero (ν:=ν) hz
    split at h
    ·rename_i n new f1 ht
     split at h
     ·rename_i hsm
      obtain ⟨hbn,hsm,hzl⟩:=hsm
      have hve : v.cells.size = e + 1:=by have:=hvz.length; simp at this; omega
      have hbn1 : inf.bytes * n ≤ 2 ^ 40:=Nat.le_trans (Nat.mul_le_mul_left _ (by omega)) hbn
      split at h
      ·-- emp
       split at h
       ·rename_i h0n
        subst h0n
        cases h
        simp only [lenL,Option.some.injEq] at hsl
        subst hsl
        obtain ⟨us,hus,hul,hT⟩:=tailR_of (w:=w) (P:=P) (bytes:=inf.bytes) hvz ht hx hH (fun i hi=>hi) hbn1
        simp only [VR] at hs
        obtain ⟨a,c,rfl,hsp,hcm⟩:=hs
        have hnil : us = []:=List.eq_nil_of_length_eq_zero (by rw [hus.length,hul]; simp)
        subst hnil
        have:=append_in (type:=type) (sl:=0) (c:=c) (a:=a) (w':=w) h0 h1 hu he hi hv hT (by omega) (by simp [storeCells])
        exact gives_val this (by simp only [VR]; exact ⟨_,_,rfl,hsp,hcm⟩) hb
       ·cases h
      ·-- nil
       simp only [lenL,Option.some.injEq] at hsl
       subst hsl
       simp only [VR] at hs
       obtain ⟨rfl,_⟩:=hs
       split at h
       ·rename_i h0n
        subst h0n
        cases h
        obtain ⟨us,hus,hul,hT⟩:=tailR_of (w:=w) (P:=P) (bytes:=inf.bytes) hvz ht hx hH (fun i hi=>hi) hbn1
        exact gives_val (append_nil h0 h1 hu he hi hv hT) (by simp [VR,plainV]) hb
       ·rename_i h0n
        obtain ⟨h2,rfl⟩:=new1_inv h
        obtain ⟨us,hus,hul,hT⟩:=tailR_of (w:=w) (P:=P) (bytes:=inf.bytes) hvz ht hx hH (fun i hi=>hi) hbn1
        obtain ⟨nc,hnc,hm⟩:=append_grow (type:=type) (base:=none) (s:=.slice none 0 0) (sl:=0) (c:=0) (os:=[]) h0 h1 hu he hi hv hT rfl (by omega) hbn hsm (fun w' _=>by simp [Builtin.firstCells])
        have:=gives_grow (mk:=false) (nB:=nB) (H:=H) (foot:=some f1) (sl:=0) (old:=[]) (hν rfl) (VRs.nil_iff.2 rfl) hus (by simp) hul hve hnc (by simpa using h2) hb hB hm
        simpa using this
      ·-- of known capacity
       rename_i b off len c
       simp only [lenL,Option.some.injEq] at hsl
       subst hsl
       simp only [VR] at hs
       obtain ⟨lc,hlc,rfl⟩:=hs
       split at h
       ·rename_i hfit
        split at h
        ·rename_i hnB
         split at h
         ·rename_i k hk
          split at h
          ·rename_i hc
           cases h
           obtain ⟨us,hus,hul,hT⟩:=tailR_of (w:=w) (P:=P) (bytes:=inf.bytes) hvz ht hx hH (fun i hi=>List.mem_cons_of_mem _ hi) hbn1
           obtain ⟨lc',h3,h4⟩:=hH b k (by simp [footHas]) hk
           rw [hlc] at h3; cases h3
           obtain ⟨w',h5,h6⟩:=store_ok (P:=P) (v:=.slice b off (len + n) c) (foot:=some (b :: f1)) (v':=.slice (some ⟨lc.addr,lc.base + off,none⟩) (len + n) c) (hid b k hk) hnB hk hlc h4 (hlow b k lc (by simp [footHas]) hnB hk hlc) hus hc.2 (by rw [hul]; exact hc.1) hb (by simp only [VR]; exact ⟨lc,hlc,rfl⟩)
           exact ⟨_,w',ν,h6,append_in h0 h1 hu he hi hv hT hfit (by rw [add_off,Nat.add_assoc]; exact h5)⟩
          ·cases h
         ·cases h
        ·cases h
       ·rename_i hfit
        split at h
        ·rename_i old f2 hold
         obtain ⟨h2,rfl⟩:=new1_inv h
         obtain ⟨us,hus,hul,hT⟩:=tailR_of (w:=w) (P:=P) (bytes:=inf.bytes) hvz ht hx hH (fun i hi=>List.mem_append_left _ hi) hbn1
         obtain ⟨os,ho1,ho2,ho3⟩:=firstL_ok (P:=P) hold (show VR ν (.slice b off len c) (.slice (some ⟨lc.addr,lc.base + off,none⟩) len c) by simp only [VR]; exact ⟨lc,hlc,rfl⟩) hH (fun i hi=>List.mem_append_right _ hi)
         obtain ⟨nc,hnc,hm⟩:=append_grow (type:=type) h0 h1 hu he hi hv hT rfl (by omega) hbn hsm ho1
         exact gives_grow (hν rfl) ho2 hus ho3 hul hve hnc h2 hb hB hm
        ·cases h
      ·-- of unknown capacity
       rename_i b off len eb
       simp only [lenL,Option.some.injEq] at hsl
       subst hsl
       simp only [VR] at hs
       obtain ⟨lc,c,hlc,rfl,hlc2,hlc3,hlc4⟩:=hs
       split at h
       ·rename_i hnB
        obtain ⟨hnB,rfl⟩:=hnB
        split at h
        ·rename_i k hk
         split at h
         ·rename_i hfit
          split at h
          ·rename_i hc
           cases h
           obtain ⟨us,hus,hul,hT⟩:=tailR_of (w:=w) (P:=P) (bytes:=inf.bytes) hvz ht hx hH (fun i hi=>List.mem_cons_of_mem _ hi) hbn1
           obtain ⟨lc',h3,h4⟩:=hH b k (by simp [footHas]) hk
           rw [hlc] at h3; cases h3
           have hroom : len + n ≤ c:=by
            obtain ⟨cc,fr,g1,g2,g3,⟨pre,vs,rest,g4,g40,g5⟩,_⟩:=h4
            have g6:=g5.length
            have g7 : cc.size = pre.length + (vs.length + rest.length):=by have:=congrArg List.length g4; simpa using this
            have : (len + n) * (e + 1) ≤ c * (e + 1):=by omega
            exact Nat.le_of_mul_le_mul_right this (by omega)
           obtain ⟨w',h5,h6⟩:=store_ok (P:=P) (off:=off + len * (e + 1)) (v:=.buf b off (len + n) (e + 1)) (foot:=some (b :: f1)) (v':=.slice (some ⟨lc.addr,lc.base + off,none⟩) (len + n) c) (hid b k hk) hnB hk hlc h4 (hlow b k lc (by simp [footHas]) hnB hk hlc) hus hc (by rw [hul]; rw [Nat.add_mul] at hfit; omega) hb (by simp only [VR]; exact ⟨lc,c,hlc,rfl,hroom,hlc3,hlc4⟩)
           exact ⟨_,w',ν,h6,append_in h0 h1 hu he hi hv hT hroom (by rw [add_off,Nat.add_assoc]; exact h5)⟩
          ·cases h
         ·rename_i hfit
          split at h
          ·rename_i hc
           obtain ⟨hc1,hc2,hc3⟩:=hc
           cases h
           obtain ⟨us,hus,hul,hT⟩:=tailR_of (w:=w) (P:=P) (bytes:=inf.bytes) hvz ht hx hH (fun i hi=>List.mem_cons_of_mem _ hi) hbn1
           obtain ⟨lc',h3,h4⟩:=hH b k (by simp [footHas]) hk
           rw [hlc] at h3; cases h3
           have hbx:=hid b k hk
           have hnx : ν nx = none:=hν rfl
           by_cases hroom : len + n ≤ c
           ·obtain ⟨cc,fr,g1,g2,g3,⟨pre,vs,rest,g4,g40,g5⟩,g6,g7,g7'⟩:=h4
            have g8:=g5.length
            have g9:=hus.length
            have g10 : cc.size = pre.length + (vs.length + rest.length):=by have:=congrArg List.length g4; simpa using this
            have hfit2 : lc.base + off + len * (e + 1) + us.length ≤ cc.size:=by
             have : (len + n) * (e + 1) ≤ c * (e + 1):=Nat.mul_le_mul_right _ hroom
             rw [Nat.add_mul] at this
             omega
            have hst:=run_storeCells_ok (P:=P) lc.addr (lc.base + off + len * (e + 1)) k.elem fr us 0 cc w g1 (frz g7) hfit2 (hus.one hc3)
            simp only [Nat.add_zero] at hst
            obtain ⟨va,vb,hva,hvb,hvab⟩ : ∃ va vb,va = vs.take off ∧ vb = vs.drop off ∧ vs = va ++ vb:=⟨_,_,rfl,rfl,(List.take_append_drop off vs).symm⟩
            have hval : va.length = off:=by rw [hva,List.length_take]; omega
            have hvbl : va.length + vb.length = vs.length:=by rw [hvab,List.length_append]
            have hc' : (cc.toList.take (lc.base + off + len * (e + 1)) ++ us ++ cc.toList.drop (lc.base + off + len * (e + 1) + us.length)) = (pre ++ va) ++ ((vb ++ us) ++ rest.drop us.length):=by
             have hk1 : lc.base + off + len * (e + 1) = (pre ++ vs).length:=by rw [List.length_append]; omega
             rw [g4,← List.append_assoc,hk1,List.take_left,← List.drop_drop,List.drop_left,hvab]
             simp only [List.append_assoc]
            rw [hc'] at hst
            refine ⟨_,_,_,post_over (l:=⟨lc.addr,lc.sz - off,lc.base + off⟩) (lb:=lc) hbx hnB hk hlc hnx ⟨((pre ++ va) ++ ((vb ++ us) ++ rest.drop us.length)).toArray,fr,?_,?_,(fun he=>absurd he (by simp)),⟨pre ++ va,vb ++ us,rest.drop us.length,rfl,?_,by rw [hvb]; exact (VRs.ext (envNew_ext hnx) _ _ (g5.drop off)).append (VRs.ext (envNew_ext hnx) _ _ hus)⟩,?_,?_,fun h=>absurd h (by simp)⟩ (fun a _ ha=>setRow_other w _ _ _ ha) (.inr rfl) (below_setRow hb (hlow b k lc (by simp [footHas]) hnB hk hlc) _) (by simp) ?_,append_in h0 h1 hu he hi hv hT hroom (by rw [add_off]; exact hst)⟩
            ·rw [← hc2]; exact setRow_heap w lc.addr cc _ k.elem fr g1
            ·simp only [List.size_toArray,List.length_append,List.length_drop]; omega
            ·show (pre ++ va).length = lc.base + off
             rw [List.length_append]; omega
            ·simp only [List.all_append,Bool.and_eq_true]; exact ⟨List.all_eq_true.2 fun x hx=>List.all_eq_true.1 g6 x (List.mem_of_mem_drop hx),hc3⟩
            ·exact g7.imp id (fun h=>by simp only [List.size_toArray,List.length_append,List.length_drop]; omega)
            ·simp only [VR]; exact ⟨_,c,envNew_self _,rfl,hroom,(by show 0 + c * (e + 1) = lc.sz - off; omega),hlc4⟩
           ·obtain ⟨os,ho1,ho2,ho3⟩:=firstL_ok (w:=w) (P:=P) (e:=e + 1) (n:=len) (l:=(k.cells.drop off).take (len * (e + 1))) (f:=if len * (e + 1) = 0 then [] else [b]) (foot:=some (b :: f1)) (by
              simp only [firstL,hk]
              by_cases hz0 : len * (e + 1) = 0
              ·simp [hz0]
              ·rw [if_neg hz0,if_neg hz0,if_pos (by simp; omega)]) (show VR ν (.buf b off len (e + 1)) (.slice (some ⟨lc.addr,lc.base + off,none⟩) len c) by simp only [VR]; exact ⟨lc,c,hlc,rfl,hlc2,hlc3,hlc4⟩) hH (fun i hi=>by split at hi <;> simp_all [footHas])
            have hke : (k.cells.drop off).take (len * (e + 1)) = k.cells.drop off:=List.take_of_length_le (by rw [List.length_drop]; omega)
            rw [hke] at ho2 ho3
            obtain ⟨nc,hnc,hm⟩:=append_grow (type:=type) h0 h1 hu he hi hv hT rfl (by omega) hbn hsm ho1
            have e1:=ho2.length
            have e2:=hus.length
            have hsz : (os ++ us ++ (List.replicate (nc - (len + n)) v.cells.toList).flatten).length = nc * (e + 1):=by
             rw [List.length_append,List.length_append,flat_len,e1,e2,ho3,hul,Array.length_toList,hve,← Nat.add_mul,← Nat.add_mul]
             congr 1; omega
            refine ⟨_,_,_,post_over (l:=⟨w.heap.size,(os ++ us ++ (List.replicate (nc - (len + n)) v.cells.toList).flatten).toArray.size,0⟩) (lb:=lc) hbx hnB hk hlc hnx ⟨_,(0,0),by rw [heap_da]; simp,(Nat.zero_add _).symm,(fun he=>absurd he (by simp)),⟨[],os ++ us,_,by simp; rfl,rfl,(VRs.ext (envNew_ext hnx) _ _ ho2).append (VRs.ext (envNew_ext hnx) _ _ hus)⟩,?_,.inl rfl,fun h=>absurd h (by simp)⟩ (fun a ha _=>by rw [heap_da,Array.getElem?_push,if_neg (by omega)]) (.inl (Nat.le_refl _)) (below_alloc hb.drew hB _) (by rw [heap_da]; simp) ?_,hm⟩
            ·simp only [List.all_append,Bool.and_eq_true]; obtain ⟨_,_,_,_,_,_,g6,_⟩:=h4; exact ⟨List.all_eq_true.2 fun x hx=>List.all_eq_true.1 g6 x (List.mem_of_mem_drop hx),hc3⟩
            ·simp only [VR]; exact ⟨_,nc,envNew_self _,rfl,hnc.1,by simpa using hsz.symm,hnc.2⟩
          ·cases h
        ·cases h
       ·cases h
      ·cases h
     ·cases h
    ·cases h
   ·cases h
  ·cases h
 ·cases h
end
end Go.Proofs.YtjpfhhndjpdmoaaGreatDoor

namespace Go.Proofs.YtjpfhhndjpdmoaaGreatDoor
open Go.RowKit
set_option linter.unusedVariables false
set_option linter.unusedSimpArgs false

section
variable {P:Program} {nB B:Nat} {w0:World} {ν : Env} {T:Tr LV} {H:Hp} {nx:Nat} {w:World} {out:Out}
theorem copy_run {t elem type:TypeId} {argTypes:Array TypeId} {a:Addr} {dl c n e:Nat} {y:Value} {us:List Value} {w':World} (h0:argTypes[0]? = some t) (hu:P.underlying t = some (.slice elem)) (he:sizeL P elem = some e)
  (hl:(Builtin.lenOf y).run P w = .ok n w) (hf:(Builtin.firstCells e (Nat.min n dl) y).run P w = .ok us.toArray w) (hs:(storeCells a us).run P w = .ok () w') :
  (Builtin.copy_ argTypes type #[.slice (some a) dl c,y]).run P w = .ok (goInt (Nat.min n dl)) w':=by
 simp [Builtin.copy_,h0,run_underlying hu,run_sizeOf he,hl,hf,hs]
theorem op_copy {type:TypeId} {argTypes:Array TypeId} {s x:LV} {s' x':Value} (h:copyL P nB H nx argTypes.toList s x = some out) (hs:VR ν s s') (hx:VR ν x x') (hH:HRF ν H out.foot w) (hlow:LowF nB B ν H out.foot) (hid:∀ i k,H.get i = some k → i < nx) (hb:Below B w0 w) :
  Gives P nB B w0 ν H nx out w (Builtin.copy_ argTypes type #[s',x']):=by
 unfold copyL at h
 split at h
 ·rename_i t rest hat
  have h0 : argTypes[0]? = some t:=by rw [← Array.getElem?_toList,hat]; rfl
  split at h
  ·rename_i elem hu
   split at h
   ·rename_i e dl n he hdl hn
    have main : ∀ (b off c:Nat) (lc:Loc) (new:List LV) (f:List Nat) (k:Blk),ν b = some lc → firstL H (e + 1) (Nat.min n dl) x = some (new,f) → nB ≤ b → H.get b = some k → off + Nat.min n dl * (e + 1) ≤ k.cells.length ∧ new.all LV.isOne = true →
      out = ⟨goI (Nat.min n dl),[(b,some ⟨k.elem,k.exact,k.mrk,putL k.cells off new⟩)],nx,some (b :: f)⟩ → Gives P nB B w0 ν H nx out w (Builtin.copy_ argTypes type #[.slice (some ⟨lc.addr,lc.base + off,none⟩) dl c,x']):=by
     intro b off c lc new f k hlc hfi hnB hk hc ho
     subst ho
     obtain ⟨us,h1,h2,h3⟩:=firstL_ok (w:=w) (P:=P) hfi hx hH (fun i hi=>List.mem_cons_of_mem _ hi)
     obtain ⟨lc',h4,h5⟩:=hH b k (by simp [footHas]) hk
     rw [hlc] at h4; cases h4
     obtain ⟨w',h6,h7⟩:=store_ok (P:=P) (off:=off) (v:=goI (Nat.min n dl)) (foot:=some (b :: f)) (v':=goInt (Nat.min n dl : Nat)) (hid b k hk) hnB hk hlc h5 (hlow b k lc (by simp [footHas]) hnB hk hlc) h2 hc.2 (by rw [h3]; exact hc.1) hb (by simp [goI,VR,goInt,plainV])
     exact ⟨_,w',ν,h7,copy_run h0 hu he (lenL_ok hn hx w) (h1 w rfl) h6⟩
    simp only at h
    split at h
    ·rename_i new f b off len c hfi
     simp only [VR] at hs
     obtain ⟨lc,hlc,rfl⟩:=hs
     simp only [lenL,Option.some.injEq] at hdl
     subst hdl
     split at h
     ·rename_i hnB
      split at h
      ·rename_i k hk
       split at h
       ·rename_i hc
        cases h
        exact main b off c lc new f k hlc hfi hnB hk hc rfl
       ·cases h
      ·cases h
     ·cases h
    ·rename_i new f b off len eb hfi
     simp only [VR] at hs
     obtain ⟨lc,c,hlc,rfl,_⟩:=hs
     simp only [lenL,Option.some.injEq] at hdl
     subst hdl
     split at h
     ·rename_i hnB
      split at h
      ·rename_i k hk
       split at h
       ·rename_i hc
        cases h
        exact main b off c lc new f k hlc hfi hnB hk hc rfl
       ·cases h
      ·cases h
     ·cases h
    ·rename_i new f hfi
     simp only [VR] at hs
     obtain ⟨rfl,_⟩:=hs
     cases h
     obtain ⟨us,h1,h2,h3⟩:=firstL_ok (w:=w) (P:=P) hfi hx hH (fun i hi=>hi)
     simp only [lenL,Option.some.injEq] at hdl
     subst hdl
     refine gives_val (v':=goInt (Nat.min n 0 : Nat)) ?_ (by simp [goI,VR,goInt,plainV]) hb
     have h1':=h1 w rfl
     rw [show Nat.min n 0 = 0 by simp] at h1' ⊢
     simp [Builtin.copy_,h0,run_underlying hu,run_sizeOf he,lenL_ok hn hx w,h1']
    ·cases h
   ·cases h
  ·cases h
 ·cases h
theorem op_clear {type:TypeId} {argTypes:Array TypeId} {x:LV} {x':Value} (h:clearL P nB H nx argTypes.toList x = some out) (hx:VR ν x x') (hH:HRF ν H out.foot w) (hlow:LowF nB B ν H out.foot) (hid:∀ i k,H.get i = some k → i < nx) (hb:Below B w0 w) :
  Gives P nB B w0 ν H nx out w (Builtin.clear_ argTypes type #[x']):=by
 have htup : VR ν (.tup []) (.tuple #[]):=by simp only [VR]; exact ⟨[],rfl,VRs.nil_iff.2 rfl⟩
 unfold clearL at h
 split at h
 ·rename_i t rest hat
  have h0 : argTypes[0]? = some t:=by rw [← Array.getElem?_toList,hat]; rfl
  split at h
  ·rename_i elem hu
   have main : ∀ (b off c m:Nat) (lc:Loc),ν b = some lc → (if nB ≤ b then match H.get b,zeroL P elem with
     | some k,some z=>if off + (m + 1) * z.length ≤ k.cells.length ∧ (repL z (m + 1)).all LV.isOne then some (⟨.tup [],[(b,some ⟨k.elem,k.exact,k.mrk,putL k.cells off (repL z (m + 1))⟩)],nx,some [b]⟩ : Out) else none
     | _,_=>none else none) = some out → Gives P nB B w0 ν H nx out w (Builtin.clear_ argTypes type #[.slice (some ⟨lc.addr,lc.base + off,none⟩) (m + 1) c]):=by
    intro b off c m lc hlc h
    split at h
    ·rename_i hnB
     split at h
     ·rename_i k z hk hz
      split at h
      ·rename_i hc
       cases h
       obtain ⟨v,hv,hvz,_⟩:=run_zero (ν:=ν) hz
       obtain ⟨lc',h4,h5⟩:=hH b k (by simp [footHas]) hk
       rw [hlc] at h4; cases h4
       obtain ⟨w',h6,h7⟩:=store_ok (P:=P) (off:=off) (v:=.tup []) (foot:=some [b]) (v':=.tuple #[]) (hid b k hk) hnB hk hlc h5 (hlow b k lc (by simp [footHas]) hnB hk hlc) (repL_ok hvz (m + 1)) hc.2 (by rw [repL_len]; exact hc.1) hb htup
       refine ⟨_,w',ν,h7,?_⟩
       have e : (Builtin.zeroCells v.cells (m + 1)).toList = (List.replicate (m + 1) v.cells.toList).flatten:=by rw [zeroCells_eq]
       simp only [Builtin.clear_,List.getElem?_toArray,h0,Array.getElem?_eq_getElem,List.size_toArray,List.length_cons,List.length_nil,Nat.zero_add,Nat.lt_add_one,List.getElem_toArray,List.getElem_cons_zero,Sem.run_bind,run_underlying hu,Result.andThen_ok,hv,e,h6,Sem.run_pure]
      ·cases h
     ·cases h
    ·cases h
   split at h
   ·simp only [VR] at hx
    obtain ⟨a,c,rfl,_⟩:=hx
    cases h
    exact gives_val (by simp [Builtin.clear_,h0,run_underlying hu]) htup hb
   ·simp only [VR] at hx
    obtain ⟨rfl,_⟩:=hx
    cases h
    exact gives_val (by simp [Builtin.clear_,h0,run_underlying hu]) htup hb
   ·rename_i b off n c
    simp only [VR] at hx
    obtain ⟨lc,hlc,rfl⟩:=hx
    split at h
    ·cases h
     exact gives_val (by simp [Builtin.clear_,h0,run_underlying hu]) htup hb
    ·exact main b off c _ lc hlc h
   ·rename_i b off n e
    simp only [VR] at hx
    obtain ⟨lc,c,hlc,rfl,_⟩:=hx
    split at h
    ·cases h
     exact gives_val (by simp [Builtin.clear_,h0,run_underlying hu]) htup hb
    ·exact main b off c _ lc hlc h
   ·cases h
  ·cases h
 ·cases h
theorem freeze_heap (w:World) (a:Addr) (n:Nat) (h:n ≠ 0) (c:Array Value) (e:TypeId) (fr:Nat × Nat) (hg:w.heap[a.block]? = some (.cells c e fr)) : (w.freeze a n).heap[a.block]? = some (.cells c e (if fr.1 == fr.2 then (a.off,a.off + n) else (min fr.1 a.off,max fr.2 (a.off + n)))) ∧ (∀ k,k ≠ a.block → (w.freeze a n).heap[k]? = w.heap[k]?) ∧ (w.freeze a n).heap.size = w.heap.size:=by
 obtain ⟨lo,hi⟩:=fr
 have hlt : a.block < w.heap.size:=(Array.getElem?_eq_some_iff.1 hg).1
 have hv : w.heap[a.block] = .cells c e (lo,hi):=(Array.getElem?_eq_some_iff.1 hg).2
 unfold World.freeze
 rw [if_neg h]
 refine ⟨?_,fun k hk=>?_,by simp⟩
 ·rw [Array.getElem?_eq_getElem (by simpa using hlt),Array.getElem_modify]
  simp [hv]
 ·simp [Array.getElem?_modify,Ne.symm hk]
theorem op_mark {src dst e e0 b off len c:Nat} {lc:Loc} {k:Blk} {foot:Option (List Nat)} (hs:P.underlying src = some (.slice e0)) (hd:P.underlying dst = some (.slice e)) (he:P.underlying e = some (.int .u8)) (hsd:(src == dst) = true) (hνb : ν b = some lc) (hk:H.get b = some k) (hnB:nB ≤ b)
  (hH:HRF ν H foot w) (hlow:LowF nB B ν H foot) (hf:footHas foot b) (hid:b < nx) (hb:Below B w0 w) :
  Gives P nB B w0 ν H nx ⟨.slice b off len c,[(b,some ⟨k.elem,k.exact,true,k.cells⟩)],nx,foot⟩ w (convert src dst (.slice (some ⟨lc.addr,lc.base + off,none⟩) len c)):=by
 obtain ⟨lc',h1,h2⟩:=hH b k hf hk
 rw [hνb] at h1; cases h1
 obtain ⟨cc,fr,g1,g2,g3,g4,g5,g6,_⟩:=h2
 have hsh : w.shape? lc.addr = some (k.elem,cc.size):=by simp [World.shape?,g1]
 obtain ⟨f1,f2,f3⟩:=freeze_heap w ⟨lc.addr,cc.size,none⟩ 1 (by simp) cc k.elem fr g1
 have hrun : (convert src dst (.slice (some ⟨lc.addr,lc.base + off,none⟩) len c)).run P w = .ok (.slice (some ⟨lc.addr,lc.base + off,none⟩) len c) (w.freeze ⟨lc.addr,cc.size,none⟩ 1):=by
  simp [convert,run_underlying hs,run_underlying hd,run_underlying he,hsd,markStringish,hsh]
 refine ⟨_,_,ν,post_set hid hnB hk hνb f1 (fun a ha=>f2 a ha) f3 g2 ?_ (fun h=>absurd h (by simp)) g3 g4 g5 ?_ ?_,hrun⟩
 ·split
  ·exact .inr (Nat.le_refl _)
  ·rename_i hne
   simp only [beq_iff_eq] at hne
   rcases g6 with g6 | g6
   ·exact (hne g6).elim
   ·exact .inr (by simp; omega)
 ·refine hb.trans ⟨?_,?_,?_,by omega,fun a ha=>f2 a (by have:=hlow b k lc hf hnB hk hνb; show a ≠ lc.addr; omega)⟩
  all_goals (unfold World.freeze; rfl)
 ·simp only [VR]; exact ⟨lc,hνb,rfl⟩
theorem op_toBytesC {dst e:TypeId} {src:TypeId} {d0:TypeDesc} {s:ByteArray} {cs:List LV} (hcs0:VRs ν cs (s.data.toList.map fun b=>.int .u8 b.toNat)) (hsz:¬ 2 ^ 40 < s.size) (hd:P.underlying dst = some (.slice e)) (he:P.underlying e = some (.int .u8)) (hs:P.underlying src = some d0) (hν : ν nx = none) (h:new1 nx e false true cs (.buf nx 0 s.size 1) [] = some out) (hb:Below B w0 w) (hB:B ≤ w0.heap.size) :
  Gives P nB B w0 ν H nx out w (convert src dst (.string s)):=by
 obtain ⟨h1,rfl⟩:=new1_inv h
 have hrun:=Lib.run_convert_string_bytes w src dst e s hs hd he
 have hheap : (Lib.bytesWorld w e s).heap = w.heap.push (.cells (Lib.bytesCells w e s) e ((Lib.bytesCells w e s).size,(Lib.bytesCells w e s).size + 1)):=by
  apply Array.ext
  ·rw [Lib.bytesWorld_size]; simp
  ·intro i hi1 hi2
   have : (Lib.bytesWorld w e s).heap[i]? = (w.heap.push (.cells (Lib.bytesCells w e s) e ((Lib.bytesCells w e s).size,(Lib.bytesCells w e s).size + 1)))[i]?:=by
    rw [Lib.bytesWorld_size] at hi1
    by_cases h : i < w.heap.size
    ·rw [Lib.bytesWorld_at_old w e s i h,Array.getElem?_push,if_neg (by omega)]
    ·have : i = w.heap.size:=by omega
     subst this
     rw [Lib.bytesWorld_at_new]; simp
   rw [Array.getElem?_eq_getElem hi1,Array.getElem?_eq_getElem hi2] at this
   exact Option.some.inj this
 have hcap : s.size ≤ grownCap w s.size 0 e:=by unfold grownCap; simp [Question.cut]
 have hcs : (Lib.bytesCells w e s).toList = s.data.toList.map (fun b=>Value.int .u8 b.toNat) ++ List.replicate (grownCap w s.size 0 e - s.size) (.int .u8 0):=by simp [Lib.bytesCells]
 refine ⟨_,_,_,post_new (w':=Lib.bytesWorld w e s) hν hheap (.inr (Nat.le_refl _)) (fun h=>absurd h (by simp)) (fun h=>by cases h) ⟨_,_,hcs,hcs0⟩ h1 ?_ ?_,hrun⟩
 ·exact hb.trans ⟨by unfold Lib.bytesWorld World.freeze; split <;> rfl,by unfold Lib.bytesWorld World.freeze; split <;> rfl,by unfold Lib.bytesWorld World.freeze; split <;> rfl,by rw [Lib.bytesWorld_size]; omega,fun a ha=>Lib.bytesWorld_at_old w e s a (by have:=hb.size; omega)⟩
 ·simp only [VR]
  refine ⟨_,_,envNew_self _,rfl,hcap,?_,by unfold grownCap; simp only [Question.cut]; have:=Nat.mod_lt (w.tape w.drawn (.appendCap s.size 0 e)) (show 0 < 2 ^ 63 - s.size by omega); omega⟩
  have : (Lib.bytesCells w e s).size = s.size + (grownCap w s.size 0 e - s.size):=by simp [Lib.bytesCells]
  simp only
  omega
theorem op_toBytes {dst e:TypeId} {src:TypeId} {d0:TypeDesc} {s:ByteArray} (hsz:¬ 2 ^ 40 < s.size) (hd:P.underlying dst = some (.slice e)) (he:P.underlying e = some (.int .u8)) (hs:P.underlying src = some d0) (hν : ν nx = none) (h:new1 nx e false true (s.data.toList.map fun b=>.v (.int .u8 b.toNat)) (.buf nx 0 s.size 1) [] = some out) (hb:Below B w0 w) (hB:B ≤ w0.heap.size) :
  Gives P nB B w0 ν H nx out w (convert src dst (.string s)):=op_toBytesC (bytes_vrs _) hsz hd he hs hν h hb hB
end
end Go.Proofs.YtjpfhhndjpdmoaaGreatDoor
