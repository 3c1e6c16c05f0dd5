/- The walk of gcm's Product. -/
import Derived.Test.YtjopgogaipkdbaaGcmC
import Derived.Test.YtjopgogaipkdbaaDoor
namespace Go.Proofs.Ytjopgogaipkdbaa
open Go.RowKit

/-- The product of two blocks, as gcm reckons it. -/
def tmQ (a b : UInt64 × UInt64) : UInt64 × UInt64 := itZ a.1 a.2 b.1 b.2 128
def elQ (l : List UInt8) : UInt64 × UInt64 := (hiQ l, loQ l)
def blQ (a : UInt64 × UInt64) : List UInt8 := outQ a.1 a.2 8
theorem blQ_len (a : UInt64 × UInt64) : (blQ a).length = 16 := outQ_len _ _ _
def gprod (a b : List UInt8) : List UInt8 := blQ (tmQ (elQ a) (elQ b))
theorem gprod_len (a b : List UInt8) : (gprod a b).length = 16 := blQ_len _

set_option maxRecDepth 100000 in
set_option maxHeartbeats 2000000 in
theorem gproduct_any (a b : List UInt8) (w : World) (ha : a.length = 16) (hb : b.length = 16) : Calls Try.prog 29 #[.agg (AB a), .agg (AB b)] w fun e w' => e = .returned (.agg (AB (gprod a b))) ∧ Below w.heap.size w w' := by
  go_enter Try.func29, Try.ntmps29
  go_wp2_with fail
  obtain ⟨w0, hw0⟩ : ∃ w0, w0 = ((w.alloc (.cells (AB a) 23)).alloc (.cells (AB b) 23)).alloc (.cells (AB (List.replicate 16 0)) 23) := ⟨_, rfl⟩
  have hw0' : (((w.alloc (.cells (AB a) 23)).alloc (.cells (AB b) 23)).alloc (.cells #[.int .u8 0, .int .u8 0, .int .u8 0, .int .u8 0, .int .u8 0, .int .u8 0, .int .u8 0, .int .u8 0, .int .u8 0, .int .u8 0, .int .u8 0, .int .u8 0, .int .u8 0, .int .u8 0, .int .u8 0, .int .u8 0] 23)) = w0 := by rw [hw0]; rfl
  rw [hw0']
  have h1 : Row w0 w.heap.size 23 (AB a) := by rw [hw0]; exact ((Row.new w _ _).alloc _).alloc _
  have h2 : Row w0 (w.heap.size + 1) 23 (AB b) := by rw [hw0]; exact (Row.newAt _ _ _ _ (by simp)).alloc _
  have h3 : RowN w0 (w.heap.size + 1 + 1) 23 16 := by rw [hw0]; exact RowN.newAt _ _ _ _ (by simp)
  have hB : Below w.heap.size w w0 := by rw [hw0]; exact ((((Below.refl _ w).alloc (Nat.le_refl _) _).alloc (by simp) _)).alloc (by simp <;> omega) _
  clear hw0 hw0'
  have hof1 : ∀ w', Below w0.heap.size w0 w' → _ := fun w' h => gof_any _ a w' (SlB.of_row (h1.below h h1.lt) ha (by decide)) ha
  have hof2 : ∀ w', Below w0.heap.size w0 w' → _ := fun w' h => gof_any _ b w' (SlB.of_row (h2.below h h2.lt) hb (by decide)) hb
  have hol := blQ_len (tmQ (elQ a) (elQ b))
  obtain ⟨R, hR⟩ : ∃ R, R = blQ (tmQ (elQ a) (elQ b)) := ⟨_, rfl⟩
  have htm : ∀ w', Calls Try.prog 47 #[.agg #[Q (hiQ a), Q (loQ a)], .agg #[Q (hiQ b), Q (loQ b)]] w' _ := fun w' => gtimes_any _ _ _ _ w'
  have hby : ∀ w', Calls Try.prog 48 #[.agg #[Q (itZ (hiQ a) (loQ a) (hiQ b) (loQ b) 128).1, Q (itZ (hiQ a) (loQ a) (hiQ b) (loQ b) 128).2]] w' (fun e w'' => e = .returned (.agg (AB R)) ∧ Below w'.heap.size w' w'') := fun w' => by rw [hR]; exact gbytes_any _ _ w'
  rw [← hR] at hol
  generalize (itZ (hiQ a) (loQ a) (hiQ b) (loQ b) 128).1 = z1 at *
  generalize (itZ (hiQ a) (loQ a) (hiQ b) (loQ b) 128).2 = z2 at *
  have HR := Lib.hid hR
  have Hof1 := Lib.hid hof1
  have Hof2 := Lib.hid hof2
  have Htm := Lib.hid htm
  have Hby := Lib.hid hby
  clear hR hof1 hof2 htm hby
  refine wp_region_qtail (Below w0.heap.size w0) 6 (by kernel_rfl) (by kernel_rfl) (Below.refl _ _).drew ?_
  simp only [List.take_succ_cons, List.take_zero, List.drop_succ_cons, List.drop_zero]
  repeat (first | go_big_quiet_skip | (go_big_quiet_want; go_big_quiet_op; first | go_big_quiet_on | (refine ⟨_, fun _ _ => rfl, ?_⟩; go_big_quiet_on)) | (go_big_quiet_want; apply qb_load1 _ _ rfl _ _ rfl; rotate_left 2; (focus (intro _; simp [go_sem]; done)); rotate_right 2; assumption; assumption; assumption; (simp only [Act.put, List.setIfInBounds_toArray, List.set_cons_zero, List.set_cons_succ]; go_big_quiet_on)) | (go_big_quiet_want; apply qb_loadA _ _ rfl _ _ rfl (sz := 16); rotate_left 2; (focus (intro _; simp [go_sem]; done)); (focus (intro _; simp [go_sem]; done)); rotate_right 2; assumption; assumption; assumption; assumption; (simp only [Act.put, List.setIfInBounds_toArray, List.set_cons_zero, List.set_cons_succ]; go_big_quiet_on)))
  (go_big_quiet_want; refine qb_call _ _ ?_ _ Hof1.out (Nat.le_refl _) ?_; (focus (intro w; simp [go_sem]; done)); (simp only [Act.put, List.setIfInBounds_toArray, List.set_cons_zero, List.set_cons_succ]; go_big_quiet_on))
  repeat (first | go_big_quiet_skip | (go_big_quiet_want; go_big_quiet_op; first | go_big_quiet_on | (refine ⟨_, fun _ _ => rfl, ?_⟩; go_big_quiet_on)) | (go_big_quiet_want; apply qb_load1 _ _ rfl _ _ rfl; rotate_left 2; (focus (intro _; simp [go_sem]; done)); rotate_right 2; assumption; assumption; assumption; (simp only [Act.put, List.setIfInBounds_toArray, List.set_cons_zero, List.set_cons_succ]; go_big_quiet_on)) | (go_big_quiet_want; apply qb_loadA _ _ rfl _ _ rfl (sz := 16); rotate_left 2; (focus (intro _; simp [go_sem]; done)); (focus (intro _; simp [go_sem]; done)); rotate_right 2; assumption; assumption; assumption; assumption; (simp only [Act.put, List.setIfInBounds_toArray, List.set_cons_zero, List.set_cons_succ]; go_big_quiet_on)))
  (go_big_quiet_want; refine qb_call _ _ ?_ _ Hof2.out (Nat.le_refl _) ?_; (focus (intro w; simp [go_sem]; done)); (simp only [Act.put, List.setIfInBounds_toArray, List.set_cons_zero, List.set_cons_succ]; go_big_quiet_on))
  repeat (first | go_big_quiet_skip | (go_big_quiet_want; go_big_quiet_op; first | go_big_quiet_on | (refine ⟨_, fun _ _ => rfl, ?_⟩; go_big_quiet_on)) | (go_big_quiet_want; apply qb_load1 _ _ rfl _ _ rfl; rotate_left 2; (focus (intro _; simp [go_sem]; done)); rotate_right 2; assumption; assumption; assumption; (simp only [Act.put, List.setIfInBounds_toArray, List.set_cons_zero, List.set_cons_succ]; go_big_quiet_on)) | (go_big_quiet_want; apply qb_loadA _ _ rfl _ _ rfl (sz := 16); rotate_left 2; (focus (intro _; simp [go_sem]; done)); (focus (intro _; simp [go_sem]; done)); rotate_right 2; assumption; assumption; assumption; assumption; (simp only [Act.put, List.setIfInBounds_toArray, List.set_cons_zero, List.set_cons_succ]; go_big_quiet_on)))
  (go_big_quiet_want; refine qb_call _ _ ?_ _ (fun w' _ => Htm.out w') (Nat.le_refl _) ?_; (focus (intro w; simp [go_sem]; done)); (simp only [Act.put, List.setIfInBounds_toArray, List.set_cons_zero, List.set_cons_succ]; go_big_quiet_on))
  repeat (first | go_big_quiet_skip | (go_big_quiet_want; go_big_quiet_op; first | go_big_quiet_on | (refine ⟨_, fun _ _ => rfl, ?_⟩; go_big_quiet_on)) | (go_big_quiet_want; apply qb_load1 _ _ rfl _ _ rfl; rotate_left 2; (focus (intro _; simp [go_sem]; done)); rotate_right 2; assumption; assumption; assumption; (simp only [Act.put, List.setIfInBounds_toArray, List.set_cons_zero, List.set_cons_succ]; go_big_quiet_on)) | (go_big_quiet_want; apply qb_loadA _ _ rfl _ _ rfl (sz := 16); rotate_left 2; (focus (intro _; simp [go_sem]; done)); (focus (intro _; simp [go_sem]; done)); rotate_right 2; assumption; assumption; assumption; assumption; (simp only [Act.put, List.setIfInBounds_toArray, List.set_cons_zero, List.set_cons_succ]; go_big_quiet_on)))
  (go_big_quiet_want; refine qb_call _ _ ?_ _ (fun w' _ => Hby.out w') (Nat.le_refl _) ?_; (focus (intro w; simp [go_sem]; done)); (simp only [Act.put, List.setIfInBounds_toArray, List.set_cons_zero, List.set_cons_succ]; go_big_quiet_on))
  refine wpQuiet_nil ?_
  intro w' hw'
  obtain ⟨z, hz, hzs⟩ := h3.below hw' h3.lt
  have HB := hB.trans (hw'.mono hB.size)
  have hl16 := (AB_size R).trans hol
  clear h1 h2 h3 hB hw'
  go_wp2_with fail
  exact ret_row (.inl rfl) rfl (w.heap.size + 1 + 1) _ _ 16 _ rfl (hz.setRow _) Try.underlying23 rfl (by kernel_rfl) hl16 ⟨by rw [HR.out]; rfl, bSetRow HB (by omega) _⟩
end Go.Proofs.Ytjopgogaipkdbaa
