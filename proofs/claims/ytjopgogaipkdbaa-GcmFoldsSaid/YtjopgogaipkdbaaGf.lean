/- The plain law of the field of 2^128 elements: the product is the same either way round, spread over sums, in whatever brackets; and of no two elements but nought it is nought. No program stands here. -/
namespace Go.Proofs.Ytjopgogaipkdbaa.Gf

/-- An element is a number below 2^128: its highest bit stands for 1. -/
def R : Nat := 0xE1 * 2 ^ 120
/-- Times x. -/
def S (n : Nat) : Nat := if n % 2 = 1 then (n / 2) ^^^ R else n / 2
def Sn : Nat → Nat → Nat
  | 0, b => b
  | i + 1, b => S (Sn i b)
/-- The sum of what the first k bits of a say. -/
def Pk (a b : Nat) : Nat → Nat
  | 0 => 0
  | k + 1 => if a.testBit (127 - k) then Pk a b k ^^^ Sn k b else Pk a b k
/-- The product. -/
def P (a b : Nat) : Nat := Pk a b 128
def lim : Nat := 2 ^ 128
def e (i : Nat) : Nat := 2 ^ (127 - i)

theorem xor_mod2 (a b : Nat) : (a ^^^ b) % 2 = (a + b) % 2 := by
  have h := @Nat.xor_mod_two_eq_one a b
  have h2 := Nat.mod_two_eq_zero_or_one (a ^^^ b)
  generalize (a ^^^ b) % 2 = z at *
  rcases Nat.mod_two_eq_zero_or_one a with ha | ha <;> rcases Nat.mod_two_eq_zero_or_one b with hb | hb
  · have : z ≠ 1 := fun e => h.1 e (by omega)
    omega
  · have : z = 1 := h.2 (by omega)
    omega
  · have : z = 1 := h.2 (by omega)
    omega
  · have : z ≠ 1 := fun e => h.1 e (by omega)
    omega
theorem S_add (a b : Nat) : S (a ^^^ b) = S a ^^^ S b := by
  have h2 : (a ^^^ b) / 2 = a / 2 ^^^ b / 2 := by
    apply Nat.eq_of_testBit_eq
    intro i
    simp [Nat.testBit_div_two]
  have h1 : (a ^^^ b) % 2 = (a + b) % 2 := xor_mod2 a b
  unfold S
  rw [h1, h2]
  rcases Nat.mod_two_eq_zero_or_one a with ha | ha <;> rcases Nat.mod_two_eq_zero_or_one b with hb | hb
  · rw [if_neg (by omega), if_neg (by omega), if_neg (by omega)]
  · rw [if_pos (by omega), if_neg (by omega), if_pos (by omega), Nat.xor_assoc]
  · rw [if_pos (by omega), if_pos (by omega), if_neg (by omega)]
    rw [Nat.xor_assoc, Nat.xor_comm (b / 2) R, ← Nat.xor_assoc]
  · rw [if_neg (by omega), if_pos (by omega), if_pos (by omega)]
    rw [Nat.xor_assoc (a / 2), ← Nat.xor_assoc R, Nat.xor_comm R (b / 2), Nat.xor_assoc (b / 2), Nat.xor_self, Nat.xor_zero]
theorem S_zero : S 0 = 0 := rfl
theorem Sn_add (i a b : Nat) : Sn i (a ^^^ b) = Sn i a ^^^ Sn i b := by
  induction i with
  | zero => rfl
  | succ i ih => simp only [Sn, ih, S_add]
theorem Sn_zero (i : Nat) : Sn i 0 = 0 := by
  induction i with
  | zero => rfl
  | succ i ih => simp only [Sn, ih, S_zero]
theorem Sn_Sn (i j b : Nat) : Sn i (Sn j b) = Sn (i + j) b := by
  induction i with
  | zero => simp [Sn]
  | succ i ih => rw [Nat.succ_add]; simp only [Sn, ih]
theorem xor4 (a b c d : Nat) : (a ^^^ b) ^^^ (c ^^^ d) = (a ^^^ c) ^^^ (b ^^^ d) := by
  rw [Nat.xor_assoc, ← Nat.xor_assoc b, Nat.xor_comm b c, Nat.xor_assoc c, ← Nat.xor_assoc]
theorem Pk_addr (a b c k : Nat) : Pk a (b ^^^ c) k = Pk a b k ^^^ Pk a c k := by
  induction k with
  | zero => simp [Pk]
  | succ k ih =>
    simp only [Pk, ih, Sn_add]
    by_cases h : a.testBit (127 - k)
    · simp only [h, if_true]; exact xor4 _ _ _ _
    · simp [h]
theorem Pk_addl (a b c k : Nat) : Pk (a ^^^ b) c k = Pk a c k ^^^ Pk b c k := by
  induction k with
  | zero => simp [Pk]
  | succ k ih =>
    simp only [Pk, ih, Nat.testBit_xor]
    cases h1 : a.testBit (127 - k) <;> cases h2 : b.testBit (127 - k) <;> simp
    · rw [Nat.xor_assoc]
    · rw [Nat.xor_assoc, Nat.xor_comm (Pk b c k), ← Nat.xor_assoc]
    · rw [xor4, Nat.xor_self, Nat.xor_zero]
theorem P_addr (a b c : Nat) : P a (b ^^^ c) = P a b ^^^ P a c := Pk_addr a b c 128
theorem P_addl (a b c : Nat) : P (a ^^^ b) c = P a c ^^^ P b c := Pk_addl a b c 128
theorem Pk_zerol (b k : Nat) : Pk 0 b k = 0 := by
  induction k with
  | zero => rfl
  | succ k ih => simp [Pk, ih]
theorem P_zerol (b : Nat) : P 0 b = 0 := Pk_zerol b 128
theorem P_zeror (a : Nat) : P a 0 = 0 := by
  have : ∀ k, Pk a 0 k = 0 := by
    intro k
    induction k with
    | zero => rfl
    | succ k ih => simp [Pk, ih, Sn_zero]
  exact this 128

/-! ### below 2^128 -/
theorem S_lt (n : Nat) (h : n < lim) : S n < lim := by
  unfold S lim at *
  have : n / 2 < 2 ^ 128 := by omega
  split
  · exact Nat.xor_lt_two_pow this (by unfold R; decide)
  · exact this
theorem Sn_lt (i n : Nat) (h : n < lim) : Sn i n < lim := by
  induction i with
  | zero => exact h
  | succ i ih => exact S_lt _ ih
theorem P_lt (a b : Nat) (h : b < lim) : P a b < lim := by
  have : ∀ k, Pk a b k < lim := by
    intro k
    induction k with
    | zero => exact Nat.two_pow_pos 128
    | succ k ih =>
      simp only [Pk]
      split
      · exact Nat.xor_lt_two_pow ih (Sn_lt _ _ h)
      · exact ih
  exact this 128

/-! ### two sums that agree on single bits agree -/
theorem split_bit (a k : Nat) (h : a < 2 ^ (k + 1)) : a = (a % 2 ^ k) ^^^ (if a.testBit k then 2 ^ k else 0) := by
  apply Nat.eq_of_testBit_eq
  intro i
  rw [Nat.testBit_xor, Nat.testBit_mod_two_pow]
  by_cases hk : a.testBit k
  · rw [if_pos hk, Nat.testBit_two_pow]
    by_cases h1 : k = i
    · subst h1; simp [hk]
    · by_cases h2 : i < k
      · simp [h1, h2]
      · have : a.testBit i = false := Nat.testBit_lt_two_pow (Nat.lt_of_lt_of_le h (Nat.pow_le_pow_right (by omega) (by omega)))
        simp [h1, h2, this]
  · rw [if_neg hk, Nat.zero_testBit]
    by_cases h2 : i < k
    · simp [h2]
    · by_cases h1 : k = i
      · subst h1; simp [hk]
      · have : a.testBit i = false := Nat.testBit_lt_two_pow (Nat.lt_of_lt_of_le h (Nat.pow_le_pow_right (by omega) (by omega)))
        simp [h2, this]
theorem agree (f g : Nat → Nat) (hf : ∀ a b, f (a ^^^ b) = f a ^^^ f b) (hg : ∀ a b, g (a ^^^ b) = g a ^^^ g b) (h : ∀ i, i < 128 → f (e i) = g (e i)) (a : Nat) (ha : a < lim) : f a = g a := by
  have f0 : f 0 = 0 := by have := hf 0 0; rw [Nat.xor_self, Nat.xor_self] at this; exact this
  have g0 : g 0 = 0 := by have := hg 0 0; rw [Nat.xor_self, Nat.xor_self] at this; exact this
  have : ∀ k, k ≤ 128 → ∀ a, a < 2 ^ k → f a = g a := by
    intro k
    induction k with
    | zero =>
      intro _ a ha
      obtain rfl : a = 0 := by simpa using ha
      rw [f0, g0]
    | succ k ih =>
      intro hk a ha
      have h1 := ih (by omega) (a % 2 ^ k) (Nat.mod_lt _ (Nat.two_pow_pos k))
      have h2 : f (if a.testBit k then 2 ^ k else 0) = g (if a.testBit k then 2 ^ k else 0) := by
        split
        · have := h (127 - k) (by omega)
          unfold e at this
          rwa [show 127 - (127 - k) = k by omega] at this
        · rw [f0, g0]
      rw [split_bit a k ha, hf, hg, h1, h2]
  exact this 128 (Nat.le_refl _) a ha
theorem Sn_e0 (i : Nat) (h : i < 128) : Sn i (e 0) = e i := by
  induction i with
  | zero => rfl
  | succ i ih =>
    simp only [Sn]
    rw [ih (by omega)]
    unfold S e
    rw [show 127 - i = (127 - (i + 1)) + 1 by omega, Nat.pow_succ, if_neg (by omega)]
    omega
theorem e_lt (i : Nat) : e i < lim := Nat.pow_lt_pow_right (by omega) (by omega)
theorem P_e (i b : Nat) (h : i < 128) : P (e i) b = Sn i b := by
  have : ∀ k, k ≤ 128 → Pk (e i) b k = if i < k then Sn i b else 0 := by
    intro k
    induction k with
    | zero => intro _; simp [Pk]
    | succ k ih =>
      intro hk
      simp only [Pk, ih (by omega)]
      unfold e
      rw [Nat.testBit_two_pow]
      by_cases h1 : i = k
      · subst h1
        simp
      · by_cases h2 : i < k
        · have : ¬ (127 - i = 127 - k) := by omega
          simp [this, h2, show i < k + 1 by omega]
        · have : ¬ (127 - i = 127 - k) := by omega
          simp [this, h2, show ¬ i < k + 1 by omega]
  have := this 128 (Nat.le_refl _)
  rwa [if_pos h] at this
theorem S128 : Sn 128 (e 0) = e 0 ^^^ e 1 ^^^ e 2 ^^^ e 7 := by decide +kernel
theorem Sn128 (b : Nat) (hb : b < lim) : Sn 128 b = b ^^^ Sn 1 b ^^^ Sn 2 b ^^^ Sn 7 b := by
  refine agree (Sn 128) (fun b => b ^^^ Sn 1 b ^^^ Sn 2 b ^^^ Sn 7 b) (Sn_add 128) (fun a b => ?_) (fun i hi => ?_) b hb
  · simp only [Sn_add]
    rw [xor4 a b, xor4 _ _ (Sn 2 a), xor4 _ _ (Sn 7 a)]
  · have h0 : ∀ j, Sn j (e i) = Sn i (Sn j (e 0)) := fun j => by rw [← Sn_e0 i hi, Sn_Sn, Sn_Sn, Nat.add_comm]
    show Sn 128 (e i) = e i ^^^ Sn 1 (e i) ^^^ Sn 2 (e i) ^^^ Sn 7 (e i)
    rw [h0 128, h0 1, h0 2, h0 7, S128, Sn_add, Sn_add, Sn_add, Sn_e0 1 (by omega), Sn_e0 2 (by omega), Sn_e0 7 (by omega), Sn_e0 i hi]
theorem P_S (a b : Nat) (ha : a < lim) (hb : b < lim) : P (S a) b = S (P a b) := by
  refine agree (fun a => P (S a) b) (fun a => S (P a b)) (fun x y => ?_) (fun x y => ?_) (fun i hi => ?_) a ha
  · show P (S (x ^^^ y)) b = P (S x) b ^^^ P (S y) b
    rw [S_add, P_addl]
  · show S (P (x ^^^ y) b) = _
    rw [P_addl, S_add]
  · show P (S (e i)) b = S (P (e i) b)
    rw [P_e i b hi]
    by_cases h : i < 127
    · have : S (e i) = e (i + 1) := by
        have h1 := Sn_e0 (i + 1) (by omega)
        simp only [Sn] at h1
        rwa [Sn_e0 i hi] at h1
      rw [this, P_e _ _ (by omega)]
      rfl
    · obtain rfl : i = 127 := by omega
      have : S (e 127) = e 0 ^^^ e 1 ^^^ e 2 ^^^ e 7 := by decide +kernel
      rw [this, P_addl, P_addl, P_addl, P_e 0 b (by omega), P_e 1 b (by omega), P_e 2 b (by omega), P_e 7 b (by omega)]
      exact (Sn128 b hb).symm
theorem P_Sn (i a b : Nat) (ha : a < lim) (hb : b < lim) : P (Sn i a) b = Sn i (P a b) := by
  induction i with
  | zero => rfl
  | succ i ih => simp only [Sn]; rw [P_S _ _ (Sn_lt _ _ ha) hb, ih]
theorem P_comm (a b : Nat) (ha : a < lim) (hb : b < lim) : P a b = P b a := by
  refine agree (fun a => P a b) (fun a => P b a) (fun x y => P_addl x y b) (fun x y => P_addr b x y) (fun i hi => ?_) a ha
  refine agree (fun b => P (e i) b) (fun b => P b (e i)) (fun x y => P_addr _ x y) (fun x y => P_addl x y _) (fun j hj => ?_) b hb
  show P (e i) (e j) = P (e j) (e i)
  rw [P_e i _ hi, P_e j _ hj, ← Sn_e0 i hi, ← Sn_e0 j hj, Sn_Sn, Sn_Sn, Nat.add_comm]
theorem P_assoc (a b c : Nat) (ha : a < lim) (hb : b < lim) (hc : c < lim) : P (P a b) c = P a (P b c) := by
  refine agree (fun a => P (P a b) c) (fun a => P a (P b c)) (fun x y => ?_) (fun x y => P_addl x y _) (fun i hi => ?_) a ha
  · show P (P (x ^^^ y) b) c = P (P x b) c ^^^ P (P y b) c
    rw [P_addl, P_addl]
  · show P (P (e i) b) c = P (e i) (P b c)
    rw [P_e i b hi, P_e i _ hi, P_Sn i b c hb hc]
theorem P_one (b : Nat) : P (e 0) b = b := P_e 0 b (by omega)
/-! ### no two elements but nought have the product nought -/
/-- A matrix, applied. -/
def apL : List Nat → Nat → Nat → Nat
  | [], _, _ => 0
  | m :: M, i, v => if v.testBit (127 - i) then m ^^^ apL M (i + 1) v else apL M (i + 1) v
def ap (M : List Nat) (v : Nat) : Nat := apL M 0 v
def invL : List Nat := [0x10d04d25f93556e69f58ce2f8d035a94, 0x202f566ef59a994991d0e977a9aa5ba7, 0x602f566ef59a994991d0e977a9aa5ba7, 0x3045202cccefc1ee67fd0ac2e3641972, 0x402f566ef59a994991d0e977a9aa5ba7,
  0x5672e0c1d328e3be0d2c5beb59e57554, 0x2045202cccefc1ee67fd0ac2e3641972, 0x187f9b4b8cafcfaf8e88275824a90133, 0x482f566ef59a994991d0e977a9aa5ba7, 0x22da13517461d3ee69739a8be16c1972,
  0x5272e0c1d328e3be0d2c5beb59e57554, 0x6aff55603cd3fceff55228f556d54755, 0x2245202cccefc1ee67fd0ac2e3641972, 0x46fc06025397fc91bb49eab33e4cf467, 0x197f9b4b8cafcfaf8e88275824a90133,
  0x646dca2be3d6cc87d093e2fc4c0f4ad5, 0x48af566ef59a994991d0e977a9aa5ba7, 0x5cea2fd59105659e2d1ccaeb5d2c7d54, 0x229a13517461d3ee69739a8be16c1972, 0x3f46a4c41f7d395874f4e33b9d331780,
  0x5252e0c1d328e3be0d2c5beb59e57554, 0x312701524d961730583bcf844c342240, 0x6aef55603cd3fceff55228f556d54755, 0x144559bb6c9ffcd7bc4c239cf48626f3, 0x224d202cccefc1ee67fd0ac2e3641972,
  0x1a24eaea541cab0f9092b01169688933, 0x46f806025397fc91bb49eab33e4cf467, 0x2c14dba71e26fe964f314b9433eb3eb2, 0x197d9b4b8cafcfaf8e88275824a90133, 0x2561da58536a903fe562896ae4899333,
  0x646cca2be3d6cc87d093e2fc4c0f4ad5, 0x41d77800d619af2838dab35b297373a6, 0x48afd66ef59a994991d0e977a9aa5ba7, 0x5ce7c3e3968e47f62e5390ab45fe70d4, 0x5cea6fd59105659e2d1ccaeb5d2c7d54,
  0x428019a11caacb8824c8241264b2fba6, 0x229a33517461d3ee69739a8be16c1972, 0x258e6f54b84bf6f7ef54f70e70ef2ef3, 0x3f46b4c41f7d395874f4e33b9d331780, 0x1af0929921b9589f9fb368dce89d2373,
  0x5252e8c1d328e3be0d2c5beb59e57554, 0x3bdc8ad604f36599e246fae899f68fc1, 0x312705524d961730583bcf844c342240, 0x38e6217d7e479d8109554569546afc0, 0x6aef57603cd3fceff55228f556d54755,
  0x2bd77bb364ab6b3fc733d8875e039333, 0x144558bb6c9ffcd7bc4c239cf48626f3, 0x698e6217d7fb8627ef6aa903c013fa95, 0x224d20acccefc1ee67fd0ac2e3641972, 0x21ce3a83c07704de74dad50f0d583b32,
  0x1a24eaaa541cab0f9092b01169688933, 0x56f3167fe31312df9eb885b869165d55, 0x46f806225397fc91bb49eab33e4cf467, 0x77dcb1c60e3ad1c9e2190477682adba7, 0x2c14dbb71e26fe964f314b9433eb3eb2,
  0x7348a7e5645f92d076e747a9d181ec26, 0x197d9b438cafcfaf8e88275824a90133, 0x2cfbb4409945161e45d21862e0409b32, 0x2561da5c536a903fe562896ae4899333, 0x36e717e02724b8f1d1527df73b8e8241,
  0x646cca29e3d6cc87d093e2fc4c0f4ad5, 0x7adc3b3404788e11d4cfd6f8f5447467, 0x41d77801d619af2838dab35b297373a6, 0x4a2ade42a1db559927495c4d4e62fc1, 0x48afd66e759a994991d0e977a9aa5ba7,
  0x329f337db88e12004e8e904902080000, 0x5ce7c3e3d68e47f62e5390ab45fe70d4, 0x36e9eb0be64d6b99d3ec2e5e502bb781, 0x5cea6fd5b105659e2d1ccaeb5d2c7d54, 0x4622ba58b211bb21b69fb337b1785627,
  0x428019a10caacb8824c8241264b2fba6, 0x49a065cd7758d5196f0e3578d383201, 0x229a33517c61d3ee69739a8be16c1972, 0x55aabdbeec28a2078079924a4cd2f295, 0x258e6f54bc4bf6f7ef54f70e70ef2ef3,
  0x7986f6afcfc951e9cb9188c1a5beebe7, 0x3f46b4c41d7d395874f4e33b9d331780, 0x2f76850d57908a5e54a716d46cf0bb32, 0x1af0929920b9589f9fb368dce89d2373, 0x489a0b11781e0c1196cc4fdebc394c27,
  0x5252e8c1d3a8e3be0d2c5beb59e57554, 0x72ccff3fd3d186182e1ce9a41041041, 0x3bdc8ad604b36599e246fae899f68fc1, 0x5c33b52f8947e9462158188b7248d294, 0x312705524db61730583bcf844c342240,
  0x79880aa666d696d9c926622882fff1e7, 0x38e6217d7f479d8109554569546afc0, 0x285aabc679b16ad7d6c2852abfdb1eb3, 0x6aef57603cdbfceff55228f556d54755, 0x26d44eb77ddd535ff0b1c738de72bb33,
  0x2bd77bb364af6b3fc733d8875e039333, 0x3cfddc25f2ae2df86391fd8d3387a7c0, 0x144558bb6c9dfcd7bc4c239cf48626f3, 0x457534e82f16f649aa2d862c91005ba7, 0x698e6217d7fa8627ef6aa903c013fa95,
  0x4bf8b9d33b8f38198de17cdee54751e7, 0x224d20acccef41ee67fd0ac2e3641972, 0x634efa836deeebf650dae654442b4894, 0x21ce3a83c07744de74dad50f0d583b32, 0x4bf6a9a1f02e1f698fec4b1a74166be7,
  0x1a24eaaa541c8b0f9092b01169688933, 0x6462e2cc93c28627d2d0526e0d66c2d5, 0x56f3167fe31302df9eb885b869165d55, 0x79b07befedd921e9cd751ec18ebeebe7, 0x46f806225397f491bb49eab33e4cf467,
  0x701c741cbd9fc8b06b94eadf79b8c426, 0x77dcb1c60e3ad5c9e2190477682adba7, 0x44eaa59bd8819a999287fa5ed58ad81, 0x2c14dbb71e26fc964f314b9433eb3eb2, 0x602105ae977251e64834e0c2dd2d5a94,
  0x7348a7e5645f93d076e747a9d181ec26, 0x645919a4b35879f7d7a68d71cb5770d5, 0x197d9b438cafcf2f8e88275824a90133, 0xd94d9da18080030c4db699e5dc0, 0x2cfbb4409945165e45d21862e0409b32, 0x99a6e1cca2f8641a0b0910804c90841,
  0x2561da5c536a901fe562896ae4899333, 0x5f86cdbc744e28fe3430f49ddf071154, 0x36e717e02724b8e1d1527df73b8e8241, 0x51eae8be2fe60df61bf9191de1788d94, 0x646cca29e3d6cc8fd093e2fc4c0f4ad5,
  0x5f67891c31b7edb03c86875f90384d1c, 0x7adc3b3404788e15d4cfd6f8f5447467, 0x36dc3b3404788e15d4cfd6f8f5447461, 0x41d77801d619af2a38dab35b297373a6, 0x35bd0e43ef6cf78dcef750ee63bd3171,
  0x4a2ade42a1db558927495c4d4e62fc1, 0x0]
theorem apL_add (M : List Nat) (i a b : Nat) : apL M i (a ^^^ b) = apL M i a ^^^ apL M i b := by
  induction M generalizing i with
  | nil => simp [apL]
  | cons m M ih =>
    simp only [apL, ih, Nat.testBit_xor]
    cases h1 : a.testBit (127 - i) <;> cases h2 : b.testBit (127 - i) <;> simp
    · rw [← Nat.xor_assoc, ← Nat.xor_assoc, Nat.xor_comm m]
    · rw [Nat.xor_assoc]
    · rw [xor4, Nat.xor_self, Nat.zero_xor]
theorem ap_add (M : List Nat) (a b : Nat) : ap M (a ^^^ b) = ap M a ^^^ ap M b := apL_add M 0 a b
/-- The square. -/
def sq (a : Nat) : Nat := P a a
theorem sq_lt (a : Nat) (h : a < lim) : sq a < lim := P_lt a a h
theorem xor_lt {a b : Nat} (ha : a < lim) (hb : b < lim) : a ^^^ b < lim := Nat.xor_lt_two_pow ha hb
theorem sq_add (a b : Nat) (ha : a < lim) (hb : b < lim) : sq (a ^^^ b) = sq a ^^^ sq b := by
  unfold sq
  rw [P_addl, P_addr, P_addr, P_comm b a hb ha, xor4, Nat.xor_comm (P a b) (P b b), xor4, Nat.xor_self, Nat.xor_zero]
def sqM : List Nat := (List.range 128).map fun i => sq (e i)
/-- A sum that goes only over elements: the square is one. -/
theorem agree' (f g : Nat → Nat) (f0 : f 0 = 0) (g0 : g 0 = 0) (hf : ∀ a b, a < lim → b < lim → f (a ^^^ b) = f a ^^^ f b) (hg : ∀ a b, a < lim → b < lim → g (a ^^^ b) = g a ^^^ g b) (h : ∀ i, i < 128 → f (e i) = g (e i)) (a : Nat) (ha : a < lim) : f a = g a := by
  have : ∀ k, k ≤ 128 → ∀ a, a < 2 ^ k → f a = g a := by
    intro k
    induction k with
    | zero =>
      intro _ a ha
      obtain rfl : a = 0 := by simpa using ha
      rw [f0, g0]
    | succ k ih =>
      intro hk a ha
      have hl : (2 : Nat) ^ k < lim := Nat.pow_lt_pow_right (by omega) (by omega)
      have hm : a % 2 ^ k < 2 ^ k := Nat.mod_lt _ (Nat.two_pow_pos k)
      have h1 := ih (by omega) (a % 2 ^ k) hm
      have h2 : f (if a.testBit k then 2 ^ k else 0) = g (if a.testBit k then 2 ^ k else 0) := by
        split
        · have := h (127 - k) (by omega)
          unfold e at this
          rwa [show 127 - (127 - k) = k by omega] at this
        · rw [f0, g0]
      have h3 : (if a.testBit k then 2 ^ k else 0) < lim := by
        split
        · exact hl
        · exact Nat.two_pow_pos 128
      rw [split_bit a k ha, hf _ _ (Nat.lt_trans hm hl) h3, hg _ _ (Nat.lt_trans hm hl) h3, h1, h2]
  exact this 128 (Nat.le_refl _) a ha
def sqN : Nat → Nat → Nat
  | 0, a => a
  | k + 1, a => sq (sqN k a)
theorem sqN_lt (k a : Nat) (h : a < lim) : sqN k a < lim := by
  induction k with
  | zero => exact h
  | succ k ih => exact sq_lt _ ih
theorem sqN_add (k a b : Nat) (ha : a < lim) (hb : b < lim) : sqN k (a ^^^ b) = sqN k a ^^^ sqN k b := by
  induction k with
  | zero => rfl
  | succ k ih => simp only [sqN]; rw [ih, sq_add _ _ (sqN_lt _ _ ha) (sqN_lt _ _ hb)]
theorem sqN_zero (k : Nat) : sqN k 0 = 0 := by
  induction k with
  | zero => rfl
  | succ k ih => simp only [sqN, ih]; exact P_zerol 0
/-- A matrix that says what a power of two squarings does. -/
def Says (k : Nat) (M : List Nat) : Prop := ∀ a, a < lim → sqN k a = ap M a
def mul2 (M : List Nat) : List Nat := M.map (ap M)
theorem apL_skip (M : List Nat) (j i v : Nat) (h : ∀ k, j ≤ k → k < j + M.length → v.testBit (127 - k) = false) : j = i → apL M i v = 0 := by
  intro hi
  subst hi
  induction M generalizing j with
  | nil => rfl
  | cons m M ih =>
    simp only [apL]
    rw [h j (Nat.le_refl _) (by simp), ih (j + 1) (fun k h1 h2 => h k (by omega) (by simp; omega))]
    simp
theorem ap_e (M : List Nat) (j : Nat) (hl : M.length = 128) (h : j < 128) : ap M (e j) = M.getD j 0 := by
  have : ∀ (M : List Nat) (i : Nat), i + M.length = 128 → i ≤ j → apL M i (e j) = M.getD (j - i) 0 := by
    intro M
    induction M with
    | nil => intro i h1 h2; simp at h1; omega
    | cons m M ih =>
      intro i h1 h2
      simp only [List.length_cons] at h1
      simp only [apL]
      unfold e
      rw [Nat.testBit_two_pow]
      by_cases hij : i = j
      · subst hij
        simp only [decide_true, if_true, Nat.sub_self, List.getD_cons_zero]
        rw [apL_skip M (i + 1) (i + 1) _ (fun k hk1 hk2 => by rw [Nat.testBit_two_pow]; simp; omega) rfl, Nat.xor_zero]
      · have : ¬ (127 - j = 127 - i) := by omega
        have h3 := ih (i + 1) (by omega) (by omega)
        unfold e at h3
        simp only [this, decide_false, if_false, Bool.false_eq_true]
        rw [h3, show j - i = (j - (i + 1)) + 1 by omega, List.getD_cons_succ]
  have := this M 0 (by omega) (by omega)
  simpa [ap] using this
theorem sqN_sqN (k l a : Nat) : sqN k (sqN l a) = sqN (k + l) a := by
  induction k with
  | zero => simp [sqN]
  | succ k ih => rw [Nat.succ_add]; simp only [sqN, ih]
theorem says_two {k : Nat} {M : List Nat} (hl : M.length = 128) (h : Says k M) : Says (k + k) (mul2 M) := by
  intro a ha
  have hml : (mul2 M).length = 128 := by simp [mul2, hl]
  rw [← sqN_sqN, h a ha]
  have hap : ∀ a, a < lim → ap M a < lim := fun a ha => by rw [← h a ha]; exact sqN_lt k a ha
  rw [h _ (hap a ha)]
  refine agree' (fun a => ap M (ap M a)) (ap (mul2 M)) ?_ ?_ (fun a b _ _ => ?_) (fun a b _ _ => ap_add _ a b) (fun i hi => ?_) a ha
  · have h0 := ap_add M 0 0
    rw [Nat.xor_self, Nat.xor_self] at h0
    show ap M (ap M 0) = 0
    rw [h0, h0]
  · have h0 := ap_add (mul2 M) 0 0
    rw [Nat.xor_self, Nat.xor_self] at h0
    exact h0
  · show ap M (ap M (a ^^^ b)) = _
    rw [ap_add, ap_add]
  · show ap M (ap M (e i)) = ap (mul2 M) (e i)
    rw [ap_e _ i hl hi, ap_e _ i hml hi, mul2]
    simp [hl, hi]
theorem says_one : Says 1 sqM := by
  intro a ha
  have hl : sqM.length = 128 := by simp [sqM]
  refine agree' (sqN 1) (ap sqM) (sqN_zero 1) ?_ (fun a b ha hb => sqN_add 1 a b ha hb) (fun a b _ _ => ap_add _ a b) (fun i hi => ?_) a ha
  · have h0 := ap_add sqM 0 0
    rw [Nat.xor_self, Nat.xor_self] at h0
    exact h0
  · rw [ap_e _ i hl hi]
    simp [sqM, hi, sqN]
def sqM7 : List Nat := mul2 (mul2 (mul2 (mul2 (mul2 (mul2 (mul2 sqM))))))
theorem sqM7_all : sqM7 = (List.range 128).map e := by decide +kernel
theorem mul2_len (M : List Nat) : (mul2 M).length = M.length := by simp [mul2]
theorem sq128 (a : Nat) (ha : a < lim) : sqN 128 a = a := by
  have hl : sqM.length = 128 := by simp [sqM]
  have h := says_two (by simp [mul2_len, hl]) (says_two (by simp [mul2_len, hl]) (says_two (by simp [mul2_len, hl]) (says_two (by simp [mul2_len, hl]) (says_two (by simp [mul2_len, hl]) (says_two (by simp [mul2_len, hl]) (says_two hl says_one))))))
  have h2 := h a ha
  refine h2.trans ?_
  show ap sqM7 a = a
  rw [sqM7_all]
  refine agree' (ap ((List.range 128).map e)) (fun a => a) ?_ rfl (fun a b _ _ => ap_add _ a b) (fun _ _ _ _ => rfl) (fun i hi => ?_) a ha
  · have h0 := ap_add ((List.range 128).map e) 0 0
    rw [Nat.xor_self, Nat.xor_self] at h0
    exact h0
  · rw [ap_e _ i (by simp) hi]
    simp [hi]
/-- What is its own square is nought or one. -/
theorem invL_all : ((List.range 128).all fun i => ap invL (sq (e i) ^^^ e i) == (if i = 0 then 0 else e i)) = true := by decide +kernel
theorem fix_two (v : Nat) (hv : v < lim) (h : sq v = v) : v = 0 ∨ v = e 0 := by
  have key : ap invL (sq v ^^^ v) = v ^^^ (if v.testBit 127 then e 0 else 0) := by
    refine agree' (fun v => ap invL (sq v ^^^ v)) (fun v => v ^^^ (if v.testBit 127 then e 0 else 0)) (by decide +kernel) (by decide +kernel) (fun a b ha hb => ?_) (fun a b _ _ => ?_) (fun i hi => ?_) v hv
    · show ap invL (sq (a ^^^ b) ^^^ (a ^^^ b)) = _
      rw [sq_add a b ha hb, xor4, ap_add]
    · show (a ^^^ b) ^^^ _ = _
      rw [Nat.testBit_xor, xor4]
      cases a.testBit 127 <;> cases b.testBit 127 <;> simp
    · have := List.all_eq_true.1 invL_all i (List.mem_range.2 hi)
      have := eq_of_beq this
      show ap invL (sq (e i) ^^^ e i) = e i ^^^ (if (e i).testBit 127 then e 0 else 0)
      rw [this]
      by_cases h0 : i = 0
      · subst h0; decide
      · have : (e i).testBit 127 = false := Nat.testBit_lt_two_pow (Nat.pow_lt_pow_right (by omega) (by omega))
        simp [h0, this]
  rw [h, Nat.xor_self] at key
  have z : ap invL 0 = 0 := by have := ap_add invL 0 0; rw [Nat.xor_self, Nat.xor_self] at this; exact this
  rw [z] at key
  by_cases hb : v.testBit 127
  · right
    rw [if_pos hb] at key
    have : v ^^^ (v ^^^ e 0) = v ^^^ 0 := by rw [← key]
    rw [← Nat.xor_assoc, Nat.xor_self, Nat.zero_xor, Nat.xor_zero] at this
    exact this.symm
  · left
    rw [if_neg hb, Nat.xor_zero] at key
    exact key.symm
theorem sq_P (a b : Nat) (ha : a < lim) (hb : b < lim) : sq (P a b) = P (sq a) (sq b) := by
  unfold sq
  have hab := P_lt a b hb
  rw [P_assoc a b (P a b) ha hb hab, ← P_assoc b a b hb ha hb, P_comm b a hb ha, P_assoc a b b ha hb hb, ← P_assoc a a (P b b) ha ha (P_lt b b hb)]
/-- The product of the first k squarings. -/
def nm (a : Nat) : Nat → Nat
  | 0 => e 0
  | k + 1 => P (nm a k) (sqN k a)
theorem nm_lt (a : Nat) (ha : a < lim) (k : Nat) : nm a k < lim := by
  cases k with
  | zero => exact e_lt 0
  | succ k => exact P_lt _ _ (sqN_lt _ _ ha)
theorem nm_a (a : Nat) (ha : a < lim) (k : Nat) : P a (nm a k) = sqN k a := by
  induction k with
  | zero => show P a (e 0) = a; rw [P_comm a _ ha (e_lt 0), P_one]
  | succ k ih =>
    show P a (P (nm a k) (sqN k a)) = sq (sqN k a)
    rw [← P_assoc _ _ _ ha (nm_lt a ha k) (sqN_lt k a ha), ih]
    rfl
theorem sq_e0 : sq (e 0) = e 0 := P_one (e 0)
theorem sq_nm (a : Nat) (ha : a < lim) (k : Nat) : P a (sq (nm a k)) = nm a (k + 1) := by
  induction k with
  | zero =>
    show P a (sq (e 0)) = P (e 0) a
    rw [sq_e0, P_comm a _ ha (e_lt 0)]
  | succ k ih =>
    show P a (sq (P (nm a k) (sqN k a))) = P (nm a (k + 1)) (sqN (k + 1) a)
    rw [sq_P _ _ (nm_lt a ha k) (sqN_lt k a ha), ← P_assoc _ _ _ ha (sq_lt _ (nm_lt a ha k)) (sq_lt _ (sqN_lt k a ha)), ih]
    rfl
/-- Each element but nought has an inverse. -/
theorem no_zero (a b : Nat) (ha : a < lim) (hb : b < lim) (h : P a b = 0) : a = 0 ∨ b = 0 := by
  have h1 : P a (nm a 128) = a := by rw [nm_a a ha, sq128 a ha]
  have h2 : P a (sq (nm a 127)) = nm a 128 := sq_nm a ha 127
  have h3 : sq (nm a 128) = nm a 128 := by
    -- a * N^2 = N * a .. : N (128 factors) is its own square
    have e1 : P a (sq (nm a 128)) = nm a 129 := sq_nm a ha 128
    have e2 : nm a 129 = P (nm a 128) a := by show P (nm a 128) (sqN 128 a) = _; rw [sq128 a ha]
    have e3 : nm a 129 = a := by rw [e2, P_comm _ _ (nm_lt a ha 128) ha, h1]
    -- N = a * n, n = sq (nm a 127): N * N = (a * N) * n .. = a * n = N
    show P (nm a 128) (nm a 128) = nm a 128
    have hn := sq_lt _ (nm_lt a ha 127)
    calc P (nm a 128) (nm a 128) = P (P (sq (nm a 127)) a) (nm a 128) := by rw [P_comm (sq (nm a 127)) a hn ha, h2]
      _ = P (sq (nm a 127)) (P a (nm a 128)) := P_assoc _ _ _ hn ha (nm_lt a ha 128)
      _ = nm a 128 := by rw [h1, P_comm _ _ hn ha, h2]
  rcases fix_two _ (nm_lt a ha 128) h3 with h4 | h4
  · left
    rw [h4, P_zeror] at h1
    exact h1.symm
  · right
    have hn := sq_lt _ (nm_lt a ha 127)
    have : P (P (sq (nm a 127)) a) b = b := by rw [P_comm _ _ hn ha, h2, h4, P_one]
    rw [P_assoc _ _ _ hn ha hb, h, P_zeror] at this
    exact this.symm
end Go.Proofs.Ytjopgogaipkdbaa.Gf
