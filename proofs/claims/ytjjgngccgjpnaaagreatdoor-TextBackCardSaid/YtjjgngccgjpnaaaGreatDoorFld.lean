/- Words of 64 bits as numbers: parts, bits, what is cut and set. Plain: no program in sight. -/
namespace Go.Proofs.YtjjgngccgjpnaaaGreatDoor.Fld
set_option linter.unusedVariables false
set_option linter.unusedSimpArgs false

theorem two_pow_pos' (n : Nat) : 0 < 2 ^ n := Nat.two_pow_pos n

/-- The number whose bits below n are f. -/
def ofBits (f : Nat → Bool) : Nat → Nat
  | 0 => 0
  | n + 1 => ofBits f n + (if f n = true then 2 ^ n else 0)

theorem ofBits_lt (f : Nat → Bool) : ∀ n, ofBits f n < 2 ^ n
  | 0 => by simp [ofBits]
  | n + 1 => by
    have h := ofBits_lt f n
    have hp : 2 ^ (n + 1) = 2 ^ n + 2 ^ n := by rw [Nat.pow_succ]; omega
    unfold ofBits
    split <;> omega

theorem testBit_ofBits (f : Nat → Bool) : ∀ n i, (ofBits f n).testBit i = (decide (i < n) && f i)
  | 0, i => by simp [ofBits]
  | n + 1, i => by
    have ih := testBit_ofBits f n i
    have hl := ofBits_lt f n
    unfold ofBits
    by_cases h : f n = true
    · rw [if_pos h, Nat.add_comm]
      rcases Nat.lt_trichotomy i n with hi | hi | hi
      · rw [Nat.testBit_two_pow_add_gt hi, ih]
        simp [hi, Nat.lt_succ_of_lt hi]
      · subst hi
        rw [Nat.testBit_two_pow_add_eq, ih]
        simp [h]
      · have hlt : 2 ^ n + ofBits f n < 2 ^ i := by
          have h1 : 2 ^ (n + 1) = 2 ^ n + 2 ^ n := by rw [Nat.pow_succ]; omega
          have h2 : 2 ^ (n + 1) ≤ 2 ^ i := Nat.pow_le_pow_right (by omega) hi
          omega
        rw [Nat.testBit_lt_two_pow hlt]
        have : ¬ i < n + 1 := by omega
        simp [this]
    · rw [if_neg h, Nat.add_zero, ih]
      by_cases hi : i < n
      · simp [hi, Nat.lt_succ_of_lt hi]
      · by_cases he : i = n
        · subst he
          simp at h
          simp [h]
        · have : ¬ i < n + 1 := by omega
          simp [hi, this]

theorem ofBits_congr {f g : Nat → Bool} {n : Nat} (h : ∀ i, i < n → f i = g i) : ofBits f n = ofBits g n := by
  apply Nat.eq_of_testBit_eq
  intro i
  rw [testBit_ofBits, testBit_ofBits]
  by_cases hi : i < n
  · simp [h i hi]
  · simp [hi]

/-- A number below 2^n is that of its bits. -/
theorem ofBits_self {w n : Nat} (h : w < 2 ^ n) : ofBits w.testBit n = w := by
  apply Nat.eq_of_testBit_eq
  intro i
  rw [testBit_ofBits]
  by_cases hi : i < n
  · simp [hi]
  · have : w < 2 ^ i := Nat.lt_of_lt_of_le h (Nat.pow_le_pow_right (by omega) (by omega))
    simp [Nat.testBit_lt_two_pow this]

theorem eq_ofBits {w n : Nat} {f : Nat → Bool} (h : w < 2 ^ n) (hf : ∀ i, i < n → w.testBit i = f i) : w = ofBits f n := by
  rw [← ofBits_self h]
  exact ofBits_congr hf

/-- Is a bit within a part? -/
def within (at_ size : Int) (i : Nat) : Bool := decide (1 ≤ size) && decide (at_ ≤ (i : Int)) && decide ((i : Int) < at_ + size)
/-- A word's bit; none at places that there aren't. -/
def bitZ (w : Nat) (i : Int) : Bool := decide (0 ≤ i) && w.testBit i.toNat

def mask (at_ size : Int) : Nat := ofBits (within at_ size) 64
def cut (w : Nat) (at_ size : Int) : Nat := ofBits (fun k => decide ((k : Int) < size) && bitZ w (at_ + k)) 64
def set (w : Nat) (at_ size : Int) (n : Nat) : Nat := ofBits (fun i => if within at_ size i = true then bitZ n (i - at_) else w.testBit i) 64

theorem mask_lt (a s : Int) : mask a s < 2 ^ 64 := ofBits_lt _ _
theorem cut_lt (w : Nat) (a s : Int) : cut w a s < 2 ^ 64 := ofBits_lt _ _
theorem set_lt (w : Nat) (a s : Int) (n : Nat) : set w a s n < 2 ^ 64 := ofBits_lt _ _

theorem testBit_all (i : Nat) : (18446744073709551615 : Nat).testBit i = decide (i < 64) := by
  have : (18446744073709551615 : Nat) = 2 ^ 64 - 1 := by decide
  rw [this, Nat.testBit_two_pow_sub_one]

theorem mask_none {a s : Int} (h : s < 1 ∨ 64 ≤ a ∨ a + s ≤ 0) : mask a s = 0 := by
  apply Nat.eq_of_testBit_eq
  intro i
  unfold mask
  rw [testBit_ofBits]
  unfold within
  simp only [Nat.zero_testBit]
  by_cases hi : i < 64
  · rcases h with h | h | h
    · have : ¬ (1 ≤ s) := by omega
      simp [this]
    · have : ¬ (a ≤ (i : Int)) := by omega
      simp [this]
    · have : ¬ ((i : Int) < a + s) := by omega
      simp [this]
  · simp [hi]

/-- What the program's Mask reckons: ones, moved. -/
theorem mask_some {a s : Int} {first L : Nat} (h1 : 1 ≤ s) (_h2 : a < 64) (h3 : 0 < a + s) (hf : (first : Int) = max 0 a) (hL : (first : Int) + L = min 64 (a + s)) :
    18446744073709551615 / 2 ^ (64 - L) * 2 ^ first % 2 ^ 64 = mask a s := by
  apply Nat.eq_of_testBit_eq
  intro i
  unfold mask
  rw [testBit_ofBits, Nat.testBit_mod_two_pow, Nat.testBit_mul_two_pow, Nat.testBit_div_two_pow, testBit_all]
  by_cases hi : i < 64
  · unfold within
    simp only [hi, decide_true, Bool.true_and, h1]
    by_cases hfi : first ≤ i
    · have e1 : a ≤ (i : Int) := by omega
      have e2 : (i - first + (64 - L) < 64) ↔ ((i : Int) < a + s) := by omega
      simp [hfi, e1, e2]
    · have e1 : ¬ a ≤ (i : Int) := by omega
      simp [hfi, e1]
  · simp [hi]

theorem within_iff {a s : Int} {i : Nat} : within a s i = true ↔ 1 ≤ s ∧ a ≤ (i : Int) ∧ (i : Int) < a + s := by
  simp [within, and_assoc]

theorem testBit_mask (a s : Int) (i : Nat) : (mask a s).testBit i = (decide (i < 64) && within a s i) := by
  unfold mask; rw [testBit_ofBits]

theorem bitZ_lt {n : Nat} (hn : n < 2 ^ 64) {i : Int} (h : 64 ≤ i) : bitZ n i = false := by
  unfold bitZ
  have : n < 2 ^ i.toNat := Nat.lt_of_lt_of_le hn (Nat.pow_le_pow_right (by omega) (by omega))
  simp [Nat.testBit_lt_two_pow this]
theorem bitZ_neg {n : Nat} {i : Int} (h : i < 0) : bitZ n i = false := by
  unfold bitZ
  have : ¬ 0 ≤ i := by omega
  simp [this]
theorem bitZ_nat (n i : Nat) : bitZ n (i : Int) = n.testBit i := by simp [bitZ]

/-- The program's Cut, at a part that begins at 0 or above: down. -/
theorem cut_down {w : Nat} (hw : w < 2 ^ 64) {a s : Int} (h0 : 0 ≤ a) : (w &&& mask a s) / 2 ^ a.toNat = cut w a s := by
  apply Nat.eq_of_testBit_eq
  intro i
  unfold cut
  rw [testBit_ofBits, Nat.testBit_div_two_pow, Nat.testBit_and, testBit_mask]
  by_cases hi : i < 64
  · by_cases hi2 : i + a.toNat < 64
    · have e : within a s (i + a.toNat) = decide ((i : Int) < s) := by
        unfold within
        have e1 : a ≤ ((i + a.toNat : Nat) : Int) := by omega
        have e2 : (((i + a.toNat : Nat) : Int) < a + s) ↔ ((i : Int) < s) := by omega
        by_cases h : (i : Int) < s
        · have : 1 ≤ s := by omega
          simp only [e1, e2, h, this, decide_true, Bool.and_self]
        · simp only [e1, e2, h, decide_false, Bool.and_false]
      have e3 : bitZ w (a + i) = w.testBit (i + a.toNat) := by
        have : a + (i : Int) = ((i + a.toNat : Nat) : Int) := by omega
        rw [this, bitZ_nat]
      simp [hi, hi2, e, e3, Bool.and_comm]
    · have e3 : bitZ w (a + i) = false := bitZ_lt hw (by omega)
      simp [hi2, e3]
  · have : w.testBit (i + a.toNat) = false := Nat.testBit_lt_two_pow (Nat.lt_of_lt_of_le hw (Nat.pow_le_pow_right (by omega) (by omega)))
    simp [hi, this]

theorem cut_up {w : Nat} {a s : Int} (h0 : a < 0) (h1 : -64 < a) : (w &&& mask a s) * 2 ^ (-a).toNat % 2 ^ 64 = cut w a s := by
  apply Nat.eq_of_testBit_eq
  intro i
  unfold cut
  rw [testBit_ofBits, Nat.testBit_mod_two_pow, Nat.testBit_mul_two_pow, Nat.testBit_and, testBit_mask]
  by_cases hi : i < 64
  · by_cases hi2 : (-a).toNat ≤ i
    · have hlt : i - (-a).toNat < 64 := by omega
      have e3 : bitZ w (a + i) = w.testBit (i - (-a).toNat) := by
        have : a + (i : Int) = ((i - (-a).toNat : Nat) : Int) := by omega
        rw [this, bitZ_nat]
      have e : within a s (i - (-a).toNat) = decide ((i : Int) < s) := by
        unfold within
        have e1 : a ≤ ((i - (-a).toNat : Nat) : Int) := by omega
        have e2 : (((i - (-a).toNat : Nat) : Int) < a + s) ↔ ((i : Int) < s) := by omega
        by_cases h : (i : Int) < s
        · have : 1 ≤ s := by omega
          simp only [e1, e2, h, this, decide_true, Bool.and_self]
        · simp only [e1, e2, h, decide_false, Bool.and_false]
      simp [hi, hi2, hlt, e, e3, Bool.and_comm]
    · have e3 : bitZ w (a + i) = false := bitZ_neg (by omega)
      simp [hi2, e3]
  · simp [hi]

theorem cut_none {w : Nat} {a s : Int} (h : a ≤ -64) : cut w a s = 0 := by
  apply Nat.eq_of_testBit_eq
  intro i
  unfold cut
  rw [testBit_ofBits, Nat.zero_testBit]
  by_cases hi : i < 64
  · have e3 : bitZ w (a + i) = false := bitZ_neg (by omega)
    simp [e3]
  · simp [hi]
theorem cut_high {w : Nat} {a s : Int} (h : 64 ≤ a) (hw : w < 2 ^ 64) : cut w a s = 0 := by
  apply Nat.eq_of_testBit_eq
  intro i
  unfold cut
  rw [testBit_ofBits, Nat.zero_testBit]
  have e3 : bitZ w (a + i) = false := bitZ_lt hw (by omega)
  simp [e3]

/-- The program's Set: 'm' the mask, 'x' the number, moved. -/
theorem set_is {w n x : Nat} {a s : Int} (hx : ∀ i, i < 64 → within a s i = true → x.testBit i = bitZ n ((i : Int) - a)) :
    (w &&& (18446744073709551615 - mask a s)) ||| (x &&& mask a s) = set w a s n := by
  apply Nat.eq_of_testBit_eq
  intro i
  have hsub : (18446744073709551615 - mask a s) = 2 ^ 64 - (mask a s + 1) := by
    have : (18446744073709551615 : Nat) = 2 ^ 64 - 1 := by decide
    omega
  unfold set
  rw [testBit_ofBits, Nat.testBit_or, Nat.testBit_and, Nat.testBit_and, hsub, Nat.testBit_two_pow_sub_succ (mask_lt a s), testBit_mask]
  by_cases hi : i < 64
  · by_cases hw' : within a s i = true
    · simp [hi, hw', hx i hi hw']
    · simp at hw'
      simp [hi, hw']
  · simp [hi]

theorem moved_up {n : Nat} {a : Int} (h0 : 0 ≤ a) {i : Nat} (hi : i < 64) (hai : a ≤ (i : Int)) : (n * 2 ^ a.toNat % 2 ^ 64).testBit i = bitZ n ((i : Int) - a) := by
  rw [Nat.testBit_mod_two_pow, Nat.testBit_mul_two_pow]
  have h1 : a.toNat ≤ i := by omega
  have : (i : Int) - a = ((i - a.toNat : Nat) : Int) := by omega
  rw [this, bitZ_nat]
  simp [hi, h1]
theorem moved_down {n : Nat} {a : Int} (h0 : a < 0) {i : Nat} : (n / 2 ^ (-a).toNat).testBit i = bitZ n ((i : Int) - a) := by
  rw [Nat.testBit_div_two_pow]
  have : (i : Int) - a = ((i + (-a).toNat : Nat) : Int) := by omega
  rw [this, bitZ_nat]

/-! ### with numbers -/
theorem cut_eq {w : Nat} {a s : Nat} (hs : a + s ≤ 64) : cut w (a : Int) (s : Int) = w / 2 ^ a % 2 ^ s := by
  symm
  apply Nat.eq_of_testBit_eq
  intro i
  unfold cut
  rw [testBit_ofBits, Nat.testBit_mod_two_pow, Nat.testBit_div_two_pow]
  have e : bitZ w ((a : Int) + i) = w.testBit (i + a) := by
    have : (a : Int) + (i : Int) = ((i + a : Nat) : Int) := by omega
    rw [this, bitZ_nat]
  rw [e]
  by_cases hi : i < s
  · have : i < 64 := by omega
    simp [hi, this]
  · have : ¬ ((i : Int) < (s : Int)) := by omega
    simp [hi, this]

theorem set_eq {w n : Nat} {a s : Nat} (hw : w < 2 ^ 64) (hs : a + s ≤ 64) :
    set w (a : Int) (s : Int) n = w % 2 ^ a + n % 2 ^ s * 2 ^ a + w / 2 ^ (a + s) * 2 ^ (a + s) := by
  symm
  have hA : w % 2 ^ a < 2 ^ a := Nat.mod_lt _ (Nat.two_pow_pos _)
  have hN : n % 2 ^ s < 2 ^ s := Nat.mod_lt _ (Nat.two_pow_pos _)
  have hM : w % 2 ^ a + n % 2 ^ s * 2 ^ a < 2 ^ (a + s) := by
    have : (n % 2 ^ s + 1) * 2 ^ a ≤ 2 ^ s * 2 ^ a := Nat.mul_le_mul_right _ hN
    rw [Nat.pow_add, Nat.mul_comm (2 ^ a)]
    rw [Nat.add_mul] at this
    omega
  have e1 : w % 2 ^ a + n % 2 ^ s * 2 ^ a = 2 ^ a * (n % 2 ^ s) + w % 2 ^ a := by rw [Nat.mul_comm]; omega
  have e2 : ∀ M, M + w / 2 ^ (a + s) * 2 ^ (a + s) = 2 ^ (a + s) * (w / 2 ^ (a + s)) + M := by intro M; rw [Nat.mul_comm]; omega
  apply Nat.eq_of_testBit_eq
  intro i
  unfold set
  rw [testBit_ofBits, e2, Nat.testBit_two_pow_mul_add _ hM, e1, Nat.testBit_two_pow_mul_add _ hA]
  by_cases hi : i < a + s
  · rw [if_pos hi]
    have hi64 : i < 64 := by omega
    by_cases hia : i < a
    · rw [if_pos hia, Nat.testBit_mod_two_pow]
      have : within (a : Int) (s : Int) i = false := by
        have : ¬ ((a : Int) ≤ (i : Int)) := by omega
        simp [within, this]
      simp [hi64, hia, this]
    · rw [if_neg hia, Nat.testBit_mod_two_pow]
      have : within (a : Int) (s : Int) i = true := within_iff.2 ⟨by omega, by omega, by omega⟩
      have e3 : (i : Int) - (a : Int) = ((i - a : Nat) : Int) := by omega
      have : i - a < s := by omega
      simp [*, bitZ_nat]
  · rw [if_neg hi, Nat.testBit_div_two_pow]
    have : within (a : Int) (s : Int) i = false := by
      have : ¬ ((i : Int) < (a : Int) + s) := by omega
      simp [within, this]
    rw [show i - (a + s) + (a + s) = i by omega]
    by_cases h64 : i < 64
    · simp [h64, this]
    · have : w.testBit i = false := Nat.testBit_lt_two_pow (Nat.lt_of_lt_of_le hw (Nat.pow_le_pow_right (by omega) (by omega)))
      simp [h64, this]


theorem ofBits_succ (f : Nat → Bool) (k : Nat) : ofBits f (k + 1) = ofBits f k + (f k).toNat * 2 ^ k := by
  rw [ofBits]
  cases f k <;> simp

theorem all_eq : (18446744073709551615 : Nat) = 2 ^ 64 - 1 := by decide
theorem testBit_notAll {m : Nat} (hm : m < 2 ^ 64) (i : Nat) : (18446744073709551615 - m).testBit i = (decide (i < 64) && !m.testBit i) := by
  have hsub : (18446744073709551615 - m) = 2 ^ 64 - (m + 1) := by
    have := all_eq
    omega
  rw [hsub, Nat.testBit_two_pow_sub_succ hm]

theorem within_one (b : Int) (i : Nat) : within b 1 i = decide ((i : Int) = b) := by
  rw [Bool.eq_iff_iff, within_iff, decide_eq_true_eq]
  omega

theorem turn_on {w : Nat} (hw : w < 2 ^ 64) (b : Int) : w ||| mask b 1 = set w b 1 1 := by
  apply Nat.eq_of_testBit_eq
  intro i
  unfold set
  rw [testBit_ofBits, Nat.testBit_or, testBit_mask, within_one]
  by_cases hi : i < 64
  · by_cases hb : (i : Int) = b
    · have e : (i : Int) - b = ((0 : Nat) : Int) := by omega
      rw [e, bitZ_nat]
      simp [hi, hb]
    · simp [hi, hb]
  · have : w.testBit i = false := Nat.testBit_lt_two_pow (Nat.lt_of_lt_of_le hw (Nat.pow_le_pow_right (by omega) (by omega)))
    simp [hi, this]
theorem turn_off {w : Nat} (b : Int) : w &&& (18446744073709551615 - mask b 1) = set w b 1 0 := by
  apply Nat.eq_of_testBit_eq
  intro i
  unfold set
  rw [testBit_ofBits, Nat.testBit_and, testBit_notAll (mask_lt _ _), testBit_mask, within_one]
  by_cases hi : i < 64
  · by_cases hb : (i : Int) = b
    · have e : (i : Int) - b = ((0 : Nat) : Int) := by omega
      rw [e, bitZ_nat]
      simp [hi, hb]
    · simp [hi, hb]
  · simp [hi]

theorem cut_one (w : Nat) (b : Int) : cut w b 1 = (bitZ w b).toNat := by
  apply Nat.eq_of_testBit_eq
  intro i
  unfold cut
  rw [testBit_ofBits]
  cases i with
  | zero =>
    have e : b + ((0 : Nat) : Int) = b := by omega
    rw [e]
    cases bitZ w b <;> simp
  | succ j =>
    cases bitZ w b <;> simp [Nat.testBit_succ] <;> (intro h1 h2; omega)

theorem set_out {w n : Nat} {a s : Int} (hw : w < 2 ^ 64) (h : s < 1 ∨ 64 ≤ a ∨ a + s ≤ 0) : set w a s n = w := by
  unfold set
  symm
  refine eq_ofBits hw fun i hi => ?_
  have : within a s i = false := by
    have hn : ¬ (within a s i = true) := by
      rw [within_iff]
      omega
    simpa using hn
  simp [this]

theorem bit_div (w i : Nat) : w / 2 ^ i % 2 = (w.testBit i).toNat := by
  rw [Nat.testBit_eq_decide_div_mod_eq]
  have := Nat.mod_two_eq_zero_or_one (w / 2 ^ i)
  rcases this with h | h <;> simp [h]

/-- What lies above a size: nothing, just if the number is small. -/
theorem above_none {n : Nat} (hn : n < 2 ^ 64) {s : Nat} (hs : s ≤ 64) : (n &&& (18446744073709551615 - mask 0 (s : Int)) = 0) ↔ n < 2 ^ s := by
  constructor
  · intro h
    refine Nat.lt_pow_two_of_testBit n fun i hi => ?_
    by_cases hi64 : i < 64
    · have h1 : (n &&& (18446744073709551615 - mask 0 (s : Int))).testBit i = false := by rw [h]; simp
      rw [Nat.testBit_and, testBit_notAll (mask_lt _ _), testBit_mask] at h1
      have : within 0 (s : Int) i = false := by
        have hn : ¬ (within 0 (s : Int) i = true) := by
          rw [within_iff]
          omega
        simpa using hn
      simpa [hi64, this] using h1
    · exact Nat.testBit_lt_two_pow (Nat.lt_of_lt_of_le hn (Nat.pow_le_pow_right (by omega) (by omega)))
  · intro h
    apply Nat.eq_of_testBit_eq
    intro i
    rw [Nat.testBit_and, testBit_notAll (mask_lt _ _), testBit_mask, Nat.zero_testBit]
    by_cases hi : i < s
    · have : within 0 (s : Int) i = true := within_iff.2 ⟨by omega, by omega, by omega⟩
      simp [this, show i < 64 by omega]
    · have : n.testBit i = false := Nat.testBit_lt_two_pow (Nat.lt_of_lt_of_le h (Nat.pow_le_pow_right (by omega) (by omega)))
      simp [this]

theorem set_put {w n a s : Nat} (hw : w < 2 ^ a) (hn : n < 2 ^ s) (hs : a + s ≤ 64) : set w (a : Int) (s : Int) n = w + n * 2 ^ a := by
  rw [set_eq hs, Nat.mod_eq_of_lt hw, Nat.mod_eq_of_lt hn]
  have h1 : w < 2 ^ (a + s) := Nat.lt_of_lt_of_le hw (Nat.pow_le_pow_right (by omega) (by omega))
  rw [Nat.div_eq_of_lt h1]
  simp
where
  set_eq {w n a s : Nat} (hs : a + s ≤ 64) (hw : w < 2 ^ a := by assumption) : set w (a : Int) (s : Int) n = w % 2 ^ a + n % 2 ^ s * 2 ^ a + w / 2 ^ (a + s) * 2 ^ (a + s) :=
    Go.Proofs.YtjjgngccgjpnaaaGreatDoor.Fld.set_eq (Nat.lt_of_lt_of_le hw (Nat.pow_le_pow_right (by omega) (by omega))) hs

/-! ### the theorem of stage 1 -/
theorem cut_set {w n : Nat} {a s : Int} (h0 : 0 ≤ a) (h64 : a < 64) : cut (set w a s n) a s = cut (cut n 0 s) 0 (64 - a) := by
  unfold cut
  refine ofBits_congr fun i hi => ?_
  by_cases h1 : (i : Int) < s
  · have e1 : bitZ (set w a s n) (a + i) = (decide ((i : Int) < 64 - a) && n.testBit i) := by
      have : a + (i : Int) = ((a.toNat + i : Nat) : Int) := by omega
      rw [this, bitZ_nat]
      unfold set
      rw [testBit_ofBits]
      by_cases h2 : (i : Int) < 64 - a
      · have hw : within a s (a.toNat + i) = true := within_iff.2 ⟨by omega, by omega, by omega⟩
        have e : ((a.toNat + i : Nat) : Int) - a = ((i : Nat) : Int) := by omega
        have hlt : a.toNat + i < 64 := by omega
        rw [hw, if_pos rfl, e, bitZ_nat]
        simp [h2, hlt]
      · have hlt : ¬ a.toNat + i < 64 := by omega
        simp [h2, hlt]
    have e2 : bitZ (ofBits (fun k => decide ((k : Int) < s) && bitZ n (0 + k)) 64) (0 + i) = n.testBit i := by
      have : (0 : Int) + (i : Int) = ((i : Nat) : Int) := by omega
      rw [this, bitZ_nat, testBit_ofBits]
      have : (0 : Int) + (i : Int) = ((i : Nat) : Int) := by omega
      simp [hi, h1, this, bitZ_nat]
    rw [e1, e2]
    by_cases h2 : (i : Int) < 64 - a <;> simp [h1, h2]
  · have e2 : bitZ (ofBits (fun k => decide ((k : Int) < s) && bitZ n (0 + k)) 64) (0 + i) = false := by
      have : (0 : Int) + (i : Int) = ((i : Nat) : Int) := by omega
      rw [this, bitZ_nat, testBit_ofBits]
      simp [h1]
    rw [e2]
    simp [h1]

theorem bit_set {w n : Nat} {a s : Int} {k : Nat} (hk : k < 64) (h : within a s k = false) : bitZ (set w a s n) (k : Int) = bitZ w (k : Int) := by
  rw [bitZ_nat, bitZ_nat]
  unfold set
  rw [testBit_ofBits]
  simp [hk, h]

/-! ### numbers of links and handles -/
def u64 (n : Int) : Nat := (n % 18446744073709551616).toNat
theorem u64_lt (n : Int) : u64 n < 2 ^ 64 := by unfold u64; omega
theorem cast_u64 (n : Int) : ((u64 n : Nat) : Int) = n % 18446744073709551616 := by unfold u64; omega
theorem u64_nat {n : Nat} (h : n < 2 ^ 64) : u64 (n : Int) = n := by unfold u64; omega

theorem c0_8 (w : Nat) : cut w 0 8 = w % 256 := by
  have h : cut w (((0 : Nat) : Int)) (((8 : Nat) : Int)) = w / 2 ^ 0 % 2 ^ 8 := cut_eq (by omega)
  rw [Nat.pow_zero, Nat.div_one] at h
  exact h
theorem c0_2 (w : Nat) : cut w 0 2 = w % 4 := by
  have h : cut w (((0 : Nat) : Int)) (((2 : Nat) : Int)) = w / 2 ^ 0 % 2 ^ 2 := cut_eq (by omega)
  rw [Nat.pow_zero, Nat.div_one] at h
  exact h
theorem c8_32 (w : Nat) : cut w 8 32 = w / 256 % 4294967296 := by
  have h : cut w (((8 : Nat) : Int)) (((32 : Nat) : Int)) = w / 2 ^ 8 % 2 ^ 32 := cut_eq (by omega)
  skip
  exact h
theorem c8_24 (w : Nat) : cut w 8 24 = w / 256 % 16777216 := by
  have h : cut w (((8 : Nat) : Int)) (((24 : Nat) : Int)) = w / 2 ^ 8 % 2 ^ 24 := cut_eq (by omega)
  skip
  exact h
theorem c8_56 (w : Nat) : cut w 8 56 = w / 256 % 72057594037927936 := by
  have h : cut w (((8 : Nat) : Int)) (((56 : Nat) : Int)) = w / 2 ^ 8 % 2 ^ 56 := cut_eq (by omega)
  skip
  exact h
theorem c2_32 (w : Nat) : cut w 2 32 = w / 4 % 4294967296 := by
  have h : cut w (((2 : Nat) : Int)) (((32 : Nat) : Int)) = w / 2 ^ 2 % 2 ^ 32 := cut_eq (by omega)
  skip
  exact h
theorem c60_4 (w : Nat) : cut w 60 4 = w / 1152921504606846976 % 16 := by
  have h : cut w (((60 : Nat) : Int)) (((4 : Nat) : Int)) = w / 2 ^ 60 % 2 ^ 4 := cut_eq (by omega)
  skip
  exact h
theorem c32_30 (w : Nat) : cut w 32 30 = w / 4294967296 % 1073741824 := by
  have h : cut w (((32 : Nat) : Int)) (((30 : Nat) : Int)) = w / 2 ^ 32 % 2 ^ 30 := cut_eq (by omega)
  skip
  exact h
theorem s8_32 {w : Nat} (hw : w < 2 ^ 64) (n : Nat) : set w 8 32 n = w % 256 + n % 4294967296 * 256 + w / 1099511627776 * 1099511627776 := by
  have h : set w (((8 : Nat) : Int)) (((32 : Nat) : Int)) n = w % 2 ^ 8 + n % 2 ^ 32 * 2 ^ 8 + w / 2 ^ (8 + 32) * 2 ^ (8 + 32) := set_eq hw (by omega)
  exact h
theorem s8_24 {w : Nat} (hw : w < 2 ^ 64) (n : Nat) : set w 8 24 n = w % 256 + n % 16777216 * 256 + w / 4294967296 * 4294967296 := by
  have h : set w (((8 : Nat) : Int)) (((24 : Nat) : Int)) n = w % 2 ^ 8 + n % 2 ^ 24 * 2 ^ 8 + w / 2 ^ (8 + 24) * 2 ^ (8 + 24) := set_eq hw (by omega)
  exact h
theorem s2_32 {w : Nat} (hw : w < 2 ^ 64) (n : Nat) : set w 2 32 n = w % 4 + n % 4294967296 * 4 + w / 17179869184 * 17179869184 := by
  have h : set w (((2 : Nat) : Int)) (((32 : Nat) : Int)) n = w % 2 ^ 2 + n % 2 ^ 32 * 2 ^ 2 + w / 2 ^ (2 + 32) * 2 ^ (2 + 32) := set_eq hw (by omega)
  exact h
theorem s32_30 {w : Nat} (hw : w < 2 ^ 64) (n : Nat) : set w 32 30 n = w % 4294967296 + n % 1073741824 * 4294967296 + w / 4611686018427387904 * 4611686018427387904 := by
  have h : set w (((32 : Nat) : Int)) (((30 : Nat) : Int)) n = w % 2 ^ 32 + n % 2 ^ 30 * 2 ^ 32 + w / 2 ^ (32 + 30) * 2 ^ (32 + 30) := set_eq hw (by omega)
  exact h
theorem s62_1 {w : Nat} (hw : w < 2 ^ 64) (n : Nat) : set w 62 1 n = w % 4611686018427387904 + n % 2 * 4611686018427387904 + w / 9223372036854775808 * 9223372036854775808 := by
  have h : set w (((62 : Nat) : Int)) (((1 : Nat) : Int)) n = w % 2 ^ 62 + n % 2 ^ 1 * 2 ^ 62 + w / 2 ^ (62 + 1) * 2 ^ (62 + 1) := set_eq hw (by omega)
  exact h
theorem s8_56 {w : Nat} (hw : w < 2 ^ 64) (n : Nat) : set w 8 56 n = w % 256 + n % 72057594037927936 * 256 := by
  have h : set w (((8 : Nat) : Int)) (((56 : Nat) : Int)) n = w % 2 ^ 8 + n % 2 ^ 56 * 2 ^ 8 + w / 2 ^ (8 + 56) * 2 ^ (8 + 56) := set_eq hw (by omega)
  have e : w / 2 ^ (8 + 56) = 0 := Nat.div_eq_of_lt hw
  rw [e, Nat.zero_mul, Nat.add_zero] at h
  exact h
theorem s60_4 {w : Nat} (hw : w < 2 ^ 64) (n : Nat) : set w 60 4 n = w % 1152921504606846976 + n % 16 * 1152921504606846976 := by
  have h : set w (((60 : Nat) : Int)) (((4 : Nat) : Int)) n = w % 2 ^ 60 + n % 2 ^ 4 * 2 ^ 60 + w / 2 ^ (60 + 4) * 2 ^ (60 + 4) := set_eq hw (by omega)
  have e : w / 2 ^ (60 + 4) = 0 := Nat.div_eq_of_lt hw
  rw [e, Nat.zero_mul, Nat.add_zero] at h
  exact h
theorem s63_1 {w : Nat} (hw : w < 2 ^ 64) (n : Nat) : set w 63 1 n = w % 9223372036854775808 + n % 2 * 9223372036854775808 := by
  have h : set w (((63 : Nat) : Int)) (((1 : Nat) : Int)) n = w % 2 ^ 63 + n % 2 ^ 1 * 2 ^ 63 + w / 2 ^ (63 + 1) * 2 ^ (63 + 1) := set_eq hw (by omega)
  have e : w / 2 ^ (63 + 1) = 0 := Nat.div_eq_of_lt hw
  rw [e, Nat.zero_mul, Nat.add_zero] at h
  exact h
theorem c63_1 (w : Nat) : cut w 63 1 = w / 9223372036854775808 % 2 := by
  have h : cut w (((63 : Nat) : Int)) (((1 : Nat) : Int)) = w / 2 ^ 63 % 2 ^ 1 := cut_eq (by omega)
  exact h
/-- The program's shift. -/
def shift (w : Nat) (b : Int) : Nat := if 64 ≤ b ∨ b ≤ -64 then 0 else if 0 ≤ b then w * 2 ^ b.toNat % 2 ^ 64 else w / 2 ^ (-b).toNat

theorem cut_shift {w : Nat} (hw : w < 2 ^ 64) (a s : Int) : shift (w &&& mask a s) (-(max (-64) a)) = cut w a s := by
  unfold shift
  by_cases h1 : 64 ≤ a
  · rw [if_pos (by omega), cut_high h1 hw]
  · by_cases h2 : a ≤ -64
    · rw [if_pos (by omega), cut_none h2]
    · rw [if_neg (by omega)]
      by_cases h3 : 0 ≤ a
      · by_cases h4 : a = 0
        · subst h4
          rw [if_pos (by omega)]
          have h := cut_down (s := s) hw (Int.le_refl 0)
          have e : (-(max (-64) (0 : Int))).toNat = 0 := by omega
          have hlt : w &&& mask 0 s < 2 ^ 64 := Nat.and_lt_two_pow _ (mask_lt _ _)
          rw [e, Nat.pow_zero, Nat.mul_one, Nat.mod_eq_of_lt hlt]
          simpa using h
        · rw [if_neg (by omega)]
          have e : (-(-(max (-64) a))).toNat = a.toNat := by omega
          rw [e]
          exact cut_down hw h3
      · rw [if_pos (by omega)]
        have e : (-(max (-64) a)).toNat = (-a).toNat := by omega
        rw [e]
        exact cut_up (by omega) (by omega)

theorem set_shift {w n : Nat} (hn : n < 2 ^ 64) (a s : Int) : (w &&& (18446744073709551615 - mask a s)) ||| (shift n (max (-64) a) &&& mask a s) = set w a s n := by
  refine set_is fun i hi hw => ?_
  rw [within_iff] at hw
  unfold shift
  by_cases h2 : a ≤ -64
  · rw [if_pos (by omega), Nat.zero_testBit, bitZ_lt hn (by omega)]
  · rw [if_neg (by omega)]
    by_cases h3 : 0 ≤ a
    · have e : (max (-64) a) = a := by omega
      rw [e, if_pos h3]
      exact moved_up h3 hi hw.2.1
    · have e : (max (-64) a) = a := by omega
      rw [e, if_neg h3]
      exact moved_down (by omega)
theorem shift_lt {w : Nat} (hw : w < 2 ^ 64) (b : Int) : shift w b < 2 ^ 64 := by
  unfold shift
  split
  · omega
  · split
    · exact Nat.mod_lt _ (by omega)
    · exact Nat.lt_of_le_of_lt (Nat.div_le_self _ _) hw
/-- What Mask reckons, over whole numbers. -/
theorem mask_int {a s : Int} (f l : Int) (h1 : 1 ≤ s) (h2 : a < 64) (h3 : 0 < a + s) (hf : f = max 0 a) (hl : l = min 64 (a + s)) :
    18446744073709551615 / 2 ^ (64 - (l - f)).toNat * 2 ^ f.toNat % 2 ^ 64 = mask a s := by
  have e : (64 - (l - f)).toNat = 64 - (l - f).toNat := by omega
  rw [e]
  exact mask_some h1 h2 h3 (by omega) (by omega)
end Go.Proofs.YtjjgngccgjpnaaaGreatDoor.Fld
