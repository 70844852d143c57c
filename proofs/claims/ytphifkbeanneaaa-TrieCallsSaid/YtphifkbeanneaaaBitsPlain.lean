/-
  Plain facts about the bits of 32-bit and 64-bit words, with no program in sight: what At, Keep, Mask, Common, Lead, Trail and Rank are, as functions of natural numbers.
  No conditions beyond those that each lemma states.
-/
namespace Go.Proofs.Ytphifkbeanneaaa

/-- The first number below n at which p holds, or n. -/
def firstN (n : Nat) (p : Nat → Bool) : Nat := (List.range n).findIdx p

theorem firstN_eq {n k : Nat} {p : Nat → Bool} (hk : k ≤ n) (h : ∀ j, j < k → p j = false) (h' : k < n → p k = true) : firstN n p = k := by
  unfold firstN
  by_cases e : k < n
  · rw [List.findIdx_eq (by simpa using e)]
    exact ⟨by simpa using h' e, fun j hj => by simpa using h j hj⟩
  · have : k = n := by omega
    subst this
    have := List.findIdx_eq_length (p := p) (xs := List.range k)
    simp only [List.length_range, List.mem_range] at this
    exact this.2 (fun x hx => h x hx)

theorem firstN_congr {n : Nat} {p q : Nat → Bool} (h : ∀ j, j < n → p j = q j) : firstN n p = firstN n q := by
  unfold firstN
  induction n with
  | zero => rfl
  | succ n ih =>
    rw [List.range_succ, List.findIdx_append, List.findIdx_append, ih (fun j hj => h j (by omega))]
    simp [List.findIdx_cons, h n (by omega)]

theorem firstN_le (n : Nat) (p : Nat → Bool) : firstN n p ≤ n := by
  have := List.findIdx_le_length (p := p) (xs := List.range n)
  simpa [firstN] using this

theorem firstN_before {n : Nat} {p : Nat → Bool} {j : Nat} (h : j < firstN n p) : p j = false := by
  have := List.not_of_lt_findIdx (p := p) (xs := List.range n) h
  simpa using this

theorem firstN_at {n : Nat} {p : Nat → Bool} (h : firstN n p < n) : p (firstN n p) = true := by
  have hl : (List.range n).findIdx p < (List.range n).length := by simpa [firstN] using h
  have := List.findIdx_getElem (w := hl)
  simpa [firstN] using this

/-- Bit i of a 32-bit word; bit 0 is the most significant. -/
def bitAt (x : Nat) (i : Int) : Nat := if 0 ≤ i ∧ i < 32 then x / 2 ^ (31 - i).toNat % 2 else 0

theorem bitAt_lt (x : Nat) (i : Int) : bitAt x i < 2 := by
  unfold bitAt; split <;> omega

theorem bitAt_nat (x k : Nat) (h : k < 32) : bitAt x (k : Int) = x / 2 ^ (31 - k) % 2 := by
  unfold bitAt
  rw [if_pos (by omega)]
  congr 3
  omega

/-- A number held between 0 and a bound, as a natural number. -/
def lowN (n : Int) (most : Nat) : Nat := (min (max n 0) most).toNat

theorem lowN_le (n : Int) (most : Nat) : lowN n most ≤ most := by unfold lowN; omega
theorem lowN_cast (n : Int) (most : Nat) : ((lowN n most : Nat) : Int) = min (max n 0) most := by unfold lowN; omega
theorem lowN_nat (k most : Nat) (h : k ≤ most) : lowN (k : Int) most = k := by unfold lowN; omega

/-- The first c bits of a word, the others cleared. -/
def top (x c : Nat) : Nat := x / 2 ^ (32 - c) * 2 ^ (32 - c)
/-- The word whose first c bits are set. -/
def maskN (c : Nat) : Nat := 2 ^ 32 - 2 ^ (32 - c)

theorem top_le (x c : Nat) : top x c ≤ x := Nat.div_mul_le_self _ _
theorem top_zero (x : Nat) (h : x < 4294967296) : top x 0 = 0 := by
  unfold top; rw [Nat.div_eq_of_lt (by simpa using h), Nat.zero_mul]
theorem top_full (x : Nat) : top x 32 = x := by simp [top]
theorem maskN_zero : maskN 0 = 0 := by simp [maskN]

theorem div_step (x k : Nat) (h : k < 32) : x / 2 ^ (31 - k) = 2 * (x / 2 ^ (32 - k)) + x / 2 ^ (31 - k) % 2 := by
  have e : 32 - k = (31 - k) + 1 := by omega
  rw [e, Nat.pow_succ, ← Nat.div_div_eq_div_mul]
  omega

theorem nat_disjoint (i x y : Nat) (hy : y < 2 ^ i) : (x * 2 ^ i) ||| y = x * 2 ^ i + y := by
  rw [Nat.mul_comm, Nat.two_pow_add_eq_or_of_lt hy]

theorem top_succ (x k : Nat) (h : k < 32) : top x (k + 1) = top x k ||| (bitAt x (k : Int) * 2 ^ (31 - k)) := by
  have hb : bitAt x (k : Int) * 2 ^ (31 - k) < 2 ^ (32 - k) := by
    have := bitAt_lt x (k : Int)
    have e : 32 - k = (31 - k) + 1 := by omega
    rw [e, Nat.pow_succ]
    have hp : 0 < 2 ^ (31 - k) := Nat.two_pow_pos _
    calc bitAt x (k : Int) * 2 ^ (31 - k) ≤ 1 * 2 ^ (31 - k) := Nat.mul_le_mul_right _ (by omega)
      _ < 2 ^ (31 - k) * 2 := by omega
  unfold top
  rw [nat_disjoint _ _ _ hb, bitAt_nat x k h]
  have e1 : 32 - (k + 1) = 31 - k := by omega
  rw [e1, div_step x k h]
  have e : 32 - k = (31 - k) + 1 := by omega
  rw [e, Nat.pow_succ]
  generalize 2 ^ (31 - k) = p
  generalize x / (p * 2) = q
  have : (2 * q + x / p % 2) % 2 = x / p % 2 := by omega
  rw [this, Nat.add_mul, Nat.mul_comm p 2, ← Nat.mul_assoc, Nat.mul_comm q 2]

theorem maskN_succ (k : Nat) (h : k < 32) : maskN (k + 1) = maskN k ||| 2 ^ (31 - k) := by
  have e : 32 - k = (31 - k) + 1 := by omega
  have e1 : 32 - (k + 1) = 31 - k := by omega
  have hk : (2 : Nat) ^ 32 = 2 ^ k * 2 ^ (32 - k) := by rw [← Nat.pow_add]; congr 1; omega
  have hm : maskN k = (2 ^ k - 1) * 2 ^ (32 - k) := by
    unfold maskN; rw [hk, Nat.sub_mul, Nat.one_mul]
  rw [hm, nat_disjoint _ _ _ (by rw [e, Nat.pow_succ]; have := Nat.two_pow_pos (31 - k); omega), ← hm]
  unfold maskN
  rw [e1, e, Nat.pow_succ]
  have : 2 ^ (31 - k) * 2 ≤ 2 ^ 32 := by rw [← Nat.pow_succ]; exact Nat.pow_le_pow_right (by omega) (by omega)
  omega

theorem maskN_lt (c : Nat) : maskN c < 4294967296 := by
  unfold maskN; have := Nat.two_pow_pos (32 - c); omega

/-- A mask keeps the first c bits. -/
theorem and_maskN (x c : Nat) (hx : x < 4294967296) (hc : c ≤ 32) : x &&& maskN c = top x c := by
  apply Nat.eq_of_testBit_eq
  intro i
  have hm : maskN c = (2 ^ c - 1) * 2 ^ (32 - c) := by
    unfold maskN
    have hk : (2 : Nat) ^ 32 = 2 ^ c * 2 ^ (32 - c) := by rw [← Nat.pow_add]; congr 1; omega
    rw [hk, Nat.sub_mul, Nat.one_mul]
  unfold top
  rw [Nat.testBit_and, hm, Nat.testBit_mul_two_pow, Nat.testBit_mul_two_pow, Nat.testBit_two_pow_sub_one, Nat.testBit_div_two_pow]
  by_cases h : 32 - c ≤ i
  · simp only [h, decide_true, Bool.true_and]
    have e : i - (32 - c) + (32 - c) = i := by omega
    rw [e]
    by_cases h2 : i < 32
    · have : decide (i - (32 - c) < c) = true := by simp; omega
      rw [this]; simp
    · have : x.testBit i = false := Nat.testBit_lt_two_pow (Nat.lt_of_lt_of_le hx (by
        have h3 : 2 ^ 32 ≤ 2 ^ i := Nat.pow_le_pow_right (by omega) (by omega)
        simpa using h3))
      simp [this]
  · simp [h]

/-- The number of leading zero bits. -/
def leadN (x : Nat) : Nat := firstN 32 fun i => bitAt x (i : Int) == 1
/-- The number of trailing zero bits. -/
def trailN (x : Nat) : Nat := firstN 32 fun i => x / 2 ^ i % 2 == 1
/-- The number of leading bits that two words share. -/
def commonN (a b : Nat) : Nat := firstN 32 fun i => !(bitAt a (i : Int) == bitAt b (i : Int))

theorem testBit_val (x i : Nat) : x / 2 ^ i % 2 = (x.testBit i).toNat := by
  rw [Nat.testBit_eq_decide_div_mod_eq]
  have := Nat.mod_two_eq_zero_or_one (x / 2 ^ i)
  rcases this with h | h <;> simp [h]

theorem lead_xor (a b : Nat) : leadN (a ^^^ b) = commonN a b := by
  unfold leadN commonN
  apply firstN_congr
  intro j hj
  rw [bitAt_nat _ _ hj, bitAt_nat _ _ hj, bitAt_nat _ _ hj, testBit_val, testBit_val, testBit_val, Nat.testBit_xor]
  cases a.testBit (31 - j) <;> cases b.testBit (31 - j) <;> rfl

theorem lead_common (a : Nat) : leadN a = commonN a 0 := by
  have := lead_xor a 0
  simpa using this

theorem trail_ref (x : Nat) : trailN x = firstN 32 (fun i => !(bitAt x (31 - (i : Int)) == 0)) := by
  unfold trailN
  apply firstN_congr
  intro j hj
  have e : (31 - (j : Int)) = ((31 - j : Nat) : Int) := by omega
  rw [e, bitAt_nat _ _ (by omega)]
  have e2 : 31 - (31 - j) = j := by omega
  rw [e2]
  have := Nat.mod_two_eq_zero_or_one (x / 2 ^ j)
  rcases this with h | h <;> simp [h]

/-- The number of set bits below bit c. -/
def rankN (x : Nat) : Nat → Nat
  | 0 => 0
  | c + 1 => rankN x c + x / 2 ^ c % 2

theorem rankN_le (x c : Nat) : rankN x c ≤ c := by
  induction c with
  | zero => simp [rankN]
  | succ c ih => simp only [rankN]; omega

theorem top_iff (a b n : Nat) : top a n = top b n ↔ a / 2 ^ (32 - n) = b / 2 ^ (32 - n) := by
  unfold top
  have := Nat.two_pow_pos (32 - n)
  exact ⟨fun h => Nat.eq_of_mul_eq_mul_right this h, fun h => by rw [h]⟩

theorem div_eq_iff_bits (a b n : Nat) (ha : a < 4294967296) (hb : b < 4294967296) (hn : n ≤ 32) :
    a / 2 ^ (32 - n) = b / 2 ^ (32 - n) ↔ ∀ j, j < n → bitAt a (j : Int) = bitAt b (j : Int) := by
  induction n with
  | zero =>
    have e1 : a / 2 ^ (32 - 0) = 0 := Nat.div_eq_of_lt (by simpa using ha)
    have e2 : b / 2 ^ (32 - 0) = 0 := Nat.div_eq_of_lt (by simpa using hb)
    rw [e1, e2]; simp
  | succ n ih =>
    have e1 : 32 - (n + 1) = 31 - n := by omega
    have ih := ih (by omega)
    have da := div_step a n (by omega)
    have db := div_step b n (by omega)
    rw [e1]
    constructor
    · intro h j hj
      have hq : a / 2 ^ (32 - n) = b / 2 ^ (32 - n) := by omega
      rcases Nat.lt_succ_iff_lt_or_eq.1 hj with h1 | h1
      · exact ih.1 hq j h1
      · subst h1; rw [bitAt_nat _ _ (by omega), bitAt_nat _ _ (by omega), h]
    · intro h
      have hq := ih.2 (fun j hj => h j (by omega))
      have hb := h n (by omega)
      rw [bitAt_nat _ _ (by omega), bitAt_nat _ _ (by omega)] at hb
      omega

/-- The first n bits of two words are equal if and only if n is at most Common. -/
theorem top_common (a b n : Nat) (ha : a < 4294967296) (hb : b < 4294967296) (hn : n ≤ 32) : top a n = top b n ↔ n ≤ commonN a b := by
  rw [top_iff _ _ _, div_eq_iff_bits a b n ha hb hn]
  constructor
  · intro h
    rcases Nat.lt_or_ge (commonN a b) n with h1 | h1
    · exfalso
      have h2 : commonN a b < 32 := by omega
      have h3 := firstN_at (p := fun i => !(bitAt a (i : Int) == bitAt b (i : Int))) h2
      have h4 := h _ h1
      unfold commonN at h4
      simp [h4] at h3
    · exact h1
  · intro h j hj
    have := firstN_before (n := 32) (p := fun i => !(bitAt a (i : Int) == bitAt b (i : Int))) (j := j) (by unfold commonN at h; omega)
    simpa using this

end Go.Proofs.Ytphifkbeanneaaa
