/- Plain mathematics of binomial chances: numbers of subsets, chances, upper chances, and how they move with the share and the number of successes. No program. -/
namespace Go.Proofs.Ytenmlkcjgefmpaa

/-- How many subsets of k elements n elements have. -/
def binom : Nat → Nat → Nat
  | _, 0 => 1
  | 0, _ + 1 => 0
  | n + 1, k + 1 => binom n k + binom n (k + 1)

/-- The chance of k successes of n, each with p of p + q. -/
def ch (p q n k : Nat) : Nat := binom n k * (p ^ k * q ^ (n - k))

/-- The upper chance of k successes of n. -/
def up (p q : Nat) : Nat → Nat → Nat
  | n, 0 => (p + q) ^ n
  | 0, _ + 1 => 0
  | n + 1, k + 1 => p * up p q n k + q * up p q n (k + 1)

theorem binom_zero (n : Nat) : binom n 0 = 1 := by cases n <;> rfl

theorem binom_gt : ∀ (n k : Nat), n < k → binom n k = 0 := by
  intro n
  induction n with
  | zero => intro k h; cases k with
    | zero => omega
    | succ k => rfl
  | succ n ih => intro k h; cases k with
    | zero => omega
    | succ k => rw [binom, ih k (by omega), ih (k + 1) (by omega)]

theorem binom_self (n : Nat) : binom n n = 1 := by
  induction n with
  | zero => rfl
  | succ n ih => rw [binom, ih, binom_gt n (n + 1) (by omega)]

theorem binom_step : ∀ (n k : Nat), (k + 1) * binom n (k + 1) = (n - k) * binom n k := by
  intro n
  induction n with
  | zero => intro k; simp [binom]
  | succ n ih =>
    intro k
    cases k with
    | zero =>
      have h : (0 + 1) * binom n 1 = (n - 0) * binom n 0 := ih 0
      have e : binom (n + 1) (0 + 1) = binom n 0 + binom n 1 := rfl
      rw [e]
      simp only [binom_zero] at h ⊢
      omega
    | succ k =>
      by_cases hk : k < n
      · have h1 := ih k
        have h2 := ih (k + 1)
        have e1 : n - k = (n - (k + 1)) + 1 := by omega
        have e2 : n + 1 - (k + 1) = (n - (k + 1)) + 1 := by omega
        rw [e1] at h1
        rw [binom, e2]
        rw [binom.eq_3 n k] 
        generalize n - (k + 1) = m at h1 h2 ⊢
        generalize binom n k = a at h1 h2 ⊢
        generalize binom n (k + 1) = b at h1 h2 ⊢
        generalize binom n (k + 1 + 1) = c at h1 h2 ⊢
        have h3 : (k + 1 + 1) * (b + c) = (k + 1) * b + b + (k + 1 + 1) * c := by
          rw [Nat.mul_add, Nat.add_mul (k + 1) 1 b, Nat.one_mul]
        rw [h3, h1, h2, Nat.mul_add, Nat.add_mul m 1 b, Nat.one_mul]
        omega
      · rw [binom_gt (n + 1) (k + 1 + 1) (by omega), Nat.mul_zero, show n + 1 - (k + 1) = 0 by omega, Nat.zero_mul]

theorem binom_symm : ∀ (n k : Nat), k ≤ n → binom n (n - k) = binom n k := by
  intro n
  induction n with
  | zero => intro k h; rw [show k = 0 by omega]
  | succ n ih =>
    intro k h
    cases k with
    | zero => rw [binom_zero, Nat.sub_zero, binom_self]
    | succ k =>
      rw [show n + 1 - (k + 1) = n - k by omega]
      by_cases hk : k = n
      · subst hk; rw [Nat.sub_self, binom_zero, binom_self]
      · rw [show n - k = (n - (k + 1)) + 1 by omega]
        rw [binom, binom, ih (k + 1) (by omega), show n - (k + 1) + 1 = n - k by omega, ih k (by omega)]
        omega

theorem binom_pos : ∀ (n k : Nat), k ≤ n → 0 < binom n k := by
  intro n
  induction n with
  | zero => intro k h; rw [show k = 0 by omega]; exact Nat.one_pos
  | succ n ih => intro k h; cases k with
    | zero => rw [binom_zero]; exact Nat.one_pos
    | succ k => rw [binom]; have := ih k (by omega); omega

theorem binom_le : ∀ (n k : Nat), binom n k ≤ 2 ^ n := by
  intro n
  induction n with
  | zero => intro k; cases k <;> simp [binom]
  | succ n ih => intro k; cases k with
    | zero => rw [binom_zero]; exact Nat.one_le_two_pow
    | succ k => rw [binom, Nat.pow_succ]; have := ih k; have := ih (k + 1); omega

theorem ch_gt (p q n k : Nat) (h : n < k) : ch p q n k = 0 := by rw [ch, binom_gt n k h, Nat.zero_mul]

theorem ch_zero_succ (p q n : Nat) : ch p q (n + 1) 0 = q * ch p q n 0 := by
  simp only [ch, binom_zero, Nat.pow_zero, Nat.one_mul, Nat.sub_zero, Nat.pow_succ]
  rw [Nat.mul_comm]

theorem ch_succ_succ (p q n k : Nat) : ch p q (n + 1) (k + 1) = p * ch p q n k + q * ch p q n (k + 1) := by
  by_cases hk : n < k + 1
  · rw [ch_gt p q n (k + 1) hk, Nat.mul_zero, Nat.add_zero]
    simp only [ch, binom]
    rw [binom_gt n (k + 1) hk, Nat.add_zero, show n + 1 - (k + 1) = n - k by omega, Nat.pow_succ]
    ac_rfl
  · simp only [ch, binom]
    rw [show n + 1 - (k + 1) = (n - (k + 1)) + 1 by omega, show n - k = (n - (k + 1)) + 1 by omega, Nat.add_mul]
    simp only [Nat.pow_succ]
    congr 1 <;> ac_rfl

theorem up_zero (p q n : Nat) : up p q n 0 = (p + q) ^ n := by cases n <;> rfl

theorem up_gt (p q : Nat) : ∀ (n k : Nat), n < k → up p q n k = 0 := by
  intro n
  induction n with
  | zero => intro k h; cases k with
    | zero => omega
    | succ k => rfl
  | succ n ih => intro k h; cases k with
    | zero => omega
    | succ k => rw [up, ih k (by omega), ih (k + 1) (by omega), Nat.mul_zero, Nat.mul_zero]

theorem up_eq (p q : Nat) : ∀ (n k : Nat), up p q n k = ch p q n k + up p q n (k + 1) := by
  intro n
  induction n with
  | zero => intro k; cases k <;> simp [up, ch, binom]
  | succ n ih =>
    intro k
    cases k with
    | zero =>
      rw [ch_zero_succ, up, up, up_zero, Nat.pow_succ]
      have h := ih 0
      rw [up_zero] at h
      rw [h, Nat.mul_comm _ (p + q), Nat.add_mul, Nat.mul_add, Nat.mul_add]
      omega
    | succ k =>
      rw [ch_succ_succ, up, up, ih k, Nat.mul_add]
      have h := congrArg (q * ·) (ih (k + 1))
      simp only [Nat.mul_add] at h
      omega

theorem up_anti (p q n k : Nat) : up p q n (k + 1) ≤ up p q n k := by rw [up_eq p q n k]; omega

theorem up_anti_le (p q n : Nat) {j k : Nat} (h : j ≤ k) : up p q n k ≤ up p q n j := by
  induction k with
  | zero => rw [show j = 0 by omega]; exact Nat.le_refl _
  | succ k ih =>
    by_cases hj : j ≤ k
    · exact Nat.le_trans (up_anti p q n k) (ih hj)
    · rw [show j = k + 1 by omega]; exact Nat.le_refl _

theorem up_self (p q n : Nat) : up p q n n = p ^ n := by
  induction n with
  | zero => simp [up]
  | succ n ih => rw [up, ih, up_gt p q n (n + 1) (by omega), Nat.mul_zero, Nat.add_zero, Nat.pow_succ, Nat.mul_comm]

theorem up_le_all (p q n k : Nat) : up p q n k ≤ (p + q) ^ n := by
  rw [← up_zero p q n]; exact up_anti_le p q n (Nat.zero_le k)

/-- upper chances do not fall if the share grows -/
theorem up_mono {p q p' q' : Nat} (h : p ≤ p') (hs : p + q = p' + q') : ∀ (n k : Nat), up p q n k ≤ up p' q' n k := by
  intro n
  induction n with
  | zero => intro k; cases k <;> simp [up]
  | succ n ih =>
    intro k
    cases k with
    | zero => rw [up, up, hs]; exact Nat.le_refl _
    | succ k =>
      rw [up, up]
      obtain ⟨d, rfl⟩ : ∃ d, p' = p + d := ⟨p' - p, by omega⟩
      obtain rfl : q = q' + d := by omega
      have h1 := Nat.mul_le_mul_left (p + d) (ih k)
      have h2 := Nat.mul_le_mul_left q' (ih (k + 1))
      have h3 := Nat.mul_le_mul_left d (up_anti p (q' + d) n k)
      rw [Nat.add_mul] at h1
      rw [Nat.add_mul q' d]
      omega

/-- successes and failures are exchanged -/
theorem up_turn (p q : Nat) : ∀ (n k : Nat), k ≤ n → up p q n (k + 1) + up q p n (n - k) = (p + q) ^ n := by
  intro n
  induction n with
  | zero => intro k h; simp [show k = 0 by omega, up]
  | succ n ih =>
    intro k h
    by_cases hk : k = n + 1
    · subst hk
      rw [up_gt p q (n + 1) (n + 1 + 1) (by omega), Nat.sub_self, up_zero, Nat.add_comm q p, Nat.zero_add]
    · rw [show n + 1 - k = (n - k) + 1 by omega, up, up]
      have h1 := ih k (by omega)
      have h2 : up p q n k + up q p n (n - k + 1) = (p + q) ^ n := by
        cases k with
        | zero => rw [up_zero, Nat.sub_zero, up_gt q p n (n + 1) (by omega), Nat.add_zero]
        | succ k => rw [show n - (k + 1) + 1 = n - k by omega]; exact ih k (by omega)
      rw [Nat.pow_succ, Nat.mul_comm _ (p + q), Nat.add_mul]
      have e1 := congrArg (p * ·) h2
      have e2 := congrArg (q * ·) h1
      simp only [Nat.mul_add] at e1 e2
      omega

theorem ch_turn (p q n k : Nat) (h : k ≤ n) : ch p q n k = ch q p n (n - k) := by
  rw [ch, ch, binom_symm n k h, show n - (n - k) = k by omega, Nat.mul_comm (p ^ k)]

/-- the lower chance -/
def low (p q n k : Nat) : Nat := up q p n (n - k)

theorem low_eq (p q n k : Nat) (h : k ≤ n) : up p q n (k + 1) + low p q n k = (p + q) ^ n := up_turn p q n k h

/-- the next chance out of the last -/
theorem ch_next (p q n k : Nat) (h : k < n) : ch p q n k * ((n - k) * p) = ch p q n (k + 1) * ((k + 1) * q) := by
  have hb := binom_step n k
  rw [ch, ch, show n - k = (n - (k + 1)) + 1 by omega]
  rw [show n - k = (n - (k + 1)) + 1 by omega] at hb
  simp only [Nat.pow_succ]
  generalize n - (k + 1) = m at hb ⊢
  have e1 : binom n k * (p ^ k * (q ^ m * q)) * ((m + 1) * p) = ((m + 1) * binom n k) * (p ^ k * p * (q ^ m * q)) := by
    ac_rfl
  have e2 : binom n (k + 1) * (p ^ k * p * q ^ m) * ((k + 1) * q) = ((k + 1) * binom n (k + 1)) * (p ^ k * p * (q ^ m * q)) := by
    ac_rfl
  rw [e1, e2, hb]

theorem ch_next_div (p q n k : Nat) (h : k < n) (hq : 0 < q) : ch p q n k * ((n - k) * p) / ((k + 1) * q) = ch p q n (k + 1) := by
  rw [ch_next p q n k h, Nat.mul_div_cancel _ (Nat.mul_pos (Nat.succ_pos k) hq)]

theorem ch_le (p q n k : Nat) : ch p q n k ≤ (p + q) ^ n := by
  have := up_eq p q n k
  have := up_le_all p q n k
  omega

/-- all chances from j on, below m -/
def span (p q n j : Nat) : Nat → Nat
  | 0 => 0
  | m + 1 => span p q n j m + if j ≤ m then ch p q n m else 0

theorem span_low (p q n j : Nat) : ∀ m, m ≤ j → span p q n j m = 0 := by
  intro m
  induction m with
  | zero => intro _; rfl
  | succ m ih => intro h; rw [span, ih (by omega), if_neg (by omega)]

theorem span_eq (p q n j : Nat) : ∀ m, j ≤ m → span p q n j m + up p q n m = up p q n j := by
  intro m
  induction m with
  | zero => intro h; rw [show j = 0 by omega, span]; omega
  | succ m ih =>
    intro h
    by_cases hj : j = m + 1
    · subst hj; rw [span_low p q n (m + 1) (m + 1) (Nat.le_refl _)]; omega
    · rw [span, if_pos (by omega)]
      have h1 := ih (by omega)
      have h2 := up_eq p q n m
      omega

theorem span_le (p q n j m : Nat) : span p q n j m ≤ (p + q) ^ n := by
  by_cases h : m ≤ j
  · rw [span_low p q n j m h]; exact Nat.zero_le _
  · have h1 := span_eq p q n j m (by omega)
    have h2 := up_le_all p q n j
    omega

end Go.Proofs.Ytenmlkcjgefmpaa
