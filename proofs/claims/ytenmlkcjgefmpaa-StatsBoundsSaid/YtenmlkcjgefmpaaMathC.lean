/- Plain mathematics: at the observed share, the upper chance is more than a fifth (up to 100 trials: reckoned for each); how fast an upper chance grows with the share; so both bounds enclose the observed share, and stand in their order. No program. -/
import Derived.Test.YtenmlkcjgefmpaaMathB
namespace Go.Proofs.Ytenmlkcjgefmpaa

theorem up_scale (c p q : Nat) : ∀ n k, up (c * p) (c * q) n k = c ^ n * up p q n k := by
  intro n
  induction n with
  | zero => intro k; cases k <;> simp [up]
  | succ n ih =>
    intro k
    cases k with
    | zero => rw [up_zero, up_zero, ← Nat.mul_add, Nat.mul_pow]
    | succ k =>
      rw [up, up, ih, ih, Nat.pow_succ, Nat.mul_add]
      congr 1 <;> ac_rfl

/-- The sum of the upper chances, from above. -/
def tailD (n p q : Nat) : Nat → Nat → Nat → Nat → Nat
  | 0, _, _, acc => acc
  | f + 1, j, t, acc => tailD n p q f (j - 1) (t * (j * q) / ((n - j + 1) * p)) (acc + t * (j * q) / ((n - j + 1) * p))

theorem tailD_eq (n p q : Nat) (hp : 0 < p) : ∀ f j, f ≤ j → j ≤ n → tailD n p q f j (ch p q n j) (up p q n j) = up p q n (j - f) := by
  intro f
  induction f with
  | zero => intro j _ _; rfl
  | succ f ih =>
    intro j hf hj
    obtain ⟨i, rfl⟩ : ∃ i, j = i + 1 := ⟨j - 1, by omega⟩
    have h := ch_next p q n i (by omega)
    have h2 : ch p q n (i + 1) * ((i + 1) * q) / ((n - (i + 1) + 1) * p) = ch p q n i := by
      rw [← h, show n - (i + 1) + 1 = n - i by omega, Nat.mul_div_cancel _ (Nat.mul_pos (by omega) hp)]
    rw [tailD, h2, Nat.add_sub_cancel, Nat.add_comm (up p q n (i + 1)), ← up_eq p q n i, ih i (by omega) (by omega)]
    congr 1
    omega

def fifthB (n : Nat) : Bool := (List.range n).all fun j => decide (n ^ n < 5 * tailD n (j + 1) (n - (j + 1)) (n - (j + 1)) n ((j + 1) ^ n) ((j + 1) ^ n))

theorem fifth_of {n k : Nat} (h : fifthB n = true) (hn : 0 < n) (hk : k ≤ n) : n ^ n < 5 * up k (n - k) n k := by
  have hpos : 0 < n ^ n := Nat.pow_pos hn
  by_cases h0 : k = 0
  · subst h0
    rw [up_zero, Nat.sub_zero, Nat.zero_add]
    omega
  · have h1 := of_decide_eq_true (List.all_eq_true.1 h (k - 1) (List.mem_range.2 (by omega)))
    rw [show k - 1 + 1 = k by omega] at h1
    have h2 := tailD_eq n k (n - k) (by omega) (n - k) n (by omega) (Nat.le_refl _)
    have h3 : ch k (n - k) n n = k ^ n := by rw [ch, Nat.sub_self, Nat.pow_zero, Nat.mul_one, binom_self, Nat.one_mul]
    rw [up_self, h3, show n - (n - k) = k by omega] at h2
    rw [h2] at h1
    exact h1

set_option maxRecDepth 100000 in
theorem fifth_a : ((List.range 30).all fun i => fifthB (i + 1)) = true := by decide +kernel
set_option maxRecDepth 100000 in
theorem fifth_b : ((List.range 30).all fun i => fifthB (i + 31)) = true := by decide +kernel
set_option maxRecDepth 100000 in
theorem fifth_c : ((List.range 20).all fun i => fifthB (i + 61)) = true := by decide +kernel
set_option maxRecDepth 100000 in
theorem fifth_d : ((List.range 20).all fun i => fifthB (i + 81)) = true := by decide +kernel

theorem fifth {n k : Nat} (hn : 0 < n) (hn2 : n ≤ 100) (hk : k ≤ n) : n ^ n < 5 * up k (n - k) n k := by
  refine fifth_of ?_ hn hk
  by_cases h1 : n ≤ 30
  · have h := List.all_eq_true.1 fifth_a (n - 1) (List.mem_range.2 (by omega))
    rwa [show n - 1 + 1 = n by omega] at h
  · by_cases h2 : n ≤ 60
    · have h := List.all_eq_true.1 fifth_b (n - 31) (List.mem_range.2 (by omega))
      rwa [show n - 31 + 31 = n by omega] at h
    · by_cases h3 : n ≤ 80
      · have h := List.all_eq_true.1 fifth_c (n - 61) (List.mem_range.2 (by omega))
        rwa [show n - 61 + 61 = n by omega] at h
      · have h := List.all_eq_true.1 fifth_d (n - 81) (List.mem_range.2 (by omega))
        rwa [show n - 81 + 81 = n by omega] at h

/-- At the observed share, or above it, the upper chance is more than a fifth. -/
theorem fifth_share {W n k s : Nat} (hW : 0 < W) (hn : 0 < n) (hn2 : n ≤ 100) (hk : k ≤ n) (hs : s ≤ W) (h : W * k ≤ n * s) : W ^ n < 5 * up s (W - s) n k := by
  have h1 := fifth hn hn2 hk
  have h2 : up (W * k) (W * (n - k)) n k ≤ up (n * s) (n * (W - s)) n k := by
    refine up_mono h ?_ n k
    rw [← Nat.mul_add, ← Nat.mul_add, show k + (n - k) = n by omega, show s + (W - s) = W by omega, Nat.mul_comm]
  rw [up_scale, up_scale] at h2
  have h0 : 0 < W ^ n := Nat.pow_pos hW
  have h3 : n ^ n * W ^ n < n ^ n * (5 * up s (W - s) n k) := by
    calc n ^ n * W ^ n < 5 * up k (n - k) n k * W ^ n := Nat.mul_lt_mul_of_pos_right h1 h0
      _ = 5 * (W ^ n * up k (n - k) n k) := by ac_rfl
      _ ≤ 5 * (n ^ n * up s (W - s) n k) := Nat.mul_le_mul_left 5 h2
      _ = n ^ n * (5 * up s (W - s) n k) := by ac_rfl
  exact Nat.lt_of_mul_lt_mul_left h3

/-- How fast an upper chance grows with the share. -/
theorem up_step (p q : Nat) : ∀ n k, (p + q + 1) * up (p + 1) q n k ≤ (p + q + 1) * up p (q + 1) n k + n * (p + q + 1) ^ n := by
  intro n
  induction n with
  | zero => intro k; cases k <;> simp [up]
  | succ n ih =>
    intro k
    cases k with
    | zero => rw [up_zero, up_zero, show p + 1 + q = p + (q + 1) by omega]; exact Nat.le_add_right _ _
    | succ k =>
      have hA := ih k
      have hB := ih (k + 1)
      have hC := up_le_all p (q + 1) n k
      rw [up, up]
      rw [show p + (q + 1) = p + q + 1 by omega] at hC
      generalize up (p + 1) q n k = A' at *
      generalize up (p + 1) q n (k + 1) = B' at *
      generalize up p (q + 1) n k = A at *
      generalize up p (q + 1) n (k + 1) = B at *
      rw [Nat.pow_succ]
      generalize (p + q + 1) ^ n = U at *
      have h1 := Nat.mul_le_mul_left (p + 1) hA
      have h2 := Nat.mul_le_mul_left q hB
      have h3 := Nat.mul_le_mul_left (p + q + 1) hC
      generalize hW : p + q + 1 = W at *
      have e1 : W * ((p + 1) * A' + q * B') = (p + 1) * (W * A') + q * (W * B') := by rw [Nat.mul_add]; congr 1 <;> ac_rfl
      have e2 : (p + 1) * (W * A + n * U) + q * (W * B + n * U) = W * (p * A + (q + 1) * B) + (W * A - W * B) + W * (n * U) ∨ W * A < W * B := by
        by_cases hlt : W * A < W * B
        · exact .inr hlt
        · left
          obtain ⟨d, hd⟩ : ∃ d, W * A = W * B + d := ⟨W * A - W * B, by omega⟩
          have e3 : W * (p * A + (q + 1) * B) = p * (W * A) + (q + 1) * (W * B) := by rw [Nat.mul_add]; congr 1 <;> ac_rfl
          rw [e3, hd, ← hW]
          generalize W * B = b
          generalize n * U = c
          simp only [Nat.mul_add, Nat.add_mul, Nat.one_mul]
          omega
      have e4 : (n + 1) * (U * W) = W * (n * U) + W * U := by rw [Nat.add_mul, Nat.one_mul]; congr 1 <;> ac_rfl
      rw [e1, e4]
      rcases e2 with e2 | e2
      · omega
      · have e5 : (p + 1) * (W * A + n * U) + q * (W * B + n * U) ≤ W * (p * A + (q + 1) * B) + W * (n * U) := by
          have e3 : W * (p * A + (q + 1) * B) = p * (W * A) + (q + 1) * (W * B) := by rw [Nat.mul_add]; congr 1 <;> ac_rfl
          rw [e3, ← hW]
          rw [← hW] at e2
          generalize (p + q + 1) * B = b at *
          generalize (p + q + 1) * A = a at *
          generalize n * U = c
          simp only [Nat.mul_add, Nat.add_mul, Nat.one_mul]
          omega
        omega

/-- What does not exceed the risk. -/
theorem exc_not {n k r s : Nat} (h : excB n k r s = false) : up s (10000 - s) n k * 10000 ≤ 10000 ^ n * r := by
  have h := of_decide_eq_false h
  omega

/-- Both bounds stand in their order. -/
theorem bounds_order {n k a : Nat} (hk : k ≤ n) (hn : n ≤ 500) (ha : a ≤ 2000) : leastN n k a + leastN n (n - k) a ≤ 10000 := by
  obtain ⟨h1, _, h3⟩ := leastN_spec (n := n) (k := k) (r := a) hk (by omega)
  obtain ⟨g1, _, g3⟩ := leastN_spec (n := n) (k := n - k) (r := a) (by omega) (by omega)
  apply Nat.le_of_not_lt
  intro hlt
  obtain ⟨l, hl⟩ : ∃ l, leastN n k a = l + 1 := ⟨leastN n k a - 1, by omega⟩
  rw [hl] at h1 h3 hlt
  have x1 := exc_not (h3 l (by omega))
  have x2 := exc_not (g3 (10000 - (l + 1)) (by omega))
  have x3 := low_eq (l + 1) (10000 - (l + 1)) n k hk
  have x4 := up_anti (l + 1) (10000 - (l + 1)) n k
  have x5 := up_step l (10000 - (l + 1)) n k
  rw [low] at x3
  rw [show 10000 - (10000 - (l + 1)) = l + 1 by omega] at x2
  rw [show l + 1 + (10000 - (l + 1)) = 10000 by omega] at x3
  rw [show l + (10000 - (l + 1)) + 1 = 10000 by omega, show 10000 - (l + 1) + 1 = 10000 - l by omega] at x5
  have hpos : 0 < 10000 ^ n := Nat.pow_pos (by decide)
  generalize up l (10000 - l) n k = A at *
  generalize up (l + 1) (10000 - (l + 1)) n k = B at *
  generalize up (l + 1) (10000 - (l + 1)) n (k + 1) = C at *
  generalize up (10000 - (l + 1)) (l + 1) n (n - k) = D at *
  generalize 10000 ^ n = U at *
  have y1 : U * a ≤ U * 2000 := Nat.mul_le_mul_left U ha
  have y2 : n * U ≤ 500 * U := Nat.mul_le_mul_right U hn
  omega

/-- The lower bound is not above the observed share, up to rounding. -/
theorem bound_share {n k a : Nat} (hk : k ≤ n) (hn : 0 < n) (hn2 : n ≤ 100) (ha : a ≤ 2000) : leastN n k a * n < 10000 * k + n := by
  obtain ⟨h1, _, h3⟩ := leastN_spec (n := n) (k := k) (r := a) hk (by omega)
  apply Nat.lt_of_not_le
  intro hle
  rcases Nat.eq_zero_or_pos (leastN n k a) with h0 | h0
  · rw [h0] at hle; omega
  obtain ⟨l, hl⟩ : ∃ l, leastN n k a = l + 1 := ⟨leastN n k a - 1, by omega⟩
  rw [hl] at h1 h3 hle
  have hs : 10000 * k ≤ n * l := by
    rw [Nat.add_mul, Nat.one_mul] at hle
    rw [Nat.mul_comm n l]
    omega
  have x1 := exc_not (h3 l (by omega))
  have x2 := fifth_share (W := 10000) (s := l) (by decide) hn hn2 hk (by omega) hs
  have y1 : 10000 ^ n * a ≤ 10000 ^ n * 2000 := Nat.mul_le_mul_left _ ha
  generalize 10000 ^ n = U at *
  omega

end Go.Proofs.Ytenmlkcjgefmpaa
