/- Plain mathematics of the bounds: the least share whose upper chance exceeds a risk. No program. -/
import Derived.Test.YtenmlkcjgefmpaaMathA
namespace Go.Proofs.Ytenmlkcjgefmpaa

/-- the error of trials, successes, and a number with its range -/
def wrongE (n k x lo hi : Int) : Int := if k < 0 ∨ k > n ∨ x < lo ∨ x > hi then 2 else if n > 500 then 3 else 0

theorem wrongE_ok {n k x lo hi : Int} (h : wrongE n k x lo hi = 0) : 0 ≤ k ∧ k ≤ n ∧ lo ≤ x ∧ x ≤ hi ∧ n ≤ 500 := by
  unfold wrongE at h
  split at h
  · omega
  · split at h <;> omega
theorem wrongE_zero {n k x lo hi : Int} (h : 0 ≤ k ∧ k ≤ n ∧ lo ≤ x ∧ x ≤ hi ∧ n ≤ 500) : wrongE n k x lo hi = 0 := by
  unfold wrongE
  rw [if_neg (by omega), if_neg (by omega)]

/-- the first place from i on, within d, at which f holds; else i + d -/
def firstFrom (f : Nat → Bool) : Nat → Nat → Nat
  | 0, i => i
  | d + 1, i => if f i = true then i else firstFrom f d (i + 1)

theorem firstFrom_eq (f : Nat → Bool) (m : Nat) (hm : f m = true) : ∀ (d i : Nat), i ≤ m → m ≤ i + d → (∀ j, i ≤ j → j < m → f j = false) → firstFrom f d i = m := by
  intro d
  induction d with
  | zero => intro i h1 h2 _; rw [firstFrom]; omega
  | succ d ih =>
    intro i h1 h2 h3
    rw [firstFrom]
    by_cases h : i = m
    · subst h; rw [if_pos hm]
    · rw [h3 i (Nat.le_refl _) (by omega), if_neg (by decide)]
      exact ih (i + 1) (by omega) (by omega) (fun j a b => h3 j (by omega) b)

/-- the least share at which f holds -/
def leastB (f : Nat → Bool) : Nat := firstFrom f 10000 0

theorem leastB_eq {f : Nat → Bool} {m : Nat} (hm : f m = true) (hle : m ≤ 10000) (h : ∀ j, j < m → f j = false) : leastB f = m :=
  firstFrom_eq f m hm 10000 0 (Nat.zero_le _) (by omega) (fun j _ hj => h j hj)

theorem exists_least (f : Nat → Bool) : ∀ n, f n = true → ∃ m, m ≤ n ∧ f m = true ∧ ∀ j, j < m → f j = false := by
  intro n
  induction n using Nat.strongRecOn with
  | ind n ih =>
    intro hn
    by_cases h : ∃ j, j < n ∧ f j = true
    · obtain ⟨j, hj, hf⟩ := h
      obtain ⟨m, h1, h2, h3⟩ := ih j hj hf
      exact ⟨m, by omega, h2, h3⟩
    · refine ⟨n, Nat.le_refl _, hn, fun j hj => ?_⟩
      cases hfj : f j
      · rfl
      · exact absurd ⟨j, hj, hfj⟩ h

theorem leastB_spec {f : Nat → Bool} (h : f 10000 = true) : leastB f ≤ 10000 ∧ f (leastB f) = true ∧ ∀ j, j < leastB f → f j = false := by
  obtain ⟨m, h1, h2, h3⟩ := exists_least f 10000 h
  rw [leastB_eq h2 h1 h3]
  exact ⟨h1, h2, h3⟩

/-- the upper chance of k successes of n, for a share, exceeds a risk -/
def excB (n k r s : Nat) : Bool := decide (10000 ^ n * r < up s (10000 - s) n k * 10000)

theorem exc_top (W n k r : Nat) (hk : k ≤ n) (hr : r < W) : W ^ n * r < up W (W - W) n k * W := by
  have h1 : up W (W - W) n k = W ^ n := by
    have h2 := up_anti_le W (W - W) n hk
    have h3 := up_le_all W (W - W) n k
    rw [up_self] at h2
    rw [show W + (W - W) = W by omega] at h3
    exact Nat.le_antisymm h3 h2
  rw [h1]
  exact (Nat.mul_lt_mul_left (Nat.pow_pos (by omega))).2 hr

theorem excB_top (n k r : Nat) (hk : k ≤ n) (hr : r < 10000) : excB n k r 10000 = true := decide_eq_true (exc_top 10000 n k r hk hr)

theorem excB_mono {n k r s t : Nat} (h : s ≤ t) (ht : t ≤ 10000) (hs : excB n k r s = true) : excB n k r t = true := by
  have h1 : 10000 ^ n * r < up s (10000 - s) n k * 10000 := of_decide_eq_true hs
  have h2 := up_mono (p := s) (q := 10000 - s) (p' := t) (q' := 10000 - t) h (by clear h1; omega) n k
  exact decide_eq_true (Nat.lt_of_lt_of_le h1 (Nat.mul_le_mul_right 10000 h2))

/-- the lower bound of k successes of n, for a risk -/
def leastN (n k r : Nat) : Nat := leastB (excB n k r)

theorem leastN_spec {n k r : Nat} (hk : k ≤ n) (hr : r < 10000) : leastN n k r ≤ 10000 ∧ excB n k r (leastN n k r) = true ∧ ∀ j, j < leastN n k r → excB n k r j = false := leastB_spec (excB_top n k r hk hr)

theorem leastN_eq {n k r m : Nat} (hm : excB n k r m = true) (hle : m ≤ 10000) (h : m = 0 ∨ excB n k r (m - 1) = false) : leastN n k r = m := by
  refine leastB_eq hm hle (fun j hj => ?_)
  rcases h with h | h
  · omega
  · cases he : excB n k r j
    · rfl
    · rw [excB_mono (show j ≤ m - 1 by omega) (by omega) he] at h
      cases h

theorem leastN_le {n k r s : Nat} (hs : s ≤ 10000) (he : excB n k r s = true) : leastN n k r ≤ s := by
  obtain ⟨m, h1, h2, h3⟩ := exists_least (excB n k r) s he
  rw [leastN, leastB_eq h2 (by omega) h3]
  exact h1

theorem excB_iff {n k r s : Nat} (hk : k ≤ n) (hr : r < 10000) (hs : s ≤ 10000) : excB n k r s = true ↔ leastN n k r ≤ s := by
  constructor
  · exact leastN_le hs
  · intro h
    exact excB_mono h hs (leastN_spec hk hr).2.1

theorem span_self (p q n k : Nat) : span p q n k (k + 1) = ch p q n k := by
  have h1 := span_eq p q n k (k + 1) (by omega)
  have h2 := up_eq p q n k
  omega
theorem span_up (p q n k : Nat) (hk : k ≤ n) : span p q n k (n + 1) = up p q n k := by
  have h1 := span_eq p q n k (n + 1) (by omega)
  rw [up_gt p q n (n + 1) (by omega)] at h1
  omega
theorem span_low_eq (p q n k : Nat) (hk : k ≤ n) : span p q n 0 (k + 1) = low p q n k := by
  have h1 := span_eq p q n 0 (k + 1) (by omega)
  rw [up_zero] at h1
  have h2 := low_eq p q n k hk
  omega

end Go.Proofs.Ytenmlkcjgefmpaa
