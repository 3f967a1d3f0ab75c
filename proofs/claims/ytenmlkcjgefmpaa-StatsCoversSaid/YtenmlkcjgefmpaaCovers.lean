/- StatsCovers: the walk. -/
import Derived.Test.YtenmlkcjgefmpaaKit
import Derived.Test.YtenmlkcjgefmpaaMathC
namespace Go.Proofs.Ytenmlkcjgefmpaa
open Go.RowKit Go.Proofs.YtenmlkcjgefmpaaW.PrintWords Go.Proofs.YtenmlkcjgefmpaaW.PrintLast Go.Proofs.YtenmlkcjgefmpaaW.PrintMore Go.Proofs.Ytenmlkcjgefmpaa.Fn
attribute [local go_sem] max2_int min2_int max_two min_two max_three min_three max_four min_four

/-- The sum of the chances of the numbers of successes that f tells. -/
def sumIf (f : Nat → Bool) (p q n : Nat) : Nat → Nat
  | 0 => 0
  | j + 1 => sumIf f p q n j + if f j then ch p q n j else 0
theorem sumIf_yes {f : Nat → Bool} {p q n j : Nat} (h : f j = true) : sumIf f p q n (j + 1) = sumIf f p q n j + ch p q n j := by rw [sumIf, if_pos h]
theorem sumIf_no {f : Nat → Bool} {p q n j : Nat} (h : f j = false) : sumIf f p q n (j + 1) = sumIf f p q n j := by rw [sumIf, if_neg (by rw [h]; decide), Nat.add_zero]
theorem sumIf_span {f : Nat → Bool} {p q n lo hi : Nat} : ∀ m, (∀ k, k < m → f k = true → lo ≤ k ∧ k < hi) → sumIf f p q n m ≤ span p q n lo (min m hi) := by
  intro m
  induction m with
  | zero => intro _; exact Nat.zero_le _
  | succ m ih =>
    intro h
    have h1 := ih fun k hk => h k (by omega)
    cases hf : f m with
    | false =>
      rw [sumIf_no hf]
      refine Nat.le_trans h1 ?_
      by_cases hm : m < hi
      · rw [show min m hi = m by omega, show min (m + 1) hi = m + 1 by omega, span]
        exact Nat.le_add_right _ _
      · rw [show min m hi = hi by omega, show min (m + 1) hi = hi by omega]
        exact Nat.le_refl _
    | true =>
      obtain ⟨h2, h3⟩ := h m (by omega) hf
      rw [sumIf_yes hf, show min (m + 1) hi = m + 1 by omega, span, if_pos h2]
      rw [show min m hi = m by omega] at h1
      omega
theorem sumIf_all {f : Nat → Bool} {p q n m : Nat} : sumIf f p q n m ≤ (p + q) ^ n := by
  have h := sumIf_span (f := f) (p := p) (q := q) (n := n) (lo := 0) (hi := m) m (fun k hk _ => ⟨by omega, hk⟩)
  exact Nat.le_trans h (span_le _ _ _ _ _)

def fA (n a p k : Nat) : Bool := decide (p < leastN n k a)
def fB (n a p k : Nat) : Bool := decide (10000 - p < leastN n (n - k) a)

theorem sum_above {n a p : Nat} (_hp : p ≤ 10000) (ha : a < 10000) : excN (sumIf (fA n a p) p (10000 - p) n (n + 1)) n a = false := by
  refine decide_eq_false ?_
  by_cases h : ∃ k, k ≤ n ∧ fA n a p k = true
  · obtain ⟨k, hk, hf⟩ := h
    obtain ⟨m, h1, h2, h3⟩ := exists_least (fA n a p) k hf
    have h4 := sumIf_span (f := fA n a p) (p := p) (q := 10000 - p) (n := n) (lo := m) (hi := n + 1) (n + 1) (fun i hi hfi => ⟨Nat.le_of_not_lt (fun hlt => by have := h3 i hlt; rw [hfi] at this; cases this), hi⟩)
    rw [Nat.min_self, span_up _ _ _ _ (by omega)] at h4
    have h5 := exc_not ((leastN_spec (n := n) (k := m) (r := a) (by omega) ha).2.2 p (of_decide_eq_true h2))
    generalize 10000 ^ n * a = u at *
    omega
  · have h4 : sumIf (fA n a p) p (10000 - p) n (n + 1) ≤ span p (10000 - p) n (n + 1) (min (n + 1) 0) := sumIf_span _ (fun k hk hf => absurd ⟨k, by omega, hf⟩ h)
    rw [Nat.min_eq_right (Nat.zero_le _), span] at h4
    omega

theorem sum_below {n a p : Nat} (hp : p ≤ 10000) (ha : a < 10000) : excN (sumIf (fB n a p) p (10000 - p) n (n + 1)) n a = false := by
  refine decide_eq_false ?_
  by_cases h : ∃ k, k ≤ n ∧ fB n a p k = true
  · obtain ⟨k, hk, hf⟩ := h
    obtain ⟨m, h1, h2, h3⟩ := exists_least (fun i => fB n a p (n - i)) (n - k) (by simp only [show n - (n - k) = k by omega]; exact hf)
    have h4 := sumIf_span (f := fB n a p) (p := p) (q := 10000 - p) (n := n) (lo := 0) (hi := n - m + 1) (n + 1) (fun i hi hfi => ⟨Nat.zero_le _, Nat.lt_of_not_le fun hge => by
      have := h3 (n - i) (by omega)
      rw [show n - (n - i) = i by omega, hfi] at this
      cases this⟩)
    rw [show min (n + 1) (n - m + 1) = n - m + 1 by omega, span_low_eq _ _ _ _ (by omega)] at h4
    have h6 := of_decide_eq_true h2
    rw [show n - (n - m) = m by omega] at h6
    have h5 := exc_not ((leastN_spec (n := n) (k := m) (r := a) (by omega) ha).2.2 (10000 - p) h6)
    rw [low, show n - (n - m) = m by omega] at h4
    rw [show 10000 - (10000 - p) = p by omega] at h5
    generalize 10000 ^ n * a = u at *
    omega
  · have h4 : sumIf (fB n a p) p (10000 - p) n (n + 1) ≤ span p (10000 - p) n (n + 1) (min (n + 1) 0) := sumIf_span _ (fun k hk hf => absurd ⟨k, by omega, hf⟩ h)
    rw [Nat.min_eq_right (Nat.zero_le _), span] at h4
    omega

theorem sum_half {f : Nat → Bool} {p n m : Nat} (hp : p ≤ 10000) (hn : n ≤ 500) : Half (sumIf f p (10000 - p) n m) := by
  have h := sumIf_all (f := f) (p := p) (q := 10000 - p) (n := n) (m := m)
  rw [show p + (10000 - p) = 10000 by omega] at h
  exact (half_pow n 0 hn).le h
theorem sum_next {f : Nat → Bool} {p n m : Nat} (hp : p ≤ 10000) (hn : n ≤ 500) : Fits (sumIf f p (10000 - p) n m + ch p (10000 - p) n m) := by
  have h1 := sum_half (f := fun k => f k || k == m) (p := p) (n := n) (m := m + 1) hp hn
  have h2 : ∀ i, i ≤ m → sumIf (fun k => f k || k == m) p (10000 - p) n i = sumIf f p (10000 - p) n i := by
    intro i
    induction i with
    | zero => intro _; rfl
    | succ i ih =>
      intro hi
      rw [sumIf, sumIf, ih (by omega)]
      have e : (i == m) = false := by rw [beq_eq_false_iff_ne]; omega
      simp only [e, Bool.or_false]
  rw [sumIf_yes (by simp), h2 m (Nat.le_refl _)] at h1
  exact h1.fits
theorem cover_ch {p n m : Nat} (hp : p ≤ 10000) (hn : n ≤ 500) : Fits (ch p (10000 - p) n m) := by
  have h := ch_le p (10000 - p) n m
  rw [show p + (10000 - p) = 10000 by omega] at h
  exact ((half_pow n 0 hn).le h).fits
theorem fA_iff {n a p k l : Nat} (h : leastN n k a = l) : fA n a p k = decide (p < l) := by rw [fA, h]
theorem fB_iff {n a p k g : Nat} (h : 10000 - (leastN n (n - k) a : Int) = (g : Int)) (hp : p ≤ 10000) : fB n a p k = decide (g < p) := by
  unfold fB
  by_cases h1 : g < p
  · rw [decide_eq_true h1, decide_eq_true (by omega)]
  · rw [decide_eq_false h1, decide_eq_false (by omega)]
theorem cover_facts {n k a : Nat} (hk : k ≤ n) (hn : n ≤ 500) (ha : a ≤ 2000) : ∃ l g : Nat, l ≤ g ∧ g ≤ 10000 ∧ Aside0 (leastN n k a = l) ∧ Aside0 (10000 - (leastN n (n - k) a : Int) = (g : Int)) := by
  have ho := bounds_order (n := n) (k := k) (a := a) hk hn ha
  exact ⟨leastN n k a, 10000 - leastN n (n - k) a, by omega, by omega, ⟨rfl⟩, ⟨by omega⟩⟩

set_option maxHeartbeats 2000000 in
set_option maxRecDepth 100000 in
theorem Covers_calls (x s r : Int) (hx : (Lit.int .i64 x).wf = true) (hs : (Lit.int .i64 s).wf = true) (hr : (Lit.int .i64 r).wf = true) (w : World) :
    Calls Try.prog 5 #[.int .i64 x, .int .i64 s, .int .i64 r] w fun e w' => e = .returned (.bool true) ∧ Below w.heap.size w w' := by
  have hn1 := pickN_lt x (n := 31) (by decide)
  have hp := shareN_le s
  have ha := riskN_in r
  have HT := Aside0.mk (fun W => Pick_calls x 31 W hx (by decide) (by decide))
  have HS := Aside0.mk (fun W => share_calls s W hs)
  have HR := Aside0.mk (fun W => risk_calls r W hr)
  generalize pickN x 31 = n at *
  generalize shareN s = p at *
  generalize riskN r = a at *
  clear hx hs hr
  have HB0 := Aside0.mk (Below.refl w.heap.size w)
  go_enter Try.func5, Try.ntmps5
  go_wp2_with fail
  refine (awake_calls _).mono ?_
  rintro e u1 ⟨rfl, b_⟩
  have HB_ := Aside0.mk (below_then HB0.out b_)
  clear b_
  have HB0 := HB_
  clear HB_
  go_wp2_with fail
  refine (HT.out _).mono ?_
  rintro e u2 ⟨rfl, d_⟩
  have b_ := drawn0_below (Below.refl _ _) d_
  clear d_
  have HB_ := Aside0.mk (below_then HB0.out b_)
  clear b_
  have HB0 := HB_
  clear HB_
  go_wp2_with fail
  refine (HS.out _).mono ?_
  rintro e u3 ⟨rfl, d_⟩
  have b_ := drawn0_below (Below.refl _ _) d_
  clear d_
  have HB_ := Aside0.mk (below_then HB0.out b_)
  clear b_
  have HB0 := HB_
  clear HB_
  go_wp2_with fail
  refine (HR.out _).mono ?_
  rintro e u4 ⟨rfl, d_⟩
  have b_ := drawn0_below (Below.refl _ _) d_
  clear d_
  have HB_ := Aside0.mk (below_then HB0.out b_)
  clear b_
  have HB0 := HB_
  clear HB_
  go_wp2_with fail
  go_loopw [12, 10, 11, 13, 14, 15, 16, 17, 18] (fun k ab be _ _ _ _ _ _ W => ∃ j : Nat, j ≤ n + 1 ∧ k = .int .i64 j ∧ Aside0 (IsN W ab (sumIf (fA n a p) p (10000 - p) n j)) ∧ Aside0 (IsN W be (sumIf (fB n a p) p (10000 - p) n j)) ∧ Aside0 (Below w.heap.size w W))
    (fun k _ _ _ _ _ _ _ _ _ => n + 1 - (intOf k).toNat)
  case atStart => exact ⟨0, by omega, rfl, ⟨IsN.nil _⟩, ⟨IsN.nil _⟩, HB0⟩
  case round =>
    obtain ⟨j, hj, rfl, Hp, Hq, HB0⟩ := hrel
    by_cases hjn : j ≤ n
    · have tj : decide ((j : Int) ≤ (n : Int)) = true := decide_eq_true (by omega)
      obtain ⟨l, g, hlg, hg, HL, HG⟩ := cover_facts (n := n) (k := j) (a := a) hjn (by omega) ha.2
      have tg : decide ((g : Int) < (l : Int)) = false := decide_eq_false (by omega)
      have pg : ¬ g < l := by omega
      have F1 := Aside0.mk (sum_half (f := fA n a p) (p := p) (n := n) (m := j) hp (by omega)).fits
      have F2 := Aside0.mk (cover_ch (p := p) (n := n) (m := j) hp (by omega))
      have F3 := Aside0.mk (sum_next (f := fA n a p) (p := p) (n := n) (m := j) hp (by omega))
      have F4 := Aside0.mk (sum_half (f := fB n a p) (p := p) (n := n) (m := j) hp (by omega)).fits
      have F5 := Aside0.mk (sum_next (f := fB n a p) (p := p) (n := n) (m := j) hp (by omega))
      rcases Bool.eq_false_or_eq_true (fA n a p j) with hA | hA
      · have tA : decide ((p : Int) < (l : Int)) = true := decide_eq_true (by have := fA_iff HL.out (p := p); rw [hA] at this; simp at this; omega)
        have pA : p < l := by have := of_decide_eq_true tA; omega
        rcases Bool.eq_false_or_eq_true (fB n a p j) with hB | hB
        · have tB : decide ((g : Int) < (p : Int)) = true := decide_eq_true (by have := fB_iff HG.out hp (p := p); rw [hB] at this; simp at this; omega)
          have pB : g < p := by have := of_decide_eq_true tB; omega
          exact absurd (of_decide_eq_true tA) (by have := of_decide_eq_true tB; omega)
        · have tB : decide ((g : Int) < (p : Int)) = false := decide_eq_false (by have := fB_iff HG.out hp (p := p); rw [hB] at this; simp at this; omega)
          have pB : ¬ g < p := by have := of_decide_eq_false tB; omega
          have E1 := Aside0.mk (sumIf_yes (p := p) (q := 10000 - p) (n := n) (j := j) (f := fA n a p) hA)
          have E2 := Aside0.mk (sumIf_no (p := p) (q := 10000 - p) (n := n) (j := j) (f := fB n a p) hB)
          go_wp2_with fail
          refine (Chance_ok n j p _ (by omega) (by omega) hp).mono ?_
          rintro e u1 ⟨vx, rfl, h_, b_⟩
          have Hp := Aside0.mk (Hp.out.below b_)
          have Hq := Aside0.mk (Hq.out.below b_)
          have HB_ := Aside0.mk (below_then HB0.out b_)
          have Hx := Aside0.mk h_
          clear h_
          clear b_
          have HB0 := HB_
          clear HB_
          go_wp2_with fail
          refine (Least_ok n j a _ (by omega) (by omega) (by omega) (by omega)).mono ?_
          rw [HL.out]
          rintro e u2 ⟨rfl, b_⟩
          have Hp := Aside0.mk (Hp.out.below b_)
          have Hq := Aside0.mk (Hq.out.below b_)
          have Hx := Aside0.mk (Hx.out.below b_)
          have HB_ := Aside0.mk (below_then HB0.out b_)
          clear b_
          have HB0 := HB_
          clear HB_
          go_wp2_with fail
          refine (Greatest_ok n j a _ (by omega) (by omega) (by omega) (by omega)).mono ?_
          rw [HG.out]
          rintro e u3 ⟨rfl, b_⟩
          have Hp := Aside0.mk (Hp.out.below b_)
          have Hq := Aside0.mk (Hq.out.below b_)
          have Hx := Aside0.mk (Hx.out.below b_)
          have HB_ := Aside0.mk (below_then HB0.out b_)
          clear b_
          have HB0 := HB_
          clear HB_
          go_wp2_with fail
          refine (Add_calls _ Hp.out Hx.out F1.out F2.out F3.out).mono ?_
          rintro e u4 ⟨vp, rfl, h_, b_⟩
          have Hp := Aside0.mk (Hp.out.below b_)
          have Hq := Aside0.mk (Hq.out.below b_)
          have HB_ := Aside0.mk (below_then HB0.out b_)
          have Hp := Aside0.mk h_
          clear h_
          clear b_
          have HB0 := HB_
          clear HB_
          go_wp2_with fail
          go_roundw
          case rel => exact ⟨j + 1, by omega, by go_num, by rw [E1.out]; exact Hp, by rw [E2.out]; exact Hq, HB0⟩
          case measure => simp [intOf]; omega
      · have tA : decide ((p : Int) < (l : Int)) = false := decide_eq_false (by have := fA_iff HL.out (p := p); rw [hA] at this; simp at this; omega)
        have pA : ¬ p < l := by have := of_decide_eq_false tA; omega
        rcases Bool.eq_false_or_eq_true (fB n a p j) with hB | hB
        · have tB : decide ((g : Int) < (p : Int)) = true := decide_eq_true (by have := fB_iff HG.out hp (p := p); rw [hB] at this; simp at this; omega)
          have pB : g < p := by have := of_decide_eq_true tB; omega
          have E1 := Aside0.mk (sumIf_no (p := p) (q := 10000 - p) (n := n) (j := j) (f := fA n a p) hA)
          have E2 := Aside0.mk (sumIf_yes (p := p) (q := 10000 - p) (n := n) (j := j) (f := fB n a p) hB)
          go_wp2_with fail
          refine (Chance_ok n j p _ (by omega) (by omega) hp).mono ?_
          rintro e u1 ⟨vx, rfl, h_, b_⟩
          have Hp := Aside0.mk (Hp.out.below b_)
          have Hq := Aside0.mk (Hq.out.below b_)
          have HB_ := Aside0.mk (below_then HB0.out b_)
          have Hx := Aside0.mk h_
          clear h_
          clear b_
          have HB0 := HB_
          clear HB_
          go_wp2_with fail
          refine (Least_ok n j a _ (by omega) (by omega) (by omega) (by omega)).mono ?_
          rw [HL.out]
          rintro e u2 ⟨rfl, b_⟩
          have Hp := Aside0.mk (Hp.out.below b_)
          have Hq := Aside0.mk (Hq.out.below b_)
          have Hx := Aside0.mk (Hx.out.below b_)
          have HB_ := Aside0.mk (below_then HB0.out b_)
          clear b_
          have HB0 := HB_
          clear HB_
          go_wp2_with fail
          refine (Greatest_ok n j a _ (by omega) (by omega) (by omega) (by omega)).mono ?_
          rw [HG.out]
          rintro e u3 ⟨rfl, b_⟩
          have Hp := Aside0.mk (Hp.out.below b_)
          have Hq := Aside0.mk (Hq.out.below b_)
          have Hx := Aside0.mk (Hx.out.below b_)
          have HB_ := Aside0.mk (below_then HB0.out b_)
          clear b_
          have HB0 := HB_
          clear HB_
          go_wp2_with fail
          refine (Add_calls _ Hq.out Hx.out F4.out F2.out F5.out).mono ?_
          rintro e u4 ⟨vq, rfl, h_, b_⟩
          have Hp := Aside0.mk (Hp.out.below b_)
          have Hq := Aside0.mk (Hq.out.below b_)
          have HB_ := Aside0.mk (below_then HB0.out b_)
          have Hq := Aside0.mk h_
          clear h_
          clear b_
          have HB0 := HB_
          clear HB_
          go_wp2_with fail
          go_roundw
          case rel => exact ⟨j + 1, by omega, by go_num, by rw [E1.out]; exact Hp, by rw [E2.out]; exact Hq, HB0⟩
          case measure => simp [intOf]; omega
        · have tB : decide ((g : Int) < (p : Int)) = false := decide_eq_false (by have := fB_iff HG.out hp (p := p); rw [hB] at this; simp at this; omega)
          have pB : ¬ g < p := by have := of_decide_eq_false tB; omega
          have E1 := Aside0.mk (sumIf_no (p := p) (q := 10000 - p) (n := n) (j := j) (f := fA n a p) hA)
          have E2 := Aside0.mk (sumIf_no (p := p) (q := 10000 - p) (n := n) (j := j) (f := fB n a p) hB)
          go_wp2_with fail
          refine (Chance_ok n j p _ (by omega) (by omega) hp).mono ?_
          rintro e u1 ⟨vx, rfl, h_, b_⟩
          have Hp := Aside0.mk (Hp.out.below b_)
          have Hq := Aside0.mk (Hq.out.below b_)
          have HB_ := Aside0.mk (below_then HB0.out b_)
          have Hx := Aside0.mk h_
          clear h_
          clear b_
          have HB0 := HB_
          clear HB_
          go_wp2_with fail
          refine (Least_ok n j a _ (by omega) (by omega) (by omega) (by omega)).mono ?_
          rw [HL.out]
          rintro e u2 ⟨rfl, b_⟩
          have Hp := Aside0.mk (Hp.out.below b_)
          have Hq := Aside0.mk (Hq.out.below b_)
          have HB_ := Aside0.mk (below_then HB0.out b_)
          clear b_
          have HB0 := HB_
          clear HB_
          go_wp2_with fail
          refine (Greatest_ok n j a _ (by omega) (by omega) (by omega) (by omega)).mono ?_
          rw [HG.out]
          rintro e u3 ⟨rfl, b_⟩
          have Hp := Aside0.mk (Hp.out.below b_)
          have Hq := Aside0.mk (Hq.out.below b_)
          have HB_ := Aside0.mk (below_then HB0.out b_)
          clear b_
          have HB0 := HB_
          clear HB_
          go_wp2_with fail
          go_roundw
          case rel => exact ⟨j + 1, by omega, by go_num, by rw [E1.out]; exact Hp, by rw [E2.out]; exact Hq, HB0⟩
          case measure => simp [intOf]; omega
    · have tj : decide ((j : Int) ≤ (n : Int)) = false := decide_eq_false (by omega)
      have hj2 : j = n + 1 := by omega
      subst hj2
      have X1 := Aside0.mk (sum_above (n := n) (a := a) (p := p) hp (by omega))
      have X2 := Aside0.mk (sum_below (n := n) (a := a) (p := p) hp (by omega))
      have F1 := Aside0.mk (sum_half (f := fA n a p) (p := p) (n := n) (m := n + 1) hp (by omega))
      have F2 := Aside0.mk (sum_half (f := fB n a p) (p := p) (n := n) (m := n + 1) hp (by omega))
      go_wp2_with fail
      refine (exceeds_calls (sumIf (fA n a p) p (10000 - p) n (n + 1)) n a _ Hp.out F1.out (by omega) (by omega)).mono ?_
      rw [X1.out]
      rintro e u1 ⟨rfl, b_⟩
      have Hq := Aside0.mk (Hq.out.below b_)
      have HB_ := Aside0.mk (below_then HB0.out b_)
      clear b_
      have HB0 := HB_
      clear HB_
      go_wp2_with fail
      refine (exceeds_calls (sumIf (fB n a p) p (10000 - p) n (n + 1)) n a _ Hq.out F2.out (by omega) (by omega)).mono ?_
      rw [X2.out]
      rintro e u2 ⟨rfl, b_⟩
      have HB_ := Aside0.mk (below_then HB0.out b_)
      clear b_
      have HB0 := HB_
      clear HB_
      go_wp2_with fail
      go_ret
      exact ⟨rfl, HB0.out⟩

end Go.Proofs.Ytenmlkcjgefmpaa
