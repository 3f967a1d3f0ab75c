/- StatsExact: the walk. -/
import Derived.Test.YtenmlkcjgefmpaaKit
import Derived.Test.YtenmlkcjgefmpaaMathC
namespace Go.Proofs.Ytenmlkcjgefmpaa
open Go.RowKit Go.Proofs.YtenmlkcjgefmpaaW.PrintWords Go.Proofs.YtenmlkcjgefmpaaW.PrintLast Go.Proofs.YtenmlkcjgefmpaaW.PrintMore Go.Proofs.Ytenmlkcjgefmpaa.Fn
attribute [local go_sem] max2_int min2_int max_two min_two max_three min_three max_four min_four

theorem half_low (n k s : Nat) (hn : n ≤ 500) (hs : s ≤ 10000) : Half (low s (10000 - s) n k) := by
  have h := up_half n (n - k) (10000 - s) hn (by omega)
  rw [show 10000 - (10000 - s) = s by omega] at h
  exact h
theorem exc_low {n k a g : Nat} (hg : g ≤ 10000) : excN (low g (10000 - g) n k) n a = excB n (n - k) a (10000 - g) := by
  unfold excB low
  rw [show 10000 - (10000 - g) = g by omega]
  rfl

/-- What is said of both bounds. -/
theorem exact_facts {n k a : Nat} (hk : k ≤ n) (hn : n ≤ 100) (ha : a ≤ 2000) : ∃ l g : Nat, l ≤ g ∧ g ≤ 10000 ∧ Aside0 (leastN n k a = l) ∧ Aside0 (10000 - (leastN n (n - k) a : Int) = (g : Int)) ∧
    Aside0 (excN (up l (10000 - l) n k) n a = true) ∧ Aside0 (excN (low g (10000 - g) n k) n a = true) ∧ Aside0 (0 < l → excN (up (l - 1) (10000 - (l - 1)) n k) n a = false) ∧ Aside0 (g < 10000 → excN (low (g + 1) (10000 - (g + 1)) n k) n a = false) ∧
    Aside0 (0 < n → l * n < 10000 * k + n ∧ 10000 * k < g * n + n) := by
  obtain ⟨h1, h2, h3⟩ := leastN_spec (n := n) (k := k) (r := a) hk (by omega)
  obtain ⟨g1, g2, g3⟩ := leastN_spec (n := n) (k := n - k) (r := a) (by omega) (by omega)
  have ho := bounds_order (n := n) (k := k) (a := a) hk (by omega) ha
  refine ⟨leastN n k a, 10000 - leastN n (n - k) a, by omega, by omega, ⟨rfl⟩, ⟨by omega⟩, ⟨h2⟩, ⟨?_⟩, ⟨fun h => h3 _ (by omega)⟩, ⟨fun h => ?_⟩, ⟨fun h => ⟨bound_share hk h hn ha, ?_⟩⟩⟩
  · rw [exc_low (by omega), show 10000 - (10000 - leastN n (n - k) a) = leastN n (n - k) a by omega]
    exact g2
  · rw [exc_low (by omega)]
    exact g3 _ (by omega)
  · have h4 := bound_share (n := n) (k := n - k) (a := a) (by omega) h hn ha
    obtain ⟨g, hg⟩ : ∃ g, g + leastN n (n - k) a = 10000 := ⟨10000 - leastN n (n - k) a, by omega⟩
    obtain ⟨m, hm⟩ : ∃ m, n = k + m := ⟨n - k, by omega⟩
    rw [show 10000 - leastN n (n - k) a = g by omega]
    have e : g * n + leastN n (n - k) a * n = 10000 * n := by rw [← Nat.add_mul, hg]
    omega

set_option maxHeartbeats 2000000 in
set_option maxRecDepth 100000 in
theorem Exact_calls (x y r : Int) (hx : (Lit.int .i64 x).wf = true) (hy : (Lit.int .i64 y).wf = true) (hr : (Lit.int .i64 r).wf = true) (w : World) :
    Calls Try.prog 11 #[.int .i64 x, .int .i64 y, .int .i64 r] w fun e w' => e = .returned (.bool true) ∧ Below w.heap.size w w' := by
  have hn1 := pickN_lt x (n := 100 + 1) (by decide)
  have hk1 := pickN_lt y (n := pickN x (100 + 1) + 1) (by omega)
  have ha := riskN_in r
  have HT := Aside0.mk (fun W => trials_calls x y 100 W hx hy (by decide))
  have HR := Aside0.mk (fun W => risk_calls r W hr)
  generalize pickN y (pickN x (100 + 1) + 1) = k at *
  generalize pickN x (100 + 1) = n at *
  generalize riskN r = a at *
  clear hx hy hr
  obtain ⟨l, g, hle, hg, HL, HG, HA, HC, HD, HE, HF⟩ := exact_facts (n := n) (k := k) (a := a) (by omega) (by omega) ha.2
  have HHx := Aside0.mk (up_half n k l (by omega) (by omega))
  have HHy := Aside0.mk (half_low n k g (by omega) (by omega))
  have HHp := Aside0.mk (up_half n k (l - 1) (by omega) (by omega))
  have HHq := Aside0.mk (fun h : g < 10000 => half_low n k (g + 1) (by omega) (by omega))
  have HB0 := Aside0.mk (Below.refl w.heap.size w)
  by_cases hn0 : n = 0
  · subst hn0
    obtain rfl : k = 0 := by omega
    have z0 : leastN 0 0 a = 0 := leastN_eq (decide_eq_true (by rw [up_zero]; simp; omega)) (by omega) (.inl rfl)
    obtain rfl : l = 0 := HL.out.symm.trans z0
    obtain rfl : g = 10000 := by have := HG.out; rw [z0] at this; omega
    have HG : Aside0 (10000 - (leastN 0 (0 - 0) a : Int) = 10000) := HG
    have HL : Aside0 (leastN 0 0 a = 0) := HL
    clear HF HD HE HHp HHq z0 hle hg hk1 hn1
    go_enter Try.func11, Try.ntmps11
    go_wp2_with fail
    refine (awake_calls _).mono ?_
    rintro e u1 ⟨rfl, b_⟩
    have HB_ := Aside0.mk (below_then HB0.out b_)
    clear b_
    have HB0 := HB_
    clear HB_
    go_wp2_with fail
    refine (HT.out _).mono ?_
    rintro e u2 ⟨rfl, d_⟩
    have b_ := drawn0_below (Below.refl _ _) d_
    clear d_
    have HB_ := Aside0.mk (below_then HB0.out b_)
    clear b_
    have HB0 := HB_
    clear HB_
    go_wp2_with fail
    refine (HR.out _).mono ?_
    rintro e u3 ⟨rfl, d_⟩
    have b_ := drawn0_below (Below.refl _ _) d_
    clear d_
    have HB_ := Aside0.mk (below_then HB0.out b_)
    clear b_
    have HB0 := HB_
    clear HB_
    go_wp2_with fail
    refine (Least_ok 0 0 a _ (by omega) (by omega) (by omega) (by omega)).mono ?_
    rw [HL.out]
    rintro e u4 ⟨rfl, b_⟩
    have HB_ := Aside0.mk (below_then HB0.out b_)
    clear b_
    have HB0 := HB_
    clear HB_
    go_wp2_with fail
    refine (Greatest_ok 0 0 a _ (by omega) (by omega) (by omega) (by omega)).mono ?_
    rw [HG.out]
    rintro e u5 ⟨rfl, b_⟩
    have HB_ := Aside0.mk (below_then HB0.out b_)
    clear b_
    have HB0 := HB_
    clear HB_
    go_wp2_with fail
    refine (Upper_ok 0 0 0 _ (by omega) (by omega) (by omega)).mono ?_
    rintro e u6 ⟨vx, rfl, h_, b_⟩
    have HB_ := Aside0.mk (below_then HB0.out b_)
    have Hx := Aside0.mk h_
    clear h_
    clear b_
    have HB0 := HB_
    clear HB_
    go_wp2_with fail
    refine (Lower_ok 0 0 10000 _ (by omega) (by omega) (by omega)).mono ?_
    rintro e u7 ⟨vy, rfl, h_, b_⟩
    have Hx := Aside0.mk (Hx.out.below b_)
    have HB_ := Aside0.mk (below_then HB0.out b_)
    have Hy := Aside0.mk h_
    clear h_
    clear b_
    have HB0 := HB_
    clear HB_
    go_wp2_with fail
    refine (exceeds_calls (up 0 (10000 - 0) 0 0) 0 a _ Hx.out HHx.out (by omega) (by omega)).mono ?_
    rw [HA.out]
    rintro e u8 ⟨rfl, b_⟩
    have Hy := Aside0.mk (Hy.out.below b_)
    have HB_ := Aside0.mk (below_then HB0.out b_)
    clear b_
    have HB0 := HB_
    clear HB_
    go_wp2_with fail
    refine (exceeds_calls (low 10000 (10000 - 10000) 0 0) 0 a _ Hy.out HHy.out (by omega) (by omega)).mono ?_
    rw [HC.out]
    rintro e u9 ⟨rfl, b_⟩
    have HB_ := Aside0.mk (below_then HB0.out b_)
    clear b_
    have HB0 := HB_
    clear HB_
    go_wp2_with fail
    go_ret
    exact ⟨rfl, HB0.out⟩
  have tn : ((n : Int) == 0) = false := by rw [beq_eq_false_iff_ne]; omega
  obtain ⟨f1, f2⟩ := HF.out (by omega)
  have t0 : decide ((l : Int) < 0) = false := decide_eq_false (by omega)
  have t1 : decide (10000 < (g : Int)) = false := decide_eq_false (by omega)
  have t2 : decide ((g : Int) < (l : Int)) = false := decide_eq_false (by omega)
  have y1 : l * n ≤ 10000 * 100 := Nat.mul_le_mul (by omega) (by omega)
  have y2 : g * n ≤ 10000 * 100 := Nat.mul_le_mul (by omega) (by omega)
  have e1 : ((l : Int) - 1) * (n : Int) = ((l * n : Nat) : Int) - (n : Int) := by rw [Int.sub_mul, Int.one_mul, Int.natCast_mul]
  have e2 : ((g : Int) + 1) * (n : Int) = ((g * n : Nat) : Int) + (n : Int) := by rw [Int.add_mul, Int.one_mul, Int.natCast_mul]
  have p1 : IntKind.i64.wrap (((l : Int) - 1) * (n : Int)) = ((l : Int) - 1) * (n : Int) := IntWalk.i64_in _ (by rw [e1]; omega)
  have p2 : IntKind.i64.wrap (((g : Int) + 1) * (n : Int)) = ((g : Int) + 1) * (n : Int) := IntWalk.i64_in _ (by rw [e2]; omega)
  have t3 : decide (((l : Int) - 1) * (n : Int) < 10000 * (k : Int)) = true := decide_eq_true (by rw [e1]; omega)
  have t4 : decide (10000 * (k : Int) < ((g : Int) + 1) * (n : Int)) = true := decide_eq_true (by rw [e2]; omega)
  have t5 : decide (10000 * (k : Int) < 10001 * (n : Int)) = true := decide_eq_true (by omega)
  have t6 : decide (-(n : Int) < 10000 * (k : Int)) = true := decide_eq_true (by omega)
  have t7 : decide (-1 * (n : Int) < 10000 * (k : Int)) = true := decide_eq_true (by omega)
  clear f1 f2 y1 y2 e1 e2
  by_cases hl : 0 < l
  · have tl : decide (0 < (l : Int)) = true := decide_eq_true (by omega)
    have c1 : (l : Int) - 1 = ((l - 1 : Nat) : Int) := by omega
    rw [c1] at p1 t3
    have HD := Aside0.mk (HD.out hl)
    by_cases hh : g < 10000
    · have th : decide ((g : Int) < 10000) = true := decide_eq_true (by omega)
      have HE := Aside0.mk (HE.out hh)
      have HHq := Aside0.mk (HHq.out hh)
      go_enter Try.func11, Try.ntmps11
      go_wp2_with fail
      refine (awake_calls _).mono ?_
      rintro e u1 ⟨rfl, b_⟩
      have HB_ := Aside0.mk (below_then HB0.out b_)
      clear b_
      have HB0 := HB_
      clear HB_
      go_wp2_with fail
      refine (HT.out _).mono ?_
      rintro e u2 ⟨rfl, d_⟩
      have b_ := drawn0_below (Below.refl _ _) d_
      clear d_
      have HB_ := Aside0.mk (below_then HB0.out b_)
      clear b_
      have HB0 := HB_
      clear HB_
      go_wp2_with fail
      refine (HR.out _).mono ?_
      rintro e u3 ⟨rfl, d_⟩
      have b_ := drawn0_below (Below.refl _ _) d_
      clear d_
      have HB_ := Aside0.mk (below_then HB0.out b_)
      clear b_
      have HB0 := HB_
      clear HB_
      go_wp2_with fail
      refine (Least_ok n k a _ (by omega) (by omega) (by omega) (by omega)).mono ?_
      rw [HL.out]
      rintro e u4 ⟨rfl, b_⟩
      have HB_ := Aside0.mk (below_then HB0.out b_)
      clear b_
      have HB0 := HB_
      clear HB_
      go_wp2_with fail
      refine (Greatest_ok n k a _ (by omega) (by omega) (by omega) (by omega)).mono ?_
      rw [HG.out]
      rintro e u5 ⟨rfl, b_⟩
      have HB_ := Aside0.mk (below_then HB0.out b_)
      clear b_
      have HB0 := HB_
      clear HB_
      go_wp2_with fail
      refine (Upper_ok n k l _ (by omega) (by omega) (by omega)).mono ?_
      rintro e u6 ⟨vx, rfl, h_, b_⟩
      have HB_ := Aside0.mk (below_then HB0.out b_)
      have Hx := Aside0.mk h_
      clear h_
      clear b_
      have HB0 := HB_
      clear HB_
      go_wp2_with fail
      refine (Lower_ok n k g _ (by omega) (by omega) (by omega)).mono ?_
      rintro e u7 ⟨vy, rfl, h_, b_⟩
      have Hx := Aside0.mk (Hx.out.below b_)
      have HB_ := Aside0.mk (below_then HB0.out b_)
      have Hy := Aside0.mk h_
      clear h_
      clear b_
      have HB0 := HB_
      clear HB_
      go_wp2_with fail
      refine (exceeds_calls (up l (10000 - l) n k) n a _ Hx.out HHx.out (by omega) (by omega)).mono ?_
      rw [HA.out]
      rintro e u8 ⟨rfl, b_⟩
      have Hy := Aside0.mk (Hy.out.below b_)
      have HB_ := Aside0.mk (below_then HB0.out b_)
      clear b_
      have HB0 := HB_
      clear HB_
      go_wp2_with fail
      refine (exceeds_calls (low g (10000 - g) n k) n a _ Hy.out HHy.out (by omega) (by omega)).mono ?_
      rw [HC.out]
      rintro e u9 ⟨rfl, b_⟩
      have HB_ := Aside0.mk (below_then HB0.out b_)
      clear b_
      have HB0 := HB_
      clear HB_
      go_wp2_with fail
      refine (Upper_ok n k (l - 1) _ (by omega) (by omega) (by omega)).mono ?_
      rintro e u10 ⟨vp, rfl, h_, b_⟩
      have HB_ := Aside0.mk (below_then HB0.out b_)
      have Hp := Aside0.mk h_
      clear h_
      clear b_
      have HB0 := HB_
      clear HB_
      go_wp2_with fail
      refine (exceeds_calls (up (l - 1) (10000 - (l - 1)) n k) n a _ Hp.out HHp.out (by omega) (by omega)).mono ?_
      rw [HD.out]
      rintro e u11 ⟨rfl, b_⟩
      have HB_ := Aside0.mk (below_then HB0.out b_)
      clear b_
      have HB0 := HB_
      clear HB_
      go_wp2_with fail
      refine (Lower_ok n k (g + 1) _ (by omega) (by omega) (by omega)).mono ?_
      rintro e u12 ⟨vq, rfl, h_, b_⟩
      have HB_ := Aside0.mk (below_then HB0.out b_)
      have Hq := Aside0.mk h_
      clear h_
      clear b_
      have HB0 := HB_
      clear HB_
      go_wp2_with fail
      refine (exceeds_calls (low (g + 1) (10000 - (g + 1)) n k) n a _ Hq.out HHq.out (by omega) (by omega)).mono ?_
      rw [HE.out]
      rintro e u13 ⟨rfl, b_⟩
      have HB_ := Aside0.mk (below_then HB0.out b_)
      clear b_
      have HB0 := HB_
      clear HB_
      go_wp2_with fail
      go_ret
      exact ⟨rfl, HB0.out⟩
    · obtain rfl : g = 10000 := by omega
      go_enter Try.func11, Try.ntmps11
      go_wp2_with fail
      refine (awake_calls _).mono ?_
      rintro e u1 ⟨rfl, b_⟩
      have HB_ := Aside0.mk (below_then HB0.out b_)
      clear b_
      have HB0 := HB_
      clear HB_
      go_wp2_with fail
      refine (HT.out _).mono ?_
      rintro e u2 ⟨rfl, d_⟩
      have b_ := drawn0_below (Below.refl _ _) d_
      clear d_
      have HB_ := Aside0.mk (below_then HB0.out b_)
      clear b_
      have HB0 := HB_
      clear HB_
      go_wp2_with fail
      refine (HR.out _).mono ?_
      rintro e u3 ⟨rfl, d_⟩
      have b_ := drawn0_below (Below.refl _ _) d_
      clear d_
      have HB_ := Aside0.mk (below_then HB0.out b_)
      clear b_
      have HB0 := HB_
      clear HB_
      go_wp2_with fail
      refine (Least_ok n k a _ (by omega) (by omega) (by omega) (by omega)).mono ?_
      rw [HL.out]
      rintro e u4 ⟨rfl, b_⟩
      have HB_ := Aside0.mk (below_then HB0.out b_)
      clear b_
      have HB0 := HB_
      clear HB_
      go_wp2_with fail
      refine (Greatest_ok n k a _ (by omega) (by omega) (by omega) (by omega)).mono ?_
      rw [HG.out]
      rintro e u5 ⟨rfl, b_⟩
      have HB_ := Aside0.mk (below_then HB0.out b_)
      clear b_
      have HB0 := HB_
      clear HB_
      go_wp2_with fail
      refine (Upper_ok n k l _ (by omega) (by omega) (by omega)).mono ?_
      rintro e u6 ⟨vx, rfl, h_, b_⟩
      have HB_ := Aside0.mk (below_then HB0.out b_)
      have Hx := Aside0.mk h_
      clear h_
      clear b_
      have HB0 := HB_
      clear HB_
      go_wp2_with fail
      refine (Lower_ok n k 10000 _ (by omega) (by omega) (by omega)).mono ?_
      rintro e u7 ⟨vy, rfl, h_, b_⟩
      have Hx := Aside0.mk (Hx.out.below b_)
      have HB_ := Aside0.mk (below_then HB0.out b_)
      have Hy := Aside0.mk h_
      clear h_
      clear b_
      have HB0 := HB_
      clear HB_
      go_wp2_with fail
      refine (exceeds_calls (up l (10000 - l) n k) n a _ Hx.out HHx.out (by omega) (by omega)).mono ?_
      rw [HA.out]
      rintro e u8 ⟨rfl, b_⟩
      have Hy := Aside0.mk (Hy.out.below b_)
      have HB_ := Aside0.mk (below_then HB0.out b_)
      clear b_
      have HB0 := HB_
      clear HB_
      go_wp2_with fail
      refine (exceeds_calls (low 10000 (10000 - 10000) n k) n a _ Hy.out HHy.out (by omega) (by omega)).mono ?_
      rw [HC.out]
      rintro e u9 ⟨rfl, b_⟩
      have HB_ := Aside0.mk (below_then HB0.out b_)
      clear b_
      have HB0 := HB_
      clear HB_
      go_wp2_with fail
      refine (Upper_ok n k (l - 1) _ (by omega) (by omega) (by omega)).mono ?_
      rintro e u10 ⟨vp, rfl, h_, b_⟩
      have HB_ := Aside0.mk (below_then HB0.out b_)
      have Hp := Aside0.mk h_
      clear h_
      clear b_
      have HB0 := HB_
      clear HB_
      go_wp2_with fail
      refine (exceeds_calls (up (l - 1) (10000 - (l - 1)) n k) n a _ Hp.out HHp.out (by omega) (by omega)).mono ?_
      rw [HD.out]
      rintro e u11 ⟨rfl, b_⟩
      have HB_ := Aside0.mk (below_then HB0.out b_)
      clear b_
      have HB0 := HB_
      clear HB_
      go_wp2_with fail
      go_ret
      exact ⟨rfl, HB0.out⟩
  · obtain rfl : l = 0 := by omega
    by_cases hh : g < 10000
    · have th : decide ((g : Int) < 10000) = true := decide_eq_true (by omega)
      have HE := Aside0.mk (HE.out hh)
      have HHq := Aside0.mk (HHq.out hh)
      go_enter Try.func11, Try.ntmps11
      go_wp2_with fail
      refine (awake_calls _).mono ?_
      rintro e u1 ⟨rfl, b_⟩
      have HB_ := Aside0.mk (below_then HB0.out b_)
      clear b_
      have HB0 := HB_
      clear HB_
      go_wp2_with fail
      refine (HT.out _).mono ?_
      rintro e u2 ⟨rfl, d_⟩
      have b_ := drawn0_below (Below.refl _ _) d_
      clear d_
      have HB_ := Aside0.mk (below_then HB0.out b_)
      clear b_
      have HB0 := HB_
      clear HB_
      go_wp2_with fail
      refine (HR.out _).mono ?_
      rintro e u3 ⟨rfl, d_⟩
      have b_ := drawn0_below (Below.refl _ _) d_
      clear d_
      have HB_ := Aside0.mk (below_then HB0.out b_)
      clear b_
      have HB0 := HB_
      clear HB_
      go_wp2_with fail
      refine (Least_ok n k a _ (by omega) (by omega) (by omega) (by omega)).mono ?_
      rw [HL.out]
      rintro e u4 ⟨rfl, b_⟩
      have HB_ := Aside0.mk (below_then HB0.out b_)
      clear b_
      have HB0 := HB_
      clear HB_
      go_wp2_with fail
      refine (Greatest_ok n k a _ (by omega) (by omega) (by omega) (by omega)).mono ?_
      rw [HG.out]
      rintro e u5 ⟨rfl, b_⟩
      have HB_ := Aside0.mk (below_then HB0.out b_)
      clear b_
      have HB0 := HB_
      clear HB_
      go_wp2_with fail
      refine (Upper_ok n k 0 _ (by omega) (by omega) (by omega)).mono ?_
      rintro e u6 ⟨vx, rfl, h_, b_⟩
      have HB_ := Aside0.mk (below_then HB0.out b_)
      have Hx := Aside0.mk h_
      clear h_
      clear b_
      have HB0 := HB_
      clear HB_
      go_wp2_with fail
      refine (Lower_ok n k g _ (by omega) (by omega) (by omega)).mono ?_
      rintro e u7 ⟨vy, rfl, h_, b_⟩
      have Hx := Aside0.mk (Hx.out.below b_)
      have HB_ := Aside0.mk (below_then HB0.out b_)
      have Hy := Aside0.mk h_
      clear h_
      clear b_
      have HB0 := HB_
      clear HB_
      go_wp2_with fail
      refine (exceeds_calls (up 0 (10000 - 0) n k) n a _ Hx.out HHx.out (by omega) (by omega)).mono ?_
      rw [HA.out]
      rintro e u8 ⟨rfl, b_⟩
      have Hy := Aside0.mk (Hy.out.below b_)
      have HB_ := Aside0.mk (below_then HB0.out b_)
      clear b_
      have HB0 := HB_
      clear HB_
      go_wp2_with fail
      refine (exceeds_calls (low g (10000 - g) n k) n a _ Hy.out HHy.out (by omega) (by omega)).mono ?_
      rw [HC.out]
      rintro e u9 ⟨rfl, b_⟩
      have HB_ := Aside0.mk (below_then HB0.out b_)
      clear b_
      have HB0 := HB_
      clear HB_
      go_wp2_with fail
      refine (Lower_ok n k (g + 1) _ (by omega) (by omega) (by omega)).mono ?_
      rintro e u10 ⟨vq, rfl, h_, b_⟩
      have HB_ := Aside0.mk (below_then HB0.out b_)
      have Hq := Aside0.mk h_
      clear h_
      clear b_
      have HB0 := HB_
      clear HB_
      go_wp2_with fail
      refine (exceeds_calls (low (g + 1) (10000 - (g + 1)) n k) n a _ Hq.out HHq.out (by omega) (by omega)).mono ?_
      rw [HE.out]
      rintro e u11 ⟨rfl, b_⟩
      have HB_ := Aside0.mk (below_then HB0.out b_)
      clear b_
      have HB0 := HB_
      clear HB_
      go_wp2_with fail
      go_ret
      exact ⟨rfl, HB0.out⟩
    · obtain rfl : g = 10000 := by omega
      go_enter Try.func11, Try.ntmps11
      go_wp2_with fail
      refine (awake_calls _).mono ?_
      rintro e u1 ⟨rfl, b_⟩
      have HB_ := Aside0.mk (below_then HB0.out b_)
      clear b_
      have HB0 := HB_
      clear HB_
      go_wp2_with fail
      refine (HT.out _).mono ?_
      rintro e u2 ⟨rfl, d_⟩
      have b_ := drawn0_below (Below.refl _ _) d_
      clear d_
      have HB_ := Aside0.mk (below_then HB0.out b_)
      clear b_
      have HB0 := HB_
      clear HB_
      go_wp2_with fail
      refine (HR.out _).mono ?_
      rintro e u3 ⟨rfl, d_⟩
      have b_ := drawn0_below (Below.refl _ _) d_
      clear d_
      have HB_ := Aside0.mk (below_then HB0.out b_)
      clear b_
      have HB0 := HB_
      clear HB_
      go_wp2_with fail
      refine (Least_ok n k a _ (by omega) (by omega) (by omega) (by omega)).mono ?_
      rw [HL.out]
      rintro e u4 ⟨rfl, b_⟩
      have HB_ := Aside0.mk (below_then HB0.out b_)
      clear b_
      have HB0 := HB_
      clear HB_
      go_wp2_with fail
      refine (Greatest_ok n k a _ (by omega) (by omega) (by omega) (by omega)).mono ?_
      rw [HG.out]
      rintro e u5 ⟨rfl, b_⟩
      have HB_ := Aside0.mk (below_then HB0.out b_)
      clear b_
      have HB0 := HB_
      clear HB_
      go_wp2_with fail
      refine (Upper_ok n k 0 _ (by omega) (by omega) (by omega)).mono ?_
      rintro e u6 ⟨vx, rfl, h_, b_⟩
      have HB_ := Aside0.mk (below_then HB0.out b_)
      have Hx := Aside0.mk h_
      clear h_
      clear b_
      have HB0 := HB_
      clear HB_
      go_wp2_with fail
      refine (Lower_ok n k 10000 _ (by omega) (by omega) (by omega)).mono ?_
      rintro e u7 ⟨vy, rfl, h_, b_⟩
      have Hx := Aside0.mk (Hx.out.below b_)
      have HB_ := Aside0.mk (below_then HB0.out b_)
      have Hy := Aside0.mk h_
      clear h_
      clear b_
      have HB0 := HB_
      clear HB_
      go_wp2_with fail
      refine (exceeds_calls (up 0 (10000 - 0) n k) n a _ Hx.out HHx.out (by omega) (by omega)).mono ?_
      rw [HA.out]
      rintro e u8 ⟨rfl, b_⟩
      have Hy := Aside0.mk (Hy.out.below b_)
      have HB_ := Aside0.mk (below_then HB0.out b_)
      clear b_
      have HB0 := HB_
      clear HB_
      go_wp2_with fail
      refine (exceeds_calls (low 10000 (10000 - 10000) n k) n a _ Hy.out HHy.out (by omega) (by omega)).mono ?_
      rw [HC.out]
      rintro e u9 ⟨rfl, b_⟩
      have HB_ := Aside0.mk (below_then HB0.out b_)
      clear b_
      have HB0 := HB_
      clear HB_
      go_wp2_with fail
      go_ret
      exact ⟨rfl, HB0.out⟩

end Go.Proofs.Ytenmlkcjgefmpaa
