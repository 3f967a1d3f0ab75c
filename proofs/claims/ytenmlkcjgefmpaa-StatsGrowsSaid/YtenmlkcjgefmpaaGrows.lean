/- StatsGrows: the walk. -/
import Derived.Test.YtenmlkcjgefmpaaKit
namespace Go.Proofs.Ytenmlkcjgefmpaa
open Go.RowKit Go.Proofs.YtenmlkcjgefmpaaW.PrintWords Go.Proofs.YtenmlkcjgefmpaaW.PrintLast Go.Proofs.YtenmlkcjgefmpaaW.PrintMore Go.Proofs.Ytenmlkcjgefmpaa.Fn
attribute [local go_sem] max_two min_two max_three min_three max_four min_four


attribute [local go_sem] min2_z max2_z

theorem least_of {n k r m j t : Nat} (hk : k ≤ n) (hr : r < 10000) (h : excB n k r (leastN n k r) = true → excB m j t (leastN n k r) = true) : leastN m j t ≤ leastN n k r := by
  obtain ⟨h1, h2, _⟩ := leastN_spec hk hr
  exact leastN_le h1 (h h2)
theorem least_k {n k r : Nat} (hk : k + 1 ≤ n) (hr : r < 10000) : leastN n k r ≤ leastN n (k + 1) r := by
  refine least_of hk hr fun h => ?_
  have h1 := of_decide_eq_true h
  exact decide_eq_true (Nat.lt_of_lt_of_le h1 (Nat.mul_le_mul_right _ (up_anti _ _ n k)))
theorem least_r {n k a b : Nat} (hk : k ≤ n) (hb : b < 10000) (hab : a ≤ b) : leastN n k a ≤ leastN n k b := by
  refine least_of hk hb fun h => ?_
  have h1 := of_decide_eq_true h
  exact decide_eq_true (Nat.lt_of_le_of_lt (Nat.mul_le_mul_left _ hab) h1)

set_option maxHeartbeats 1000000 in
set_option maxRecDepth 100000 in
theorem Grows_calls (x y s r m : Int) (hx : (Lit.int .i64 x).wf = true) (hy : (Lit.int .i64 y).wf = true) (hs : (Lit.int .i64 s).wf = true) (hr : (Lit.int .i64 r).wf = true) (hm : (Lit.int .i64 m).wf = true) (w : World) :
    Calls Try.prog 6 #[.int .i64 x, .int .i64 y, .int .i64 s, .int .i64 r, .int .i64 m] w fun e w' => e = .returned (.bool true) ∧ Below w.heap.size w w' := by
  have hn1 := pickN_lt x (n := 100 + 1) (by decide)
  have hk1 := pickN_lt y (n := pickN x (100 + 1) + 1) (by omega)
  have hp0 := shareN_le s
  have hq0 := shareN_le m
  have ha0 := riskN_in r
  have hb0 := riskN_in m
  have HT := Aside0.mk (fun W => trials_calls x y 100 W hx hy (by decide))
  have HS := Aside0.mk (fun W => share_calls s W hs)
  have HM := Aside0.mk (fun W => share_calls m W hm)
  have HR := Aside0.mk (fun W => risk_calls r W hr)
  have HQ := Aside0.mk (fun W => risk_calls m W hm)
  generalize pickN y (pickN x (100 + 1) + 1) = k at *
  generalize pickN x (100 + 1) = n at *
  generalize shareN s = p0 at *
  generalize shareN m = q0 at *
  generalize riskN r = a0 at *
  generalize riskN m = b0 at *
  have m1 := min_nat p0 q0
  have m2 := max_nat p0 q0
  have m3 := min_nat a0 b0
  have m4 := max_nat a0 b0
  have hpq : min p0 q0 ≤ max p0 q0 ∧ max p0 q0 ≤ 10000 := by omega
  have hab : 1 ≤ min a0 b0 ∧ min a0 b0 ≤ max a0 b0 ∧ max a0 b0 ≤ 2000 := by omega
  generalize min p0 q0 = p at *
  generalize max p0 q0 = q at *
  generalize min a0 b0 = a at *
  generalize max a0 b0 = b at *
  have d1 := cmp_le (up_mono (p := p) (q := 10000 - p) (p' := q) (q' := 10000 - q) (by omega) (by omega) n k)
  have hl1 := least_r (n := n) (k := k) (a := a) (b := b) (by omega) (by omega) (by omega)
  have d2 : decide ((leastN n k b : Int) < (leastN n k a : Int)) = false := decide_eq_false (by omega)
  have HB0 := Aside0.mk (Below.refl w.heap.size w)
  clear hx hy hs hr hm
  by_cases hkn : k = n
  · have hkb : ((k : Int) == (n : Int)) = true := by rw [beq_iff_eq]; omega
    clear hkn
    go_enter Try.func6, Try.ntmps6
    go_wp2_with fail
    refine (awake_calls _).mono ?_
    rintro e u1 ⟨rfl, b_⟩
    have HB_ := Aside0.mk (below_then HB0.out b_)
    clear b_
    have HB0 := HB_
    clear HB_
    go_wp2_with fail
    refine (HT.out _).mono ?_
    rintro e u2 ⟨rfl, d_⟩
    have b_ := drawn0_below (Below.refl _ _) d_
    clear d_
    have HB_ := Aside0.mk (below_then HB0.out b_)
    clear b_
    have HB0 := HB_
    clear HB_
    go_wp2_with fail
    refine (HS.out _).mono ?_
    rintro e u3 ⟨rfl, d_⟩
    have b_ := drawn0_below (Below.refl _ _) d_
    clear d_
    have HB_ := Aside0.mk (below_then HB0.out b_)
    clear b_
    have HB0 := HB_
    clear HB_
    go_wp2_with fail
    refine (HM.out _).mono ?_
    rintro e u4 ⟨rfl, d_⟩
    have b_ := drawn0_below (Below.refl _ _) d_
    clear d_
    have HB_ := Aside0.mk (below_then HB0.out b_)
    clear b_
    have HB0 := HB_
    clear HB_
    go_wp2_with fail
    refine (Upper_ok n k p _ (by omega) (by omega) (by omega)).mono ?_
    rintro e u5 ⟨vx, rfl, h_, b_⟩
    have HB_ := Aside0.mk (below_then HB0.out b_)
    have Hx := Aside0.mk h_
    clear h_
    clear b_
    have HB0 := HB_
    clear HB_
    go_wp2_with fail
    refine (Upper_ok n k q _ (by omega) (by omega) (by omega)).mono ?_
    rintro e u6 ⟨vy, rfl, h_, b_⟩
    have Hx := Aside0.mk (Hx.out.below b_)
    have HB_ := Aside0.mk (below_then HB0.out b_)
    have Hy := Aside0.mk h_
    clear h_
    clear b_
    have HB0 := HB_
    clear HB_
    go_wp2_with fail
    refine (Cmp_calls _ Hx.out Hy.out).mono ?_
    rintro e u7 ⟨rfl, d_⟩
    have b_ := drawn0_below (Below.refl _ _) d_
    clear d_
    have Hx := Aside0.mk (Hx.out.below b_)
    have HB_ := Aside0.mk (below_then HB0.out b_)
    clear b_
    have HB0 := HB_
    clear HB_
    go_wp2_with fail
    refine (HR.out _).mono ?_
    rintro e u8 ⟨rfl, d_⟩
    have b_ := drawn0_below (Below.refl _ _) d_
    clear d_
    have Hx := Aside0.mk (Hx.out.below b_)
    have HB_ := Aside0.mk (below_then HB0.out b_)
    clear b_
    have HB0 := HB_
    clear HB_
    go_wp2_with fail
    refine (HQ.out _).mono ?_
    rintro e u9 ⟨rfl, d_⟩
    have b_ := drawn0_below (Below.refl _ _) d_
    clear d_
    have Hx := Aside0.mk (Hx.out.below b_)
    have HB_ := Aside0.mk (below_then HB0.out b_)
    clear b_
    have HB0 := HB_
    clear HB_
    go_wp2_with fail
    refine (Least_ok n k a _ (by omega) (by omega) (by omega) (by omega)).mono ?_
    rintro e u10 ⟨rfl, b_⟩
    have Hx := Aside0.mk (Hx.out.below b_)
    have HB_ := Aside0.mk (below_then HB0.out b_)
    clear b_
    have HB0 := HB_
    clear HB_
    go_wp2_with fail
    refine (Least_ok n k b _ (by omega) (by omega) (by omega) (by omega)).mono ?_
    rintro e u11 ⟨rfl, b_⟩
    have Hx := Aside0.mk (Hx.out.below b_)
    have HB_ := Aside0.mk (below_then HB0.out b_)
    clear b_
    have HB0 := HB_
    clear HB_
    go_wp2_with fail
    go_ret
    exact ⟨rfl, HB0.out⟩
  · have hkb : ((k : Int) == (n : Int)) = false := by rw [beq_eq_false_iff_ne]; omega
    have d3 := cmp_le0 (up_anti p (10000 - p) n k)
    have hl2 := least_k (n := n) (k := k) (r := a) (by omega) (by omega)
    have d4 : decide ((leastN n k a : Int) ≤ (leastN n (k + 1) a : Int)) = true := decide_eq_true (by omega)
    go_enter Try.func6, Try.ntmps6
    go_wp2_with fail
    refine (awake_calls _).mono ?_
    rintro e u1 ⟨rfl, b_⟩
    have HB_ := Aside0.mk (below_then HB0.out b_)
    clear b_
    have HB0 := HB_
    clear HB_
    go_wp2_with fail
    refine (HT.out _).mono ?_
    rintro e u2 ⟨rfl, d_⟩
    have b_ := drawn0_below (Below.refl _ _) d_
    clear d_
    have HB_ := Aside0.mk (below_then HB0.out b_)
    clear b_
    have HB0 := HB_
    clear HB_
    go_wp2_with fail
    refine (HS.out _).mono ?_
    rintro e u3 ⟨rfl, d_⟩
    have b_ := drawn0_below (Below.refl _ _) d_
    clear d_
    have HB_ := Aside0.mk (below_then HB0.out b_)
    clear b_
    have HB0 := HB_
    clear HB_
    go_wp2_with fail
    refine (HM.out _).mono ?_
    rintro e u4 ⟨rfl, d_⟩
    have b_ := drawn0_below (Below.refl _ _) d_
    clear d_
    have HB_ := Aside0.mk (below_then HB0.out b_)
    clear b_
    have HB0 := HB_
    clear HB_
    go_wp2_with fail
    refine (Upper_ok n k p _ (by omega) (by omega) (by omega)).mono ?_
    rintro e u5 ⟨vx, rfl, h_, b_⟩
    have HB_ := Aside0.mk (below_then HB0.out b_)
    have Hx := Aside0.mk h_
    clear h_
    clear b_
    have HB0 := HB_
    clear HB_
    go_wp2_with fail
    refine (Upper_ok n k q _ (by omega) (by omega) (by omega)).mono ?_
    rintro e u6 ⟨vy, rfl, h_, b_⟩
    have Hx := Aside0.mk (Hx.out.below b_)
    have HB_ := Aside0.mk (below_then HB0.out b_)
    have Hy := Aside0.mk h_
    clear h_
    clear b_
    have HB0 := HB_
    clear HB_
    go_wp2_with fail
    refine (Cmp_calls _ Hx.out Hy.out).mono ?_
    rintro e u7 ⟨rfl, d_⟩
    have b_ := drawn0_below (Below.refl _ _) d_
    clear d_
    have Hx := Aside0.mk (Hx.out.below b_)
    have HB_ := Aside0.mk (below_then HB0.out b_)
    clear b_
    have HB0 := HB_
    clear HB_
    go_wp2_with fail
    refine (HR.out _).mono ?_
    rintro e u8 ⟨rfl, d_⟩
    have b_ := drawn0_below (Below.refl _ _) d_
    clear d_
    have Hx := Aside0.mk (Hx.out.below b_)
    have HB_ := Aside0.mk (below_then HB0.out b_)
    clear b_
    have HB0 := HB_
    clear HB_
    go_wp2_with fail
    refine (HQ.out _).mono ?_
    rintro e u9 ⟨rfl, d_⟩
    have b_ := drawn0_below (Below.refl _ _) d_
    clear d_
    have Hx := Aside0.mk (Hx.out.below b_)
    have HB_ := Aside0.mk (below_then HB0.out b_)
    clear b_
    have HB0 := HB_
    clear HB_
    go_wp2_with fail
    refine (Least_ok n k a _ (by omega) (by omega) (by omega) (by omega)).mono ?_
    rintro e u10 ⟨rfl, b_⟩
    have Hx := Aside0.mk (Hx.out.below b_)
    have HB_ := Aside0.mk (below_then HB0.out b_)
    clear b_
    have HB0 := HB_
    clear HB_
    go_wp2_with fail
    refine (Least_ok n k b _ (by omega) (by omega) (by omega) (by omega)).mono ?_
    rintro e u11 ⟨rfl, b_⟩
    have Hx := Aside0.mk (Hx.out.below b_)
    have HB_ := Aside0.mk (below_then HB0.out b_)
    clear b_
    have HB0 := HB_
    clear HB_
    go_wp2_with fail
    refine (Upper_ok n (k + 1) p _ (by omega) (by omega) (by omega)).mono ?_
    rintro e u12 ⟨vz, rfl, h_, b_⟩
    have Hx := Aside0.mk (Hx.out.below b_)
    have HB_ := Aside0.mk (below_then HB0.out b_)
    have Hz := Aside0.mk h_
    clear h_
    clear b_
    have HB0 := HB_
    clear HB_
    go_wp2_with fail
    refine (Least_ok n (k + 1) a _ (by omega) (by omega) (by omega) (by omega)).mono ?_
    rintro e u13 ⟨rfl, b_⟩
    have Hx := Aside0.mk (Hx.out.below b_)
    have Hz := Aside0.mk (Hz.out.below b_)
    have HB_ := Aside0.mk (below_then HB0.out b_)
    clear b_
    have HB0 := HB_
    clear HB_
    go_wp2_with fail
    refine (Cmp_calls _ Hz.out Hx.out).mono ?_
    rintro e u14 ⟨rfl, d_⟩
    have b_ := drawn0_below (Below.refl _ _) d_
    clear d_
    have HB_ := Aside0.mk (below_then HB0.out b_)
    clear b_
    have HB0 := HB_
    clear HB_
    go_wp2_with fail
    go_ret
    exact ⟨rfl, HB0.out⟩

end Go.Proofs.Ytenmlkcjgefmpaa
