/- StatsTurns: the walk. -/
import Derived.Test.YtenmlkcjgefmpaaKit
namespace Go.Proofs.Ytenmlkcjgefmpaa
open Go.RowKit Go.Proofs.YtenmlkcjgefmpaaW.PrintWords Go.Proofs.YtenmlkcjgefmpaaW.PrintLast Go.Proofs.YtenmlkcjgefmpaaW.PrintMore Go.Proofs.Ytenmlkcjgefmpaa.Fn
attribute [local go_sem] max2_int min2_int max_two min_two max_three min_three max_four min_four

theorem turn_up (p n k : Nat) (hp : p ≤ 10000) (hk : k ≤ n) : up p (10000 - p) n k = low (10000 - p) (10000 - (10000 - p)) n (n - k) := by
  rw [show 10000 - (10000 - p) = p by omega]
  have h2 := low_eq (10000 - p) p n (n - k) (by omega)
  have h3 := up_turn (10000 - p) p n (n - k) (by omega)
  rw [show n - (n - k) = k by omega] at h3
  omega
theorem binom_half2 (n k : Nat) (hn : n ≤ 500) : Half (binom n k) := binom_half n k hn

set_option maxHeartbeats 4000000 in
set_option maxRecDepth 100000 in
theorem Turns_calls (x y s r : Int) (hx : (Lit.int .i64 x).wf = true) (hy : (Lit.int .i64 y).wf = true) (hs : (Lit.int .i64 s).wf = true) (hr : (Lit.int .i64 r).wf = true) (w : World) :
    Calls Try.prog 10 #[.int .i64 x, .int .i64 y, .int .i64 s, .int .i64 r] w fun e w' => e = .returned (.bool true) ∧ Below w.heap.size w w' := by
  have hn1 := pickN_lt x (n := 100 + 1) (by decide)
  have hk1 := pickN_lt y (n := pickN x (100 + 1) + 1) (by omega)
  have hp := shareN_le s
  have ha := riskN_in r
  have HT := Aside0.mk (fun W => trials_calls x y 100 W hx hy (by decide))
  have HS := Aside0.mk (fun W => share_calls s W hs)
  have HR := Aside0.mk (fun W => risk_calls r W hr)
  generalize pickN y (pickN x (100 + 1) + 1) = k at *
  generalize pickN x (100 + 1) = n at *
  generalize shareN s = p at *
  generalize riskN r = a at *
  have E1 := Aside0.mk (turn_up p n k hp (by omega))
  have E2 := Aside0.mk (binom_symm n k (by omega))
  have E3 := Aside0.mk (congrArg (fun i => 10000 - (leastN n i a : Int)) (show n - (n - k) = k by omega))
  have HE := Aside0.mk (show (leastN n k a : Int) = 10000 - (10000 - (leastN n k a : Int)) by omega)
  have c1 : (n : Int) - (k : Int) = ((n - k : Nat) : Int) := by omega
  have c2 : 10000 - (p : Int) = ((10000 - p : Nat) : Int) := by omega
  have hle := Aside0.mk (leastN_spec (n := n) (k := k) (r := a) (by omega) (by omega)).1
  clear hx hy hs hr
  go_enter Try.func10, Try.ntmps10
  go_wp2_with fail
  refine (awake_calls _).mono ?_
  rintro e w1 ⟨rfl, b1⟩
  go_wp2_with fail
  refine (HT.out _).mono ?_
  rintro e w2 ⟨rfl, d2⟩
  have b2 := drawn0_below b1 d2
  clear d2 b1
  go_wp2_with fail
  refine (HS.out _).mono ?_
  rintro e w3 ⟨rfl, d3⟩
  have b3 := drawn0_below b2 d3
  clear d3 b2
  go_wp2_with fail
  refine (HR.out _).mono ?_
  rintro e w4 ⟨rfl, d4⟩
  have b4 := drawn0_below b3 d4
  clear d4 b3
  go_wp2_with fail
  refine (Upper_ok n k p _ (by omega) (by omega) hp).mono ?_
  rintro e w5 ⟨v5, rfl, h5, b5⟩
  have H5 := Aside0.mk h5
  have hb5 := below_then b4 b5
  clear h5 b4 b5
  go_wp2_with fail
  refine (Lower_ok n (n - k) (10000 - p) _ (by omega) (by omega) (by omega)).mono ?_
  rw [← E1.out]
  rintro e w6 ⟨v6, rfl, h6, b6⟩
  have H6 := Aside0.mk h6
  have h5 := H5.out.below b6
  have H5 := Aside0.mk h5
  have hb6 := below_then hb5 b6
  clear h5 h6 hb5 b6
  go_wp2_with fail
  refine (Choose_ok n k _ (by omega) (by omega)).mono ?_
  rintro e w7 ⟨v7, rfl, h7, b7⟩
  have H7 := Aside0.mk h7
  have h5 := H5.out.below b7
  have H5 := Aside0.mk h5
  have h6 := H6.out.below b7
  have H6 := Aside0.mk h6
  have hb7 := below_then hb6 b7
  clear h5 h6 h7 hb6 b7
  go_wp2_with fail
  refine (Choose_ok n (n - k) _ (by omega) (by omega)).mono ?_
  rw [E2.out]
  rintro e w8 ⟨v8, rfl, h8, b8⟩
  have H8 := Aside0.mk h8
  have h5 := H5.out.below b8
  have H5 := Aside0.mk h5
  have h6 := H6.out.below b8
  have H6 := Aside0.mk h6
  have h7 := H7.out.below b8
  have H7 := Aside0.mk h7
  have hb8 := below_then hb7 b8
  clear h5 h6 h7 h8 hb7 b8
  go_wp2_with fail
  refine (same_calls _ H5.out H6.out).mono ?_
  rw [decide_eq_true rfl]
  rintro e w9 ⟨rfl, d9⟩
  have b9 : Below w8.heap.size w8 w9 := drawn0_below (Below.refl _ _) d9
  have h7 := H7.out.below b9
  have h8 := H8.out.below b9
  have hb9 := below_then hb8 b9
  have H7 := Aside0.mk h7
  have H8 := Aside0.mk h8
  clear d9 b9 hb8 h7 h8
  go_wp2_with fail
  refine (same_calls _ H7.out H8.out).mono ?_
  rw [decide_eq_true rfl]
  rintro e w10 ⟨rfl, d10⟩
  have hb10 := drawn0_below hb9 d10
  clear d10 hb9
  go_wp2_with fail
  refine (Least_ok n k a _ (by omega) (by omega) (by omega) (by omega)).mono ?_
  rintro e w11 ⟨rfl, b11⟩
  have hb11 := below_then hb10 b11
  clear b11 hb10
  go_wp2_with fail
  refine (Greatest_ok n (n - k) a _ (by omega) (by omega) (by omega) (by omega)).mono ?_
  rw [E3.out]
  rintro e w12 ⟨rfl, b12⟩
  have hb12 := below_then hb11 b12
  clear b12 hb11
  have hle := hle.out
  generalize leastN n k a = l at *
  have e1 : 10000 - (10000 - (l : Int)) = (l : Int) := by omega
  have e2 : ((l : Int) == (l : Int)) = true := beq_self_eq_true _
  go_wp2_with fail
  go_ret
  exact ⟨rfl, hb12⟩

end Go.Proofs.Ytenmlkcjgefmpaa
