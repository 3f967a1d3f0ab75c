/- The law functions' own helpers: numbers in their ranges, all of Whole^n, and what exceeds a risk. -/
import Derived.Test.YtenmlkcjgefmpaaAwake
namespace Go.Proofs.Ytenmlkcjgefmpaa
open Go.RowKit Go.Proofs.YtenmlkcjgefmpaaW.PrintWords Go.Proofs.YtenmlkcjgefmpaaW.PrintLast Go.Proofs.YtenmlkcjgefmpaaW.PrintMore Go.Proofs.Ytenmlkcjgefmpaa.Fn
attribute [local go_sem] max2_int min2_int max_two min_two max_three min_three max_four min_four

def pickN (x : Int) (n : Nat) : Nat := (x % (n : Int)).toNat
theorem pickN_lt (x : Int) {n : Nat} (h : 0 < n) : pickN x n < n := by
  have h1 := Int.emod_nonneg x (show (n : Int) ≠ 0 by omega)
  have h2 := Int.emod_lt_of_pos x (show 0 < (n : Int) by omega)
  unfold pickN
  omega
theorem pickN_eq (x : Int) {n : Nat} (h : 0 < n) : (pickN x n : Int) = x % (n : Int) := by
  have h1 := Int.emod_nonneg x (show (n : Int) ≠ 0 by omega)
  unfold pickN
  omega

theorem tmod_pick (x : Int) {n : Nat} (h : 0 < n) : (x.tmod (n : Int) < 0 ∧ x.tmod (n : Int) + n = pickN x n) ∨ (¬ x.tmod (n : Int) < 0 ∧ x.tmod (n : Int) = pickN x n) := by
  rw [pickN_eq x h, Int.tmod_eq_emod]
  have h1 := Int.emod_nonneg x (show (n : Int) ≠ 0 by omega)
  have h2 := Int.emod_lt_of_pos x (show 0 < (n : Int) by omega)
  split
  · exact .inr ⟨by omega, by omega⟩
  · rw [Int.natAbs_natCast]
    exact .inl ⟨by omega, by omega⟩

set_option maxRecDepth 100000 in
theorem Pick_calls (x : Int) (n : Nat) (w : World) (_hx : (Lit.int .i64 x).wf = true) (h0 : 0 < n) (hn : n ≤ 1099511627776) : Calls Try.prog 17 #[.int .i64 x, .int .i64 (n : Int)] w fun e w' => e = .returned (.int .i64 (pickN x n : Int)) ∧ Drawn0 w w' := by
  have hd : decide ((n : Int) < 1) = false := decide_eq_false (by omega)
  have hz : ((n : Int) == 0) = false := by rw [beq_eq_false_iff_ne]; omega
  have hlt := pickN_lt x h0
  have hr : x.tmod (n : Int) < (n : Int) ∧ -(n : Int) ≤ x.tmod (n : Int) := by
    rcases tmod_pick x h0 with ⟨h1, h2⟩ | ⟨h1, h2⟩ <;> omega
  have hw1 : IntKind.i64.wrap (x.tmod (n : Int)) = x.tmod (n : Int) := IntWalk.i64_in _ (by omega)
  rcases tmod_pick x h0 with ⟨h1, h2⟩ | ⟨h1, h2⟩
  · have hd1 : decide (x.tmod (n : Int) < 0) = true := decide_eq_true h1
    have hw2 : IntKind.i64.wrap (x.tmod (n : Int) + n) = (pickN x n : Int) := (IntWalk.i64_in _ (by omega)).trans h2
    go_enter Try.func17, Try.ntmps17
    go_wp2_with fail
    go_ret
    exact ⟨rfl, ⟨0, rfl⟩⟩
  · have hd1 : decide (x.tmod (n : Int) < 0) = false := decide_eq_false h1
    go_enter Try.func17, Try.ntmps17
    go_wp2_with fail
    go_ret
    exact ⟨rfl, ⟨0, rfl⟩⟩

def shareN (x : Int) : Nat := pickN x 10001
def riskN (x : Int) : Nat := 1 + pickN x 2000
theorem shareN_le (x : Int) : shareN x ≤ 10000 := by have := pickN_lt x (n := 10001) (by decide); unfold shareN; omega
theorem riskN_in (x : Int) : 1 ≤ riskN x ∧ riskN x ≤ 2000 := by have := pickN_lt x (n := 2000) (by decide); unfold riskN; omega

theorem share_calls (x : Int) (w : World) (hx : (Lit.int .i64 x).wf = true) : Calls Try.prog 18 #[.int .i64 x] w fun e w' => e = .returned (.int .i64 (shareN x : Int)) ∧ Drawn0 w w' := by
  go_enter Try.func18, Try.ntmps18
  go_wp2_with fail
  refine (Pick_calls x 10001 _ hx (by decide) (by decide)).mono ?_
  rintro e w1 ⟨rfl, ⟨m, rfl⟩⟩
  go_wp2_with fail
  go_ret
  exact ⟨rfl, ⟨m, rfl⟩⟩

theorem risk_calls (x : Int) (w : World) (hx : (Lit.int .i64 x).wf = true) : Calls Try.prog 19 #[.int .i64 x] w fun e w' => e = .returned (.int .i64 (riskN x : Int)) ∧ Drawn0 w w' := by
  have hlt := pickN_lt x (n := 2000) (by decide)
  have he : 1 + (pickN x 2000 : Int) = (riskN x : Int) := by unfold riskN; omega
  go_enter Try.func19, Try.ntmps19
  go_wp2_with fail
  refine (Pick_calls x 2000 _ hx (by decide) (by decide)).mono ?_
  rintro e w1 ⟨rfl, ⟨m, rfl⟩⟩
  go_wp2_with fail
  go_ret
  exact ⟨congrArg Ending.returned (congrArg (Value.int .i64) he), ⟨m, rfl⟩⟩

theorem trials_calls (x y : Int) (most : Nat) (w : World) (hx : (Lit.int .i64 x).wf = true) (hy : (Lit.int .i64 y).wf = true) (hm : most ≤ 1000) : Calls Try.prog 25 #[.int .i64 x, .int .i64 y, .int .i64 (most : Int)] w fun e w' => e = .returned (.tuple #[.int .i64 (pickN x (most + 1) : Int), .int .i64 (pickN y (pickN x (most + 1) + 1) : Int)]) ∧ Drawn0 w w' := by
  have hlt := pickN_lt x (n := most + 1) (by omega)
  generalize hn : pickN x (most + 1) = n at *
  go_enter Try.func25, Try.ntmps25
  go_wp2_with fail
  refine (Pick_calls x (most + 1) _ hx (by omega) (by omega)).mono ?_
  rw [hn]
  rintro e w1 ⟨rfl, ⟨m, rfl⟩⟩
  go_wp2_with fail
  refine (Pick_calls y (n + 1) _ hy (by omega) (by omega)).mono ?_
  rintro e w1 ⟨rfl, ⟨q, rfl⟩⟩
  go_wp2_with fail
  go_ret2
  exact ⟨rfl, ⟨m + q, rfl⟩⟩

theorem all_calls (n : Nat) (w : World) (hn : n ≤ 500) : Calls Try.prog 32 #[.int .i64 (n : Int)] w (GivesN w (10000 ^ n)) := by
  have HP := Aside0.mk (half_pow n 0 hn)
  go_enter Try.func32, Try.ntmps32
  go_wp2_with fail
  refine (Of_calls 10000 _ (by decide) (by decide)).mono ?_
  rintro e w1 ⟨v1, rfl, h1, b1⟩
  have H1 := Aside0.mk h1
  clear h1
  go_wp2_with fail
  refine (Pow_calls n _ H1.out (by decide) (by decide) hn HP.out).mono ?_
  rintro e w2 ⟨v2, rfl, h2, b2⟩
  go_wp2_with fail
  go_ret
  exact ⟨v2, rfl, h2, below_then b1 b2⟩

def excN (c n r : Nat) : Bool := decide (10000 ^ n * r < c * 10000)
theorem cmp_pos (x y : Nat) : decide (0 < cmpI x y) = decide (y < x) := by
  unfold cmpI
  split <;> (try split) <;> simp <;> omega

theorem exceeds_calls {v : Value} (c n r : Nat) (w : World) (hv : IsN w v c) (hc : Half c) (hn : n ≤ 500) (hr : r ≤ 2000) : Calls Try.prog 24 #[v, .int .i64 (n : Int), .int .i64 (r : Int)] w fun e w' => e = .returned (.bool (excN c n r)) ∧ Below w.heap.size w w' := by
  have HF := Aside0.mk (pow_mul_fits n r hn (by omega))
  have HC := Aside0.mk (show Fits (c * 10000) from Half.mul hc (half_small (by decide)))
  have HX := Aside0.mk (show Fits c from hc.fits)
  have HP := Aside0.mk (half_pow n 0 hn)
  clear hc
  go_enter Try.func24, Try.ntmps24
  go_wp2_with fail
  refine (Of_calls 10000 _ (by decide) (by decide)).mono ?_
  rintro e w1 ⟨v1, rfl, h1, b1⟩
  have k1 := hv.below b1
  go_wp2_with fail
  refine (Mul_calls _ k1 h1 HX.out (by decide) HC.out).mono ?_
  rintro e w2 ⟨v2, rfl, h2, b2⟩
  have hb2 := below_then b1 b2
  clear b1 b2 k1 h1
  have H2 := Aside0.mk h2
  clear h2
  go_wp2_with fail
  refine (all_calls n _ hn).mono ?_
  rintro e w3 ⟨v3, rfl, h3, b3⟩
  have H3 := Aside0.mk h3
  have h2 := H2.out.below b3
  have H2 := Aside0.mk h2
  have hb3 := below_then hb2 b3
  clear h3 h2 b3 hb2
  go_wp2_with fail
  refine (Of_calls (r : Int) _ (by omega) (by omega)).mono ?_
  rw [Int.toNat_natCast]
  rintro e w4 ⟨v4, rfl, h4, b4⟩
  have h3 := H3.out.below b4
  have H3 := Aside0.mk h3
  have h2 := H2.out.below b4
  have H2 := Aside0.mk h2
  have hb4 := below_then hb3 b4
  clear h3 h2 b4 hb3
  go_wp2_with fail
  refine (Mul_calls _ H3.out h4 (show Fits (10000 ^ n) from HP.out.fits) (by omega) HF.out).mono ?_
  rintro e w5 ⟨v5, rfl, h5, b5⟩
  have H5 := Aside0.mk h5
  have h2 := H2.out.below b5
  have H2 := Aside0.mk h2
  have hb5 := below_then hb4 b5
  clear h5 h2 b5 hb4
  go_wp2_with fail
  refine (Cmp_calls _ H2.out H5.out).mono ?_
  rintro e w6 ⟨rfl, ⟨m, rfl⟩⟩
  have hp := cmp_pos (c * 10000) (10000 ^ n * r)
  have hQ : (Ending.returned (.bool (decide (0 < cmpI (c * 10000) (10000 ^ n * r)))) : Ending) = Ending.returned (.bool (excN c n r)) := by rw [hp]; rfl
  have HQ := Aside0.mk hQ
  clear hQ hp
  go_wp2_with fail
  go_ret
  exact ⟨HQ.out, pw_below_drewN hb5 m⟩

/-- The less, the greater: not taken apart by the walk. -/
def minZ (x y : Int) : Int := if y < x then y else x
def maxZ (x y : Int) : Int := if x < y then y else x
theorem min2_z (k k' : IntKind) (x y : Int) : Builtin.min2 (.int k x) (.int k' y) = pure (.int k (minZ x y)) := by simp only [Builtin.min2, minZ]
theorem max2_z (k k' : IntKind) (x y : Int) : Builtin.max2 (.int k x) (.int k' y) = pure (.int k (maxZ x y)) := by simp only [Builtin.max2, maxZ, gt_iff_lt]
theorem min_nat (a b : Nat) : minZ (a : Int) (b : Int) = ((min a b : Nat) : Int) := by unfold minZ; split <;> omega
theorem max_nat (a b : Nat) : maxZ (a : Int) (b : Int) = ((max a b : Nat) : Int) := by unfold maxZ; split <;> omega
theorem cmp_le {x y : Nat} (h : x ≤ y) : decide (0 < cmpI x y) = false := by rw [cmp_pos]; exact decide_eq_false (by omega)
theorem cmp_le0 {x y : Nat} (h : x ≤ y) : decide (cmpI x y ≤ 0) = true := by
  have h1 := of_decide_eq_false (cmp_le h)
  exact decide_eq_true (by omega)

end Go.Proofs.Ytenmlkcjgefmpaa
