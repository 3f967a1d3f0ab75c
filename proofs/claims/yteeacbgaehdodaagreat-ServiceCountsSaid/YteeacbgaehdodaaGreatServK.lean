/- Helpers of the laws: numbers in their ranges, what exceeds a risk, the less and the greater; time. -/
import Derived.Test.YteeacbgaehdodaaGreatServT
namespace Go.Proofs.YteeacbgaehdodaaGreat
set_option linter.unusedVariables false
open Go.RowKit Go.Proofs.YteeacbgaehdodaaGreatW.PrintWords Go.Proofs.YteeacbgaehdodaaGreatW.PrintLast Go.Proofs.YteeacbgaehdodaaGreatW.PrintMore Go.Proofs.YteeacbgaehdodaaGreat.Fn
attribute [local go_sem] max2_int min2_int max_two min_two max_three min_three max_four min_four

theorem drawn0_below {w w1 w2 : World} (h1 : Below w.heap.size w w1) (h2 : Drawn0 w1 w2) : Below w.heap.size w w2 := by
  obtain ⟨m, rfl⟩ := h2
  exact pw_below_drewN h1 m
theorem below_then {w w1 w2 : World} (h1 : Below w.heap.size w w1) (h2 : Below w1.heap.size w1 w2) : Below w.heap.size w w2 := below_step h1 h2

def pickN (x : Int) (n : Nat) : Nat := (x % (n : Int)).toNat
theorem pickN_lt (x : Int) {n : Nat} (h : 0 < n) : pickN x n < n := by
  have h1 := Int.emod_nonneg x (show (n : Int) ≠ 0 by omega)
  have h2 := Int.emod_lt_of_pos x (show 0 < (n : Int) by omega)
  unfold pickN
  omega
theorem pickN_eq (x : Int) {n : Nat} (h : 0 < n) : (pickN x n : Int) = x % (n : Int) := by
  have h1 := Int.emod_nonneg x (show (n : Int) ≠ 0 by omega)
  unfold pickN
  omega

theorem tmod_pick (x : Int) {n : Nat} (h : 0 < n) : (x.tmod (n : Int) < 0 ∧ x.tmod (n : Int) + n = pickN x n) ∨ (¬ x.tmod (n : Int) < 0 ∧ x.tmod (n : Int) = pickN x n) := by
  rw [pickN_eq x h, Int.tmod_eq_emod]
  have h1 := Int.emod_nonneg x (show (n : Int) ≠ 0 by omega)
  have h2 := Int.emod_lt_of_pos x (show 0 < (n : Int) by omega)
  split
  · exact .inr ⟨by omega, by omega⟩
  · rw [Int.natAbs_natCast]
    exact .inl ⟨by omega, by omega⟩

set_option maxRecDepth 100000 in
theorem Pick_calls (x : Int) (n : Nat) (w : World) (_hx : (Lit.int .i64 x).wf = true) (h0 : 0 < n) (hn : n ≤ 1099511627776) : Calls Tryz.prog 15 #[.int .i64 x, .int .i64 (n : Int)] w fun e w' => e = .returned (.int .i64 (pickN x n : Int)) ∧ Drawn0 w w' := by
  have hd : decide ((n : Int) < 1) = false := decide_eq_false (by omega)
  have hz : ((n : Int) == 0) = false := by rw [beq_eq_false_iff_ne]; omega
  have hlt := pickN_lt x h0
  have hr : x.tmod (n : Int) < (n : Int) ∧ -(n : Int) ≤ x.tmod (n : Int) := by
    rcases tmod_pick x h0 with ⟨h1, h2⟩ | ⟨h1, h2⟩ <;> omega
  have hw1 : IntKind.i64.wrap (x.tmod (n : Int)) = x.tmod (n : Int) := IntWalk.i64_in _ (by omega)
  rcases tmod_pick x h0 with ⟨h1, h2⟩ | ⟨h1, h2⟩
  · have hd1 : decide (x.tmod (n : Int) < 0) = true := decide_eq_true h1
    have hw2 : IntKind.i64.wrap (x.tmod (n : Int) + n) = (pickN x n : Int) := (IntWalk.i64_in _ (by omega)).trans h2
    go_enter Tryz.func15, Tryz.ntmps15
    go_wp2_with fail
    go_ret
    exact ⟨rfl, ⟨0, rfl⟩⟩
  · have hd1 : decide (x.tmod (n : Int) < 0) = false := decide_eq_false h1
    go_enter Tryz.func15, Tryz.ntmps15
    go_wp2_with fail
    go_ret
    exact ⟨rfl, ⟨0, rfl⟩⟩

def excN (c n r : Nat) : Bool := decide (10000 ^ n * r < c * 10000)
theorem cmp_pos (x y : Nat) : decide (0 < cmpI x y) = decide (y < x) := by
  unfold cmpI
  split <;> (try split) <;> simp <;> omega

/-- The less, the greater: not taken apart by the walk. -/
def minZ (x y : Int) : Int := if y < x then y else x
def maxZ (x y : Int) : Int := if x < y then y else x
theorem min2_z (k k' : IntKind) (x y : Int) : Builtin.min2 (.int k x) (.int k' y) = pure (.int k (minZ x y)) := by simp only [Builtin.min2, minZ]
theorem max2_z (k k' : IntKind) (x y : Int) : Builtin.max2 (.int k x) (.int k' y) = pure (.int k (maxZ x y)) := by simp only [Builtin.max2, maxZ, gt_iff_lt]
theorem min_nat (a b : Nat) : minZ (a : Int) (b : Int) = ((min a b : Nat) : Int) := by unfold minZ; split <;> omega
theorem max_nat (a b : Nat) : maxZ (a : Int) (b : Int) = ((max a b : Nat) : Int) := by unfold maxZ; split <;> omega
theorem cmp_le {x y : Nat} (h : x ≤ y) : decide (0 < cmpI x y) = false := by rw [cmp_pos]; exact decide_eq_false (by omega)
theorem cmp_le0 {x y : Nat} (h : x ≤ y) : decide (cmpI x y ≤ 0) = true := by
  have h1 := of_decide_eq_false (cmp_le h)
  exact decide_eq_true (by omega)

theorem time_calls (x : Int) (w : World) (hx : (Lit.int .i64 x).wf = true) : Calls Tryz.prog 31 #[.int .i64 x] w fun e w' => e = .returned (.int .i64 (pickN x 40000 : Int)) ∧ Drawn0 w w' := by
  have HP := Aside0.mk (fun W => Pick_calls x 40000 W hx (by decide) (by decide))
  go_enter Tryz.func31, Tryz.ntmps31
  go_wp2_with fail
  refine (HP.out _).mono ?_
  rintro e w1 ⟨rfl, d_⟩
  go_wp2_with fail
  go_ret
  exact ⟨rfl, d_⟩

end Go.Proofs.YteeacbgaehdodaaGreat
