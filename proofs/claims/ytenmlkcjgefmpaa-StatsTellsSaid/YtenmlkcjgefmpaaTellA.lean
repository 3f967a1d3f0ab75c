/- Contracts of the program's and of the reference's functions, for all numbers at once. -/
import Derived.Test.YtenmlkcjgefmpaaKit
import Derived.Test.YtenmlkcjgefmpaaRefC
namespace Go.Proofs.Ytenmlkcjgefmpaa
set_option linter.unusedVariables false
open Go.RowKit Go.Proofs.YtenmlkcjgefmpaaW.PrintWords Go.Proofs.YtenmlkcjgefmpaaW.PrintLast Go.Proofs.YtenmlkcjgefmpaaW.PrintMore Go.Proofs.Ytenmlkcjgefmpaa.Fn

def chooseV (n k : Int) : Nat := if wrongE n k 0 0 0 = 0 then binom n.toNat k.toNat else 0
def chanceV (n k s : Int) : Nat := if wrongE n k s 0 10000 = 0 then ch s.toNat (10000 - s.toNat) n.toNat k.toNat else 0
def upperV (n k s : Int) : Nat := if wrongE n k s 0 10000 = 0 then up s.toNat (10000 - s.toNat) n.toNat k.toNat else 0
def lowerV (n k s : Int) : Nat := if wrongE n k s 0 10000 = 0 then low s.toNat (10000 - s.toNat) n.toNat k.toNat else 0
def leastV (n k r : Int) : Int := if wrongE n k r 1 2000 = 0 then (leastN n.toNat k.toNat r.toNat : Int) else 0
def greatV (n k r : Int) : Int := if wrongE n k r 1 2000 = 0 then 10000 - (leastN n.toNat (n.toNat - k.toNat) r.toNat : Int) else 0

theorem wrongE_nat {n k x lo hi : Int} (h : wrongE n k x lo hi = 0) (hlo : 0 ≤ lo) : ∃ n' k' x' : Nat, n = n' ∧ k = k' ∧ x = x' ∧ n' ≤ 500 ∧ k' ≤ n' ∧ lo ≤ x' ∧ (x' : Int) ≤ hi := by
  obtain ⟨h1, h2, h3, h4, h5⟩ := wrongE_ok h
  exact ⟨n.toNat, k.toNat, x.toNat, by omega, by omega, by omega, by omega, by omega, by omega, by omega⟩

theorem Choose_all (n k : Int) (w : World) : Calls Try.prog 33 #[.int .i64 n, .int .i64 k] w (GivesNE w (chooseV n k) (wrongE n k 0 0 0)) := by
  unfold chooseV
  by_cases h : wrongE n k 0 0 0 = 0
  · rw [if_pos h, h]
    obtain ⟨n, k, x, rfl, rfl, hx, h1, h2, h3, h4⟩ := wrongE_nat h (by decide)
    rw [Int.toNat_natCast, Int.toNat_natCast]
    exact Choose_ok n k w h1 h2
  · rw [if_neg h]; exact Choose_err n k w h

theorem Chance_all (n k s : Int) (w : World) : Calls Try.prog 20 #[.int .i64 n, .int .i64 k, .int .i64 s] w (GivesNE w (chanceV n k s) (wrongE n k s 0 10000)) := by
  unfold chanceV
  by_cases h : wrongE n k s 0 10000 = 0
  · rw [if_pos h, h]
    obtain ⟨n, k, s, rfl, rfl, rfl, h1, h2, h3, h4⟩ := wrongE_nat h (by decide)
    rw [Int.toNat_natCast, Int.toNat_natCast, Int.toNat_natCast]
    exact Chance_ok n k s w h1 h2 (by omega)
  · rw [if_neg h]; exact Chance_err n k s w h

theorem Upper_all (n k s : Int) (w : World) : Calls Try.prog 26 #[.int .i64 n, .int .i64 k, .int .i64 s] w (GivesNE w (upperV n k s) (wrongE n k s 0 10000)) := by
  unfold upperV
  by_cases h : wrongE n k s 0 10000 = 0
  · rw [if_pos h, h]
    obtain ⟨n, k, s, rfl, rfl, rfl, h1, h2, h3, h4⟩ := wrongE_nat h (by decide)
    rw [Int.toNat_natCast, Int.toNat_natCast, Int.toNat_natCast]
    exact Upper_ok n k s w h1 h2 (by omega)
  · rw [if_neg h]; exact Upper_err n k s w h

theorem Lower_all (n k s : Int) (w : World) : Calls Try.prog 30 #[.int .i64 n, .int .i64 k, .int .i64 s] w (GivesNE w (lowerV n k s) (wrongE n k s 0 10000)) := by
  unfold lowerV
  by_cases h : wrongE n k s 0 10000 = 0
  · rw [if_pos h, h]
    obtain ⟨n, k, s, rfl, rfl, rfl, h1, h2, h3, h4⟩ := wrongE_nat h (by decide)
    rw [Int.toNat_natCast, Int.toNat_natCast, Int.toNat_natCast]
    exact Lower_ok n k s w h1 h2 (by omega)
  · rw [if_neg h]; exact Lower_err n k s w h

theorem Least_all (n k r : Int) (w : World) : Calls Try.prog 21 #[.int .i64 n, .int .i64 k, .int .i64 r] w fun e w' => e = .returned (.tuple #[.int .i64 (leastV n k r), .int .i64 (wrongE n k r 1 2000)]) ∧ Below w.heap.size w w' := by
  unfold leastV
  by_cases h : wrongE n k r 1 2000 = 0
  · rw [if_pos h, h]
    obtain ⟨n, k, r, rfl, rfl, rfl, h1, h2, h3, h4⟩ := wrongE_nat h (by decide)
    rw [Int.toNat_natCast, Int.toNat_natCast, Int.toNat_natCast]
    exact Least_ok n k r w h1 h2 (by omega) (by omega)
  · rw [if_neg h]; exact Least_err n k r w h

theorem Greatest_all (n k r : Int) (w : World) (hn0 : -9223372036854775808 ≤ n) (hn : n ≤ 9223372036854775807) (hk0 : -9223372036854775808 ≤ k) (hk : k ≤ 9223372036854775807) : Calls Try.prog 22 #[.int .i64 n, .int .i64 k, .int .i64 r] w fun e w' => e = .returned (.tuple #[.int .i64 (greatV n k r), .int .i64 (wrongE n k r 1 2000)]) ∧ Below w.heap.size w w' := by
  unfold greatV
  by_cases h : wrongE n k r 1 2000 = 0
  · rw [if_pos h, h]
    obtain ⟨n, k, r, rfl, rfl, rfl, h1, h2, h3, h4⟩ := wrongE_nat h (by decide)
    rw [Int.toNat_natCast, Int.toNat_natCast, Int.toNat_natCast]
    exact Greatest_ok n k r w h1 h2 (by omega) (by omega)
  · rw [if_neg h]; exact Greatest_err n k r w hn0 hn hk0 hk h

/-! ### the reference -/
theorem gives_ref {w w' : World} {v0 : Value} {r : List Int} {x : Nat} {e : Ending} {err : Int} (he : e = .returned (.tuple #[v0, .int .i64 err])) (hr : Kd.R (Kd.int .u32) 55 w' w.heap.size (fun _ => True) v0 r) (hb : Below w.heap.size w w') (hn : Num (4294967296 : Int) r x) (hx : Half x) : GivesNE w x err e w' :=
  ⟨v0, he, IsN.of_R hr hn (by have := half_len hn hx; omega), hb⟩

theorem half_zero : Half 0 := half_small (by decide)
theorem ch_half (n k s : Nat) (hn : n ≤ 500) (hs : s ≤ 10000) : Half (ch s (10000 - s) n k) := by
  have h := ch_le s (10000 - s) n k
  rw [show s + (10000 - s) = 10000 by omega] at h
  exact (half_pow n 0 hn).le h
theorem low_half (n k s : Nat) (hn : n ≤ 500) (hs : s ≤ 10000) : Half (low s (10000 - s) n k) := by
  have h := up_le_all (10000 - s) s n (n - k)
  rw [show 10000 - s + s = 10000 by omega] at h
  exact (half_pow n 0 hn).le h

theorem RChoose_all (n k : Int) (w : World) : Calls Try.prog 56 #[.int .i64 n, .int .i64 k] w (GivesNE w (chooseV n k) (wrongE n k 0 0 0)) := by
  unfold chooseV
  by_cases h : wrongE n k 0 0 0 = 0
  · rw [if_pos h, h]
    obtain ⟨n, k, x, rfl, rfl, hx, h1, h2, h3, h4⟩ := wrongE_nat h (by decide)
    rw [Int.toNat_natCast, Int.toNat_natCast]
    obtain ⟨r, hr, hv⟩ := ref_Choose n k h1 h2
    obtain ⟨f, hf⟩ := hv.ex
    refine (letterbagref04_Choose.calls f n k r 0 w hf).mono ?_
    rintro e w' ⟨v, he, hR, hb⟩
    exact gives_ref he hR hb hr (binom_half n k h1)
  · rw [if_neg h]
    obtain ⟨f, hf⟩ := (ref_Choose_err n k h).ex
    refine (letterbagref04_Choose.calls f n k [] _ w hf).mono ?_
    rintro e w' ⟨v, he, hR, hb⟩
    exact gives_ref he hR hb (Num.zero _) half_zero

theorem RChance_all (n k s : Int) (w : World) : Calls Try.prog 57 #[.int .i64 n, .int .i64 k, .int .i64 s] w (GivesNE w (chanceV n k s) (wrongE n k s 0 10000)) := by
  unfold chanceV
  by_cases h : wrongE n k s 0 10000 = 0
  · rw [if_pos h, h]
    obtain ⟨n, k, s, rfl, rfl, rfl, h1, h2, h3, h4⟩ := wrongE_nat h (by decide)
    rw [Int.toNat_natCast, Int.toNat_natCast, Int.toNat_natCast]
    obtain ⟨r, hr, hv⟩ := ref_Chance n k s h1 h2 (by omega)
    obtain ⟨f, hf⟩ := hv.ex
    refine (letterbagref04_Chance.calls f n k s r 0 w hf).mono ?_
    rintro e w' ⟨v, he, hR, hb⟩
    exact gives_ref he hR hb hr (ch_half n k s h1 (by omega))
  · rw [if_neg h]
    obtain ⟨f, hf⟩ := (ref_Chance_err n k s h).ex
    refine (letterbagref04_Chance.calls f n k s [] _ w hf).mono ?_
    rintro e w' ⟨v, he, hR, hb⟩
    exact gives_ref he hR hb (Num.zero _) half_zero

theorem RUpper_all (n k s : Int) (w : World) : Calls Try.prog 58 #[.int .i64 n, .int .i64 k, .int .i64 s] w (GivesNE w (upperV n k s) (wrongE n k s 0 10000)) := by
  unfold upperV
  by_cases h : wrongE n k s 0 10000 = 0
  · rw [if_pos h, h]
    obtain ⟨n, k, s, rfl, rfl, rfl, h1, h2, h3, h4⟩ := wrongE_nat h (by decide)
    rw [Int.toNat_natCast, Int.toNat_natCast, Int.toNat_natCast]
    obtain ⟨r, hr, hv⟩ := ref_Upper n k s h1 h2 (by omega)
    obtain ⟨f, hf⟩ := hv.ex
    refine (letterbagref04_Upper.calls f n k s r 0 w hf).mono ?_
    rintro e w' ⟨v, he, hR, hb⟩
    exact gives_ref he hR hb hr (up_half n k s h1 (by omega))
  · rw [if_neg h]
    obtain ⟨f, hf⟩ := (ref_Upper_err n k s h).ex
    refine (letterbagref04_Upper.calls f n k s [] _ w hf).mono ?_
    rintro e w' ⟨v, he, hR, hb⟩
    exact gives_ref he hR hb (Num.zero _) half_zero

theorem RLower_all (n k s : Int) (w : World) : Calls Try.prog 59 #[.int .i64 n, .int .i64 k, .int .i64 s] w (GivesNE w (lowerV n k s) (wrongE n k s 0 10000)) := by
  unfold lowerV
  by_cases h : wrongE n k s 0 10000 = 0
  · rw [if_pos h, h]
    obtain ⟨n, k, s, rfl, rfl, rfl, h1, h2, h3, h4⟩ := wrongE_nat h (by decide)
    rw [Int.toNat_natCast, Int.toNat_natCast, Int.toNat_natCast]
    obtain ⟨r, hr, hv⟩ := ref_Lower n k s h1 h2 (by omega)
    obtain ⟨f, hf⟩ := hv.ex
    refine (letterbagref04_Lower.calls f n k s r 0 w hf).mono ?_
    rintro e w' ⟨v, he, hR, hb⟩
    exact gives_ref he hR hb hr (low_half n k s h1 (by omega))
  · rw [if_neg h]
    obtain ⟨f, hf⟩ := (ref_Lower_err n k s h).ex
    refine (letterbagref04_Lower.calls f n k s [] _ w hf).mono ?_
    rintro e w' ⟨v, he, hR, hb⟩
    exact gives_ref he hR hb (Num.zero _) half_zero

theorem RLeast_all (n k r : Int) (w : World) : Calls Try.prog 41 #[.int .i64 n, .int .i64 k, .int .i64 r] w fun e w' => e = .returned (.tuple #[.int .i64 (leastV n k r), .int .i64 (wrongE n k r 1 2000)]) ∧ Below w.heap.size w w' := by
  unfold leastV
  by_cases h : wrongE n k r 1 2000 = 0
  · rw [if_pos h, h]
    obtain ⟨n, k, r, rfl, rfl, rfl, h1, h2, h3, h4⟩ := wrongE_nat h (by decide)
    rw [Int.toNat_natCast, Int.toNat_natCast, Int.toNat_natCast]
    obtain ⟨f, hf⟩ := (ref_Least n k r h1 h2 (by omega) (by omega)).ex
    exact letterbagref04_Least.calls f n k r _ _ w hf
  · rw [if_neg h]
    obtain ⟨f, hf⟩ := (ref_Least_err n k r h).ex
    exact letterbagref04_Least.calls f n k r _ _ w hf

theorem RGreatest_all (n k r : Int) (w : World) : Calls Try.prog 42 #[.int .i64 n, .int .i64 k, .int .i64 r] w fun e w' => e = .returned (.tuple #[.int .i64 (greatV n k r), .int .i64 (wrongE n k r 1 2000)]) ∧ Below w.heap.size w w' := by
  unfold greatV
  by_cases h : wrongE n k r 1 2000 = 0
  · rw [if_pos h, h]
    obtain ⟨n, k, r, rfl, rfl, rfl, h1, h2, h3, h4⟩ := wrongE_nat h (by decide)
    rw [Int.toNat_natCast, Int.toNat_natCast, Int.toNat_natCast]
    obtain ⟨f, hf⟩ := (ref_Greatest n k r h1 h2 (by omega) (by omega)).ex
    exact letterbagref04_Greatest.calls f n k r _ _ w hf
  · rw [if_neg h]
    obtain ⟨f, hf⟩ := (ref_Greatest_err n k r h).ex
    exact letterbagref04_Greatest.calls f n k r _ _ w hf

end Go.Proofs.Ytenmlkcjgefmpaa
