/- Contracts of the program's and of the reference's functions, for all numbers at once. StatsTells and StatsBounds: the walks. -/
import Derived.Test.YtenmlkcjgefmpaaKit
import Derived.Test.YtenmlkcjgefmpaaRefC
import Derived.OpenShut
namespace Go.Proofs.Ytenmlkcjgefmpaa
set_option linter.unusedVariables false
open Go.RowKit Go.Proofs.YtenmlkcjgefmpaaW.PrintWords Go.Proofs.YtenmlkcjgefmpaaW.PrintLast Go.Proofs.YtenmlkcjgefmpaaW.PrintMore Go.Proofs.Ytenmlkcjgefmpaa.Fn

def chooseV (n k : Int) : Nat := if wrongE n k 0 0 0 = 0 then binom n.toNat k.toNat else 0
def chanceV (n k s : Int) : Nat := if wrongE n k s 0 10000 = 0 then ch s.toNat (10000 - s.toNat) n.toNat k.toNat else 0
def upperV (n k s : Int) : Nat := if wrongE n k s 0 10000 = 0 then up s.toNat (10000 - s.toNat) n.toNat k.toNat else 0
def lowerV (n k s : Int) : Nat := if wrongE n k s 0 10000 = 0 then low s.toNat (10000 - s.toNat) n.toNat k.toNat else 0
def leastV (n k r : Int) : Int := if wrongE n k r 1 2000 = 0 then (leastN n.toNat k.toNat r.toNat : Int) else 0
def greatV (n k r : Int) : Int := if wrongE n k r 1 2000 = 0 then 10000 - (leastN n.toNat (n.toNat - k.toNat) r.toNat : Int) else 0

theorem wrongE_nat {n k x lo hi : Int} (h : wrongE n k x lo hi = 0) (hlo : 0 ≤ lo) : ∃ n' k' x' : Nat, n = n' ∧ k = k' ∧ x = x' ∧ n' ≤ 500 ∧ k' ≤ n' ∧ lo ≤ x' ∧ (x' : Int) ≤ hi := by
  obtain ⟨h1, h2, h3, h4, h5⟩ := wrongE_ok h
  exact ⟨n.toNat, k.toNat, x.toNat, by omega, by omega, by omega, by omega, by omega, by omega, by omega⟩

theorem Choose_all (n k : Int) (w : World) : Calls Try.prog 33 #[.int .i64 n, .int .i64 k] w (GivesNE w (chooseV n k) (wrongE n k 0 0 0)) := by
  unfold chooseV
  by_cases h : wrongE n k 0 0 0 = 0
  · rw [if_pos h, h]
    obtain ⟨n, k, x, rfl, rfl, hx, h1, h2, h3, h4⟩ := wrongE_nat h (by decide)
    rw [Int.toNat_natCast, Int.toNat_natCast]
    exact Choose_ok n k w h1 h2
  · rw [if_neg h]; exact Choose_err n k w h

theorem Chance_all (n k s : Int) (w : World) : Calls Try.prog 20 #[.int .i64 n, .int .i64 k, .int .i64 s] w (GivesNE w (chanceV n k s) (wrongE n k s 0 10000)) := by
  unfold chanceV
  by_cases h : wrongE n k s 0 10000 = 0
  · rw [if_pos h, h]
    obtain ⟨n, k, s, rfl, rfl, rfl, h1, h2, h3, h4⟩ := wrongE_nat h (by decide)
    rw [Int.toNat_natCast, Int.toNat_natCast, Int.toNat_natCast]
    exact Chance_ok n k s w h1 h2 (by omega)
  · rw [if_neg h]; exact Chance_err n k s w h

theorem Upper_all (n k s : Int) (w : World) : Calls Try.prog 26 #[.int .i64 n, .int .i64 k, .int .i64 s] w (GivesNE w (upperV n k s) (wrongE n k s 0 10000)) := by
  unfold upperV
  by_cases h : wrongE n k s 0 10000 = 0
  · rw [if_pos h, h]
    obtain ⟨n, k, s, rfl, rfl, rfl, h1, h2, h3, h4⟩ := wrongE_nat h (by decide)
    rw [Int.toNat_natCast, Int.toNat_natCast, Int.toNat_natCast]
    exact Upper_ok n k s w h1 h2 (by omega)
  · rw [if_neg h]; exact Upper_err n k s w h

theorem Lower_all (n k s : Int) (w : World) : Calls Try.prog 30 #[.int .i64 n, .int .i64 k, .int .i64 s] w (GivesNE w (lowerV n k s) (wrongE n k s 0 10000)) := by
  unfold lowerV
  by_cases h : wrongE n k s 0 10000 = 0
  · rw [if_pos h, h]
    obtain ⟨n, k, s, rfl, rfl, rfl, h1, h2, h3, h4⟩ := wrongE_nat h (by decide)
    rw [Int.toNat_natCast, Int.toNat_natCast, Int.toNat_natCast]
    exact Lower_ok n k s w h1 h2 (by omega)
  · rw [if_neg h]; exact Lower_err n k s w h

theorem Least_all (n k r : Int) (w : World) : Calls Try.prog 21 #[.int .i64 n, .int .i64 k, .int .i64 r] w fun e w' => e = .returned (.tuple #[.int .i64 (leastV n k r), .int .i64 (wrongE n k r 1 2000)]) ∧ Below w.heap.size w w' := by
  unfold leastV
  by_cases h : wrongE n k r 1 2000 = 0
  · rw [if_pos h, h]
    obtain ⟨n, k, r, rfl, rfl, rfl, h1, h2, h3, h4⟩ := wrongE_nat h (by decide)
    rw [Int.toNat_natCast, Int.toNat_natCast, Int.toNat_natCast]
    exact Least_ok n k r w h1 h2 (by omega) (by omega)
  · rw [if_neg h]; exact Least_err n k r w h

theorem Greatest_all (n k r : Int) (w : World) (hn0 : -9223372036854775808 ≤ n) (hn : n ≤ 9223372036854775807) (hk0 : -9223372036854775808 ≤ k) (hk : k ≤ 9223372036854775807) : Calls Try.prog 22 #[.int .i64 n, .int .i64 k, .int .i64 r] w fun e w' => e = .returned (.tuple #[.int .i64 (greatV n k r), .int .i64 (wrongE n k r 1 2000)]) ∧ Below w.heap.size w w' := by
  unfold greatV
  by_cases h : wrongE n k r 1 2000 = 0
  · rw [if_pos h, h]
    obtain ⟨n, k, r, rfl, rfl, rfl, h1, h2, h3, h4⟩ := wrongE_nat h (by decide)
    rw [Int.toNat_natCast, Int.toNat_natCast, Int.toNat_natCast]
    exact Greatest_ok n k r w h1 h2 (by omega) (by omega)
  · rw [if_neg h]; exact Greatest_err n k r w hn0 hn hk0 hk h

/-! ### the reference -/
theorem gives_ref {w w' : World} {v0 : Value} {r : List Int} {x : Nat} {e : Ending} {err : Int} (he : e = .returned (.tuple #[v0, .int .i64 err])) (hr : Kd.R (Kd.int .u32) 55 w' w.heap.size (fun _ => True) v0 r) (hb : Below w.heap.size w w') (hn : Num (4294967296 : Int) r x) (hx : Half x) : GivesNE w x err e w' :=
  ⟨v0, he, IsN.of_R hr hn (by have := half_len hn hx; omega), hb⟩

theorem half_zero : Half 0 := half_small (by decide)
theorem ch_half (n k s : Nat) (hn : n ≤ 500) (hs : s ≤ 10000) : Half (ch s (10000 - s) n k) := by
  have h := ch_le s (10000 - s) n k
  rw [show s + (10000 - s) = 10000 by omega] at h
  exact (half_pow n 0 hn).le h
theorem low_half (n k s : Nat) (hn : n ≤ 500) (hs : s ≤ 10000) : Half (low s (10000 - s) n k) := by
  have h := up_le_all (10000 - s) s n (n - k)
  rw [show 10000 - s + s = 10000 by omega] at h
  exact (half_pow n 0 hn).le h

theorem RChoose_all (n k : Int) (w : World) : Calls Try.prog 56 #[.int .i64 n, .int .i64 k] w (GivesNE w (chooseV n k) (wrongE n k 0 0 0)) := by
  unfold chooseV
  by_cases h : wrongE n k 0 0 0 = 0
  · rw [if_pos h, h]
    obtain ⟨n, k, x, rfl, rfl, hx, h1, h2, h3, h4⟩ := wrongE_nat h (by decide)
    rw [Int.toNat_natCast, Int.toNat_natCast]
    obtain ⟨r, hr, hv⟩ := ref_Choose n k h1 h2
    obtain ⟨f, hf⟩ := hv.ex
    refine (letterbagref04_Choose.calls f n k r 0 w hf).mono ?_
    rintro e w' ⟨v, he, hR, hb⟩
    exact gives_ref he hR hb hr (binom_half n k h1)
  · rw [if_neg h]
    obtain ⟨f, hf⟩ := (ref_Choose_err n k h).ex
    refine (letterbagref04_Choose.calls f n k [] _ w hf).mono ?_
    rintro e w' ⟨v, he, hR, hb⟩
    exact gives_ref he hR hb (Num.zero _) half_zero

theorem RChance_all (n k s : Int) (w : World) : Calls Try.prog 57 #[.int .i64 n, .int .i64 k, .int .i64 s] w (GivesNE w (chanceV n k s) (wrongE n k s 0 10000)) := by
  unfold chanceV
  by_cases h : wrongE n k s 0 10000 = 0
  · rw [if_pos h, h]
    obtain ⟨n, k, s, rfl, rfl, rfl, h1, h2, h3, h4⟩ := wrongE_nat h (by decide)
    rw [Int.toNat_natCast, Int.toNat_natCast, Int.toNat_natCast]
    obtain ⟨r, hr, hv⟩ := ref_Chance n k s h1 h2 (by omega)
    obtain ⟨f, hf⟩ := hv.ex
    refine (letterbagref04_Chance.calls f n k s r 0 w hf).mono ?_
    rintro e w' ⟨v, he, hR, hb⟩
    exact gives_ref he hR hb hr (ch_half n k s h1 (by omega))
  · rw [if_neg h]
    obtain ⟨f, hf⟩ := (ref_Chance_err n k s h).ex
    refine (letterbagref04_Chance.calls f n k s [] _ w hf).mono ?_
    rintro e w' ⟨v, he, hR, hb⟩
    exact gives_ref he hR hb (Num.zero _) half_zero

theorem RUpper_all (n k s : Int) (w : World) : Calls Try.prog 58 #[.int .i64 n, .int .i64 k, .int .i64 s] w (GivesNE w (upperV n k s) (wrongE n k s 0 10000)) := by
  unfold upperV
  by_cases h : wrongE n k s 0 10000 = 0
  · rw [if_pos h, h]
    obtain ⟨n, k, s, rfl, rfl, rfl, h1, h2, h3, h4⟩ := wrongE_nat h (by decide)
    rw [Int.toNat_natCast, Int.toNat_natCast, Int.toNat_natCast]
    obtain ⟨r, hr, hv⟩ := ref_Upper n k s h1 h2 (by omega)
    obtain ⟨f, hf⟩ := hv.ex
    refine (letterbagref04_Upper.calls f n k s r 0 w hf).mono ?_
    rintro e w' ⟨v, he, hR, hb⟩
    exact gives_ref he hR hb hr (up_half n k s h1 (by omega))
  · rw [if_neg h]
    obtain ⟨f, hf⟩ := (ref_Upper_err n k s h).ex
    refine (letterbagref04_Upper.calls f n k s [] _ w hf).mono ?_
    rintro e w' ⟨v, he, hR, hb⟩
    exact gives_ref he hR hb (Num.zero _) half_zero

theorem RLower_all (n k s : Int) (w : World) : Calls Try.prog 59 #[.int .i64 n, .int .i64 k, .int .i64 s] w (GivesNE w (lowerV n k s) (wrongE n k s 0 10000)) := by
  unfold lowerV
  by_cases h : wrongE n k s 0 10000 = 0
  · rw [if_pos h, h]
    obtain ⟨n, k, s, rfl, rfl, rfl, h1, h2, h3, h4⟩ := wrongE_nat h (by decide)
    rw [Int.toNat_natCast, Int.toNat_natCast, Int.toNat_natCast]
    obtain ⟨r, hr, hv⟩ := ref_Lower n k s h1 h2 (by omega)
    obtain ⟨f, hf⟩ := hv.ex
    refine (letterbagref04_Lower.calls f n k s r 0 w hf).mono ?_
    rintro e w' ⟨v, he, hR, hb⟩
    exact gives_ref he hR hb hr (low_half n k s h1 (by omega))
  · rw [if_neg h]
    obtain ⟨f, hf⟩ := (ref_Lower_err n k s h).ex
    refine (letterbagref04_Lower.calls f n k s [] _ w hf).mono ?_
    rintro e w' ⟨v, he, hR, hb⟩
    exact gives_ref he hR hb (Num.zero _) half_zero

theorem RLeast_all (n k r : Int) (w : World) : Calls Try.prog 41 #[.int .i64 n, .int .i64 k, .int .i64 r] w fun e w' => e = .returned (.tuple #[.int .i64 (leastV n k r), .int .i64 (wrongE n k r 1 2000)]) ∧ Below w.heap.size w w' := by
  unfold leastV
  by_cases h : wrongE n k r 1 2000 = 0
  · rw [if_pos h, h]
    obtain ⟨n, k, r, rfl, rfl, rfl, h1, h2, h3, h4⟩ := wrongE_nat h (by decide)
    rw [Int.toNat_natCast, Int.toNat_natCast, Int.toNat_natCast]
    obtain ⟨f, hf⟩ := (ref_Least n k r h1 h2 (by omega) (by omega)).ex
    exact letterbagref04_Least.calls f n k r _ _ w hf
  · rw [if_neg h]
    obtain ⟨f, hf⟩ := (ref_Least_err n k r h).ex
    exact letterbagref04_Least.calls f n k r _ _ w hf

theorem RGreatest_all (n k r : Int) (w : World) : Calls Try.prog 42 #[.int .i64 n, .int .i64 k, .int .i64 r] w fun e w' => e = .returned (.tuple #[.int .i64 (greatV n k r), .int .i64 (wrongE n k r 1 2000)]) ∧ Below w.heap.size w w' := by
  unfold greatV
  by_cases h : wrongE n k r 1 2000 = 0
  · rw [if_pos h, h]
    obtain ⟨n, k, r, rfl, rfl, rfl, h1, h2, h3, h4⟩ := wrongE_nat h (by decide)
    rw [Int.toNat_natCast, Int.toNat_natCast, Int.toNat_natCast]
    obtain ⟨f, hf⟩ := (ref_Greatest n k r h1 h2 (by omega) (by omega)).ex
    exact letterbagref04_Greatest.calls f n k r _ _ w hf
  · rw [if_neg h]
    obtain ⟨f, hf⟩ := (ref_Greatest_err n k r h).ex
    exact letterbagref04_Greatest.calls f n k r _ _ w hf

end Go.Proofs.Ytenmlkcjgefmpaa

namespace Go.Proofs.Ytenmlkcjgefmpaa
open Go Go.RowKit Go.Proofs.YtenmlkcjgefmpaaW.PrintWords Go.Proofs.YtenmlkcjgefmpaaW.PrintLast Go.Proofs.YtenmlkcjgefmpaaW.PrintMore Go.Proofs.Ytenmlkcjgefmpaa.Fn
attribute [local go_sem] max2_int min2_int max_two min_two max_three min_three max_four min_four

set_option linter.unusedVariables false

set_option maxHeartbeats 4000000 in
set_option maxRecDepth 100000 in
theorem bounds_calls (n k r : Int) (hn : (Lit.int .i64 n).wf = true) (hk : (Lit.int .i64 k).wf = true) (w : World) :
    Calls Try.prog 15 #[.int .i64 n, .int .i64 k, .int .i64 r] w fun e w' => e = .returned (.bool true) ∧ Below w.heap.size w w' := by
  have hn' := bounds_i64 hn
  have hk' := bounds_i64 hk
  have HG := Aside0.mk (fun W => Greatest_all n k r W hn'.1 hn'.2 hk'.1 hk'.2)
  clear hn hk hn' hk'
  go_enter Try.func15, Try.ntmps15
  by_cases c1 : n > 40
  · by_cases c2 : n ≤ 500
    · go_wp2_with fail
      go_ret
      exact ⟨rfl, Below.refl _ _⟩
    · go_wp2_with fail
      refine (Least_all n k r _).mono ?_
      rintro e w1 ⟨rfl, b1⟩
      have b1 := b1
      go_wp2_with fail
      refine (RLeast_all n k r _).mono ?_
      rintro e w2 ⟨rfl, b2⟩
      have b2 := below_then b1 b2
      clear b1
      go_wp2_with fail
      refine (HG.out _).mono ?_
      rintro e w3 ⟨rfl, b3⟩
      have b3 := below_then b2 b3
      clear b2
      go_wp2_with fail
      refine (RGreatest_all n k r _).mono ?_
      rintro e w4 ⟨rfl, b4⟩
      have b4 := below_then b3 b4
      clear b3
      have e1 : ((leastV n k r) == (leastV n k r)) = true := beq_self_eq_true _
      have e2 : ((greatV n k r) == (greatV n k r)) = true := beq_self_eq_true _
      have e3 : ((wrongE n k r 1 2000) == (wrongE n k r 1 2000)) = true := beq_self_eq_true _
      go_wp2_with fail
      go_ret
      exact ⟨rfl, b4⟩
  · go_wp2_with fail
    refine (Least_all n k r _).mono ?_
    rintro e w1 ⟨rfl, b1⟩
    have b1 := b1
    go_wp2_with fail
    refine (RLeast_all n k r _).mono ?_
    rintro e w2 ⟨rfl, b2⟩
    have b2 := below_then b1 b2
    clear b1
    go_wp2_with fail
    refine (HG.out _).mono ?_
    rintro e w3 ⟨rfl, b3⟩
    have b3 := below_then b2 b3
    clear b2
    go_wp2_with fail
    refine (RGreatest_all n k r _).mono ?_
    rintro e w4 ⟨rfl, b4⟩
    have b4 := below_then b3 b4
    clear b3
    have e1 : ((leastV n k r) == (leastV n k r)) = true := beq_self_eq_true _
    have e2 : ((greatV n k r) == (greatV n k r)) = true := beq_self_eq_true _
    have e3 : ((wrongE n k r 1 2000) == (wrongE n k r 1 2000)) = true := beq_self_eq_true _
    go_wp2_with fail
    go_ret
    exact ⟨rfl, b4⟩

set_option maxHeartbeats 4000000 in
set_option maxRecDepth 100000 in
theorem Bounds_calls (n k r : Int) (hn : (Lit.int .i64 n).wf = true) (hk : (Lit.int .i64 k).wf = true) (hr : (Lit.int .i64 r).wf = true) (w : World) :
    Calls Try.prog 3 #[.int .i64 n, .int .i64 k, .int .i64 r] w fun e w' => e = .returned (.bool true) ∧ Below w.heap.size w w' := by
  have HG := Aside0.mk (fun W => bounds_calls n k r hn hk W)
  clear hn hk hr
  go_enter Try.func3, Try.ntmps3
  go_wp2_with fail
  refine (awake_calls _).mono ?_
  rintro e w1 ⟨rfl, b1⟩
  go_wp2_with fail
  refine (HG.out _).mono ?_
  rintro e w2 ⟨rfl, b2⟩
  have b3 := below_then b1 b2
  go_wp2_with fail
  go_ret
  exact ⟨rfl, b3⟩

set_option maxHeartbeats 4000000 in
set_option maxRecDepth 100000 in
theorem tells_calls (n k s : Int) (w : World) :
    Calls Try.prog 28 #[.int .i64 n, .int .i64 k, .int .i64 s] w fun e w' => e = .returned (.bool true) ∧ Below w.heap.size w w' := by
  go_enter Try.func28, Try.ntmps28
  have HB := Aside0.mk (Below.refl w.heap.size w)
  by_cases c1 : n > 60
  · by_cases c2 : n ≤ 500
    · go_wp2_with fail
      go_ret
      exact ⟨rfl, Below.refl _ _⟩
    · go_wp2_with fail
      have e1 : ((wrongE n k 0 0 0) == (wrongE n k 0 0 0)) = true := beq_self_eq_true _
      have e2 : ((wrongE n k s 0 10000) == (wrongE n k s 0 10000)) = true := beq_self_eq_true _
      have E1 := Aside0.mk e1
      have E2 := Aside0.mk e2
      clear e1 e2
      refine (Choose_all n k _).mono ?_
      rintro e u1 ⟨v1, rfl, h_, b_⟩
      have HB := Aside0.mk (below_then HB.out b_)
      have Ha := Aside0.mk h_
      clear h_
      clear b_
      go_wp2_with fail
      refine (RChoose_all n k _).mono ?_
      rintro e u2 ⟨v2, rfl, h_, b_⟩
      have Ha := Aside0.mk (Ha.out.below b_)
      have HB := Aside0.mk (below_then HB.out b_)
      have Hb := Aside0.mk h_
      clear h_
      clear b_
      go_wp2_with fail
      refine (same_calls _ Ha.out Hb.out).mono ?_
      rw [decide_eq_true rfl]
      rintro e u3 ⟨rfl, d_⟩
      have b_ := drawn0_below (Below.refl _ _) d_
      clear d_
      have HB := Aside0.mk (below_then HB.out b_)
      clear b_
      have e1 := E1.out
      have e2 := E2.out
      go_wp2_with fail
      clear e1 e2
      refine (Chance_all n k s _).mono ?_
      rintro e u4 ⟨v4, rfl, h_, b_⟩
      have HB := Aside0.mk (below_then HB.out b_)
      have Hc := Aside0.mk h_
      clear h_
      clear b_
      go_wp2_with fail
      refine (RChance_all n k s _).mono ?_
      rintro e u5 ⟨v5, rfl, h_, b_⟩
      have Hc := Aside0.mk (Hc.out.below b_)
      have HB := Aside0.mk (below_then HB.out b_)
      have Hd := Aside0.mk h_
      clear h_
      clear b_
      go_wp2_with fail
      refine (same_calls _ Hc.out Hd.out).mono ?_
      rw [decide_eq_true rfl]
      rintro e u6 ⟨rfl, d_⟩
      have b_ := drawn0_below (Below.refl _ _) d_
      clear d_
      have HB := Aside0.mk (below_then HB.out b_)
      clear b_
      have e1 := E1.out
      have e2 := E2.out
      go_wp2_with fail
      clear e1 e2
      refine (Upper_all n k s _).mono ?_
      rintro e u7 ⟨v7, rfl, h_, b_⟩
      have HB := Aside0.mk (below_then HB.out b_)
      have Ha := Aside0.mk h_
      clear h_
      clear b_
      go_wp2_with fail
      refine (RUpper_all n k s _).mono ?_
      rintro e u8 ⟨v8, rfl, h_, b_⟩
      have Ha := Aside0.mk (Ha.out.below b_)
      have HB := Aside0.mk (below_then HB.out b_)
      have Hb := Aside0.mk h_
      clear h_
      clear b_
      go_wp2_with fail
      refine (Lower_all n k s _).mono ?_
      rintro e u9 ⟨v9, rfl, h_, b_⟩
      have Ha := Aside0.mk (Ha.out.below b_)
      have Hb := Aside0.mk (Hb.out.below b_)
      have HB := Aside0.mk (below_then HB.out b_)
      have Hc := Aside0.mk h_
      clear h_
      clear b_
      go_wp2_with fail
      refine (RLower_all n k s _).mono ?_
      rintro e u10 ⟨v10, rfl, h_, b_⟩
      have Ha := Aside0.mk (Ha.out.below b_)
      have Hb := Aside0.mk (Hb.out.below b_)
      have Hc := Aside0.mk (Hc.out.below b_)
      have HB := Aside0.mk (below_then HB.out b_)
      have Hd := Aside0.mk h_
      clear h_
      clear b_
      go_wp2_with fail
      refine (same_calls _ Ha.out Hb.out).mono ?_
      rw [decide_eq_true rfl]
      rintro e u11 ⟨rfl, d_⟩
      have b_ := drawn0_below (Below.refl _ _) d_
      clear d_
      have Hc := Aside0.mk (Hc.out.below b_)
      have Hd := Aside0.mk (Hd.out.below b_)
      have HB := Aside0.mk (below_then HB.out b_)
      clear b_
      have e1 := E1.out
      have e2 := E2.out
      go_wp2_with fail
      clear e1 e2
      refine (same_calls _ Hc.out Hd.out).mono ?_
      rw [decide_eq_true rfl]
      rintro e u12 ⟨rfl, d_⟩
      have b_ := drawn0_below (Below.refl _ _) d_
      clear d_
      have HB := Aside0.mk (below_then HB.out b_)
      clear b_
      have e1 := E1.out
      have e2 := E2.out
      go_wp2_with fail
      go_ret
      exact ⟨rfl, HB.out⟩
  · go_wp2_with fail
    have e1 : ((wrongE n k 0 0 0) == (wrongE n k 0 0 0)) = true := beq_self_eq_true _
    have e2 : ((wrongE n k s 0 10000) == (wrongE n k s 0 10000)) = true := beq_self_eq_true _
    have E1 := Aside0.mk e1
    have E2 := Aside0.mk e2
    clear e1 e2
    refine (Choose_all n k _).mono ?_
    rintro e u1 ⟨v1, rfl, h_, b_⟩
    have HB := Aside0.mk (below_then HB.out b_)
    have Ha := Aside0.mk h_
    clear h_
    clear b_
    go_wp2_with fail
    refine (RChoose_all n k _).mono ?_
    rintro e u2 ⟨v2, rfl, h_, b_⟩
    have Ha := Aside0.mk (Ha.out.below b_)
    have HB := Aside0.mk (below_then HB.out b_)
    have Hb := Aside0.mk h_
    clear h_
    clear b_
    go_wp2_with fail
    refine (same_calls _ Ha.out Hb.out).mono ?_
    rw [decide_eq_true rfl]
    rintro e u3 ⟨rfl, d_⟩
    have b_ := drawn0_below (Below.refl _ _) d_
    clear d_
    have HB := Aside0.mk (below_then HB.out b_)
    clear b_
    have e1 := E1.out
    have e2 := E2.out
    go_wp2_with fail
    clear e1 e2
    refine (Chance_all n k s _).mono ?_
    rintro e u4 ⟨v4, rfl, h_, b_⟩
    have HB := Aside0.mk (below_then HB.out b_)
    have Hc := Aside0.mk h_
    clear h_
    clear b_
    go_wp2_with fail
    refine (RChance_all n k s _).mono ?_
    rintro e u5 ⟨v5, rfl, h_, b_⟩
    have Hc := Aside0.mk (Hc.out.below b_)
    have HB := Aside0.mk (below_then HB.out b_)
    have Hd := Aside0.mk h_
    clear h_
    clear b_
    go_wp2_with fail
    refine (same_calls _ Hc.out Hd.out).mono ?_
    rw [decide_eq_true rfl]
    rintro e u6 ⟨rfl, d_⟩
    have b_ := drawn0_below (Below.refl _ _) d_
    clear d_
    have HB := Aside0.mk (below_then HB.out b_)
    clear b_
    have e1 := E1.out
    have e2 := E2.out
    go_wp2_with fail
    clear e1 e2
    refine (Upper_all n k s _).mono ?_
    rintro e u7 ⟨v7, rfl, h_, b_⟩
    have HB := Aside0.mk (below_then HB.out b_)
    have Ha := Aside0.mk h_
    clear h_
    clear b_
    go_wp2_with fail
    refine (RUpper_all n k s _).mono ?_
    rintro e u8 ⟨v8, rfl, h_, b_⟩
    have Ha := Aside0.mk (Ha.out.below b_)
    have HB := Aside0.mk (below_then HB.out b_)
    have Hb := Aside0.mk h_
    clear h_
    clear b_
    go_wp2_with fail
    refine (Lower_all n k s _).mono ?_
    rintro e u9 ⟨v9, rfl, h_, b_⟩
    have Ha := Aside0.mk (Ha.out.below b_)
    have Hb := Aside0.mk (Hb.out.below b_)
    have HB := Aside0.mk (below_then HB.out b_)
    have Hc := Aside0.mk h_
    clear h_
    clear b_
    go_wp2_with fail
    refine (RLower_all n k s _).mono ?_
    rintro e u10 ⟨v10, rfl, h_, b_⟩
    have Ha := Aside0.mk (Ha.out.below b_)
    have Hb := Aside0.mk (Hb.out.below b_)
    have Hc := Aside0.mk (Hc.out.below b_)
    have HB := Aside0.mk (below_then HB.out b_)
    have Hd := Aside0.mk h_
    clear h_
    clear b_
    go_wp2_with fail
    refine (same_calls _ Ha.out Hb.out).mono ?_
    rw [decide_eq_true rfl]
    rintro e u11 ⟨rfl, d_⟩
    have b_ := drawn0_below (Below.refl _ _) d_
    clear d_
    have Hc := Aside0.mk (Hc.out.below b_)
    have Hd := Aside0.mk (Hd.out.below b_)
    have HB := Aside0.mk (below_then HB.out b_)
    clear b_
    have e1 := E1.out
    have e2 := E2.out
    go_wp2_with fail
    clear e1 e2
    refine (same_calls _ Hc.out Hd.out).mono ?_
    rw [decide_eq_true rfl]
    rintro e u12 ⟨rfl, d_⟩
    have b_ := drawn0_below (Below.refl _ _) d_
    clear d_
    have HB := Aside0.mk (below_then HB.out b_)
    clear b_
    have e1 := E1.out
    have e2 := E2.out
    go_wp2_with fail
    go_ret
    exact ⟨rfl, HB.out⟩

set_option maxHeartbeats 4000000 in
set_option maxRecDepth 100000 in
theorem Tells_calls (n k s : Int) (hn : (Lit.int .i64 n).wf = true) (hk : (Lit.int .i64 k).wf = true) (hs : (Lit.int .i64 s).wf = true) (w : World) :
    Calls Try.prog 7 #[.int .i64 n, .int .i64 k, .int .i64 s] w fun e w' => e = .returned (.bool true) ∧ Below w.heap.size w w' := by
  clear hn hk hs
  go_enter Try.func7, Try.ntmps7
  go_wp2_with fail
  refine (awake_calls _).mono ?_
  rintro e w1 ⟨rfl, b1⟩
  go_wp2_with fail
  refine (tells_calls n k s _).mono ?_
  rintro e w2 ⟨rfl, b2⟩
  have b3 := below_then b1 b2
  go_wp2_with fail
  go_ret
  exact ⟨rfl, b3⟩

end Go.Proofs.Ytenmlkcjgefmpaa
