/- The contract of Choose. -/
import Derived.Test.YtenmlkcjgefmpaaLeast
namespace Go.Proofs.Ytenmlkcjgefmpaa
open Go.RowKit Go.Proofs.YtenmlkcjgefmpaaW.PrintWords Go.Proofs.YtenmlkcjgefmpaaW.PrintLast Go.Proofs.YtenmlkcjgefmpaaW.PrintMore Go.Proofs.Ytenmlkcjgefmpaa.Fn
attribute [local go_sem] max2_int min2_int max_two min_two max_three min_three max_four min_four

theorem binom_half (n k : Nat) (hn : n ≤ 500) : Half (binom n k) := by
  have h1 : 2 ^ n ≤ 10000 ^ n := Nat.pow_le_pow_left (by decide) n
  have h2 := half_pow n 0 hn
  exact h2.le (Nat.le_trans (binom_le n k) h1)

theorem binom_div (n i : Nat) (hi : 1 ≤ i) (hin : i ≤ n) : binom n (i - 1) * (n + 1 - i) / i = binom n i := by
  obtain ⟨j, rfl⟩ : ∃ j, i = j + 1 := ⟨i - 1, by omega⟩
  have h := binom_step n j
  rw [Nat.add_sub_cancel, show n + 1 - (j + 1) = n - j by omega, Nat.mul_comm, ← h, Nat.mul_div_cancel_left _ (by omega)]

theorem Choose_err (n k : Int) (w : World) (h : ¬ wrongE n k 0 0 0 = 0) : Calls Try.prog 33 #[.int .i64 n, .int .i64 k] w (GivesNE w 0 (wrongE n k 0 0 0)) := by
  have hd : (wrongE n k 0 0 0 != 0) = true := by rw [bne_iff_ne]; exact h
  go_enter Try.func33, Try.ntmps33
  go_wp2_with fail
  refine (wrong_calls _ _ _ _ _ _).mono ?_
  rintro e w1 ⟨rfl, ⟨m, rfl⟩⟩
  go_wp2_with fail
  go_ret2
  exact ⟨_, rfl, IsN.nil _, pw_below_drewN (Below.refl _ _) m⟩

set_option maxHeartbeats 2000000 in
theorem Choose_ok (n k : Nat) (w : World) (hn : n ≤ 500) (hk : k ≤ n) : Calls Try.prog 33 #[.int .i64 (n : Int), .int .i64 (k : Int)] w (GivesNE w (binom n k) 0) := by
  have HW := Aside0.mk (wrongE_zero (n := n) (k := k) (x := 0) (lo := 0) (hi := 0) (by omega))
  have hsplit : (∃ m : Nat, (n : Int) - (k : Int) < (k : Int) ∧ (m : Int) ≤ (n : Int) - (k : Int) ∧ (n : Int) - (k : Int) ≤ (m : Int) ∧ m ≤ n ∧ Aside0 (binom n m = binom n k)) ∨ (∃ m : Nat, ¬ (n : Int) - (k : Int) < (k : Int) ∧ (m : Int) ≤ (k : Int) ∧ (k : Int) ≤ (m : Int) ∧ m ≤ n ∧ Aside0 (binom n m = binom n k)) := by
    by_cases h : (n : Int) - (k : Int) < (k : Int)
    · exact .inl ⟨n - k, h, by omega, by omega, by omega, ⟨binom_symm n k hk⟩⟩
    · exact .inr ⟨k, h, by omega, by omega, by omega, ⟨rfl⟩⟩
  go_enter Try.func33, Try.ntmps33
  go_wp2_with fail
  refine (wrong_calls _ _ _ _ _ _).mono ?_
  rintro e w1 ⟨rfl, ⟨q, rfl⟩⟩
  rw [HW.out]
  go_wp2_with fail
  refine (one_calls 1 _ (by decide) (by decide)).mono ?_
  rintro e w1 ⟨v, rfl, hv, hb⟩
  have HV := Aside0.mk hv
  have HBW := Aside0.mk (below_step (pw_below_drewN (Below.refl w.heap.size w) q) hb)
  clear hv hb
  go_wp2_with fail
  rcases hsplit with ⟨m, hm0, hm1, hm2, hmn, HB⟩ | ⟨m, hm0, hm1, hm2, hmn, HB⟩
  all_goals
      go_loopw [7, 8] (fun v7 v8 W => ∃ i : Nat, v8 = .int .i64 i ∧ 1 ≤ i ∧ i ≤ m + 1 ∧ Aside0 (IsN W v7 (binom n (i - 1))) ∧ Aside0 (Below w.heap.size w W)) (fun _ v8 _ => m + 1 - (intOf v8).toNat)
      case atStart => exact ⟨1, rfl, by omega, by omega, ⟨by rw [Nat.sub_self, binom_zero]; exact HV.out⟩, HBW⟩
      case round =>
        clear HV HBW
        obtain ⟨i, rfl, hi1, hi2, HV, HBW⟩ := hrel
        have e1 : ((n : Int) + 1 - (i : Int)).toNat = n + 1 - i := by omega
        by_cases hlt : i ≤ m
        · have HD := Aside0.mk (binom_div n i hi1 (by omega))
          have HH := Aside0.mk (binom_half n (i - 1) hn)
          have HM := Aside0.mk ((binom_half n (i - 1) hn).mul (half_small (show n + 1 - i < 4294967296 by omega)))
          have HE := Aside0.mk e1
          clear e1
          go_wp2_with fail
          refine (smul_calls ((n : Int) + 1 - (i : Int)) _ HV.out HH.out.fits (by omega) (by omega) (by rw [HE.out]; exact HM.out)).mono ?_
          rintro e w3 ⟨v3, rfl, hv3, hb3⟩
          have HV3 := Aside0.mk hv3
          have HB3 := Aside0.mk (below_step HBW.out hb3)
          clear hv3 hb3
          go_wp2_with fail
          refine (div_calls (i : Int) _ HV3.out (by omega) (by omega)).mono ?_
          rintro e w4 ⟨v4, rfl, hv4, hb4⟩
          have HV4 := Aside0.mk hv4
          have HB4 := Aside0.mk (below_step HB3.out hb4)
          clear hv4 hb4
          go_wp2_with fail
          go_roundw
          case rel => exact ⟨i + 1, by go_num, by omega, by omega, ⟨by rw [Nat.add_sub_cancel, ← HD.out, ← HE.out]; exact HV4.out⟩, HB4⟩
          case measure => simp [intOf]; omega
        · obtain rfl : i = m + 1 := by omega
          clear e1
          go_wp2_with fail
          go_ret2
          exact ⟨_, rfl, by rw [← HB.out]; exact HV.out, HBW.out⟩

end Go.Proofs.Ytenmlkcjgefmpaa
