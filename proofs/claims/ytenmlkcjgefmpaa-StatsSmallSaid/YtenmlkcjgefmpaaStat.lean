/- Contracts of Chance, Upper, Lower, Least and Greatest. -/
import Derived.Test.YtenmlkcjgefmpaaBetw
import Derived.Test.YtenmlkcjgefmpaaMathB
namespace Go.Proofs.Ytenmlkcjgefmpaa
open Go.RowKit Go.Proofs.YtenmlkcjgefmpaaW.PrintWords Go.Proofs.YtenmlkcjgefmpaaW.PrintLast Go.Proofs.YtenmlkcjgefmpaaW.PrintMore Go.Proofs.Ytenmlkcjgefmpaa.Fn

theorem wrong_fn (n k x lo hi : Int) : stats_wrong.f 1 n k x lo hi = some (wrongE n k x lo hi) := by
  unfold stats_wrong.f wrongE
  by_cases h1 : k < 0
  · rw [if_pos h1, if_pos (.inl h1)]; rfl
  · rw [if_neg h1]
    by_cases h2 : k > n
    · rw [if_pos h2, if_pos (.inr (.inl h2))]; rfl
    · rw [if_neg h2]
      by_cases h3 : x < lo
      · rw [if_pos h3, if_pos (.inr (.inr (.inl h3)))]; rfl
      · rw [if_neg h3]
        by_cases h4 : x > hi
        · rw [if_pos (.inr (.inr (.inr h4))), decide_eq_true h4]; rfl
        · rw [if_neg (by omega), decide_eq_false h4]
          simp only [stats_wrong.j0]
          rw [if_neg (by decide)]
          split <;> rfl

theorem wrong_calls (n k x lo hi : Int) (w : World) : Calls Try.prog 46 #[.int .i64 n, .int .i64 k, .int .i64 x, .int .i64 lo, .int .i64 hi] w fun e w' => e = .returned (.int .i64 (wrongE n k x lo hi)) ∧ Drawn0 w w' :=
  stats_wrong.calls 1 n k x lo hi _ w (wrong_fn n k x lo hi)

set_option maxHeartbeats 400000 in
theorem Chance_err (n k s : Int) (w : World) (h : ¬ wrongE n k s 0 10000 = 0) : Calls Try.prog 20 #[.int .i64 n, .int .i64 k, .int .i64 s] w (GivesNE w 0 (wrongE n k s 0 10000)) := by
  have hd : (wrongE n k s 0 10000 != 0) = true := by rw [bne_iff_ne]; exact h
  go_enter Try.func20, Try.ntmps20
  go_wp2_with fail
  refine (wrong_calls _ _ _ _ _ _).mono ?_
  rintro e w1 ⟨rfl, ⟨m, rfl⟩⟩
  go_wp2_with fail
  go_ret2
  exact ⟨_, rfl, IsN.nil _, pw_below_drewN (Below.refl _ _) m⟩

set_option maxHeartbeats 400000 in
theorem Chance_ok (n k s : Nat) (w : World) (hn : n ≤ 500) (hk : k ≤ n) (hs : s ≤ 10000) : Calls Try.prog 20 #[.int .i64 (n : Int), .int .i64 (k : Int), .int .i64 (s : Int)] w (GivesNE w (ch s (10000 - s) n k) 0) := by
  have hw := wrongE_zero (n := n) (k := k) (x := s) (lo := 0) (hi := 10000) (by omega)
  have HW := Aside0.mk hw
  clear hw
  go_enter Try.func20, Try.ntmps20
  go_wp2_with fail
  refine (wrong_calls _ _ _ _ _ _).mono ?_
  rintro e w1 ⟨rfl, ⟨m, rfl⟩⟩
  rw [HW.out]
  go_wp2_with fail
  refine (between_calls n s k k _ hn hs (Nat.le_refl _) hk).mono ?_
  rintro e w1 ⟨v, rfl, hv, hb⟩
  go_wp2_with fail
  go_ret2
  exact ⟨v, rfl, by rw [← span_self]; exact hv, below_step (pw_below_drewN (Below.refl w.heap.size w) m) hb⟩

set_option maxHeartbeats 400000 in
theorem Upper_err (n k s : Int) (w : World) (h : ¬ wrongE n k s 0 10000 = 0) : Calls Try.prog 26 #[.int .i64 n, .int .i64 k, .int .i64 s] w (GivesNE w 0 (wrongE n k s 0 10000)) := by
  have hd : (wrongE n k s 0 10000 != 0) = true := by rw [bne_iff_ne]; exact h
  go_enter Try.func26, Try.ntmps26
  go_wp2_with fail
  refine (wrong_calls _ _ _ _ _ _).mono ?_
  rintro e w1 ⟨rfl, ⟨m, rfl⟩⟩
  go_wp2_with fail
  go_ret2
  exact ⟨_, rfl, IsN.nil _, pw_below_drewN (Below.refl _ _) m⟩

set_option maxHeartbeats 400000 in
theorem Upper_ok (n k s : Nat) (w : World) (hn : n ≤ 500) (hk : k ≤ n) (hs : s ≤ 10000) : Calls Try.prog 26 #[.int .i64 (n : Int), .int .i64 (k : Int), .int .i64 (s : Int)] w (GivesNE w (up s (10000 - s) n k) 0) := by
  have hw := wrongE_zero (n := n) (k := k) (x := s) (lo := 0) (hi := 10000) (by omega)
  have HW := Aside0.mk hw
  clear hw
  go_enter Try.func26, Try.ntmps26
  go_wp2_with fail
  refine (wrong_calls _ _ _ _ _ _).mono ?_
  rintro e w1 ⟨rfl, ⟨m, rfl⟩⟩
  rw [HW.out]
  go_wp2_with fail
  refine (between_calls n s k n _ hn hs hk (Nat.le_refl _)).mono ?_
  rintro e w1 ⟨v, rfl, hv, hb⟩
  go_wp2_with fail
  go_ret2
  exact ⟨v, rfl, by rw [← span_up _ _ _ _ hk]; exact hv, below_step (pw_below_drewN (Below.refl w.heap.size w) m) hb⟩

set_option maxHeartbeats 400000 in
theorem Lower_err (n k s : Int) (w : World) (h : ¬ wrongE n k s 0 10000 = 0) : Calls Try.prog 30 #[.int .i64 n, .int .i64 k, .int .i64 s] w (GivesNE w 0 (wrongE n k s 0 10000)) := by
  have hd : (wrongE n k s 0 10000 != 0) = true := by rw [bne_iff_ne]; exact h
  go_enter Try.func30, Try.ntmps30
  go_wp2_with fail
  refine (wrong_calls _ _ _ _ _ _).mono ?_
  rintro e w1 ⟨rfl, ⟨m, rfl⟩⟩
  go_wp2_with fail
  go_ret2
  exact ⟨_, rfl, IsN.nil _, pw_below_drewN (Below.refl _ _) m⟩

set_option maxHeartbeats 400000 in
theorem Lower_ok (n k s : Nat) (w : World) (hn : n ≤ 500) (hk : k ≤ n) (hs : s ≤ 10000) : Calls Try.prog 30 #[.int .i64 (n : Int), .int .i64 (k : Int), .int .i64 (s : Int)] w (GivesNE w (low s (10000 - s) n k) 0) := by
  have hw := wrongE_zero (n := n) (k := k) (x := s) (lo := 0) (hi := 10000) (by omega)
  have HW := Aside0.mk hw
  clear hw
  go_enter Try.func30, Try.ntmps30
  go_wp2_with fail
  refine (wrong_calls _ _ _ _ _ _).mono ?_
  rintro e w1 ⟨rfl, ⟨m, rfl⟩⟩
  rw [HW.out]
  go_wp2_with fail
  refine (between_calls n s 0 k _ hn hs (Nat.zero_le _) hk).mono ?_
  rintro e w1 ⟨v, rfl, hv, hb⟩
  go_wp2_with fail
  go_ret2
  exact ⟨v, rfl, by rw [← span_low_eq _ _ _ _ hk]; exact hv, below_step (pw_below_drewN (Below.refl w.heap.size w) m) hb⟩

end Go.Proofs.Ytenmlkcjgefmpaa
