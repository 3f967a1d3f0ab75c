/- StatsSums: the walk. -/
import Derived.Test.YtenmlkcjgefmpaaKit
namespace Go.Proofs.Ytenmlkcjgefmpaa
open Go.RowKit Go.Proofs.YtenmlkcjgefmpaaW.PrintWords Go.Proofs.YtenmlkcjgefmpaaW.PrintLast Go.Proofs.YtenmlkcjgefmpaaW.PrintMore Go.Proofs.Ytenmlkcjgefmpaa.Fn
attribute [local go_sem] max2_int min2_int max_two min_two max_three min_three max_four min_four

theorem empties_below (W : World) (e f : Nat) : Below W.heap.size W ((W.alloc (.cells #[] e)).alloc (.cells #[] f)) := below_alloc (below_alloc (Below.refl _ _) _) _
theorem isN_empty (W : World) (e : Nat) : IsN (W.alloc (.cells #[] e)) (.slice (some ⟨W.heap.size, 0, none⟩) 0 0) 0 := by
  refine IsN.of_R (R_nums (base := W.heap.size) (e := e) (k := .u32) (xs := []) ?_) (Num.zero _) (by simp)
  exact World.ownsRow_lit (base := W.heap.size) (e := e) (size := 1) W #[] 0 (Nat.le_refl _) (by decide) (by simp)
theorem isN_first (W : World) (e f : Nat) : IsN ((W.alloc (.cells #[] e)).alloc (.cells #[] f)) (.slice (some ⟨W.heap.size, 0, none⟩) 0 0) 0 := (isN_empty W e).alloc _
theorem isN_second (W : World) (e f : Nat) : IsN ((W.alloc (.cells #[] e)).alloc (.cells #[] f)) (.slice (some ⟨W.heap.size + 1, 0, none⟩) 0 0) 0 := by
  have h := isN_empty (W.alloc (.cells #[] e)) f
  rwa [show (W.alloc (.cells #[] e)).heap.size = W.heap.size + 1 by simp] at h
theorem sum_all {p n k : Nat} (hp : p ≤ 10000) (h0 : 0 < k) (hk : k ≤ n) : up p (10000 - p) n k + low p (10000 - p) n (k - 1) = 10000 ^ n := by
  have h := low_eq p (10000 - p) n (k - 1) (by omega)
  rw [show k - 1 + 1 = k by omega, show p + (10000 - p) = 10000 by omega] at h
  exact h
theorem half_ch {n k : Nat} (hk : k ≤ n) : binom n k * 5000 ^ n = ch 5000 (10000 - 5000) n k := by
  rw [ch, ← Nat.pow_add, show k + (n - k) = n by omega]
theorem sum_fits {n x : Nat} (hn : n ≤ 500) (h : x ≤ 10000 ^ n) : Fits x := ((half_pow n 0 hn).le h).fits
theorem pow5_half (n : Nat) (hn : n ≤ 500) : Half (5000 ^ n) := (half_pow n 0 hn).le (Nat.pow_le_pow_left (by decide) n)

set_option maxHeartbeats 2000000 in
set_option maxRecDepth 100000 in
theorem Sums_calls (x y s : Int) (hx : (Lit.int .i64 x).wf = true) (hy : (Lit.int .i64 y).wf = true) (hs : (Lit.int .i64 s).wf = true) (w : World) :
    Calls Try.prog 9 #[.int .i64 x, .int .i64 y, .int .i64 s] w fun e w' => e = .returned (.bool true) ∧ Below w.heap.size w w' := by
  have hn1 := pickN_lt x (n := 200 + 1) (by decide)
  have hk1 := pickN_lt y (n := pickN x (200 + 1) + 1) (by omega)
  have hp := shareN_le s
  have HT := Aside0.mk (fun W => trials_calls x y 200 W hx hy (by decide))
  have HS := Aside0.mk (fun W => share_calls s W hs)
  generalize pickN y (pickN x (200 + 1) + 1) = k at *
  generalize pickN x (200 + 1) = n at *
  generalize shareN s = p at *
  clear hx hy hs
  have HB0 := Aside0.mk (Below.refl w.heap.size w)
  have hc : (0 < k ∧ k < n) ∨ (0 < k ∧ k = n) ∨ (k = 0 ∧ 0 < n) ∨ (k = 0 ∧ n = 0) := by omega
  rcases hc with ⟨h1, h2⟩ | ⟨h1, h2⟩ | ⟨h1, h2⟩ | ⟨h1, h2⟩
  · -- some, not all
    have t1 : decide ((k : Int) < (n : Int)) = true := decide_eq_true (by omega)
    have t2 : decide (0 < (k : Int)) = true := decide_eq_true (by omega)
    have c1 : (k : Int) - 1 = ((k - 1 : Nat) : Int) := by omega
    have E1 := Aside0.mk (show up p (10000 - p) n k + low p (10000 - p) n (k - 1) = 10000 ^ n from sum_all hp (by omega) (by omega))
    have E2 := Aside0.mk (show up p (10000 - p) n (k + 1) + ch p (10000 - p) n k = up p (10000 - p) n k from by rw [Nat.add_comm]; exact (up_eq _ _ _ _).symm)
    have E3 := Aside0.mk (show binom n k * 5000 ^ n = ch 5000 (10000 - 5000) n k from half_ch (by omega))
    have F1 := Aside0.mk (sum_fits (n := n) (x := up p (10000 - p) n k) (by omega) (by have := E1.out; omega))
    have F2 := Aside0.mk (sum_fits (n := n) (x := low p (10000 - p) n (k - 1)) (by omega) (by have := E1.out; omega))
    have F3 := Aside0.mk (sum_fits (n := n) (x := up p (10000 - p) n k + low p (10000 - p) n (k - 1)) (by omega) (by have := E1.out; omega))
    have F4 := Aside0.mk (sum_fits (n := n) (x := up p (10000 - p) n (k + 1)) (by omega) (by have := E1.out; have := E2.out; omega))
    have F5 := Aside0.mk (sum_fits (n := n) (x := ch p (10000 - p) n k) (by omega) (by have := E1.out; have := E2.out; omega))
    have F6 := Aside0.mk (sum_fits (n := n) (x := up p (10000 - p) n (k + 1) + ch p (10000 - p) n k) (by omega) (by have := E1.out; have := E2.out; omega))
    have F7 := Aside0.mk (binom_half n k (by omega))
    have F8 := Aside0.mk (pow5_half n (by omega))
    go_enter Try.func9, Try.ntmps9
    go_wp2_with fail
    refine (awake_calls _).mono ?_
    rintro e u1 ⟨rfl, b_⟩
    have HB_ := Aside0.mk (below_then HB0.out b_)
    clear b_
    have HB0 := HB_
    clear HB_
    go_wp2_with fail
    refine (HT.out _).mono ?_
    rintro e u2 ⟨rfl, d_⟩
    have b_ := drawn0_below (Below.refl _ _) d_
    clear d_
    have HB_ := Aside0.mk (below_then HB0.out b_)
    clear b_
    have HB0 := HB_
    clear HB_
    go_wp2_with fail
    refine (HS.out _).mono ?_
    rintro e u3 ⟨rfl, d_⟩
    have b_ := drawn0_below (Below.refl _ _) d_
    clear d_
    have HB_ := Aside0.mk (below_then HB0.out b_)
    clear b_
    have HB0 := HB_
    clear HB_
    go_wp2_with fail
    refine (Upper_ok n k p _ (by omega) (by omega) hp).mono ?_
    rintro e u4 ⟨vu, rfl, h_, b_⟩
    have HB_ := Aside0.mk (below_then HB0.out b_)
    have Hu := Aside0.mk h_
    clear h_
    clear b_
    have HB0 := HB_
    clear HB_
    go_wp2_with fail
    refine (Chance_ok n k p _ (by omega) (by omega) hp).mono ?_
    rintro e u5 ⟨vx, rfl, h_, b_⟩
    have Hu := Aside0.mk (Hu.out.below b_)
    have HB_ := Aside0.mk (below_then HB0.out b_)
    have Hx := Aside0.mk h_
    clear h_
    clear b_
    have HB0 := HB_
    clear HB_
    go_wp2_with fail
    have b_ := empties_below u5 55 55
    have Hm := Aside0.mk (isN_first u5 55 55)
    have Hz := Aside0.mk (isN_second u5 55 55)
    have Hu := Aside0.mk (Hu.out.below b_)
    have Hx := Aside0.mk (Hx.out.below b_)
    have HB_ := Aside0.mk (below_then HB0.out b_)
    clear b_
    have HB0 := HB_
    clear HB_
    refine (Upper_ok n (k + 1) p _ (by omega) (by omega) hp).mono ?_
    rintro e u6 ⟨vm, rfl, h_, b_⟩
    have Hu := Aside0.mk (Hu.out.below b_)
    have Hx := Aside0.mk (Hx.out.below b_)
    have HB_ := Aside0.mk (below_then HB0.out b_)
    have Hm := Aside0.mk h_
    clear h_
    clear b_
    have HB0 := HB_
    clear HB_
    go_wp2_with fail
    refine (Lower_ok n (k - 1) p _ (by omega) (by omega) hp).mono ?_
    rintro e u7 ⟨vz, rfl, h_, b_⟩
    have Hu := Aside0.mk (Hu.out.below b_)
    have Hx := Aside0.mk (Hx.out.below b_)
    have Hm := Aside0.mk (Hm.out.below b_)
    have HB_ := Aside0.mk (below_then HB0.out b_)
    have Hz := Aside0.mk h_
    clear h_
    clear b_
    have HB0 := HB_
    clear HB_
    go_wp2_with fail
    refine (Add_calls _ Hu.out Hz.out F1.out F2.out F3.out).mono ?_
    rw [E1.out]
    rintro e u8 ⟨vh, rfl, h_, b_⟩
    have Hu := Aside0.mk (Hu.out.below b_)
    have Hx := Aside0.mk (Hx.out.below b_)
    have Hm := Aside0.mk (Hm.out.below b_)
    have HB_ := Aside0.mk (below_then HB0.out b_)
    have Hh := Aside0.mk h_
    clear h_
    clear b_
    have HB0 := HB_
    clear HB_
    go_wp2_with fail
    refine (Add_calls _ Hm.out Hx.out F4.out F5.out F6.out).mono ?_
    rw [E2.out]
    rintro e u9 ⟨vs, rfl, h_, b_⟩
    have Hu := Aside0.mk (Hu.out.below b_)
    have Hh := Aside0.mk (Hh.out.below b_)
    have HB_ := Aside0.mk (below_then HB0.out b_)
    have Hs := Aside0.mk h_
    clear h_
    clear b_
    have HB0 := HB_
    clear HB_
    go_wp2_with fail
    refine (all_calls n _ (by omega)).mono ?_
    rintro e u10 ⟨va, rfl, h_, b_⟩
    have Hu := Aside0.mk (Hu.out.below b_)
    have Hh := Aside0.mk (Hh.out.below b_)
    have Hs := Aside0.mk (Hs.out.below b_)
    have HB_ := Aside0.mk (below_then HB0.out b_)
    have Ha := Aside0.mk h_
    clear h_
    clear b_
    have HB0 := HB_
    clear HB_
    go_wp2_with fail
    refine (same_calls _ Hh.out Ha.out).mono ?_
    rw [decide_eq_true rfl]
    rintro e u11 ⟨rfl, d_⟩
    have b_ := drawn0_below (Below.refl _ _) d_
    clear d_
    have Hu := Aside0.mk (Hu.out.below b_)
    have Hs := Aside0.mk (Hs.out.below b_)
    have HB_ := Aside0.mk (below_then HB0.out b_)
    clear b_
    have HB0 := HB_
    clear HB_
    go_wp2_with fail
    refine (same_calls _ Hs.out Hu.out).mono ?_
    rw [decide_eq_true rfl]
    rintro e u12 ⟨rfl, d_⟩
    have b_ := drawn0_below (Below.refl _ _) d_
    clear d_
    have HB_ := Aside0.mk (below_then HB0.out b_)
    clear b_
    have HB0 := HB_
    clear HB_
    go_wp2_with fail
    refine (Chance_ok n k 5000 _ (by omega) (by omega) (by decide)).mono ?_
    rintro e u13 ⟨vf, rfl, h_, b_⟩
    have HB_ := Aside0.mk (below_then HB0.out b_)
    have Hf := Aside0.mk h_
    clear h_
    clear b_
    have HB0 := HB_
    clear HB_
    go_wp2_with fail
    refine (Choose_ok n k _ (by omega) (by omega)).mono ?_
    rintro e u14 ⟨vc, rfl, h_, b_⟩
    have Hf := Aside0.mk (Hf.out.below b_)
    have HB_ := Aside0.mk (below_then HB0.out b_)
    have Hc := Aside0.mk h_
    clear h_
    clear b_
    have HB0 := HB_
    clear HB_
    go_wp2_with fail
    refine (Of_calls 5000 _ (by decide) (by decide)).mono ?_
    rw [show Int.toNat 5000 = 5000 from rfl]
    rintro e u15 ⟨vo, rfl, h_, b_⟩
    have Hf := Aside0.mk (Hf.out.below b_)
    have Hc := Aside0.mk (Hc.out.below b_)
    have HB_ := Aside0.mk (below_then HB0.out b_)
    have Ho := Aside0.mk h_
    clear h_
    clear b_
    have HB0 := HB_
    clear HB_
    go_wp2_with fail
    refine (Pow_calls n _ Ho.out (by decide) (by decide) (by omega) F8.out).mono ?_
    rintro e u16 ⟨vw, rfl, h_, b_⟩
    have Hf := Aside0.mk (Hf.out.below b_)
    have Hc := Aside0.mk (Hc.out.below b_)
    have HB_ := Aside0.mk (below_then HB0.out b_)
    have Hw := Aside0.mk h_
    clear h_
    clear b_
    have HB0 := HB_
    clear HB_
    go_wp2_with fail
    refine (Mul_any _ Hc.out Hw.out F7.out F8.out).mono ?_
    rw [E3.out]
    rintro e u17 ⟨vg, rfl, h_, b_⟩
    have Hf := Aside0.mk (Hf.out.below b_)
    have HB_ := Aside0.mk (below_then HB0.out b_)
    have Hg := Aside0.mk h_
    clear h_
    clear b_
    have HB0 := HB_
    clear HB_
    go_wp2_with fail
    refine (same_calls _ Hf.out Hg.out).mono ?_
    rw [decide_eq_true rfl]
    rintro e u18 ⟨rfl, d_⟩
    have b_ := drawn0_below (Below.refl _ _) d_
    clear d_
    have HB_ := Aside0.mk (below_then HB0.out b_)
    clear b_
    have HB0 := HB_
    clear HB_
    go_wp2_with fail
    go_ret
    exact ⟨rfl, HB0.out⟩
  · have hkn : n = k := by omega
    subst hkn
    have t2 : decide (0 < (n : Int)) = true := decide_eq_true (by omega)
    have c1 : (n : Int) - 1 = ((n - 1 : Nat) : Int) := by omega
    have E1 := Aside0.mk (show up p (10000 - p) n n + low p (10000 - p) n (n - 1) = 10000 ^ n from sum_all hp (by omega) (by omega))
    have E2 := Aside0.mk (show 0 + ch p (10000 - p) n n = up p (10000 - p) n n from by rw [up_eq p (10000 - p) n n, up_gt p (10000 - p) n (n + 1) (by omega), Nat.zero_add, Nat.add_zero])
    have E3 := Aside0.mk (show binom n n * 5000 ^ n = ch 5000 (10000 - 5000) n n from half_ch (by omega))
    have F1 := Aside0.mk (sum_fits (n := n) (x := up p (10000 - p) n n) (by omega) (by have := E1.out; omega))
    have F2 := Aside0.mk (sum_fits (n := n) (x := low p (10000 - p) n (n - 1)) (by omega) (by have := E1.out; omega))
    have F3 := Aside0.mk (sum_fits (n := n) (x := up p (10000 - p) n n + low p (10000 - p) n (n - 1)) (by omega) (by have := E1.out; omega))
    have F4 := Aside0.mk (sum_fits (n := n) (x := 0) (by omega) (by have := E1.out; have := E2.out; omega))
    have F5 := Aside0.mk (sum_fits (n := n) (x := ch p (10000 - p) n n) (by omega) (by have := E1.out; have := E2.out; omega))
    have F6 := Aside0.mk (sum_fits (n := n) (x := 0 + ch p (10000 - p) n n) (by omega) (by have := E1.out; have := E2.out; omega))
    have F7 := Aside0.mk (binom_half n n (by omega))
    have F8 := Aside0.mk (pow5_half n (by omega))
    go_enter Try.func9, Try.ntmps9
    go_wp2_with fail
    refine (awake_calls _).mono ?_
    rintro e u1 ⟨rfl, b_⟩
    have HB_ := Aside0.mk (below_then HB0.out b_)
    clear b_
    have HB0 := HB_
    clear HB_
    go_wp2_with fail
    refine (HT.out _).mono ?_
    rintro e u2 ⟨rfl, d_⟩
    have b_ := drawn0_below (Below.refl _ _) d_
    clear d_
    have HB_ := Aside0.mk (below_then HB0.out b_)
    clear b_
    have HB0 := HB_
    clear HB_
    go_wp2_with fail
    refine (HS.out _).mono ?_
    rintro e u3 ⟨rfl, d_⟩
    have b_ := drawn0_below (Below.refl _ _) d_
    clear d_
    have HB_ := Aside0.mk (below_then HB0.out b_)
    clear b_
    have HB0 := HB_
    clear HB_
    go_wp2_with fail
    refine (Upper_ok n n p _ (by omega) (by omega) hp).mono ?_
    rintro e u4 ⟨vu, rfl, h_, b_⟩
    have HB_ := Aside0.mk (below_then HB0.out b_)
    have Hu := Aside0.mk h_
    clear h_
    clear b_
    have HB0 := HB_
    clear HB_
    go_wp2_with fail
    refine (Chance_ok n n p _ (by omega) (by omega) hp).mono ?_
    rintro e u5 ⟨vx, rfl, h_, b_⟩
    have Hu := Aside0.mk (Hu.out.below b_)
    have HB_ := Aside0.mk (below_then HB0.out b_)
    have Hx := Aside0.mk h_
    clear h_
    clear b_
    have HB0 := HB_
    clear HB_
    go_wp2_with fail
    have b_ := empties_below u5 55 55
    have Hm := Aside0.mk (isN_first u5 55 55)
    have Hz := Aside0.mk (isN_second u5 55 55)
    have Hu := Aside0.mk (Hu.out.below b_)
    have Hx := Aside0.mk (Hx.out.below b_)
    have HB_ := Aside0.mk (below_then HB0.out b_)
    clear b_
    have HB0 := HB_
    clear HB_
    refine (Lower_ok n (n - 1) p _ (by omega) (by omega) hp).mono ?_
    rintro e u6 ⟨vz, rfl, h_, b_⟩
    have Hu := Aside0.mk (Hu.out.below b_)
    have Hx := Aside0.mk (Hx.out.below b_)
    have Hm := Aside0.mk (Hm.out.below b_)
    have HB_ := Aside0.mk (below_then HB0.out b_)
    have Hz := Aside0.mk h_
    clear h_
    clear b_
    have HB0 := HB_
    clear HB_
    go_wp2_with fail
    refine (Add_calls _ Hu.out Hz.out F1.out F2.out F3.out).mono ?_
    rw [E1.out]
    rintro e u7 ⟨vh, rfl, h_, b_⟩
    have Hu := Aside0.mk (Hu.out.below b_)
    have Hx := Aside0.mk (Hx.out.below b_)
    have Hm := Aside0.mk (Hm.out.below b_)
    have HB_ := Aside0.mk (below_then HB0.out b_)
    have Hh := Aside0.mk h_
    clear h_
    clear b_
    have HB0 := HB_
    clear HB_
    go_wp2_with fail
    refine (Add_calls _ Hm.out Hx.out F4.out F5.out F6.out).mono ?_
    rw [E2.out]
    rintro e u8 ⟨vs, rfl, h_, b_⟩
    have Hu := Aside0.mk (Hu.out.below b_)
    have Hh := Aside0.mk (Hh.out.below b_)
    have HB_ := Aside0.mk (below_then HB0.out b_)
    have Hs := Aside0.mk h_
    clear h_
    clear b_
    have HB0 := HB_
    clear HB_
    go_wp2_with fail
    refine (all_calls n _ (by omega)).mono ?_
    rintro e u9 ⟨va, rfl, h_, b_⟩
    have Hu := Aside0.mk (Hu.out.below b_)
    have Hh := Aside0.mk (Hh.out.below b_)
    have Hs := Aside0.mk (Hs.out.below b_)
    have HB_ := Aside0.mk (below_then HB0.out b_)
    have Ha := Aside0.mk h_
    clear h_
    clear b_
    have HB0 := HB_
    clear HB_
    go_wp2_with fail
    refine (same_calls _ Hh.out Ha.out).mono ?_
    rw [decide_eq_true rfl]
    rintro e u10 ⟨rfl, d_⟩
    have b_ := drawn0_below (Below.refl _ _) d_
    clear d_
    have Hu := Aside0.mk (Hu.out.below b_)
    have Hs := Aside0.mk (Hs.out.below b_)
    have HB_ := Aside0.mk (below_then HB0.out b_)
    clear b_
    have HB0 := HB_
    clear HB_
    go_wp2_with fail
    refine (same_calls _ Hs.out Hu.out).mono ?_
    rw [decide_eq_true rfl]
    rintro e u11 ⟨rfl, d_⟩
    have b_ := drawn0_below (Below.refl _ _) d_
    clear d_
    have HB_ := Aside0.mk (below_then HB0.out b_)
    clear b_
    have HB0 := HB_
    clear HB_
    go_wp2_with fail
    refine (Chance_ok n n 5000 _ (by omega) (by omega) (by decide)).mono ?_
    rintro e u12 ⟨vf, rfl, h_, b_⟩
    have HB_ := Aside0.mk (below_then HB0.out b_)
    have Hf := Aside0.mk h_
    clear h_
    clear b_
    have HB0 := HB_
    clear HB_
    go_wp2_with fail
    refine (Choose_ok n n _ (by omega) (by omega)).mono ?_
    rintro e u13 ⟨vc, rfl, h_, b_⟩
    have Hf := Aside0.mk (Hf.out.below b_)
    have HB_ := Aside0.mk (below_then HB0.out b_)
    have Hc := Aside0.mk h_
    clear h_
    clear b_
    have HB0 := HB_
    clear HB_
    go_wp2_with fail
    refine (Of_calls 5000 _ (by decide) (by decide)).mono ?_
    rw [show Int.toNat 5000 = 5000 from rfl]
    rintro e u14 ⟨vo, rfl, h_, b_⟩
    have Hf := Aside0.mk (Hf.out.below b_)
    have Hc := Aside0.mk (Hc.out.below b_)
    have HB_ := Aside0.mk (below_then HB0.out b_)
    have Ho := Aside0.mk h_
    clear h_
    clear b_
    have HB0 := HB_
    clear HB_
    go_wp2_with fail
    refine (Pow_calls n _ Ho.out (by decide) (by decide) (by omega) F8.out).mono ?_
    rintro e u15 ⟨vw, rfl, h_, b_⟩
    have Hf := Aside0.mk (Hf.out.below b_)
    have Hc := Aside0.mk (Hc.out.below b_)
    have HB_ := Aside0.mk (below_then HB0.out b_)
    have Hw := Aside0.mk h_
    clear h_
    clear b_
    have HB0 := HB_
    clear HB_
    go_wp2_with fail
    refine (Mul_any _ Hc.out Hw.out F7.out F8.out).mono ?_
    rw [E3.out]
    rintro e u16 ⟨vg, rfl, h_, b_⟩
    have Hf := Aside0.mk (Hf.out.below b_)
    have HB_ := Aside0.mk (below_then HB0.out b_)
    have Hg := Aside0.mk h_
    clear h_
    clear b_
    have HB0 := HB_
    clear HB_
    go_wp2_with fail
    refine (same_calls _ Hf.out Hg.out).mono ?_
    rw [decide_eq_true rfl]
    rintro e u17 ⟨rfl, d_⟩
    have b_ := drawn0_below (Below.refl _ _) d_
    clear d_
    have HB_ := Aside0.mk (below_then HB0.out b_)
    clear b_
    have HB0 := HB_
    clear HB_
    go_wp2_with fail
    go_ret
    exact ⟨rfl, HB0.out⟩
  · have hk0 : 0 = k := by omega
    subst hk0
    have t1 : decide (0 < (n : Int)) = true := decide_eq_true (by omega)
    have E1 := Aside0.mk (show up p (10000 - p) n 0 + 0 = 10000 ^ n from by rw [up_zero, show p + (10000 - p) = 10000 by omega]; rfl)
    have E2 := Aside0.mk (show up p (10000 - p) n (0 + 1) + ch p (10000 - p) n 0 = up p (10000 - p) n 0 from by rw [Nat.add_comm]; exact (up_eq _ _ _ _).symm)
    have E3 := Aside0.mk (show binom n 0 * 5000 ^ n = ch 5000 (10000 - 5000) n 0 from half_ch (by omega))
    have F1 := Aside0.mk (sum_fits (n := n) (x := up p (10000 - p) n 0) (by omega) (by have := E1.out; omega))
    have F2 := Aside0.mk (sum_fits (n := n) (x := 0) (by omega) (by have := E1.out; omega))
    have F3 := Aside0.mk (sum_fits (n := n) (x := up p (10000 - p) n 0 + 0) (by omega) (by have := E1.out; omega))
    have F4 := Aside0.mk (sum_fits (n := n) (x := up p (10000 - p) n (0 + 1)) (by omega) (by have := E1.out; have := E2.out; omega))
    have F5 := Aside0.mk (sum_fits (n := n) (x := ch p (10000 - p) n 0) (by omega) (by have := E1.out; have := E2.out; omega))
    have F6 := Aside0.mk (sum_fits (n := n) (x := up p (10000 - p) n (0 + 1) + ch p (10000 - p) n 0) (by omega) (by have := E1.out; have := E2.out; omega))
    have F7 := Aside0.mk (binom_half n 0 (by omega))
    have F8 := Aside0.mk (pow5_half n (by omega))
    go_enter Try.func9, Try.ntmps9
    go_wp2_with fail
    refine (awake_calls _).mono ?_
    rintro e u1 ⟨rfl, b_⟩
    have HB_ := Aside0.mk (below_then HB0.out b_)
    clear b_
    have HB0 := HB_
    clear HB_
    go_wp2_with fail
    refine (HT.out _).mono ?_
    rintro e u2 ⟨rfl, d_⟩
    have b_ := drawn0_below (Below.refl _ _) d_
    clear d_
    have HB_ := Aside0.mk (below_then HB0.out b_)
    clear b_
    have HB0 := HB_
    clear HB_
    go_wp2_with fail
    refine (HS.out _).mono ?_
    rintro e u3 ⟨rfl, d_⟩
    have b_ := drawn0_below (Below.refl _ _) d_
    clear d_
    have HB_ := Aside0.mk (below_then HB0.out b_)
    clear b_
    have HB0 := HB_
    clear HB_
    go_wp2_with fail
    refine (Upper_ok n 0 p _ (by omega) (by omega) hp).mono ?_
    rintro e u4 ⟨vu, rfl, h_, b_⟩
    have HB_ := Aside0.mk (below_then HB0.out b_)
    have Hu := Aside0.mk h_
    clear h_
    clear b_
    have HB0 := HB_
    clear HB_
    go_wp2_with fail
    refine (Chance_ok n 0 p _ (by omega) (by omega) hp).mono ?_
    rintro e u5 ⟨vx, rfl, h_, b_⟩
    have Hu := Aside0.mk (Hu.out.below b_)
    have HB_ := Aside0.mk (below_then HB0.out b_)
    have Hx := Aside0.mk h_
    clear h_
    clear b_
    have HB0 := HB_
    clear HB_
    go_wp2_with fail
    have b_ := empties_below u5 55 55
    have Hm := Aside0.mk (isN_first u5 55 55)
    have Hz := Aside0.mk (isN_second u5 55 55)
    have Hu := Aside0.mk (Hu.out.below b_)
    have Hx := Aside0.mk (Hx.out.below b_)
    have HB_ := Aside0.mk (below_then HB0.out b_)
    clear b_
    have HB0 := HB_
    clear HB_
    refine (Upper_ok n (0 + 1) p _ (by omega) (by omega) hp).mono ?_
    rintro e u6 ⟨vm, rfl, h_, b_⟩
    have Hu := Aside0.mk (Hu.out.below b_)
    have Hx := Aside0.mk (Hx.out.below b_)
    have Hz := Aside0.mk (Hz.out.below b_)
    have HB_ := Aside0.mk (below_then HB0.out b_)
    have Hm := Aside0.mk h_
    clear h_
    clear b_
    have HB0 := HB_
    clear HB_
    go_wp2_with fail
    refine (Add_calls _ Hu.out Hz.out F1.out F2.out F3.out).mono ?_
    rw [E1.out]
    rintro e u7 ⟨vh, rfl, h_, b_⟩
    have Hu := Aside0.mk (Hu.out.below b_)
    have Hx := Aside0.mk (Hx.out.below b_)
    have Hm := Aside0.mk (Hm.out.below b_)
    have HB_ := Aside0.mk (below_then HB0.out b_)
    have Hh := Aside0.mk h_
    clear h_
    clear b_
    have HB0 := HB_
    clear HB_
    go_wp2_with fail
    refine (Add_calls _ Hm.out Hx.out F4.out F5.out F6.out).mono ?_
    rw [E2.out]
    rintro e u8 ⟨vs, rfl, h_, b_⟩
    have Hu := Aside0.mk (Hu.out.below b_)
    have Hh := Aside0.mk (Hh.out.below b_)
    have HB_ := Aside0.mk (below_then HB0.out b_)
    have Hs := Aside0.mk h_
    clear h_
    clear b_
    have HB0 := HB_
    clear HB_
    go_wp2_with fail
    refine (all_calls n _ (by omega)).mono ?_
    rintro e u9 ⟨va, rfl, h_, b_⟩
    have Hu := Aside0.mk (Hu.out.below b_)
    have Hh := Aside0.mk (Hh.out.below b_)
    have Hs := Aside0.mk (Hs.out.below b_)
    have HB_ := Aside0.mk (below_then HB0.out b_)
    have Ha := Aside0.mk h_
    clear h_
    clear b_
    have HB0 := HB_
    clear HB_
    go_wp2_with fail
    refine (same_calls _ Hh.out Ha.out).mono ?_
    rw [decide_eq_true rfl]
    rintro e u10 ⟨rfl, d_⟩
    have b_ := drawn0_below (Below.refl _ _) d_
    clear d_
    have Hu := Aside0.mk (Hu.out.below b_)
    have Hs := Aside0.mk (Hs.out.below b_)
    have HB_ := Aside0.mk (below_then HB0.out b_)
    clear b_
    have HB0 := HB_
    clear HB_
    go_wp2_with fail
    refine (same_calls _ Hs.out Hu.out).mono ?_
    rw [decide_eq_true rfl]
    rintro e u11 ⟨rfl, d_⟩
    have b_ := drawn0_below (Below.refl _ _) d_
    clear d_
    have HB_ := Aside0.mk (below_then HB0.out b_)
    clear b_
    have HB0 := HB_
    clear HB_
    go_wp2_with fail
    refine (Chance_ok n 0 5000 _ (by omega) (by omega) (by decide)).mono ?_
    rintro e u12 ⟨vf, rfl, h_, b_⟩
    have HB_ := Aside0.mk (below_then HB0.out b_)
    have Hf := Aside0.mk h_
    clear h_
    clear b_
    have HB0 := HB_
    clear HB_
    go_wp2_with fail
    refine (Choose_ok n 0 _ (by omega) (by omega)).mono ?_
    rintro e u13 ⟨vc, rfl, h_, b_⟩
    have Hf := Aside0.mk (Hf.out.below b_)
    have HB_ := Aside0.mk (below_then HB0.out b_)
    have Hc := Aside0.mk h_
    clear h_
    clear b_
    have HB0 := HB_
    clear HB_
    go_wp2_with fail
    refine (Of_calls 5000 _ (by decide) (by decide)).mono ?_
    rw [show Int.toNat 5000 = 5000 from rfl]
    rintro e u14 ⟨vo, rfl, h_, b_⟩
    have Hf := Aside0.mk (Hf.out.below b_)
    have Hc := Aside0.mk (Hc.out.below b_)
    have HB_ := Aside0.mk (below_then HB0.out b_)
    have Ho := Aside0.mk h_
    clear h_
    clear b_
    have HB0 := HB_
    clear HB_
    go_wp2_with fail
    refine (Pow_calls n _ Ho.out (by decide) (by decide) (by omega) F8.out).mono ?_
    rintro e u15 ⟨vw, rfl, h_, b_⟩
    have Hf := Aside0.mk (Hf.out.below b_)
    have Hc := Aside0.mk (Hc.out.below b_)
    have HB_ := Aside0.mk (below_then HB0.out b_)
    have Hw := Aside0.mk h_
    clear h_
    clear b_
    have HB0 := HB_
    clear HB_
    go_wp2_with fail
    refine (Mul_any _ Hc.out Hw.out F7.out F8.out).mono ?_
    rw [E3.out]
    rintro e u16 ⟨vg, rfl, h_, b_⟩
    have Hf := Aside0.mk (Hf.out.below b_)
    have HB_ := Aside0.mk (below_then HB0.out b_)
    have Hg := Aside0.mk h_
    clear h_
    clear b_
    have HB0 := HB_
    clear HB_
    go_wp2_with fail
    refine (same_calls _ Hf.out Hg.out).mono ?_
    rw [decide_eq_true rfl]
    rintro e u17 ⟨rfl, d_⟩
    have b_ := drawn0_below (Below.refl _ _) d_
    clear d_
    have HB_ := Aside0.mk (below_then HB0.out b_)
    clear b_
    have HB0 := HB_
    clear HB_
    go_wp2_with fail
    go_ret
    exact ⟨rfl, HB0.out⟩
  · have hk0 : 0 = k := by omega
    subst hk0
    have hn0 : 0 = n := by omega
    subst hn0
    have E1 := Aside0.mk (show up p (10000 - p) 0 0 + 0 = 10000 ^ 0 from by rw [up_zero]; rfl)
    have E2 := Aside0.mk (show 0 + ch p (10000 - p) 0 0 = up p (10000 - p) 0 0 from by rw [up_eq p (10000 - p) 0 0, up_gt p (10000 - p) 0 (0 + 1) (by omega), Nat.zero_add, Nat.add_zero])
    have E3 := Aside0.mk (show binom 0 0 * 5000 ^ 0 = ch 5000 (10000 - 5000) 0 0 from half_ch (by omega))
    have F1 := Aside0.mk (sum_fits (n := 0) (x := up p (10000 - p) 0 0) (by omega) (by have := E1.out; omega))
    have F2 := Aside0.mk (sum_fits (n := 0) (x := 0) (by omega) (by have := E1.out; omega))
    have F3 := Aside0.mk (sum_fits (n := 0) (x := up p (10000 - p) 0 0 + 0) (by omega) (by have := E1.out; omega))
    have F4 := Aside0.mk (sum_fits (n := 0) (x := 0) (by omega) (by have := E1.out; have := E2.out; omega))
    have F5 := Aside0.mk (sum_fits (n := 0) (x := ch p (10000 - p) 0 0) (by omega) (by have := E1.out; have := E2.out; omega))
    have F6 := Aside0.mk (sum_fits (n := 0) (x := 0 + ch p (10000 - p) 0 0) (by omega) (by have := E1.out; have := E2.out; omega))
    have F7 := Aside0.mk (binom_half 0 0 (by omega))
    have F8 := Aside0.mk (pow5_half 0 (by omega))
    go_enter Try.func9, Try.ntmps9
    go_wp2_with fail
    refine (awake_calls _).mono ?_
    rintro e u1 ⟨rfl, b_⟩
    have HB_ := Aside0.mk (below_then HB0.out b_)
    clear b_
    have HB0 := HB_
    clear HB_
    go_wp2_with fail
    refine (HT.out _).mono ?_
    rintro e u2 ⟨rfl, d_⟩
    have b_ := drawn0_below (Below.refl _ _) d_
    clear d_
    have HB_ := Aside0.mk (below_then HB0.out b_)
    clear b_
    have HB0 := HB_
    clear HB_
    go_wp2_with fail
    refine (HS.out _).mono ?_
    rintro e u3 ⟨rfl, d_⟩
    have b_ := drawn0_below (Below.refl _ _) d_
    clear d_
    have HB_ := Aside0.mk (below_then HB0.out b_)
    clear b_
    have HB0 := HB_
    clear HB_
    go_wp2_with fail
    refine (Upper_ok 0 0 p _ (by omega) (by omega) hp).mono ?_
    rintro e u4 ⟨vu, rfl, h_, b_⟩
    have HB_ := Aside0.mk (below_then HB0.out b_)
    have Hu := Aside0.mk h_
    clear h_
    clear b_
    have HB0 := HB_
    clear HB_
    go_wp2_with fail
    refine (Chance_ok 0 0 p _ (by omega) (by omega) hp).mono ?_
    rintro e u5 ⟨vx, rfl, h_, b_⟩
    have Hu := Aside0.mk (Hu.out.below b_)
    have HB_ := Aside0.mk (below_then HB0.out b_)
    have Hx := Aside0.mk h_
    clear h_
    clear b_
    have HB0 := HB_
    clear HB_
    go_wp2_with fail
    have b_ := empties_below u5 55 55
    have Hm := Aside0.mk (isN_first u5 55 55)
    have Hz := Aside0.mk (isN_second u5 55 55)
    have Hu := Aside0.mk (Hu.out.below b_)
    have Hx := Aside0.mk (Hx.out.below b_)
    have HB_ := Aside0.mk (below_then HB0.out b_)
    clear b_
    have HB0 := HB_
    clear HB_
    refine (Add_calls _ Hu.out Hz.out F1.out F2.out F3.out).mono ?_
    rw [E1.out]
    rintro e u6 ⟨vh, rfl, h_, b_⟩
    have Hu := Aside0.mk (Hu.out.below b_)
    have Hx := Aside0.mk (Hx.out.below b_)
    have Hm := Aside0.mk (Hm.out.below b_)
    have HB_ := Aside0.mk (below_then HB0.out b_)
    have Hh := Aside0.mk h_
    clear h_
    clear b_
    have HB0 := HB_
    clear HB_
    go_wp2_with fail
    refine (Add_calls _ Hm.out Hx.out F4.out F5.out F6.out).mono ?_
    rw [E2.out]
    rintro e u7 ⟨vs, rfl, h_, b_⟩
    have Hu := Aside0.mk (Hu.out.below b_)
    have Hh := Aside0.mk (Hh.out.below b_)
    have HB_ := Aside0.mk (below_then HB0.out b_)
    have Hs := Aside0.mk h_
    clear h_
    clear b_
    have HB0 := HB_
    clear HB_
    go_wp2_with fail
    refine (all_calls 0 _ (by omega)).mono ?_
    rintro e u8 ⟨va, rfl, h_, b_⟩
    have Hu := Aside0.mk (Hu.out.below b_)
    have Hh := Aside0.mk (Hh.out.below b_)
    have Hs := Aside0.mk (Hs.out.below b_)
    have HB_ := Aside0.mk (below_then HB0.out b_)
    have Ha := Aside0.mk h_
    clear h_
    clear b_
    have HB0 := HB_
    clear HB_
    go_wp2_with fail
    refine (same_calls _ Hh.out Ha.out).mono ?_
    rw [decide_eq_true rfl]
    rintro e u9 ⟨rfl, d_⟩
    have b_ := drawn0_below (Below.refl _ _) d_
    clear d_
    have Hu := Aside0.mk (Hu.out.below b_)
    have Hs := Aside0.mk (Hs.out.below b_)
    have HB_ := Aside0.mk (below_then HB0.out b_)
    clear b_
    have HB0 := HB_
    clear HB_
    go_wp2_with fail
    refine (same_calls _ Hs.out Hu.out).mono ?_
    rw [decide_eq_true rfl]
    rintro e u10 ⟨rfl, d_⟩
    have b_ := drawn0_below (Below.refl _ _) d_
    clear d_
    have HB_ := Aside0.mk (below_then HB0.out b_)
    clear b_
    have HB0 := HB_
    clear HB_
    go_wp2_with fail
    refine (Chance_ok 0 0 5000 _ (by omega) (by omega) (by decide)).mono ?_
    rintro e u11 ⟨vf, rfl, h_, b_⟩
    have HB_ := Aside0.mk (below_then HB0.out b_)
    have Hf := Aside0.mk h_
    clear h_
    clear b_
    have HB0 := HB_
    clear HB_
    go_wp2_with fail
    refine (Choose_ok 0 0 _ (by omega) (by omega)).mono ?_
    rintro e u12 ⟨vc, rfl, h_, b_⟩
    have Hf := Aside0.mk (Hf.out.below b_)
    have HB_ := Aside0.mk (below_then HB0.out b_)
    have Hc := Aside0.mk h_
    clear h_
    clear b_
    have HB0 := HB_
    clear HB_
    go_wp2_with fail
    refine (Of_calls 5000 _ (by decide) (by decide)).mono ?_
    rw [show Int.toNat 5000 = 5000 from rfl]
    rintro e u13 ⟨vo, rfl, h_, b_⟩
    have Hf := Aside0.mk (Hf.out.below b_)
    have Hc := Aside0.mk (Hc.out.below b_)
    have HB_ := Aside0.mk (below_then HB0.out b_)
    have Ho := Aside0.mk h_
    clear h_
    clear b_
    have HB0 := HB_
    clear HB_
    go_wp2_with fail
    refine (Pow_calls 0 _ Ho.out (by decide) (by decide) (by omega) F8.out).mono ?_
    rintro e u14 ⟨vw, rfl, h_, b_⟩
    have Hf := Aside0.mk (Hf.out.below b_)
    have Hc := Aside0.mk (Hc.out.below b_)
    have HB_ := Aside0.mk (below_then HB0.out b_)
    have Hw := Aside0.mk h_
    clear h_
    clear b_
    have HB0 := HB_
    clear HB_
    go_wp2_with fail
    refine (Mul_any _ Hc.out Hw.out F7.out F8.out).mono ?_
    rw [E3.out]
    rintro e u15 ⟨vg, rfl, h_, b_⟩
    have Hf := Aside0.mk (Hf.out.below b_)
    have HB_ := Aside0.mk (below_then HB0.out b_)
    have Hg := Aside0.mk h_
    clear h_
    clear b_
    have HB0 := HB_
    clear HB_
    go_wp2_with fail
    refine (same_calls _ Hf.out Hg.out).mono ?_
    rw [decide_eq_true rfl]
    rintro e u16 ⟨rfl, d_⟩
    have b_ := drawn0_below (Below.refl _ _) d_
    clear d_
    have HB_ := Aside0.mk (below_then HB0.out b_)
    clear b_
    have HB0 := HB_
    clear HB_
    go_wp2_with fail
    go_ret
    exact ⟨rfl, HB0.out⟩

end Go.Proofs.Ytenmlkcjgefmpaa
