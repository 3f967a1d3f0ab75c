/- Contracts of the functions on natural numbers: what a slice of limbs stands for, and what one, Mul, mul, Cmp, same give. Each under the bound of 900 limbs. -/
import Derived.Test.YtenmlkcjgefmpaaFunA
import Derived.WalkSpells
namespace Go.Proofs.Ytenmlkcjgefmpaa
open Go.RowKit Go.Proofs.YtenmlkcjgefmpaaW.PrintWords Go.Proofs.YtenmlkcjgefmpaaW.PrintLast Go.Proofs.YtenmlkcjgefmpaaW.PrintMore Go.Proofs.Ytenmlkcjgefmpaa.Fn

/-- The slice v reads as the natural number x. -/
def IsN (w : World) (v : Value) (x : Nat) : Prop :=
  ∃ (xs : List Int) (A : Option Addr) (c : Nat), v = .slice A xs.length c ∧ xs.length ≤ c ∧ xs.length ≤ 1024 ∧ Num (4294967296 : Int) xs x ∧ Kd.C (Kd.int .u32) w A xs.length xs

/-- It has at most 900 limbs. -/
def Fits (x : Nat) : Prop := (x : Int) < (4294967296 : Int) ^ 900

/-- It has at most 400 limbs. -/
def Half (x : Nat) : Prop := (x : Int) < (4294967296 : Int) ^ 400

def GivesN (w : World) (x : Nat) (e : Ending) (w' : World) : Prop := ∃ v, e = .returned v ∧ IsN w' v x ∧ Below w.heap.size w w'
def GivesNE (w : World) (x : Nat) (err : Int) (e : Ending) (w' : World) : Prop := ∃ v, e = .returned (.tuple #[v, .int .i64 err]) ∧ IsN w' v x ∧ Below w.heap.size w w'

theorem IsN.below {w w' : World} {v : Value} {x : Nat} (h : IsN w v x) (hb : Below w.heap.size w w') : IsN w' v x := by
  obtain ⟨xs, A, c, h1, h2, h3, h4, h5⟩ := h
  exact ⟨xs, A, c, h1, h2, h3, h4, Kd.C_below h5 hb⟩
theorem IsN.drewN {w : World} {v : Value} {x : Nat} (h : IsN w v x) (n : Nat) : IsN (w.drewN n) v x := h.below (pw_below_drewN (Below.refl _ _) n)
theorem IsN.drew {w : World} {v : Value} {x : Nat} (h : IsN w v x) : IsN w.drew v x := h.drewN 1
theorem IsN.alloc {w : World} {v : Value} {x : Nat} (h : IsN w v x) (o : Obj) : IsN (w.alloc o) v x := h.below (below_alloc (Below.refl _ _) o)
theorem IsN.nil (w : World) : IsN w (.slice none 0 0) 0 := ⟨[], none, 0, rfl, Nat.le_refl _, by simp, Num.zero _, Kd.C_nil _ _⟩

theorem IsN.of_V {w : World} {e base : Nat} {ok : Nat → Prop} {v : Value} {xs : List Int} {x : Nat} (h : Kd.V (Kd.int .u32) e w base ok v xs) (hn : Num (4294967296 : Int) xs x) (hl : xs.length ≤ 1024) : IsN w v x := by
  obtain ⟨A, c, h1, h2, h3⟩ := h
  exact ⟨xs, A, c, h1, h2, hl, hn, Kd.F_now h3⟩
theorem IsN.of_R {w : World} {e base : Nat} {ok : Nat → Prop} {v : Value} {xs : List Int} {x : Nat} (h : Kd.R (Kd.int .u32) e w base ok v xs) (hn : Num (4294967296 : Int) xs x) (hl : xs.length ≤ 1024) : IsN w v x := by
  obtain ⟨A, c, h1, h2, h3⟩ := Kd.R_reads h
  exact ⟨xs, A, c, h1, h2, hl, hn, h3⟩

theorem fits_len {xs : List Int} {x : Nat} (h : Num (4294967296 : Int) xs x) (hx : Fits x) : xs.length ≤ 900 := h.len_le (by decide) hx
theorem fits_1024 {x : Nat} (hx : Fits x) : (x : Int) < (4294967296 : Int) ^ 1024 := Int.lt_of_lt_of_le hx (pow_le_pow' (by decide) (by decide))
theorem Fits.le {x y : Nat} (h : Fits y) (hx : x ≤ y) : Fits x := by unfold Fits at *; omega

theorem half_len {xs : List Int} {x : Nat} (h : Num (4294967296 : Int) xs x) (hx : Half x) : xs.length ≤ 400 := h.len_le (by decide) hx
theorem Half.le {x y : Nat} (h : Half y) (hx : x ≤ y) : Half x := by unfold Half at *; omega
theorem half_small {x : Nat} (h : x < 4294967296) : Half x := by
  have h2 := pow_le_pow' (B := (4294967296 : Int)) (by decide) (show 1 ≤ 400 by decide)
  have e : (4294967296 : Int) ^ 1 = (4294967296 : Int) := by simp
  unfold Half
  omega
theorem Half.fits {x : Nat} (h : Half x) : Fits x := Int.lt_of_lt_of_le h (pow_le_pow' (by decide) (by decide))
theorem Half.mul {x y : Nat} (hx : Half x) (hy : Half y) : Fits (x * y) := by
  unfold Half at hx hy
  have h1 : 0 ≤ (4294967296 : Int) ^ 400 := Int.le_of_lt (pow_pos' (by decide) 400)
  have h2 : (x : Int) * (y : Int) ≤ (4294967296 : Int) ^ 400 * (4294967296 : Int) ^ 400 := Int.mul_le_mul (Int.le_of_lt hx) (Int.le_of_lt hy) (by omega) h1
  rw [← Int.pow_add] at h2
  have h3 : (4294967296 : Int) ^ (400 + 400) < (4294967296 : Int) ^ 900 := by
    have h4 := pow_le_pow' (B := (4294967296 : Int)) (by decide) (show 400 + 400 + 1 ≤ 900 by decide)
    rw [Int.pow_succ] at h4
    have h5 := pow_pos' (B := (4294967296 : Int)) (by decide) (400 + 400)
    omega
  unfold Fits
  rw [Int.natCast_mul]
  omega

theorem drawn_below {w w' : World} (h : Drawn0 w w') : Below w.heap.size w w' := by
  obtain ⟨n, rfl⟩ := h
  exact pw_below_drewN (Below.refl _ _) n

theorem one_calls (a : Int) (w : World) (h0 : 0 ≤ a) (h1 : a < 9223372036854775808) : Calls Try.prog 48 #[.int .i64 a] w (GivesN w a.toNat) := by
  obtain ⟨n, rfl⟩ := Int.eq_ofNat_of_zero_le h0
  obtain ⟨r, hl, hn, hk⟩ := one_num n (by omega)
  refine (stats_one.calls 3 (n : Int) r w (hk 3 (by omega))).mono ?_
  rintro e w' ⟨v, rfl, hv, hb⟩
  exact ⟨v, rfl, IsN.of_V hv (by rw [Int.toNat_natCast]; exact hn) (by omega), hb⟩

theorem Of_calls (a : Int) (w : World) (h0 : 0 ≤ a) (h1 : a < 18446744073709551616) : Calls Try.prog 35 #[.int .u64 a] w (GivesN w a.toNat) := by
  obtain ⟨n, rfl⟩ := Int.eq_ofNat_of_zero_le h0
  obtain ⟨r, hl, hn, hk⟩ := of_num n (by omega)
  refine (nat_Of.calls 3 (n : Int) r w (hk 3 (by omega))).mono ?_
  rintro e w' ⟨v, rfl, hv, hb⟩
  exact ⟨v, rfl, IsN.of_V hv (by rw [Int.toNat_natCast]; exact hn) (by omega), hb⟩

theorem Right_calls {va : Value} {x : Nat} (w : World) (ha : IsN w va x) : Calls Try.prog 52 #[va] w fun e w' => e = .returned (.bool true) ∧ Drawn0 w w' := by
  obtain ⟨xs, A, c, rfl, h2, h3, h4, h5⟩ := ha
  exact nat_Right.calls A c xs true w h5 h2 (right_num h4 h3)

theorem Mul_calls {va vb : Value} {x y : Nat} (w : World) (ha : IsN w va x) (hb : IsN w vb y) (hx : Fits x) (hy : y < 4294967296) (hxy : Fits (x * y)) : Calls Try.prog 36 #[va, vb] w (GivesNE w (x * y) 0) := by
  obtain ⟨xs, A, c, rfl, h2, h3, h4, h5⟩ := ha
  obtain ⟨ys, B, d, rfl, g2, g3, g4, g5⟩ := hb
  have hl := fits_len h4 hx
  have hm : ys.length ≤ 1 := g4.len_le (by decide) (by simp; omega)
  obtain ⟨r, k, r1, r2, r3⟩ := Mul_num h4 g4 h3 g3 (by omega) (fits_1024 hxy)
  refine (nat_Mul.calls k A c xs B d ys r 0 w h5 h2 g5 g2 r3).mono ?_
  rintro e w' ⟨v, rfl, hv, hb⟩
  exact ⟨v, rfl, IsN.of_V hv r1 r2, hb⟩

theorem Mul_any {va vb : Value} {x y : Nat} (w : World) (ha : IsN w va x) (hb : IsN w vb y) (hx : Half x) (hy : Half y) : Calls Try.prog 36 #[va, vb] w (GivesNE w (x * y) 0) := by
  obtain ⟨xs, A, c, rfl, h2, h3, h4, h5⟩ := ha
  obtain ⟨ys, B, d, rfl, g2, g3, g4, g5⟩ := hb
  have hl := half_len h4 hx
  have hm := half_len g4 hy
  obtain ⟨r, k, r1, r2, r3⟩ := Mul_num h4 g4 h3 g3 (by omega) (fits_1024 (hx.mul hy))
  refine (nat_Mul.calls k A c xs B d ys r 0 w h5 h2 g5 g2 r3).mono ?_
  rintro e w' ⟨v, rfl, hv, hb⟩
  exact ⟨v, rfl, IsN.of_V hv r1 r2, hb⟩

theorem smul_calls {va : Value} {x : Nat} (y : Int) (w : World) (ha : IsN w va x) (hx : Fits x) (hy0 : 0 ≤ y) (hy : y < 9223372036854775808) (hxy : Fits (x * y.toNat)) : Calls Try.prog 49 #[va, .int .i64 y] w (GivesN w (x * y.toNat)) := by
  obtain ⟨n, rfl⟩ := Int.eq_ofNat_of_zero_le hy0
  rw [Int.toNat_natCast] at hxy ⊢
  obtain ⟨xs, A, c, rfl, h2, h3, h4, h5⟩ := ha
  have hl := fits_len h4 hx
  obtain ⟨r, k, r1, r2, r3⟩ := smul_num h4 (by omega) (by omega) (fits_1024 hxy)
  refine (stats_mul.calls k A c xs (n : Int) r w h5 h2 r3).mono ?_
  rintro e w' ⟨v, rfl, hv, hb⟩
  exact ⟨v, rfl, IsN.of_V hv r1 r2, hb⟩

/-- what a comparison gives -/
def cmpI (x y : Nat) : Int := if x < y then -1 else if y < x then 1 else 0
theorem cmpI_pos (x y : Nat) : decide (cmpI x y > 0) = decide (y < x) := by
  unfold cmpI
  by_cases h1 : x < y
  · rw [if_pos h1, decide_eq_false (by omega), decide_eq_false (by omega)]
  · rw [if_neg h1]
    by_cases h2 : y < x
    · rw [if_pos h2, decide_eq_true (by omega), decide_eq_true h2]
    · rw [if_neg h2, decide_eq_false (by omega), decide_eq_false h2]

theorem cmp_calls {va vb : Value} {x y : Nat} (w : World) (ha : IsN w va x) (hb : IsN w vb y) : Calls Try.prog 55 #[va, vb] w fun e w' => e = .returned (.int .i64 (cmpI x y)) ∧ Drawn0 w w' := by
  obtain ⟨xs, A, c, rfl, h2, h3, h4, h5⟩ := ha
  obtain ⟨ys, B, d, rfl, g2, g3, g4, g5⟩ := hb
  obtain ⟨k, hk⟩ := cmp_num h4 g4 (by omega)
  exact nat_cmp.calls k A c xs B d ys _ w h5 h2 g5 g2 hk

theorem same_calls {va vb : Value} {x y : Nat} (w : World) (ha : IsN w va x) (hb : IsN w vb y) : Calls Try.prog 31 #[va, vb] w fun e w' => e = .returned (.bool (decide (x = y))) ∧ Drawn0 w w' := by
  obtain ⟨xs, A, c, rfl, h2, h3, h4, h5⟩ := ha
  obtain ⟨ys, B, d, rfl, g2, g3, g4, g5⟩ := hb
  obtain ⟨k, hk⟩ := same_num (a := xs) (b := ys) (by omega)
  have e : decide (xs = ys) = decide (x = y) := by
    by_cases hxy : x = y
    · subst hxy
      rw [decide_eq_true (h4.unique (by decide) g4), decide_eq_true rfl]
    · rw [decide_eq_false hxy, decide_eq_false]
      rintro rfl
      exact hxy (h4.eq_val g4)
  rw [e] at hk
  exact letterbaglaw04_same.calls k A c xs B d ys _ w h5 h2 g5 g2 hk

end Go.Proofs.Ytenmlkcjgefmpaa
