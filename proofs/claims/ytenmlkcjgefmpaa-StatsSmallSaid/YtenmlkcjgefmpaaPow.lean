/- The contract of Pow, for a base of one limb and small exponents. -/
import Derived.Test.YtenmlkcjgefmpaaNat2
namespace Go.Proofs.Ytenmlkcjgefmpaa
open Go.RowKit Go.Proofs.YtenmlkcjgefmpaaW.PrintWords Go.Proofs.YtenmlkcjgefmpaaW.PrintLast Go.Proofs.YtenmlkcjgefmpaaW.PrintMore Go.Proofs.Ytenmlkcjgefmpaa.Fn

theorem mul_calls {va vb : Value} {x y : Nat} (w : World) (ha : IsN w va x) (hb : IsN w vb y) (hx : Half x) (hy : Half y) :
    Calls Try.prog 62 #[va, vb] w (GivesN w (x * y)) := by
  obtain ⟨xs, A, c, rfl, h2, h3, h4, h5⟩ := ha
  obtain ⟨ys, B, d, rfl, g2, g3, g4, g5⟩ := hb
  have hl := half_len h4 hx
  have hm := half_len g4 hy
  obtain ⟨r, k, r1, r2, r3⟩ := mul_num h4 g4 (by omega) (by omega)
  refine (nat_mul.calls k A c xs B d ys r w h5 h2 g5 g2 r3).mono ?_
  rintro e w' ⟨v, rfl, hv, hb⟩
  exact ⟨v, rfl, IsN.of_V hv r1 (by omega), hb⟩

theorem fit_calls {va : Value} {x : Nat} (w : World) (ha : IsN w va x) : Calls Try.prog 54 #[va] w (GivesNE w x 0) := by
  obtain ⟨xs, A, c, rfl, h2, h3, h4, h5⟩ := ha
  obtain ⟨r, h6, h7, h8⟩ := fit_num h4.dig h4.val (by omega) (by
    have := h4.lt (by decide)
    have := pow_le_pow' (B := (4294967296 : Int)) (by decide) h3
    omega)
  refine (nat_fit.calls _ (fun k => k < w.heap.size) A c xs r 0 w (Kd.V_mk h2 (Kd.C_F (Kd.heap_int _) h5)) (h8 _ (Nat.lt_succ_self _))).mono ?_
  rintro e w' ⟨v, rfl, hv, hb⟩
  exact ⟨v, rfl, IsN.of_V hv h6 h7, hb⟩

theorem one_limb {y : Nat} (hy0 : 0 < y) (hy : y < 4294967296) : Num (4294967296 : Int) [(y : Int)] y := ⟨fun e he => by
  rw [List.mem_singleton.1 he]; omega, fun e he => by
  simp at he; omega, by simp [iv]⟩

theorem pow_half {a m n : Nat} (ha : 2 ≤ a) (h : m ≤ n) (hn : Half (a ^ n)) : Half (a ^ m) := hn.le (Nat.pow_le_pow_right (by omega) h)

/-- between two rounds: t is the half of 2^j, and v the power of what the higher bits are -/
def PowAt (a n : Nat) (t : Int) (W : World) (v : Value) : Prop := ∃ j : Nat, t = ((2 ^ j / 2 : Nat) : Int) ∧ j ≤ 16 ∧ IsN W v (a ^ (n / 2 ^ j))

/-- one round: what the bit is, and what the power becomes -/
theorem PowAt.round {a n : Nat} {t : Int} {W : World} {v : Value} (h : PowAt a n t W v) (ht : 0 < t) (hn : n ≤ 500) (ha : 2 ≤ a) (hf : Half (a ^ n)) :
    ∃ (q b : Nat) (x : Nat), wrap64 ((n : Int) / t) = (q : Int) ∧ (b = 0 ∨ b = 1) ∧ q % 2 = b ∧ IsN W v x ∧ Half x ∧ Half (x * x) ∧ x * x * a ^ b = a ^ q ∧ ∀ (W' : World) (v' : Value), IsN W' v' (a ^ q) → PowAt a n (t / 2) W' v' := by
  obtain ⟨j, hj, hj2, hv⟩ := h
  cases j with
  | zero => simp at hj; omega
  | succ i =>
    have e1 : 2 ^ (i + 1) / 2 = 2 ^ i := by rw [Nat.pow_succ, Nat.mul_div_cancel _ (by decide)]
    rw [e1] at hj
    have e2 : n / 2 ^ (i + 1) = n / 2 ^ i / 2 := by rw [Nat.pow_succ, Nat.div_div_eq_div_mul]
    rw [e2] at hv
    have hq : n / 2 ^ i ≤ n := Nat.div_le_self _ _
    have key : ∀ Q : Nat, Q ≤ n → wrap64 (Q : Int) = (Q : Int) := fun Q h => w64 (by omega) (by omega)
    have ht2 : t / 2 = ((2 ^ i / 2 : Nat) : Int) := by rw [hj]; omega
    have hw : (n : Int) / t = ((n / 2 ^ i : Nat) : Int) := by rw [hj, Int.natCast_ediv]
    refine ⟨n / 2 ^ i, n / 2 ^ i % 2, a ^ (n / 2 ^ i / 2), by rw [hw]; exact key _ hq, by omega, rfl, hv, pow_half ha (by omega) hf, ?_, ?_, fun W' v' hv' => ⟨i, ht2, by omega, hv'⟩⟩
    · rw [← Nat.pow_add]; exact pow_half ha (by omega) hf
    · rw [← Nat.pow_add, ← Nat.pow_add]; congr 1; omega

/-- the power behind k of the factors -/
def powV (x a k : Nat) : Nat := if k = 0 then x else if k = 1 then x * x else x * x * a
theorem powV_0 (x a : Nat) : powV x a 0 = x := rfl
theorem powV_1 (x a : Nat) : powV x a 1 = x * x := rfl
theorem powV_2 (x a : Nat) : powV x a 2 = x * x * a := rfl
def InnerAt (wi : World) (x a : Nat) (k : Nat) (W : World) (v : Value) : Prop := IsN W v (powV x a k) ∧ Below wi.heap.size wi W

set_option maxHeartbeats 2000000 in
set_option maxRecDepth 100000 in
theorem Pow_calls {va : Value} {a : Nat} (n : Nat) (w : World) (hva : IsN w va a) (ha2 : 2 ≤ a) (ha : a < 4294967296) (hn : n ≤ 500) (hf : Half (a ^ n)) :
    Calls Try.prog 34 #[va, .int .i64 n] w (GivesNE w (a ^ n) 0) := by
  have HF := Aside0.mk hf
  clear hf
  obtain ⟨xs, A, c, rfl, h2, h3, h4, h5⟩ := id hva
  have hs : Num (4294967296 : Int) [(a : Int)] a := one_limb (by omega) ha
  obtain rfl := hs.unique (by decide) h4
  obtain ⟨ad, e102, hcell⟩ := Kd.at_int h5 0 (by decide) (by simp)
  cases e102
  have hc0 : w.cell? ad = some (.int .u32 (a : Int)) := hcell
  have hne : ((a : Int) == 1) = false := by rw [beq_eq_false_iff_ne]; omega
  have H5 := Aside0.mk h5
  clear h3 hs hcell h4 h5
  go_enter Try.func34, Try.ntmps34
  go_wp2_with fail
  refine (Right_calls _ hva).mono ?_
  rintro e w1 ⟨rfl, ⟨m, rfl⟩⟩
  go_wp2_with fail
  refine (Of_calls 1 _ (by decide) (by decide)).mono ?_
  rintro e w1 ⟨v1, rfl, hv1, hb1⟩
  have HV := Aside0.mk hv1
  have HB := Aside0.mk (below_step (pw_below_drewN (Below.refl w.heap.size w) m) hb1)
  have hc1 : w1.cell? ad = some (.int .u32 (a : Int)) := by
    have h := Kd.C_below H5.out HB.out
    obtain ⟨ad', e1, h1⟩ := Kd.at_int h 0 (by decide) (by simp)
    cases e1
    exact h1
  clear hv1 hb1 hc0
  have hd1 : decide ((n : Int) < 0) = false := decide_eq_false (by omega)
  have hd2 : decide (32768 < (n : Int)) = false := decide_eq_false (by omega)
  go_wp2_with fail
  clear hc1
  go_loopw [6, 7] (fun v6 v7 W => ∃ (t : Int), v7 = .int .i64 t ∧ 0 ≤ t ∧ t ≤ 32768 ∧ PowAt a n t W v6 ∧ Aside0 (Below w.heap.size w W)) (fun _ v7 _ => (intOf v7).toNat)
  case atStart => exact ⟨32768, rfl, by decide, by decide, ⟨16, rfl, by decide, by rw [Nat.div_eq_of_lt (by omega : n < 2 ^ 16), Nat.pow_zero]; exact HV.out⟩, HB⟩
  case round =>
    clear HV HB
    obtain ⟨t, rfl, ht0, ht1, hpow, HB⟩ := hrel
    by_cases hz : 0 < t
    · have hd3 : decide (0 < t) = true := decide_eq_true hz
      obtain ⟨q, b, x, hw, hb01, hqb, hu6, hx1, hx2, hx3, hnext⟩ := hpow.round hz hn ha2 HF.out
      obtain ⟨os, A6, c6, rfl, o2, o3, o4, o5⟩ := id hu6
      have HU := Aside0.mk hu6
      have HX := Aside0.mk (And.intro hx1 (And.intro hx2 hx3))
      have HN := Aside0.mk hnext
      have ol := half_len o4 hx1
      clear hpow hu6 hx1 hx2 hx3 hnext o3 o4 o5
      have hqb' : (q : Int) % 2 = (b : Int) := by omega
      have hqt : Int.tmod (q : Int) 2 = (b : Int) := by rw [Int.tmod_eq_emod_of_nonneg (by omega)]; exact hqb'
      clear hqb
      obtain ⟨wo, rfl⟩ : ∃ wo : World, wo = wr := ⟨_, rfl⟩
      rcases hb01 with rfl | rfl
      · go_wp2_with fail
        clear hw hqb' hqt
        go_loopw [6, 52] (fun v6 v52 W => ∃ k : Nat, v52 = .int .i64 k ∧ k ≤ 1 ∧ Aside0 (InnerAt (wo.alloc (.cells #[.slice A6 os.length c6, .slice (some ad) 1 c] 28)) x a k W v6)) (fun _ v52 _ => 1 - (intOf v52).toNat)
        case atStart => exact ⟨0, rfl, by omega, ⟨HU.out.alloc _, Below.refl _ _⟩⟩
        case round =>
          obtain ⟨k, rfl, hk, hin'⟩ := hrel
          have hin := hin'.out
          clear hin'
          by_cases hlt : k < 1
          · obtain rfl : k = 0 := by omega
            have hcell : wr.cell? ⟨wo.heap.size, 0, none⟩ = some (.slice A6 os.length c6) := hin.2.cell (p := ⟨wo.heap.size, 0, none⟩) (by simp) |>.trans (by simp [World.cell?_alloc_at])
            obtain ⟨ps, A7, c7, rfl, p2, p3, p4, p5⟩ := id hin.1
            have pl := half_len p4 (show Half (powV x a 0) from HX.out.1)
            have HI := Aside0.mk hin
            clear hin p3 p4 p5
            go_wp2_with fail
            refine (mul_calls _ HI.out.1 (((HU.out.alloc _).below HI.out.2)) HX.out.1 HX.out.1).mono ?_
            rintro e w8 ⟨v8, rfl, hv8, hb8⟩
            have HV8 := Aside0.mk hv8
            have HB8 := Aside0.mk (below_step HI.out.2 hb8)
            clear hv8 hb8
            go_wp2_with fail
            refine (fit_calls _ HV8.out).mono ?_
            rintro e w9 ⟨v9, rfl, hv9, hb9⟩
            have HV9 := Aside0.mk hv9
            have HB9 := Aside0.mk (below_step HB8.out hb9)
            clear hv9 hb9
            go_wp2_with fail
            go_roundw
            case rel => exact ⟨1, rfl, by omega, ⟨by rw [powV_1]; exact HV9.out, HB9.out⟩⟩
            case measure => simp [intOf]
          · obtain rfl : k = 1 := by omega
            have HI := Aside0.mk hin
            clear hin
            go_wp2_with fail
            go_roundw
            case rel => exact ⟨t / 2, rfl, by omega, by omega, HN.out _ _ (by rw [← HX.out.2.2, Nat.pow_zero, Nat.mul_one]; exact HI.out.1), ⟨below_step HB.out (below_step (below_alloc (Below.refl _ _) _) HI.out.2)⟩⟩
            case measure => simp [intOf]; omega
      · go_wp2_with fail
        clear hw hqb' hqt
        go_loopw [6, 52] (fun v6 v52 W => ∃ k : Nat, v52 = .int .i64 k ∧ k ≤ 2 ∧ Aside0 (InnerAt (wo.alloc (.cells #[.slice A6 os.length c6, .slice (some ad) 1 c] 28)) x a k W v6)) (fun _ v52 _ => 2 - (intOf v52).toNat)
        case atStart => exact ⟨0, rfl, by omega, ⟨HU.out.alloc _, Below.refl _ _⟩⟩
        case round =>
          obtain ⟨k, rfl, hk, hin'⟩ := hrel
          have hin := hin'.out
          clear hin'
          by_cases hlt : k < 2
          · rcases (show k = 0 ∨ k = 1 by omega) with hk0 | hk0
            · obtain rfl : k = 0 := hk0
              have hcell : wr.cell? ⟨wo.heap.size, 0, none⟩ = some (.slice A6 os.length c6) := hin.2.cell (p := ⟨wo.heap.size, 0, none⟩) (by simp) |>.trans (by simp [World.cell?_alloc_at])
              obtain ⟨ps, A7, c7, rfl, p2, p3, p4, p5⟩ := id hin.1
              have pl := half_len p4 (show Half (powV x a 0) from HX.out.1)
              have HI := Aside0.mk hin
              clear hin p3 p4 p5
              go_wp2_with fail
              refine (mul_calls _ HI.out.1 (((HU.out.alloc _).below HI.out.2)) HX.out.1 HX.out.1).mono ?_
              rintro e w8 ⟨v8, rfl, hv8, hb8⟩
              have HV8 := Aside0.mk hv8
              have HB8 := Aside0.mk (below_step HI.out.2 hb8)
              clear hv8 hb8
              go_wp2_with fail
              refine (fit_calls _ HV8.out).mono ?_
              rintro e w9 ⟨v9, rfl, hv9, hb9⟩
              have HV9 := Aside0.mk hv9
              have HB9 := Aside0.mk (below_step HB8.out hb9)
              clear hv9 hb9
              go_wp2_with fail
              go_roundw
              case rel => exact ⟨1, rfl, by omega, ⟨by rw [powV_1]; exact HV9.out, HB9.out⟩⟩
              case measure => simp [intOf]
            · obtain rfl : k = 1 := hk0
              have hcell : wr.cell? ⟨wo.heap.size, 1, none⟩ = some (.slice (some ad) 1 c) := hin.2.cell (p := ⟨wo.heap.size, 1, none⟩) (by simp) |>.trans (by simp [World.cell?_alloc_at])
              obtain ⟨ps, A7, c7, rfl, p2, p3, p4, p5⟩ := id hin.1
              have pl := half_len p4 (show Half (powV x a 1) from HX.out.2.1)
              have HI := Aside0.mk hin
              clear hin p3 p4 p5
              go_wp2_with fail
              refine (mul_calls _ HI.out.1 ((((hva.below HB.out).alloc _).below HI.out.2)) HX.out.2.1 (half_small ha)).mono ?_
              rintro e w8 ⟨v8, rfl, hv8, hb8⟩
              have HV8 := Aside0.mk hv8
              have HB8 := Aside0.mk (below_step HI.out.2 hb8)
              clear hv8 hb8
              go_wp2_with fail
              refine (fit_calls _ HV8.out).mono ?_
              rintro e w9 ⟨v9, rfl, hv9, hb9⟩
              have HV9 := Aside0.mk hv9
              have HB9 := Aside0.mk (below_step HB8.out hb9)
              clear hv9 hb9
              go_wp2_with fail
              go_roundw
              case rel => exact ⟨2, rfl, by omega, ⟨by rw [powV_2]; exact HV9.out, HB9.out⟩⟩
              case measure => simp [intOf]
          · obtain rfl : k = 2 := by omega
            have HI := Aside0.mk hin
            clear hin
            go_wp2_with fail
            go_roundw
            case rel => exact ⟨t / 2, rfl, by omega, by omega, HN.out _ _ (by rw [← HX.out.2.2, Nat.pow_one]; exact HI.out.1), ⟨below_step HB.out (below_step (below_alloc (Below.refl _ _) _) HI.out.2)⟩⟩
            case measure => simp [intOf]; omega
    · obtain rfl : t = 0 := by omega
      obtain ⟨j, hj, _, hv⟩ := hpow
      have hj0 : j = 0 := by
        cases j with
        | zero => rfl
        | succ i =>
          rw [Nat.pow_succ, Nat.mul_div_cancel _ (by decide)] at hj
          have := Nat.two_pow_pos i
          omega
      rw [hj0, Nat.pow_zero, Nat.div_one] at hv
      have HV := Aside0.mk hv
      clear hv hj hj0
      go_wp2_with fail
      go_ret2
      exact ⟨u6, rfl, HV.out, HB.out⟩

end Go.Proofs.Ytenmlkcjgefmpaa
