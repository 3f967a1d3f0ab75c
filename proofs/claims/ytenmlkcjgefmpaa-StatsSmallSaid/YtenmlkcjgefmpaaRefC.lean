/- What the reference's limbs, Choose, Chance, Upper and Lower give. Plain lists of digits. -/
import Derived.Test.YtenmlkcjgefmpaaFnG
import Derived.Test.YtenmlkcjgefmpaaFnH
import Derived.Test.YtenmlkcjgefmpaaRefB
namespace Go.Proofs.Ytenmlkcjgefmpaa
set_option linter.unusedVariables false
open Go.RowKit Go.Proofs.YtenmlkcjgefmpaaW.PrintWords Go.Proofs.Ytenmlkcjgefmpaa.Fn

/-! ### limbs -/
theorem ref_cut_law : ∀ (n : Nat) (xs : List Int), xs.length = n → n ≤ 1000000 →
    ∃ m, m ≤ n ∧ Ev (fun k => letterbagref04_limbs.l2 k xs) (xs.take m) ∧ Top (xs.take m) ∧ ∀ j, m ≤ j → dat xs j = 0 := by
  intro n
  induction n with
  | zero =>
    intro xs hl _
    refine ⟨0, Nat.le_refl _, Ev.done (fun k => ?_), fun d h => by simp at h, fun j _ => dat_of_ge (by omega)⟩
    simp only [letterbagref04_limbs.l2]
    rw [if_neg (by omega), List.length_eq_zero_iff.1 hl]; rfl
  | succ n ih =>
    intro xs hl hn
    have e1 := Aside0.mk (show wrap64 ((xs.length : Int) - 1) = (n : Int) by rw [w64 (by omega) (by omega)]; omega)
    have e2 : rd xs (n : Int) = dat xs n := by rw [rd_dat]; simp
    by_cases hz : dat xs n = 0
    · obtain ⟨m, h1, h2, h3, h4⟩ := ih (xs.take n) (by rw [List.length_take]; omega) (by omega)
      refine ⟨m, by omega, Ev.step (g := fun k => letterbagref04_limbs.l2 k (xs.take n)) (fun k => ?_) ?_, ?_, fun j hj => ?_⟩
      · simp only [letterbagref04_limbs.l2]
        rw [if_pos (by omega), e1.out, if_pos (by omega), if_pos (by omega), e2, if_pos (show (n : Int) ≤ (xs.length : Int) by omega), if_pos hz, Int.toNat_natCast]
      · rw [List.take_take, Nat.min_eq_left h1] at h2; exact h2
      · rw [List.take_take, Nat.min_eq_left h1] at h3; exact h3
      · rcases Nat.lt_trichotomy j n with hjn | hjn | hjn
        · rw [← dat_take hjn]; exact h4 j hj
        · rw [hjn]; exact hz
        · exact dat_of_ge (by omega)
    · refine ⟨n + 1, Nat.le_refl _, Ev.done (fun k => ?_), ?_, fun j hj => dat_of_ge (by omega)⟩
      · simp only [letterbagref04_limbs.l2]
        rw [if_pos (by omega), e1.out, if_pos (by omega), if_pos (by omega), e2, if_pos (show (n : Int) ≤ (xs.length : Int) by omega), if_neg hz, ← hl, List.take_length]
      · rw [← hl, List.take_length, top_iff]
        intro _
        rw [hl, Nat.add_sub_cancel]; exact hz

theorem ref_cut {xs : List Int} {x : Nat} (hd : Dig (4294967296 : Int) xs) (hv : iv (4294967296 : Int) xs = (x : Int)) (hl : xs.length ≤ 1000000) :
    ∃ r, Num (4294967296 : Int) r x ∧ Ev (fun k => letterbagref04_limbs.l2 k xs) r := by
  obtain ⟨m, h1, h2, h3, h4⟩ := ref_cut_law xs.length xs rfl hl
  exact ⟨xs.take m, ⟨hd.take m, h3, by rw [iv_take_zero (4294967296 : Int) h4]; exact hv⟩, h2⟩

/-- one division of all digits by 65536, from the digit i - 1 downwards -/
theorem ref_pass (o : List Int) (low : Bool) : ∀ (i : Nat) (xs : List Int) (c : Int), i ≤ xs.length → xs.length ≤ 1000000 → Dig 10000 xs → 0 ≤ c → c < 65536 →
    ∃ ys c', ys.length = xs.length ∧ Dig 10000 ys ∧ 0 ≤ c' ∧ c' < 65536 ∧ (∀ j, i ≤ j → dat ys j = dat xs j) ∧ c * 10000 ^ i + iv 10000 (xs.take i) = 65536 * iv 10000 (ys.take i) + c' ∧
      ∀ r, Ev (fun k => letterbagref04_limbs.l1 k o low ys c' (-1)) r → Ev (fun k => letterbagref04_limbs.l1 k o low xs c ((i : Int) - 1)) r := by
  intro i
  induction i with
  | zero =>
    intro xs c hi hl hd h0 h1
    exact ⟨xs, c, rfl, hd, h0, h1, fun _ _ => rfl, by simp [iv], fun r h => h⟩
  | succ i ih =>
    intro xs c hi hl hd h0 h1
    have da := dat_dig hd (by decide) i
    obtain ⟨s, hs⟩ : ∃ s, s = c * 10000 + dat xs i := ⟨_, rfl⟩
    have hq0 : 0 ≤ s / 65536 := by omega
    have hq1 : s / 65536 < 10000 := by omega
    have hm0 : 0 ≤ s % 65536 := by omega
    have hm1 : s % 65536 < 65536 := by omega
    obtain ⟨ys, c', g1, g2, g3, g4, g5, g6, g7⟩ := ih (xs.set i (s / 65536)) (s % 65536) (by rw [List.length_set]; omega) (by rw [List.length_set]; omega) (hd.set _ hq0 hq1) hm0 hm1
    refine ⟨ys, c', by rw [g1, List.length_set], g2, g3, g4, fun j hj => ?_, ?_, fun r hev => Ev.step (fun k => ?_) (g7 r hev)⟩
    · rw [g5 j (by omega), dat_set_ne (by omega)]
    · have hyi : dat ys i = s / 65536 := by rw [g5 i (Nat.le_refl _), dat_set_self (by omega)]
      have hlen : i < ys.length := by rw [g1, List.length_set]; omega
      rw [iv_take_succ 10000 hlen, iv_take_succ 10000 (show i < xs.length by omega), hyi, Int.pow_succ]
      have htk : (xs.set i (s / 65536)).take i = xs.take i := by rw [List.take_set_of_le (Nat.le_refl _)]
      rw [htk] at g6
      generalize iv 10000 (List.take i ys) = u at g6 ⊢
      generalize iv 10000 (List.take i xs) = v at g6 ⊢
      generalize (10000 : Int) ^ i = P at g6 ⊢
      have e1 : s = 65536 * (s / 65536) + s % 65536 := by omega
      generalize s / 65536 = q at e1 g6 ⊢
      generalize s % 65536 = m at e1 g6 ⊢
      have e2 : c * (P * 10000) + (v + P * dat xs i) = P * s + v := by
        rw [hs, Int.mul_add, Int.mul_comm P (c * 10000), Int.mul_assoc c 10000 P, Int.mul_comm 10000 P]; omega
      have e3 : P * s = 65536 * (P * q) + m * P := by
        rw [e1, Int.mul_add, Int.mul_comm P m, ← Int.mul_assoc, Int.mul_comm P 65536, Int.mul_assoc]
      rw [e2, e3, Int.mul_add]; omega
    · have er : rd xs (i : Int) = dat xs i := by rw [rd_dat]; simp
      have e1 : ((i + 1 : Nat) : Int) - 1 = (i : Int) := by omega
      simp only [letterbagref04_limbs.l1]
      rw [e1, if_pos (by omega), if_pos (by omega), if_pos (by omega), er, w64 (n := c * 10000) (by omega) (by omega), ← hs, w64 (n := s) (by omega) (by omega), Int.tdiv_eq_ediv_of_nonneg (by omega), Int.tmod_eq_emod_of_nonneg (by omega), w64 (n := s / 65536) (by omega) (by omega), w64 (n := (i : Int) - 1) (by omega) (by omega), Int.toNat_natCast]

theorem ref_limbs_loop (T : Nat) : ∀ (m : Nat) (v : Nat) (o : List Int) (low : Bool) (xs : List Int), (v : Int) < 65536 ^ m → m + o.length ≤ 100000 → Dig (4294967296 : Int) o → Dec xs v → xs.length ≤ 100000 →
    (low = true → (T : Int) = iv (4294967296 : Int) o + (4294967296 : Int) ^ o.length * v) → (low = false → 0 < o.length ∧ dat o (o.length - 1) < 65536 ∧ (T : Int) = iv (4294967296 : Int) o + (4294967296 : Int) ^ (o.length - 1) * (65536 * v)) →
    ∃ r, Num (4294967296 : Int) r T ∧ Ev (fun k => letterbagref04_limbs.l0 k o low xs) r := by
  intro m
  have fin : ∀ (o : List Int) (low : Bool) (xs : List Int), o.length ≤ 100000 → Dig (4294967296 : Int) o → Dec xs 0 → xs.length ≤ 100000 → (T : Int) = iv (4294967296 : Int) o → ∃ r, Num (4294967296 : Int) r T ∧ Ev (fun k => letterbagref04_limbs.l0 k o low xs) r := by
    intro o low xs h1 h2 h3 h4 h5
    obtain ⟨t, t1, t2, t3⟩ := ref_trim h3 (by omega)
    obtain ⟨r, r1, r2⟩ := ref_cut h2 h5.symm (by omega)
    have ht := (t1.nil_iff (by decide)).2 rfl
    refine ⟨r, r1, Ev.step (g := fun k => (letterbagref04_trim.f k xs).bind fun t458 => (if (t458.length : Int) > 0 then (letterbagref04_limbs.l1 k o low xs 0 (wrap64 ((xs.length : Int) - 1))) else (letterbagref04_limbs.l2 k o))) (fun k => ?_) (Ev.bind t3 ?_)⟩
    · simp only [letterbagref04_limbs.l0]
    · refine Ev.same (fun k => ?_) r2
      show (if (t.length : Int) > 0 then _ else _) = _
      rw [if_neg (by omega)]
  induction m with
  | zero =>
    intro v o low xs hv hm hd hx hl ht hf
    have hv0 : v = 0 := by simp at hv; omega
    subst hv0
    refine fin o low xs (by omega) hd hx hl ?_
    cases low
    · have := (hf rfl).2.2; simpa using this
    · have := ht rfl; simpa using this
  | succ m ih =>
    intro v o low xs hv hm hd hx hl ht hf
    by_cases hv0 : v = 0
    · subst hv0
      refine fin o low xs (by omega) hd hx hl ?_
      cases low
      · have := (hf rfl).2.2; simpa using this
      · have := ht rfl; simpa using this
    · obtain ⟨t, t1, t2, t3⟩ := ref_trim hx (by omega)
      have htl : 0 < t.length := by
        have := t1.nil_iff (by decide)
        omega
      obtain ⟨ys, c, g1, g2, g3, g4, g5, g6, g7⟩ := ref_pass o low xs.length xs 0 (Nat.le_refl _) (by omega) hx.dig (by decide) (by decide)
      have e0 : (0 : Int) * 10000 ^ xs.length + iv 10000 (xs.take xs.length) = (v : Int) := by rw [List.take_length, hx.val, Int.zero_mul, Int.zero_add]
      have e1 : ys.take xs.length = ys := by rw [← g1, List.take_length]
      rw [e0, e1] at g6
      obtain ⟨v', hv'⟩ := Int.eq_ofNat_of_zero_le (iv_nonneg (B := 10000) (by decide) g2)
      rw [hv'] at g6
      have hlt : (v' : Int) < 65536 ^ m := by
        rw [Int.pow_succ] at hv
        omega
      have el := Aside0.mk (show ((xs.length : Nat) : Int) - 1 = wrap64 ((xs.length : Int) - 1) by rw [w64 (by omega) (by omega)])
      have main : ∃ o' , m + o'.length ≤ 100000 ∧ Dig (4294967296 : Int) o' ∧ ((!low) = true → (T : Int) = iv (4294967296 : Int) o' + (4294967296 : Int) ^ o'.length * v') ∧ ((!low) = false → 0 < o'.length ∧ dat o' (o'.length - 1) < 65536 ∧ (T : Int) = iv (4294967296 : Int) o' + (4294967296 : Int) ^ (o'.length - 1) * (65536 * v')) ∧ ∀ r, Ev (fun k => letterbagref04_limbs.l0 k o' (!low) ys) r → Ev (fun k => letterbagref04_limbs.l1 k o low ys c (-1)) r := by
        cases low
        · obtain ⟨f1, f2, f3⟩ := hf rfl
          have dl := dat_dig hd (by decide) (o.length - 1)
          have ew := Aside0.mk (show wrap64 ((o.length : Int) - 1) = ((o.length - 1 : Nat) : Int) by rw [w64 (by omega) (by omega)]; omega)
          have er : rd o ((o.length - 1 : Nat) : Int) = dat o (o.length - 1) := by rw [rd_dat, Int.toNat_natCast]
          refine ⟨o.set (o.length - 1) (dat o (o.length - 1) + c * 65536), by rw [List.length_set]; omega, hd.set _ (by omega) (by omega), fun _ => ?_, fun h => (by cases h), fun r hev => Ev.step (fun k => ?_) hev⟩
          · rw [List.length_set, iv_set (4294967296 : Int) _ o _ (by omega), f3]
            obtain ⟨l, hlen⟩ : ∃ l, o.length = l + 1 := ⟨o.length - 1, by omega⟩
            rw [hlen, Nat.add_sub_cancel, Int.pow_succ, g6]
            generalize ((4294967296 : Int) : Int) ^ l = P
            have e2 : dat o l + c * 65536 - dat o l = 65536 * c := by omega
            rw [e2, Int.mul_assoc, Int.add_assoc, ← Int.mul_add]
            congr 2
            omega
          · simp only [letterbagref04_limbs.l1]
            rw [if_neg (by decide), if_neg (by decide), ew.out, if_pos (by omega), if_pos (by omega), er, Int.emod_eq_of_lt (a := c) (by omega) (by omega), Int.emod_eq_of_lt (a := c * 65536) (by omega) (by omega), Int.emod_eq_of_lt (a := dat o (o.length - 1) + c * 65536) (by omega) (by omega), Int.toNat_natCast]
        · have f3 := ht rfl
          refine ⟨o ++ [c], by simp; omega, hd.snoc g3 (by omega), fun h => (by cases h), fun _ => ⟨by simp, ?_, ?_⟩, fun r hev => Ev.step (fun k => ?_) hev⟩
          · rw [List.length_append, List.length_singleton, Nat.add_sub_cancel]
            have : dat (o ++ [c]) o.length = c := by
              unfold dat
              rw [List.getD_eq_getElem?_getD, List.getElem?_append_right (Nat.le_refl _), Nat.sub_self]; rfl
            rw [this]; exact g4
          · rw [List.length_append, List.length_singleton, Nat.add_sub_cancel, iv_snoc, f3, g6, Int.add_assoc, ← Int.mul_add, Int.add_comm c]
          · simp only [letterbagref04_limbs.l1]
            rw [if_neg (by decide), if_pos trivial, if_pos (by omega), Int.emod_eq_of_lt (a := c) (by omega) (by omega)]
      obtain ⟨o', p1, p2, p3, p4, p5⟩ := main
      obtain ⟨r, r1, r2⟩ := ih v' o' (!low) ys hlt p1 p2 ⟨g2, hv'⟩ (by omega) p3 p4
      refine ⟨r, r1, Ev.step (g := fun k => (letterbagref04_trim.f k xs).bind fun t458 => (if (t458.length : Int) > 0 then (letterbagref04_limbs.l1 k o low xs 0 (wrap64 ((xs.length : Int) - 1))) else (letterbagref04_limbs.l2 k o))) (fun k => ?_) (Ev.bind t3 ?_)⟩
      · simp only [letterbagref04_limbs.l0]
      · refine Ev.same (fun k => ?_) (g7 r (p5 r r2))
        show (if (t.length : Int) > 0 then _ else _) = _
        rw [if_pos (by omega), ← el.out]

theorem pow_base_le (n : Nat) : (10000 : Int) ^ n ≤ 65536 ^ n := by
  induction n with
  | zero => simp
  | succ n ih =>
    rw [Int.pow_succ, Int.pow_succ]
    have := pow_pos' (B := (10000 : Int)) (by decide) n
    omega

theorem ref_limbs {xs : List Int} {x : Nat} (h : Dec xs x) (hl : xs.length ≤ 100000) : ∃ r, Num (4294967296 : Int) r x ∧ Ev (fun k => letterbagref04_limbs.f k xs) r := by
  have h1 := iv_lt (B := 10000) (by decide) h.dig
  rw [h.val] at h1
  have h2 := pow_base_le xs.length
  obtain ⟨r, r1, r2⟩ := ref_limbs_loop x xs.length x [] true xs (by omega) (by simpa using hl) (Dig.nil _) h hl (fun _ => by simp [iv]) (fun h => by cases h)
  refine ⟨r, r1, Ev.same (fun k => ?_) r2⟩
  unfold letterbagref04_limbs.f
  rw [Option.bind_some, if_pos (by simp; omega), List.nil_append]

/-! ### Chance, Upper, Lower -/
theorem ref_all_len {n s x : Nat} {t : List Int} (hs : s ≤ 10000) (hn : n ≤ 500) (h : Num 10000 t x) (hx : x ≤ (s + (10000 - s)) ^ n) : t.length ≤ 100000 := by
  rw [show s + (10000 - s) = 10000 by omega] at hx
  have := num_len h hx
  omega

theorem ref_Chance (n k s : Nat) (hn : n ≤ 500) (hk : k ≤ n) (hs : s ≤ 10000) : ∃ r, Num (4294967296 : Int) r (ch s (10000 - s) n k) ∧ Ev (fun f => letterbagref04_Chance.f f (n : Int) (k : Int) (s : Int)) (r, 0) := by
  have hw := ref_wrong (n : Int) (k : Int) (s : Int) 0 10000
  rw [wrongE_zero (by omega)] at hw
  obtain ⟨t, t1, t2⟩ := ref_sum n s k k hn hs hk (by omega)
  obtain ⟨r, r1, r2⟩ := ref_limbs (Dec.of_num t1) (ref_all_len hs hn t1 (span_le _ _ _ _ _))
  rw [span_self] at r1
  exact ⟨r, r1, Ev.wrong0 (g := fun f => (letterbagref04_sum.f f (n : Int) (s : Int) (k : Int) (k : Int)).bind fun t504 => (letterbagref04_limbs.f f t504).bind fun t507 => some (t507, 0)) (h := fun t => some ([], t)) hw (Ev.bind (g := fun t504 f => (letterbagref04_limbs.f f t504).bind fun t507 => some (t507, 0)) t2 (Ev.bind (g := fun t507 _ => some (t507, 0)) r2 (Ev.pure _)))⟩

theorem ref_Upper (n k s : Nat) (hn : n ≤ 500) (hk : k ≤ n) (hs : s ≤ 10000) : ∃ r, Num (4294967296 : Int) r (up s (10000 - s) n k) ∧ Ev (fun f => letterbagref04_Upper.f f (n : Int) (k : Int) (s : Int)) (r, 0) := by
  have hw := ref_wrong (n : Int) (k : Int) (s : Int) 0 10000
  rw [wrongE_zero (by omega)] at hw
  obtain ⟨t, t1, t2⟩ := ref_sum n s k n hn hs (Nat.le_refl _) (by omega)
  obtain ⟨r, r1, r2⟩ := ref_limbs (Dec.of_num t1) (ref_all_len hs hn t1 (span_le _ _ _ _ _))
  rw [span_up _ _ _ _ hk] at r1
  exact ⟨r, r1, Ev.wrong0 (g := fun f => (letterbagref04_sum.f f (n : Int) (s : Int) (k : Int) (n : Int)).bind fun t504 => (letterbagref04_limbs.f f t504).bind fun t507 => some (t507, 0)) (h := fun t => some ([], t)) hw (Ev.bind (g := fun t504 f => (letterbagref04_limbs.f f t504).bind fun t507 => some (t507, 0)) t2 (Ev.bind (g := fun t507 _ => some (t507, 0)) r2 (Ev.pure _)))⟩

theorem ref_Lower (n k s : Nat) (hn : n ≤ 500) (hk : k ≤ n) (hs : s ≤ 10000) : ∃ r, Num (4294967296 : Int) r (low s (10000 - s) n k) ∧ Ev (fun f => letterbagref04_Lower.f f (n : Int) (k : Int) (s : Int)) (r, 0) := by
  have hw := ref_wrong (n : Int) (k : Int) (s : Int) 0 10000
  rw [wrongE_zero (by omega)] at hw
  obtain ⟨t, t1, t2⟩ := ref_sum n s 0 k hn hs hk (by omega)
  obtain ⟨r, r1, r2⟩ := ref_limbs (Dec.of_num t1) (ref_all_len hs hn t1 (span_le _ _ _ _ _))
  rw [span_low_eq _ _ _ _ hk] at r1
  exact ⟨r, r1, Ev.wrong0 (g := fun f => (letterbagref04_sum.f f (n : Int) (s : Int) 0 (k : Int)).bind fun t504 => (letterbagref04_limbs.f f t504).bind fun t507 => some (t507, 0)) (h := fun t => some ([], t)) hw (Ev.bind (g := fun t504 f => (letterbagref04_limbs.f f t504).bind fun t507 => some (t507, 0)) t2 (Ev.bind (g := fun t507 _ => some (t507, 0)) r2 (Ev.pure _)))⟩

theorem ref_Chance_err (n k s : Int) (h : ¬ wrongE n k s 0 10000 = 0) : Ev (fun f => letterbagref04_Chance.f f n k s) ([], wrongE n k s 0 10000) :=
  Ev.wrong1 (g := fun f => (letterbagref04_sum.f f n s k k).bind fun t504 => (letterbagref04_limbs.f f t504).bind fun t507 => some (t507, 0)) (h := fun t => ([], t)) (ref_wrong n k s 0 10000) h
theorem ref_Upper_err (n k s : Int) (h : ¬ wrongE n k s 0 10000 = 0) : Ev (fun f => letterbagref04_Upper.f f n k s) ([], wrongE n k s 0 10000) :=
  Ev.wrong1 (g := fun f => (letterbagref04_sum.f f n s k n).bind fun t504 => (letterbagref04_limbs.f f t504).bind fun t507 => some (t507, 0)) (h := fun t => ([], t)) (ref_wrong n k s 0 10000) h
theorem ref_Lower_err (n k s : Int) (h : ¬ wrongE n k s 0 10000 = 0) : Ev (fun f => letterbagref04_Lower.f f n k s) ([], wrongE n k s 0 10000) :=
  Ev.wrong1 (g := fun f => (letterbagref04_sum.f f n s 0 k).bind fun t504 => (letterbagref04_limbs.f f t504).bind fun t507 => some (t507, 0)) (h := fun t => ([], t)) (ref_wrong n k s 0 10000) h

/-! ### Choose -/
/-- The rows of a triangle's line: zeros at the end are allowed. -/
def Line (l : List (List Int)) (n : Nat) (i : Nat) : Prop := ∀ m, m < l.length → Dec (l.getD m []) (binom n m) ∧ (l.getD m []).length ≤ i

theorem Line.snoc {l : List (List Int)} {n i : Nat} {r : List Int} (h : Line l n i) (hr : Dec r (binom n l.length)) (hl : r.length ≤ i) : Line (l ++ [r]) n i := by
  intro m hm
  rw [List.length_append, List.length_singleton] at hm
  rcases Nat.lt_or_ge m l.length with h1 | h1
  · rw [List.getD_eq_getElem?_getD, List.getElem?_append_left h1, ← List.getD_eq_getElem?_getD]; exact h m h1
  · obtain rfl : m = l.length := by omega
    rw [List.getD_eq_getElem?_getD, List.getElem?_append_right (Nat.le_refl _), Nat.sub_self]; exact ⟨hr, hl⟩

theorem line_one (n : Nat) (i : Nat) : Line [[1]] n (i + 1) := by
  intro m hm
  obtain rfl : m = 0 := by simpa using hm
  exact ⟨by rw [binom_zero]; exact Dec.of_num Num.one, by simp⟩

theorem ref_tri_row (n k i : Nat) (hi : i < n) (hn : n ≤ 500) (l : List (List Int)) (hl : l.length = i + 1) (hr : Line l i (i + 1)) :
    ∀ (d j : Nat) (o : List (List Int)), i + 1 - j = d → 1 ≤ j → j ≤ i + 1 → o.length = j → Line o (i + 1) (i + 2) →
    ∃ l', l'.length = i + 2 ∧ Line l' (i + 1) (i + 2) ∧ ∀ r, Ev (fun f => letterbagref04_Choose.l0 f (n : Int) (k : Int) l' ((i + 1 : Nat) : Int)) r → Ev (fun f => letterbagref04_Choose.l1 f (n : Int) (k : Int) l (i : Int) o (j : Int)) r := by
  intro d
  have e1 := Aside0.mk (show wrap64 ((i : Int) + 1) = ((i + 1 : Nat) : Int) by rw [w64 (by omega) (by omega)]; omega)
  induction d with
  | zero =>
    intro j o hd hj1 hj ho hro
    obtain rfl : j = i + 1 := by omega
    refine ⟨o ++ [[1]], by simp [ho], hro.snoc (by rw [ho, binom_self]; exact Dec.of_num Num.one) (by simp), fun r hev => Ev.step (fun f => ?_) hev⟩
    simp only [letterbagref04_Choose.l1]
    rw [if_neg (by omega), if_pos (by omega), e1.out]
  | succ d ih =>
    intro j o hd hj1 hj ho hro
    have e3 := Aside0.mk (show wrap64 ((j : Int) + 1) = ((j + 1 : Nat) : Int) by rw [w64 (by omega) (by omega)]; omega)
    have e4 := Aside0.mk (show wrap64 ((j : Int) - 1) = ((j - 1 : Nat) : Int) by rw [w64 (by omega) (by omega)]; omega)
    obtain ⟨a1, a2⟩ := hr (j - 1) (by omega)
    obtain ⟨b1, b2⟩ := hr j (by omega)
    obtain ⟨z, z1, z2, z3⟩ := ref_add a1 b1 (by omega) (by omega)
    have hz : Dec z (binom (i + 1) j) := by
      obtain ⟨m, rfl⟩ : ∃ m, j = m + 1 := ⟨j - 1, by omega⟩
      rw [Nat.add_sub_cancel] at z1
      exact z1
    obtain ⟨l', q1, q2, q3⟩ := ih (j + 1) (o ++ [z]) (by omega) (by omega) (by omega) (by simp [ho]) (hro.snoc (by rw [ho]; exact hz) (by omega))
    refine ⟨l', q1, q2, fun r hev => Ev.step (g := fun f => (letterbagref04_add.f f (l.getD (j - 1) []) (l.getD j [])).bind fun t => letterbagref04_Choose.l1 f (n : Int) (k : Int) l (i : Int) (o ++ [t]) ((j + 1 : Nat) : Int)) (fun f => ?_) (Ev.bind z3 (q3 r hev))⟩
    simp only [letterbagref04_Choose.l1]
    rw [if_pos (by omega), e4.out, if_pos (by omega), if_pos (by omega), if_pos (by omega), e3.out, rd_L3_nat, rd_L3_nat]
    have : o.length < 5864062014805 := by omega
    simp only [if_pos this]

theorem ref_tri (n k : Nat) (hn : n ≤ 500) (hk : k ≤ n) : ∀ (d i : Nat) (l : List (List Int)), n - i = d → i ≤ n → l.length = i + 1 → Line l i (i + 1) →
    ∃ r, Num (4294967296 : Int) r (binom n k) ∧ Ev (fun f => letterbagref04_Choose.l0 f (n : Int) (k : Int) l (i : Int)) (r, 0) := by
  intro d
  induction d with
  | zero =>
    intro i l hd hi hl hr
    obtain rfl : i = n := by omega
    obtain ⟨a1, a2⟩ := hr k (by omega)
    obtain ⟨r, r1, r2⟩ := ref_limbs a1 (by omega)
    refine ⟨r, r1, Ev.step (g := fun f => (letterbagref04_limbs.f f (l.getD k [])).bind fun t => some (t, 0)) (fun f => ?_) (Ev.bind (g := fun t _ => some (t, 0)) r2 (Ev.pure _))⟩
    simp only [letterbagref04_Choose.l0]
    rw [if_neg (by omega), if_pos (by omega), if_pos (by omega), rd_L3_nat]
  | succ d ih =>
    intro i l hd hi hl hr
    obtain ⟨l', q1, q2, q3⟩ := ref_tri_row n k i (by omega) hn l hl hr i 1 [[1]] (by omega) (by omega) (by omega) rfl (line_one _ _)
    obtain ⟨r, r1, r2⟩ := ih (i + 1) l' (by omega) (by omega) (by omega) q2
    refine ⟨r, r1, Ev.step (fun f => ?_) (q3 _ r2)⟩
    simp only [letterbagref04_Choose.l0]
    rw [if_pos (by omega)]; rfl

theorem ref_Choose (n k : Nat) (hn : n ≤ 500) (hk : k ≤ n) : ∃ r, Num (4294967296 : Int) r (binom n k) ∧ Ev (fun f => letterbagref04_Choose.f f (n : Int) (k : Int)) (r, 0) := by
  have hw := ref_wrong (n : Int) (k : Int) 0 0 0
  rw [wrongE_zero (by omega)] at hw
  obtain ⟨r, r1, r2⟩ := ref_tri n k hn hk n 0 [[1]] (by omega) (by omega) rfl (line_one 0 0)
  exact ⟨r, r1, Ev.wrong0 (g := fun f => letterbagref04_Choose.l0 f (n : Int) (k : Int) [[1]] 0) (h := fun t => some ([], t)) hw r2⟩

theorem ref_Choose_err (n k : Int) (h : ¬ wrongE n k 0 0 0 = 0) : Ev (fun f => letterbagref04_Choose.f f n k) ([], wrongE n k 0 0 0) :=
  Ev.wrong1 (g := fun f => letterbagref04_Choose.l0 f n k [[1]] 0) (h := fun t => ([], t)) (ref_wrong n k 0 0 0) h

end Go.Proofs.Ytenmlkcjgefmpaa
