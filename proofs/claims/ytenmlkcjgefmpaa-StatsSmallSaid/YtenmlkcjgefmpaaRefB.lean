/- What the reference's functions on digits to the base 10000 give: cutting zeros, sums, products, comparison with a risk. Plain lists of digits. What the reference's chances, sum, exceeds, Least and Greatest give. Plain lists of digits. -/
import Derived.Test.YtenmlkcjgefmpaaFnD
import Derived.Test.YtenmlkcjgefmpaaFunA
import Derived.Test.YtenmlkcjgefmpaaMathB
import Derived.Test.YtenmlkcjgefmpaaFnF
namespace Go.Proofs.Ytenmlkcjgefmpaa
set_option linter.unusedVariables false
open Go.RowKit Go.Proofs.YtenmlkcjgefmpaaW.PrintWords Go.Proofs.Ytenmlkcjgefmpaa.Fn

/-- It comes to r, with rounds enough. -/
def Ev {α : Type} (f : Nat → Option α) (r : α) : Prop := ∃ K, ∀ k, K ≤ k → f k = some r

theorem Ev.pure {α : Type} (r : α) : Ev (fun _ => some r) r := ⟨0, fun _ _ => rfl⟩
theorem Ev.step {α : Type} {f g : Nat → Option α} {r : α} (h : ∀ k, f (k + 1) = g k) (hg : Ev g r) : Ev f r := by
  obtain ⟨K, hK⟩ := hg
  refine ⟨K + 1, fun k hk => ?_⟩
  obtain ⟨j, rfl⟩ : ∃ j, k = j + 1 := ⟨k - 1, by omega⟩
  rw [h]; exact hK j (by omega)
theorem Ev.done {α : Type} {f : Nat → Option α} {r : α} (h : ∀ k, f (k + 1) = some r) : Ev f r := Ev.step h (Ev.pure r)
theorem Ev.same {α : Type} {f g : Nat → Option α} {r : α} (h : ∀ k, f k = g k) (hg : Ev g r) : Ev f r := by
  obtain ⟨K, hK⟩ := hg
  exact ⟨K, fun k hk => by rw [h]; exact hK k hk⟩
theorem Ev.bind {α β : Type} {f : Nat → Option α} {g : α → Nat → Option β} {a : α} {r : β} (hf : Ev f a) (hg : Ev (g a) r) : Ev (fun k => (f k).bind fun x => g x k) r := by
  obtain ⟨K, hK⟩ := hf
  obtain ⟨L, hL⟩ := hg
  refine ⟨max K L, fun k hk => ?_⟩
  have := hK k (by omega)
  have := hL k (by omega)
  simp_all
theorem Ev.ex {α : Type} {f : Nat → Option α} {r : α} (h : Ev f r) : ∃ k, f k = some r := by
  obtain ⟨K, hK⟩ := h
  exact ⟨K, hK K (Nat.le_refl _)⟩

/-- Digits to the base 10000 that stand for x; zeros at the end are allowed. -/
structure Dec (xs : List Int) (x : Nat) : Prop where
  dig : Dig 10000 xs
  val : iv 10000 xs = (x : Int)

theorem Dec.of_num {xs : List Int} {x : Nat} (h : Num 10000 xs x) : Dec xs x := ⟨h.dig, h.val⟩
theorem Dec.nil : Dec [] 0 := ⟨Dig.nil _, rfl⟩
theorem Num.one : Num 10000 [1] 1 := ⟨fun d h => by simp at h; subst h; decide, fun d h => by simp at h; subst h; decide, rfl⟩

theorem tm_nonneg {s : Int} (h : 0 ≤ s) : Int.tmod s 10000 = s % 10000 := Int.tmod_eq_emod_of_nonneg h
theorem td_nonneg {s : Int} (h : 0 ≤ s) : Int.tdiv s 10000 = s / 10000 := Int.tdiv_eq_ediv_of_nonneg h

theorem iv_drop_any (B : Int) (xs : List Int) (i : Nat) : iv B (xs.drop i) = dat xs i + B * iv B (xs.drop (i + 1)) := by
  rcases Nat.lt_or_ge i xs.length with h | h
  · exact iv_drop B h
  · rw [dat_of_ge h, List.drop_eq_nil_of_le h, List.drop_eq_nil_of_le (by omega)]; simp [iv]

/-! ### wrong -/
theorem ref_wrong (n k x lo hi : Int) : Ev (fun f => letterbagref04_wrong.f f n k x lo hi) (wrongE n k x lo hi) := by
  refine Ev.done (fun j => ?_)
  unfold letterbagref04_wrong.f wrongE
  by_cases h1 : k < 0
  · rw [if_pos h1, if_pos (.inl h1)]; rfl
  · rw [if_neg h1]
    by_cases h2 : k > n
    · rw [if_pos h2, if_pos (.inr (.inl h2))]; rfl
    · rw [if_neg h2]
      by_cases h3 : x < lo
      · rw [if_pos h3, if_pos (.inr (.inr (.inl h3)))]; rfl
      · rw [if_neg h3]
        by_cases h4 : x > hi
        · rw [if_pos (.inr (.inr (.inr h4))), decide_eq_true h4]; rfl
        · rw [if_neg (by omega), decide_eq_false h4]
          simp only [letterbagref04_wrong.j0]
          rw [if_neg (by decide)]
          split <;> rfl

/-! ### trim -/
theorem ref_trim_law : ∀ (n : Nat) (xs : List Int), xs.length = n → n ≤ 1000000 →
    ∃ m, m ≤ n ∧ Ev (fun k => letterbagref04_trim.l0 k xs) (xs.take m) ∧ Top (xs.take m) ∧ ∀ j, m ≤ j → dat xs j = 0 := by
  intro n
  induction n with
  | zero =>
    intro xs hl _
    refine ⟨0, Nat.le_refl _, Ev.done (fun k => ?_), fun d h => by simp at h, fun j _ => dat_of_ge (by omega)⟩
    simp only [letterbagref04_trim.l0]
    rw [if_neg (by omega), List.length_eq_zero_iff.1 hl]; rfl
  | succ n ih =>
    intro xs hl hn
    have e1 : wrap64 ((xs.length : Int) - 1) = (n : Int) := by rw [w64 (by omega) (by omega)]; omega
    have e2 : rd xs (n : Int) = dat xs n := by rw [rd_dat]; simp
    by_cases hz : dat xs n = 0
    · obtain ⟨m, h1, h2, h3, h4⟩ := ih (xs.take n) (by rw [List.length_take]; omega) (by omega)
      refine ⟨m, by omega, Ev.step (g := fun k => letterbagref04_trim.l0 k (xs.take n)) (fun k => ?_) ?_, ?_, fun j hj => ?_⟩
      · simp only [letterbagref04_trim.l0]
        rw [if_pos (by omega), e1, if_pos (by omega), if_pos (by omega), e2, if_pos (show (n : Int) ≤ (xs.length : Int) by omega), if_pos hz, Int.toNat_natCast]
      · rw [List.take_take, Nat.min_eq_left h1] at h2; exact h2
      · rw [List.take_take, Nat.min_eq_left h1] at h3; exact h3
      · rcases Nat.lt_trichotomy j n with hjn | hjn | hjn
        · rw [← dat_take hjn]; exact h4 j hj
        · rw [hjn]; exact hz
        · exact dat_of_ge (by omega)
    · refine ⟨n + 1, Nat.le_refl _, Ev.done (fun k => ?_), ?_, fun j hj => dat_of_ge (by omega)⟩
      · simp only [letterbagref04_trim.l0]
        rw [if_pos (by omega), e1, if_pos (by omega), if_pos (by omega), e2, if_pos (show (n : Int) ≤ (xs.length : Int) by omega), if_neg hz, ← hl, List.take_length]
      · rw [← hl, List.take_length, top_iff]
        intro _
        rw [hl, Nat.add_sub_cancel]; exact hz

theorem ref_trim {xs : List Int} {x : Nat} (h : Dec xs x) (hl : xs.length ≤ 1000000) :
    ∃ r, Num 10000 r x ∧ r.length ≤ xs.length ∧ Ev (fun k => letterbagref04_trim.f k xs) r := by
  obtain ⟨m, h1, h2, h3, h4⟩ := ref_trim_law xs.length xs rfl hl
  exact ⟨xs.take m, ⟨h.dig.take m, h3, by rw [iv_take_zero 10000 h4]; exact h.val⟩, by rw [List.length_take]; omega, h2⟩

/-! ### add -/
/-- one digit of a sum -/
theorem add_digit (a b : List Int) (i : Nat) (c : Int) (hla : a.length ≤ 100000) (hlb : b.length ≤ 100000) (ha : Dig 10000 a) (hb : Dig 10000 b) (h0 : 0 ≤ c) (h1 : c ≤ 1) (hi : i ≤ 100000) (o : List Int) (ho : o.length ≤ 100001)
    (hrun : i < a.length ∨ i < b.length ∨ 0 < c) : ∀ k, letterbagref04_add.l0 (k + 2) a b o c (i : Int) = letterbagref04_add.l0 k a b (o ++ [(c + dat a i + dat b i) % 10000]) ((c + dat a i + dat b i) / 10000) ((i + 1 : Nat) : Int) := by
  intro k
  have da := dat_dig ha (by decide) i
  have db := dat_dig hb (by decide) i
  have ra : rd a (i : Int) = dat a i := by rw [rd_dat]; simp
  have rb : rd b (i : Int) = dat b i := by rw [rd_dat]; simp
  have hstep : letterbagref04_add.l0 (k + 2) a b o c (i : Int) = letterbagref04_add.j1 (k + 1) a b o c (i : Int) true := by
    simp only [letterbagref04_add.l0]
    by_cases h2 : (i : Int) < (a.length : Int)
    · rw [if_pos h2]
    · rw [if_neg h2]
      by_cases h3 : (i : Int) < (b.length : Int)
      · rw [if_pos h3]
      · rw [if_neg h3, decide_eq_true (show c > 0 by omega)]
  rw [hstep]
  simp only [letterbagref04_add.j1]
  have e3 : ((i + 1 : Nat) : Int) = (i : Int) + 1 := by omega
  rw [if_pos trivial, ra, rb, w64 (n := (i : Int) + 1) (by omega) (by omega), w64 (n := c + dat a i) (by omega) (by omega), w64 (n := c + dat b i) (by omega) (by omega), w64 (n := c + dat a i + dat b i) (by omega) (by omega), tm_nonneg (by omega), tm_nonneg (by omega), tm_nonneg (by omega), tm_nonneg h0, td_nonneg (by omega), td_nonneg (by omega), td_nonneg (by omega), td_nonneg h0,
    w64 (n := (c + dat a i + dat b i) / 10000) (by omega) (by omega), w64 (n := (c + dat a i) / 10000) (by omega) (by omega), w64 (n := (c + dat b i) / 10000) (by omega) (by omega), w64 (n := c / 10000) (by omega) (by omega), e3]
  by_cases h2 : (i : Int) < (a.length : Int)
  · rw [if_pos h2, if_pos (by omega)]
    by_cases h3 : (i : Int) < (b.length : Int)
    · rw [if_pos h3, if_pos (by omega)]
    · have z : dat b i = 0 := dat_of_ge (by omega)
      rw [if_neg h3, if_pos (by omega), z, Int.add_zero]
  · have z : dat a i = 0 := dat_of_ge (by omega)
    rw [if_neg h2]
    by_cases h3 : (i : Int) < (b.length : Int)
    · rw [if_pos h3, if_pos (by omega), if_pos (by omega), z, Int.add_zero]
    · have z2 : dat b i = 0 := dat_of_ge (by omega)
      rw [if_neg h3, if_pos (by omega), z, z2, Int.add_zero, Int.add_zero]

theorem Ev.step2 {α : Type} {f g : Nat → Option α} {r : α} (h : ∀ k, f (k + 2) = g k) (hg : Ev g r) : Ev f r := by
  obtain ⟨K, hK⟩ := hg
  refine ⟨K + 2, fun k hk => ?_⟩
  obtain ⟨j, rfl⟩ : ∃ j, k = j + 2 := ⟨k - 2, by omega⟩
  rw [h]; exact hK j (by omega)

theorem ref_add_loop (a b : List Int) (ha : Dig 10000 a) (hb : Dig 10000 b) (hla : a.length ≤ 100000) (hlb : b.length ≤ 100000) :
    ∀ (d i : Nat) (c : Int) (o : List Int), 2 * (max a.length b.length - i) + c.toNat ≤ d → 0 ≤ c → c ≤ 1 → o.length = i → (i ≤ max a.length b.length ∨ c = 0 ∧ i ≤ max a.length b.length + 1) → Dig 10000 o →
    ∃ r, Dig 10000 r ∧ r.length ≤ max a.length b.length + 1 ∧ iv 10000 r = iv 10000 o + 10000 ^ i * (c + iv 10000 (a.drop i) + iv 10000 (b.drop i)) ∧ Ev (fun k => letterbagref04_add.l0 k a b o c (i : Int)) r := by
  intro d
  induction d with
  | zero =>
    intro i c o hd h0 h1 ho hi hdo
    have hc : c = 0 := by omega
    refine ⟨o, hdo, by omega, ?_, Ev.step2 (g := fun _ => some o) (fun k => ?_) (Ev.pure _)⟩
    · rw [List.drop_eq_nil_of_le (by omega), List.drop_eq_nil_of_le (by omega), hc]; simp [iv]
    · simp only [letterbagref04_add.l0, letterbagref04_add.j1]
      rw [if_neg (by omega), if_neg (by omega), hc]; rfl
  | succ d ih =>
    intro i c o hd h0 h1 ho hi hdo
    by_cases hrun : i < a.length ∨ i < b.length ∨ 0 < c
    · have da := dat_dig ha (by decide) i
      have db := dat_dig hb (by decide) i
      have hz : (c + dat a i + dat b i) / 10000 ≤ 1 := by omega
      have hz2 : max a.length b.length ≤ i → (c + dat a i + dat b i) / 10000 = 0 := by
        intro h
        rw [dat_of_ge (show a.length ≤ i by omega), dat_of_ge (show b.length ≤ i by omega)]; omega
      obtain ⟨r, h2, h3, h4, h5⟩ := ih (i + 1) ((c + dat a i + dat b i) / 10000) (o ++ [(c + dat a i + dat b i) % 10000]) (by
          rcases Nat.lt_or_ge i (max a.length b.length) with h | h
          · omega
          · have := hz2 h; omega) (by omega) hz (by simp [ho]) (by
          rcases Nat.lt_or_ge i (max a.length b.length) with h | h
          · left; omega
          · right; exact ⟨hz2 h, by omega⟩) (hdo.snoc (Int.emod_nonneg _ (by decide)) (Int.emod_lt_of_pos _ (by decide)))
      refine ⟨r, h2, h3, ?_, Ev.step2 (add_digit a b i c hla hlb ha hb h0 h1 (by omega) o (by omega) hrun) h5⟩
      rw [h4, iv_snoc, ho, iv_drop_any 10000 a i, iv_drop_any 10000 b i, Int.pow_succ]
      have e : c + dat a i + dat b i = 10000 * ((c + dat a i + dat b i) / 10000) + (c + dat a i + dat b i) % 10000 := by omega
      generalize iv 10000 (List.drop (i + 1) a) = u
      generalize iv 10000 (List.drop (i + 1) b) = v
      generalize (10000 : Int) ^ i = P
      generalize (c + dat a i + dat b i) / 10000 = q at e ⊢
      generalize (c + dat a i + dat b i) % 10000 = m at e ⊢
      have e2 : c + (dat a i + 10000 * u) + (dat b i + 10000 * v) = m + 10000 * (q + u + v) := by omega
      rw [e2, Int.mul_add P m, Int.mul_assoc P 10000]; omega
    · refine ⟨o, hdo, by omega, ?_, Ev.step2 (g := fun _ => some o) (fun k => ?_) (Ev.pure _)⟩
      · rw [List.drop_eq_nil_of_le (by omega), List.drop_eq_nil_of_le (by omega), show c = 0 by omega]; simp [iv]
      · simp only [letterbagref04_add.l0, letterbagref04_add.j1]
        rw [if_neg (by omega), if_neg (by omega), show c = 0 by omega]; rfl

theorem ref_add {a b : List Int} {x y : Nat} (ha : Dec a x) (hb : Dec b y) (hla : a.length ≤ 100000) (hlb : b.length ≤ 100000) :
    ∃ r, Dec r (x + y) ∧ r.length ≤ max a.length b.length + 1 ∧ Ev (fun k => letterbagref04_add.f k a b) r := by
  obtain ⟨r, h1, h2, h3, h4⟩ := ref_add_loop a b ha.dig hb.dig hla hlb _ 0 0 [] (Nat.le_refl _) (by decide) (by decide) rfl (.inl (Nat.zero_le _)) (Dig.nil _)
  refine ⟨r, ⟨h1, ?_⟩, h2, h4⟩
  rw [h3, List.drop_zero, List.drop_zero, ha.val, hb.val]; simp [iv]

/-! ### times -/
theorem times_digit (a : List Int) (p : Int) (i : Nat) (c : Int) (hla : a.length ≤ 100000) (ha : Dig 10000 a) (hp0 : 0 ≤ p) (hp1 : p ≤ 10000) (h0 : 0 ≤ c) (h1 : c ≤ 9999) (hi : i ≤ 100000) (o : List Int) (ho : o.length ≤ 100001)
    (hm : 0 ≤ dat a i * p ∧ dat a i * p ≤ 99990000) (hrun : i < a.length ∨ 0 < c) : ∀ k, letterbagref04_times.l0 (k + 2) a p o c (i : Int) = letterbagref04_times.l0 k a p (o ++ [(c + dat a i * p) % 10000]) ((c + dat a i * p) / 10000) ((i + 1 : Nat) : Int) := by
  intro k
  have ra : rd a (i : Int) = dat a i := by rw [rd_dat]; simp
  have hstep : letterbagref04_times.l0 (k + 2) a p o c (i : Int) = letterbagref04_times.j1 (k + 1) a p o c (i : Int) true := by
    simp only [letterbagref04_times.l0]
    by_cases h2 : (i : Int) < (a.length : Int)
    · rw [if_pos h2]
    · rw [if_neg h2, decide_eq_true (show c > 0 by omega)]
  rw [hstep]
  simp only [letterbagref04_times.j1]
  have e3 : ((i + 1 : Nat) : Int) = (i : Int) + 1 := by omega
  rw [if_pos trivial, ra, w64 (n := (i : Int) + 1) (by omega) (by omega), w64 (n := dat a i * p) (by omega) (by omega), w64 (n := c + dat a i * p) (by omega) (by omega), tm_nonneg (by omega), tm_nonneg h0, td_nonneg (by omega), td_nonneg h0,
    w64 (n := (c + dat a i * p) / 10000) (by omega) (by omega), w64 (n := c / 10000) (by omega) (by omega), e3]
  by_cases h2 : (i : Int) < (a.length : Int)
  · rw [if_pos h2, if_pos (by omega), if_pos (by omega)]
  · have z : dat a i = 0 := dat_of_ge (by omega)
    rw [if_neg h2, if_pos (by omega), z, Int.zero_mul, Int.add_zero]

theorem digit_prod {d p : Int} (hd : 0 ≤ d ∧ d < 10000) (hp0 : 0 ≤ p) (hp1 : p ≤ 10000) : 0 ≤ d * p ∧ d * p ≤ 99990000 := by
  refine ⟨Int.mul_nonneg hd.1 hp0, ?_⟩
  have h1 := Int.mul_le_mul_of_nonneg_right (show d ≤ 9999 by omega) hp0
  have h2 : (9999 : Int) * p ≤ 99990000 := by omega
  omega

theorem ref_times_loop (a : List Int) (p : Int) (ha : Dig 10000 a) (hla : a.length ≤ 100000) (hp0 : 0 ≤ p) (hp1 : p ≤ 10000) :
    ∀ (d i : Nat) (c : Int) (o : List Int), 2 * (a.length - i) + (if 0 < c then 1 else 0) ≤ d → 0 ≤ c → c ≤ 9999 → o.length = i → (i ≤ a.length ∨ c = 0 ∧ i ≤ a.length + 1) → Dig 10000 o →
    ∃ s, Dig 10000 s ∧ s.length ≤ a.length + 1 ∧ iv 10000 s = iv 10000 o + 10000 ^ i * (c + iv 10000 (a.drop i) * p) ∧ ∀ t, Ev (fun k => letterbagref04_trim.f k s) t → Ev (fun k => letterbagref04_times.l0 k a p o c (i : Int)) t := by
  intro d
  induction d with
  | zero =>
    intro i c o hd h0 h1 ho hi hdo
    have hc : c = 0 := by split at hd <;> omega
    refine ⟨o, hdo, by omega, ?_, fun t ht => Ev.step2 (g := fun k => (letterbagref04_trim.f k o).bind fun t => some t) (fun k => ?_) (Ev.bind (g := fun t _ => some t) ht (Ev.pure t))⟩
    · rw [List.drop_eq_nil_of_le (by split at hd <;> omega), hc]; simp [iv]
    · simp only [letterbagref04_times.l0, letterbagref04_times.j1]
      rw [if_neg (by split at hd <;> omega), hc]; rfl
  | succ d ih =>
    intro i c o hd h0 h1 ho hi hdo
    have da := dat_dig ha (by decide) i
    have hm := digit_prod da hp0 hp1
    by_cases hrun : i < a.length ∨ 0 < c
    · have hz : (c + dat a i * p) / 10000 ≤ 9999 := by omega
      have hz2 : a.length ≤ i → (c + dat a i * p) / 10000 = 0 := by
        intro h
        rw [dat_of_ge h, Int.zero_mul]; omega
      obtain ⟨s, h2, h3, h4, h5⟩ := ih (i + 1) ((c + dat a i * p) / 10000) (o ++ [(c + dat a i * p) % 10000]) (by
          rcases Nat.lt_or_ge i a.length with h | h
          · split <;> omega
          · rw [hz2 h]; split at hd <;> simp <;> omega) (by omega) hz (by simp [ho]) (by
          rcases Nat.lt_or_ge i a.length with h | h
          · left; omega
          · right; exact ⟨hz2 h, by omega⟩) (hdo.snoc (Int.emod_nonneg _ (by decide)) (Int.emod_lt_of_pos _ (by decide)))
      refine ⟨s, h2, h3, ?_, fun t ht => Ev.step2 (times_digit a p i c hla ha hp0 hp1 h0 h1 (by omega) o (by omega) hm hrun) (h5 t ht)⟩
      rw [h4, iv_snoc, ho, iv_drop_any 10000 a i, Int.pow_succ]
      have e : c + dat a i * p = 10000 * ((c + dat a i * p) / 10000) + (c + dat a i * p) % 10000 := by omega
      generalize iv 10000 (List.drop (i + 1) a) = u
      generalize (10000 : Int) ^ i = P
      generalize (c + dat a i * p) / 10000 = q at e ⊢
      generalize (c + dat a i * p) % 10000 = m at e ⊢
      have e2 : c + (dat a i + 10000 * u) * p = m + 10000 * (q + u * p) := by
        rw [Int.add_mul, ← Int.add_assoc, e, Int.mul_assoc 10000 u p]; omega
      rw [e2, Int.mul_add P m, Int.mul_assoc P 10000]; omega
    · refine ⟨o, hdo, by omega, ?_, fun t ht => Ev.step2 (g := fun k => (letterbagref04_trim.f k o).bind fun t => some t) (fun k => ?_) (Ev.bind (g := fun t _ => some t) ht (Ev.pure t))⟩
      · rw [List.drop_eq_nil_of_le (by omega), show c = 0 by omega]; simp [iv]
      · simp only [letterbagref04_times.l0, letterbagref04_times.j1]
        rw [if_neg (by omega), show c = 0 by omega]; rfl

theorem ref_times {a : List Int} {x p : Nat} (ha : Dec a x) (hla : a.length ≤ 100000) (hp : p ≤ 10000) :
    ∃ r, Num 10000 r (x * p) ∧ r.length ≤ a.length + 1 ∧ Ev (fun k => letterbagref04_times.f k a (p : Int)) r := by
  obtain ⟨s, h1, h2, h3, h4⟩ := ref_times_loop a p ha.dig hla (by omega) (by omega) _ 0 0 [] (Nat.le_refl _) (by decide) (by decide) rfl (.inl (Nat.zero_le _)) (Dig.nil _)
  obtain ⟨r, h5, h6, h7⟩ := ref_trim (x := x * p) (xs := s) ⟨h1, by rw [h3, List.drop_zero, ha.val]; simp [iv]⟩ (by omega)
  exact ⟨r, h5, by omega, h4 r h7⟩

end Go.Proofs.Ytenmlkcjgefmpaa

namespace Go.Proofs.Ytenmlkcjgefmpaa
set_option linter.unusedVariables false
open Go.RowKit Go.Proofs.YtenmlkcjgefmpaaW.PrintWords Go.Proofs.Ytenmlkcjgefmpaa.Fn

theorem rd_L3_nat (xs : List (List Int)) (i : Nat) : rd_L3 xs (i : Int) = xs.getD i [] := by unfold rd_L3; rw [Int.toNat_natCast]

/-- The rows of a list stand for the numbers g 0, g 1, .. -/
def Rows (l : List (List Int)) (g : Nat → Nat) : Prop := ∀ m, m < l.length → Num 10000 (l.getD m []) (g m)

theorem Rows.snoc {l : List (List Int)} {g : Nat → Nat} {r : List Int} (h : Rows l g) (hr : Num 10000 r (g l.length)) : Rows (l ++ [r]) g := by
  intro m hm
  rw [List.length_append, List.length_singleton] at hm
  rcases Nat.lt_or_ge m l.length with h1 | h1
  · rw [List.getD_eq_getElem?_getD, List.getElem?_append_left h1, ← List.getD_eq_getElem?_getD]; exact h m h1
  · obtain rfl : m = l.length := by omega
    rw [List.getD_eq_getElem?_getD, List.getElem?_append_right (Nat.le_refl _), Nat.sub_self]; exact hr

theorem num_len {xs : List Int} {x n : Nat} (h : Num 10000 xs x) (hx : x ≤ 10000 ^ n) : xs.length ≤ n + 1 := by
  refine h.len_le (by decide) ?_
  have h1 : ((10000 ^ n : Nat) : Int) = (10000 : Int) ^ n := by rw [Int.natCast_pow]; rfl
  have h2 := pow_pos' (B := (10000 : Int)) (by decide) n
  rw [Int.pow_succ]
  omega

theorem ch_len {xs : List Int} {s n k : Nat} (hs : s ≤ 10000) (h : Num 10000 xs (ch s (10000 - s) n k)) : xs.length ≤ n + 1 := by
  refine num_len h ?_
  have := ch_le s (10000 - s) n k
  rwa [show s + (10000 - s) = 10000 by omega] at this

theorem ref_row (n s i : Nat) (hs : s ≤ 10000) (hi : i < n) (hn : n ≤ 500) (l : List (List Int)) (hl : l.length = i + 1) (hr : Rows l (ch s (10000 - s) i)) :
    ∀ (d j : Nat) (o : List (List Int)), i + 2 - j = d → j ≤ i + 2 → o.length = j → Rows o (ch s (10000 - s) (i + 1)) →
    ∃ l', l'.length = i + 2 ∧ Rows l' (ch s (10000 - s) (i + 1)) ∧ ∀ r, Ev (fun k => letterbagref04_chances.l0 k (n : Int) (s : Int) l' ((i + 1 : Nat) : Int)) r → Ev (fun k => letterbagref04_chances.l1 k (n : Int) (s : Int) l (i : Int) o (j : Int)) r := by
  intro d
  have e1 := Aside0.mk (show wrap64 ((i : Int) + 1) = ((i + 1 : Nat) : Int) by rw [w64 (by omega) (by omega)]; omega)
  have e2 := Aside0.mk (show wrap64 (10000 - (s : Int)) = ((10000 - s : Nat) : Int) by rw [w64 (by omega) (by omega)]; omega)
  induction d with
  | zero =>
    intro j o hd hj ho hro
    refine ⟨o, by omega, hro, fun r hev => Ev.step (fun k => ?_) hev⟩
    simp only [letterbagref04_chances.l1]
    rw [e1.out, if_neg (by omega)]
  | succ d ih =>
    intro j o hd hj ho hro
    have e3 := Aside0.mk (show wrap64 ((j : Int) + 1) = ((j + 1 : Nat) : Int) by rw [w64 (by omega) (by omega)]; omega)
    -- the failures' part
    have hx : ∃ x, Dec x (if j ≤ i then ch s (10000 - s) i j * (10000 - s) else 0) ∧ x.length ≤ 600 ∧ ∀ r, Ev (fun k => letterbagref04_chances.j2 k (n : Int) (s : Int) l (i : Int) o (j : Int) x) r → Ev (fun k => letterbagref04_chances.l1 k (n : Int) (s : Int) l (i : Int) o (j : Int)) r := by
      by_cases hji : j ≤ i
      · have hnum := hr j (by omega)
        have hlen := ch_len hs hnum
        obtain ⟨x, h1, h2, h3⟩ := ref_times (Dec.of_num hnum) (by omega) (show 10000 - s ≤ 10000 by omega)
        refine ⟨x, by rw [if_pos hji]; exact Dec.of_num h1, by omega, fun r hev => Ev.step (g := fun k => (letterbagref04_times.f k (l.getD j []) ((10000 - s : Nat) : Int)).bind fun t => letterbagref04_chances.j2 k (n : Int) (s : Int) l (i : Int) o (j : Int) t) (fun k => ?_) (Ev.bind h3 hev)⟩
        simp only [letterbagref04_chances.l1]
        rw [e1.out, if_pos (by omega), if_pos (by omega), if_pos (by omega), if_pos (by omega), e2.out, rd_L3_nat]
      · refine ⟨[], by rw [if_neg hji]; exact Dec.nil, by simp, fun r hev => Ev.step (fun k => ?_) hev⟩
        simp only [letterbagref04_chances.l1]
        rw [e1.out, if_pos (by omega), if_neg (by omega)]
    obtain ⟨x, hx1, hx2, hx3⟩ := hx
    -- the successes' part
    by_cases hj0 : j = 0
    · obtain ⟨t, t1, t2, t3⟩ := ref_trim hx1 (by omega)
      have hnum : Num 10000 t (ch s (10000 - s) (i + 1) j) := by
        rw [if_pos (by omega), Nat.mul_comm] at t1
        subst hj0
        rw [ch_zero_succ]; exact t1
      obtain ⟨l', q1, q2, q3⟩ := ih (j + 1) (o ++ [t]) (by omega) (by omega) (by simp [ho]) (hro.snoc (by rw [ho]; exact hnum))
      refine ⟨l', q1, q2, fun r hev => hx3 r (Ev.step (g := fun k => (letterbagref04_trim.f k x).bind fun t => letterbagref04_chances.l1 k (n : Int) (s : Int) l (i : Int) (o ++ [t]) ((j + 1 : Nat) : Int)) (fun k => ?_) (Ev.bind t3 (q3 r hev)))⟩
      simp only [letterbagref04_chances.j2]
      rw [if_neg (by omega), e3.out]
      have : o.length < 5864062014805 := by omega
      simp only [if_pos this]
    · have hnum := hr (j - 1) (by omega)
      have hlen := ch_len hs hnum
      obtain ⟨y, y1, y2, y3⟩ := ref_times (Dec.of_num hnum) (by omega) hs
      obtain ⟨z, z1, z2, z3⟩ := ref_add hx1 (Dec.of_num y1) (by omega) (by omega)
      obtain ⟨t, t1, t2, t3⟩ := ref_trim z1 (by omega)
      have hnum2 : Num 10000 t (ch s (10000 - s) (i + 1) j) := by
        obtain ⟨m, rfl⟩ : ∃ m, j = m + 1 := ⟨j - 1, by omega⟩
        rw [ch_succ_succ]
        rw [Nat.add_sub_cancel] at t1
        by_cases hji : m + 1 ≤ i
        · rw [if_pos hji] at t1
          rw [Nat.add_comm, Nat.mul_comm s, Nat.mul_comm (10000 - s)]; exact t1
        · rw [if_neg hji] at t1
          rw [ch_gt _ _ i (m + 1) (by omega), Nat.mul_zero, Nat.add_zero, Nat.mul_comm]
          rwa [Nat.zero_add] at t1
      obtain ⟨l', q1, q2, q3⟩ := ih (j + 1) (o ++ [t]) (by omega) (by omega) (by simp [ho]) (hro.snoc (by rw [ho]; exact hnum2))
      have e4 := Aside0.mk (show wrap64 ((j : Int) - 1) = ((j - 1 : Nat) : Int) by rw [w64 (by omega) (by omega)]; omega)
      refine ⟨l', q1, q2, fun r hev => hx3 r (Ev.step (g := fun k => (letterbagref04_times.f k (l.getD (j - 1) []) (s : Int)).bind fun t213 => (letterbagref04_add.f k x t213).bind fun t216 => (letterbagref04_trim.f k t216).bind fun t => letterbagref04_chances.l1 k (n : Int) (s : Int) l (i : Int) (o ++ [t]) ((j + 1 : Nat) : Int)) (fun k => ?_) (Ev.bind (g := fun t213 k => (letterbagref04_add.f k x t213).bind fun t216 => (letterbagref04_trim.f k t216).bind fun t => letterbagref04_chances.l1 k (n : Int) (s : Int) l (i : Int) (o ++ [t]) ((j + 1 : Nat) : Int)) y3 (Ev.bind (g := fun t216 k => (letterbagref04_trim.f k t216).bind fun t => letterbagref04_chances.l1 k (n : Int) (s : Int) l (i : Int) (o ++ [t]) ((j + 1 : Nat) : Int)) z3 (Ev.bind t3 (q3 r hev)))))⟩
      simp only [letterbagref04_chances.j2]
      rw [if_pos (by omega), e4.out, if_pos (by omega), if_pos (by omega), e3.out, rd_L3_nat]
      have : o.length < 5864062014805 := by omega
      simp only [if_pos this]

theorem ref_chances_loop (n s : Nat) (hs : s ≤ 10000) (hn : n ≤ 500) : ∀ (d i : Nat) (l : List (List Int)), n - i = d → i ≤ n → l.length = i + 1 → Rows l (ch s (10000 - s) i) →
    ∃ l', l'.length = n + 1 ∧ Rows l' (ch s (10000 - s) n) ∧ Ev (fun k => letterbagref04_chances.l0 k (n : Int) (s : Int) l (i : Int)) l' := by
  intro d
  induction d with
  | zero =>
    intro i l hd hi hl hr
    obtain rfl : i = n := by omega
    refine ⟨l, hl, hr, Ev.done (fun k => ?_)⟩
    simp only [letterbagref04_chances.l0]
    rw [if_neg (by omega)]
  | succ d ih =>
    intro i l hd hi hl hr
    obtain ⟨l', q1, q2, q3⟩ := ref_row n s i hs (by omega) hn l hl hr (i + 2) 0 [] (by omega) (by omega) rfl (fun m hm => by simp at hm)
    obtain ⟨r, r1, r2, r3⟩ := ih (i + 1) l' (by omega) (by omega) (by omega) q2
    refine ⟨r, r1, r2, Ev.step (fun k => ?_) (q3 r r3)⟩
    simp only [letterbagref04_chances.l0]
    rw [if_pos (by omega)]; rfl

theorem ref_chances (n s : Nat) (hs : s ≤ 10000) (hn : n ≤ 500) : ∃ l, l.length = n + 1 ∧ Rows l (ch s (10000 - s) n) ∧ Ev (fun k => letterbagref04_chances.f k (n : Int) (s : Int)) l := by
  refine ref_chances_loop n s hs hn n 0 [[1]] (by omega) (by omega) rfl ?_
  intro m hm
  obtain rfl : m = 0 := by simpa using hm
  have e : ch s (10000 - s) 0 0 = 1 := by simp [ch, binom]
  rw [e]; exact Num.one

/-! ### sum -/
theorem ref_sum_loop (n s a b : Nat) (hn : n ≤ 500) (hs : s ≤ 10000) (hb : b ≤ n) (l : List (List Int)) (hl : l.length = n + 1) (hr : Rows l (ch s (10000 - s) n)) :
    ∀ (d i : Nat) (o : List Int), b + 1 - i = d → a ≤ i → i ≤ b + 1 → Dec o (span s (10000 - s) n a i) → o.length ≤ n + 2 + i →
    ∃ r, Num 10000 r (span s (10000 - s) n a (b + 1)) ∧ Ev (fun k => letterbagref04_sum.l0 k (b : Int) l o (i : Int)) r := by
  intro d
  induction d with
  | zero =>
    intro i o hd ha hi ho hol
    obtain rfl : i = b + 1 := by omega
    obtain ⟨t, t1, t2, t3⟩ := ref_trim ho (by omega)
    refine ⟨t, t1, Ev.step (g := fun k => (letterbagref04_trim.f k o).bind fun t => some t) (fun k => ?_) (Ev.bind (g := fun t _ => some t) t3 (Ev.pure t))⟩
    simp only [letterbagref04_sum.l0]
    rw [if_neg (by omega)]
  | succ d ih =>
    intro i o hd ha hi ho hol
    have hnum := hr i (by omega)
    have hlen := ch_len hs hnum
    obtain ⟨z, z1, z2, z3⟩ := ref_add ho (Dec.of_num hnum) (by omega) (by omega)
    have e3 := Aside0.mk (show wrap64 ((i : Int) + 1) = ((i + 1 : Nat) : Int) by rw [w64 (by omega) (by omega)]; omega)
    obtain ⟨r, r1, r2⟩ := ih (i + 1) z (by omega) (by omega) (by omega) (by rw [span, if_pos ha]; exact z1) (by omega)
    refine ⟨r, r1, Ev.step (g := fun k => (letterbagref04_add.f k o (l.getD i [])).bind fun t => letterbagref04_sum.l0 k (b : Int) l t ((i + 1 : Nat) : Int)) (fun k => ?_) (Ev.bind z3 r2)⟩
    simp only [letterbagref04_sum.l0]
    rw [if_pos (by omega), if_pos (by omega), if_pos (by omega), rd_L3_nat, e3.out]

theorem ref_sum (n s a b : Nat) (hn : n ≤ 500) (hs : s ≤ 10000) (hb : b ≤ n) (ha : a ≤ b + 1) :
    ∃ r, Num 10000 r (span s (10000 - s) n a (b + 1)) ∧ Ev (fun k => letterbagref04_sum.f k (n : Int) (s : Int) (a : Int) (b : Int)) r := by
  obtain ⟨l, h1, h2, h3⟩ := ref_chances n s hs hn
  obtain ⟨r, r1, r2⟩ := ref_sum_loop n s a b hn hs hb l h1 h2 (b + 1 - a) a [] rfl (Nat.le_refl _) ha (by rw [span_low _ _ _ _ _ (Nat.le_refl _)]; exact Dec.nil) (by simp)
  exact ⟨r, r1, Ev.bind h3 r2⟩

/-! ### exceeds -/
theorem iv_zero_of {xs : List Int} (h : Dig 10000 xs) : ∀ n, n ≤ xs.length → (∀ j, j < n → dat xs j = 0) → iv 10000 (xs.take n) = 0 := by
  intro n
  induction n with
  | zero => intro _ _; rfl
  | succ n ih =>
    intro hn hz
    rw [iv_take_succ 10000 (by omega), ih (by omega) (fun j hj => hz j (by omega)), hz n (by omega)]; simp

theorem iv_take_pos {xs : List Int} (h : Dig 10000 xs) : ∀ n i, i < n → n ≤ xs.length → 0 < dat xs i → 0 < iv 10000 (xs.take n) := by
  intro n
  induction n with
  | zero => intro i h; omega
  | succ n ih =>
    intro i hi hn hp
    rw [iv_take_succ 10000 (by omega)]
    have h1 := dat_dig h (by decide) n
    have h2 := pow_pos' (B := (10000 : Int)) (by decide) n
    have h3 := iv_nonneg (B := 10000) (by decide) (h.take n)
    rcases Nat.lt_or_ge i n with hin | hin
    · have h4 := ih i hin (by omega) hp
      have h5 := Int.mul_nonneg (Int.le_of_lt h2) h1.1
      omega
    · obtain rfl : i = n := by omega
      have h5 := Int.mul_pos h2 hp
      omega

/-- the digits below the last one -/
theorem ref_exceeds_loop (xs : List Int) (n : Nat) (hl : xs.length = n + 1) (hn : n ≤ 1000) (h : Dig 10000 xs) : ∀ (d i : Nat), n - i = d → i ≤ n → (∀ j, j < i → dat xs j = 0) →
    Ev (fun k => letterbagref04_exceeds.l0 k xs ((n + 1 : Nat) : Int) (i : Int)) (decide (0 < iv 10000 (xs.take n))) := by
  intro d
  have e1 := Aside0.mk (show wrap64 (((n + 1 : Nat) : Int) - 1) = (n : Int) by rw [w64 (by omega) (by omega)]; omega)
  induction d with
  | zero =>
    intro i hd hi hz
    obtain rfl : i = n := by omega
    refine Ev.done (fun k => ?_)
    simp only [letterbagref04_exceeds.l0]
    rw [e1.out, if_neg (by omega), iv_zero_of h i (by omega) hz]; rfl
  | succ d ih =>
    intro i hd hi hz
    have e2 : rd xs (i : Int) = dat xs i := by rw [rd_dat]; simp
    have e3 := Aside0.mk (show wrap64 ((i : Int) + 1) = ((i + 1 : Nat) : Int) by rw [w64 (by omega) (by omega)]; omega)
    by_cases hp : dat xs i > 0
    · refine Ev.done (fun k => ?_)
      simp only [letterbagref04_exceeds.l0]
      rw [e1.out, if_pos (by omega), if_pos (by omega), if_pos (by omega), e2, if_pos hp, decide_eq_true (iv_take_pos h n i (by omega) (by omega) hp)]
    · have hz2 : dat xs i = 0 := by have := dat_dig h (by decide) i; omega
      refine Ev.step (fun k => ?_) (ih (i + 1) (by omega) (by omega) (fun j hj => by
        rcases Nat.lt_or_ge j i with h1 | h1
        · exact hz j h1
        · rw [show j = i by omega]; exact hz2))
      simp only [letterbagref04_exceeds.l0]
      rw [e1.out, if_pos (by omega), if_pos (by omega), if_pos (by omega), e2, if_neg hp, e3.out]

theorem ref_exceeds {xs : List Int} {x n r : Nat} (h : Num 10000 xs x) (hn : n ≤ 500) (hr1 : 1 ≤ r) (hr : r ≤ 2000) (hl : xs.length ≤ 1000000) :
    Ev (fun k => letterbagref04_exceeds.f k xs (n : Int) (r : Int)) (decide (10000 ^ n * r < x * 10000)) := by
  have hlt := h.lt (by decide)
  by_cases hn0 : n = 0
  · subst hn0
    refine Ev.done (fun k => ?_)
    unfold letterbagref04_exceeds.f
    rw [if_pos (by omega)]
    simp only [letterbagref04_exceeds.j0]
    rw [if_pos trivial]
    have h1 := h.nil_iff (by decide)
    congr 1
    rw [decide_eq_decide, Nat.pow_zero, Nat.one_mul]
    omega
  · obtain ⟨m, rfl⟩ : ∃ m, n = m + 1 := ⟨n - 1, by omega⟩
    have hP := pow_pos' (B := (10000 : Int)) (by decide) m
    have hcast : ((10000 ^ (m + 1) * r : Nat) : Int) = (10000 : Int) ^ m * (r : Int) * 10000 := by
      rw [Int.natCast_mul, Int.natCast_pow, Int.pow_succ, Int.mul_assoc, Int.mul_assoc, Int.mul_comm (r : Int)]; rfl
    have hdec : decide (10000 ^ (m + 1) * r < x * 10000) = decide ((10000 : Int) ^ m * (r : Int) < (x : Int)) := by
      rw [decide_eq_decide]
      have h2 : ((x * 10000 : Nat) : Int) = (x : Int) * 10000 := by rw [Int.natCast_mul]; rfl
      omega
    rw [hdec]
    have hrP1 : (10000 : Int) ^ m ≤ (10000 : Int) ^ m * (r : Int) := by
      have := Int.mul_le_mul_of_nonneg_left (show (1 : Int) ≤ (r : Int) by omega) (Int.le_of_lt hP)
      omega
    have hrP2 : (10000 : Int) ^ m * (r : Int) < (10000 : Int) ^ (m + 1) := by
      rw [Int.pow_succ]
      exact Int.mul_lt_mul_of_pos_left (by omega) hP
    by_cases hgt : (xs.length : Int) > ((m + 1 : Nat) : Int)
    · refine Ev.done (fun k => ?_)
      unfold letterbagref04_exceeds.f
      rw [if_neg (by omega), decide_eq_true hgt]
      simp only [letterbagref04_exceeds.j0]
      rw [if_pos trivial, decide_eq_true (show (xs.length : Int) > 0 by omega), decide_eq_true]
      have h1 := iv_ge (by decide) h.dig h.top (by omega)
      rw [h.val] at h1
      have h2 := pow_le_pow' (B := (10000 : Int)) (by decide) (show m + 1 ≤ xs.length - 1 by omega)
      omega
    · by_cases hls : (xs.length : Int) < ((m + 1 : Nat) : Int)
      · refine Ev.step2 (g := fun _ => some _) (fun k => ?_) (Ev.pure _)
        unfold letterbagref04_exceeds.f
        rw [if_neg (by omega), decide_eq_false hgt]
        simp only [letterbagref04_exceeds.j0, letterbagref04_exceeds.j1]
        rw [if_neg (by decide), if_pos hls, if_pos trivial, if_neg (by omega), decide_eq_false]
        have h2 := pow_le_pow' (B := (10000 : Int)) (by decide) (show xs.length ≤ m by omega)
        omega
      · have hlen : xs.length = m + 1 := by omega
        have e1 := Aside0.mk (show wrap64 (((m + 1 : Nat) : Int) - 1) = (m : Int) by rw [w64 (by omega) (by omega)]; omega)
        have e2 : rd xs (m : Int) = dat xs m := by rw [rd_dat]; simp
        have hv : (x : Int) = iv 10000 (xs.take m) + 10000 ^ m * dat xs m := by
          rw [← h.val, ← iv_take_succ 10000 (show m < xs.length by omega), ← hlen, List.take_length]
        have hlo := iv_nonneg (B := 10000) (by decide) (h.dig.take m)
        have hhi := iv_lt (B := 10000) (by decide) (h.dig.take m)
        rw [List.length_take, Nat.min_eq_left (by omega)] at hhi
        by_cases heq : dat xs m = (r : Int)
        · have hloop := ref_exceeds_loop xs m hlen (by omega) h.dig m 0 (by omega) (by omega) (fun j hj => by omega)
          have e5 : decide ((10000 : Int) ^ m * (r : Int) < (x : Int)) = decide (0 < iv 10000 (xs.take m)) := by
            rw [decide_eq_decide, hv, heq]; omega
          rw [e5]
          refine Ev.step2 (fun k => ?_) hloop
          unfold letterbagref04_exceeds.f
          rw [if_neg (by omega), decide_eq_false hgt]
          simp only [letterbagref04_exceeds.j0, letterbagref04_exceeds.j1]
          rw [if_neg (by decide), if_neg hls, e1.out, if_pos (by omega), if_pos (by omega), e2, if_neg (by rw [heq]; simp)]; rfl
        · refine Ev.step2 (g := fun _ => some _) (fun k => ?_) (Ev.pure _)
          unfold letterbagref04_exceeds.f
          rw [if_neg (by omega), decide_eq_false hgt]
          simp only [letterbagref04_exceeds.j0, letterbagref04_exceeds.j1]
          rw [if_neg (by decide), if_neg hls, e1.out, if_pos (by omega), if_pos (by omega), e2, if_pos (by rw [bne_iff_ne]; exact heq), if_pos (by omega), if_pos (by omega), if_pos (by omega)]
          congr 1
          rw [decide_eq_decide, hv]
          constructor
          · intro hg
            have := Int.mul_le_mul_of_nonneg_left (show (r : Int) + 1 ≤ dat xs m by omega) (Int.le_of_lt hP)
            rw [Int.mul_add] at this
            omega
          · intro hg
            rcases Int.lt_or_gt_of_ne heq with hc | hc
            · have := Int.mul_le_mul_of_nonneg_left (show dat xs m + 1 ≤ (r : Int) by omega) (Int.le_of_lt hP)
              rw [Int.mul_add] at this
              omega
            · exact hc

/-! ### Least, Greatest -/
theorem ref_ask (n k r s : Nat) (hn : n ≤ 500) (hk : k ≤ n) (hs : s ≤ 10000) (hr1 : 1 ≤ r) (hr : r ≤ 2000) :
    ∃ t, Ev (fun f => letterbagref04_sum.f f (n : Int) (s : Int) (k : Int) (n : Int)) t ∧ Ev (fun f => letterbagref04_exceeds.f f t (n : Int) (r : Int)) (excB n k r s) := by
  obtain ⟨t, t1, t2⟩ := ref_sum n s k n hn hs (Nat.le_refl _) (by omega)
  rw [span_up _ _ _ _ hk] at t1
  refine ⟨t, t2, ref_exceeds t1 hn hr1 hr ?_⟩
  have h1 := up_le_all s (10000 - s) n k
  rw [show s + (10000 - s) = 10000 by omega] at h1
  have := num_len t1 h1
  omega

theorem ref_Least_loop (n k r : Nat) (hn : n ≤ 500) (hk : k ≤ n) (hr1 : 1 ≤ r) (hr : r ≤ 2000) :
    ∀ (d lo hi : Nat), hi - lo ≤ d → lo ≤ leastN n k r → leastN n k r ≤ hi → hi ≤ 10000 →
    Ev (fun f => letterbagref04_Least.l0 f (n : Int) (k : Int) (r : Int) (lo : Int) (hi : Int)) ((leastN n k r : Int), 0) := by
  intro d
  induction d with
  | zero =>
    intro lo hi hd h1 h2 h3
    refine Ev.done (fun f => ?_)
    simp only [letterbagref04_Least.l0]
    rw [if_neg (by omega), show lo = leastN n k r by omega]
  | succ d ih =>
    intro lo hi hd h1 h2 h3
    by_cases hlt : lo < hi
    · have em := Aside0.mk (show wrap64 (Int.tdiv (wrap64 ((lo : Int) + (hi : Int))) 2) = (((lo + hi) / 2 : Nat) : Int) by
        rw [w64 (n := (lo : Int) + (hi : Int)) (by omega) (by omega), Int.tdiv_eq_ediv_of_nonneg (by omega), w64 (by omega) (by omega)]; omega)
      obtain ⟨t, t1, t2⟩ := ref_ask n k r ((lo + hi) / 2) hn hk (by omega) hr1 hr
      have hiff := excB_iff hk (show r < 10000 by omega) (show (lo + hi) / 2 ≤ 10000 by omega)
      have em1 := Aside0.mk (show wrap64 ((((lo + hi) / 2 : Nat) : Int) + 1) = (((lo + hi) / 2 + 1 : Nat) : Int) by rw [w64 (by omega) (by omega)]; omega)
      refine Ev.step (g := fun f => (letterbagref04_sum.f f (n : Int) (((lo + hi) / 2 : Nat) : Int) (k : Int) (n : Int)).bind fun t242 => (letterbagref04_exceeds.f f t242 (n : Int) (r : Int)).bind fun t245 => if t245 = true then letterbagref04_Least.l0 f (n : Int) (k : Int) (r : Int) (lo : Int) (((lo + hi) / 2 : Nat) : Int) else letterbagref04_Least.l0 f (n : Int) (k : Int) (r : Int) (((lo + hi) / 2 + 1 : Nat) : Int) (hi : Int)) (fun f => ?_) ?_
      · simp only [letterbagref04_Least.l0]
        rw [if_pos (by omega), em.out, em1.out]
      · refine Ev.bind (g := fun t242 f => (letterbagref04_exceeds.f f t242 (n : Int) (r : Int)).bind fun t245 => if t245 = true then letterbagref04_Least.l0 f (n : Int) (k : Int) (r : Int) (lo : Int) (((lo + hi) / 2 : Nat) : Int) else letterbagref04_Least.l0 f (n : Int) (k : Int) (r : Int) (((lo + hi) / 2 + 1 : Nat) : Int) (hi : Int)) t1 (Ev.bind (g := fun t245 f => if t245 = true then letterbagref04_Least.l0 f (n : Int) (k : Int) (r : Int) (lo : Int) (((lo + hi) / 2 : Nat) : Int) else letterbagref04_Least.l0 f (n : Int) (k : Int) (r : Int) (((lo + hi) / 2 + 1 : Nat) : Int) (hi : Int)) t2 ?_)
        by_cases hex : excB n k r ((lo + hi) / 2) = true
        · simp only [hex, if_true]
          exact ih lo ((lo + hi) / 2) (by omega) h1 (hiff.1 hex) (by omega)
        · simp only [hex]
          have : ¬ leastN n k r ≤ (lo + hi) / 2 := fun h => hex (hiff.2 h)
          exact ih ((lo + hi) / 2 + 1) hi (by omega) (by omega) h2 h3
    · refine Ev.done (fun f => ?_)
      simp only [letterbagref04_Least.l0]
      rw [if_neg (by omega), show lo = leastN n k r by omega]

theorem Ev.wrong0 {β : Type} {f : Nat → Option Int} {g : Nat → Option β} {h : Int → Option β} {r : β} (hf : Ev f 0) (hg : Ev g r) : Ev (fun k => (f k).bind fun t => if t = 0 then g k else h t) r := by
  obtain ⟨K, hK⟩ := hf
  obtain ⟨L, hL⟩ := hg
  refine ⟨max K L, fun k hk => ?_⟩
  show ((f k).bind fun t => if t = 0 then g k else h t) = some r
  rw [hK k (by omega), hL k (by omega), Option.bind_some, if_pos rfl]
theorem Ev.wrong1 {β : Type} {f : Nat → Option Int} {g : Nat → Option β} {h : Int → β} {e : Int} (hf : Ev f e) (he : ¬ e = 0) : Ev (fun k => (f k).bind fun t => if t = 0 then g k else some (h t)) (h e) := by
  obtain ⟨K, hK⟩ := hf
  refine ⟨K, fun k hk => ?_⟩
  show ((f k).bind fun t => if t = 0 then g k else some (h t)) = some (h e)
  rw [hK k hk, Option.bind_some, if_neg he]

theorem ref_Least (n k r : Nat) (hn : n ≤ 500) (hk : k ≤ n) (hr1 : 1 ≤ r) (hr : r ≤ 2000) :
    Ev (fun f => letterbagref04_Least.f f (n : Int) (k : Int) (r : Int)) ((leastN n k r : Int), 0) := by
  have hw := ref_wrong (n : Int) (k : Int) (r : Int) 1 2000
  rw [wrongE_zero (by omega)] at hw
  have hs := leastN_spec hk (show r < 10000 by omega)
  exact Ev.wrong0 (g := fun f => letterbagref04_Least.l0 f (n : Int) (k : Int) (r : Int) 0 10000) (h := fun t => some (0, t)) hw (ref_Least_loop n k r hn hk hr1 hr 10000 0 10000 (by omega) (by omega) hs.1 (Nat.le_refl _))

theorem ref_Least_err (n k r : Int) (h : ¬ wrongE n k r 1 2000 = 0) : Ev (fun f => letterbagref04_Least.f f n k r) (0, wrongE n k r 1 2000) :=
  Ev.wrong1 (g := fun f => letterbagref04_Least.l0 f n k r 0 10000) (h := fun t => (0, t)) (ref_wrong n k r 1 2000) h

theorem ref_Greatest (n k r : Nat) (hn : n ≤ 500) (hk : k ≤ n) (hr1 : 1 ≤ r) (hr : r ≤ 2000) :
    Ev (fun f => letterbagref04_Greatest.f f (n : Int) (k : Int) (r : Int)) ((10000 - (leastN n (n - k) r : Int)), 0) := by
  have hw := ref_wrong (n : Int) (k : Int) (r : Int) 1 2000
  rw [wrongE_zero (by omega)] at hw
  have hs := leastN_spec (show n - k ≤ n by omega) (show r < 10000 by omega)
  have e1 := Aside0.mk (show wrap64 ((n : Int) - (k : Int)) = ((n - k : Nat) : Int) by rw [w64 (by omega) (by omega)]; omega)
  have hl := ref_Least n (n - k) r hn (by omega) hr1 hr
  rw [← e1.out] at hl
  have hb := Ev.bind (g := fun bt _ => some (wrap64 (10000 - bt.1), (0 : Int))) hl (Ev.pure _)
  rw [show wrap64 (10000 - ((leastN n (n - k) r : Int), (0 : Int)).1) = 10000 - (leastN n (n - k) r : Int) from w64 (by omega) (by omega)] at hb
  exact Ev.wrong0 (g := fun f => (letterbagref04_Least.f f (n : Int) (wrap64 ((n : Int) - (k : Int))) (r : Int)).bind fun bt => some (wrap64 (10000 - bt.1), 0)) (h := fun t => some (0, t)) hw hb

theorem ref_Greatest_err (n k r : Int) (h : ¬ wrongE n k r 1 2000 = 0) : Ev (fun f => letterbagref04_Greatest.f f n k r) (0, wrongE n k r 1 2000) :=
  Ev.wrong1 (g := fun f => (letterbagref04_Least.f f n (wrap64 (n - k)) r).bind fun bt => some (wrap64 (10000 - bt.1), 0)) (h := fun t => (0, t)) (ref_wrong n k r 1 2000) h

end Go.Proofs.Ytenmlkcjgefmpaa
