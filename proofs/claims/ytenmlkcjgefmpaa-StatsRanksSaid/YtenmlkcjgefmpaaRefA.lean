/- What the reference's functions on digits to the base 10000 give: cutting zeros, sums, products, comparison with a risk. Plain lists of digits. -/
import Derived.Test.YtenmlkcjgefmpaaFnD
import Derived.Test.YtenmlkcjgefmpaaFunA
import Derived.Test.YtenmlkcjgefmpaaMathB
namespace Go.Proofs.Ytenmlkcjgefmpaa
set_option linter.unusedVariables false
open Go.RowKit Go.Proofs.YtenmlkcjgefmpaaW.PrintWords Go.Proofs.Ytenmlkcjgefmpaa.Fn

/-- It comes to r, with rounds enough. -/
def Ev {α : Type} (f : Nat → Option α) (r : α) : Prop := ∃ K, ∀ k, K ≤ k → f k = some r

theorem Ev.pure {α : Type} (r : α) : Ev (fun _ => some r) r := ⟨0, fun _ _ => rfl⟩
theorem Ev.step {α : Type} {f g : Nat → Option α} {r : α} (h : ∀ k, f (k + 1) = g k) (hg : Ev g r) : Ev f r := by
  obtain ⟨K, hK⟩ := hg
  refine ⟨K + 1, fun k hk => ?_⟩
  obtain ⟨j, rfl⟩ : ∃ j, k = j + 1 := ⟨k - 1, by omega⟩
  rw [h]; exact hK j (by omega)
theorem Ev.done {α : Type} {f : Nat → Option α} {r : α} (h : ∀ k, f (k + 1) = some r) : Ev f r := Ev.step h (Ev.pure r)
theorem Ev.same {α : Type} {f g : Nat → Option α} {r : α} (h : ∀ k, f k = g k) (hg : Ev g r) : Ev f r := by
  obtain ⟨K, hK⟩ := hg
  exact ⟨K, fun k hk => by rw [h]; exact hK k hk⟩
theorem Ev.bind {α β : Type} {f : Nat → Option α} {g : α → Nat → Option β} {a : α} {r : β} (hf : Ev f a) (hg : Ev (g a) r) : Ev (fun k => (f k).bind fun x => g x k) r := by
  obtain ⟨K, hK⟩ := hf
  obtain ⟨L, hL⟩ := hg
  refine ⟨max K L, fun k hk => ?_⟩
  have := hK k (by omega)
  have := hL k (by omega)
  simp_all
theorem Ev.ex {α : Type} {f : Nat → Option α} {r : α} (h : Ev f r) : ∃ k, f k = some r := by
  obtain ⟨K, hK⟩ := h
  exact ⟨K, hK K (Nat.le_refl _)⟩

/-- Digits to the base 10000 that stand for x; zeros at the end are allowed. -/
structure Dec (xs : List Int) (x : Nat) : Prop where
  dig : Dig 10000 xs
  val : iv 10000 xs = (x : Int)

theorem Dec.of_num {xs : List Int} {x : Nat} (h : Num 10000 xs x) : Dec xs x := ⟨h.dig, h.val⟩
theorem Dec.nil : Dec [] 0 := ⟨Dig.nil _, rfl⟩
theorem Num.one : Num 10000 [1] 1 := ⟨fun d h => by simp at h; subst h; decide, fun d h => by simp at h; subst h; decide, rfl⟩

theorem tm_nonneg {s : Int} (h : 0 ≤ s) : Int.tmod s 10000 = s % 10000 := Int.tmod_eq_emod_of_nonneg h
theorem td_nonneg {s : Int} (h : 0 ≤ s) : Int.tdiv s 10000 = s / 10000 := Int.tdiv_eq_ediv_of_nonneg h

theorem iv_drop_any (B : Int) (xs : List Int) (i : Nat) : iv B (xs.drop i) = dat xs i + B * iv B (xs.drop (i + 1)) := by
  rcases Nat.lt_or_ge i xs.length with h | h
  · exact iv_drop B h
  · rw [dat_of_ge h, List.drop_eq_nil_of_le h, List.drop_eq_nil_of_le (by omega)]; simp [iv]

/-! ### wrong -/
theorem ref_wrong (n k x lo hi : Int) : Ev (fun f => letterbagref04_wrong.f f n k x lo hi) (wrongE n k x lo hi) := by
  refine Ev.done (fun j => ?_)
  unfold letterbagref04_wrong.f wrongE
  by_cases h1 : k < 0
  · rw [if_pos h1, if_pos (.inl h1)]; rfl
  · rw [if_neg h1]
    by_cases h2 : k > n
    · rw [if_pos h2, if_pos (.inr (.inl h2))]; rfl
    · rw [if_neg h2]
      by_cases h3 : x < lo
      · rw [if_pos h3, if_pos (.inr (.inr (.inl h3)))]; rfl
      · rw [if_neg h3]
        by_cases h4 : x > hi
        · rw [if_pos (.inr (.inr (.inr h4))), decide_eq_true h4]; rfl
        · rw [if_neg (by omega), decide_eq_false h4]
          simp only [letterbagref04_wrong.j0]
          rw [if_neg (by decide)]
          split <;> rfl

/-! ### trim -/
theorem ref_trim_law : ∀ (n : Nat) (xs : List Int), xs.length = n → n ≤ 1000000 →
    ∃ m, m ≤ n ∧ Ev (fun k => letterbagref04_trim.l0 k xs) (xs.take m) ∧ Top (xs.take m) ∧ ∀ j, m ≤ j → dat xs j = 0 := by
  intro n
  induction n with
  | zero =>
    intro xs hl _
    refine ⟨0, Nat.le_refl _, Ev.done (fun k => ?_), fun d h => by simp at h, fun j _ => dat_of_ge (by omega)⟩
    simp only [letterbagref04_trim.l0]
    rw [if_neg (by omega), List.length_eq_zero_iff.1 hl]; rfl
  | succ n ih =>
    intro xs hl hn
    have e1 : wrap64 ((xs.length : Int) - 1) = (n : Int) := by rw [w64 (by omega) (by omega)]; omega
    have e2 : rd xs (n : Int) = dat xs n := by rw [rd_dat]; simp
    by_cases hz : dat xs n = 0
    · obtain ⟨m, h1, h2, h3, h4⟩ := ih (xs.take n) (by rw [List.length_take]; omega) (by omega)
      refine ⟨m, by omega, Ev.step (g := fun k => letterbagref04_trim.l0 k (xs.take n)) (fun k => ?_) ?_, ?_, fun j hj => ?_⟩
      · simp only [letterbagref04_trim.l0]
        rw [if_pos (by omega), e1, if_pos (by omega), if_pos (by omega), e2, if_pos (show (n : Int) ≤ (xs.length : Int) by omega), if_pos hz, Int.toNat_natCast]
      · rw [List.take_take, Nat.min_eq_left h1] at h2; exact h2
      · rw [List.take_take, Nat.min_eq_left h1] at h3; exact h3
      · rcases Nat.lt_trichotomy j n with hjn | hjn | hjn
        · rw [← dat_take hjn]; exact h4 j hj
        · rw [hjn]; exact hz
        · exact dat_of_ge (by omega)
    · refine ⟨n + 1, Nat.le_refl _, Ev.done (fun k => ?_), ?_, fun j hj => dat_of_ge (by omega)⟩
      · simp only [letterbagref04_trim.l0]
        rw [if_pos (by omega), e1, if_pos (by omega), if_pos (by omega), e2, if_pos (show (n : Int) ≤ (xs.length : Int) by omega), if_neg hz, ← hl, List.take_length]
      · rw [← hl, List.take_length, top_iff]
        intro _
        rw [hl, Nat.add_sub_cancel]; exact hz

theorem ref_trim {xs : List Int} {x : Nat} (h : Dec xs x) (hl : xs.length ≤ 1000000) :
    ∃ r, Num 10000 r x ∧ r.length ≤ xs.length ∧ Ev (fun k => letterbagref04_trim.f k xs) r := by
  obtain ⟨m, h1, h2, h3, h4⟩ := ref_trim_law xs.length xs rfl hl
  exact ⟨xs.take m, ⟨h.dig.take m, h3, by rw [iv_take_zero 10000 h4]; exact h.val⟩, by rw [List.length_take]; omega, h2⟩

/-! ### add -/
/-- one digit of a sum -/
theorem add_digit (a b : List Int) (i : Nat) (c : Int) (hla : a.length ≤ 100000) (hlb : b.length ≤ 100000) (ha : Dig 10000 a) (hb : Dig 10000 b) (h0 : 0 ≤ c) (h1 : c ≤ 1) (hi : i ≤ 100000) (o : List Int) (ho : o.length ≤ 100001)
    (hrun : i < a.length ∨ i < b.length ∨ 0 < c) : ∀ k, letterbagref04_add.l0 (k + 2) a b o c (i : Int) = letterbagref04_add.l0 k a b (o ++ [(c + dat a i + dat b i) % 10000]) ((c + dat a i + dat b i) / 10000) ((i + 1 : Nat) : Int) := by
  intro k
  have da := dat_dig ha (by decide) i
  have db := dat_dig hb (by decide) i
  have ra : rd a (i : Int) = dat a i := by rw [rd_dat]; simp
  have rb : rd b (i : Int) = dat b i := by rw [rd_dat]; simp
  have hstep : letterbagref04_add.l0 (k + 2) a b o c (i : Int) = letterbagref04_add.j1 (k + 1) a b o c (i : Int) true := by
    simp only [letterbagref04_add.l0]
    by_cases h2 : (i : Int) < (a.length : Int)
    · rw [if_pos h2]
    · rw [if_neg h2]
      by_cases h3 : (i : Int) < (b.length : Int)
      · rw [if_pos h3]
      · rw [if_neg h3, decide_eq_true (show c > 0 by omega)]
  rw [hstep]
  simp only [letterbagref04_add.j1]
  have e3 : ((i + 1 : Nat) : Int) = (i : Int) + 1 := by omega
  rw [if_pos trivial, ra, rb, w64 (n := (i : Int) + 1) (by omega) (by omega), w64 (n := c + dat a i) (by omega) (by omega), w64 (n := c + dat b i) (by omega) (by omega), w64 (n := c + dat a i + dat b i) (by omega) (by omega), tm_nonneg (by omega), tm_nonneg (by omega), tm_nonneg (by omega), tm_nonneg h0, td_nonneg (by omega), td_nonneg (by omega), td_nonneg (by omega), td_nonneg h0,
    w64 (n := (c + dat a i + dat b i) / 10000) (by omega) (by omega), w64 (n := (c + dat a i) / 10000) (by omega) (by omega), w64 (n := (c + dat b i) / 10000) (by omega) (by omega), w64 (n := c / 10000) (by omega) (by omega), e3]
  by_cases h2 : (i : Int) < (a.length : Int)
  · rw [if_pos h2, if_pos (by omega)]
    by_cases h3 : (i : Int) < (b.length : Int)
    · rw [if_pos h3, if_pos (by omega)]
    · have z : dat b i = 0 := dat_of_ge (by omega)
      rw [if_neg h3, if_pos (by omega), z, Int.add_zero]
  · have z : dat a i = 0 := dat_of_ge (by omega)
    rw [if_neg h2]
    by_cases h3 : (i : Int) < (b.length : Int)
    · rw [if_pos h3, if_pos (by omega), if_pos (by omega), z, Int.add_zero]
    · have z2 : dat b i = 0 := dat_of_ge (by omega)
      rw [if_neg h3, if_pos (by omega), z, z2, Int.add_zero, Int.add_zero]

theorem Ev.step2 {α : Type} {f g : Nat → Option α} {r : α} (h : ∀ k, f (k + 2) = g k) (hg : Ev g r) : Ev f r := by
  obtain ⟨K, hK⟩ := hg
  refine ⟨K + 2, fun k hk => ?_⟩
  obtain ⟨j, rfl⟩ : ∃ j, k = j + 2 := ⟨k - 2, by omega⟩
  rw [h]; exact hK j (by omega)

theorem ref_add_loop (a b : List Int) (ha : Dig 10000 a) (hb : Dig 10000 b) (hla : a.length ≤ 100000) (hlb : b.length ≤ 100000) :
    ∀ (d i : Nat) (c : Int) (o : List Int), 2 * (max a.length b.length - i) + c.toNat ≤ d → 0 ≤ c → c ≤ 1 → o.length = i → (i ≤ max a.length b.length ∨ c = 0 ∧ i ≤ max a.length b.length + 1) → Dig 10000 o →
    ∃ r, Dig 10000 r ∧ r.length ≤ max a.length b.length + 1 ∧ iv 10000 r = iv 10000 o + 10000 ^ i * (c + iv 10000 (a.drop i) + iv 10000 (b.drop i)) ∧ Ev (fun k => letterbagref04_add.l0 k a b o c (i : Int)) r := by
  intro d
  induction d with
  | zero =>
    intro i c o hd h0 h1 ho hi hdo
    have hc : c = 0 := by omega
    refine ⟨o, hdo, by omega, ?_, Ev.step2 (g := fun _ => some o) (fun k => ?_) (Ev.pure _)⟩
    · rw [List.drop_eq_nil_of_le (by omega), List.drop_eq_nil_of_le (by omega), hc]; simp [iv]
    · simp only [letterbagref04_add.l0, letterbagref04_add.j1]
      rw [if_neg (by omega), if_neg (by omega), hc]; rfl
  | succ d ih =>
    intro i c o hd h0 h1 ho hi hdo
    by_cases hrun : i < a.length ∨ i < b.length ∨ 0 < c
    · have da := dat_dig ha (by decide) i
      have db := dat_dig hb (by decide) i
      have hz : (c + dat a i + dat b i) / 10000 ≤ 1 := by omega
      have hz2 : max a.length b.length ≤ i → (c + dat a i + dat b i) / 10000 = 0 := by
        intro h
        rw [dat_of_ge (show a.length ≤ i by omega), dat_of_ge (show b.length ≤ i by omega)]; omega
      obtain ⟨r, h2, h3, h4, h5⟩ := ih (i + 1) ((c + dat a i + dat b i) / 10000) (o ++ [(c + dat a i + dat b i) % 10000]) (by
          rcases Nat.lt_or_ge i (max a.length b.length) with h | h
          · omega
          · have := hz2 h; omega) (by omega) hz (by simp [ho]) (by
          rcases Nat.lt_or_ge i (max a.length b.length) with h | h
          · left; omega
          · right; exact ⟨hz2 h, by omega⟩) (hdo.snoc (Int.emod_nonneg _ (by decide)) (Int.emod_lt_of_pos _ (by decide)))
      refine ⟨r, h2, h3, ?_, Ev.step2 (add_digit a b i c hla hlb ha hb h0 h1 (by omega) o (by omega) hrun) h5⟩
      rw [h4, iv_snoc, ho, iv_drop_any 10000 a i, iv_drop_any 10000 b i, Int.pow_succ]
      have e : c + dat a i + dat b i = 10000 * ((c + dat a i + dat b i) / 10000) + (c + dat a i + dat b i) % 10000 := by omega
      generalize iv 10000 (List.drop (i + 1) a) = u
      generalize iv 10000 (List.drop (i + 1) b) = v
      generalize (10000 : Int) ^ i = P
      generalize (c + dat a i + dat b i) / 10000 = q at e ⊢
      generalize (c + dat a i + dat b i) % 10000 = m at e ⊢
      have e2 : c + (dat a i + 10000 * u) + (dat b i + 10000 * v) = m + 10000 * (q + u + v) := by omega
      rw [e2, Int.mul_add P m, Int.mul_assoc P 10000]; omega
    · refine ⟨o, hdo, by omega, ?_, Ev.step2 (g := fun _ => some o) (fun k => ?_) (Ev.pure _)⟩
      · rw [List.drop_eq_nil_of_le (by omega), List.drop_eq_nil_of_le (by omega), show c = 0 by omega]; simp [iv]
      · simp only [letterbagref04_add.l0, letterbagref04_add.j1]
        rw [if_neg (by omega), if_neg (by omega), show c = 0 by omega]; rfl

theorem ref_add {a b : List Int} {x y : Nat} (ha : Dec a x) (hb : Dec b y) (hla : a.length ≤ 100000) (hlb : b.length ≤ 100000) :
    ∃ r, Dec r (x + y) ∧ r.length ≤ max a.length b.length + 1 ∧ Ev (fun k => letterbagref04_add.f k a b) r := by
  obtain ⟨r, h1, h2, h3, h4⟩ := ref_add_loop a b ha.dig hb.dig hla hlb _ 0 0 [] (Nat.le_refl _) (by decide) (by decide) rfl (.inl (Nat.zero_le _)) (Dig.nil _)
  refine ⟨r, ⟨h1, ?_⟩, h2, h4⟩
  rw [h3, List.drop_zero, List.drop_zero, ha.val, hb.val]; simp [iv]

/-! ### times -/
theorem times_digit (a : List Int) (p : Int) (i : Nat) (c : Int) (hla : a.length ≤ 100000) (ha : Dig 10000 a) (hp0 : 0 ≤ p) (hp1 : p ≤ 10000) (h0 : 0 ≤ c) (h1 : c ≤ 9999) (hi : i ≤ 100000) (o : List Int) (ho : o.length ≤ 100001)
    (hm : 0 ≤ dat a i * p ∧ dat a i * p ≤ 99990000) (hrun : i < a.length ∨ 0 < c) : ∀ k, letterbagref04_times.l0 (k + 2) a p o c (i : Int) = letterbagref04_times.l0 k a p (o ++ [(c + dat a i * p) % 10000]) ((c + dat a i * p) / 10000) ((i + 1 : Nat) : Int) := by
  intro k
  have ra : rd a (i : Int) = dat a i := by rw [rd_dat]; simp
  have hstep : letterbagref04_times.l0 (k + 2) a p o c (i : Int) = letterbagref04_times.j1 (k + 1) a p o c (i : Int) true := by
    simp only [letterbagref04_times.l0]
    by_cases h2 : (i : Int) < (a.length : Int)
    · rw [if_pos h2]
    · rw [if_neg h2, decide_eq_true (show c > 0 by omega)]
  rw [hstep]
  simp only [letterbagref04_times.j1]
  have e3 : ((i + 1 : Nat) : Int) = (i : Int) + 1 := by omega
  rw [if_pos trivial, ra, w64 (n := (i : Int) + 1) (by omega) (by omega), w64 (n := dat a i * p) (by omega) (by omega), w64 (n := c + dat a i * p) (by omega) (by omega), tm_nonneg (by omega), tm_nonneg h0, td_nonneg (by omega), td_nonneg h0,
    w64 (n := (c + dat a i * p) / 10000) (by omega) (by omega), w64 (n := c / 10000) (by omega) (by omega), e3]
  by_cases h2 : (i : Int) < (a.length : Int)
  · rw [if_pos h2, if_pos (by omega), if_pos (by omega)]
  · have z : dat a i = 0 := dat_of_ge (by omega)
    rw [if_neg h2, if_pos (by omega), z, Int.zero_mul, Int.add_zero]

theorem digit_prod {d p : Int} (hd : 0 ≤ d ∧ d < 10000) (hp0 : 0 ≤ p) (hp1 : p ≤ 10000) : 0 ≤ d * p ∧ d * p ≤ 99990000 := by
  refine ⟨Int.mul_nonneg hd.1 hp0, ?_⟩
  have h1 := Int.mul_le_mul_of_nonneg_right (show d ≤ 9999 by omega) hp0
  have h2 : (9999 : Int) * p ≤ 99990000 := by omega
  omega

theorem ref_times_loop (a : List Int) (p : Int) (ha : Dig 10000 a) (hla : a.length ≤ 100000) (hp0 : 0 ≤ p) (hp1 : p ≤ 10000) :
    ∀ (d i : Nat) (c : Int) (o : List Int), 2 * (a.length - i) + (if 0 < c then 1 else 0) ≤ d → 0 ≤ c → c ≤ 9999 → o.length = i → (i ≤ a.length ∨ c = 0 ∧ i ≤ a.length + 1) → Dig 10000 o →
    ∃ s, Dig 10000 s ∧ s.length ≤ a.length + 1 ∧ iv 10000 s = iv 10000 o + 10000 ^ i * (c + iv 10000 (a.drop i) * p) ∧ ∀ t, Ev (fun k => letterbagref04_trim.f k s) t → Ev (fun k => letterbagref04_times.l0 k a p o c (i : Int)) t := by
  intro d
  induction d with
  | zero =>
    intro i c o hd h0 h1 ho hi hdo
    have hc : c = 0 := by split at hd <;> omega
    refine ⟨o, hdo, by omega, ?_, fun t ht => Ev.step2 (g := fun k => (letterbagref04_trim.f k o).bind fun t => some t) (fun k => ?_) (Ev.bind (g := fun t _ => some t) ht (Ev.pure t))⟩
    · rw [List.drop_eq_nil_of_le (by split at hd <;> omega), hc]; simp [iv]
    · simp only [letterbagref04_times.l0, letterbagref04_times.j1]
      rw [if_neg (by split at hd <;> omega), hc]; rfl
  | succ d ih =>
    intro i c o hd h0 h1 ho hi hdo
    have da := dat_dig ha (by decide) i
    have hm := digit_prod da hp0 hp1
    by_cases hrun : i < a.length ∨ 0 < c
    · have hz : (c + dat a i * p) / 10000 ≤ 9999 := by omega
      have hz2 : a.length ≤ i → (c + dat a i * p) / 10000 = 0 := by
        intro h
        rw [dat_of_ge h, Int.zero_mul]; omega
      obtain ⟨s, h2, h3, h4, h5⟩ := ih (i + 1) ((c + dat a i * p) / 10000) (o ++ [(c + dat a i * p) % 10000]) (by
          rcases Nat.lt_or_ge i a.length with h | h
          · split <;> omega
          · rw [hz2 h]; split at hd <;> simp <;> omega) (by omega) hz (by simp [ho]) (by
          rcases Nat.lt_or_ge i a.length with h | h
          · left; omega
          · right; exact ⟨hz2 h, by omega⟩) (hdo.snoc (Int.emod_nonneg _ (by decide)) (Int.emod_lt_of_pos _ (by decide)))
      refine ⟨s, h2, h3, ?_, fun t ht => Ev.step2 (times_digit a p i c hla ha hp0 hp1 h0 h1 (by omega) o (by omega) hm hrun) (h5 t ht)⟩
      rw [h4, iv_snoc, ho, iv_drop_any 10000 a i, Int.pow_succ]
      have e : c + dat a i * p = 10000 * ((c + dat a i * p) / 10000) + (c + dat a i * p) % 10000 := by omega
      generalize iv 10000 (List.drop (i + 1) a) = u
      generalize (10000 : Int) ^ i = P
      generalize (c + dat a i * p) / 10000 = q at e ⊢
      generalize (c + dat a i * p) % 10000 = m at e ⊢
      have e2 : c + (dat a i + 10000 * u) * p = m + 10000 * (q + u * p) := by
        rw [Int.add_mul, ← Int.add_assoc, e, Int.mul_assoc 10000 u p]; omega
      rw [e2, Int.mul_add P m, Int.mul_assoc P 10000]; omega
    · refine ⟨o, hdo, by omega, ?_, fun t ht => Ev.step2 (g := fun k => (letterbagref04_trim.f k o).bind fun t => some t) (fun k => ?_) (Ev.bind (g := fun t _ => some t) ht (Ev.pure t))⟩
      · rw [List.drop_eq_nil_of_le (by omega), show c = 0 by omega]; simp [iv]
      · simp only [letterbagref04_times.l0, letterbagref04_times.j1]
        rw [if_neg (by omega), show c = 0 by omega]; rfl

theorem ref_times {a : List Int} {x p : Nat} (ha : Dec a x) (hla : a.length ≤ 100000) (hp : p ≤ 10000) :
    ∃ r, Num 10000 r (x * p) ∧ r.length ≤ a.length + 1 ∧ Ev (fun k => letterbagref04_times.f k a (p : Int)) r := by
  obtain ⟨s, h1, h2, h3, h4⟩ := ref_times_loop a p ha.dig hla (by omega) (by omega) _ 0 0 [] (Nat.le_refl _) (by decide) (by decide) rfl (.inl (Nat.zero_le _)) (Dig.nil _)
  obtain ⟨r, h5, h6, h7⟩ := ref_trim (x := x * p) (xs := s) ⟨h1, by rw [h3, List.drop_zero, ha.val]; simp [iv]⟩ (by omega)
  exact ⟨r, h5, by omega, h4 r h7⟩

end Go.Proofs.Ytenmlkcjgefmpaa
