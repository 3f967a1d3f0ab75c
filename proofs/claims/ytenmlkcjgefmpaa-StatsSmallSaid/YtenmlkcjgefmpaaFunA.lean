/- What the printed functions on natural numbers give: cutting zeros, numbers of 64 bits, right numbers, products, comparison, division by one limb. Plain lists of digits. -/
import Derived.Test.YtenmlkcjgefmpaaFnB
import Derived.Test.YtenmlkcjgefmpaaDigA
namespace Go.Proofs.Ytenmlkcjgefmpaa
open Go.RowKit Go.Proofs.YtenmlkcjgefmpaaW.PrintWords Go.Proofs.Ytenmlkcjgefmpaa.Fn

theorem w64 {n : Int} (h0 : -9223372036854775808 ≤ n) (h1 : n ≤ 9223372036854775807) : wrap64 n = n := by unfold wrap64; omega
theorem wu64 {n : Int} (h0 : 0 ≤ n) (h1 : n < 18446744073709551616) : IntKind.u64.wrap n = n := by
  have e : IntKind.u64.wrap n = n % 18446744073709551616 := rfl
  rw [e]
  exact Int.emod_eq_of_lt h0 h1
theorem rd_dat (xs : List Int) (i : Int) : rd xs i = dat xs i.toNat := rfl

theorem trim_law : ∀ (n : Nat) (xs : List Int) (k : Nat), xs.length = n → n ≤ 1000000 → n < k →
    ∃ m, m ≤ n ∧ nat_trim.l0 k xs = some (xs.take m) ∧ Top (xs.take m) ∧ ∀ j, m ≤ j → dat xs j = 0 := by
  intro n
  induction n with
  | zero =>
    intro xs k hl _ hk
    obtain ⟨k, rfl⟩ : ∃ m, k = m + 1 := ⟨k - 1, by omega⟩
    refine ⟨0, Nat.le_refl _, ?_, fun d h => by simp at h, fun j _ => dat_of_ge (by omega)⟩
    simp only [nat_trim.l0]
    rw [if_neg (by omega), List.length_eq_zero_iff.1 hl]; rfl
  | succ n ih =>
    intro xs k hl hn hk
    obtain ⟨k, rfl⟩ : ∃ m, k = m + 1 := ⟨k - 1, by omega⟩
    have e1 : wrap64 ((xs.length : Int) - 1) = (n : Int) := by rw [w64 (by omega) (by omega)]; omega
    have e2 : rd xs (n : Int) = dat xs n := by rw [rd_dat]; simp
    simp only [nat_trim.l0]
    rw [if_pos (by omega), e1, if_pos (by omega), if_pos (by omega), e2, if_pos (show (n : Int) ≤ (xs.length : Int) by omega)]
    by_cases hz : dat xs n = 0
    · rw [if_pos hz]
      obtain ⟨m, h1, h2, h3, h4⟩ := ih (xs.take n) k (by rw [List.length_take]; omega) (by omega) (by omega)
      refine ⟨m, by omega, ?_, ?_, fun j hj => ?_⟩
      · rw [Int.toNat_natCast, h2, List.take_take, Nat.min_eq_left h1]
      · rw [List.take_take, Nat.min_eq_left h1] at h3; exact h3
      · rcases Nat.lt_trichotomy j n with hjn | hjn | hjn
        · rw [← dat_take hjn]; exact h4 j hj
        · rw [hjn]; exact hz
        · exact dat_of_ge (by omega)
    · rw [if_neg hz]
      refine ⟨n + 1, Nat.le_refl _, by rw [← hl, List.take_length], ?_, fun j hj => dat_of_ge (by omega)⟩
      rw [← hl, List.take_length, top_iff]
      intro _
      rw [hl, Nat.add_sub_cancel]; exact hz

/-- what trim gives of digits -/
theorem trim_num {xs : List Int} {x : Nat} (h : Dig (4294967296 : Int) xs) (hv : iv (4294967296 : Int) xs = (x : Int)) (hl : xs.length ≤ 1000000) :
    ∃ r, r.length ≤ xs.length ∧ Num (4294967296 : Int) r x ∧ ∀ k, xs.length < k → nat_trim.f k xs = some r := by
  obtain ⟨m, h1, h2, h3, h4⟩ := trim_law xs.length xs (xs.length + 1) rfl hl (by omega)
  refine ⟨xs.take m, by rw [List.length_take]; omega, ⟨h.take m, h3, by rw [iv_take_zero (4294967296 : Int) h4]; exact hv⟩, fun k hk => ?_⟩
  exact at_rounds (fun k => nat_trim.mono xs k) (show xs.length + 1 ≤ k by omega) h2

theorem of_num (n : Nat) (hn : n < 18446744073709551616) : ∃ r, r.length ≤ 2 ∧ Num (4294967296 : Int) r n ∧ ∀ k, 2 < k → nat_Of.f k (n : Int) = some r := by
  obtain ⟨r, h1, h2, h3⟩ := trim_num (x := n) (xs := [(n : Int) % 4294967296, ((n : Int) / 4294967296) % 4294967296]) (by
    intro d hd
    simp only [List.mem_cons, List.not_mem_nil, or_false] at hd
    rcases hd with rfl | rfl <;> exact ⟨Int.emod_nonneg _ (by decide), Int.emod_lt_of_pos _ (by decide)⟩) (by
    simp only [iv]; omega) (by simp)
  refine ⟨r, by simpa using h1, h2, fun k hk => ?_⟩
  unfold nat_Of.f
  rw [h3 k (by simpa using hk)]; rfl

theorem one_num (n : Nat) (hn : n < 9223372036854775808) : ∃ r, r.length ≤ 2 ∧ Num (4294967296 : Int) r n ∧ ∀ k, 2 < k → stats_one.f k (n : Int) = some r := by
  obtain ⟨r, h1, h2, h3⟩ := of_num n (by omega)
  refine ⟨r, h1, h2, fun k hk => ?_⟩
  unfold stats_one.f
  rw [wu64 (by omega) (by omega), h3 k hk]; rfl

theorem right_num {xs : List Int} {x : Nat} (h : Num (4294967296 : Int) xs x) (hl : xs.length ≤ 1024) : nat_Right.f xs = some true := by
  unfold nat_Right.f
  rw [if_pos (by omega)]
  by_cases h0 : xs.length = 0
  · rw [if_pos (by omega)]
  · rw [if_neg (by omega), w64 (by omega) (by omega), if_pos (by omega), if_pos (by omega)]
    have e : rd xs ((xs.length : Int) - 1) = dat xs (xs.length - 1) := by rw [rd_dat]; congr 1; omega
    rw [e]
    have := top_iff.1 h.top (by omega)
    simp [this]

theorem fit_num {xs : List Int} {x : Nat} (h : Dig (4294967296 : Int) xs) (hv : iv (4294967296 : Int) xs = (x : Int)) (hl : xs.length ≤ 1000000) (hx : (x : Int) < (4294967296 : Int) ^ 1024) :
    ∃ r, Num (4294967296 : Int) r x ∧ r.length ≤ 1024 ∧ ∀ k, xs.length < k → nat_fit.f k xs = some (r, 0) := by
  obtain ⟨r, h1, h2, h3⟩ := trim_num h hv hl
  have h4 : r.length ≤ 1024 := h2.len_le (by decide) hx
  refine ⟨r, h2, h4, fun k hk => ?_⟩
  unfold nat_fit.f
  rw [h3 k hk]
  simp only [Option.bind_some]
  rw [if_neg (by omega)]

/-- a limb times a limb, and what is carried, and a limb, are less than two limbs -/
theorem limb_prod {a b c o : Int} (ha : 0 ≤ a ∧ a < (4294967296 : Int)) (hb : 0 ≤ b ∧ b < (4294967296 : Int)) (hc : 0 ≤ c ∧ c < (4294967296 : Int)) (ho : 0 ≤ o ∧ o < (4294967296 : Int)) : 0 ≤ a * b ∧ 0 ≤ c + (a * b + o) ∧ c + (a * b + o) < 18446744073709551616 := by
  have h1 := Int.mul_nonneg ha.1 hb.1
  have h2 : a * b ≤ 4294967295 * 4294967295 := by
    have e1 := Int.mul_le_mul_of_nonneg_right (show a ≤ 4294967295 by have := ha.2; omega) hb.1
    have e2 := Int.mul_le_mul_of_nonneg_left (show b ≤ 4294967295 by have := hb.2; omega) (show (0 : Int) ≤ 4294967295 by decide)
    omega
  obtain ⟨c0, c1⟩ := hc
  obtain ⟨o0, o1⟩ := ho
  refine ⟨h1, by omega, ?_⟩
  have : (4294967295 : Int) * 4294967295 = 18446744065119617025 := by decide
  omega

/-- one limb's row: from place j on -/
theorem mul_inner (a b : List Int) (x : Int) (hx : 0 ≤ x ∧ x < (4294967296 : Int)) (hb : Dig (4294967296 : Int) b) (i : Nat) (hla : a.length ≤ 100000) (hlb : b.length ≤ 100000) (hi : i < a.length) :
    ∀ (d j k : Nat) (o : List Int) (c : Int), b.length - j = d → j ≤ b.length → d < k → Dig (4294967296 : Int) o → o.length = a.length + b.length → 0 ≤ c → c < (4294967296 : Int) → dat o (i + b.length) = 0 → (∀ q, i + b.length ≤ q → dat o q = 0) →
    ∃ o' : List Int, o'.length = o.length ∧ Dig (4294967296 : Int) o' ∧ (∀ q, i + b.length < q → dat o' q = 0) ∧ iv (4294967296 : Int) o' = iv (4294967296 : Int) o + (4294967296 : Int) ^ (i + j) * c + (4294967296 : Int) ^ (i + j) * (x * iv (4294967296 : Int) (b.drop j)) ∧
      nat_mul.l1 k b o (i : Int) x c a (a.length : Int) (i : Int) b (b.length : Int) (j : Int) = nat_mul.l0 (k - (d + 1)) b o' a (a.length : Int) ((i + 1 : Nat) : Int) := by
  intro d
  induction d with
  | zero =>
    intro j k o c hd hj hk ho hlo hc0 hc1 hz hzz
    obtain ⟨k, rfl⟩ : ∃ m, k = m + 1 := ⟨k - 1, by omega⟩
    obtain rfl : j = b.length := by omega
    refine ⟨o.set (i + b.length) c, by rw [List.length_set], ho.set _ hc0 hc1, fun q hq => ?_, ?_, ?_⟩
    · rw [dat_set_ne (by omega)]; exact hzz q (by omega)
    · rw [iv_set (4294967296 : Int) c o (i + b.length) (by omega), hz, Int.sub_zero, List.drop_length]
      simp [iv]
    · simp only [nat_mul.l1]
      rw [if_neg (by omega), w64 (n := (i : Int) + (b.length : Int)) (by omega) (by omega), if_pos (by omega), if_pos (by omega), w64 (n := (i : Int) + 1) (by omega) (by omega), Int.emod_eq_of_lt hc0 hc1]
      have e : ((i : Int) + (b.length : Int)).toNat = i + b.length := by omega
      rw [e]
      have e2 : ((i + 1 : Nat) : Int) = (i : Int) + 1 := by omega
      rw [e2]; rfl
  | succ d ih =>
    intro j k o c hd hj hk ho hlo hc0 hc1 hz hzz
    obtain ⟨k, rfl⟩ : ∃ m, k = m + 1 := ⟨k - 1, by omega⟩
    have hjb : j < b.length := by omega
    have hy := dat_dig hb (by decide) j
    have hw := dat_dig ho (by decide) (i + j)
    obtain ⟨p0, p1, p2⟩ := limb_prod hx hy ⟨hc0, hc1⟩ hw
    simp only [nat_mul.l1]
    have er : rd b (j : Int) = dat b j := by rw [rd_dat]; simp
    have ew : rd o ((i : Int) + (j : Int)) = dat o (i + j) := by rw [rd_dat]; congr 1
    have et : ((i : Int) + (j : Int)).toNat = i + j := by omega
    rw [if_pos (by omega), if_pos (by omega), if_pos (by omega), w64 (n := (i : Int) + (j : Int)) (by omega) (by omega), if_pos (by omega), if_pos (by omega), er, ew, et,
      wu64 hx.1 (by have := hx.2; omega), wu64 hy.1 (by have := hy.2; omega), wu64 p0 (by omega), wu64 hw.1 (by have := hw.2; omega), wu64 (n := x * dat b j + dat o (i + j)) (by omega) (by omega), wu64 p1 p2, w64 (n := (j : Int) + 1) (by omega) (by omega)]
    generalize hs : c + (x * dat b j + dat o (i + j)) = s at p1 p2 ⊢
    obtain ⟨o', h1, h2, h3, h4, h5⟩ := ih (j + 1) k (o.set (i + j) (s % 4294967296)) (s / 4294967296) (by omega) (by omega) (by omega)
      (ho.set _ (Int.emod_nonneg _ (by decide)) (Int.emod_lt_of_pos _ (by decide))) (by rw [List.length_set]; exact hlo) (by omega) (by omega)
      (by rw [dat_set_ne (by omega)]; exact hz) (fun q hq => by rw [dat_set_ne (by omega)]; exact hzz q hq)
    refine ⟨o', by rw [h1, List.length_set], h2, h3, ?_, ?_⟩
    · rw [h4, iv_set (4294967296 : Int) _ o (i + j) (by omega), iv_drop (4294967296 : Int) hjb]
      have e1 : (4294967296 : Int) ^ (i + (j + 1)) = (4294967296 : Int) ^ (i + j) * 4294967296 := by rw [← Nat.add_assoc, Int.pow_succ]
      have e2 : s = 4294967296 * (s / 4294967296) + s % 4294967296 := by omega
      rw [e1]
      generalize iv (4294967296 : Int) (List.drop (j + 1) b) = v
      generalize (4294967296 : Int) ^ (i + j) = P
      generalize iv (4294967296 : Int) o = O
      generalize hq : s / 4294967296 = q at e2 ⊢
      generalize hr : s % 4294967296 = r at e2 ⊢
      have e3 : P * 4294967296 * q = P * (4294967296 * q) := by rw [Int.mul_assoc]
      have e4 : P * 4294967296 * (x * v) = P * (x * ((4294967296 : Int) * v)) := by
        show P * 4294967296 * (x * v) = P * (x * (4294967296 * v))
        rw [Int.mul_assoc, Int.mul_left_comm x 4294967296 v]
      rw [e3, e4]
      simp only [← Int.mul_add, Int.add_assoc]
      congr 2
      rw [Int.mul_add x]
      omega
    · have e : ((j + 1 : Nat) : Int) = (j : Int) + 1 := by omega
      rw [e] at h5
      rw [h5]
      congr 1
      omega

theorem mul_outer (a b : List Int) (ha : Dig (4294967296 : Int) a) (hb : Dig (4294967296 : Int) b) (hla : a.length ≤ 100000) (hlb : b.length ≤ 100000) :
    ∀ (d i k : Nat) (o : List Int), a.length - i = d → i ≤ a.length → (d + 1) * (b.length + 2) + a.length + b.length < k → Dig (4294967296 : Int) o → o.length = a.length + b.length → (∀ q, i + b.length ≤ q → dat o q = 0) → iv (4294967296 : Int) o = iv (4294967296 : Int) (a.take i) * iv (4294967296 : Int) b →
    ∃ (o' : List Int) (k' : Nat), o'.length = a.length + b.length ∧ Dig (4294967296 : Int) o' ∧ iv (4294967296 : Int) o' = iv (4294967296 : Int) a * iv (4294967296 : Int) b ∧ a.length + b.length < k' ∧
      nat_mul.l0 k b o a (a.length : Int) (i : Int) = (nat_trim.f k' o').bind fun t => some t := by
  intro d
  induction d with
  | zero =>
    intro i k o hd hi hk ho hlo hz hv
    obtain ⟨k, rfl⟩ : ∃ m, k = m + 1 := ⟨k - 1, by omega⟩
    obtain rfl : i = a.length := by omega
    refine ⟨o, k, hlo, ho, by rw [hv, List.take_length], by omega, ?_⟩
    simp only [nat_mul.l0]
    rw [if_neg (by omega)]
  | succ d ih =>
    intro i k o hd hi hk ho hlo hz hv
    obtain ⟨k, rfl⟩ : ∃ m, k = m + 1 := ⟨k - 1, by omega⟩
    have hia : i < a.length := by omega
    have hx := dat_dig ha (by decide) i
    have er : rd a (i : Int) = dat a i := by rw [rd_dat]; simp
    have hmul : (d + 1 + 1) * (b.length + 2) = (d + 1) * (b.length + 2) + (b.length + 2) := by rw [Nat.add_mul (d + 1) 1, Nat.one_mul]
    obtain ⟨o', h1, h2, h3, h4, h5⟩ := mul_inner a b (dat a i) hx hb i hla hlb hia b.length 0 k o 0 (by omega) (by omega) (by omega) ho hlo (Int.le_refl _) (by decide) (hz _ (Nat.le_refl _)) hz
    obtain ⟨o2, k2, g1, g2, g3, g4, g5⟩ := ih (i + 1) (k - (b.length + 1)) o' (by omega) (by omega) (by omega) h2 (by omega) (fun q hq => h3 q (by omega)) (by
      rw [h4, hv, iv_take_succ (4294967296 : Int) hia, List.drop_zero, Nat.add_zero, Int.mul_zero, Int.add_zero, Int.add_mul, Int.mul_assoc])
    refine ⟨o2, k2, g1, g2, g3, g4, ?_⟩
    simp only [nat_mul.l0]
    rw [if_pos (by omega), if_pos (by omega), if_pos (by omega), er]
    have e0 : ((0 : Nat) : Int) = 0 := rfl
    rw [e0] at h5
    rw [h5, g5]

/-- the product of two numbers: its digits -/
theorem mul_num {a b : List Int} {x y : Nat} (ha : Num (4294967296 : Int) a x) (hb : Num (4294967296 : Int) b y) (hla : a.length ≤ 100000) (hlb : b.length ≤ 100000) :
    ∃ r k, Num (4294967296 : Int) r (x * y) ∧ r.length ≤ a.length + b.length ∧ nat_mul.f k a b = some r := by
  obtain ⟨o', k', h1, h2, h3, h4, h5⟩ := mul_outer a b ha.dig hb.dig hla hlb a.length 0 ((a.length + 1) * (b.length + 2) + a.length + b.length + 1) (List.replicate (a.length + b.length) 0) (by omega) (by omega) (by omega)
    (Dig.replicate (by decide) _) (by simp) (fun q _ => dat_replicate _ _) (by rw [iv_replicate]; simp [iv])
  obtain ⟨r, r1, r2, r3⟩ := trim_num (x := x * y) h2 (by rw [h3, ha.val, hb.val]; simp) (by omega)
  refine ⟨r, (a.length + 1) * (b.length + 2) + a.length + b.length + 1, r2, by omega, ?_⟩
  unfold nat_mul.f
  rw [w64 (by omega) (by omega), if_pos (by omega), if_pos (by omega)]
  have e : ((a.length : Int) + (b.length : Int)).toNat = a.length + b.length := by omega
  have e0 : ((0 : Nat) : Int) = 0 := rfl
  rw [e0] at h5
  rw [e, h5, r3 _ (by omega)]; rfl

/-- rounds enough for two -/
theorem two_rounds {α β : Type} {f : Nat → Option α} {g : Nat → Option β} {a : α} {b : β} (hf : ∀ k, LeO (f k) (f (k + 1))) (hg : ∀ k, LeO (g k) (g (k + 1))) {k l : Nat} (h1 : f k = some a) (h2 : g l = some b) : ∃ m, f m = some a ∧ g m = some b :=
  ⟨max k l, at_rounds hf (by omega) h1, at_rounds hg (by omega) h2⟩

theorem Mul_num {a b : List Int} {x y : Nat} (ha : Num (4294967296 : Int) a x) (hb : Num (4294967296 : Int) b y) (hla : a.length ≤ 1024) (hlb : b.length ≤ 1024) (hl : a.length + b.length ≤ 1025) (hxy : ((x * y : Nat) : Int) < (4294967296 : Int) ^ 1024) :
    ∃ r k, Num (4294967296 : Int) r (x * y) ∧ r.length ≤ 1024 ∧ nat_Mul.f k a b = some (r, 0) := by
  obtain ⟨r, k, h1, h2, h3⟩ := mul_num ha hb (by omega) (by omega)
  obtain ⟨r', g1, g2, g3⟩ := fit_num h1.dig h1.val (by omega) hxy
  obtain rfl : r = r' := h1.unique (by decide) g1
  have h3' : nat_mul.f (k + 3000) a b = some r := at_rounds (fun k => nat_mul.mono a b k) (by omega) h3
  refine ⟨r, k + 3000 + 1 + 1, h1, g2, ?_⟩
  unfold nat_Mul.f
  rw [right_num ha hla, right_num hb hlb]
  simp only [Option.bind_some, if_true, nat_Mul.j0, Bool.not_true, Bool.false_eq_true, if_false]
  have key : nat_Mul.j1 (k + 3000 + 1) a b false = some (r, 0) := by
    simp only [nat_Mul.j1]
    rw [if_neg (by decide), h3']
    simp only [Option.bind_some]
    rw [g3 _ (by omega)]; rfl
  by_cases c1 : (a.length : Int) > 0
  · rw [if_pos c1]
    by_cases c2 : (b.length : Int) > 0
    · rw [if_pos c2, w64 (by omega) (by omega), decide_eq_false (by omega)]; exact key
    · rw [if_neg c2]; exact key
  · rw [if_neg c1]; exact key

theorem smul_num {a : List Int} {x y : Nat} (ha : Num (4294967296 : Int) a x) (hla : a.length ≤ 1022) (hy : y < 9223372036854775808) (hxy : ((x * y : Nat) : Int) < (4294967296 : Int) ^ 1024) :
    ∃ r k, Num (4294967296 : Int) r (x * y) ∧ r.length ≤ 1024 ∧ stats_mul.f k a (y : Int) = some r := by
  obtain ⟨o, h1, h2, h3⟩ := one_num y hy
  obtain ⟨r, k, g1, g2, g3⟩ := Mul_num ha h2 (by omega) (by omega) (by omega) hxy
  refine ⟨r, k + 3, g1, g2, ?_⟩
  unfold stats_mul.f
  rw [h3 _ (by omega)]
  simp only [Option.bind_some]
  rw [at_rounds (fun k => nat_Mul.mono a o k) (show k ≤ k + 3 by omega) g3]; rfl

theorem cmp_loop {a b : List Int} (ha : Dig (4294967296 : Int) a) (hb : Dig (4294967296 : Int) b) (hl : a.length = b.length) (hla : a.length ≤ 100000) : ∀ (i k : Nat), i ≤ a.length → i < k → iv (4294967296 : Int) (a.drop i) = iv (4294967296 : Int) (b.drop i) →
    nat_cmp.l0 k a b ((i : Int) - 1) = some (if iv (4294967296 : Int) a < iv (4294967296 : Int) b then -1 else if iv (4294967296 : Int) b < iv (4294967296 : Int) a then 1 else 0) := by
  intro i
  induction i with
  | zero =>
    intro k _ hk he
    obtain ⟨k, rfl⟩ : ∃ m, k = m + 1 := ⟨k - 1, by omega⟩
    rw [List.drop_zero, List.drop_zero] at he
    simp only [nat_cmp.l0]
    rw [if_neg (by omega), if_neg (by omega), if_neg (by omega)]
  | succ i ih =>
    intro k hi hk he
    obtain ⟨k, rfl⟩ : ∃ m, k = m + 1 := ⟨k - 1, by omega⟩
    have e1 : ((i + 1 : Nat) : Int) - 1 = (i : Int) := by omega
    have ea : rd a (i : Int) = dat a i := by rw [rd_dat]; simp
    have eb : rd b (i : Int) = dat b i := by rw [rd_dat]; simp
    simp only [nat_cmp.l0]
    rw [e1, if_pos (by omega), if_pos (by omega), if_pos (by omega), if_pos (by omega), ea, eb]
    by_cases c1 : dat a i < dat b i
    · rw [if_pos c1, if_pos (iv_cmp (by decide) ha hb hl (by omega) he c1)]
    · rw [if_neg c1]
      by_cases c2 : dat a i > dat b i
      · have h := iv_cmp (by decide) hb ha hl.symm (by omega) he.symm c2
        rw [if_pos c2, if_neg (by omega), if_pos h]
      · rw [if_neg c2, w64 (by omega) (by omega)]
        exact ih k (by omega) (by omega) (by rw [iv_drop (4294967296 : Int) (show i < a.length by omega), iv_drop (4294967296 : Int) (show i < b.length by omega), he, show dat a i = dat b i by omega])

theorem cmp_num {a b : List Int} {x y : Nat} (ha : Num (4294967296 : Int) a x) (hb : Num (4294967296 : Int) b y) (hla : a.length ≤ 100000) :
    ∃ k, nat_cmp.f k a b = some (if x < y then -1 else if y < x then 1 else 0) := by
  refine ⟨a.length + 1, ?_⟩
  unfold nat_cmp.f
  have va := ha.val
  have vb := hb.val
  by_cases hl : a.length = b.length
  · rw [if_pos (by omega), w64 (by omega) (by omega), cmp_loop ha.dig hb.dig hl hla a.length (a.length + 1) (Nat.le_refl _) (by omega) (by rw [List.drop_length, hl, List.drop_length]), va, vb]
    congr 1
    by_cases c1 : x < y
    · rw [if_pos (by omega), if_pos c1]
    · rw [if_neg (by omega), if_neg c1]
      by_cases c2 : y < x
      · rw [if_pos (by omega), if_pos c2]
      · rw [if_neg (by omega), if_neg c2]
  · rw [if_neg (by omega)]
    by_cases c : a.length < b.length
    · have : ¬ y ≤ x := fun h => by
        have h1 := hb.len_le (n := a.length) (by decide) (by have := ha.lt (by decide); omega)
        omega
      rw [if_pos (by omega), if_pos (by omega)]
    · have : ¬ x ≤ y := fun h => by
        have h1 := ha.len_le (n := b.length) (by decide) (by have := hb.lt (by decide); omega)
        omega
      rw [if_neg (by omega), if_neg (by omega), if_pos (by omega)]

theorem u64_wrap_pow (n : Int) (h0 : 0 ≤ n) (h1 : n < 2 ^ 64) : IntKind.u64.wrap n = n := wu64 h0 (by simpa using h1)

theorem or_limbs {r d : Int} (hr : 0 ≤ r ∧ r < (4294967296 : Int)) (hd : 0 ≤ d ∧ d < (4294967296 : Int)) : Go.bits .or .u64 (IntKind.u64.wrap (r * (4294967296 : Int))) (IntKind.u64.wrap d) = r * (4294967296 : Int) + d := by
  obtain ⟨r0, r1⟩ := hr
  obtain ⟨d0, d1⟩ := hd
  rw [wu64 (n := r * (4294967296 : Int)) (by omega) (by omega), wu64 d0 (by omega)]
  exact bits_join .u64 64 (by decide) u64_wrap_pow 32 (r * (4294967296 : Int)) d (by omega) (by
    show (r * (4294967296 : Int)) % (4294967296 : Int) = 0
    omega) (by
    show r * (4294967296 : Int) < 18446744073709551616
    omega) d0 (by simpa using d1) (by
    show d < 18446744073709551616
    omega)

theorem small_loop (v : Nat) (hv0 : 0 < v) (hv1 : v < 4294967296) : ∀ (i k : Nat) (xs : List Int) (r : Nat), i ≤ xs.length → xs.length ≤ 100000 → i < k → Dig (4294967296 : Int) xs → r < v →
    ∃ ys : List Int, ys.length = xs.length ∧ Dig (4294967296 : Int) ys ∧ (∀ j, i ≤ j → dat ys j = dat xs j) ∧ ∃ s : Nat, s < v ∧ iv (4294967296 : Int) (ys.take i) * v + s = iv (4294967296 : Int) (xs.take i) + (4294967296 : Int) ^ i * r ∧
      nat_small.l0 k xs (v : Int) (r : Int) ((i : Int) - 1) = some ((s : Int), ys) := by
  intro i
  induction i with
  | zero =>
    intro k xs r _ _ hk hd hr
    obtain ⟨k, rfl⟩ : ∃ m, k = m + 1 := ⟨k - 1, by omega⟩
    refine ⟨xs, rfl, hd, fun _ _ => rfl, r, hr, by simp [iv], ?_⟩
    simp only [nat_small.l0]
    rw [if_neg (by omega), Int.emod_eq_of_lt (by omega) (by omega)]
  | succ i ih =>
    intro k xs r hi hl hk hd hr
    obtain ⟨k, rfl⟩ : ∃ m, k = m + 1 := ⟨k - 1, by omega⟩
    have e1 : ((i + 1 : Nat) : Int) - 1 = (i : Int) := by omega
    have ea : rd xs (i : Int) = dat xs i := by rw [rd_dat]; simp
    have hx := dat_dig hd (by decide) i
    obtain ⟨d, hde⟩ := Int.eq_ofNat_of_zero_le hx.1
    have hb : d < 4294967296 := by have := hx.2; omega
    have hq : (r * 4294967296 + d) / v < 4294967296 := by
      rw [Nat.div_lt_iff_lt_mul hv0]
      have h1 : r * 4294967296 + 4294967296 ≤ v * 4294967296 := by rw [← Nat.succ_mul]; exact Nat.mul_le_mul_right _ hr
      have h2 : 4294967296 * v = v * 4294967296 := Nat.mul_comm _ _
      omega
    have hm : (r * 4294967296 + d) % v < v := Nat.mod_lt _ hv0
    have hdm := Nat.div_add_mod (r * 4294967296 + d) v
    have ev : IntKind.u64.wrap (v : Int) = (v : Int) := wu64 (by omega) (by omega)
    have eo : Go.bits .or .u64 (IntKind.u64.wrap ((r : Int) * (4294967296 : Int))) (IntKind.u64.wrap (dat xs i)) = ((r * 4294967296 + d : Nat) : Int) := by
      rw [or_limbs ⟨by omega, by omega⟩ hx, hde]; simp
    have et : Int.tdiv ((r * 4294967296 + d : Nat) : Int) (v : Int) = (((r * 4294967296 + d) / v : Nat) : Int) := by
      rw [Int.tdiv_eq_ediv_of_nonneg (by omega)]; rfl
    have em : Int.tmod ((r * 4294967296 + d : Nat) : Int) (v : Int) = (((r * 4294967296 + d) % v : Nat) : Int) := by
      rw [Int.tmod_eq_emod_of_nonneg (by omega)]; rfl
    generalize hQ : (r * 4294967296 + d) / v = q at hq hdm et
    generalize hM : (r * 4294967296 + d) % v = s at hm hdm em
    obtain ⟨ys, h1, h2, h3, s', h4, h5, h6⟩ := ih k (xs.set i (q : Int)) s (by rw [List.length_set]; omega) (by rw [List.length_set]; exact hl) (by omega) (hd.set _ (by omega) (by omega)) hm
    rw [List.length_set] at h1
    refine ⟨ys, h1, h2, fun j hj => ?_, s', h4, ?_, ?_⟩
    · rw [h3 j (by omega), dat_set_ne (by omega)]
    · have hy : dat ys i = (q : Int) := by rw [h3 i (Nat.le_refl _), dat_set_self (by omega)]
      rw [iv_take_succ (4294967296 : Int) (show i < ys.length by omega), iv_take_succ (4294967296 : Int) (show i < xs.length by omega), hy]
      have e2 : (xs.set i (q : Int)).take i = xs.take i := by rw [List.take_set_of_le (Nat.le_refl _)]
      rw [e2] at h5
      rw [Int.add_mul, Int.pow_succ, hde]
      have e3 : (v : Int) * (q : Int) + (s : Int) = (r : Int) * (4294967296 : Int) + (d : Int) := by
        have := hdm
        have e4 : ((v * q + s : Nat) : Int) = ((r * 4294967296 + d : Nat) : Int) := by rw [hdm]
        simpa using e4
      generalize iv (4294967296 : Int) (xs.take i) = X at h5 ⊢
      generalize iv (4294967296 : Int) (ys.take i) = Y at h5 ⊢
      generalize (4294967296 : Int) ^ i = P at h5 ⊢
      have e5 : P * (q : Int) * (v : Int) = P * ((v : Int) * (q : Int)) := by rw [Int.mul_assoc, Int.mul_comm (q : Int)]
      have e6 : P * (4294967296 : Int) * (r : Int) = P * ((r : Int) * (4294967296 : Int)) := by rw [Int.mul_assoc, Int.mul_comm (4294967296 : Int)]
      have e7 := congrArg (P * ·) e3
      simp only [Int.mul_add] at e7
      rw [e5, e6]
      omega
    · simp only [nat_small.l0]
      rw [e1, if_pos (by omega), if_pos (by omega), if_pos (by omega), ev, if_neg (by omega), ea, eo, et, em, wu64 (n := (q : Int)) (by omega) (by omega), Int.emod_eq_of_lt (a := (q : Int)) (by omega) (by omega), w64 (by omega) (by omega), Int.toNat_natCast]
      exact h6

theorem small_num {xs : List Int} {x v : Nat} (h : Num (4294967296 : Int) xs x) (hl : xs.length ≤ 100000) (hv0 : 0 < v) (hv1 : v < 4294967296) :
    ∃ (ys : List Int) (s k : Nat), ys.length = xs.length ∧ Dig (4294967296 : Int) ys ∧ iv (4294967296 : Int) ys = ((x / v : Nat) : Int) ∧ s = x % v ∧ nat_small.f k xs (v : Int) = some ((s : Int), ys) := by
  obtain ⟨ys, h1, h2, _, s, h4, h5, h6⟩ := small_loop v hv0 hv1 xs.length (xs.length + 1) xs 0 (Nat.le_refl _) hl (by omega) h.dig hv0
  rw [← h1, List.take_length, h1, List.take_length, h.val] at h5
  obtain ⟨y, hy⟩ := Int.eq_ofNat_of_zero_le (iv_nonneg (by decide) h2)
  rw [hy] at h5
  have h7 : y * v + s = x := by
    have e : ((y * v + s : Nat) : Int) = (x : Int) := by simp at h5 ⊢; omega
    omega
  have h8 : x / v = y := by
    rw [← h7, Nat.add_comm, Nat.mul_comm, Nat.add_mul_div_left _ _ hv0, Nat.div_eq_of_lt h4, Nat.zero_add]
  have h9 : x % v = s := by
    rw [← h7, Nat.add_comm, Nat.mul_comm, Nat.add_mul_mod_self_left, Nat.mod_eq_of_lt h4]
  refine ⟨ys, s, xs.length + 1, h1, h2, by rw [hy, h8], h9.symm, ?_⟩
  unfold nat_small.f
  rw [w64 (by omega) (by omega)]
  exact h6

theorem same_loop {a b : List Int} (hl : a.length = b.length) (hla : a.length ≤ 100000) : ∀ (d i k : Nat), a.length - i = d → i ≤ a.length → d < k →
    letterbagkit_SameLimbs.l0 k a b (i : Int) = some (decide (a.drop i = b.drop i)) := by
  intro d
  induction d with
  | zero =>
    intro i k hd hi hk
    obtain ⟨k, rfl⟩ : ∃ m, k = m + 1 := ⟨k - 1, by omega⟩
    simp only [letterbagkit_SameLimbs.l0]
    rw [if_neg (by omega), decide_eq_true]
    rw [show i = a.length by omega, List.drop_length, hl, List.drop_length]
  | succ d ih =>
    intro i k hd hi hk
    obtain ⟨k, rfl⟩ : ∃ m, k = m + 1 := ⟨k - 1, by omega⟩
    have ea : rd a (i : Int) = dat a i := by rw [rd_dat]; simp
    have eb : rd b (i : Int) = dat b i := by rw [rd_dat]; simp
    simp only [letterbagkit_SameLimbs.l0]
    rw [if_pos (by omega), if_pos (by omega), if_pos (by omega), ea, eb, drop_dat (show i < a.length by omega), drop_dat (show i < b.length by omega)]
    by_cases c : dat a i = dat b i
    · rw [if_pos c, w64 (by omega) (by omega)]
      have e : (i : Int) + 1 = ((i + 1 : Nat) : Int) := by omega
      rw [e, ih (i + 1) k (by omega) (by omega) (by omega), c]
      simp
    · rw [if_neg c, decide_eq_false]
      intro h
      injection h with h _
      exact c h

theorem same_num {a b : List Int} (hla : a.length ≤ 100000) : ∃ k, letterbaglaw04_same.f k a b = some (decide (a = b)) := by
  refine ⟨a.length + 1, ?_⟩
  unfold letterbaglaw04_same.f letterbagkit_SameLimbs.f
  by_cases hl : a.length = b.length
  · rw [if_pos (by omega)]
    have h := same_loop hl hla a.length 0 (a.length + 1) (by omega) (by omega) (by omega)
    have e0 : ((0 : Nat) : Int) = 0 := rfl
    rw [e0, List.drop_zero, List.drop_zero] at h
    rw [h]; rfl
  · rw [if_neg (by omega), decide_eq_false (fun h => hl (by rw [h]))]; rfl

end Go.Proofs.Ytenmlkcjgefmpaa
