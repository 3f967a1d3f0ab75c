/- What the printed functions on natural numbers give: cutting zeros, numbers of 64 bits, right numbers, products, comparison, division by one limb. Plain lists of digits. Contracts of the functions on natural numbers: what a slice of limbs stands for, and what one, Mul, mul, Cmp, same give. Each under the bound of 900 limbs. Contracts by walks: Cmp, slices.Clone of limbs, DivMod by a number of one limb, stats.div. The contract of Pow, for a base of one limb and small exponents. -/
import Derived.Test.YteeacbgaehdodaaGreatFnB
import Derived.Test.YteeacbgaehdodaaGreatMathC
import Derived.WalkSpells
namespace Go.Proofs.YteeacbgaehdodaaGreat
open Go.RowKit Go.Proofs.YteeacbgaehdodaaGreatW.PrintWords Go.Proofs.YteeacbgaehdodaaGreat.Fn

theorem w64 {n : Int} (h0 : -9223372036854775808 ≤ n) (h1 : n ≤ 9223372036854775807) : wrap64 n = n := by unfold wrap64; omega
theorem wu64 {n : Int} (h0 : 0 ≤ n) (h1 : n < 18446744073709551616) : IntKind.u64.wrap n = n := by
  have e : IntKind.u64.wrap n = n % 18446744073709551616 := rfl
  rw [e]
  exact Int.emod_eq_of_lt h0 h1
theorem rd_dat (xs : List Int) (i : Int) : rd xs i = dat xs i.toNat := rfl

theorem trim_law : ∀ (n : Nat) (xs : List Int) (k : Nat), xs.length = n → n ≤ 1000000 → n < k →
    ∃ m, m ≤ n ∧ nat_trim.l0 k xs = some (xs.take m) ∧ Top (xs.take m) ∧ ∀ j, m ≤ j → dat xs j = 0 := by
  intro n
  induction n with
  | zero =>
    intro xs k hl _ hk
    obtain ⟨k, rfl⟩ : ∃ m, k = m + 1 := ⟨k - 1, by omega⟩
    refine ⟨0, Nat.le_refl _, ?_, fun d h => by simp at h, fun j _ => dat_of_ge (by omega)⟩
    simp only [nat_trim.l0]
    rw [if_neg (by omega), List.length_eq_zero_iff.1 hl]; rfl
  | succ n ih =>
    intro xs k hl hn hk
    obtain ⟨k, rfl⟩ : ∃ m, k = m + 1 := ⟨k - 1, by omega⟩
    have e1 : wrap64 ((xs.length : Int) - 1) = (n : Int) := by rw [w64 (by omega) (by omega)]; omega
    have e2 : rd xs (n : Int) = dat xs n := by rw [rd_dat]; simp
    simp only [nat_trim.l0]
    rw [if_pos (by omega), e1, if_pos (by omega), if_pos (by omega), e2, if_pos (show (n : Int) ≤ (xs.length : Int) by omega)]
    by_cases hz : dat xs n = 0
    · rw [if_pos hz]
      obtain ⟨m, h1, h2, h3, h4⟩ := ih (xs.take n) k (by rw [List.length_take]; omega) (by omega) (by omega)
      refine ⟨m, by omega, ?_, ?_, fun j hj => ?_⟩
      · rw [Int.toNat_natCast, h2, List.take_take, Nat.min_eq_left h1]
      · rw [List.take_take, Nat.min_eq_left h1] at h3; exact h3
      · rcases Nat.lt_trichotomy j n with hjn | hjn | hjn
        · rw [← dat_take hjn]; exact h4 j hj
        · rw [hjn]; exact hz
        · exact dat_of_ge (by omega)
    · rw [if_neg hz]
      refine ⟨n + 1, Nat.le_refl _, by rw [← hl, List.take_length], ?_, fun j hj => dat_of_ge (by omega)⟩
      rw [← hl, List.take_length, top_iff]
      intro _
      rw [hl, Nat.add_sub_cancel]; exact hz

/-- what trim gives of digits -/
theorem trim_num {xs : List Int} {x : Nat} (h : Dig (4294967296 : Int) xs) (hv : iv (4294967296 : Int) xs = (x : Int)) (hl : xs.length ≤ 1000000) :
    ∃ r, r.length ≤ xs.length ∧ Num (4294967296 : Int) r x ∧ ∀ k, xs.length < k → nat_trim.f k xs = some r := by
  obtain ⟨m, h1, h2, h3, h4⟩ := trim_law xs.length xs (xs.length + 1) rfl hl (by omega)
  refine ⟨xs.take m, by rw [List.length_take]; omega, ⟨h.take m, h3, by rw [iv_take_zero (4294967296 : Int) h4]; exact hv⟩, fun k hk => ?_⟩
  exact at_rounds (fun k => nat_trim.mono xs k) (show xs.length + 1 ≤ k by omega) h2

theorem of_num (n : Nat) (hn : n < 18446744073709551616) : ∃ r, r.length ≤ 2 ∧ Num (4294967296 : Int) r n ∧ ∀ k, 2 < k → nat_Of.f k (n : Int) = some r := by
  obtain ⟨r, h1, h2, h3⟩ := trim_num (x := n) (xs := [(n : Int) % 4294967296, ((n : Int) / 4294967296) % 4294967296]) (by
    intro d hd
    simp only [List.mem_cons, List.not_mem_nil, or_false] at hd
    rcases hd with rfl | rfl <;> exact ⟨Int.emod_nonneg _ (by decide), Int.emod_lt_of_pos _ (by decide)⟩) (by
    simp only [iv]; omega) (by simp)
  refine ⟨r, by simpa using h1, h2, fun k hk => ?_⟩
  unfold nat_Of.f
  rw [h3 k (by simpa using hk)]; rfl

theorem one_num (n : Nat) (hn : n < 9223372036854775808) : ∃ r, r.length ≤ 2 ∧ Num (4294967296 : Int) r n ∧ ∀ k, 2 < k → stats_one.f k (n : Int) = some r := by
  obtain ⟨r, h1, h2, h3⟩ := of_num n (by omega)
  refine ⟨r, h1, h2, fun k hk => ?_⟩
  unfold stats_one.f
  rw [wu64 (by omega) (by omega), h3 k hk]; rfl

theorem right_num {xs : List Int} {x : Nat} (h : Num (4294967296 : Int) xs x) (hl : xs.length ≤ 1024) : nat_Right.f xs = some true := by
  unfold nat_Right.f
  rw [if_pos (by omega)]
  by_cases h0 : xs.length = 0
  · rw [if_pos (by omega)]
  · rw [if_neg (by omega), w64 (by omega) (by omega), if_pos (by omega), if_pos (by omega)]
    have e : rd xs ((xs.length : Int) - 1) = dat xs (xs.length - 1) := by rw [rd_dat]; congr 1; omega
    rw [e]
    have := top_iff.1 h.top (by omega)
    simp [this]

theorem fit_num {xs : List Int} {x : Nat} (h : Dig (4294967296 : Int) xs) (hv : iv (4294967296 : Int) xs = (x : Int)) (hl : xs.length ≤ 1000000) (hx : (x : Int) < (4294967296 : Int) ^ 1024) :
    ∃ r, Num (4294967296 : Int) r x ∧ r.length ≤ 1024 ∧ ∀ k, xs.length < k → nat_fit.f k xs = some (r, 0) := by
  obtain ⟨r, h1, h2, h3⟩ := trim_num h hv hl
  have h4 : r.length ≤ 1024 := h2.len_le (by decide) hx
  refine ⟨r, h2, h4, fun k hk => ?_⟩
  unfold nat_fit.f
  rw [h3 k hk]
  simp only [Option.bind_some]
  rw [if_neg (by omega)]

/-- a limb times a limb, and what is carried, and a limb, are less than two limbs -/
theorem limb_prod {a b c o : Int} (ha : 0 ≤ a ∧ a < (4294967296 : Int)) (hb : 0 ≤ b ∧ b < (4294967296 : Int)) (hc : 0 ≤ c ∧ c < (4294967296 : Int)) (ho : 0 ≤ o ∧ o < (4294967296 : Int)) : 0 ≤ a * b ∧ 0 ≤ c + (a * b + o) ∧ c + (a * b + o) < 18446744073709551616 := by
  have h1 := Int.mul_nonneg ha.1 hb.1
  have h2 : a * b ≤ 4294967295 * 4294967295 := by
    have e1 := Int.mul_le_mul_of_nonneg_right (show a ≤ 4294967295 by have := ha.2; omega) hb.1
    have e2 := Int.mul_le_mul_of_nonneg_left (show b ≤ 4294967295 by have := hb.2; omega) (show (0 : Int) ≤ 4294967295 by decide)
    omega
  obtain ⟨c0, c1⟩ := hc
  obtain ⟨o0, o1⟩ := ho
  refine ⟨h1, by omega, ?_⟩
  have : (4294967295 : Int) * 4294967295 = 18446744065119617025 := by decide
  omega

/-- one limb's row: from place j on -/
theorem mul_inner (a b : List Int) (x : Int) (hx : 0 ≤ x ∧ x < (4294967296 : Int)) (hb : Dig (4294967296 : Int) b) (i : Nat) (hla : a.length ≤ 100000) (hlb : b.length ≤ 100000) (hi : i < a.length) :
    ∀ (d j k : Nat) (o : List Int) (c : Int), b.length - j = d → j ≤ b.length → d < k → Dig (4294967296 : Int) o → o.length = a.length + b.length → 0 ≤ c → c < (4294967296 : Int) → dat o (i + b.length) = 0 → (∀ q, i + b.length ≤ q → dat o q = 0) →
    ∃ o' : List Int, o'.length = o.length ∧ Dig (4294967296 : Int) o' ∧ (∀ q, i + b.length < q → dat o' q = 0) ∧ iv (4294967296 : Int) o' = iv (4294967296 : Int) o + (4294967296 : Int) ^ (i + j) * c + (4294967296 : Int) ^ (i + j) * (x * iv (4294967296 : Int) (b.drop j)) ∧
      nat_mul.l1 k b o (i : Int) x c a (a.length : Int) (i : Int) b (b.length : Int) (j : Int) = nat_mul.l0 (k - (d + 1)) b o' a (a.length : Int) ((i + 1 : Nat) : Int) := by
  intro d
  induction d with
  | zero =>
    intro j k o c hd hj hk ho hlo hc0 hc1 hz hzz
    obtain ⟨k, rfl⟩ : ∃ m, k = m + 1 := ⟨k - 1, by omega⟩
    obtain rfl : j = b.length := by omega
    refine ⟨o.set (i + b.length) c, by rw [List.length_set], ho.set _ hc0 hc1, fun q hq => ?_, ?_, ?_⟩
    · rw [dat_set_ne (by omega)]; exact hzz q (by omega)
    · rw [iv_set (4294967296 : Int) c o (i + b.length) (by omega), hz, Int.sub_zero, List.drop_length]
      simp [iv]
    · simp only [nat_mul.l1]
      rw [if_neg (by omega), w64 (n := (i : Int) + (b.length : Int)) (by omega) (by omega), if_pos (by omega), if_pos (by omega), w64 (n := (i : Int) + 1) (by omega) (by omega), Int.emod_eq_of_lt hc0 hc1]
      have e : ((i : Int) + (b.length : Int)).toNat = i + b.length := by omega
      rw [e]
      have e2 : ((i + 1 : Nat) : Int) = (i : Int) + 1 := by omega
      rw [e2]; rfl
  | succ d ih =>
    intro j k o c hd hj hk ho hlo hc0 hc1 hz hzz
    obtain ⟨k, rfl⟩ : ∃ m, k = m + 1 := ⟨k - 1, by omega⟩
    have hjb : j < b.length := by omega
    have hy := dat_dig hb (by decide) j
    have hw := dat_dig ho (by decide) (i + j)
    obtain ⟨p0, p1, p2⟩ := limb_prod hx hy ⟨hc0, hc1⟩ hw
    simp only [nat_mul.l1]
    have er : rd b (j : Int) = dat b j := by rw [rd_dat]; simp
    have ew : rd o ((i : Int) + (j : Int)) = dat o (i + j) := by rw [rd_dat]; congr 1
    have et : ((i : Int) + (j : Int)).toNat = i + j := by omega
    rw [if_pos (by omega), if_pos (by omega), if_pos (by omega), w64 (n := (i : Int) + (j : Int)) (by omega) (by omega), if_pos (by omega), if_pos (by omega), er, ew, et,
      wu64 hx.1 (by have := hx.2; omega), wu64 hy.1 (by have := hy.2; omega), wu64 p0 (by omega), wu64 hw.1 (by have := hw.2; omega), wu64 (n := x * dat b j + dat o (i + j)) (by omega) (by omega), wu64 p1 p2, w64 (n := (j : Int) + 1) (by omega) (by omega)]
    generalize hs : c + (x * dat b j + dat o (i + j)) = s at p1 p2 ⊢
    obtain ⟨o', h1, h2, h3, h4, h5⟩ := ih (j + 1) k (o.set (i + j) (s % 4294967296)) (s / 4294967296) (by omega) (by omega) (by omega)
      (ho.set _ (Int.emod_nonneg _ (by decide)) (Int.emod_lt_of_pos _ (by decide))) (by rw [List.length_set]; exact hlo) (by omega) (by omega)
      (by rw [dat_set_ne (by omega)]; exact hz) (fun q hq => by rw [dat_set_ne (by omega)]; exact hzz q hq)
    refine ⟨o', by rw [h1, List.length_set], h2, h3, ?_, ?_⟩
    · rw [h4, iv_set (4294967296 : Int) _ o (i + j) (by omega), iv_drop (4294967296 : Int) hjb]
      have e1 : (4294967296 : Int) ^ (i + (j + 1)) = (4294967296 : Int) ^ (i + j) * 4294967296 := by rw [← Nat.add_assoc, Int.pow_succ]
      have e2 : s = 4294967296 * (s / 4294967296) + s % 4294967296 := by omega
      rw [e1]
      generalize iv (4294967296 : Int) (List.drop (j + 1) b) = v
      generalize (4294967296 : Int) ^ (i + j) = P
      generalize iv (4294967296 : Int) o = O
      generalize hq : s / 4294967296 = q at e2 ⊢
      generalize hr : s % 4294967296 = r at e2 ⊢
      have e3 : P * 4294967296 * q = P * (4294967296 * q) := by rw [Int.mul_assoc]
      have e4 : P * 4294967296 * (x * v) = P * (x * ((4294967296 : Int) * v)) := by
        show P * 4294967296 * (x * v) = P * (x * (4294967296 * v))
        rw [Int.mul_assoc, Int.mul_left_comm x 4294967296 v]
      rw [e3, e4]
      simp only [← Int.mul_add, Int.add_assoc]
      congr 2
      rw [Int.mul_add x]
      omega
    · have e : ((j + 1 : Nat) : Int) = (j : Int) + 1 := by omega
      rw [e] at h5
      rw [h5]
      congr 1
      omega

theorem mul_outer (a b : List Int) (ha : Dig (4294967296 : Int) a) (hb : Dig (4294967296 : Int) b) (hla : a.length ≤ 100000) (hlb : b.length ≤ 100000) :
    ∀ (d i k : Nat) (o : List Int), a.length - i = d → i ≤ a.length → (d + 1) * (b.length + 2) + a.length + b.length < k → Dig (4294967296 : Int) o → o.length = a.length + b.length → (∀ q, i + b.length ≤ q → dat o q = 0) → iv (4294967296 : Int) o = iv (4294967296 : Int) (a.take i) * iv (4294967296 : Int) b →
    ∃ (o' : List Int) (k' : Nat), o'.length = a.length + b.length ∧ Dig (4294967296 : Int) o' ∧ iv (4294967296 : Int) o' = iv (4294967296 : Int) a * iv (4294967296 : Int) b ∧ a.length + b.length < k' ∧
      nat_mul.l0 k b o a (a.length : Int) (i : Int) = (nat_trim.f k' o').bind fun t => some t := by
  intro d
  induction d with
  | zero =>
    intro i k o hd hi hk ho hlo hz hv
    obtain ⟨k, rfl⟩ : ∃ m, k = m + 1 := ⟨k - 1, by omega⟩
    obtain rfl : i = a.length := by omega
    refine ⟨o, k, hlo, ho, by rw [hv, List.take_length], by omega, ?_⟩
    simp only [nat_mul.l0]
    rw [if_neg (by omega)]
  | succ d ih =>
    intro i k o hd hi hk ho hlo hz hv
    obtain ⟨k, rfl⟩ : ∃ m, k = m + 1 := ⟨k - 1, by omega⟩
    have hia : i < a.length := by omega
    have hx := dat_dig ha (by decide) i
    have er : rd a (i : Int) = dat a i := by rw [rd_dat]; simp
    have hmul : (d + 1 + 1) * (b.length + 2) = (d + 1) * (b.length + 2) + (b.length + 2) := by rw [Nat.add_mul (d + 1) 1, Nat.one_mul]
    obtain ⟨o', h1, h2, h3, h4, h5⟩ := mul_inner a b (dat a i) hx hb i hla hlb hia b.length 0 k o 0 (by omega) (by omega) (by omega) ho hlo (Int.le_refl _) (by decide) (hz _ (Nat.le_refl _)) hz
    obtain ⟨o2, k2, g1, g2, g3, g4, g5⟩ := ih (i + 1) (k - (b.length + 1)) o' (by omega) (by omega) (by omega) h2 (by omega) (fun q hq => h3 q (by omega)) (by
      rw [h4, hv, iv_take_succ (4294967296 : Int) hia, List.drop_zero, Nat.add_zero, Int.mul_zero, Int.add_zero, Int.add_mul, Int.mul_assoc])
    refine ⟨o2, k2, g1, g2, g3, g4, ?_⟩
    simp only [nat_mul.l0]
    rw [if_pos (by omega), if_pos (by omega), if_pos (by omega), er]
    have e0 : ((0 : Nat) : Int) = 0 := rfl
    rw [e0] at h5
    rw [h5, g5]

/-- the product of two numbers: its digits -/
theorem mul_num {a b : List Int} {x y : Nat} (ha : Num (4294967296 : Int) a x) (hb : Num (4294967296 : Int) b y) (hla : a.length ≤ 100000) (hlb : b.length ≤ 100000) :
    ∃ r k, Num (4294967296 : Int) r (x * y) ∧ r.length ≤ a.length + b.length ∧ nat_mul.f k a b = some r := by
  obtain ⟨o', k', h1, h2, h3, h4, h5⟩ := mul_outer a b ha.dig hb.dig hla hlb a.length 0 ((a.length + 1) * (b.length + 2) + a.length + b.length + 1) (List.replicate (a.length + b.length) 0) (by omega) (by omega) (by omega)
    (Dig.replicate (by decide) _) (by simp) (fun q _ => dat_replicate _ _) (by rw [iv_replicate]; simp [iv])
  obtain ⟨r, r1, r2, r3⟩ := trim_num (x := x * y) h2 (by rw [h3, ha.val, hb.val]; simp) (by omega)
  refine ⟨r, (a.length + 1) * (b.length + 2) + a.length + b.length + 1, r2, by omega, ?_⟩
  unfold nat_mul.f
  rw [w64 (by omega) (by omega), if_pos (by omega), if_pos (by omega)]
  have e : ((a.length : Int) + (b.length : Int)).toNat = a.length + b.length := by omega
  have e0 : ((0 : Nat) : Int) = 0 := rfl
  rw [e0] at h5
  rw [e, h5, r3 _ (by omega)]; rfl

/-- rounds enough for two -/
theorem two_rounds {α β : Type} {f : Nat → Option α} {g : Nat → Option β} {a : α} {b : β} (hf : ∀ k, LeO (f k) (f (k + 1))) (hg : ∀ k, LeO (g k) (g (k + 1))) {k l : Nat} (h1 : f k = some a) (h2 : g l = some b) : ∃ m, f m = some a ∧ g m = some b :=
  ⟨max k l, at_rounds hf (by omega) h1, at_rounds hg (by omega) h2⟩

theorem Mul_num {a b : List Int} {x y : Nat} (ha : Num (4294967296 : Int) a x) (hb : Num (4294967296 : Int) b y) (hla : a.length ≤ 1024) (hlb : b.length ≤ 1024) (hl : a.length + b.length ≤ 1025) (hxy : ((x * y : Nat) : Int) < (4294967296 : Int) ^ 1024) :
    ∃ r k, Num (4294967296 : Int) r (x * y) ∧ r.length ≤ 1024 ∧ nat_Mul.f k a b = some (r, 0) := by
  obtain ⟨r, k, h1, h2, h3⟩ := mul_num ha hb (by omega) (by omega)
  obtain ⟨r', g1, g2, g3⟩ := fit_num h1.dig h1.val (by omega) hxy
  obtain rfl : r = r' := h1.unique (by decide) g1
  have h3' : nat_mul.f (k + 3000) a b = some r := at_rounds (fun k => nat_mul.mono a b k) (by omega) h3
  refine ⟨r, k + 3000 + 1 + 1, h1, g2, ?_⟩
  unfold nat_Mul.f
  rw [right_num ha hla, right_num hb hlb]
  simp only [Option.bind_some, if_true, nat_Mul.j0, Bool.not_true, Bool.false_eq_true, if_false]
  have key : nat_Mul.j1 (k + 3000 + 1) a b false = some (r, 0) := by
    simp only [nat_Mul.j1]
    rw [if_neg (by decide), h3']
    simp only [Option.bind_some]
    rw [g3 _ (by omega)]; rfl
  by_cases c1 : (a.length : Int) > 0
  · rw [if_pos c1]
    by_cases c2 : (b.length : Int) > 0
    · rw [if_pos c2, w64 (by omega) (by omega), decide_eq_false (by omega)]; exact key
    · rw [if_neg c2]; exact key
  · rw [if_neg c1]; exact key

theorem smul_num {a : List Int} {x y : Nat} (ha : Num (4294967296 : Int) a x) (hla : a.length ≤ 1022) (hy : y < 9223372036854775808) (hxy : ((x * y : Nat) : Int) < (4294967296 : Int) ^ 1024) :
    ∃ r k, Num (4294967296 : Int) r (x * y) ∧ r.length ≤ 1024 ∧ stats_mul.f k a (y : Int) = some r := by
  obtain ⟨o, h1, h2, h3⟩ := one_num y hy
  obtain ⟨r, k, g1, g2, g3⟩ := Mul_num ha h2 (by omega) (by omega) (by omega) hxy
  refine ⟨r, k + 3, g1, g2, ?_⟩
  unfold stats_mul.f
  rw [h3 _ (by omega)]
  simp only [Option.bind_some]
  rw [at_rounds (fun k => nat_Mul.mono a o k) (show k ≤ k + 3 by omega) g3]; rfl

theorem cmp_loop {a b : List Int} (ha : Dig (4294967296 : Int) a) (hb : Dig (4294967296 : Int) b) (hl : a.length = b.length) (hla : a.length ≤ 100000) : ∀ (i k : Nat), i ≤ a.length → i < k → iv (4294967296 : Int) (a.drop i) = iv (4294967296 : Int) (b.drop i) →
    nat_cmp.l0 k a b ((i : Int) - 1) = some (if iv (4294967296 : Int) a < iv (4294967296 : Int) b then -1 else if iv (4294967296 : Int) b < iv (4294967296 : Int) a then 1 else 0) := by
  intro i
  induction i with
  | zero =>
    intro k _ hk he
    obtain ⟨k, rfl⟩ : ∃ m, k = m + 1 := ⟨k - 1, by omega⟩
    rw [List.drop_zero, List.drop_zero] at he
    simp only [nat_cmp.l0]
    rw [if_neg (by omega), if_neg (by omega), if_neg (by omega)]
  | succ i ih =>
    intro k hi hk he
    obtain ⟨k, rfl⟩ : ∃ m, k = m + 1 := ⟨k - 1, by omega⟩
    have e1 : ((i + 1 : Nat) : Int) - 1 = (i : Int) := by omega
    have ea : rd a (i : Int) = dat a i := by rw [rd_dat]; simp
    have eb : rd b (i : Int) = dat b i := by rw [rd_dat]; simp
    simp only [nat_cmp.l0]
    rw [e1, if_pos (by omega), if_pos (by omega), if_pos (by omega), if_pos (by omega), ea, eb]
    by_cases c1 : dat a i < dat b i
    · rw [if_pos c1, if_pos (iv_cmp (by decide) ha hb hl (by omega) he c1)]
    · rw [if_neg c1]
      by_cases c2 : dat a i > dat b i
      · have h := iv_cmp (by decide) hb ha hl.symm (by omega) he.symm c2
        rw [if_pos c2, if_neg (by omega), if_pos h]
      · rw [if_neg c2, w64 (by omega) (by omega)]
        exact ih k (by omega) (by omega) (by rw [iv_drop (4294967296 : Int) (show i < a.length by omega), iv_drop (4294967296 : Int) (show i < b.length by omega), he, show dat a i = dat b i by omega])

theorem cmp_num {a b : List Int} {x y : Nat} (ha : Num (4294967296 : Int) a x) (hb : Num (4294967296 : Int) b y) (hla : a.length ≤ 100000) :
    ∃ k, nat_cmp.f k a b = some (if x < y then -1 else if y < x then 1 else 0) := by
  refine ⟨a.length + 1, ?_⟩
  unfold nat_cmp.f
  have va := ha.val
  have vb := hb.val
  by_cases hl : a.length = b.length
  · rw [if_pos (by omega), w64 (by omega) (by omega), cmp_loop ha.dig hb.dig hl hla a.length (a.length + 1) (Nat.le_refl _) (by omega) (by rw [List.drop_length, hl, List.drop_length]), va, vb]
    congr 1
    by_cases c1 : x < y
    · rw [if_pos (by omega), if_pos c1]
    · rw [if_neg (by omega), if_neg c1]
      by_cases c2 : y < x
      · rw [if_pos (by omega), if_pos c2]
      · rw [if_neg (by omega), if_neg c2]
  · rw [if_neg (by omega)]
    by_cases c : a.length < b.length
    · have : ¬ y ≤ x := fun h => by
        have h1 := hb.len_le (n := a.length) (by decide) (by have := ha.lt (by decide); omega)
        omega
      rw [if_pos (by omega), if_pos (by omega)]
    · have : ¬ x ≤ y := fun h => by
        have h1 := ha.len_le (n := b.length) (by decide) (by have := hb.lt (by decide); omega)
        omega
      rw [if_neg (by omega), if_neg (by omega), if_pos (by omega)]

theorem u64_wrap_pow (n : Int) (h0 : 0 ≤ n) (h1 : n < 2 ^ 64) : IntKind.u64.wrap n = n := wu64 h0 (by simpa using h1)

theorem or_limbs {r d : Int} (hr : 0 ≤ r ∧ r < (4294967296 : Int)) (hd : 0 ≤ d ∧ d < (4294967296 : Int)) : Go.bits .or .u64 (IntKind.u64.wrap (r * (4294967296 : Int))) (IntKind.u64.wrap d) = r * (4294967296 : Int) + d := by
  obtain ⟨r0, r1⟩ := hr
  obtain ⟨d0, d1⟩ := hd
  rw [wu64 (n := r * (4294967296 : Int)) (by omega) (by omega), wu64 d0 (by omega)]
  exact bits_join .u64 64 (by decide) u64_wrap_pow 32 (r * (4294967296 : Int)) d (by omega) (by
    show (r * (4294967296 : Int)) % (4294967296 : Int) = 0
    omega) (by
    show r * (4294967296 : Int) < 18446744073709551616
    omega) d0 (by simpa using d1) (by
    show d < 18446744073709551616
    omega)

theorem small_loop (v : Nat) (hv0 : 0 < v) (hv1 : v < 4294967296) : ∀ (i k : Nat) (xs : List Int) (r : Nat), i ≤ xs.length → xs.length ≤ 100000 → i < k → Dig (4294967296 : Int) xs → r < v →
    ∃ ys : List Int, ys.length = xs.length ∧ Dig (4294967296 : Int) ys ∧ (∀ j, i ≤ j → dat ys j = dat xs j) ∧ ∃ s : Nat, s < v ∧ iv (4294967296 : Int) (ys.take i) * v + s = iv (4294967296 : Int) (xs.take i) + (4294967296 : Int) ^ i * r ∧
      nat_small.l0 k xs (v : Int) (r : Int) ((i : Int) - 1) = some ((s : Int), ys) := by
  intro i
  induction i with
  | zero =>
    intro k xs r _ _ hk hd hr
    obtain ⟨k, rfl⟩ : ∃ m, k = m + 1 := ⟨k - 1, by omega⟩
    refine ⟨xs, rfl, hd, fun _ _ => rfl, r, hr, by simp [iv], ?_⟩
    simp only [nat_small.l0]
    rw [if_neg (by omega), Int.emod_eq_of_lt (by omega) (by omega)]
  | succ i ih =>
    intro k xs r hi hl hk hd hr
    obtain ⟨k, rfl⟩ : ∃ m, k = m + 1 := ⟨k - 1, by omega⟩
    have e1 : ((i + 1 : Nat) : Int) - 1 = (i : Int) := by omega
    have ea : rd xs (i : Int) = dat xs i := by rw [rd_dat]; simp
    have hx := dat_dig hd (by decide) i
    obtain ⟨d, hde⟩ := Int.eq_ofNat_of_zero_le hx.1
    have hb : d < 4294967296 := by have := hx.2; omega
    have hq : (r * 4294967296 + d) / v < 4294967296 := by
      rw [Nat.div_lt_iff_lt_mul hv0]
      have h1 : r * 4294967296 + 4294967296 ≤ v * 4294967296 := by rw [← Nat.succ_mul]; exact Nat.mul_le_mul_right _ hr
      have h2 : 4294967296 * v = v * 4294967296 := Nat.mul_comm _ _
      omega
    have hm : (r * 4294967296 + d) % v < v := Nat.mod_lt _ hv0
    have hdm := Nat.div_add_mod (r * 4294967296 + d) v
    have ev : IntKind.u64.wrap (v : Int) = (v : Int) := wu64 (by omega) (by omega)
    have eo : Go.bits .or .u64 (IntKind.u64.wrap ((r : Int) * (4294967296 : Int))) (IntKind.u64.wrap (dat xs i)) = ((r * 4294967296 + d : Nat) : Int) := by
      rw [or_limbs ⟨by omega, by omega⟩ hx, hde]; simp
    have et : Int.tdiv ((r * 4294967296 + d : Nat) : Int) (v : Int) = (((r * 4294967296 + d) / v : Nat) : Int) := by
      rw [Int.tdiv_eq_ediv_of_nonneg (by omega)]; rfl
    have em : Int.tmod ((r * 4294967296 + d : Nat) : Int) (v : Int) = (((r * 4294967296 + d) % v : Nat) : Int) := by
      rw [Int.tmod_eq_emod_of_nonneg (by omega)]; rfl
    generalize hQ : (r * 4294967296 + d) / v = q at hq hdm et
    generalize hM : (r * 4294967296 + d) % v = s at hm hdm em
    obtain ⟨ys, h1, h2, h3, s', h4, h5, h6⟩ := ih k (xs.set i (q : Int)) s (by rw [List.length_set]; omega) (by rw [List.length_set]; exact hl) (by omega) (hd.set _ (by omega) (by omega)) hm
    rw [List.length_set] at h1
    refine ⟨ys, h1, h2, fun j hj => ?_, s', h4, ?_, ?_⟩
    · rw [h3 j (by omega), dat_set_ne (by omega)]
    · have hy : dat ys i = (q : Int) := by rw [h3 i (Nat.le_refl _), dat_set_self (by omega)]
      rw [iv_take_succ (4294967296 : Int) (show i < ys.length by omega), iv_take_succ (4294967296 : Int) (show i < xs.length by omega), hy]
      have e2 : (xs.set i (q : Int)).take i = xs.take i := by rw [List.take_set_of_le (Nat.le_refl _)]
      rw [e2] at h5
      rw [Int.add_mul, Int.pow_succ, hde]
      have e3 : (v : Int) * (q : Int) + (s : Int) = (r : Int) * (4294967296 : Int) + (d : Int) := by
        have := hdm
        have e4 : ((v * q + s : Nat) : Int) = ((r * 4294967296 + d : Nat) : Int) := by rw [hdm]
        simpa using e4
      generalize iv (4294967296 : Int) (xs.take i) = X at h5 ⊢
      generalize iv (4294967296 : Int) (ys.take i) = Y at h5 ⊢
      generalize (4294967296 : Int) ^ i = P at h5 ⊢
      have e5 : P * (q : Int) * (v : Int) = P * ((v : Int) * (q : Int)) := by rw [Int.mul_assoc, Int.mul_comm (q : Int)]
      have e6 : P * (4294967296 : Int) * (r : Int) = P * ((r : Int) * (4294967296 : Int)) := by rw [Int.mul_assoc, Int.mul_comm (4294967296 : Int)]
      have e7 := congrArg (P * ·) e3
      simp only [Int.mul_add] at e7
      rw [e5, e6]
      omega
    · simp only [nat_small.l0]
      rw [e1, if_pos (by omega), if_pos (by omega), if_pos (by omega), ev, if_neg (by omega), ea, eo, et, em, wu64 (n := (q : Int)) (by omega) (by omega), Int.emod_eq_of_lt (a := (q : Int)) (by omega) (by omega), w64 (by omega) (by omega), Int.toNat_natCast]
      exact h6

theorem small_num {xs : List Int} {x v : Nat} (h : Num (4294967296 : Int) xs x) (hl : xs.length ≤ 100000) (hv0 : 0 < v) (hv1 : v < 4294967296) :
    ∃ (ys : List Int) (s k : Nat), ys.length = xs.length ∧ Dig (4294967296 : Int) ys ∧ iv (4294967296 : Int) ys = ((x / v : Nat) : Int) ∧ s = x % v ∧ nat_small.f k xs (v : Int) = some ((s : Int), ys) := by
  obtain ⟨ys, h1, h2, _, s, h4, h5, h6⟩ := small_loop v hv0 hv1 xs.length (xs.length + 1) xs 0 (Nat.le_refl _) hl (by omega) h.dig hv0
  rw [← h1, List.take_length, h1, List.take_length, h.val] at h5
  obtain ⟨y, hy⟩ := Int.eq_ofNat_of_zero_le (iv_nonneg (by decide) h2)
  rw [hy] at h5
  have h7 : y * v + s = x := by
    have e : ((y * v + s : Nat) : Int) = (x : Int) := by simp at h5 ⊢; omega
    omega
  have h8 : x / v = y := by
    rw [← h7, Nat.add_comm, Nat.mul_comm, Nat.add_mul_div_left _ _ hv0, Nat.div_eq_of_lt h4, Nat.zero_add]
  have h9 : x % v = s := by
    rw [← h7, Nat.add_comm, Nat.mul_comm, Nat.add_mul_mod_self_left, Nat.mod_eq_of_lt h4]
  refine ⟨ys, s, xs.length + 1, h1, h2, by rw [hy, h8], h9.symm, ?_⟩
  unfold nat_small.f
  rw [w64 (by omega) (by omega)]
  exact h6

end Go.Proofs.YteeacbgaehdodaaGreat

namespace Go.Proofs.YteeacbgaehdodaaGreat
open Go.RowKit Go.Proofs.YteeacbgaehdodaaGreatW.PrintWords Go.Proofs.YteeacbgaehdodaaGreatW.PrintLast Go.Proofs.YteeacbgaehdodaaGreatW.PrintMore Go.Proofs.YteeacbgaehdodaaGreat.Fn

/-- The slice v reads as the natural number x. -/
def IsN (w : World) (v : Value) (x : Nat) : Prop :=
  ∃ (xs : List Int) (A : Option Addr) (c : Nat), v = .slice A xs.length c ∧ xs.length ≤ c ∧ xs.length ≤ 1024 ∧ Num (4294967296 : Int) xs x ∧ Kd.C (Kd.int .u32) w A xs.length xs

/-- It has at most 900 limbs. -/
def Fits (x : Nat) : Prop := (x : Int) < (4294967296 : Int) ^ 900

/-- It has at most 400 limbs. -/
def Half (x : Nat) : Prop := (x : Int) < (4294967296 : Int) ^ 400

def GivesN (w : World) (x : Nat) (e : Ending) (w' : World) : Prop := ∃ v, e = .returned v ∧ IsN w' v x ∧ Below w.heap.size w w'
def GivesNE (w : World) (x : Nat) (err : Int) (e : Ending) (w' : World) : Prop := ∃ v, e = .returned (.tuple #[v, .int .i64 err]) ∧ IsN w' v x ∧ Below w.heap.size w w'

theorem IsN.below {w w' : World} {v : Value} {x : Nat} (h : IsN w v x) (hb : Below w.heap.size w w') : IsN w' v x := by
  obtain ⟨xs, A, c, h1, h2, h3, h4, h5⟩ := h
  exact ⟨xs, A, c, h1, h2, h3, h4, Kd.C_below h5 hb⟩
theorem IsN.drewN {w : World} {v : Value} {x : Nat} (h : IsN w v x) (n : Nat) : IsN (w.drewN n) v x := h.below (pw_below_drewN (Below.refl _ _) n)
theorem IsN.drew {w : World} {v : Value} {x : Nat} (h : IsN w v x) : IsN w.drew v x := h.drewN 1
theorem IsN.alloc {w : World} {v : Value} {x : Nat} (h : IsN w v x) (o : Obj) : IsN (w.alloc o) v x := h.below (below_alloc (Below.refl _ _) o)
theorem IsN.nil (w : World) : IsN w (.slice none 0 0) 0 := ⟨[], none, 0, rfl, Nat.le_refl _, by simp, Num.zero _, Kd.C_nil _ _⟩

theorem IsN.of_V {w : World} {e base : Nat} {ok : Nat → Prop} {v : Value} {xs : List Int} {x : Nat} (h : Kd.V (Kd.int .u32) e w base ok v xs) (hn : Num (4294967296 : Int) xs x) (hl : xs.length ≤ 1024) : IsN w v x := by
  obtain ⟨A, c, h1, h2, h3⟩ := h
  exact ⟨xs, A, c, h1, h2, hl, hn, Kd.F_now h3⟩
theorem IsN.of_R {w : World} {e base : Nat} {ok : Nat → Prop} {v : Value} {xs : List Int} {x : Nat} (h : Kd.R (Kd.int .u32) e w base ok v xs) (hn : Num (4294967296 : Int) xs x) (hl : xs.length ≤ 1024) : IsN w v x := by
  obtain ⟨A, c, h1, h2, h3⟩ := Kd.R_reads h
  exact ⟨xs, A, c, h1, h2, hl, hn, h3⟩

theorem fits_len {xs : List Int} {x : Nat} (h : Num (4294967296 : Int) xs x) (hx : Fits x) : xs.length ≤ 900 := h.len_le (by decide) hx
theorem fits_1024 {x : Nat} (hx : Fits x) : (x : Int) < (4294967296 : Int) ^ 1024 := Int.lt_of_lt_of_le hx (pow_le_pow' (by decide) (by decide))
theorem Fits.le {x y : Nat} (h : Fits y) (hx : x ≤ y) : Fits x := by unfold Fits at *; omega

theorem half_len {xs : List Int} {x : Nat} (h : Num (4294967296 : Int) xs x) (hx : Half x) : xs.length ≤ 400 := h.len_le (by decide) hx
theorem Half.le {x y : Nat} (h : Half y) (hx : x ≤ y) : Half x := by unfold Half at *; omega
theorem half_small {x : Nat} (h : x < 4294967296) : Half x := by
  have h2 := pow_le_pow' (B := (4294967296 : Int)) (by decide) (show 1 ≤ 400 by decide)
  have e : (4294967296 : Int) ^ 1 = (4294967296 : Int) := by simp
  unfold Half
  omega
theorem Half.fits {x : Nat} (h : Half x) : Fits x := Int.lt_of_lt_of_le h (pow_le_pow' (by decide) (by decide))
theorem Half.mul {x y : Nat} (hx : Half x) (hy : Half y) : Fits (x * y) := by
  unfold Half at hx hy
  have h1 : 0 ≤ (4294967296 : Int) ^ 400 := Int.le_of_lt (pow_pos' (by decide) 400)
  have h2 : (x : Int) * (y : Int) ≤ (4294967296 : Int) ^ 400 * (4294967296 : Int) ^ 400 := Int.mul_le_mul (Int.le_of_lt hx) (Int.le_of_lt hy) (by omega) h1
  rw [← Int.pow_add] at h2
  have h3 : (4294967296 : Int) ^ (400 + 400) < (4294967296 : Int) ^ 900 := by
    have h4 := pow_le_pow' (B := (4294967296 : Int)) (by decide) (show 400 + 400 + 1 ≤ 900 by decide)
    rw [Int.pow_succ] at h4
    have h5 := pow_pos' (B := (4294967296 : Int)) (by decide) (400 + 400)
    omega
  unfold Fits
  rw [Int.natCast_mul]
  omega

theorem drawn_below {w w' : World} (h : Drawn0 w w') : Below w.heap.size w w' := by
  obtain ⟨n, rfl⟩ := h
  exact pw_below_drewN (Below.refl _ _) n

theorem one_calls (a : Int) (w : World) (h0 : 0 ≤ a) (h1 : a < 9223372036854775808) : Calls Tryz.prog 46 #[.int .i64 a] w (GivesN w a.toNat) := by
  obtain ⟨n, rfl⟩ := Int.eq_ofNat_of_zero_le h0
  obtain ⟨r, hl, hn, hk⟩ := one_num n (by omega)
  refine (stats_one.calls 3 (n : Int) r w (hk 3 (by omega))).mono ?_
  rintro e w' ⟨v, rfl, hv, hb⟩
  exact ⟨v, rfl, IsN.of_V hv (by rw [Int.toNat_natCast]; exact hn) (by omega), hb⟩

theorem Of_calls (a : Int) (w : World) (h0 : 0 ≤ a) (h1 : a < 18446744073709551616) : Calls Tryz.prog 25 #[.int .u64 a] w (GivesN w a.toNat) := by
  obtain ⟨n, rfl⟩ := Int.eq_ofNat_of_zero_le h0
  obtain ⟨r, hl, hn, hk⟩ := of_num n (by omega)
  refine (nat_Of.calls 3 (n : Int) r w (hk 3 (by omega))).mono ?_
  rintro e w' ⟨v, rfl, hv, hb⟩
  exact ⟨v, rfl, IsN.of_V hv (by rw [Int.toNat_natCast]; exact hn) (by omega), hb⟩

theorem Right_calls {va : Value} {x : Nat} (w : World) (ha : IsN w va x) : Calls Tryz.prog 51 #[va] w fun e w' => e = .returned (.bool true) ∧ Drawn0 w w' := by
  obtain ⟨xs, A, c, rfl, h2, h3, h4, h5⟩ := ha
  exact nat_Right.calls A c xs true w h5 h2 (right_num h4 h3)

theorem Mul_calls {va vb : Value} {x y : Nat} (w : World) (ha : IsN w va x) (hb : IsN w vb y) (hx : Fits x) (hy : y < 4294967296) (hxy : Fits (x * y)) : Calls Tryz.prog 26 #[va, vb] w (GivesNE w (x * y) 0) := by
  obtain ⟨xs, A, c, rfl, h2, h3, h4, h5⟩ := ha
  obtain ⟨ys, B, d, rfl, g2, g3, g4, g5⟩ := hb
  have hl := fits_len h4 hx
  have hm : ys.length ≤ 1 := g4.len_le (by decide) (by simp; omega)
  obtain ⟨r, k, r1, r2, r3⟩ := Mul_num h4 g4 h3 g3 (by omega) (fits_1024 hxy)
  refine (nat_Mul.calls k A c xs B d ys r 0 w h5 h2 g5 g2 r3).mono ?_
  rintro e w' ⟨v, rfl, hv, hb⟩
  exact ⟨v, rfl, IsN.of_V hv r1 r2, hb⟩

theorem Mul_any {va vb : Value} {x y : Nat} (w : World) (ha : IsN w va x) (hb : IsN w vb y) (hx : Half x) (hy : Half y) : Calls Tryz.prog 26 #[va, vb] w (GivesNE w (x * y) 0) := by
  obtain ⟨xs, A, c, rfl, h2, h3, h4, h5⟩ := ha
  obtain ⟨ys, B, d, rfl, g2, g3, g4, g5⟩ := hb
  have hl := half_len h4 hx
  have hm := half_len g4 hy
  obtain ⟨r, k, r1, r2, r3⟩ := Mul_num h4 g4 h3 g3 (by omega) (fits_1024 (hx.mul hy))
  refine (nat_Mul.calls k A c xs B d ys r 0 w h5 h2 g5 g2 r3).mono ?_
  rintro e w' ⟨v, rfl, hv, hb⟩
  exact ⟨v, rfl, IsN.of_V hv r1 r2, hb⟩

theorem smul_calls {va : Value} {x : Nat} (y : Int) (w : World) (ha : IsN w va x) (hx : Fits x) (hy0 : 0 ≤ y) (hy : y < 9223372036854775808) (hxy : Fits (x * y.toNat)) : Calls Tryz.prog 47 #[va, .int .i64 y] w (GivesN w (x * y.toNat)) := by
  obtain ⟨n, rfl⟩ := Int.eq_ofNat_of_zero_le hy0
  rw [Int.toNat_natCast] at hxy ⊢
  obtain ⟨xs, A, c, rfl, h2, h3, h4, h5⟩ := ha
  have hl := fits_len h4 hx
  obtain ⟨r, k, r1, r2, r3⟩ := smul_num h4 (by omega) (by omega) (fits_1024 hxy)
  refine (stats_mul.calls k A c xs (n : Int) r w h5 h2 r3).mono ?_
  rintro e w' ⟨v, rfl, hv, hb⟩
  exact ⟨v, rfl, IsN.of_V hv r1 r2, hb⟩

/-- what a comparison gives -/
def cmpI (x y : Nat) : Int := if x < y then -1 else if y < x then 1 else 0
theorem cmpI_pos (x y : Nat) : decide (cmpI x y > 0) = decide (y < x) := by
  unfold cmpI
  by_cases h1 : x < y
  · rw [if_pos h1, decide_eq_false (by omega), decide_eq_false (by omega)]
  · rw [if_neg h1]
    by_cases h2 : y < x
    · rw [if_pos h2, decide_eq_true (by omega), decide_eq_true h2]
    · rw [if_neg h2, decide_eq_false (by omega), decide_eq_false h2]

theorem cmp_calls {va vb : Value} {x y : Nat} (w : World) (ha : IsN w va x) (hb : IsN w vb y) : Calls Tryz.prog 55 #[va, vb] w fun e w' => e = .returned (.int .i64 (cmpI x y)) ∧ Drawn0 w w' := by
  obtain ⟨xs, A, c, rfl, h2, h3, h4, h5⟩ := ha
  obtain ⟨ys, B, d, rfl, g2, g3, g4, g5⟩ := hb
  obtain ⟨k, hk⟩ := cmp_num h4 g4 (by omega)
  exact nat_cmp.calls k A c xs B d ys _ w h5 h2 g5 g2 hk

end Go.Proofs.YteeacbgaehdodaaGreat

namespace Go.Proofs.YteeacbgaehdodaaGreat
open Go.RowKit Go.Proofs.YteeacbgaehdodaaGreatW.PrintWords Go.Proofs.YteeacbgaehdodaaGreatW.PrintLast Go.Proofs.YteeacbgaehdodaaGreatW.PrintMore Go.Proofs.YteeacbgaehdodaaGreat.Fn

set_option maxHeartbeats 400000 in
theorem Cmp_calls {va vb : Value} {x y : Nat} (w : World) (ha : IsN w va x) (hb : IsN w vb y) :
    Calls Tryz.prog 27 #[va, vb] w fun e w' => e = .returned (.tuple #[.int .i64 (cmpI x y), .int .i64 0]) ∧ Drawn0 w w' := by
  go_enter Tryz.func27, Tryz.ntmps27
  go_wp2_with fail
  refine (Right_calls _ ha).mono ?_
  rintro e w1 ⟨rfl, ⟨n, rfl⟩⟩
  go_wp2_with fail
  refine (Right_calls _ (hb.drewN n)).mono ?_
  rintro e w1 ⟨rfl, ⟨m, rfl⟩⟩
  go_wp2_with fail
  refine (cmp_calls _ (ha.drewN (n + m)) (hb.drewN (n + m))).mono ?_
  rintro e w1 ⟨rfl, ⟨q, rfl⟩⟩
  go_wp2_with fail
  go_ret2
  exact ⟨rfl, ⟨n + m + q, by simp [World.drewN, Nat.add_assoc]⟩⟩

set_option maxHeartbeats 1000000 in
/-- slices.Clone: the same limbs in a row of the call's own -/
theorem Clone_some (ad : Addr) (c : Nat) (l0 : List Int) (w : World) (hr : Kd.C (Kd.int .u32) w (some ad) l0.length l0) (hl : l0.length ≤ 100000) :
    Calls Tryz.prog 167 #[.slice (some ad) l0.length c] w fun e w' => ∃ v : Value, e = .returned v ∧ Kd.R (Kd.int .u32) 87 w' w.heap.size (fun _ => True) v l0 ∧ Below w.heap.size w w' := by
  have HR0 := Aside0.mk hr
  have HL := Aside0.mk hl
  have HB := Aside0.mk (Below.refl w.heap.size w)
  clear hr hl
  have hnil := fun W => Lib.run_eql_slice_nil (P := Tryz.prog) W 49 87 (some ad) l0.length c 0 0 Tryz.underlying49
  go_enter Tryz.func167, Tryz.ntmps167
  go_wp2_with (first
    | ((with_reducible refine gate_dst (N := 5) rfl ?_); refine Kd.R_lit (Kd.int .u32) _ 87 ?hg (N := 5) ?hd (xs := ([] : List Int)) (inner := []) (ok := fun _ => True) (okp := fun _ => True) ?hr ?hp (fun _ hk => hk) trivial (Below.refl _ _) (Nat.le_refl _) (by simp) ?_; (case hd => rfl); (case hg => rfl); (case hr => first | (go_simp; done) | (go_simp; rfl)); (case hp => exact (Reps.none _ _)); intro v453 w3 ho4 hb hg_ hnew_; clear hg_ hnew_; have n0_ := Aside0.mk (Kd.R_lower ho4 (below_size (by repeat (first | (with_reducible first | exact HB.out | apply below_alloc | apply pw_below_drewN | apply below_drew1) | exact HB.out)))); have n1_ := Aside0.mk (below_step (by repeat (first | (with_reducible first | exact HB.out | apply below_alloc | apply pw_below_drewN | apply below_drew1) | exact HB.out)) hb); clear HB; have HO454 := n0_; have HB := n1_; clear n0_ n1_; clear hb ho4)
    | ((with_reducible refine gate_builtin (b := .append) (xs := #[.tmp 5, .tmp 6]) rfl ?_); at_builtin; refine Kd.R_append_rows (Kd.int .u32) (w0 := w) w.heap.size rfl (.tmp 5) (.tmp 6) 49 87 (.int .u32 0) 4 rfl Tryz.underlying49 info87 rfl (by decide) (by omega) v453 [] l0 _ _ _ (fun _ => True) (fun _ => False) rfl rfl ?aO ?aR (fun _ _ h => h) (fun _ h => h.elim) ?aF ?aB ?aS ?aL ?_; (case aR => exact (Kd.C_below HR0.out HB.out)); (case aB => exact (by repeat (first | (with_reducible first | exact HB.out | apply below_alloc | apply pw_below_drewN | apply below_drew1) | exact HB.out))); (case aF => exact (fun _ _ => trivial)); (case aO => exact HO454.out); (case aS => exact (below_size (by repeat (first | (with_reducible first | exact HB.out | apply below_alloc | apply pw_below_drewN | apply below_drew1) | exact HB.out)))); (case aL => have := HL.out; simp; omega); intro v456 w5 ho hb hg hat; have n0_ := Aside0.mk (hb); have n1_ := Aside0.mk (ho); clear HB; clear HO454; have HB := n0_; have HO457 := n1_; clear n0_ n1_; clear ho hb hg hat))
  go_ret
  exact ⟨_, rfl, HO457.out, HB.out⟩

set_option maxHeartbeats 400000 in
theorem Clone_none (c : Nat) (w : World) :
    Calls Tryz.prog 167 #[.slice none 0 c] w fun e w' => e = .returned (.slice none 0 0) ∧ w = w' := by
  have hnil := fun W => Lib.run_eql_slice_nil (P := Tryz.prog) W 49 87 none 0 c 0 0 Tryz.underlying49
  go_enter Tryz.func167, Tryz.ntmps167
  go_wp2_with fail
  go_ret
  exact ⟨rfl, rfl⟩

theorem Clone_any {A : Option Addr} (c : Nat) (l0 : List Int) (w : World) (hr : Kd.C (Kd.int .u32) w A l0.length l0) (hl : l0.length ≤ 100000) :
    Calls Tryz.prog 167 #[.slice A l0.length c] w fun e w' => ∃ v : Value, e = .returned v ∧ Kd.R (Kd.int .u32) 87 w' w.heap.size (fun _ => True) v l0 ∧ Below w.heap.size w w' := by
  cases A with
  | some ad => exact Clone_some ad c l0 w hr hl
  | none =>
    have h0 : l0.length = 0 := by
      rcases Nat.eq_zero_or_pos l0.length with h | h
      · exact h
      · obtain ⟨ad, e, _⟩ := hr.2.2 h
        cases e
    rw [h0]
    refine (Clone_none c w).mono ?_
    rintro e w' ⟨rfl, rfl⟩
    rw [List.length_eq_zero_iff.1 h0]
    exact ⟨_, rfl, Kd.R_nil _ _ _ _ _, Below.refl _ _⟩

set_option maxHeartbeats 1000000 in
/-- the divisor has one limb; the dividend is not less -/
theorem DivMod_ge {va : Value} {x y : Nat} (B : Addr) (d : Nat) (w : World) (ha : IsN w va x) (hd : 1 ≤ d) (hb : Kd.C (Kd.int .u32) w (some B) 1 [(y : Int)]) (hy0 : 0 < y) (hy : y < 4294967296) (hxy : y ≤ x) :
    Calls Tryz.prog 150 #[va, .slice (some B) 1 d] w fun e w' => ∃ v r : Value, e = .returned (.tuple #[v, r, .int .i64 0]) ∧ IsN w' v (x / y) ∧ Below w.heap.size w w' := by
  have hn : Num (4294967296 : Int) [(y : Int)] y := ⟨fun e he => by
    rw [List.mem_singleton.1 he]; omega, fun e he => by
    simp at he; omega, by simp [iv]⟩
  have HN : IsN w (.slice (some B) 1 d) y := ⟨[(y : Int)], some B, d, rfl, hd, by simp, hn, hb⟩
  have HY := Aside0.mk hn
  have hc : decide (cmpI x y < 0) = false := by
    unfold cmpI
    rw [if_neg (by omega)]
    split <;> rfl
  clear hn
  obtain ⟨xs, A, c, rfl, h2, h3, h4, h5⟩ := id ha
  obtain ⟨ys, s, k, hl, hdig, hval, hs, hk⟩ := small_num h4 (by omega) hy0 hy
  have hsv : s < 4294967296 := by rw [hs]; exact Nat.lt_trans (Nat.mod_lt _ hy0) hy
  have HK := Aside0.mk hk
  obtain ⟨r1, hr1, hn1, hk1⟩ := trim_num hdig hval (by omega)
  have HK1 := Aside0.mk (hk1 _ (Nat.lt_succ_self _))
  have HN1 := Aside0.mk hn1
  have HL1 := Aside0.mk (show r1.length ≤ 1024 by omega)
  obtain ⟨r2, hr2, hn2, hk2⟩ := trim_num (xs := [(s : Int)]) (x := s) (fun e he => by
    rw [List.mem_singleton.1 he]; omega) (by simp [iv]) (by simp)
  have HK2 := Aside0.mk (hk2 2 (by simp))
  have H5 := Aside0.mk h5
  have HBC := Aside0.mk hb
  clear hl hdig hval hs hk hr1 hn1 hk1 hr2 hn2 hk2 h4 h5 hb
  go_enter Tryz.func150, Tryz.ntmps150
  go_wp2_with fail
  refine (Right_calls _ ha).mono ?_
  rintro e w1 ⟨rfl, ⟨n, rfl⟩⟩
  go_wp2_with fail
  refine (Right_calls _ (HN.drewN n)).mono ?_
  rintro e w1 ⟨rfl, ⟨m, rfl⟩⟩
  go_wp2_with fail
  refine (cmp_calls _ (ha.drewN (n + m)) (HN.drewN (n + m))).mono ?_
  rintro e w1 ⟨rfl, ⟨q, rfl⟩⟩
  go_wp2_with fail
  refine (Clone_any c xs _ (Kd.C_below H5.out (pw_below_drewN (Below.refl _ _) _)) (by omega)).mono ?_
  rintro e w2 ⟨v, rfl, hv, hbw⟩
  have HV := Aside0.mk hv
  have HBW := Aside0.mk hbw
  have HB := Aside0.mk (below_step (pw_below_drewN (Below.refl w.heap.size w) (n + m + q)) hbw)
  clear hv hbw
  obtain ⟨ad, e102, hcell⟩ := Kd.at_int (Kd.C_below HBC.out HB.out) 0 (by decide) (by decide)
  cases e102
  have hc0 : w2.cell? B = some (.int .u32 (y : Int)) := hcell
  clear hcell
  go_wp2_with fail
  have hcs := nat_small.calls k (fun _ => True) v xs (y : Int) (s : Int) ys (w.drewN (n + m + q)) w2 HBW.out HV.out HK.out
  refine hcs.mono ?_
  rintro e w3 ⟨rfl, ho3, hb3, hk3⟩
  clear hk3 hc0
  obtain ⟨Aq, cq, rfl⟩ := Kd.R_slice ho3
  have HQ := Aside0.mk ho3
  have HB3 := Aside0.mk hb3
  clear HB HV HBW hb3 ho3
  go_wp2_with fail
  refine (nat_trim.calls _ (fun _ => True) Aq cq ys r1 w3 (Kd.V_mono (Kd.R_V HQ.out) (fun _ _ => trivial)) HK1.out).mono ?_
  rintro e w4 ⟨v4, rfl, hv4, hb4⟩
  have HV4 := Aside0.mk hv4
  have HB := Aside0.mk (below_step (show Below w.heap.size w w3 from below_step (pw_below_drewN (Below.refl w.heap.size w) (n + m + q)) HB3.out) hb4)
  clear hv4 hb4
  go_wp2_with (first
    | ((with_reducible refine gate_dst (N := 43) rfl ?_); refine Kd.R_lit (Kd.int .u32) _ 87 ?hg (N := 43) ?hd (xs := [(s : Int)]) (inner := [.int .u32 (s : Int)]) (ok := fun _ => True) (okp := fun _ => True) ?hr ?hp (fun _ hk => hk) trivial (Below.refl _ _) (Nat.le_refl _) (by simp) ?_; (case hd => rfl); (case hg => rfl); (case hr => first | (go_simp; done) | (go_simp; rfl)); (case hp => exact (Reps.one (show Kd.M (Kd.int .u32) _ _ _ (s : Int) [.int .u32 (s : Int)] from rfl) (Reps.none _ _))); intro v118 w5 ho4 hb5 hg_ hnew_; clear hg_ hnew_; obtain ⟨Al, cl, rfl⟩ := Kd.R_slice ho4; have HL4 := Aside0.mk ho4; have HB5 := Aside0.mk hb5; clear ho4 hb5))
  refine (nat_trim.calls 2 (fun _ => True) Al cl [(s : Int)] r2 w5 (Kd.V_mono (Kd.R_V HL4.out) (fun _ _ => trivial)) HK2.out).mono ?_
  rintro e w6 ⟨v6, rfl, hv6, hb6⟩
  clear hv6
  go_wp2_with fail
  go_ret3
  exact ⟨v4, v6, rfl, (((IsN.of_V HV4.out HN1.out HL1.out).below (below_step (Below.refl _ _) HB5.out)).below hb6), below_step (below_step HB.out HB5.out) hb6⟩

set_option maxHeartbeats 1000000 in
theorem DivMod_lt {va vb : Value} {x y : Nat} (w : World) (ha : IsN w va x) (hb : IsN w vb y) (hxy : x < y) :
    Calls Tryz.prog 150 #[va, vb] w fun e w' => ∃ v r : Value, e = .returned (.tuple #[v, r, .int .i64 0]) ∧ IsN w' v (x / y) ∧ Below w.heap.size w w' := by
  have hc : decide (cmpI x y < 0) = true := by
    unfold cmpI
    rw [if_pos hxy]; rfl
  have hz := Aside0.mk (show x / y = 0 from Nat.div_eq_of_lt hxy)
  obtain ⟨xs, A, c, rfl, h2, h3, h4, h5⟩ := id ha
  obtain ⟨ys, B, d, rfl, g2, g3, g4, g5⟩ := id hb
  have hy : 0 < ys.length := by
    rcases Nat.eq_zero_or_pos ys.length with h | h
    · have := (g4.nil_iff (by decide)).1 h; omega
    · exact h
  have H5 := Aside0.mk h5
  clear h4 h5 g4 g5
  have hl : ((ys.length : Int) == 0) = false := by rw [beq_eq_false_iff_ne]; omega
  go_enter Tryz.func150, Tryz.ntmps150
  go_wp2_with fail
  refine (Right_calls _ ha).mono ?_
  rintro e w1 ⟨rfl, ⟨n, rfl⟩⟩
  go_wp2_with fail
  refine (Right_calls _ (hb.drewN n)).mono ?_
  rintro e w1 ⟨rfl, ⟨m, rfl⟩⟩
  go_wp2_with fail
  refine (cmp_calls _ (ha.drewN (n + m)) (hb.drewN (n + m))).mono ?_
  rintro e w1 ⟨rfl, ⟨q, rfl⟩⟩
  go_wp2_with fail
  refine (Clone_any c xs _ (Kd.C_below H5.out (pw_below_drewN (Below.refl _ _) _)) (by omega)).mono ?_
  rintro e w2 ⟨v, rfl, hv, hbw⟩
  clear hv
  go_wp2_with fail
  go_ret3
  exact ⟨_, _, rfl, by rw [hz.out]; exact IsN.nil _, below_step (pw_below_drewN (Below.refl w.heap.size w) (n + m + q)) hbw⟩

theorem DivMod_calls {va vb : Value} {x y : Nat} (w : World) (ha : IsN w va x) (hb : IsN w vb y) (hy0 : 0 < y) (hy : y < 4294967296) :
    Calls Tryz.prog 150 #[va, vb] w fun e w' => ∃ v r : Value, e = .returned (.tuple #[v, r, .int .i64 0]) ∧ IsN w' v (x / y) ∧ Below w.heap.size w w' := by
  by_cases hxy : x < y
  · exact DivMod_lt w ha hb hxy
  · obtain ⟨ys, B, d, rfl, g2, g3, g4, g5⟩ := hb
    have hn : Num (4294967296 : Int) [(y : Int)] y := ⟨fun e he => by
      rw [List.mem_singleton.1 he]; omega, fun e he => by
      simp at he; omega, by simp [iv]⟩
    obtain rfl := hn.unique (by decide) g4
    obtain ⟨ad, e, _⟩ := g5.2.2 (by simp)
    subst e
    exact DivMod_ge ad d w ha (by simpa using g2) g5 hy0 hy (by omega)

set_option maxHeartbeats 400000 in
theorem div_calls {va : Value} {x : Nat} (y : Int) (w : World) (ha : IsN w va x) (hy0 : 0 < y) (hy : y < 4294967296) :
    Calls Tryz.prog 110 #[va, .int .i64 y] w (GivesN w (x / y.toNat)) := by
  go_enter Tryz.func110, Tryz.ntmps110
  go_wp2_with fail
  refine (one_calls y _ (by omega) (by omega)).mono ?_
  rintro e w1 ⟨v1, rfl, hv1, hb1⟩
  go_wp2_with fail
  refine (DivMod_calls w1 (ha.below hb1) hv1 (by omega) (by omega)).mono ?_
  rintro e w2 ⟨v2, r2, rfl, hv2, hb2⟩
  go_wp2_with fail
  go_ret
  exact ⟨v2, rfl, hv2, below_step hb1 hb2⟩

end Go.Proofs.YteeacbgaehdodaaGreat

namespace Go.Proofs.YteeacbgaehdodaaGreat
open Go.RowKit Go.Proofs.YteeacbgaehdodaaGreatW.PrintWords Go.Proofs.YteeacbgaehdodaaGreatW.PrintLast Go.Proofs.YteeacbgaehdodaaGreatW.PrintMore Go.Proofs.YteeacbgaehdodaaGreat.Fn

theorem mul_calls {va vb : Value} {x y : Nat} (w : World) (ha : IsN w va x) (hb : IsN w vb y) (hx : Half x) (hy : Half y) :
    Calls Tryz.prog 53 #[va, vb] w (GivesN w (x * y)) := by
  obtain ⟨xs, A, c, rfl, h2, h3, h4, h5⟩ := ha
  obtain ⟨ys, B, d, rfl, g2, g3, g4, g5⟩ := hb
  have hl := half_len h4 hx
  have hm := half_len g4 hy
  obtain ⟨r, k, r1, r2, r3⟩ := mul_num h4 g4 (by omega) (by omega)
  refine (nat_mul.calls k A c xs B d ys r w h5 h2 g5 g2 r3).mono ?_
  rintro e w' ⟨v, rfl, hv, hb⟩
  exact ⟨v, rfl, IsN.of_V hv r1 (by omega), hb⟩

theorem fit_calls {va : Value} {x : Nat} (w : World) (ha : IsN w va x) : Calls Tryz.prog 52 #[va] w (GivesNE w x 0) := by
  obtain ⟨xs, A, c, rfl, h2, h3, h4, h5⟩ := ha
  obtain ⟨r, h6, h7, h8⟩ := fit_num h4.dig h4.val (by omega) (by
    have := h4.lt (by decide)
    have := pow_le_pow' (B := (4294967296 : Int)) (by decide) h3
    omega)
  refine (nat_fit.calls _ (fun k => k < w.heap.size) A c xs r 0 w (Kd.V_mk h2 (Kd.C_F (Kd.heap_int _) h5)) (h8 _ (Nat.lt_succ_self _))).mono ?_
  rintro e w' ⟨v, rfl, hv, hb⟩
  exact ⟨v, rfl, IsN.of_V hv h6 h7, hb⟩

theorem one_limb {y : Nat} (hy0 : 0 < y) (hy : y < 4294967296) : Num (4294967296 : Int) [(y : Int)] y := ⟨fun e he => by
  rw [List.mem_singleton.1 he]; omega, fun e he => by
  simp at he; omega, by simp [iv]⟩

theorem pow_half {a m n : Nat} (ha : 2 ≤ a) (h : m ≤ n) (hn : Half (a ^ n)) : Half (a ^ m) := hn.le (Nat.pow_le_pow_right (by omega) h)

/-- between two rounds: t is the half of 2^j, and v the power of what the higher bits are -/
def PowAt (a n : Nat) (t : Int) (W : World) (v : Value) : Prop := ∃ j : Nat, t = ((2 ^ j / 2 : Nat) : Int) ∧ j ≤ 16 ∧ IsN W v (a ^ (n / 2 ^ j))

/-- one round: what the bit is, and what the power becomes -/
theorem PowAt.round {a n : Nat} {t : Int} {W : World} {v : Value} (h : PowAt a n t W v) (ht : 0 < t) (hn : n ≤ 500) (ha : 2 ≤ a) (hf : Half (a ^ n)) :
    ∃ (q b : Nat) (x : Nat), wrap64 ((n : Int) / t) = (q : Int) ∧ (b = 0 ∨ b = 1) ∧ q % 2 = b ∧ IsN W v x ∧ Half x ∧ Half (x * x) ∧ x * x * a ^ b = a ^ q ∧ ∀ (W' : World) (v' : Value), IsN W' v' (a ^ q) → PowAt a n (t / 2) W' v' := by
  obtain ⟨j, hj, hj2, hv⟩ := h
  cases j with
  | zero => simp at hj; omega
  | succ i =>
    have e1 : 2 ^ (i + 1) / 2 = 2 ^ i := by rw [Nat.pow_succ, Nat.mul_div_cancel _ (by decide)]
    rw [e1] at hj
    have e2 : n / 2 ^ (i + 1) = n / 2 ^ i / 2 := by rw [Nat.pow_succ, Nat.div_div_eq_div_mul]
    rw [e2] at hv
    have hq : n / 2 ^ i ≤ n := Nat.div_le_self _ _
    have key : ∀ Q : Nat, Q ≤ n → wrap64 (Q : Int) = (Q : Int) := fun Q h => w64 (by omega) (by omega)
    have ht2 : t / 2 = ((2 ^ i / 2 : Nat) : Int) := by rw [hj]; omega
    have hw : (n : Int) / t = ((n / 2 ^ i : Nat) : Int) := by rw [hj, Int.natCast_ediv]
    refine ⟨n / 2 ^ i, n / 2 ^ i % 2, a ^ (n / 2 ^ i / 2), by rw [hw]; exact key _ hq, by omega, rfl, hv, pow_half ha (by omega) hf, ?_, ?_, fun W' v' hv' => ⟨i, ht2, by omega, hv'⟩⟩
    · rw [← Nat.pow_add]; exact pow_half ha (by omega) hf
    · rw [← Nat.pow_add, ← Nat.pow_add]; congr 1; omega

/-- the power behind k of the factors -/
def powV (x a k : Nat) : Nat := if k = 0 then x else if k = 1 then x * x else x * x * a
theorem powV_0 (x a : Nat) : powV x a 0 = x := rfl
theorem powV_1 (x a : Nat) : powV x a 1 = x * x := rfl
theorem powV_2 (x a : Nat) : powV x a 2 = x * x * a := rfl
def InnerAt (wi : World) (x a : Nat) (k : Nat) (W : World) (v : Value) : Prop := IsN W v (powV x a k) ∧ Below wi.heap.size wi W

set_option maxHeartbeats 2000000 in
set_option maxRecDepth 100000 in
theorem Pow_calls {va : Value} {a : Nat} (n : Nat) (w : World) (hva : IsN w va a) (ha2 : 2 ≤ a) (ha : a < 4294967296) (hn : n ≤ 500) (hf : Half (a ^ n)) :
    Calls Tryz.prog 24 #[va, .int .i64 n] w (GivesNE w (a ^ n) 0) := by
  have HF := Aside0.mk hf
  clear hf
  obtain ⟨xs, A, c, rfl, h2, h3, h4, h5⟩ := id hva
  have hs : Num (4294967296 : Int) [(a : Int)] a := one_limb (by omega) ha
  obtain rfl := hs.unique (by decide) h4
  obtain ⟨ad, e102, hcell⟩ := Kd.at_int h5 0 (by decide) (by simp)
  cases e102
  have hc0 : w.cell? ad = some (.int .u32 (a : Int)) := hcell
  have hne : ((a : Int) == 1) = false := by rw [beq_eq_false_iff_ne]; omega
  have H5 := Aside0.mk h5
  clear h3 hs hcell h4 h5
  go_enter Tryz.func24, Tryz.ntmps24
  go_wp2_with fail
  refine (Right_calls _ hva).mono ?_
  rintro e w1 ⟨rfl, ⟨m, rfl⟩⟩
  go_wp2_with fail
  refine (Of_calls 1 _ (by decide) (by decide)).mono ?_
  rintro e w1 ⟨v1, rfl, hv1, hb1⟩
  have HV := Aside0.mk hv1
  have HB := Aside0.mk (below_step (pw_below_drewN (Below.refl w.heap.size w) m) hb1)
  have hc1 : w1.cell? ad = some (.int .u32 (a : Int)) := by
    have h := Kd.C_below H5.out HB.out
    obtain ⟨ad', e1, h1⟩ := Kd.at_int h 0 (by decide) (by simp)
    cases e1
    exact h1
  clear hv1 hb1 hc0
  have hd1 : decide ((n : Int) < 0) = false := decide_eq_false (by omega)
  have hd2 : decide (32768 < (n : Int)) = false := decide_eq_false (by omega)
  go_wp2_with fail
  clear hc1
  go_loopw [6, 7] (fun v6 v7 W => ∃ (t : Int), v7 = .int .i64 t ∧ 0 ≤ t ∧ t ≤ 32768 ∧ PowAt a n t W v6 ∧ Aside0 (Below w.heap.size w W)) (fun _ v7 _ => (intOf v7).toNat)
  case atStart => exact ⟨32768, rfl, by decide, by decide, ⟨16, rfl, by decide, by rw [Nat.div_eq_of_lt (by omega : n < 2 ^ 16), Nat.pow_zero]; exact HV.out⟩, HB⟩
  case round =>
    clear HV HB
    obtain ⟨t, rfl, ht0, ht1, hpow, HB⟩ := hrel
    by_cases hz : 0 < t
    · have hd3 : decide (0 < t) = true := decide_eq_true hz
      obtain ⟨q, b, x, hw, hb01, hqb, hu6, hx1, hx2, hx3, hnext⟩ := hpow.round hz hn ha2 HF.out
      obtain ⟨os, A6, c6, rfl, o2, o3, o4, o5⟩ := id hu6
      have HU := Aside0.mk hu6
      have HX := Aside0.mk (And.intro hx1 (And.intro hx2 hx3))
      have HN := Aside0.mk hnext
      have ol := half_len o4 hx1
      clear hpow hu6 hx1 hx2 hx3 hnext o3 o4 o5
      have hqb' : (q : Int) % 2 = (b : Int) := by omega
      have hqt : Int.tmod (q : Int) 2 = (b : Int) := by rw [Int.tmod_eq_emod_of_nonneg (by omega)]; exact hqb'
      clear hqb
      obtain ⟨wo, rfl⟩ : ∃ wo : World, wo = wr := ⟨_, rfl⟩
      rcases hb01 with rfl | rfl
      · go_wp2_with fail
        clear hw hqb' hqt
        go_loopw [6, 52] (fun v6 v52 W => ∃ k : Nat, v52 = .int .i64 k ∧ k ≤ 1 ∧ Aside0 (InnerAt (wo.alloc (.cells #[.slice A6 os.length c6, .slice (some ad) 1 c] 49)) x a k W v6)) (fun _ v52 _ => 1 - (intOf v52).toNat)
        case atStart => exact ⟨0, rfl, by omega, ⟨HU.out.alloc _, Below.refl _ _⟩⟩
        case round =>
          obtain ⟨k, rfl, hk, hin'⟩ := hrel
          have hin := hin'.out
          clear hin'
          by_cases hlt : k < 1
          · obtain rfl : k = 0 := by omega
            have hcell : wr.cell? ⟨wo.heap.size, 0, none⟩ = some (.slice A6 os.length c6) := hin.2.cell (p := ⟨wo.heap.size, 0, none⟩) (by simp) |>.trans (by simp [World.cell?_alloc_at])
            obtain ⟨ps, A7, c7, rfl, p2, p3, p4, p5⟩ := id hin.1
            have pl := half_len p4 (show Half (powV x a 0) from HX.out.1)
            have HI := Aside0.mk hin
            clear hin p3 p4 p5
            go_wp2_with fail
            refine (mul_calls _ HI.out.1 (((HU.out.alloc _).below HI.out.2)) HX.out.1 HX.out.1).mono ?_
            rintro e w8 ⟨v8, rfl, hv8, hb8⟩
            have HV8 := Aside0.mk hv8
            have HB8 := Aside0.mk (below_step HI.out.2 hb8)
            clear hv8 hb8
            go_wp2_with fail
            refine (fit_calls _ HV8.out).mono ?_
            rintro e w9 ⟨v9, rfl, hv9, hb9⟩
            have HV9 := Aside0.mk hv9
            have HB9 := Aside0.mk (below_step HB8.out hb9)
            clear hv9 hb9
            go_wp2_with fail
            go_roundw
            case rel => exact ⟨1, rfl, by omega, ⟨by rw [powV_1]; exact HV9.out, HB9.out⟩⟩
            case measure => simp [intOf]
          · obtain rfl : k = 1 := by omega
            have HI := Aside0.mk hin
            clear hin
            go_wp2_with fail
            go_roundw
            case rel => exact ⟨t / 2, rfl, by omega, by omega, HN.out _ _ (by rw [← HX.out.2.2, Nat.pow_zero, Nat.mul_one]; exact HI.out.1), ⟨below_step HB.out (below_step (below_alloc (Below.refl _ _) _) HI.out.2)⟩⟩
            case measure => simp [intOf]; omega
      · go_wp2_with fail
        clear hw hqb' hqt
        go_loopw [6, 52] (fun v6 v52 W => ∃ k : Nat, v52 = .int .i64 k ∧ k ≤ 2 ∧ Aside0 (InnerAt (wo.alloc (.cells #[.slice A6 os.length c6, .slice (some ad) 1 c] 49)) x a k W v6)) (fun _ v52 _ => 2 - (intOf v52).toNat)
        case atStart => exact ⟨0, rfl, by omega, ⟨HU.out.alloc _, Below.refl _ _⟩⟩
        case round =>
          obtain ⟨k, rfl, hk, hin'⟩ := hrel
          have hin := hin'.out
          clear hin'
          by_cases hlt : k < 2
          · rcases (show k = 0 ∨ k = 1 by omega) with hk0 | hk0
            · obtain rfl : k = 0 := hk0
              have hcell : wr.cell? ⟨wo.heap.size, 0, none⟩ = some (.slice A6 os.length c6) := hin.2.cell (p := ⟨wo.heap.size, 0, none⟩) (by simp) |>.trans (by simp [World.cell?_alloc_at])
              obtain ⟨ps, A7, c7, rfl, p2, p3, p4, p5⟩ := id hin.1
              have pl := half_len p4 (show Half (powV x a 0) from HX.out.1)
              have HI := Aside0.mk hin
              clear hin p3 p4 p5
              go_wp2_with fail
              refine (mul_calls _ HI.out.1 (((HU.out.alloc _).below HI.out.2)) HX.out.1 HX.out.1).mono ?_
              rintro e w8 ⟨v8, rfl, hv8, hb8⟩
              have HV8 := Aside0.mk hv8
              have HB8 := Aside0.mk (below_step HI.out.2 hb8)
              clear hv8 hb8
              go_wp2_with fail
              refine (fit_calls _ HV8.out).mono ?_
              rintro e w9 ⟨v9, rfl, hv9, hb9⟩
              have HV9 := Aside0.mk hv9
              have HB9 := Aside0.mk (below_step HB8.out hb9)
              clear hv9 hb9
              go_wp2_with fail
              go_roundw
              case rel => exact ⟨1, rfl, by omega, ⟨by rw [powV_1]; exact HV9.out, HB9.out⟩⟩
              case measure => simp [intOf]
            · obtain rfl : k = 1 := hk0
              have hcell : wr.cell? ⟨wo.heap.size, 1, none⟩ = some (.slice (some ad) 1 c) := hin.2.cell (p := ⟨wo.heap.size, 1, none⟩) (by simp) |>.trans (by simp [World.cell?_alloc_at])
              obtain ⟨ps, A7, c7, rfl, p2, p3, p4, p5⟩ := id hin.1
              have pl := half_len p4 (show Half (powV x a 1) from HX.out.2.1)
              have HI := Aside0.mk hin
              clear hin p3 p4 p5
              go_wp2_with fail
              refine (mul_calls _ HI.out.1 ((((hva.below HB.out).alloc _).below HI.out.2)) HX.out.2.1 (half_small ha)).mono ?_
              rintro e w8 ⟨v8, rfl, hv8, hb8⟩
              have HV8 := Aside0.mk hv8
              have HB8 := Aside0.mk (below_step HI.out.2 hb8)
              clear hv8 hb8
              go_wp2_with fail
              refine (fit_calls _ HV8.out).mono ?_
              rintro e w9 ⟨v9, rfl, hv9, hb9⟩
              have HV9 := Aside0.mk hv9
              have HB9 := Aside0.mk (below_step HB8.out hb9)
              clear hv9 hb9
              go_wp2_with fail
              go_roundw
              case rel => exact ⟨2, rfl, by omega, ⟨by rw [powV_2]; exact HV9.out, HB9.out⟩⟩
              case measure => simp [intOf]
          · obtain rfl : k = 2 := by omega
            have HI := Aside0.mk hin
            clear hin
            go_wp2_with fail
            go_roundw
            case rel => exact ⟨t / 2, rfl, by omega, by omega, HN.out _ _ (by rw [← HX.out.2.2, Nat.pow_one]; exact HI.out.1), ⟨below_step HB.out (below_step (below_alloc (Below.refl _ _) _) HI.out.2)⟩⟩
            case measure => simp [intOf]; omega
    · obtain rfl : t = 0 := by omega
      obtain ⟨j, hj, _, hv⟩ := hpow
      have hj0 : j = 0 := by
        cases j with
        | zero => rfl
        | succ i =>
          rw [Nat.pow_succ, Nat.mul_div_cancel _ (by decide)] at hj
          have := Nat.two_pow_pos i
          omega
      rw [hj0, Nat.pow_zero, Nat.div_one] at hv
      have HV := Aside0.mk hv
      clear hv hj hj0
      go_wp2_with fail
      go_ret2
      exact ⟨u6, rfl, HV.out, HB.out⟩

end Go.Proofs.YteeacbgaehdodaaGreat
