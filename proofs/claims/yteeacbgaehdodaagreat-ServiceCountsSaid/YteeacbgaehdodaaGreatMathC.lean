/- Plain mathematics of numbers as lists of digits, the lowest one first. No program. Plain mathematics of binomial chances: numbers of subsets, chances, upper chances, and how they move with the share and the number of successes. No program. Plain mathematics of the bounds: the least share whose upper chance exceeds a risk. No program. Plain laws of bounds: one more trial. Plain mathematics: at the observed share, the upper chance is more than a fifth (up to 100 trials: reckoned for each); how fast an upper chance grows with the share; so both bounds enclose the observed share, and stand in their order. No program. -/

namespace Go.Proofs.YteeacbgaehdodaaGreat

/-- The value of a list of digits to the base B. -/
def iv (B : Int) : List Int → Int
  | [] => 0
  | d :: ds => d + B * iv B ds

/-- All are digits. -/
def Dig (B : Int) (xs : List Int) : Prop := ∀ d, d ∈ xs → 0 ≤ d ∧ d < B

/-- The last one is not 0. -/
def Top (xs : List Int) : Prop := ∀ d, xs.getLast? = some d → d ≠ 0

/-- The digits of a number, without zeros at the end. -/
structure Num (B : Int) (xs : List Int) (x : Nat) : Prop where
  dig : Dig B xs
  top : Top xs
  val : iv B xs = (x : Int)

theorem iv_append (B : Int) (xs ys : List Int) : iv B (xs ++ ys) = iv B xs + B ^ xs.length * iv B ys := by
  induction xs with
  | nil => simp [iv]
  | cons d ds ih => rw [List.cons_append, iv, ih, iv, List.length_cons, Int.pow_succ, Int.mul_add, ← Int.mul_assoc, Int.mul_comm B (B ^ ds.length), Int.add_assoc]

theorem iv_snoc (B : Int) (xs : List Int) (d : Int) : iv B (xs ++ [d]) = iv B xs + B ^ xs.length * d := by
  rw [iv_append]; simp [iv]

theorem iv_replicate (B : Int) (n : Nat) : iv B (List.replicate n 0) = 0 := by
  induction n with
  | zero => rfl
  | succ n ih => rw [List.replicate_succ, iv, ih]; simp

theorem pow_pos' {B : Int} (hB : 0 < B) (n : Nat) : 0 < B ^ n := Int.pow_pos hB

theorem Dig.nil (B : Int) : Dig B [] := fun _ h => by simp at h
theorem Dig.cons {B d : Int} {ds : List Int} (h : Dig B (d :: ds)) : (0 ≤ d ∧ d < B) ∧ Dig B ds := ⟨h d (by simp), fun e he => h e (by simp [he])⟩
theorem Dig.mk_cons {B d : Int} {ds : List Int} (h0 : 0 ≤ d) (h1 : d < B) (h : Dig B ds) : Dig B (d :: ds) := fun e he => by
  rcases List.mem_cons.1 he with rfl | he
  · exact ⟨h0, h1⟩
  · exact h e he
theorem Dig.append {B : Int} {xs ys : List Int} (h : Dig B xs) (h' : Dig B ys) : Dig B (xs ++ ys) := fun e he => by
  rcases List.mem_append.1 he with he | he
  · exact h e he
  · exact h' e he
theorem Dig.snoc {B d : Int} {xs : List Int} (h : Dig B xs) (h0 : 0 ≤ d) (h1 : d < B) : Dig B (xs ++ [d]) := h.append (Dig.mk_cons h0 h1 (Dig.nil B))
theorem Dig.take {B : Int} {xs : List Int} (h : Dig B xs) (n : Nat) : Dig B (xs.take n) := fun e he => h e (List.mem_of_mem_take he)
theorem Dig.drop {B : Int} {xs : List Int} (h : Dig B xs) (n : Nat) : Dig B (xs.drop n) := fun e he => h e (List.mem_of_mem_drop he)
theorem Dig.set {B d : Int} {xs : List Int} (h : Dig B xs) (n : Nat) (h0 : 0 ≤ d) (h1 : d < B) : Dig B (xs.set n d) := fun e he => by
  rcases List.mem_or_eq_of_mem_set he with he | rfl
  · exact h e he
  · exact ⟨h0, h1⟩
theorem Dig.replicate {B : Int} (hB : 0 < B) (n : Nat) : Dig B (List.replicate n 0) := fun e he => by
  obtain ⟨_, rfl⟩ := List.mem_replicate.1 he
  exact ⟨Int.le_refl _, hB⟩

/-- the digit at a place -/
def dat (xs : List Int) (i : Nat) : Int := xs.getD i 0

theorem dat_dig {B : Int} {xs : List Int} (h : Dig B xs) (hB : 0 < B) (i : Nat) : 0 ≤ dat xs i ∧ dat xs i < B := by
  unfold dat
  rw [List.getD_eq_getElem?_getD]
  rcases Nat.lt_or_ge i xs.length with hi | hi
  · rw [List.getElem?_eq_getElem hi]; exact h _ (List.getElem_mem hi)
  · rw [List.getElem?_eq_none hi]; exact ⟨Int.le_refl _, hB⟩

theorem dat_of_ge {xs : List Int} {i : Nat} (h : xs.length ≤ i) : dat xs i = 0 := by
  unfold dat; rw [List.getD_eq_getElem?_getD, List.getElem?_eq_none h]; rfl
theorem dat_eq {xs : List Int} {i : Nat} (h : i < xs.length) : dat xs i = xs[i] := by
  unfold dat; rw [List.getD_eq_getElem?_getD, List.getElem?_eq_getElem h]; rfl

theorem take_succ_dat {xs : List Int} {i : Nat} (h : i < xs.length) : xs.take (i + 1) = xs.take i ++ [dat xs i] := by
  rw [List.take_succ_eq_append_getElem h, dat_eq h]

theorem iv_take_succ (B : Int) {xs : List Int} {i : Nat} (h : i < xs.length) : iv B (xs.take (i + 1)) = iv B (xs.take i) + B ^ i * dat xs i := by
  rw [take_succ_dat h, iv_snoc, List.length_take, Nat.min_eq_left (by omega)]

theorem drop_dat {xs : List Int} {i : Nat} (h : i < xs.length) : xs.drop i = dat xs i :: xs.drop (i + 1) := by
  rw [List.drop_eq_getElem_cons h, dat_eq h]

theorem iv_drop (B : Int) {xs : List Int} {i : Nat} (h : i < xs.length) : iv B (xs.drop i) = dat xs i + B * iv B (xs.drop (i + 1)) := by
  rw [drop_dat h, iv]

theorem iv_set (B : Int) (v : Int) : ∀ (xs : List Int) (i : Nat), i < xs.length → iv B (xs.set i v) = iv B xs + B ^ i * (v - dat xs i) := by
  intro xs
  induction xs with
  | nil => intro i h; simp at h
  | cons d ds ih =>
    intro i h
    cases i with
    | zero => simp [iv, dat]; omega
    | succ i =>
      have h' : i < ds.length := by simpa using h
      rw [List.set_cons_succ, iv, ih i h', iv]
      have e : dat (d :: ds) (i + 1) = dat ds i := by unfold dat; simp
      rw [e, Int.pow_succ, Int.mul_add, ← Int.mul_assoc, Int.mul_comm B (B ^ i), Int.add_assoc]

theorem dat_set_ne {xs : List Int} {i j : Nat} (h : i ≠ j) (v : Int) : dat (xs.set i v) j = dat xs j := by
  unfold dat
  rw [List.getD_eq_getElem?_getD, List.getD_eq_getElem?_getD, List.getElem?_set_ne h]

theorem dat_set_self {xs : List Int} {i : Nat} (h : i < xs.length) (v : Int) : dat (xs.set i v) i = v := by
  unfold dat
  rw [List.getD_eq_getElem?_getD, List.getElem?_set_self h]; rfl

theorem dat_replicate (n i : Nat) : dat (List.replicate n 0) i = 0 := by
  unfold dat
  rw [List.getD_eq_getElem?_getD]
  rcases Nat.lt_or_ge i n with h | h
  · rw [List.getElem?_replicate, if_pos h]; rfl
  · rw [List.getElem?_replicate, if_neg (by omega)]; rfl

theorem dat_take {xs : List Int} {i j : Nat} (h : j < i) : dat (xs.take i) j = dat xs j := by
  unfold dat
  rw [List.getD_eq_getElem?_getD, List.getD_eq_getElem?_getD, List.getElem?_take_of_lt h]

theorem iv_nonneg {B : Int} (hB : 0 < B) {xs : List Int} (h : Dig B xs) : 0 ≤ iv B xs := by
  induction xs with
  | nil => exact Int.le_refl _
  | cons d ds ih =>
    obtain ⟨⟨h0, _⟩, h'⟩ := h.cons
    have := Int.mul_nonneg (Int.le_of_lt hB) (ih h')
    rw [iv]; omega

theorem iv_lt {B : Int} (hB : 0 < B) {xs : List Int} (h : Dig B xs) : iv B xs < B ^ xs.length := by
  induction xs with
  | nil => simp [iv]
  | cons d ds ih =>
    obtain ⟨⟨h0, h1⟩, h'⟩ := h.cons
    have h2 := Int.mul_le_mul_of_nonneg_left (Int.add_one_le_of_lt (ih h')) (Int.le_of_lt hB)
    rw [Int.mul_add, Int.mul_one, Int.mul_comm B (B ^ ds.length), ← Int.pow_succ] at h2
    have h3 : B ^ ds.length.succ = B ^ (ds.length + 1) := rfl
    rw [h3] at h2
    rw [iv, List.length_cons]; omega

theorem getLast?_dat {xs : List Int} (h : 0 < xs.length) : xs.getLast? = some (dat xs (xs.length - 1)) := by
  rw [List.getLast?_eq_getElem?, List.getElem?_eq_getElem (by omega), dat_eq (by omega)]

theorem top_iff {xs : List Int} : Top xs ↔ (0 < xs.length → dat xs (xs.length - 1) ≠ 0) := by
  constructor
  · intro h hp; exact h _ (getLast?_dat hp)
  · intro h d hd
    have hp : 0 < xs.length := by
      cases xs with
      | nil => simp at hd
      | cons a as => simp
    rw [getLast?_dat hp] at hd
    injection hd with hd
    rw [← hd]; exact h hp

theorem take_last {xs : List Int} (h : 0 < xs.length) : xs = xs.take (xs.length - 1) ++ [dat xs (xs.length - 1)] := by
  rw [← take_succ_dat (by omega), show xs.length - 1 + 1 = xs.length by omega, List.take_length]

/-- a list with a last digit that is not 0 has at least that value -/
theorem iv_ge {B : Int} (hB : 0 < B) {xs : List Int} (h : Dig B xs) (ht : Top xs) (hp : 0 < xs.length) : B ^ (xs.length - 1) ≤ iv B xs := by
  have hd := dat_dig h hB (xs.length - 1)
  have hne := top_iff.1 ht hp
  rw [take_last hp, iv_snoc, List.length_append, List.length_take, Nat.min_eq_left (by omega)]
  have h0 := iv_nonneg hB (h.take (xs.length - 1))
  have h1 := Int.mul_le_mul_of_nonneg_left (show 1 ≤ dat xs (xs.length - 1) by omega) (Int.le_of_lt (pow_pos' hB (xs.length - 1)))
  simp only [List.length_singleton, Nat.add_sub_cancel]
  omega

theorem pow_le_pow' {B : Int} (hB : 1 ≤ B) {m n : Nat} (h : m ≤ n) : B ^ m ≤ B ^ n := by
  obtain ⟨d, rfl⟩ : ∃ d, n = m + d := ⟨n - m, by omega⟩
  rw [Int.pow_add]
  have h1 : 1 ≤ B ^ d := by have := pow_pos' (show 0 < B by omega) d; omega
  have h2 := Int.mul_le_mul_of_nonneg_left h1 (Int.le_of_lt (pow_pos' (show 0 < B by omega) m))
  omega

/-- how many digits a bounded number has -/
theorem Num.len_le {B : Int} (hB : 1 < B) {xs : List Int} {x n : Nat} (h : Num B xs x) (hx : (x : Int) < B ^ n) : xs.length ≤ n := by
  rcases Nat.lt_or_ge n xs.length with hl | hl
  · have h1 := iv_ge (by omega) h.dig h.top (by omega)
    have h2 := pow_le_pow' (B := B) (by omega) (show n ≤ xs.length - 1 by omega)
    have h3 := h.val
    omega
  · exact hl

theorem Num.lt {B : Int} (hB : 1 < B) {xs : List Int} {x : Nat} (h : Num B xs x) : (x : Int) < B ^ xs.length := by
  have := iv_lt (by omega) h.dig
  have := h.val
  omega

theorem Num.zero (B : Int) : Num B [] 0 := ⟨Dig.nil B, fun d h => by simp at h, rfl⟩

theorem Num.nil_iff {B : Int} (hB : 1 < B) {xs : List Int} {x : Nat} (h : Num B xs x) : xs.length = 0 ↔ x = 0 := by
  constructor
  · intro hl
    have := h.lt hB
    rw [hl] at this
    simp at this
    omega
  · intro hx
    subst hx
    have := h.len_le (n := 0) hB (by simp)
    omega

theorem dig_unique {B : Int} (hB : 0 < B) : ∀ {xs ys : List Int}, Dig B xs → Dig B ys → xs.length = ys.length → iv B xs = iv B ys → xs = ys := by
  intro xs
  induction xs with
  | nil => intro ys _ _ hl _; cases ys with
    | nil => rfl
    | cons => simp at hl
  | cons d ds ih =>
    intro ys hx hy hl hv
    cases ys with
    | nil => simp at hl
    | cons e es =>
      obtain ⟨⟨a0, a1⟩, hx'⟩ := hx.cons
      obtain ⟨⟨b0, b1⟩, hy'⟩ := hy.cons
      rw [iv, iv] at hv
      have e1 : d = e := by
        have h1 : (d + B * iv B ds) % B = (e + B * iv B es) % B := by rw [hv]
        rw [Int.add_mul_emod_self_left, Int.add_mul_emod_self_left, Int.emod_eq_of_lt a0 a1, Int.emod_eq_of_lt b0 b1] at h1
        exact h1
      subst e1
      have e2 : iv B ds = iv B es := by
        have : B * iv B ds = B * iv B es := by omega
        exact Int.eq_of_mul_eq_mul_left (by omega) this
      rw [ih hx' hy' (by simpa using hl) e2]

theorem Num.unique {B : Int} (hB : 1 < B) {xs ys : List Int} {x : Nat} (hx : Num B xs x) (hy : Num B ys x) : xs = ys := by
  have hl : xs.length = ys.length := by
    have h1 := hx.len_le hB (hy.lt hB)
    have h2 := hy.len_le hB (hx.lt hB)
    omega
  exact dig_unique (by omega) hx.dig hy.dig hl (by rw [hx.val, hy.val])

theorem Num.eq_val {B : Int} {xs : List Int} {x y : Nat} (hx : Num B xs x) (hy : Num B xs y) : x = y := by
  have := hx.val
  have := hy.val
  omega

/-- what is left when the zeros at the end are cut -/
theorem exists_trim {B : Int} : ∀ (n : Nat) (xs : List Int), xs.length = n → Dig B xs → ∃ m, m ≤ xs.length ∧ Top (xs.take m) ∧ iv B (xs.take m) = iv B xs ∧ ∀ j, m ≤ j → j < xs.length → dat xs j = 0 := by
  intro n
  induction n with
  | zero => intro xs hl _; exact ⟨0, by omega, fun d h => by simp at h, by rw [List.length_eq_zero_iff.1 hl]; rfl, fun j h1 h2 => by omega⟩
  | succ n ih =>
    intro xs hl h
    by_cases hd : dat xs (xs.length - 1) = 0
    · obtain ⟨m, h1, h2, h3, h4⟩ := ih (xs.take n) (by rw [List.length_take]; omega) (h.take n)
      rw [List.length_take] at h1
      rw [List.take_take, Nat.min_eq_left (by omega)] at h2 h3
      refine ⟨m, by omega, h2, ?_, fun j hj1 hj2 => ?_⟩
      · rw [h3]
        have e := take_last (xs := xs) (by omega)
        rw [hd, hl, Nat.add_sub_cancel] at e
        have e' := congrArg (iv B) e
        rw [iv_snoc] at e'
        simp at e'
        exact e'.symm
      · by_cases hj : j = xs.length - 1
        · rw [hj]; exact hd
        · rw [← dat_take (i := n) (by omega)]
          exact h4 j hj1 (by rw [List.length_take]; omega)
    · exact ⟨xs.length, Nat.le_refl _, by rw [List.take_length]; exact top_iff.2 (fun _ => hd), by rw [List.take_length], fun j h1 h2 => by omega⟩

theorem iv_take_zero (B : Int) {xs : List Int} {m : Nat} (h : ∀ j, m ≤ j → dat xs j = 0) : iv B (xs.take m) = iv B xs := by
  have key : ∀ (n : Nat) (ys : List Int), ys.length = n → (∀ j, dat ys j = 0) → iv B ys = 0 := by
    intro n
    induction n with
    | zero => intro ys hl _; rw [List.length_eq_zero_iff.1 hl]; rfl
    | succ n ih =>
      intro ys hl hz
      cases ys with
      | nil => simp at hl
      | cons d ds =>
        have h0 : d = 0 := by have := hz 0; simpa [dat] using this
        have h1 := ih ds (by simpa using hl) (fun j => by have := hz (j + 1); simpa [dat] using this)
        rw [iv, h0, h1]; simp
  have h1 := iv_append B (xs.take m) (xs.drop m)
  rw [List.take_append_drop, key _ (xs.drop m) rfl (fun j => by
    have h2 := h (m + j) (by omega)
    unfold dat at h2 ⊢
    rw [List.getD_eq_getElem?_getD] at h2 ⊢
    rw [List.getElem?_drop]; exact h2)] at h1
  simp at h1
  exact h1.symm

/-- comparing from the top -/
theorem iv_cmp {B : Int} (hB : 0 < B) {xs ys : List Int} (hx : Dig B xs) (hy : Dig B ys) (hl : xs.length = ys.length) {i : Nat} (hi : i < xs.length) (hab : iv B (xs.drop (i + 1)) = iv B (ys.drop (i + 1))) (hlt : dat xs i < dat ys i) : iv B xs < iv B ys := by
  have ex := iv_append B (xs.take i) (xs.drop i)
  have ey := iv_append B (ys.take i) (ys.drop i)
  rw [List.take_append_drop] at ex ey
  rw [iv_drop B hi] at ex
  rw [iv_drop B (by omega)] at ey
  rw [ex, ey, hab, List.length_take, List.length_take, Nat.min_eq_left (by omega), Nat.min_eq_left (by omega)]
  have h1 := iv_lt hB (hx.take i)
  have h2 := iv_nonneg hB (hy.take i)
  rw [List.length_take, Nat.min_eq_left (by omega)] at h1
  have h3 := Int.mul_le_mul_of_nonneg_left (show dat xs i + B * iv B (ys.drop (i + 1)) + 1 ≤ dat ys i + B * iv B (ys.drop (i + 1)) by omega) (Int.le_of_lt (pow_pos' hB i))
  rw [Int.mul_add _ _ 1, Int.mul_one] at h3
  omega

theorem iv_cons_div {B d : Int} {ds : List Int} (h0 : 0 ≤ d) (h1 : d < B) : iv B (d :: ds) % B = d ∧ iv B (d :: ds) / B = iv B ds := by
  rw [iv]
  refine ⟨?_, ?_⟩
  · rw [Int.add_mul_emod_self_left, Int.emod_eq_of_lt h0 h1]
  · rw [Int.add_mul_ediv_left _ _ (by omega), Int.ediv_eq_zero_of_lt h0 h1, Int.zero_add]

/-- each number has digits -/
theorem exists_num {B : Nat} (hB : 1 < B) (x : Nat) : ∃ xs, Num (B : Int) xs x := by
  induction x using Nat.strongRecOn with
  | ind x ih =>
    by_cases hx : x = 0
    · subst hx; exact ⟨[], Num.zero _⟩
    · obtain ⟨ds, hd⟩ := ih (x / B) (Nat.div_lt_self (by omega) hB)
      have hm : x % B < B := Nat.mod_lt _ (by omega)
      refine ⟨((x % B : Nat) : Int) :: ds, Dig.mk_cons (by omega) (by omega) hd.dig, ?_, ?_⟩
      · intro d hl
        cases ds with
        | nil =>
          simp at hl
          have h0 := (hd.nil_iff (by omega)).1 rfl
          have := Nat.div_add_mod x B
          rw [h0] at this
          omega
        | cons e es => rw [List.getLast?_cons_cons] at hl; exact hd.top d hl
      · rw [iv, hd.val]
        have := Nat.div_add_mod x B
        have e : ((B : Int)) * ((x / B : Nat) : Int) = ((B * (x / B) : Nat) : Int) := by simp
        rw [e]; omega

end Go.Proofs.YteeacbgaehdodaaGreat

namespace Go.Proofs.YteeacbgaehdodaaGreat

/-- How many subsets of k elements n elements have. -/
def binom : Nat → Nat → Nat
  | _, 0 => 1
  | 0, _ + 1 => 0
  | n + 1, k + 1 => binom n k + binom n (k + 1)

/-- The chance of k successes of n, each with p of p + q. -/
def ch (p q n k : Nat) : Nat := binom n k * (p ^ k * q ^ (n - k))

/-- The upper chance of k successes of n. -/
def up (p q : Nat) : Nat → Nat → Nat
  | n, 0 => (p + q) ^ n
  | 0, _ + 1 => 0
  | n + 1, k + 1 => p * up p q n k + q * up p q n (k + 1)

theorem binom_zero (n : Nat) : binom n 0 = 1 := by cases n <;> rfl

theorem binom_gt : ∀ (n k : Nat), n < k → binom n k = 0 := by
  intro n
  induction n with
  | zero => intro k h; cases k with
    | zero => omega
    | succ k => rfl
  | succ n ih => intro k h; cases k with
    | zero => omega
    | succ k => rw [binom, ih k (by omega), ih (k + 1) (by omega)]

theorem binom_self (n : Nat) : binom n n = 1 := by
  induction n with
  | zero => rfl
  | succ n ih => rw [binom, ih, binom_gt n (n + 1) (by omega)]

theorem binom_step : ∀ (n k : Nat), (k + 1) * binom n (k + 1) = (n - k) * binom n k := by
  intro n
  induction n with
  | zero => intro k; simp [binom]
  | succ n ih =>
    intro k
    cases k with
    | zero =>
      have h : (0 + 1) * binom n 1 = (n - 0) * binom n 0 := ih 0
      have e : binom (n + 1) (0 + 1) = binom n 0 + binom n 1 := rfl
      rw [e]
      simp only [binom_zero] at h ⊢
      omega
    | succ k =>
      by_cases hk : k < n
      · have h1 := ih k
        have h2 := ih (k + 1)
        have e1 : n - k = (n - (k + 1)) + 1 := by omega
        have e2 : n + 1 - (k + 1) = (n - (k + 1)) + 1 := by omega
        rw [e1] at h1
        rw [binom, e2]
        rw [binom.eq_3 n k] 
        generalize n - (k + 1) = m at h1 h2 ⊢
        generalize binom n k = a at h1 h2 ⊢
        generalize binom n (k + 1) = b at h1 h2 ⊢
        generalize binom n (k + 1 + 1) = c at h1 h2 ⊢
        have h3 : (k + 1 + 1) * (b + c) = (k + 1) * b + b + (k + 1 + 1) * c := by
          rw [Nat.mul_add, Nat.add_mul (k + 1) 1 b, Nat.one_mul]
        rw [h3, h1, h2, Nat.mul_add, Nat.add_mul m 1 b, Nat.one_mul]
        omega
      · rw [binom_gt (n + 1) (k + 1 + 1) (by omega), Nat.mul_zero, show n + 1 - (k + 1) = 0 by omega, Nat.zero_mul]

theorem binom_symm : ∀ (n k : Nat), k ≤ n → binom n (n - k) = binom n k := by
  intro n
  induction n with
  | zero => intro k h; rw [show k = 0 by omega]
  | succ n ih =>
    intro k h
    cases k with
    | zero => rw [binom_zero, Nat.sub_zero, binom_self]
    | succ k =>
      rw [show n + 1 - (k + 1) = n - k by omega]
      by_cases hk : k = n
      · subst hk; rw [Nat.sub_self, binom_zero, binom_self]
      · rw [show n - k = (n - (k + 1)) + 1 by omega]
        rw [binom, binom, ih (k + 1) (by omega), show n - (k + 1) + 1 = n - k by omega, ih k (by omega)]
        omega

theorem binom_pos : ∀ (n k : Nat), k ≤ n → 0 < binom n k := by
  intro n
  induction n with
  | zero => intro k h; rw [show k = 0 by omega]; exact Nat.one_pos
  | succ n ih => intro k h; cases k with
    | zero => rw [binom_zero]; exact Nat.one_pos
    | succ k => rw [binom]; have := ih k (by omega); omega

theorem binom_le : ∀ (n k : Nat), binom n k ≤ 2 ^ n := by
  intro n
  induction n with
  | zero => intro k; cases k <;> simp [binom]
  | succ n ih => intro k; cases k with
    | zero => rw [binom_zero]; exact Nat.one_le_two_pow
    | succ k => rw [binom, Nat.pow_succ]; have := ih k; have := ih (k + 1); omega

theorem ch_gt (p q n k : Nat) (h : n < k) : ch p q n k = 0 := by rw [ch, binom_gt n k h, Nat.zero_mul]

theorem ch_zero_succ (p q n : Nat) : ch p q (n + 1) 0 = q * ch p q n 0 := by
  simp only [ch, binom_zero, Nat.pow_zero, Nat.one_mul, Nat.sub_zero, Nat.pow_succ]
  rw [Nat.mul_comm]

theorem ch_succ_succ (p q n k : Nat) : ch p q (n + 1) (k + 1) = p * ch p q n k + q * ch p q n (k + 1) := by
  by_cases hk : n < k + 1
  · rw [ch_gt p q n (k + 1) hk, Nat.mul_zero, Nat.add_zero]
    simp only [ch, binom]
    rw [binom_gt n (k + 1) hk, Nat.add_zero, show n + 1 - (k + 1) = n - k by omega, Nat.pow_succ]
    ac_rfl
  · simp only [ch, binom]
    rw [show n + 1 - (k + 1) = (n - (k + 1)) + 1 by omega, show n - k = (n - (k + 1)) + 1 by omega, Nat.add_mul]
    simp only [Nat.pow_succ]
    congr 1 <;> ac_rfl

theorem up_zero (p q n : Nat) : up p q n 0 = (p + q) ^ n := by cases n <;> rfl

theorem up_gt (p q : Nat) : ∀ (n k : Nat), n < k → up p q n k = 0 := by
  intro n
  induction n with
  | zero => intro k h; cases k with
    | zero => omega
    | succ k => rfl
  | succ n ih => intro k h; cases k with
    | zero => omega
    | succ k => rw [up, ih k (by omega), ih (k + 1) (by omega), Nat.mul_zero, Nat.mul_zero]

theorem up_eq (p q : Nat) : ∀ (n k : Nat), up p q n k = ch p q n k + up p q n (k + 1) := by
  intro n
  induction n with
  | zero => intro k; cases k <;> simp [up, ch, binom]
  | succ n ih =>
    intro k
    cases k with
    | zero =>
      rw [ch_zero_succ, up, up, up_zero, Nat.pow_succ]
      have h := ih 0
      rw [up_zero] at h
      rw [h, Nat.mul_comm _ (p + q), Nat.add_mul, Nat.mul_add, Nat.mul_add]
      omega
    | succ k =>
      rw [ch_succ_succ, up, up, ih k, Nat.mul_add]
      have h := congrArg (q * ·) (ih (k + 1))
      simp only [Nat.mul_add] at h
      omega

theorem up_anti (p q n k : Nat) : up p q n (k + 1) ≤ up p q n k := by rw [up_eq p q n k]; omega

theorem up_anti_le (p q n : Nat) {j k : Nat} (h : j ≤ k) : up p q n k ≤ up p q n j := by
  induction k with
  | zero => rw [show j = 0 by omega]; exact Nat.le_refl _
  | succ k ih =>
    by_cases hj : j ≤ k
    · exact Nat.le_trans (up_anti p q n k) (ih hj)
    · rw [show j = k + 1 by omega]; exact Nat.le_refl _

theorem up_self (p q n : Nat) : up p q n n = p ^ n := by
  induction n with
  | zero => simp [up]
  | succ n ih => rw [up, ih, up_gt p q n (n + 1) (by omega), Nat.mul_zero, Nat.add_zero, Nat.pow_succ, Nat.mul_comm]

theorem up_le_all (p q n k : Nat) : up p q n k ≤ (p + q) ^ n := by
  rw [← up_zero p q n]; exact up_anti_le p q n (Nat.zero_le k)

/-- upper chances do not fall if the share grows -/
theorem up_mono {p q p' q' : Nat} (h : p ≤ p') (hs : p + q = p' + q') : ∀ (n k : Nat), up p q n k ≤ up p' q' n k := by
  intro n
  induction n with
  | zero => intro k; cases k <;> simp [up]
  | succ n ih =>
    intro k
    cases k with
    | zero => rw [up, up, hs]; exact Nat.le_refl _
    | succ k =>
      rw [up, up]
      obtain ⟨d, rfl⟩ : ∃ d, p' = p + d := ⟨p' - p, by omega⟩
      obtain rfl : q = q' + d := by omega
      have h1 := Nat.mul_le_mul_left (p + d) (ih k)
      have h2 := Nat.mul_le_mul_left q' (ih (k + 1))
      have h3 := Nat.mul_le_mul_left d (up_anti p (q' + d) n k)
      rw [Nat.add_mul] at h1
      rw [Nat.add_mul q' d]
      omega

/-- successes and failures are exchanged -/
theorem up_turn (p q : Nat) : ∀ (n k : Nat), k ≤ n → up p q n (k + 1) + up q p n (n - k) = (p + q) ^ n := by
  intro n
  induction n with
  | zero => intro k h; simp [show k = 0 by omega, up]
  | succ n ih =>
    intro k h
    by_cases hk : k = n + 1
    · subst hk
      rw [up_gt p q (n + 1) (n + 1 + 1) (by omega), Nat.sub_self, up_zero, Nat.add_comm q p, Nat.zero_add]
    · rw [show n + 1 - k = (n - k) + 1 by omega, up, up]
      have h1 := ih k (by omega)
      have h2 : up p q n k + up q p n (n - k + 1) = (p + q) ^ n := by
        cases k with
        | zero => rw [up_zero, Nat.sub_zero, up_gt q p n (n + 1) (by omega), Nat.add_zero]
        | succ k => rw [show n - (k + 1) + 1 = n - k by omega]; exact ih k (by omega)
      rw [Nat.pow_succ, Nat.mul_comm _ (p + q), Nat.add_mul]
      have e1 := congrArg (p * ·) h2
      have e2 := congrArg (q * ·) h1
      simp only [Nat.mul_add] at e1 e2
      omega

theorem ch_turn (p q n k : Nat) (h : k ≤ n) : ch p q n k = ch q p n (n - k) := by
  rw [ch, ch, binom_symm n k h, show n - (n - k) = k by omega, Nat.mul_comm (p ^ k)]

/-- the lower chance -/
def low (p q n k : Nat) : Nat := up q p n (n - k)

theorem low_eq (p q n k : Nat) (h : k ≤ n) : up p q n (k + 1) + low p q n k = (p + q) ^ n := up_turn p q n k h

/-- the next chance out of the last -/
theorem ch_next (p q n k : Nat) (h : k < n) : ch p q n k * ((n - k) * p) = ch p q n (k + 1) * ((k + 1) * q) := by
  have hb := binom_step n k
  rw [ch, ch, show n - k = (n - (k + 1)) + 1 by omega]
  rw [show n - k = (n - (k + 1)) + 1 by omega] at hb
  simp only [Nat.pow_succ]
  generalize n - (k + 1) = m at hb ⊢
  have e1 : binom n k * (p ^ k * (q ^ m * q)) * ((m + 1) * p) = ((m + 1) * binom n k) * (p ^ k * p * (q ^ m * q)) := by
    ac_rfl
  have e2 : binom n (k + 1) * (p ^ k * p * q ^ m) * ((k + 1) * q) = ((k + 1) * binom n (k + 1)) * (p ^ k * p * (q ^ m * q)) := by
    ac_rfl
  rw [e1, e2, hb]

theorem ch_next_div (p q n k : Nat) (h : k < n) (hq : 0 < q) : ch p q n k * ((n - k) * p) / ((k + 1) * q) = ch p q n (k + 1) := by
  rw [ch_next p q n k h, Nat.mul_div_cancel _ (Nat.mul_pos (Nat.succ_pos k) hq)]

theorem ch_le (p q n k : Nat) : ch p q n k ≤ (p + q) ^ n := by
  have := up_eq p q n k
  have := up_le_all p q n k
  omega

/-- all chances from j on, below m -/
def span (p q n j : Nat) : Nat → Nat
  | 0 => 0
  | m + 1 => span p q n j m + if j ≤ m then ch p q n m else 0

theorem span_low (p q n j : Nat) : ∀ m, m ≤ j → span p q n j m = 0 := by
  intro m
  induction m with
  | zero => intro _; rfl
  | succ m ih => intro h; rw [span, ih (by omega), if_neg (by omega)]

theorem span_eq (p q n j : Nat) : ∀ m, j ≤ m → span p q n j m + up p q n m = up p q n j := by
  intro m
  induction m with
  | zero => intro h; rw [show j = 0 by omega, span]; omega
  | succ m ih =>
    intro h
    by_cases hj : j = m + 1
    · subst hj; rw [span_low p q n (m + 1) (m + 1) (Nat.le_refl _)]; omega
    · rw [span, if_pos (by omega)]
      have h1 := ih (by omega)
      have h2 := up_eq p q n m
      omega

theorem span_le (p q n j m : Nat) : span p q n j m ≤ (p + q) ^ n := by
  by_cases h : m ≤ j
  · rw [span_low p q n j m h]; exact Nat.zero_le _
  · have h1 := span_eq p q n j m (by omega)
    have h2 := up_le_all p q n j
    omega

end Go.Proofs.YteeacbgaehdodaaGreat

namespace Go.Proofs.YteeacbgaehdodaaGreat

/-- the error of trials, successes, and a number with its range -/
def wrongE (n k x lo hi : Int) : Int := if k < 0 ∨ k > n ∨ x < lo ∨ x > hi then 2 else if n > 500 then 3 else 0

theorem wrongE_ok {n k x lo hi : Int} (h : wrongE n k x lo hi = 0) : 0 ≤ k ∧ k ≤ n ∧ lo ≤ x ∧ x ≤ hi ∧ n ≤ 500 := by
  unfold wrongE at h
  split at h
  · omega
  · split at h <;> omega
theorem wrongE_zero {n k x lo hi : Int} (h : 0 ≤ k ∧ k ≤ n ∧ lo ≤ x ∧ x ≤ hi ∧ n ≤ 500) : wrongE n k x lo hi = 0 := by
  unfold wrongE
  rw [if_neg (by omega), if_neg (by omega)]

/-- the first place from i on, within d, at which f holds; else i + d -/
def firstFrom (f : Nat → Bool) : Nat → Nat → Nat
  | 0, i => i
  | d + 1, i => if f i = true then i else firstFrom f d (i + 1)

theorem firstFrom_eq (f : Nat → Bool) (m : Nat) (hm : f m = true) : ∀ (d i : Nat), i ≤ m → m ≤ i + d → (∀ j, i ≤ j → j < m → f j = false) → firstFrom f d i = m := by
  intro d
  induction d with
  | zero => intro i h1 h2 _; rw [firstFrom]; omega
  | succ d ih =>
    intro i h1 h2 h3
    rw [firstFrom]
    by_cases h : i = m
    · subst h; rw [if_pos hm]
    · rw [h3 i (Nat.le_refl _) (by omega), if_neg (by decide)]
      exact ih (i + 1) (by omega) (by omega) (fun j a b => h3 j (by omega) b)

/-- the least share at which f holds -/
def leastB (f : Nat → Bool) : Nat := firstFrom f 10000 0

theorem leastB_eq {f : Nat → Bool} {m : Nat} (hm : f m = true) (hle : m ≤ 10000) (h : ∀ j, j < m → f j = false) : leastB f = m :=
  firstFrom_eq f m hm 10000 0 (Nat.zero_le _) (by omega) (fun j _ hj => h j hj)

theorem exists_least (f : Nat → Bool) : ∀ n, f n = true → ∃ m, m ≤ n ∧ f m = true ∧ ∀ j, j < m → f j = false := by
  intro n
  induction n using Nat.strongRecOn with
  | ind n ih =>
    intro hn
    by_cases h : ∃ j, j < n ∧ f j = true
    · obtain ⟨j, hj, hf⟩ := h
      obtain ⟨m, h1, h2, h3⟩ := ih j hj hf
      exact ⟨m, by omega, h2, h3⟩
    · refine ⟨n, Nat.le_refl _, hn, fun j hj => ?_⟩
      cases hfj : f j
      · rfl
      · exact absurd ⟨j, hj, hfj⟩ h

theorem leastB_spec {f : Nat → Bool} (h : f 10000 = true) : leastB f ≤ 10000 ∧ f (leastB f) = true ∧ ∀ j, j < leastB f → f j = false := by
  obtain ⟨m, h1, h2, h3⟩ := exists_least f 10000 h
  rw [leastB_eq h2 h1 h3]
  exact ⟨h1, h2, h3⟩

/-- the upper chance of k successes of n, for a share, exceeds a risk -/
def excB (n k r s : Nat) : Bool := decide (10000 ^ n * r < up s (10000 - s) n k * 10000)

theorem exc_top (W n k r : Nat) (hk : k ≤ n) (hr : r < W) : W ^ n * r < up W (W - W) n k * W := by
  have h1 : up W (W - W) n k = W ^ n := by
    have h2 := up_anti_le W (W - W) n hk
    have h3 := up_le_all W (W - W) n k
    rw [up_self] at h2
    rw [show W + (W - W) = W by omega] at h3
    exact Nat.le_antisymm h3 h2
  rw [h1]
  exact (Nat.mul_lt_mul_left (Nat.pow_pos (by omega))).2 hr

theorem excB_top (n k r : Nat) (hk : k ≤ n) (hr : r < 10000) : excB n k r 10000 = true := decide_eq_true (exc_top 10000 n k r hk hr)

theorem excB_mono {n k r s t : Nat} (h : s ≤ t) (ht : t ≤ 10000) (hs : excB n k r s = true) : excB n k r t = true := by
  have h1 : 10000 ^ n * r < up s (10000 - s) n k * 10000 := of_decide_eq_true hs
  have h2 := up_mono (p := s) (q := 10000 - s) (p' := t) (q' := 10000 - t) h (by clear h1; omega) n k
  exact decide_eq_true (Nat.lt_of_lt_of_le h1 (Nat.mul_le_mul_right 10000 h2))

/-- the lower bound of k successes of n, for a risk -/
def leastN (n k r : Nat) : Nat := leastB (excB n k r)

theorem leastN_spec {n k r : Nat} (hk : k ≤ n) (hr : r < 10000) : leastN n k r ≤ 10000 ∧ excB n k r (leastN n k r) = true ∧ ∀ j, j < leastN n k r → excB n k r j = false := leastB_spec (excB_top n k r hk hr)

theorem leastN_eq {n k r m : Nat} (hm : excB n k r m = true) (hle : m ≤ 10000) (h : m = 0 ∨ excB n k r (m - 1) = false) : leastN n k r = m := by
  refine leastB_eq hm hle (fun j hj => ?_)
  rcases h with h | h
  · omega
  · cases he : excB n k r j
    · rfl
    · rw [excB_mono (show j ≤ m - 1 by omega) (by omega) he] at h
      cases h

theorem leastN_le {n k r s : Nat} (hs : s ≤ 10000) (he : excB n k r s = true) : leastN n k r ≤ s := by
  obtain ⟨m, h1, h2, h3⟩ := exists_least (excB n k r) s he
  rw [leastN, leastB_eq h2 (by omega) h3]
  exact h1

theorem excB_iff {n k r s : Nat} (hk : k ≤ n) (hr : r < 10000) (hs : s ≤ 10000) : excB n k r s = true ↔ leastN n k r ≤ s := by
  constructor
  · exact leastN_le hs
  · intro h
    exact excB_mono h hs (leastN_spec hk hr).2.1

theorem span_self (p q n k : Nat) : span p q n k (k + 1) = ch p q n k := by
  have h1 := span_eq p q n k (k + 1) (by omega)
  have h2 := up_eq p q n k
  omega
theorem span_up (p q n k : Nat) (hk : k ≤ n) : span p q n k (n + 1) = up p q n k := by
  have h1 := span_eq p q n k (n + 1) (by omega)
  rw [up_gt p q n (n + 1) (by omega)] at h1
  omega
theorem span_low_eq (p q n k : Nat) (hk : k ≤ n) : span p q n 0 (k + 1) = low p q n k := by
  have h1 := span_eq p q n 0 (k + 1) (by omega)
  rw [up_zero] at h1
  have h2 := low_eq p q n k hk
  omega

end Go.Proofs.YteeacbgaehdodaaGreat

namespace Go.Proofs.YteeacbgaehdodaaGreat
/-! ### one more trial -/

theorem up_more (p q n k : Nat) : (p + q) * up p q n k ≤ up p q (n + 1) k := by
  cases k with
  | zero => rw [up_zero, up_zero, Nat.pow_succ, Nat.mul_comm]; exact Nat.le_refl _
  | succ k =>
    rw [up, Nat.add_mul]
    exact Nat.add_le_add_right (Nat.mul_le_mul_left _ (up_anti p q n k)) _
theorem up_more_kept (p q n k : Nat) : up p q (n + 1) (k + 1) ≤ (p + q) * up p q n k := by
  rw [up, Nat.add_mul]
  exact Nat.add_le_add_left (Nat.mul_le_mul_left _ (up_anti p q n k)) _
theorem exc_more {n k r s : Nat} (hs : s ≤ 10000) (h : excB n k r s = true) : excB (n + 1) k r s = true := by
  have h1 : 10000 ^ n * r < up s (10000 - s) n k * 10000 := of_decide_eq_true h
  have h2 := up_more s (10000 - s) n k
  rw [show s + (10000 - s) = 10000 by omega] at h2
  refine decide_eq_true ?_
  rw [Nat.pow_succ, Nat.mul_comm (10000 ^ n) 10000, Nat.mul_assoc]
  refine Nat.lt_of_lt_of_le ((Nat.mul_lt_mul_left (by decide : 0 < 10000)).2 h1) ?_
  rw [← Nat.mul_assoc]
  exact Nat.mul_le_mul_right 10000 h2
theorem exc_more_kept {n k r s : Nat} (hs : s ≤ 10000) (h : excB (n + 1) (k + 1) r s = true) : excB n k r s = true := by
  have h1 : 10000 ^ (n + 1) * r < up s (10000 - s) (n + 1) (k + 1) * 10000 := of_decide_eq_true h
  have h2 := up_more_kept s (10000 - s) n k
  rw [show s + (10000 - s) = 10000 by omega] at h2
  refine decide_eq_true ?_
  rw [Nat.pow_succ, Nat.mul_comm (10000 ^ n) 10000, Nat.mul_assoc] at h1
  refine (Nat.mul_lt_mul_left (by decide : 0 < 10000)).1 (Nat.lt_of_lt_of_le h1 ?_)
  rw [← Nat.mul_assoc]
  exact Nat.mul_le_mul_right 10000 h2
theorem least_more {n k r : Nat} (hk : k ≤ n) (hr : r < 10000) : leastN (n + 1) k r ≤ leastN n k r := by
  obtain ⟨h1, h2, _⟩ := leastN_spec (n := n) hk hr
  exact leastN_le h1 (exc_more h1 h2)
theorem least_more_kept {n k r : Nat} (hk : k ≤ n) (hr : r < 10000) : leastN n k r ≤ leastN (n + 1) (k + 1) r := by
  obtain ⟨h1, h2, _⟩ := leastN_spec (n := n + 1) (k := k + 1) (by omega) hr
  exact leastN_le h1 (exc_more_kept h1 h2)

end Go.Proofs.YteeacbgaehdodaaGreat

namespace Go.Proofs.YteeacbgaehdodaaGreat

theorem up_scale (c p q : Nat) : ∀ n k, up (c * p) (c * q) n k = c ^ n * up p q n k := by
  intro n
  induction n with
  | zero => intro k; cases k <;> simp [up]
  | succ n ih =>
    intro k
    cases k with
    | zero => rw [up_zero, up_zero, ← Nat.mul_add, Nat.mul_pow]
    | succ k =>
      rw [up, up, ih, ih, Nat.pow_succ, Nat.mul_add]
      congr 1 <;> ac_rfl

/-- The sum of the upper chances, from above. -/
def tailD (n p q : Nat) : Nat → Nat → Nat → Nat → Nat
  | 0, _, _, acc => acc
  | f + 1, j, t, acc => tailD n p q f (j - 1) (t * (j * q) / ((n - j + 1) * p)) (acc + t * (j * q) / ((n - j + 1) * p))

theorem tailD_eq (n p q : Nat) (hp : 0 < p) : ∀ f j, f ≤ j → j ≤ n → tailD n p q f j (ch p q n j) (up p q n j) = up p q n (j - f) := by
  intro f
  induction f with
  | zero => intro j _ _; rfl
  | succ f ih =>
    intro j hf hj
    obtain ⟨i, rfl⟩ : ∃ i, j = i + 1 := ⟨j - 1, by omega⟩
    have h := ch_next p q n i (by omega)
    have h2 : ch p q n (i + 1) * ((i + 1) * q) / ((n - (i + 1) + 1) * p) = ch p q n i := by
      rw [← h, show n - (i + 1) + 1 = n - i by omega, Nat.mul_div_cancel _ (Nat.mul_pos (by omega) hp)]
    rw [tailD, h2, Nat.add_sub_cancel, Nat.add_comm (up p q n (i + 1)), ← up_eq p q n i, ih i (by omega) (by omega)]
    congr 1
    omega

def fifthB (n : Nat) : Bool := (List.range n).all fun j => decide (n ^ n < 5 * tailD n (j + 1) (n - (j + 1)) (n - (j + 1)) n ((j + 1) ^ n) ((j + 1) ^ n))

theorem fifth_of {n k : Nat} (h : fifthB n = true) (hn : 0 < n) (hk : k ≤ n) : n ^ n < 5 * up k (n - k) n k := by
  have hpos : 0 < n ^ n := Nat.pow_pos hn
  by_cases h0 : k = 0
  · subst h0
    rw [up_zero, Nat.sub_zero, Nat.zero_add]
    omega
  · have h1 := of_decide_eq_true (List.all_eq_true.1 h (k - 1) (List.mem_range.2 (by omega)))
    rw [show k - 1 + 1 = k by omega] at h1
    have h2 := tailD_eq n k (n - k) (by omega) (n - k) n (by omega) (Nat.le_refl _)
    have h3 : ch k (n - k) n n = k ^ n := by rw [ch, Nat.sub_self, Nat.pow_zero, Nat.mul_one, binom_self, Nat.one_mul]
    rw [up_self, h3, show n - (n - k) = k by omega] at h2
    rw [h2] at h1
    exact h1

set_option maxRecDepth 100000 in
theorem fifth_a : ((List.range 30).all fun i => fifthB (i + 1)) = true := by decide +kernel
set_option maxRecDepth 100000 in
theorem fifth_b : ((List.range 30).all fun i => fifthB (i + 31)) = true := by decide +kernel
set_option maxRecDepth 100000 in
theorem fifth_c : ((List.range 20).all fun i => fifthB (i + 61)) = true := by decide +kernel
set_option maxRecDepth 100000 in
theorem fifth_d : ((List.range 20).all fun i => fifthB (i + 81)) = true := by decide +kernel

theorem fifth {n k : Nat} (hn : 0 < n) (hn2 : n ≤ 100) (hk : k ≤ n) : n ^ n < 5 * up k (n - k) n k := by
  refine fifth_of ?_ hn hk
  by_cases h1 : n ≤ 30
  · have h := List.all_eq_true.1 fifth_a (n - 1) (List.mem_range.2 (by omega))
    rwa [show n - 1 + 1 = n by omega] at h
  · by_cases h2 : n ≤ 60
    · have h := List.all_eq_true.1 fifth_b (n - 31) (List.mem_range.2 (by omega))
      rwa [show n - 31 + 31 = n by omega] at h
    · by_cases h3 : n ≤ 80
      · have h := List.all_eq_true.1 fifth_c (n - 61) (List.mem_range.2 (by omega))
        rwa [show n - 61 + 61 = n by omega] at h
      · have h := List.all_eq_true.1 fifth_d (n - 81) (List.mem_range.2 (by omega))
        rwa [show n - 81 + 81 = n by omega] at h

/-- At the observed share, or above it, the upper chance is more than a fifth. -/
theorem fifth_share {W n k s : Nat} (hW : 0 < W) (hn : 0 < n) (hn2 : n ≤ 100) (hk : k ≤ n) (hs : s ≤ W) (h : W * k ≤ n * s) : W ^ n < 5 * up s (W - s) n k := by
  have h1 := fifth hn hn2 hk
  have h2 : up (W * k) (W * (n - k)) n k ≤ up (n * s) (n * (W - s)) n k := by
    refine up_mono h ?_ n k
    rw [← Nat.mul_add, ← Nat.mul_add, show k + (n - k) = n by omega, show s + (W - s) = W by omega, Nat.mul_comm]
  rw [up_scale, up_scale] at h2
  have h0 : 0 < W ^ n := Nat.pow_pos hW
  have h3 : n ^ n * W ^ n < n ^ n * (5 * up s (W - s) n k) := by
    calc n ^ n * W ^ n < 5 * up k (n - k) n k * W ^ n := Nat.mul_lt_mul_of_pos_right h1 h0
      _ = 5 * (W ^ n * up k (n - k) n k) := by ac_rfl
      _ ≤ 5 * (n ^ n * up s (W - s) n k) := Nat.mul_le_mul_left 5 h2
      _ = n ^ n * (5 * up s (W - s) n k) := by ac_rfl
  exact Nat.lt_of_mul_lt_mul_left h3

/-- How fast an upper chance grows with the share. -/
theorem up_step (p q : Nat) : ∀ n k, (p + q + 1) * up (p + 1) q n k ≤ (p + q + 1) * up p (q + 1) n k + n * (p + q + 1) ^ n := by
  intro n
  induction n with
  | zero => intro k; cases k <;> simp [up]
  | succ n ih =>
    intro k
    cases k with
    | zero => rw [up_zero, up_zero, show p + 1 + q = p + (q + 1) by omega]; exact Nat.le_add_right _ _
    | succ k =>
      have hA := ih k
      have hB := ih (k + 1)
      have hC := up_le_all p (q + 1) n k
      rw [up, up]
      rw [show p + (q + 1) = p + q + 1 by omega] at hC
      generalize up (p + 1) q n k = A' at *
      generalize up (p + 1) q n (k + 1) = B' at *
      generalize up p (q + 1) n k = A at *
      generalize up p (q + 1) n (k + 1) = B at *
      rw [Nat.pow_succ]
      generalize (p + q + 1) ^ n = U at *
      have h1 := Nat.mul_le_mul_left (p + 1) hA
      have h2 := Nat.mul_le_mul_left q hB
      have h3 := Nat.mul_le_mul_left (p + q + 1) hC
      generalize hW : p + q + 1 = W at *
      have e1 : W * ((p + 1) * A' + q * B') = (p + 1) * (W * A') + q * (W * B') := by rw [Nat.mul_add]; congr 1 <;> ac_rfl
      have e2 : (p + 1) * (W * A + n * U) + q * (W * B + n * U) = W * (p * A + (q + 1) * B) + (W * A - W * B) + W * (n * U) ∨ W * A < W * B := by
        by_cases hlt : W * A < W * B
        · exact .inr hlt
        · left
          obtain ⟨d, hd⟩ : ∃ d, W * A = W * B + d := ⟨W * A - W * B, by omega⟩
          have e3 : W * (p * A + (q + 1) * B) = p * (W * A) + (q + 1) * (W * B) := by rw [Nat.mul_add]; congr 1 <;> ac_rfl
          rw [e3, hd, ← hW]
          generalize W * B = b
          generalize n * U = c
          simp only [Nat.mul_add, Nat.add_mul, Nat.one_mul]
          omega
      have e4 : (n + 1) * (U * W) = W * (n * U) + W * U := by rw [Nat.add_mul, Nat.one_mul]; congr 1 <;> ac_rfl
      rw [e1, e4]
      rcases e2 with e2 | e2
      · omega
      · have e5 : (p + 1) * (W * A + n * U) + q * (W * B + n * U) ≤ W * (p * A + (q + 1) * B) + W * (n * U) := by
          have e3 : W * (p * A + (q + 1) * B) = p * (W * A) + (q + 1) * (W * B) := by rw [Nat.mul_add]; congr 1 <;> ac_rfl
          rw [e3, ← hW]
          rw [← hW] at e2
          generalize (p + q + 1) * B = b at *
          generalize (p + q + 1) * A = a at *
          generalize n * U = c
          simp only [Nat.mul_add, Nat.add_mul, Nat.one_mul]
          omega
        omega

/-- What does not exceed the risk. -/
theorem exc_not {n k r s : Nat} (h : excB n k r s = false) : up s (10000 - s) n k * 10000 ≤ 10000 ^ n * r := by
  have h := of_decide_eq_false h
  omega

/-- Both bounds stand in their order. -/
theorem bounds_order {n k a : Nat} (hk : k ≤ n) (hn : n ≤ 500) (ha : a ≤ 2000) : leastN n k a + leastN n (n - k) a ≤ 10000 := by
  obtain ⟨h1, _, h3⟩ := leastN_spec (n := n) (k := k) (r := a) hk (by omega)
  obtain ⟨g1, _, g3⟩ := leastN_spec (n := n) (k := n - k) (r := a) (by omega) (by omega)
  apply Nat.le_of_not_lt
  intro hlt
  obtain ⟨l, hl⟩ : ∃ l, leastN n k a = l + 1 := ⟨leastN n k a - 1, by omega⟩
  rw [hl] at h1 h3 hlt
  have x1 := exc_not (h3 l (by omega))
  have x2 := exc_not (g3 (10000 - (l + 1)) (by omega))
  have x3 := low_eq (l + 1) (10000 - (l + 1)) n k hk
  have x4 := up_anti (l + 1) (10000 - (l + 1)) n k
  have x5 := up_step l (10000 - (l + 1)) n k
  rw [low] at x3
  rw [show 10000 - (10000 - (l + 1)) = l + 1 by omega] at x2
  rw [show l + 1 + (10000 - (l + 1)) = 10000 by omega] at x3
  rw [show l + (10000 - (l + 1)) + 1 = 10000 by omega, show 10000 - (l + 1) + 1 = 10000 - l by omega] at x5
  have hpos : 0 < 10000 ^ n := Nat.pow_pos (by decide)
  generalize up l (10000 - l) n k = A at *
  generalize up (l + 1) (10000 - (l + 1)) n k = B at *
  generalize up (l + 1) (10000 - (l + 1)) n (k + 1) = C at *
  generalize up (10000 - (l + 1)) (l + 1) n (n - k) = D at *
  generalize 10000 ^ n = U at *
  have y1 : U * a ≤ U * 2000 := Nat.mul_le_mul_left U ha
  have y2 : n * U ≤ 500 * U := Nat.mul_le_mul_right U hn
  omega

/-- The lower bound is not above the observed share, up to rounding. -/
theorem bound_share {n k a : Nat} (hk : k ≤ n) (hn : 0 < n) (hn2 : n ≤ 100) (ha : a ≤ 2000) : leastN n k a * n < 10000 * k + n := by
  obtain ⟨h1, _, h3⟩ := leastN_spec (n := n) (k := k) (r := a) hk (by omega)
  apply Nat.lt_of_not_le
  intro hle
  rcases Nat.eq_zero_or_pos (leastN n k a) with h0 | h0
  · rw [h0] at hle; omega
  obtain ⟨l, hl⟩ : ∃ l, leastN n k a = l + 1 := ⟨leastN n k a - 1, by omega⟩
  rw [hl] at h1 h3 hle
  have hs : 10000 * k ≤ n * l := by
    rw [Nat.add_mul, Nat.one_mul] at hle
    rw [Nat.mul_comm n l]
    omega
  have x1 := exc_not (h3 l (by omega))
  have x2 := fifth_share (W := 10000) (s := l) (by decide) hn hn2 hk (by omega) hs
  have y1 : 10000 ^ n * a ≤ 10000 ^ n * 2000 := Nat.mul_le_mul_left _ ha
  generalize 10000 ^ n = U at *
  omega

end Go.Proofs.YteeacbgaehdodaaGreat
