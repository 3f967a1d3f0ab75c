/- Plain mathematics of numbers as lists of digits, the lowest one first. No program. -/
namespace Go.Proofs.Ytenmlkcjgefmpaa

/-- The value of a list of digits to the base B. -/
def iv (B : Int) : List Int → Int
  | [] => 0
  | d :: ds => d + B * iv B ds

/-- All are digits. -/
def Dig (B : Int) (xs : List Int) : Prop := ∀ d, d ∈ xs → 0 ≤ d ∧ d < B

/-- The last one is not 0. -/
def Top (xs : List Int) : Prop := ∀ d, xs.getLast? = some d → d ≠ 0

/-- The digits of a number, without zeros at the end. -/
structure Num (B : Int) (xs : List Int) (x : Nat) : Prop where
  dig : Dig B xs
  top : Top xs
  val : iv B xs = (x : Int)

theorem iv_append (B : Int) (xs ys : List Int) : iv B (xs ++ ys) = iv B xs + B ^ xs.length * iv B ys := by
  induction xs with
  | nil => simp [iv]
  | cons d ds ih => rw [List.cons_append, iv, ih, iv, List.length_cons, Int.pow_succ, Int.mul_add, ← Int.mul_assoc, Int.mul_comm B (B ^ ds.length), Int.add_assoc]

theorem iv_snoc (B : Int) (xs : List Int) (d : Int) : iv B (xs ++ [d]) = iv B xs + B ^ xs.length * d := by
  rw [iv_append]; simp [iv]

theorem iv_replicate (B : Int) (n : Nat) : iv B (List.replicate n 0) = 0 := by
  induction n with
  | zero => rfl
  | succ n ih => rw [List.replicate_succ, iv, ih]; simp

theorem pow_pos' {B : Int} (hB : 0 < B) (n : Nat) : 0 < B ^ n := Int.pow_pos hB

theorem Dig.nil (B : Int) : Dig B [] := fun _ h => by simp at h
theorem Dig.cons {B d : Int} {ds : List Int} (h : Dig B (d :: ds)) : (0 ≤ d ∧ d < B) ∧ Dig B ds := ⟨h d (by simp), fun e he => h e (by simp [he])⟩
theorem Dig.mk_cons {B d : Int} {ds : List Int} (h0 : 0 ≤ d) (h1 : d < B) (h : Dig B ds) : Dig B (d :: ds) := fun e he => by
  rcases List.mem_cons.1 he with rfl | he
  · exact ⟨h0, h1⟩
  · exact h e he
theorem Dig.append {B : Int} {xs ys : List Int} (h : Dig B xs) (h' : Dig B ys) : Dig B (xs ++ ys) := fun e he => by
  rcases List.mem_append.1 he with he | he
  · exact h e he
  · exact h' e he
theorem Dig.snoc {B d : Int} {xs : List Int} (h : Dig B xs) (h0 : 0 ≤ d) (h1 : d < B) : Dig B (xs ++ [d]) := h.append (Dig.mk_cons h0 h1 (Dig.nil B))
theorem Dig.take {B : Int} {xs : List Int} (h : Dig B xs) (n : Nat) : Dig B (xs.take n) := fun e he => h e (List.mem_of_mem_take he)
theorem Dig.drop {B : Int} {xs : List Int} (h : Dig B xs) (n : Nat) : Dig B (xs.drop n) := fun e he => h e (List.mem_of_mem_drop he)
theorem Dig.set {B d : Int} {xs : List Int} (h : Dig B xs) (n : Nat) (h0 : 0 ≤ d) (h1 : d < B) : Dig B (xs.set n d) := fun e he => by
  rcases List.mem_or_eq_of_mem_set he with he | rfl
  · exact h e he
  · exact ⟨h0, h1⟩
theorem Dig.replicate {B : Int} (hB : 0 < B) (n : Nat) : Dig B (List.replicate n 0) := fun e he => by
  obtain ⟨_, rfl⟩ := List.mem_replicate.1 he
  exact ⟨Int.le_refl _, hB⟩

/-- the digit at a place -/
def dat (xs : List Int) (i : Nat) : Int := xs.getD i 0

theorem dat_dig {B : Int} {xs : List Int} (h : Dig B xs) (hB : 0 < B) (i : Nat) : 0 ≤ dat xs i ∧ dat xs i < B := by
  unfold dat
  rw [List.getD_eq_getElem?_getD]
  rcases Nat.lt_or_ge i xs.length with hi | hi
  · rw [List.getElem?_eq_getElem hi]; exact h _ (List.getElem_mem hi)
  · rw [List.getElem?_eq_none hi]; exact ⟨Int.le_refl _, hB⟩

theorem dat_of_ge {xs : List Int} {i : Nat} (h : xs.length ≤ i) : dat xs i = 0 := by
  unfold dat; rw [List.getD_eq_getElem?_getD, List.getElem?_eq_none h]; rfl
theorem dat_eq {xs : List Int} {i : Nat} (h : i < xs.length) : dat xs i = xs[i] := by
  unfold dat; rw [List.getD_eq_getElem?_getD, List.getElem?_eq_getElem h]; rfl

theorem take_succ_dat {xs : List Int} {i : Nat} (h : i < xs.length) : xs.take (i + 1) = xs.take i ++ [dat xs i] := by
  rw [List.take_succ_eq_append_getElem h, dat_eq h]

theorem iv_take_succ (B : Int) {xs : List Int} {i : Nat} (h : i < xs.length) : iv B (xs.take (i + 1)) = iv B (xs.take i) + B ^ i * dat xs i := by
  rw [take_succ_dat h, iv_snoc, List.length_take, Nat.min_eq_left (by omega)]

theorem drop_dat {xs : List Int} {i : Nat} (h : i < xs.length) : xs.drop i = dat xs i :: xs.drop (i + 1) := by
  rw [List.drop_eq_getElem_cons h, dat_eq h]

theorem iv_drop (B : Int) {xs : List Int} {i : Nat} (h : i < xs.length) : iv B (xs.drop i) = dat xs i + B * iv B (xs.drop (i + 1)) := by
  rw [drop_dat h, iv]

theorem iv_set (B : Int) (v : Int) : ∀ (xs : List Int) (i : Nat), i < xs.length → iv B (xs.set i v) = iv B xs + B ^ i * (v - dat xs i) := by
  intro xs
  induction xs with
  | nil => intro i h; simp at h
  | cons d ds ih =>
    intro i h
    cases i with
    | zero => simp [iv, dat]; omega
    | succ i =>
      have h' : i < ds.length := by simpa using h
      rw [List.set_cons_succ, iv, ih i h', iv]
      have e : dat (d :: ds) (i + 1) = dat ds i := by unfold dat; simp
      rw [e, Int.pow_succ, Int.mul_add, ← Int.mul_assoc, Int.mul_comm B (B ^ i), Int.add_assoc]

theorem dat_set_ne {xs : List Int} {i j : Nat} (h : i ≠ j) (v : Int) : dat (xs.set i v) j = dat xs j := by
  unfold dat
  rw [List.getD_eq_getElem?_getD, List.getD_eq_getElem?_getD, List.getElem?_set_ne h]

theorem dat_set_self {xs : List Int} {i : Nat} (h : i < xs.length) (v : Int) : dat (xs.set i v) i = v := by
  unfold dat
  rw [List.getD_eq_getElem?_getD, List.getElem?_set_self h]; rfl

theorem dat_replicate (n i : Nat) : dat (List.replicate n 0) i = 0 := by
  unfold dat
  rw [List.getD_eq_getElem?_getD]
  rcases Nat.lt_or_ge i n with h | h
  · rw [List.getElem?_replicate, if_pos h]; rfl
  · rw [List.getElem?_replicate, if_neg (by omega)]; rfl

theorem dat_take {xs : List Int} {i j : Nat} (h : j < i) : dat (xs.take i) j = dat xs j := by
  unfold dat
  rw [List.getD_eq_getElem?_getD, List.getD_eq_getElem?_getD, List.getElem?_take_of_lt h]

theorem iv_nonneg {B : Int} (hB : 0 < B) {xs : List Int} (h : Dig B xs) : 0 ≤ iv B xs := by
  induction xs with
  | nil => exact Int.le_refl _
  | cons d ds ih =>
    obtain ⟨⟨h0, _⟩, h'⟩ := h.cons
    have := Int.mul_nonneg (Int.le_of_lt hB) (ih h')
    rw [iv]; omega

theorem iv_lt {B : Int} (hB : 0 < B) {xs : List Int} (h : Dig B xs) : iv B xs < B ^ xs.length := by
  induction xs with
  | nil => simp [iv]
  | cons d ds ih =>
    obtain ⟨⟨h0, h1⟩, h'⟩ := h.cons
    have h2 := Int.mul_le_mul_of_nonneg_left (Int.add_one_le_of_lt (ih h')) (Int.le_of_lt hB)
    rw [Int.mul_add, Int.mul_one, Int.mul_comm B (B ^ ds.length), ← Int.pow_succ] at h2
    have h3 : B ^ ds.length.succ = B ^ (ds.length + 1) := rfl
    rw [h3] at h2
    rw [iv, List.length_cons]; omega

theorem getLast?_dat {xs : List Int} (h : 0 < xs.length) : xs.getLast? = some (dat xs (xs.length - 1)) := by
  rw [List.getLast?_eq_getElem?, List.getElem?_eq_getElem (by omega), dat_eq (by omega)]

theorem top_iff {xs : List Int} : Top xs ↔ (0 < xs.length → dat xs (xs.length - 1) ≠ 0) := by
  constructor
  · intro h hp; exact h _ (getLast?_dat hp)
  · intro h d hd
    have hp : 0 < xs.length := by
      cases xs with
      | nil => simp at hd
      | cons a as => simp
    rw [getLast?_dat hp] at hd
    injection hd with hd
    rw [← hd]; exact h hp

theorem take_last {xs : List Int} (h : 0 < xs.length) : xs = xs.take (xs.length - 1) ++ [dat xs (xs.length - 1)] := by
  rw [← take_succ_dat (by omega), show xs.length - 1 + 1 = xs.length by omega, List.take_length]

/-- a list with a last digit that is not 0 has at least that value -/
theorem iv_ge {B : Int} (hB : 0 < B) {xs : List Int} (h : Dig B xs) (ht : Top xs) (hp : 0 < xs.length) : B ^ (xs.length - 1) ≤ iv B xs := by
  have hd := dat_dig h hB (xs.length - 1)
  have hne := top_iff.1 ht hp
  rw [take_last hp, iv_snoc, List.length_append, List.length_take, Nat.min_eq_left (by omega)]
  have h0 := iv_nonneg hB (h.take (xs.length - 1))
  have h1 := Int.mul_le_mul_of_nonneg_left (show 1 ≤ dat xs (xs.length - 1) by omega) (Int.le_of_lt (pow_pos' hB (xs.length - 1)))
  simp only [List.length_singleton, Nat.add_sub_cancel]
  omega

theorem pow_le_pow' {B : Int} (hB : 1 ≤ B) {m n : Nat} (h : m ≤ n) : B ^ m ≤ B ^ n := by
  obtain ⟨d, rfl⟩ : ∃ d, n = m + d := ⟨n - m, by omega⟩
  rw [Int.pow_add]
  have h1 : 1 ≤ B ^ d := by have := pow_pos' (show 0 < B by omega) d; omega
  have h2 := Int.mul_le_mul_of_nonneg_left h1 (Int.le_of_lt (pow_pos' (show 0 < B by omega) m))
  omega

/-- how many digits a bounded number has -/
theorem Num.len_le {B : Int} (hB : 1 < B) {xs : List Int} {x n : Nat} (h : Num B xs x) (hx : (x : Int) < B ^ n) : xs.length ≤ n := by
  rcases Nat.lt_or_ge n xs.length with hl | hl
  · have h1 := iv_ge (by omega) h.dig h.top (by omega)
    have h2 := pow_le_pow' (B := B) (by omega) (show n ≤ xs.length - 1 by omega)
    have h3 := h.val
    omega
  · exact hl

theorem Num.lt {B : Int} (hB : 1 < B) {xs : List Int} {x : Nat} (h : Num B xs x) : (x : Int) < B ^ xs.length := by
  have := iv_lt (by omega) h.dig
  have := h.val
  omega

theorem Num.zero (B : Int) : Num B [] 0 := ⟨Dig.nil B, fun d h => by simp at h, rfl⟩

theorem Num.nil_iff {B : Int} (hB : 1 < B) {xs : List Int} {x : Nat} (h : Num B xs x) : xs.length = 0 ↔ x = 0 := by
  constructor
  · intro hl
    have := h.lt hB
    rw [hl] at this
    simp at this
    omega
  · intro hx
    subst hx
    have := h.len_le (n := 0) hB (by simp)
    omega

theorem dig_unique {B : Int} (hB : 0 < B) : ∀ {xs ys : List Int}, Dig B xs → Dig B ys → xs.length = ys.length → iv B xs = iv B ys → xs = ys := by
  intro xs
  induction xs with
  | nil => intro ys _ _ hl _; cases ys with
    | nil => rfl
    | cons => simp at hl
  | cons d ds ih =>
    intro ys hx hy hl hv
    cases ys with
    | nil => simp at hl
    | cons e es =>
      obtain ⟨⟨a0, a1⟩, hx'⟩ := hx.cons
      obtain ⟨⟨b0, b1⟩, hy'⟩ := hy.cons
      rw [iv, iv] at hv
      have e1 : d = e := by
        have h1 : (d + B * iv B ds) % B = (e + B * iv B es) % B := by rw [hv]
        rw [Int.add_mul_emod_self_left, Int.add_mul_emod_self_left, Int.emod_eq_of_lt a0 a1, Int.emod_eq_of_lt b0 b1] at h1
        exact h1
      subst e1
      have e2 : iv B ds = iv B es := by
        have : B * iv B ds = B * iv B es := by omega
        exact Int.eq_of_mul_eq_mul_left (by omega) this
      rw [ih hx' hy' (by simpa using hl) e2]

theorem Num.unique {B : Int} (hB : 1 < B) {xs ys : List Int} {x : Nat} (hx : Num B xs x) (hy : Num B ys x) : xs = ys := by
  have hl : xs.length = ys.length := by
    have h1 := hx.len_le hB (hy.lt hB)
    have h2 := hy.len_le hB (hx.lt hB)
    omega
  exact dig_unique (by omega) hx.dig hy.dig hl (by rw [hx.val, hy.val])

theorem Num.eq_val {B : Int} {xs : List Int} {x y : Nat} (hx : Num B xs x) (hy : Num B xs y) : x = y := by
  have := hx.val
  have := hy.val
  omega

/-- what is left when the zeros at the end are cut -/
theorem exists_trim {B : Int} : ∀ (n : Nat) (xs : List Int), xs.length = n → Dig B xs → ∃ m, m ≤ xs.length ∧ Top (xs.take m) ∧ iv B (xs.take m) = iv B xs ∧ ∀ j, m ≤ j → j < xs.length → dat xs j = 0 := by
  intro n
  induction n with
  | zero => intro xs hl _; exact ⟨0, by omega, fun d h => by simp at h, by rw [List.length_eq_zero_iff.1 hl]; rfl, fun j h1 h2 => by omega⟩
  | succ n ih =>
    intro xs hl h
    by_cases hd : dat xs (xs.length - 1) = 0
    · obtain ⟨m, h1, h2, h3, h4⟩ := ih (xs.take n) (by rw [List.length_take]; omega) (h.take n)
      rw [List.length_take] at h1
      rw [List.take_take, Nat.min_eq_left (by omega)] at h2 h3
      refine ⟨m, by omega, h2, ?_, fun j hj1 hj2 => ?_⟩
      · rw [h3]
        have e := take_last (xs := xs) (by omega)
        rw [hd, hl, Nat.add_sub_cancel] at e
        have e' := congrArg (iv B) e
        rw [iv_snoc] at e'
        simp at e'
        exact e'.symm
      · by_cases hj : j = xs.length - 1
        · rw [hj]; exact hd
        · rw [← dat_take (i := n) (by omega)]
          exact h4 j hj1 (by rw [List.length_take]; omega)
    · exact ⟨xs.length, Nat.le_refl _, by rw [List.take_length]; exact top_iff.2 (fun _ => hd), by rw [List.take_length], fun j h1 h2 => by omega⟩

theorem iv_take_zero (B : Int) {xs : List Int} {m : Nat} (h : ∀ j, m ≤ j → dat xs j = 0) : iv B (xs.take m) = iv B xs := by
  have key : ∀ (n : Nat) (ys : List Int), ys.length = n → (∀ j, dat ys j = 0) → iv B ys = 0 := by
    intro n
    induction n with
    | zero => intro ys hl _; rw [List.length_eq_zero_iff.1 hl]; rfl
    | succ n ih =>
      intro ys hl hz
      cases ys with
      | nil => simp at hl
      | cons d ds =>
        have h0 : d = 0 := by have := hz 0; simpa [dat] using this
        have h1 := ih ds (by simpa using hl) (fun j => by have := hz (j + 1); simpa [dat] using this)
        rw [iv, h0, h1]; simp
  have h1 := iv_append B (xs.take m) (xs.drop m)
  rw [List.take_append_drop, key _ (xs.drop m) rfl (fun j => by
    have h2 := h (m + j) (by omega)
    unfold dat at h2 ⊢
    rw [List.getD_eq_getElem?_getD] at h2 ⊢
    rw [List.getElem?_drop]; exact h2)] at h1
  simp at h1
  exact h1.symm

/-- comparing from the top -/
theorem iv_cmp {B : Int} (hB : 0 < B) {xs ys : List Int} (hx : Dig B xs) (hy : Dig B ys) (hl : xs.length = ys.length) {i : Nat} (hi : i < xs.length) (hab : iv B (xs.drop (i + 1)) = iv B (ys.drop (i + 1))) (hlt : dat xs i < dat ys i) : iv B xs < iv B ys := by
  have ex := iv_append B (xs.take i) (xs.drop i)
  have ey := iv_append B (ys.take i) (ys.drop i)
  rw [List.take_append_drop] at ex ey
  rw [iv_drop B hi] at ex
  rw [iv_drop B (by omega)] at ey
  rw [ex, ey, hab, List.length_take, List.length_take, Nat.min_eq_left (by omega), Nat.min_eq_left (by omega)]
  have h1 := iv_lt hB (hx.take i)
  have h2 := iv_nonneg hB (hy.take i)
  rw [List.length_take, Nat.min_eq_left (by omega)] at h1
  have h3 := Int.mul_le_mul_of_nonneg_left (show dat xs i + B * iv B (ys.drop (i + 1)) + 1 ≤ dat ys i + B * iv B (ys.drop (i + 1)) by omega) (Int.le_of_lt (pow_pos' hB i))
  rw [Int.mul_add _ _ 1, Int.mul_one] at h3
  omega

theorem iv_cons_div {B d : Int} {ds : List Int} (h0 : 0 ≤ d) (h1 : d < B) : iv B (d :: ds) % B = d ∧ iv B (d :: ds) / B = iv B ds := by
  rw [iv]
  refine ⟨?_, ?_⟩
  · rw [Int.add_mul_emod_self_left, Int.emod_eq_of_lt h0 h1]
  · rw [Int.add_mul_ediv_left _ _ (by omega), Int.ediv_eq_zero_of_lt h0 h1, Int.zero_add]

/-- each number has digits -/
theorem exists_num {B : Nat} (hB : 1 < B) (x : Nat) : ∃ xs, Num (B : Int) xs x := by
  induction x using Nat.strongRecOn with
  | ind x ih =>
    by_cases hx : x = 0
    · subst hx; exact ⟨[], Num.zero _⟩
    · obtain ⟨ds, hd⟩ := ih (x / B) (Nat.div_lt_self (by omega) hB)
      have hm : x % B < B := Nat.mod_lt _ (by omega)
      refine ⟨((x % B : Nat) : Int) :: ds, Dig.mk_cons (by omega) (by omega) hd.dig, ?_, ?_⟩
      · intro d hl
        cases ds with
        | nil =>
          simp at hl
          have h0 := (hd.nil_iff (by omega)).1 rfl
          have := Nat.div_add_mod x B
          rw [h0] at this
          omega
        | cons e es => rw [List.getLast?_cons_cons] at hl; exact hd.top d hl
      · rw [iv, hd.val]
        have := Nat.div_add_mod x B
        have e : ((B : Int)) * ((x / B : Nat) : Int) = ((B * (x / B) : Nat) : Int) := by simp
        rw [e]; omega

end Go.Proofs.Ytenmlkcjgefmpaa
