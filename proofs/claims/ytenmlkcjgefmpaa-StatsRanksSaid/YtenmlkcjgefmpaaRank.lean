/- What a quantile is, in plain counts; and what the reference's Quantile gives. Plain lists. -/
import Derived.Test.YtenmlkcjgefmpaaQuant
import Derived.Test.YtenmlkcjgefmpaaFnI
import Derived.Test.YtenmlkcjgefmpaaRefA
namespace Go.Proofs.Ytenmlkcjgefmpaa
set_option linter.unusedVariables false
open Go.RowKit Go.Proofs.YtenmlkcjgefmpaaW.PrintWords Go.Proofs.Ytenmlkcjgefmpaa.Fn

def cle (l : List Int) (x : Int) : Nat := l.countP fun y => decide (y ≤ x)
def clt (l : List Int) (x : Int) : Nat := l.countP fun y => decide (y < x)

/-- x is the quantile of l at the share q. -/
structure Rank (l : List Int) (q : Nat) (x : Int) : Prop where
  mem : x ∈ l
  most : q * l.length ≤ 10000 * cle l x
  less : 0 < clt l x → 10000 * clt l x < q * l.length

theorem cle_le_clt {l : List Int} {x y : Int} (h : y < x) : cle l y ≤ clt l x := by
  unfold cle clt
  refine List.countP_mono_left fun z _ hz => ?_
  rw [decide_eq_true_eq] at hz ⊢
  omega
theorem cle_pos {l : List Int} {y : Int} (h : y ∈ l) : 0 < cle l y := by
  unfold cle
  rw [List.countP_pos_iff]
  exact ⟨y, h, by simp⟩

/-- a lesser number of the list has too few -/
theorem Rank.least {l : List Int} {q : Nat} {x y : Int} (h : Rank l q x) (hy : y ∈ l) (hlt : y < x) : 10000 * cle l y < q * l.length := by
  have h1 := cle_le_clt (l := l) hlt
  have h2 := cle_pos hy
  have h3 := h.less (by omega)
  omega

theorem Rank.mono {l : List Int} {p q : Nat} {x y : Int} (hx : Rank l p x) (hy : Rank l q y) (h : p ≤ q) : x ≤ y := by
  rcases Int.lt_or_le y x with h1 | h1
  · have h2 := hx.least hy.mem h1
    have h3 := hy.most
    have h4 := Nat.mul_le_mul_right l.length h
    omega
  · exact h1

theorem Rank.unique {l : List Int} {q : Nat} {x y : Int} (hx : Rank l q x) (hy : Rank l q y) : x = y :=
  Int.le_antisymm (hx.mono hy (Nat.le_refl _)) (hy.mono hx (Nat.le_refl _))

theorem Rank.perm {l m : List Int} {q : Nat} {x : Int} (h : l.Perm m) (hx : Rank l q x) : Rank m q x := by
  obtain ⟨h1, h2, h3⟩ := hx
  unfold cle at h2
  unfold clt at h3
  rw [h.length_eq, h.countP_eq] at h2
  rw [h.length_eq, h.countP_eq] at h3
  exact ⟨h.mem_iff.1 h1, h2, h3⟩

theorem Rank.twice {l : List Int} {q : Nat} {x : Int} (hx : Rank l q x) : Rank (l ++ l) q x := by
  obtain ⟨h1, h2, h3⟩ := hx
  refine ⟨List.mem_append_left _ h1, ?_, ?_⟩
  · unfold cle at h2 ⊢
    rw [List.countP_append, List.length_append, Nat.mul_add q]; omega
  · unfold clt at h3 ⊢
    rw [List.countP_append, List.length_append, Nat.mul_add q]
    intro h
    have := h3 (by omega)
    omega

theorem sortI_sorted (l : List Int) : (sortI l).Pairwise fun a b => a ≤ b := by
  have h := List.pairwise_mergeSort (le := fun x y : Int => decide (x ≤ y)) (by intro a b c h1 h2; simp at *; omega) (by intro a b; simp; omega) l
  exact h.imp fun h => by simpa using h
theorem sortI_perm (l : List Int) : (sortI l).Perm l := List.mergeSort_perm l _

theorem rankP_most (p : Nat) : p ≤ 10000 * (rankP p + 1) := by
  unfold rankP
  split <;> omega
theorem rankP_less (p : Nat) (h : 0 < rankP p) : 10000 * rankP p < p := by
  unfold rankP at h ⊢
  split at h
  · omega
  · rw [if_neg (by omega)]; omega

theorem sorted_le {s : List Int} (hs : s.Pairwise fun a b => a ≤ b) {i j : Nat} (hj : j < s.length) (h : i ≤ j) : s[i]'(by omega) ≤ s[j] := by
  rcases Nat.lt_or_ge i j with h1 | h1
  · exact List.pairwise_iff_getElem.1 hs i j (by omega) hj h1
  · obtain rfl : i = j := by omega
    exact Int.le_refl _

theorem rank_sorted {s : List Int} (hs : s.Pairwise fun a b => a ≤ b) {q : Nat} (hr : rankQ s.length q < s.length) : Rank s q (s[rankQ s.length q]) := by
  obtain ⟨r, er⟩ : ∃ r, rankQ s.length q = r := ⟨_, rfl⟩
  have hm := rankP_most (q * s.length)
  have hl := rankP_less (q * s.length)
  rw [show rankP (q * s.length) = r from er] at hm hl
  simp only [er] at hr ⊢
  refine ⟨List.getElem_mem hr, ?_, fun h => ?_⟩
  · have h1 : r + 1 ≤ cle s s[r] := by
      unfold cle
      have e : (s.take (r + 1)).countP (fun y => decide (y ≤ s[r])) = r + 1 := by
        have := List.countP_eq_length (l := s.take (r + 1)) (p := fun y => decide (y ≤ s[r]))
        rw [this.2 ?_, List.length_take, Nat.min_eq_left (by omega)]
        intro a ha
        obtain ⟨i, hi, rfl⟩ := List.mem_iff_getElem.1 ha
        rw [List.length_take] at hi
        rw [List.getElem_take]
        exact decide_eq_true (sorted_le hs hr (by omega))
      have h2 : (s.take (r + 1)).countP (fun y => decide (y ≤ s[r])) ≤ s.countP (fun y => decide (y ≤ s[r])) := (List.take_sublist _ _).countP_le
      omega
    omega
  · have h1 : clt s s[r] ≤ r := by
      unfold clt
      have e : s.countP (fun y => decide (y < s[r])) = (s.take r).countP (fun y => decide (y < s[r])) + (s.drop r).countP (fun y => decide (y < s[r])) := by
        rw [← List.countP_append, List.take_append_drop]
      have e2 : (s.drop r).countP (fun y => decide (y < s[r])) = 0 := by
        rw [List.countP_eq_zero]
        intro a ha
        obtain ⟨i, hi, rfl⟩ := List.mem_iff_getElem.1 ha
        rw [List.length_drop] at hi
        rw [List.getElem_drop]
        have := sorted_le hs (show r + i < s.length by omega) (show r ≤ r + i by omega)
        simp; omega
      have e3 : (s.take r).countP (fun y => decide (y < s[r])) ≤ (s.take r).length := List.countP_le_length
      rw [List.length_take] at e3
      omega
    have := hl (by omega)
    omega

/-- THE QUANTILE'S LAW -/
theorem quant_rank {l : List Int} {q : Nat} (h0 : 0 < l.length) (h1 : l.length ≤ 10000) (hq : q ≤ 10000) : quantE l (q : Int) = 0 ∧ Rank l q (quantN l (q : Int)) := by
  have he : quantE l (q : Int) = 0 := quantE_ok (by omega) (by omega) (by omega)
  refine ⟨he, ?_⟩
  have hr := rankQ_lt (len := (sortI l).length) (q := q) (by rw [sortI_length]; omega) hq
  have hk := rank_sorted (sortI_sorted l) hr
  have e : quantN l (q : Int) = (sortI l)[rankQ (sortI l).length q] := by
    unfold quantN
    rw [if_pos he, Int.toNat_natCast, List.getD_eq_getElem?_getD]
    have e2 : rankQ l.length q = rankQ (sortI l).length q := by rw [sortI_length]
    rw [e2, List.getElem?_eq_getElem hr]; rfl
  rw [e]
  exact hk.perm (sortI_perm l)

/-! ### the reference's Quantile -/
theorem take_count (l : List Int) (x : Int) {j : Nat} (h : j < l.length) : cle (l.take (j + 1)) x = cle (l.take j) x + if l[j] ≤ x then 1 else 0 := by
  unfold cle
  rw [List.take_succ_eq_append_getElem h, List.countP_append]
  congr 1
  by_cases hc : l[j] ≤ x <;> simp [hc]

theorem ref_count (l : List Int) (q : Int) (best : Int) (some_ : Bool) (i : Nat) (hi : i < l.length) (hl : l.length ≤ 10000) :
    ∀ (d j : Nat), l.length - j = d → j ≤ l.length → ∀ r, Ev (fun k => letterbagref04_Quantile.l1 k l q best some_ (i : Int) (cle l l[i] : Int) (l.length : Int)) r →
    Ev (fun k => letterbagref04_Quantile.l1 k l q best some_ (i : Int) (cle (l.take j) l[i] : Int) (j : Int)) r := by
  intro d
  induction d with
  | zero =>
    intro j hd hj r hev
    obtain rfl : j = l.length := by omega
    rw [List.take_length]; exact hev
  | succ d ih =>
    intro j hd hj r hev
    have hjl : j < l.length := by omega
    have hc : cle (l.take j) l[i] ≤ j := by
      have h1 : cle (l.take j) l[i] ≤ (l.take j).length := List.countP_le_length
      rw [List.length_take] at h1; omega
    refine Ev.step (fun k => ?_) (ih (j + 1) (by omega) (by omega) r hev)
    have e1 : rd l (i : Int) = l[i] := by rw [rd_dat, Int.toNat_natCast, dat_eq hi]
    have e2 : rd l (j : Int) = l[j] := by rw [rd_dat, Int.toNat_natCast, dat_eq hjl]
    have e3 : ((j + 1 : Nat) : Int) = (j : Int) + 1 := by omega
    simp only [letterbagref04_Quantile.l1]
    rw [if_pos (by omega), if_pos (by omega), if_pos (by omega), if_pos (by omega), e1, e2, w64 (n := (j : Int) + 1) (by omega) (by omega), w64 (n := (cle (l.take j) l[i] : Int) + 1) (by omega) (by omega), take_count l l[i] hjl, e3]
    by_cases hle : l[j] ≤ l[i]
    · rw [if_pos hle, if_pos hle]; rfl
    · rw [if_neg hle, if_neg hle]; rfl

theorem ref_Quantile_loop (l : List Int) (q : Nat) (x : Int) (hx : Rank l q x) (hq : q ≤ 10000) (hl : l.length ≤ 10000) :
    ∀ (d i : Nat) (best : Int) (some_ : Bool), l.length - i = d → i ≤ l.length → (x ∈ l.take i → some_ = true ∧ best = x) → (some_ = true → x ≤ best) →
    Ev (fun k => letterbagref04_Quantile.l0 k l (q : Int) best some_ (i : Int)) (x, 0) := by
  intro d
  induction d with
  | zero =>
    intro i best some_ hd hi h1 h2
    obtain rfl : i = l.length := by omega
    refine Ev.done (fun k => ?_)
    simp only [letterbagref04_Quantile.l0]
    rw [if_neg (by omega), (h1 (by rw [List.take_length]; exact hx.mem)).2]
  | succ d ih =>
    intro i best some_ hd hi h1 h2
    have hil : i < l.length := by omega
    have e1 : rd l (i : Int) = l[i] := by rw [rd_dat, Int.toNat_natCast, dat_eq hil]
    have e3 : ((i + 1 : Nat) : Int) = (i : Int) + 1 := by omega
    have hc : cle l l[i] ≤ l.length := List.countP_le_length
    have hmem : l[i] ∈ l := List.getElem_mem hil
    have hp : q * l.length ≤ 100000000 := Nat.mul_le_mul hq hl
    have hpc : (q : Int) * (l.length : Int) = ((q * l.length : Nat) : Int) := by rw [Int.natCast_mul]
    refine Ev.step (g := fun k => letterbagref04_Quantile.l1 k l (q : Int) best some_ (i : Int) 0 0) (fun k => ?_) (ref_count l q best some_ i hil hl l.length 0 (by omega) (by omega) _ ?_)
    · simp only [letterbagref04_Quantile.l0]
      rw [if_pos (by omega)]
    · -- behind the count
      have hin : ∀ {P : Prop}, (x ∈ l.take i → P) → (x = l[i] → P) → x ∈ l.take (i + 1) → P := by
        intro P ha hb hm
        rw [List.take_succ_eq_append_getElem hil, List.mem_append, List.mem_singleton] at hm
        exact hm.elim ha hb
      have hif : ∀ k, letterbagref04_Quantile.l1 (k + 1) l (q : Int) best some_ (i : Int) (cle l l[i] : Int) (l.length : Int) =
          if 10000 * cle l l[i] ≥ q * l.length then (if some_ = true then (if l[i] < best then letterbagref04_Quantile.l0 k l (q : Int) l[i] true ((i + 1 : Nat) : Int) else letterbagref04_Quantile.l0 k l (q : Int) best some_ ((i + 1 : Nat) : Int)) else letterbagref04_Quantile.l0 k l (q : Int) l[i] true ((i + 1 : Nat) : Int)) else letterbagref04_Quantile.l0 k l (q : Int) best some_ ((i + 1 : Nat) : Int) := by
        intro k
        simp only [letterbagref04_Quantile.l1]
        rw [if_neg (by omega), e1, e3, w64 (n := (i : Int) + 1) (by omega) (by omega), w64 (n := (cle l l[i] : Int) * 10000) (by omega) (by omega), hpc, w64 (n := ((q * l.length : Nat) : Int)) (by omega) (by omega)]
        have hiff : ((cle l l[i] : Int) * 10000 ≥ ((q * l.length : Nat) : Int)) ↔ 10000 * cle l l[i] ≥ q * l.length := by omega
        have p1 : 0 ≤ (i : Int) := by omega
        have p2 : (i : Int) < (l.length : Int) := by omega
        simp only [hiff, if_pos p1, if_pos p2]
      by_cases hqual : 10000 * cle l l[i] ≥ q * l.length
      · have hge : x ≤ l[i] := by
          rcases Int.lt_or_le l[i] x with h | h
          · have := hx.least hmem h; omega
          · exact h
        by_cases hs : some_ = true
        · by_cases hlt : l[i] < best
          · refine Ev.step (fun k => ?_) (ih (i + 1) l[i] true (by omega) (by omega) (hin (fun hm => ?_) (fun he => ⟨rfl, he.symm⟩)) (fun _ => hge))
            · rw [hif k, if_pos hqual, if_pos hs, if_pos hlt]
            · have := (h1 hm).2
              exact ⟨rfl, by omega⟩
          · refine Ev.step (fun k => ?_) (ih (i + 1) best some_ (by omega) (by omega) (hin h1 (fun he => ⟨hs, ?_⟩)) h2)
            · rw [hif k, if_pos hqual, if_pos hs, if_neg hlt]
            · have := h2 hs
              omega
        · refine Ev.step (fun k => ?_) (ih (i + 1) l[i] true (by omega) (by omega) (hin (fun hm => absurd (h1 hm).1 hs) (fun he => ⟨rfl, he.symm⟩)) (fun _ => hge))
          rw [hif k, if_pos hqual, if_neg hs]
      · refine Ev.step (fun k => ?_) (ih (i + 1) best some_ (by omega) (by omega) (hin h1 (fun he => ?_)) h2)
        · rw [hif k, if_neg hqual]
        · have := hx.most
          rw [he] at this
          omega

theorem ref_Quantile (l : List Int) (q : Int) : Ev (fun k => letterbagref04_Quantile.f k l q) (quantN l q, quantE l q) := by
  by_cases h1 : l.length > 10000
  · have he : quantE l q = 5 := quantE_many h1
    refine Ev.done (fun k => ?_)
    unfold letterbagref04_Quantile.f quantN
    rw [if_pos (by omega), he, if_neg (by decide)]
  · by_cases h2 : q < 0 ∨ q > 10000
    · have he : quantE l q = 2 := quantE_arg h1 h2
      refine Ev.done (fun k => ?_)
      unfold letterbagref04_Quantile.f quantN
      rw [if_neg (show ¬ (l.length : Int) > 10000 by omega), he, if_neg (show ¬ (2 : Int) = 0 by decide)]
      rcases h2 with h2 | h2
      · rw [if_pos h2]; simp only [letterbagref04_Quantile.j0]; rfl
      · rw [if_neg (by omega), decide_eq_true h2]; simp only [letterbagref04_Quantile.j0]; rfl
    · have hj : ∀ k, letterbagref04_Quantile.f (k + 1) l q = if (l.length : Int) = 0 then some (0, 6) else letterbagref04_Quantile.l0 k l q 0 false 0 := by
        intro k
        unfold letterbagref04_Quantile.f
        rw [if_neg (by omega), if_neg (by omega), decide_eq_false (by omega)]
        simp only [letterbagref04_Quantile.j0]
        rw [if_neg (by decide)]
      by_cases h3 : l.length = 0
      · have he : quantE l q = 6 := quantE_none h1 h2 h3
        refine Ev.done (fun k => ?_)
        rw [hj k, if_pos (by omega)]
        unfold quantN
        rw [he, if_neg (by decide)]
      · obtain ⟨q', rfl⟩ := Int.eq_ofNat_of_zero_le (show 0 ≤ q by omega)
        obtain ⟨he, hr⟩ := quant_rank (l := l) (q := q') (by omega) (by omega) (by omega)
        rw [he]
        refine Ev.step (fun k => ?_) (ref_Quantile_loop l q' _ hr (by omega) (by omega) l.length 0 0 false (by omega) (by omega) (fun h => by simp at h) (fun h => by cases h))
        rw [hj k, if_neg (by omega)]; rfl

end Go.Proofs.Ytenmlkcjgefmpaa
