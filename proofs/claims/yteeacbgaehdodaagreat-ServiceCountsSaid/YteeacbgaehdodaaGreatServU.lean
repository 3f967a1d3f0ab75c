/- Rows and their items, counted: plain laws. -/
import Derived.Test.YteeacbgaehdodaaGreatThing
namespace Go.Proofs.YteeacbgaehdodaaGreat
set_option linter.unusedVariables false

section
variable (std : List SS) (now : Int)
def cntO (s : List SX) (k : KK) (o : Int) : Nat := (s.filter fun x => decide (keyM x = k) && decide (outcomeR std x now = o)).length
end
def cntA (s : List SX) (k : KK) : Nat := (s.filter fun x => decide (keyM x = k)).length
section
variable {std : List SS} {now : Int}
theorem cntR_eq (s : List SX) (k : KK) (o : Int) : cntR std now keyM s k (fun o' => decide (o' = o)) = (cntO std now s k o : Int) := rfl
theorem cntO_snoc (s : List SX) (x : SX) (k : KK) (o : Int) : cntO std now (s ++ [x]) k o = cntO std now s k o + if keyM x = k ∧ outcomeR std x now = o then 1 else 0 := by
  unfold cntO
  rw [List.filter_append, List.length_append]
  by_cases h : keyM x = k ∧ outcomeR std x now = o
  · rw [if_pos h, List.filter_cons_of_pos (by simp [h.1, h.2])]; rfl
  · rw [if_neg h, List.filter_cons_of_neg (by simpa using h)]; rfl
theorem cntA_snoc (s : List SX) (x : SX) (k : KK) : cntA (s ++ [x]) k = cntA s k + if keyM x = k then 1 else 0 := by
  unfold cntA
  rw [List.filter_append, List.length_append]
  by_cases h : keyM x = k
  · rw [if_pos h, List.filter_cons_of_pos (by simp [h])]; rfl
  · rw [if_neg h, List.filter_cons_of_neg (by simpa using h)]; rfl
theorem cntO_le (s : List SX) (k : KK) (o : Int) : cntO std now s k o ≤ s.length := List.length_filter_le _ _
theorem cntA_le (s : List SX) (k : KK) : cntA s k ≤ s.length := List.length_filter_le _ _
theorem cnt_split {α : Type} (f : α → Bool) (g : α → Int) (hg : ∀ x, g x = 1 ∨ g x = 2 ∨ g x = 3 ∨ g x = 4) : ∀ s : List α, (s.filter fun x => f x && (decide (g x ≠ 1) && decide (g x ≠ 4))).length = (s.filter fun x => f x && decide (g x = 2)).length + (s.filter fun x => f x && decide (g x = 3)).length := by
  intro s
  rw [← List.countP_eq_length_filter, ← List.countP_eq_length_filter, ← List.countP_eq_length_filter]
  induction s with
  | nil => rfl
  | cons x s ih =>
    rw [List.countP_cons, List.countP_cons, List.countP_cons, ih]
    have h := hg x
    generalize g x = o at h
    rcases h with rfl | rfl | rfl | rfl <;> cases f x <;> simp <;> omega
theorem cnt_trials (k : KK) (s : List SX) : cntR std now keyM s k (fun o => decide (o ≠ 1) && decide (o ≠ 4)) = (cntO std now s k 2 + cntO std now s k 3 : Nat) := by
  unfold cntR cntO
  rw [cnt_split (fun x => decide (keyM x = k)) (fun x => outcomeR std x now) (fun x => outcome_in std x now) s]
end
/-- what a row tells of its items -/
theorem row_counts {std : List SS} {now : Int} {s : List SX} {k : KK} {r : RR} (h : r = rawRow std now keyM s k) : r.f3 = (cntO std now s k 2 + cntO std now s k 3 : Nat) ∧ r.f4 = (cntO std now s k 2 : Nat) ∧ r.f5 = (cntO std now s k 1 : Nat) ∧ r.f6 = (cntO std now s k 4 : Nat) := by
  rw [h]
  exact ⟨cnt_trials k s, rfl, rfl, rfl⟩
theorem map_getD {m : List RR} {risk : Int} {i : Nat} (hi : i < m.length) : (m.map (bndR risk)).getD i zR = bndR risk (m.getD i zR) := by
  rw [List.getD_eq_getElem?_getD, List.getElem?_map, List.getElem?_eq_getElem hi, List.getD_eq_getElem?_getD, List.getElem?_eq_getElem hi]; rfl
/-- the items of the first rows -/
def sumA (s : List SX) (m : List RR) (i : Nat) : Nat := (((m.take i).map rowKey).map (cntA s)).sum
theorem sumA_succ (s : List SX) {m : List RR} {i : Nat} (hi : i < m.length) : sumA s m (i + 1) = sumA s m i + cntA s (rowKey (m.getD i zR)) := by
  unfold sumA
  rw [List.take_succ_eq_append_getElem hi, List.map_append, List.map_append, List.sum_append, getD_R hi]
  simp
theorem sumA_all {std : List SS} {now : Int} {s : List SX} {m : List RR} (h : Rows std now keyM s m) : sumA s m m.length = s.length := by
  unfold sumA
  rw [List.take_length]
  exact h.all
theorem sumA_le {std : List SS} {now : Int} {s : List SX} {m : List RR} (h : Rows std now keyM s m) {i : Nat} (hi : i ≤ m.length) : sumA s m i ≤ s.length := by
  rw [← sumA_all h]
  have : ∀ d i, i + d = m.length → sumA s m i ≤ sumA s m m.length := by
    intro d
    induction d with
    | zero => intro i hi; rw [show i = m.length by omega]; exact Nat.le_refl _
    | succ d ih =>
      intro i hi
      refine Nat.le_trans ?_ (ih (i + 1) (by omega))
      rw [sumA_succ s (by omega)]; omega
  exact this (m.length - i) i (by omega)
theorem cntA_take (s : List SX) (j : Nat) (k : KK) : cntA (s.take j) k ≤ cntA s k := ((List.take_sublist j s).filter _).length_le

end Go.Proofs.YteeacbgaehdodaaGreat
