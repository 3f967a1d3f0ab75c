/- What a quantile is, in plain counts; and what the reference's Quantile gives. Plain lists. What LentInts makes, and what KeptInts finds of it. StatsQuantiles: the walk. -/
import Derived.Test.YtenmlkcjgefmpaaQuant
import Derived.Test.YtenmlkcjgefmpaaFnI
import Derived.Test.YtenmlkcjgefmpaaRefB
import Derived.Test.YtenmlkcjgefmpaaKit
namespace Go.Proofs.Ytenmlkcjgefmpaa
set_option linter.unusedVariables false
open Go.RowKit Go.Proofs.YtenmlkcjgefmpaaW.PrintWords Go.Proofs.Ytenmlkcjgefmpaa.Fn

def cle (l : List Int) (x : Int) : Nat := l.countP fun y => decide (y ≤ x)
def clt (l : List Int) (x : Int) : Nat := l.countP fun y => decide (y < x)

/-- x is the quantile of l at the share q. -/
structure Rank (l : List Int) (q : Nat) (x : Int) : Prop where
  mem : x ∈ l
  most : q * l.length ≤ 10000 * cle l x
  less : 0 < clt l x → 10000 * clt l x < q * l.length

theorem cle_le_clt {l : List Int} {x y : Int} (h : y < x) : cle l y ≤ clt l x := by
  unfold cle clt
  refine List.countP_mono_left fun z _ hz => ?_
  rw [decide_eq_true_eq] at hz ⊢
  omega
theorem cle_pos {l : List Int} {y : Int} (h : y ∈ l) : 0 < cle l y := by
  unfold cle
  rw [List.countP_pos_iff]
  exact ⟨y, h, by simp⟩

/-- a lesser number of the list has too few -/
theorem Rank.least {l : List Int} {q : Nat} {x y : Int} (h : Rank l q x) (hy : y ∈ l) (hlt : y < x) : 10000 * cle l y < q * l.length := by
  have h1 := cle_le_clt (l := l) hlt
  have h2 := cle_pos hy
  have h3 := h.less (by omega)
  omega

theorem Rank.mono {l : List Int} {p q : Nat} {x y : Int} (hx : Rank l p x) (hy : Rank l q y) (h : p ≤ q) : x ≤ y := by
  rcases Int.lt_or_le y x with h1 | h1
  · have h2 := hx.least hy.mem h1
    have h3 := hy.most
    have h4 := Nat.mul_le_mul_right l.length h
    omega
  · exact h1

theorem Rank.unique {l : List Int} {q : Nat} {x y : Int} (hx : Rank l q x) (hy : Rank l q y) : x = y :=
  Int.le_antisymm (hx.mono hy (Nat.le_refl _)) (hy.mono hx (Nat.le_refl _))

theorem Rank.perm {l m : List Int} {q : Nat} {x : Int} (h : l.Perm m) (hx : Rank l q x) : Rank m q x := by
  obtain ⟨h1, h2, h3⟩ := hx
  unfold cle at h2
  unfold clt at h3
  rw [h.length_eq, h.countP_eq] at h2
  rw [h.length_eq, h.countP_eq] at h3
  exact ⟨h.mem_iff.1 h1, h2, h3⟩

theorem Rank.twice {l : List Int} {q : Nat} {x : Int} (hx : Rank l q x) : Rank (l ++ l) q x := by
  obtain ⟨h1, h2, h3⟩ := hx
  refine ⟨List.mem_append_left _ h1, ?_, ?_⟩
  · unfold cle at h2 ⊢
    rw [List.countP_append, List.length_append, Nat.mul_add q]; omega
  · unfold clt at h3 ⊢
    rw [List.countP_append, List.length_append, Nat.mul_add q]
    intro h
    have := h3 (by omega)
    omega

theorem sortI_sorted (l : List Int) : (sortI l).Pairwise fun a b => a ≤ b := by
  have h := List.pairwise_mergeSort (le := fun x y : Int => decide (x ≤ y)) (by intro a b c h1 h2; simp at *; omega) (by intro a b; simp; omega) l
  exact h.imp fun h => by simpa using h
theorem sortI_perm (l : List Int) : (sortI l).Perm l := List.mergeSort_perm l _

theorem rankP_most (p : Nat) : p ≤ 10000 * (rankP p + 1) := by
  unfold rankP
  split <;> omega
theorem rankP_less (p : Nat) (h : 0 < rankP p) : 10000 * rankP p < p := by
  unfold rankP at h ⊢
  split at h
  · omega
  · rw [if_neg (by omega)]; omega

theorem sorted_le {s : List Int} (hs : s.Pairwise fun a b => a ≤ b) {i j : Nat} (hj : j < s.length) (h : i ≤ j) : s[i]'(by omega) ≤ s[j] := by
  rcases Nat.lt_or_ge i j with h1 | h1
  · exact List.pairwise_iff_getElem.1 hs i j (by omega) hj h1
  · obtain rfl : i = j := by omega
    exact Int.le_refl _

theorem rank_sorted {s : List Int} (hs : s.Pairwise fun a b => a ≤ b) {q : Nat} (hr : rankQ s.length q < s.length) : Rank s q (s[rankQ s.length q]) := by
  obtain ⟨r, er⟩ : ∃ r, rankQ s.length q = r := ⟨_, rfl⟩
  have hm := rankP_most (q * s.length)
  have hl := rankP_less (q * s.length)
  rw [show rankP (q * s.length) = r from er] at hm hl
  simp only [er] at hr ⊢
  refine ⟨List.getElem_mem hr, ?_, fun h => ?_⟩
  · have h1 : r + 1 ≤ cle s s[r] := by
      unfold cle
      have e : (s.take (r + 1)).countP (fun y => decide (y ≤ s[r])) = r + 1 := by
        have := List.countP_eq_length (l := s.take (r + 1)) (p := fun y => decide (y ≤ s[r]))
        rw [this.2 ?_, List.length_take, Nat.min_eq_left (by omega)]
        intro a ha
        obtain ⟨i, hi, rfl⟩ := List.mem_iff_getElem.1 ha
        rw [List.length_take] at hi
        rw [List.getElem_take]
        exact decide_eq_true (sorted_le hs hr (by omega))
      have h2 : (s.take (r + 1)).countP (fun y => decide (y ≤ s[r])) ≤ s.countP (fun y => decide (y ≤ s[r])) := (List.take_sublist _ _).countP_le
      omega
    omega
  · have h1 : clt s s[r] ≤ r := by
      unfold clt
      have e : s.countP (fun y => decide (y < s[r])) = (s.take r).countP (fun y => decide (y < s[r])) + (s.drop r).countP (fun y => decide (y < s[r])) := by
        rw [← List.countP_append, List.take_append_drop]
      have e2 : (s.drop r).countP (fun y => decide (y < s[r])) = 0 := by
        rw [List.countP_eq_zero]
        intro a ha
        obtain ⟨i, hi, rfl⟩ := List.mem_iff_getElem.1 ha
        rw [List.length_drop] at hi
        rw [List.getElem_drop]
        have := sorted_le hs (show r + i < s.length by omega) (show r ≤ r + i by omega)
        simp; omega
      have e3 : (s.take r).countP (fun y => decide (y < s[r])) ≤ (s.take r).length := List.countP_le_length
      rw [List.length_take] at e3
      omega
    have := hl (by omega)
    omega

/-- THE QUANTILE'S LAW -/
theorem quant_rank {l : List Int} {q : Nat} (h0 : 0 < l.length) (h1 : l.length ≤ 10000) (hq : q ≤ 10000) : quantE l (q : Int) = 0 ∧ Rank l q (quantN l (q : Int)) := by
  have he : quantE l (q : Int) = 0 := quantE_ok (by omega) (by omega) (by omega)
  refine ⟨he, ?_⟩
  have hr := rankQ_lt (len := (sortI l).length) (q := q) (by rw [sortI_length]; omega) hq
  have hk := rank_sorted (sortI_sorted l) hr
  have e : quantN l (q : Int) = (sortI l)[rankQ (sortI l).length q] := by
    unfold quantN
    rw [if_pos he, Int.toNat_natCast, List.getD_eq_getElem?_getD]
    have e2 : rankQ l.length q = rankQ (sortI l).length q := by rw [sortI_length]
    rw [e2, List.getElem?_eq_getElem hr]; rfl
  rw [e]
  exact hk.perm (sortI_perm l)

/-! ### the reference's Quantile -/
theorem take_count (l : List Int) (x : Int) {j : Nat} (h : j < l.length) : cle (l.take (j + 1)) x = cle (l.take j) x + if l[j] ≤ x then 1 else 0 := by
  unfold cle
  rw [List.take_succ_eq_append_getElem h, List.countP_append]
  congr 1
  by_cases hc : l[j] ≤ x <;> simp [hc]

theorem ref_count (l : List Int) (q : Int) (best : Int) (some_ : Bool) (i : Nat) (hi : i < l.length) (hl : l.length ≤ 10000) :
    ∀ (d j : Nat), l.length - j = d → j ≤ l.length → ∀ r, Ev (fun k => letterbagref04_Quantile.l1 k l q best some_ (i : Int) (cle l l[i] : Int) (l.length : Int)) r →
    Ev (fun k => letterbagref04_Quantile.l1 k l q best some_ (i : Int) (cle (l.take j) l[i] : Int) (j : Int)) r := by
  intro d
  induction d with
  | zero =>
    intro j hd hj r hev
    obtain rfl : j = l.length := by omega
    rw [List.take_length]; exact hev
  | succ d ih =>
    intro j hd hj r hev
    have hjl : j < l.length := by omega
    have hc : cle (l.take j) l[i] ≤ j := by
      have h1 : cle (l.take j) l[i] ≤ (l.take j).length := List.countP_le_length
      rw [List.length_take] at h1; omega
    refine Ev.step (fun k => ?_) (ih (j + 1) (by omega) (by omega) r hev)
    have e1 : rd l (i : Int) = l[i] := by rw [rd_dat, Int.toNat_natCast, dat_eq hi]
    have e2 : rd l (j : Int) = l[j] := by rw [rd_dat, Int.toNat_natCast, dat_eq hjl]
    have e3 : ((j + 1 : Nat) : Int) = (j : Int) + 1 := by omega
    simp only [letterbagref04_Quantile.l1]
    rw [if_pos (by omega), if_pos (by omega), if_pos (by omega), if_pos (by omega), e1, e2, w64 (n := (j : Int) + 1) (by omega) (by omega), w64 (n := (cle (l.take j) l[i] : Int) + 1) (by omega) (by omega), take_count l l[i] hjl, e3]
    by_cases hle : l[j] ≤ l[i]
    · rw [if_pos hle, if_pos hle]; rfl
    · rw [if_neg hle, if_neg hle]; rfl

theorem ref_Quantile_loop (l : List Int) (q : Nat) (x : Int) (hx : Rank l q x) (hq : q ≤ 10000) (hl : l.length ≤ 10000) :
    ∀ (d i : Nat) (best : Int) (some_ : Bool), l.length - i = d → i ≤ l.length → (x ∈ l.take i → some_ = true ∧ best = x) → (some_ = true → x ≤ best) →
    Ev (fun k => letterbagref04_Quantile.l0 k l (q : Int) best some_ (i : Int)) (x, 0) := by
  intro d
  induction d with
  | zero =>
    intro i best some_ hd hi h1 h2
    obtain rfl : i = l.length := by omega
    refine Ev.done (fun k => ?_)
    simp only [letterbagref04_Quantile.l0]
    rw [if_neg (by omega), (h1 (by rw [List.take_length]; exact hx.mem)).2]
  | succ d ih =>
    intro i best some_ hd hi h1 h2
    have hil : i < l.length := by omega
    have e1 : rd l (i : Int) = l[i] := by rw [rd_dat, Int.toNat_natCast, dat_eq hil]
    have e3 : ((i + 1 : Nat) : Int) = (i : Int) + 1 := by omega
    have hc : cle l l[i] ≤ l.length := List.countP_le_length
    have hmem : l[i] ∈ l := List.getElem_mem hil
    have hp : q * l.length ≤ 100000000 := Nat.mul_le_mul hq hl
    have hpc : (q : Int) * (l.length : Int) = ((q * l.length : Nat) : Int) := by rw [Int.natCast_mul]
    refine Ev.step (g := fun k => letterbagref04_Quantile.l1 k l (q : Int) best some_ (i : Int) 0 0) (fun k => ?_) (ref_count l q best some_ i hil hl l.length 0 (by omega) (by omega) _ ?_)
    · simp only [letterbagref04_Quantile.l0]
      rw [if_pos (by omega)]
    · -- behind the count
      have hin : ∀ {P : Prop}, (x ∈ l.take i → P) → (x = l[i] → P) → x ∈ l.take (i + 1) → P := by
        intro P ha hb hm
        rw [List.take_succ_eq_append_getElem hil, List.mem_append, List.mem_singleton] at hm
        exact hm.elim ha hb
      have hif : ∀ k, letterbagref04_Quantile.l1 (k + 1) l (q : Int) best some_ (i : Int) (cle l l[i] : Int) (l.length : Int) =
          if 10000 * cle l l[i] ≥ q * l.length then (if some_ = true then (if l[i] < best then letterbagref04_Quantile.l0 k l (q : Int) l[i] true ((i + 1 : Nat) : Int) else letterbagref04_Quantile.l0 k l (q : Int) best some_ ((i + 1 : Nat) : Int)) else letterbagref04_Quantile.l0 k l (q : Int) l[i] true ((i + 1 : Nat) : Int)) else letterbagref04_Quantile.l0 k l (q : Int) best some_ ((i + 1 : Nat) : Int) := by
        intro k
        simp only [letterbagref04_Quantile.l1]
        rw [if_neg (by omega), e1, e3, w64 (n := (i : Int) + 1) (by omega) (by omega), w64 (n := (cle l l[i] : Int) * 10000) (by omega) (by omega), hpc, w64 (n := ((q * l.length : Nat) : Int)) (by omega) (by omega)]
        have hiff : ((cle l l[i] : Int) * 10000 ≥ ((q * l.length : Nat) : Int)) ↔ 10000 * cle l l[i] ≥ q * l.length := by omega
        have p1 : 0 ≤ (i : Int) := by omega
        have p2 : (i : Int) < (l.length : Int) := by omega
        simp only [hiff, if_pos p1, if_pos p2]
      by_cases hqual : 10000 * cle l l[i] ≥ q * l.length
      · have hge : x ≤ l[i] := by
          rcases Int.lt_or_le l[i] x with h | h
          · have := hx.least hmem h; omega
          · exact h
        by_cases hs : some_ = true
        · by_cases hlt : l[i] < best
          · refine Ev.step (fun k => ?_) (ih (i + 1) l[i] true (by omega) (by omega) (hin (fun hm => ?_) (fun he => ⟨rfl, he.symm⟩)) (fun _ => hge))
            · rw [hif k, if_pos hqual, if_pos hs, if_pos hlt]
            · have := (h1 hm).2
              exact ⟨rfl, by omega⟩
          · refine Ev.step (fun k => ?_) (ih (i + 1) best some_ (by omega) (by omega) (hin h1 (fun he => ⟨hs, ?_⟩)) h2)
            · rw [hif k, if_pos hqual, if_pos hs, if_neg hlt]
            · have := h2 hs
              omega
        · refine Ev.step (fun k => ?_) (ih (i + 1) l[i] true (by omega) (by omega) (hin (fun hm => absurd (h1 hm).1 hs) (fun he => ⟨rfl, he.symm⟩)) (fun _ => hge))
          rw [hif k, if_pos hqual, if_neg hs]
      · refine Ev.step (fun k => ?_) (ih (i + 1) best some_ (by omega) (by omega) (hin h1 (fun he => ?_)) h2)
        · rw [hif k, if_neg hqual]
        · have := hx.most
          rw [he] at this
          omega

theorem ref_Quantile (l : List Int) (q : Int) : Ev (fun k => letterbagref04_Quantile.f k l q) (quantN l q, quantE l q) := by
  by_cases h1 : l.length > 10000
  · have he : quantE l q = 5 := quantE_many h1
    refine Ev.done (fun k => ?_)
    unfold letterbagref04_Quantile.f quantN
    rw [if_pos (by omega), he, if_neg (by decide)]
  · by_cases h2 : q < 0 ∨ q > 10000
    · have he : quantE l q = 2 := quantE_arg h1 h2
      refine Ev.done (fun k => ?_)
      unfold letterbagref04_Quantile.f quantN
      rw [if_neg (show ¬ (l.length : Int) > 10000 by omega), he, if_neg (show ¬ (2 : Int) = 0 by decide)]
      rcases h2 with h2 | h2
      · rw [if_pos h2]; simp only [letterbagref04_Quantile.j0]; rfl
      · rw [if_neg (by omega), decide_eq_true h2]; simp only [letterbagref04_Quantile.j0]; rfl
    · have hj : ∀ k, letterbagref04_Quantile.f (k + 1) l q = if (l.length : Int) = 0 then some (0, 6) else letterbagref04_Quantile.l0 k l q 0 false 0 := by
        intro k
        unfold letterbagref04_Quantile.f
        rw [if_neg (by omega), if_neg (by omega), decide_eq_false (by omega)]
        simp only [letterbagref04_Quantile.j0]
        rw [if_neg (by decide)]
      by_cases h3 : l.length = 0
      · have he : quantE l q = 6 := quantE_none h1 h2 h3
        refine Ev.done (fun k => ?_)
        rw [hj k, if_pos (by omega)]
        unfold quantN
        rw [he, if_neg (by decide)]
      · obtain ⟨q', rfl⟩ := Int.eq_ofNat_of_zero_le (show 0 ≤ q by omega)
        obtain ⟨he, hr⟩ := quant_rank (l := l) (q := q') (by omega) (by omega) (by omega)
        rw [he]
        refine Ev.step (fun k => ?_) (ref_Quantile_loop l q' _ hr (by omega) (by omega) l.length 0 0 false (by omega) (by omega) (fun h => by simp at h) (fun h => by cases h))
        rw [hj k, if_neg (by omega)]; rfl

end Go.Proofs.Ytenmlkcjgefmpaa

namespace Go.Proofs.Ytenmlkcjgefmpaa
set_option linter.unusedVariables false
open Go.RowKit Go.Proofs.YtenmlkcjgefmpaaW.PrintWords Go.Proofs.YtenmlkcjgefmpaaW.PrintLast Go.Proofs.YtenmlkcjgefmpaaW.PrintMore Go.Proofs.Ytenmlkcjgefmpaa.Fn
attribute [local go_sem] max2_int min2_int max_two min_two max_three min_three max_four min_four

def marks (j : Nat) : List Int := (List.range j).map fun i : Nat => 8000024 + (i : Int)
theorem marks_succ (j : Nat) : marks (j + 1) = marks j ++ [8000024 + (j : Int)] := by simp [marks, List.range_succ]
theorem marks_length (j : Nat) : (marks j).length = j := by simp [marks]

theorem mark_calls (i : Nat) (hi : i ≤ 100) (w : World) : Calls Try.prog 69 #[.int .i64 1, .int .i64 (i : Int)] w fun e w' => e = .returned (.int .i64 (8000024 + (i : Int))) ∧ Drawn0 w w' := by
  go_enter Try.func69, Try.ntmps69
  go_wp2_with fail
  go_ret
  exact ⟨rfl, ⟨0, rfl⟩⟩

theorem mark_draws (i : Nat) (hi : i ≤ 100) (w : World) : Calls Try.prog 69 #[.int .i64 1, .int .i64 (i : Int)] w fun e w' => e = .returned (.int .i64 (8000024 + (i : Int))) ∧ ∃ m, w' = w.drewN m :=
  (mark_calls i hi w).mono fun _ _ h => ⟨h.1, by obtain ⟨_, ⟨d⟩⟩ := h; exact d⟩

theorem make0_gate {P : Program} {w0 W : World} {base e : Nat} {ops : Array Oper} {o : Oper} {rest : List Oper} {a : Act} {Q : Exit → Act → World → Prop} (hg : o.guard = none) (t : TypeId) (x y : Operand) (ho : o.op = .makeSlice t x y) (c : Nat) (n : Int)
    (hx : a.eval x = .int .i64 0) (hy : a.eval y = .int .i64 n) (hn : n = (c : Int)) (ht : P.underlying t = some (.slice e)) (z : Value) (hinfo : (P.info? e).map (fun i => (i.zero, i.size, i.bytes)) = some (some z, 1, 8))
    (hc : c * 8 ≤ 281474976710656) (hbase : base ≤ W.heap.size) (HB : Below base w0 W)
    (h : ∀ v1 w1, Kd.R (Kd.int .i64) e w1 base (fun _ => True) v1 [] → Below base w0 w1 → wpList P ops Q rest (a.put o.dst v1) w1) : wpList P ops Q (o :: rest) a W := by
  subst hn
  refine wpList_plain hg fun K' hK' => ?_
  obtain ⟨i, hi, hzz⟩ := Option.map_eq_some_iff.1 hinfo
  simp only [Prod.mk.injEq] at hzz
  obtain ⟨hz, hs, hb8⟩ := hzz
  obtain ⟨w', hrun, r1, r2⟩ := run_make_own (P := P) W base t e i z 1 ht hi hz hs .i64 .i64 c (by rw [hb8]; omega) (by simp [maxLen]; omega) hbase
  unfold Oper.wp
  simp [execOp, ho, hx, hy, hrun, Result.andThen]
  exact hK' _ _ (h _ _ (R_nums (k := .i64) (xs := []) r1) (HB.grown r2 hbase (fun k e => by cases e)))

set_option maxHeartbeats 4000000 in
set_option maxRecDepth 100000 in
theorem Lent_calls {v : Value} (l : List Int) (w : World) (hv : IsI w v l) (hl : l.length * 8 ≤ 140737488351232) :
    Calls Try.prog 43 #[v] w fun e w' => ∃ (g cap : Nat), e = .returned (.slice (some ⟨g, 0, none⟩) l.length cap) ∧ l.length + 12 ≤ cap ∧ Kd.C (Kd.int .i64) w' (some ⟨g, 0, none⟩) (l.length + 12) (l ++ marks 12) ∧ Below w.heap.size w w' := by
  obtain ⟨A, c, rfl, hc, hr⟩ := hv
  have HR := Aside0.mk hr
  have HL := Aside0.mk hl
  have HB := Aside0.mk (Below.refl w.heap.size w)
  have hmax : l.length ≤ 17592186043904 := by omega
  clear hr hl hc
  go_enter Try.func43, Try.ntmps43
  go_wp2_with (first
    | ((with_reducible refine gate_dst (N := 8) rfl ?_); refine make0_gate (w0 := w) (base := w.heap.size) (e := 3) rfl 24 _ _ rfl (l.length + 12) _ rfl rfl (by omega) Try.underlying24 (.int .i64 0) info3 (by omega) (Nat.le_refl _) HB.out ?_; intro v1 w1 ho hb; have HO := Aside0.mk ho; have HB := Aside0.mk hb; clear ho hb)
    | ((with_reducible refine gate_builtin (b := .append) (xs := #[.tmp 9, .tmp 10]) rfl ?_); at_builtin; refine Kd.R_append_rows (Kd.int .i64) (w0 := w) w.heap.size rfl (.tmp 9) (.tmp 10) 24 3 (.int .i64 0) 8 rfl Try.underlying24 info3 rfl (by decide) (by omega) v1 [] l _ _ _ (fun _ => True) (fun _ => False) rfl rfl ?aO ?aR (fun _ _ h => h) (fun _ h => h.elim) ?aF ?aB ?aS ?aL ?_; (case aR => exact (Kd.C_below HR.out HB.out)); (case aB => exact HB.out); (case aF => exact (fun _ _ => trivial)); (case aO => exact HO.out); (case aS => exact (below_size HB.out)); (case aL => have := HL.out; simp; omega); intro v2 w2 ho hb hg hat; have HO2 := Aside0.mk ho; have HB2 := Aside0.mk hb; clear ho hb hg hat HO HB))
  go_loopw [3, 4] (fun v3 v4 W => ∃ j : Nat, j ≤ 12 ∧ v4 = .int .i64 j ∧ Aside0 (Kd.R (Kd.int .i64) 3 W w.heap.size (fun _ => True) v3 (l ++ marks j)) ∧ Aside0 (Below w.heap.size w W)) (fun _ v4 _ => 12 - (intOf v4).toNat)
  case atStart => exact ⟨0, by omega, rfl, ⟨by have h := HO2.out; simpa [marks] using h⟩, HB2⟩
  case round =>
    obtain ⟨j, hj, rfl, HO, HB⟩ := hrel
    by_cases hjn : j < 12
    · go_wp2_with fail
      refine (mark_calls j (by omega) _).mono ?_
      rintro e w3 ⟨rfl, ⟨m, rfl⟩⟩
      go_wp2_with (first
        | ((with_reducible refine gate_builtin (b := .append) (xs := #[.tmp 16, .tmp 19]) rfl ?_); at_builtin; refine Kd.R_append (Kd.int .i64) (w0 := w) w.heap.size rfl (.tmp 16) (.tmp 19) 24 3 (.int .i64 0) 8 rfl Try.underlying24 info3 rfl (by decide) (by omega) u3 (l ++ marks j) (8000024 + (j : Int)) [.int .i64 (8000024 + (j : Int))] (fun _ => True) (fun _ => False) rfl rfl ?aP (fun _ hk => hk.elim) ?aF ?aO ?aB ?aS ?aL ?_; (case aP => exact rfl); (case aB => exact pw_below_drewN HB.out m); (case aF => exact (fun _ _ => trivial)); (case aO => exact Kd.R_drewN HO.out m); (case aS => exact (below_size (pw_below_drewN HB.out m))); (case aL => have := HL.out; rw [List.length_append, marks_length]; omega); intro v4 w4 ho hb hg hat; rw [List.append_assoc, ← marks_succ] at ho; have HO3 := Aside0.mk ho; have HB3 := Aside0.mk hb; clear ho hb hg hat HO HB))
      go_roundw
      case rel => exact ⟨j + 1, by omega, by go_num, HO3, HB3⟩
      case measure => simp [intOf]; omega
    · obtain rfl : j = 12 := by omega
      have hlen : (l ++ marks 12).length = l.length + 12 := by rw [List.length_append, marks_length]
      obtain ⟨g, cap, hu, _, _, _⟩ := Kd.R_form HO.out (by omega)
      subst hu
      obtain ⟨_, hcap, hC⟩ := Kd.R_reads' HO.out
      rw [hlen] at hcap hC ⊢
      have HC := Aside0.mk hC
      have hle : l.length ≤ cap := by omega
      have hlc : (l.length : Int) ≤ (cap : Int) := by omega
      clear hlen hC HO hjn
      go_wp2_with fail
      go_ret
      exact ⟨g, cap, rfl, hcap, HC.out, HB.out⟩

theorem C_cell {w : World} {A : Option Addr} {n : Nat} {xs : List Int} (h : Kd.C (Kd.int .i64) w A n xs) {j : Nat} (hj : j < n) : ∃ ad, A = some ad ∧ w.cell? (ad.add j) = some (.int .i64 (xs.getD j 0)) := by
  obtain ⟨ad, c, e, _, hK, hc⟩ := Kd.C_get h 0 (j : Int) (by omega) (by omega)
  rw [Int.toNat_natCast] at hK hc
  have hK' : c = [.int .i64 (xs.getD j 0)] := hK
  subst hK'
  refine ⟨ad, e, ?_⟩
  have := hc 0 _ rfl
  rwa [show j * (Kd.int .i64).sz + 0 = j from Nat.mul_one j] at this

theorem marks_get {j : Nat} (h : j < 12) : (marks 12).getD j 0 = 8000024 + (j : Int) := by
  unfold marks
  rw [List.getD_eq_getElem?_getD, List.getElem?_map, List.getElem?_range h]; rfl

set_option maxHeartbeats 4000000 in
set_option maxRecDepth 100000 in
theorem Kept_calls (l : List Int) (v : Value) (g cap : Nat) (w : World) (hv : IsI w v l) (hcap : l.length + 12 ≤ cap) (hl : l.length * 8 ≤ 140737488351232) (hC : Kd.C (Kd.int .i64) w (some ⟨g, 0, none⟩) (l.length + 12) (l ++ marks 12)) :
    Calls Try.prog 45 #[.slice (some ⟨g, 0, none⟩) l.length cap, v] w fun e w' => e = .returned (.bool true) ∧ Drawn0 w w' := by
  obtain ⟨A, c, rfl, hc, hr⟩ := hv
  have HR := Aside0.mk hr
  have HC := Aside0.mk hC
  have HL := Aside0.mk hl
  have hmax : l.length ≤ 17592186043904 := by omega
  have hself : ((l.length : Int) != (l.length : Int)) = false := by simp
  clear hr hC hl hc
  go_enter Try.func45, Try.ntmps45
  go_wp2_with fail
  go_loopw [6] (fun v6 W => ∃ (j : Nat), j ≤ l.length + 12 ∧ v6 = .int .i64 j ∧ Aside0 (Drawn0 w W)) (fun v6 _ => l.length + 12 - (intOf v6).toNat)
  case atStart => exact ⟨0, by omega, rfl, ⟨Drawn0.refl _⟩⟩
  case round =>
    obtain ⟨j, hj, rfl, HD⟩ := hrel
    have hCw := Kd.C_below HC.out (drawn_below HD.out)
    have hRw := Kd.C_below HR.out (drawn_below HD.out)
    by_cases h1 : j < l.length
    · obtain ⟨ad, rfl, hx⟩ := C_cell hRw h1
      obtain ⟨ad2, hg, hy⟩ := C_cell hCw (show j < l.length + 12 by omega)
      obtain rfl : ad2 = ⟨g, 0, none⟩ := by injection hg with e; exact e.symm
      rw [show (l ++ marks 12).getD j 0 = l.getD j 0 by rw [List.getD_eq_getElem?_getD, List.getElem?_append_left h1, ← List.getD_eq_getElem?_getD], Go.WideShapes.add_plain, Nat.zero_add] at hy
      generalize l.getD j 0 = z at *
      have d1 : decide ((j : Int) < (l.length : Int)) = true := decide_eq_true (by omega)
      have d2 : decide (l.length ≤ j) = false := decide_eq_false (by omega)
      have d3 : (j : Int) < (l.length : Int) + 12 := by omega
      have d4 : (j : Int) < (l.length : Int) := by omega
      clear hCw hRw hg
      go_wp2_with fail
      go_quiet (fail)
      go_wp2_with fail
      go_roundw
      case rel => exact ⟨j + 1, by omega, by go_num, ⟨HD.out.step _⟩⟩
      case measure => simp [intOf]; omega
    · by_cases h2 : j < l.length + 12
      · obtain ⟨q, hq⟩ : ∃ q, q = j - l.length := ⟨_, rfl⟩
        obtain ⟨ad2, hg, hy⟩ := C_cell hCw h2
        obtain rfl : ad2 = ⟨g, 0, none⟩ := by injection hg with e; exact e.symm
        rw [show (l ++ marks 12).getD j 0 = 8000024 + (q : Int) by rw [← marks_get (show q < 12 by omega), List.getD_eq_getElem?_getD, List.getElem?_append_right (by omega), ← List.getD_eq_getElem?_getD, hq], Go.WideShapes.add_plain, Nat.zero_add] at hy
        have d1 : decide (j < l.length) = false := decide_eq_false (by omega)
        have d2 : decide (l.length ≤ j) = true := decide_eq_true (by omega)
        have d3 : (j : Int) < (l.length : Int) + 12 := by omega
        have d4 : (j : Int) - (l.length : Int) = (q : Int) := by omega
        have HM := Aside0.mk (fun W => mark_draws q (by omega) W)
        clear hCw hRw hg hq
        go_wp2_with fail
        go_quiet (first | (go_at_call 69; refine Calls.quiet_of (HM.out _)))
        go_wp2_with fail
        go_roundw
        case rel => exact ⟨j + 1, by omega, by go_num, ⟨HD.out.step _⟩⟩
        case measure => simp [intOf]; omega
      · have d1 : decide (j < l.length + 12) = false := decide_eq_false (by omega)
        have d3 : ¬ (j : Int) < (l.length : Int) + 12 := by omega
        clear hCw hRw
        go_wp2_with fail
        go_ret
        exact ⟨rfl, HD.out⟩

end Go.Proofs.Ytenmlkcjgefmpaa

namespace Go.Proofs.Ytenmlkcjgefmpaa
set_option linter.unusedVariables false
open Go.RowKit Go.Proofs.YtenmlkcjgefmpaaW.PrintWords Go.Proofs.YtenmlkcjgefmpaaW.PrintLast Go.Proofs.YtenmlkcjgefmpaaW.PrintMore Go.Proofs.Ytenmlkcjgefmpaa.Fn
attribute [local go_sem] max2_int min2_int max_two min_two max_three min_three max_four min_four

theorem C_take {w : World} {A : Option Addr} {n : Nat} {l m : List Int} (h : Kd.C (Kd.int .i64) w A n (l ++ m)) : Kd.C (Kd.int .i64) w A l.length l := by
  obtain ⟨h1, h2, h3⟩ := h
  rw [List.length_append] at h1
  refine ⟨rfl, by omega, fun hp => ?_⟩
  obtain ⟨ad, e, hc⟩ := h3 (by omega)
  refine ⟨ad, e, fun j p hj => hc j p ?_⟩
  obtain ⟨hj1, _⟩ := List.getElem?_eq_some_iff.1 hj
  rw [List.getElem?_append_left hj1]; exact hj

theorem RQuantile_calls {v : Value} (l : List Int) (q : Int) (w : World) (hv : IsI w v l) :
    Calls Try.prog 44 #[v, .int .i64 q] w fun e w' => e = .returned (.tuple #[.int .i64 (quantN l q), .int .i64 (quantE l q)]) ∧ Drawn0 w w' := by
  obtain ⟨A, c, rfl, hc, hr⟩ := hv
  obtain ⟨k, hk⟩ := (ref_Quantile l q).ex
  exact letterbagref04_Quantile.calls k A c l q _ _ w hr hc hk

set_option maxHeartbeats 4000000 in
set_option maxRecDepth 100000 in
theorem quantiles_calls {v : Value} (l : List Int) (q : Int) (w : World) (hv : IsI w v l) (hl : l.length * 8 ≤ 140737488351232) :
    Calls Try.prog 16 #[v, .int .i64 q] w fun e w' => e = .returned (.bool true) ∧ Below w.heap.size w w' := by
  have HV := Aside0.mk hv
  have HL := Aside0.mk hl
  obtain ⟨A, c, rfl, hc, hr⟩ := hv
  clear hr hl hc
  have e1 : ((quantN l q) == (quantN l q)) = true := beq_self_eq_true _
  have e2 : ((quantE l q) == (quantE l q)) = true := beq_self_eq_true _
  have E1 := Aside0.mk e1
  have E2 := Aside0.mk e2
  clear e1 e2
  go_enter Try.func16, Try.ntmps16
  by_cases c1 : l.length > 300 ∧ l.length ≤ 10000
  · obtain ⟨c1, c2⟩ := c1
    have d1 : decide (300 < l.length) = true := decide_eq_true c1
    have d2 : decide (l.length ≤ 10000) = true := decide_eq_true c2
    go_wp2_with fail
    go_ret
    exact ⟨rfl, Below.refl _ _⟩
  · have main : (300 < l.length ∧ 10000 < l.length) ∨ l.length ≤ 300 := by omega
    clear c1
    rcases main with ⟨c1, c2⟩ | c1
    · have d1 : decide (300 < l.length) = true := decide_eq_true c1
      have d2 : decide (l.length ≤ 10000) = false := decide_eq_false (by omega)
      go_wp2_with fail
      refine (Lent_calls l _ HV.out HL.out).mono ?_
      rintro e w1 ⟨g, cap, rfl, hcap, hC, b1⟩
      have HC := Aside0.mk hC
      have HI := Aside0.mk (show IsI w1 (.slice (some ⟨g, 0, none⟩) l.length cap) l from ⟨_, _, rfl, by omega, C_take hC⟩)
      have HB1 := Aside0.mk b1
      have HV1 := Aside0.mk (HV.out.below b1)
      have HCP := Aside0.mk hcap
      clear hC b1 hcap
      go_wp2_with fail
      refine (Quantile_calls l q _ HI.out).mono ?_
      rintro e w2 ⟨rfl, b2⟩
      have HB2 := Aside0.mk (below_then HB1.out b2)
      have HV2 := Aside0.mk (HV1.out.below b2)
      have HC2 := Aside0.mk (Kd.C_below HC.out b2)
      clear b2
      go_wp2_with fail
      refine (RQuantile_calls l q _ HV2.out).mono ?_
      rintro e w3 ⟨rfl, d3⟩
      have b3 := drawn_below d3
      have HB3 := Aside0.mk (below_then HB2.out b3)
      have HV3 := Aside0.mk (HV2.out.below b3)
      have HC3 := Aside0.mk (Kd.C_below HC2.out b3)
      clear b3 d3
      have e1 := E1.out
      have e2 := E2.out
      go_wp2_with fail
      refine (Kept_calls l _ g cap _ HV3.out HCP.out HL.out HC3.out).mono ?_
      rintro e w4 ⟨rfl, d4⟩
      have b4 := below_then HB3.out (drawn_below d4)
      go_wp2_with fail
      go_ret
      exact ⟨rfl, b4⟩
    · have d1 : decide (300 < l.length) = false := decide_eq_false (by omega)
      go_wp2_with fail
      refine (Lent_calls l _ HV.out HL.out).mono ?_
      rintro e w1 ⟨g, cap, rfl, hcap, hC, b1⟩
      have HC := Aside0.mk hC
      have HI := Aside0.mk (show IsI w1 (.slice (some ⟨g, 0, none⟩) l.length cap) l from ⟨_, _, rfl, by omega, C_take hC⟩)
      have HB1 := Aside0.mk b1
      have HV1 := Aside0.mk (HV.out.below b1)
      have HCP := Aside0.mk hcap
      clear hC b1 hcap
      go_wp2_with fail
      refine (Quantile_calls l q _ HI.out).mono ?_
      rintro e w2 ⟨rfl, b2⟩
      have HB2 := Aside0.mk (below_then HB1.out b2)
      have HV2 := Aside0.mk (HV1.out.below b2)
      have HC2 := Aside0.mk (Kd.C_below HC.out b2)
      clear b2
      go_wp2_with fail
      refine (RQuantile_calls l q _ HV2.out).mono ?_
      rintro e w3 ⟨rfl, d3⟩
      have b3 := drawn_below d3
      have HB3 := Aside0.mk (below_then HB2.out b3)
      have HV3 := Aside0.mk (HV2.out.below b3)
      have HC3 := Aside0.mk (Kd.C_below HC2.out b3)
      clear b3 d3
      have e1 := E1.out
      have e2 := E2.out
      go_wp2_with fail
      refine (Kept_calls l _ g cap _ HV3.out HCP.out HL.out HC3.out).mono ?_
      rintro e w4 ⟨rfl, d4⟩
      have b4 := below_then HB3.out (drawn_below d4)
      go_wp2_with fail
      go_ret
      exact ⟨rfl, b4⟩

set_option maxHeartbeats 4000000 in
set_option maxRecDepth 100000 in
theorem Quantiles_calls {v : Value} (l : List Int) (q : Int) (w : World) (hv : IsI w v l) (hl : l.length * 8 ≤ 140737488351232) :
    Calls Try.prog 4 #[v, .int .i64 q] w fun e w' => e = .returned (.bool true) ∧ Below w.heap.size w w' := by
  have HG := Aside0.mk (fun W (h : Below w.heap.size w W) => quantiles_calls l q W (hv.below h) hl)
  obtain ⟨A, c, rfl, hc, hr⟩ := hv
  clear hr hl hc
  go_enter Try.func4, Try.ntmps4
  go_wp2_with fail
  refine (awake_calls _).mono ?_
  rintro e w1 ⟨rfl, b1⟩
  go_wp2_with fail
  refine (HG.out _ b1).mono ?_
  rintro e w2 ⟨rfl, b2⟩
  have b3 := below_then b1 b2
  go_wp2_with fail
  go_ret
  exact ⟨rfl, b3⟩

end Go.Proofs.Ytenmlkcjgefmpaa
