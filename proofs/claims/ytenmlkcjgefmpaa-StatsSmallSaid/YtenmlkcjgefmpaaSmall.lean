/- ends: the limits of trials and of numbers. StatsSmall: the walk. -/
import Derived.Test.YtenmlkcjgefmpaaTells
import Derived.Test.YtenmlkcjgefmpaaQLaw
import Derived.OpenShut
namespace Go.Proofs.Ytenmlkcjgefmpaa
set_option linter.unusedVariables false
open Go.RowKit Go.Proofs.YtenmlkcjgefmpaaW.PrintWords Go.Proofs.YtenmlkcjgefmpaaW.PrintLast Go.Proofs.YtenmlkcjgefmpaaW.PrintMore Go.Proofs.Ytenmlkcjgefmpaa.Fn
attribute [local go_sem] max2_int min2_int max_two min_two max_three min_three max_four min_four

theorem isN_pos {w : World} {v : Value} {x : Nat} (h : IsN w v x) (hx : 0 < x) : ∃ A n c, v = .slice A n c ∧ 0 < n ∧ n ≤ 1024 := by
  obtain ⟨xs, A, c, h1, h2, h3, h4, h5⟩ := h
  refine ⟨A, xs.length, c, h1, ?_, h3⟩
  have := h4.nil_iff (by decide)
  omega
theorem isN_none {w : World} {v : Value} (h : IsN w v 0) : ∃ A c, v = .slice A 0 c := by
  obtain ⟨xs, A, c, h1, h2, h3, h4, h5⟩ := h
  have := (h4.nil_iff (by decide)).2 rfl
  rw [this] at h1
  exact ⟨A, c, h1⟩

theorem exc_self (n s : Nat) : excB n n 500 s = decide (10000 ^ n * 500 < s ^ n * 10000) := by unfold excB; rw [up_self]
theorem end499 : leastN 499 499 500 = 9941 := leastN_eq (by rw [exc_self]; decide +kernel) (by decide) (.inr (by rw [exc_self]; decide +kernel))
theorem end500 : leastN 500 500 500 = 9941 := leastN_eq (by rw [exc_self]; decide +kernel) (by decide) (.inr (by rw [exc_self]; decide +kernel))

theorem end_least {n : Nat} (h1 : 499 ≤ n) (h2 : n ≤ 500) : leastN n n 500 = 9941 := by
  have h : n = 499 ∨ n = 500 := by omega
  rcases h with rfl | rfl
  · exact end499
  · exact end500

structure EndFacts (n : Nat) : Prop where
  e1 : wrongE (n : Int) 250 0 0 0 = 0
  e2 : wrongE (n : Int) (n : Int) 9999 0 10000 = 0
  e3 : wrongE (n : Int) 0 10000 0 10000 = 0
  e4 : wrongE (n : Int) (n : Int) 500 1 2000 = 0
  v1 : 0 < chooseV (n : Int) 250
  v2 : 0 < upperV (n : Int) (n : Int) 9999
  v3 : lowerV (n : Int) 0 10000 = 0
  v4 : leastV (n : Int) (n : Int) 500 = 9941

theorem end_facts {n : Nat} (h1 : 499 ≤ n) (h2 : n ≤ 500) : EndFacts n := by
  have e1 : wrongE (n : Int) 250 0 0 0 = 0 := wrongE_zero (by omega)
  have e2 : wrongE (n : Int) (n : Int) 9999 0 10000 = 0 := wrongE_zero (by omega)
  have e3 : wrongE (n : Int) 0 10000 0 10000 = 0 := wrongE_zero (by omega)
  have e4 : wrongE (n : Int) (n : Int) 500 1 2000 = 0 := wrongE_zero (by omega)
  refine ⟨e1, e2, e3, e4, ?_, ?_, ?_, ?_⟩
  · unfold chooseV
    rw [if_pos e1, Int.toNat_natCast]
    exact binom_pos n 250 (by omega)
  · unfold upperV
    rw [if_pos e2, Int.toNat_natCast, up_self]
    exact Nat.pow_pos (by decide)
  · unfold lowerV
    rw [if_pos e3, Int.toNat_natCast]
    show up (10000 - 10000) 10000 n (n - 0) = 0
    rw [Nat.sub_zero, up_self]
    exact Nat.zero_pow (by omega)
  · unfold leastV
    rw [if_pos e4, Int.toNat_natCast]
    show (leastN n n 500 : Int) = 9941
    rw [end_least h1 h2]; rfl

structure OverFacts : Prop where
  e1 : wrongE 501 250 0 0 0 = 3
  e2 : wrongE 501 501 9999 0 10000 = 3
  e3 : wrongE 501 0 10000 0 10000 = 3
  e4 : wrongE 501 501 500 1 2000 = 3
  v1 : chooseV 501 250 = 0
  v2 : upperV 501 501 9999 = 0
  v3 : lowerV 501 0 10000 = 0
  v4 : leastV 501 501 500 = 0
theorem over_facts : OverFacts := by
  refine ⟨by decide, by decide, by decide, by decide, ?_, ?_, ?_, ?_⟩
  · unfold chooseV; rw [if_neg (by decide)]
  · unfold upperV; rw [if_neg (by decide)]
  · unfold lowerV; rw [if_neg (by decide)]
  · unfold leastV; rw [if_neg (by decide)]

/-! ### the numbers 0, -1, .. -/
def negs (n j : Nat) : List Int := (List.range n).map fun i : Nat => if i < j then -(i : Int) else 0
theorem negs_length (n j : Nat) : (negs n j).length = n := by simp [negs]
theorem negs_get (n j i : Nat) (h : i < n) : (negs n j)[i]'(by rw [negs_length]; exact h) = if i < j then -(i : Int) else 0 := by simp [negs]
theorem negs_zero (n : Nat) : negs n 0 = List.replicate n 0 := by
  apply List.ext_getElem (by simp [negs])
  intro i h1 h2
  rw [negs_length] at h1
  rw [negs_get n 0 i h1]; simp
theorem negs_set (n j : Nat) (h : j < n) : (negs n j).set j (-(j : Int)) = negs n (j + 1) := by
  apply List.ext_getElem (by simp [negs])
  intro i h1 h2
  rw [List.length_set, negs_length] at h1
  rw [List.getElem_set, negs_get n (j + 1) i h1]
  split
  · subst i; rw [if_pos (by omega)]
  · rw [negs_get n j i h1]
    by_cases hc : i < j
    · rw [if_pos hc, if_pos (by omega)]
    · rw [if_neg hc, if_neg (by omega)]
theorem negs_mem {n : Nat} {x : Int} (h : x ∈ negs n n) : ∃ i : Nat, i < n ∧ x = -(i : Int) := by
  obtain ⟨i, hi, rfl⟩ := List.mem_iff_getElem.1 h
  rw [negs_length] at hi
  exact ⟨i, hi, by rw [negs_get n n i hi, if_pos hi]⟩
theorem negs_in {n i : Nat} (h : i < n) : -(i : Int) ∈ negs n n := by
  rw [List.mem_iff_getElem]
  exact ⟨i, by rw [negs_length]; exact h, by rw [negs_get n n i h, if_pos h]⟩

theorem rank_top {n : Nat} (h0 : 0 < n) : Rank (negs n n) 10000 0 := by
  refine ⟨by have := negs_in h0; simpa using this, ?_, fun _ => ?_⟩
  · have : cle (negs n n) 0 = (negs n n).length := by
      unfold cle
      rw [List.countP_eq_length]
      intro x hx
      obtain ⟨i, _, rfl⟩ := negs_mem hx
      simp
    rw [this]; exact Nat.le_refl _
  · have : clt (negs n n) 0 < (negs n n).length := by
      unfold clt
      rcases Nat.lt_or_ge ((negs n n).countP fun y => decide (y < 0)) (negs n n).length with h | h
      · exact h
      · have h1 := (List.countP_eq_length (l := negs n n) (p := fun y => decide (y < 0))).1 (Nat.le_antisymm List.countP_le_length h)
        have h2 := h1 _ (negs_in h0)
        simp at h2
    omega
theorem rank_low {n : Nat} (h0 : 0 < n) (h1 : n ≤ 10000) : Rank (negs n n) 1 (1 - (n : Int)) := by
  have hm : 1 - (n : Int) ∈ negs n n := by
    have := negs_in (n := n) (i := n - 1) (by omega)
    rwa [show -((n - 1 : Nat) : Int) = 1 - (n : Int) by omega] at this
  refine ⟨hm, ?_, fun h => ?_⟩
  · have := cle_pos hm
    rw [negs_length]; omega
  · exfalso
    unfold clt at h
    rw [List.countP_pos_iff] at h
    obtain ⟨x, hx, hlt⟩ := h
    obtain ⟨i, hi, rfl⟩ := negs_mem hx
    rw [decide_eq_true_eq] at hlt
    omega

structure TopFacts (n : Nat) : Prop where
  e1 : quantE (negs n n) 10000 = 0
  e2 : quantE (negs n n) 1 = 0
  v1 : quantN (negs n n) 10000 = 0
  v2 : quantN (negs n n) 1 = 1 - (n : Int)
theorem top_facts {n : Nat} (h0 : 0 < n) (h1 : n ≤ 10000) : TopFacts n := by
  obtain ⟨a1, a2⟩ := quant_rank (l := negs n n) (q := 10000) (by rw [negs_length]; omega) (by rw [negs_length]; omega) (by omega)
  obtain ⟨b1, b2⟩ := quant_rank (l := negs n n) (q := 1) (by rw [negs_length]; omega) (by rw [negs_length]; omega) (by omega)
  exact ⟨a1, b1, a2.unique (rank_top h0), b2.unique (rank_low h0 h1)⟩
structure ManyFacts (n : Nat) : Prop where
  e1 : quantE (negs n n) 10000 = 5
  e2 : quantE (negs n n) 1 = 5
  v1 : quantN (negs n n) 10000 = 0
  v2 : quantN (negs n n) 1 = 0
theorem many_facts {n : Nat} (h : 10000 < n) : ManyFacts n := by
  have a : quantE (negs n n) 10000 = 5 := quantE_many (by rw [negs_length]; omega)
  have b : quantE (negs n n) 1 = 5 := quantE_many (by rw [negs_length]; omega)
  refine ⟨a, b, ?_, ?_⟩
  · unfold quantN; rw [a, if_neg (by decide)]
  · unfold quantN; rw [b, if_neg (by decide)]

set_option maxHeartbeats 8000000 in
set_option maxRecDepth 100000 in
theorem ends_calls (w : World) : Calls Try.prog 29 #[] w fun e w' => e = .returned (.bool true) ∧ Below w.heap.size w w' := by
  have HB := Aside0.mk (Below.refl w.heap.size w)
  go_enter Try.func29, Try.ntmps29
  go_wp2_with fail
  go_loopw [1] (fun v1 W => ∃ n : Nat, 499 ≤ n ∧ n ≤ 502 ∧ v1 = .int .i64 n ∧ Aside0 (Below w.heap.size w W)) (fun v1 _ => 502 - (intOf v1).toNat)
  case atStart => exact ⟨499, by omega, by omega, rfl, HB⟩
  case round =>
    obtain ⟨n, hn1, hn2, rfl, HB⟩ := hrel
    by_cases hn3 : n ≤ 500
    · have HF := Aside0.mk (end_facts hn1 hn3)
      have hn4 : n ≤ 501 := by omega
      go_wp2_with fail
      refine (Choose_all (n : Int) 250 _).mono ?_
      rw [HF.out.e1]
      rintro e u1 ⟨va, rfl, h_, b_⟩
      obtain ⟨A1, n1, c1, rfl, hp1, hq1⟩ := isN_pos h_ HF.out.v1
      have HB := Aside0.mk (below_then HB.out b_)
      clear h_ b_
      go_wp2_with fail
      refine (Upper_all (n : Int) (n : Int) 9999 _).mono ?_
      rw [HF.out.e2]
      rintro e u2 ⟨vb, rfl, h_, b_⟩
      obtain ⟨A2, n2, c2, rfl, hp2, hq2⟩ := isN_pos h_ HF.out.v2
      have HB := Aside0.mk (below_then HB.out b_)
      clear h_ b_
      go_wp2_with fail
      refine (Lower_all (n : Int) 0 10000 _).mono ?_
      rw [HF.out.e3, HF.out.v3]
      rintro e u3 ⟨vc, rfl, h_, b_⟩
      obtain ⟨A3, c3, rfl⟩ := isN_none h_
      have HB := Aside0.mk (below_then HB.out b_)
      clear h_ b_
      go_wp2_with fail
      refine (Least_all (n : Int) (n : Int) 500 _).mono ?_
      rw [HF.out.e4, HF.out.v4]
      rintro e u4 ⟨rfl, b_⟩
      have HB := Aside0.mk (below_then HB.out b_)
      clear b_
      go_wp2_with fail
      refine (Greatest_all (n : Int) (n : Int) 500 _ (by omega) (by omega) (by omega) (by omega)).mono ?_
      rw [HF.out.e4]
      rintro e u5 ⟨rfl, b_⟩
      have HB := Aside0.mk (below_then HB.out b_)
      clear b_
      have z1 : ((n1 : Int) == 0) = false := by rw [beq_eq_false_iff_ne]; omega
      have z2 : ((n2 : Int) == 0) = false := by rw [beq_eq_false_iff_ne]; omega
      go_wp2_with fail
      go_roundw
      case rel => exact ⟨n + 1, by omega, by omega, by go_num, HB⟩
      case measure => simp [intOf]; omega
    · by_cases hn4 : n ≤ 501
      · obtain rfl : n = 501 := by omega
        have HF := Aside0.mk over_facts
        go_wp2_with fail
        refine (Choose_all 501 250 _).mono ?_
        rw [HF.out.e1, HF.out.v1]
        rintro e u1 ⟨va, rfl, h_, b_⟩
        obtain ⟨A1, c1, rfl⟩ := isN_none h_
        have HB := Aside0.mk (below_then HB.out b_)
        clear h_ b_
        go_wp2_with fail
        refine (Upper_all 501 501 9999 _).mono ?_
        rw [HF.out.e2, HF.out.v2]
        rintro e u2 ⟨vb, rfl, h_, b_⟩
        obtain ⟨A2, c2, rfl⟩ := isN_none h_
        have HB := Aside0.mk (below_then HB.out b_)
        clear h_ b_
        go_wp2_with fail
        refine (Lower_all 501 0 10000 _).mono ?_
        rw [HF.out.e3, HF.out.v3]
        rintro e u3 ⟨vc, rfl, h_, b_⟩
        obtain ⟨A3, c3, rfl⟩ := isN_none h_
        have HB := Aside0.mk (below_then HB.out b_)
        clear h_ b_
        go_wp2_with fail
        refine (Least_all 501 501 500 _).mono ?_
        rw [HF.out.e4, HF.out.v4]
        rintro e u4 ⟨rfl, b_⟩
        have HB := Aside0.mk (below_then HB.out b_)
        clear b_
        go_wp2_with fail
        refine (Greatest_all 501 501 500 _ (by omega) (by omega) (by omega) (by omega)).mono ?_
        rw [HF.out.e4]
        rintro e u5 ⟨rfl, b_⟩
        have HB := Aside0.mk (below_then HB.out b_)
        clear b_
        go_wp2_with fail
        go_roundw
        case rel => exact ⟨502, by omega, by omega, by go_num, HB⟩
        case measure => simp [intOf]
      · obtain rfl : n = 502 := by omega
        go_wp2_with fail
        go_loopw [13] (fun v13 W => ∃ n : Nat, 9999 ≤ n ∧ n ≤ 10002 ∧ v13 = .int .i64 n ∧ Aside0 (Below w.heap.size w W)) (fun v13 _ => 10002 - (intOf v13).toNat)
        case atStart => exact ⟨9999, by omega, by omega, rfl, HB⟩
        case round =>
          obtain ⟨m, hm1, hm2, rfl, HB⟩ := hrel
          by_cases hm3 : m ≤ 10001
          · have hj : (Int.toNat (m : Int)) = m := by simp
            go_wp2_with (first | ((with_reducible refine gate_dst (N := 118) rfl ?_); refine Kd.R_make (Kd.int .i64) (w0 := w) w.heap.size 3 rfl (N := 118) rfl 24 _ _ rfl (m : Int) rfl rfl Try.underlying24 (.int .i64 0) 8 info3 rfl (by decide) (by omega) 0 (ok := fun _ => True) (okp := fun _ => True) rfl (fun _ hk => hk) trivial (by omega) (by rw [Int.toNat_natCast]; omega) HB.out (HB.out.size) ?_; intro v118 w6 ho hb hg_ hnew_; rw [Int.toNat_natCast, ← negs_zero] at ho; obtain ⟨g, cap, hv, hgl, _, _⟩ := Kd.R_form ho (by rw [negs_length]; omega); rw [negs_length] at hv; subst hv; have HO := Aside0.mk ho; have HBM := Aside0.mk hb; clear ho hb hg_ hnew_))
            go_loopw [121] (fun v121 W => ∃ j : Nat, j ≤ m ∧ v121 = .int .i64 j ∧ Aside0 (Kd.R (Kd.int .i64) 3 W w.heap.size (fun _ => True) (.slice (some ⟨g, 0, none⟩) m cap) (negs m j)) ∧ Aside0 (Below w.heap.size w W)) (fun v121 _ => m - (intOf v121).toNat)
            case atStart => exact ⟨0, by omega, rfl, HO, HBM⟩
            case round =>
              obtain ⟨j, hjm, rfl, HO, HB⟩ := hrel
              by_cases hj3 : j < m
              · obtain ⟨hcell, hfro⟩ := Kd.R_celln 0 HO.out (j : Int) (by omega) (by omega)
                rw [Int.toNat_natCast] at hcell hfro
                obtain ⟨hput, hgr⟩ := Kd.R_putg HO.out (j : Int) (-(j : Int))
                rw [Int.toNat_natCast] at hput hgr
                rw [negs_set m j hj3] at hput
                have HP := Aside0.mk hput
                have HB2 := Aside0.mk (HB.out.grown hgr HB.out.size (fun k e => by cases e; exact hgl))
                clear hput hgr
                go_wp2_with fail
                exact ⟨⟨j + 1, by omega, by go_num, HP, HB2⟩, by simp [intOf]; omega⟩
              · obtain rfl : j = m := by omega
                have HI := Aside0.mk (show IsI wr (.slice (some ⟨g, 0, none⟩) j cap) (negs j j) by
                  obtain ⟨A, c, h1, h2, h3⟩ := Kd.R_reads HO.out
                  exact ⟨A, c, h1, h2, h3⟩)
                clear HO
                by_cases hj4 : j ≤ 10000
                · have HF := Aside0.mk (top_facts (n := j) (by omega) hj4)
                  go_wp2_with fail
                  refine (Quantile_calls _ 10000 _ HI.out).mono ?_
                  rw [HF.out.e1, HF.out.v1]
                  rintro e u1 ⟨rfl, b_⟩
                  have HI := Aside0.mk (HI.out.below b_)
                  have HB := Aside0.mk (below_then HB.out b_)
                  clear b_
                  go_wp2_with fail
                  refine (Quantile_calls _ 1 _ HI.out).mono ?_
                  rw [HF.out.e2, HF.out.v2]
                  rintro e u2 ⟨rfl, b_⟩
                  have HB := Aside0.mk (below_then HB.out b_)
                  clear b_
                  go_wp2_with fail
                  refine ⟨?_, ?measure⟩
                  repeat apply Exists.intro
                  refine ⟨?rel, rfl⟩
                  case rel => exact ⟨j + 1, by omega, by omega, by go_num, HB⟩
                  case measure => simp [intOf]; omega
                · obtain rfl : j = 10001 := by omega
                  have HF := Aside0.mk (many_facts (n := 10001) (by omega))
                  go_wp2_with fail
                  refine (Quantile_calls _ 10000 _ HI.out).mono ?_
                  rw [HF.out.e1, HF.out.v1]
                  rintro e u1 ⟨rfl, b_⟩
                  have HI := Aside0.mk (HI.out.below b_)
                  have HB := Aside0.mk (below_then HB.out b_)
                  clear b_
                  go_wp2_with fail
                  refine (Quantile_calls _ 1 _ HI.out).mono ?_
                  rw [HF.out.e2, HF.out.v2]
                  rintro e u2 ⟨rfl, b_⟩
                  have HB := Aside0.mk (below_then HB.out b_)
                  clear b_
                  go_wp2_with fail
                  refine ⟨?_, ?measure⟩
                  repeat apply Exists.intro
                  refine ⟨?rel, rfl⟩
                  case rel => exact ⟨10002, by omega, by omega, by go_num, HB⟩
                  case measure => simp [intOf]
          · obtain rfl : m = 10002 := by omega
            go_wp2_with fail
            refine (awake_calls _).mono ?_
            rintro e u5 ⟨rfl, b_⟩
            have HB := Aside0.mk (below_then HB.out b_)
            clear b_
            go_wp2_with fail
            go_ret
            exact ⟨rfl, HB.out⟩

end Go.Proofs.Ytenmlkcjgefmpaa

namespace Go.Proofs.Ytenmlkcjgefmpaa
set_option linter.unusedVariables false
open Go Go.RowKit Go.Proofs.YtenmlkcjgefmpaaW.PrintWords Go.Proofs.YtenmlkcjgefmpaaW.PrintLast Go.Proofs.YtenmlkcjgefmpaaW.PrintMore Go.Proofs.Ytenmlkcjgefmpaa.Fn
attribute [local go_sem] max2_int min2_int max_two min_two max_three min_three max_four min_four

theorem lit_cell (u : World) (A : Array Value) (e i : Nat) : (u.alloc (.cells A e)).cell? ⟨u.heap.size, i, none⟩ = A[i]? := by
  unfold World.cell?
  rw [heap_alloc_new]
  rfl
theorem wf_mk {n : Int} (h0 : -9223372036854775808 ≤ n) (h1 : n ≤ 9223372036854775807) : (Lit.int .i64 n).wf = true := by
  have := wrap64_wf n
  rwa [w64 h0 h1] at this
/-- The world holds a row of n whole numbers in block g. -/
def LitAt (W : World) (g n : Nat) : Prop := g < W.heap.size ∧ ∀ j, j < n → ∃ x : Int, W.cell? ⟨g, j, none⟩ = some (.int .i64 x) ∧ (Lit.int .i64 x).wf = true
theorem LitAt.below {W W' : World} {g n : Nat} (h : LitAt W g n) (hb : Below W.heap.size W W') : LitAt W' g n :=
  ⟨Nat.lt_of_lt_of_le h.1 hb.size, fun j hj => by
    obtain ⟨x, hx, hw⟩ := h.2 j hj
    exact ⟨x, (hb.cell (p := ⟨g, j, none⟩) h.1).trans hx, hw⟩⟩
theorem LitAt.mk (u : World) (xs : List Int) (e : Nat) (A : Array Value) (hA : A = (xs.map (Value.int .i64)).toArray) (hx : ∀ x ∈ xs, (Lit.int .i64 x).wf = true) : LitAt (u.alloc (.cells A e)) u.heap.size xs.length := by
  refine ⟨by simp, fun j hj => ⟨xs[j], ?_, hx _ (List.getElem_mem hj)⟩⟩
  rw [lit_cell, hA]
  simp [hj]
theorem isI_two (W : World) (e : Nat) (a b : Int) : IsI (W.alloc (.cells #[.int .i64 a, .int .i64 b] e)) (.slice (some ⟨W.heap.size, 0, none⟩) 2 2) [a, b] := by
  have h := R_nums (base := W.heap.size) (e := e) (k := .i64) (xs := [a, b]) (World.ownsRow_lit (base := W.heap.size) (e := e) (size := 1) W #[.int .i64 a, .int .i64 b] 2 (Nat.le_refl _) (by decide) (by simp))
  obtain ⟨A, c, h1, h2, h3⟩ := Kd.R_reads h
  exact ⟨A, c, h1, h2, h3⟩

theorem isI_litN (W : World) (e : Nat) (xs : List Int) (hl : xs.length ≤ 100) : IsI (W.alloc (.cells (xs.map (Value.int .i64)).toArray e)) (.slice (some ⟨W.heap.size, 0, none⟩) xs.length xs.length) xs := by
  have h := R_nums (base := W.heap.size) (e := e) (k := .i64) (xs := xs) (by
    have := World.ownsRow_lit (base := W.heap.size) (e := e) (size := 1) W (xs.map (Value.int .i64)).toArray xs.length (Nat.le_refl _) (by simp [maxLen]; omega) (by simp)
    simpa [nums] using this)
  obtain ⟨A, c, h1, h2, h3⟩ := Kd.R_reads h
  exact ⟨A, c, h1, h2, h3⟩
/-- The world holds a row of n slices of whole numbers in block g. -/
def SlicesAt (W : World) (g n : Nat) : Prop := g < W.heap.size ∧ ∀ j, j < n → ∃ (v : Value) (l : List Int), W.cell? ⟨g, j, none⟩ = some v ∧ IsI W v l ∧ l.length ≤ 100
theorem SlicesAt.below {W W' : World} {g n : Nat} (h : SlicesAt W g n) (hb : Below W.heap.size W W') : SlicesAt W' g n :=
  ⟨Nat.lt_of_lt_of_le h.1 hb.size, fun j hj => by
    obtain ⟨v, l, hx, hw, hl⟩ := h.2 j hj
    exact ⟨v, l, (hb.cell (p := ⟨g, j, none⟩) h.1).trans hx, hw.below hb, hl⟩⟩
def six (W : World) : World := ((((((W.alloc (.cells #[.int .i64 0] 3)).alloc (.cells #[.int .i64 3, .int .i64 (-3)] 3)).alloc (.cells #[.int .i64 1, .int .i64 1, .int .i64 2] 3)).alloc (.cells #[.int .i64 4, .int .i64 1, .int .i64 3, .int .i64 2] 3)).alloc (.cells #[.int .i64 (-9223372036854775808), .int .i64 9223372036854775807, .int .i64 0] 3)).alloc (.cells #[.slice none 0 0, .slice (some ⟨W.heap.size, 0, none⟩) 1 1, .slice (some ⟨W.heap.size + 1, 0, none⟩) 2 2, .slice (some ⟨W.heap.size + 1 + 1, 0, none⟩) 3 3, .slice (some ⟨W.heap.size + 1 + 1 + 1, 0, none⟩) 4 4, .slice (some ⟨W.heap.size + 1 + 1 + 1 + 1, 0, none⟩) 3 3] 24))
theorem six_at (W : World) : SlicesAt (six W) (W.heap.size + 1 + 1 + 1 + 1 + 1) 6 := by
  have i1 := isI_litN W 3 [0] (by decide)
  have i2 := isI_litN (W.alloc (.cells #[.int .i64 0] 3)) 3 [3, -3] (by decide)
  have i3 := isI_litN ((W.alloc (.cells #[.int .i64 0] 3)).alloc (.cells #[.int .i64 3, .int .i64 (-3)] 3)) 3 [1, 1, 2] (by decide)
  have i4 := isI_litN (((W.alloc (.cells #[.int .i64 0] 3)).alloc (.cells #[.int .i64 3, .int .i64 (-3)] 3)).alloc (.cells #[.int .i64 1, .int .i64 1, .int .i64 2] 3)) 3 [4, 1, 3, 2] (by decide)
  have i5 := isI_litN ((((W.alloc (.cells #[.int .i64 0] 3)).alloc (.cells #[.int .i64 3, .int .i64 (-3)] 3)).alloc (.cells #[.int .i64 1, .int .i64 1, .int .i64 2] 3)).alloc (.cells #[.int .i64 4, .int .i64 1, .int .i64 3, .int .i64 2] 3)) 3 [-9223372036854775808, 9223372036854775807, 0] (by decide)
  have j1 := i1.below (w' := six W) (below_alloc (below_alloc (below_alloc (below_alloc (below_alloc (Below.refl _ _) _) _) _) _) _)
  have j2 := i2.below (w' := six W) (below_alloc (below_alloc (below_alloc (below_alloc (Below.refl _ _) _) _) _) _)
  have j3 := i3.below (w' := six W) (below_alloc (below_alloc (below_alloc (Below.refl _ _) _) _) _)
  have j4 := i4.below (w' := six W) (below_alloc (below_alloc (Below.refl _ _) _) _)
  have j5 := i5.below (w' := six W) (below_alloc (Below.refl _ _) _)
  have hc : ∀ i, (six W).cell? ⟨W.heap.size + 1 + 1 + 1 + 1 + 1, i, none⟩ = (#[.slice none 0 0, .slice (some ⟨W.heap.size, 0, none⟩) 1 1, .slice (some ⟨W.heap.size + 1, 0, none⟩) 2 2, .slice (some ⟨W.heap.size + 1 + 1, 0, none⟩) 3 3, .slice (some ⟨W.heap.size + 1 + 1 + 1, 0, none⟩) 4 4, .slice (some ⟨W.heap.size + 1 + 1 + 1 + 1, 0, none⟩) 3 3] : Array Value)[i]? := by
    intro i
    have := lit_cell (((((W.alloc (.cells #[.int .i64 0] 3)).alloc (.cells #[.int .i64 3, .int .i64 (-3)] 3)).alloc (.cells #[.int .i64 1, .int .i64 1, .int .i64 2] 3)).alloc (.cells #[.int .i64 4, .int .i64 1, .int .i64 3, .int .i64 2] 3)).alloc (.cells #[.int .i64 (-9223372036854775808), .int .i64 9223372036854775807, .int .i64 0] 3)) #[.slice none 0 0, .slice (some ⟨W.heap.size, 0, none⟩) 1 1, .slice (some ⟨W.heap.size + 1, 0, none⟩) 2 2, .slice (some ⟨W.heap.size + 1 + 1, 0, none⟩) 3 3, .slice (some ⟨W.heap.size + 1 + 1 + 1, 0, none⟩) 4 4, .slice (some ⟨W.heap.size + 1 + 1 + 1 + 1, 0, none⟩) 3 3] 24 i
    have e : (((((W.alloc (.cells #[.int .i64 0] 3)).alloc (.cells #[.int .i64 3, .int .i64 (-3)] 3)).alloc (.cells #[.int .i64 1, .int .i64 1, .int .i64 2] 3)).alloc (.cells #[.int .i64 4, .int .i64 1, .int .i64 3, .int .i64 2] 3)).alloc (.cells #[.int .i64 (-9223372036854775808), .int .i64 9223372036854775807, .int .i64 0] 3)).heap.size = W.heap.size + 1 + 1 + 1 + 1 + 1 := by simp
    rw [e] at this
    exact this
  refine ⟨by unfold six; simp, fun i hi => ?_⟩
  have h6 : i = 0 ∨ i = 1 ∨ i = 2 ∨ i = 3 ∨ i = 4 ∨ i = 5 := by omega
  rcases h6 with rfl | rfl | rfl | rfl | rfl | rfl
  · exact ⟨_, [], (hc 0).trans rfl, ⟨none, 0, rfl, Nat.le_refl _, Kd.C_nil _ _⟩, by decide⟩
  · exact ⟨_, [0], (hc 1).trans rfl, j1, by decide⟩
  · exact ⟨_, [3, -3], (hc 2).trans rfl, by simpa using j2, by decide⟩
  · exact ⟨_, [1, 1, 2], (hc 3).trans rfl, by simpa using j3, by decide⟩
  · exact ⟨_, [4, 1, 3, 2], (hc 4).trans rfl, by simpa using j4, by decide⟩
  · exact ⟨_, [-9223372036854775808, 9223372036854775807, 0], (hc 5).trans rfl, by simpa using j5, by decide⟩
theorem six_below (w W : World) (h : Below w.heap.size w W) : Below w.heap.size w (six W) := below_alloc (below_alloc (below_alloc (below_alloc (below_alloc (below_alloc h _) _) _) _) _) _

set_option maxHeartbeats 16000000 in
set_option maxRecDepth 100000 in
theorem Small_calls (w : World) : Calls Try.prog 8 #[] w fun e w' => e = .returned (.bool true) ∧ Below w.heap.size w w' := by
  have HB := Aside0.mk (Below.refl w.heap.size w)
  go_enter Try.func8, Try.ntmps8
  go_wp2_with fail
  go_loopw [1] (fun v1 W => ∃ n : Int, -1 ≤ n ∧ n ≤ 7 ∧ v1 = .int .i64 n ∧ Aside0 (Below w.heap.size w W)) (fun v1 _ => (7 - intOf v1).toNat)
  case atStart => exact ⟨-1, by omega, by omega, rfl, HB⟩
  case round =>
    obtain ⟨n, hn1, hn2, rfl, HB⟩ := hrel
    by_cases hn3 : n ≤ 6
    · go_wp2_with fail
      go_loopw [2] (fun v2 W => ∃ k : Int, -1 ≤ k ∧ k ≤ n + 2 ∧ v2 = .int .i64 k ∧ Aside0 (Below w.heap.size w W)) (fun v2 _ => (n + 2 - intOf v2).toNat)
      case atStart => exact ⟨-1, by omega, by omega, rfl, HB⟩
      case round =>
        obtain ⟨k, hk1, hk2, rfl, HB⟩ := hrel
        by_cases hk3 : k ≤ n + 1
        · go_wp2_with fail
          obtain ⟨w1, hw1⟩ : ∃ w1, w1 = wr.alloc (.cells #[.int .i64 (-1), .int .i64 0, .int .i64 1, .int .i64 4999, .int .i64 5000, .int .i64 5001, .int .i64 9999, .int .i64 10000, .int .i64 10001] 3) := ⟨_, rfl⟩
          rw [← hw1]
          have HL := Aside0.mk (show LitAt w1 wr.heap.size 9 by rw [hw1]; exact LitAt.mk wr [-1, 0, 1, 4999, 5000, 5001, 9999, 10000, 10001] _ _ rfl (by intro x hx; simp only [List.mem_cons, List.not_mem_nil, or_false] at hx; rcases hx with rfl | rfl | rfl | rfl | rfl | rfl | rfl | rfl | rfl <;> decide))
          have HB := Aside0.mk (show Below w.heap.size w w1 by rw [hw1]; exact below_alloc HB.out _)
          clear hw1
          generalize wr.heap.size = g26 at *
          go_loopw [26] (fun v26 W => ∃ j : Nat, j ≤ 9 ∧ v26 = .int .i64 j ∧ Aside0 (LitAt W g26 9) ∧ Aside0 (Below w.heap.size w W)) (fun v26 _ => 9 - (intOf v26).toNat)
          case atStart => exact ⟨0, by omega, rfl, HL, HB⟩
          case round =>
            obtain ⟨j, hj, rfl, HL, HB⟩ := hrel
            by_cases hj3 : j < 9
            · obtain ⟨x, hx, _⟩ := HL.out.2 j hj3
              go_wp2_with fail
              refine (tells_calls n k x _).mono ?_
              rintro e u1 ⟨rfl, b_⟩
              have HL := Aside0.mk (HL.out.below b_)
              have HB := Aside0.mk (below_then HB.out b_)
              clear b_ hx
              go_wp2_with fail
              go_roundw
              case rel => exact ⟨j + 1, by omega, by go_num, HL, HB⟩
              case measure => simp [intOf]; omega
            · obtain rfl : j = 9 := by omega
              clear HL hj3
              go_wp2_with fail
              obtain ⟨w1, hw1⟩ : ∃ w1, w1 = wr.alloc (.cells #[.int .i64 0, .int .i64 1, .int .i64 2, .int .i64 500, .int .i64 1999, .int .i64 2000, .int .i64 2001] 3) := ⟨_, rfl⟩
              rw [← hw1]
              have HL := Aside0.mk (show LitAt w1 wr.heap.size 7 by rw [hw1]; exact LitAt.mk wr [0, 1, 2, 500, 1999, 2000, 2001] _ _ rfl (by intro x hx; simp only [List.mem_cons, List.not_mem_nil, or_false] at hx; rcases hx with rfl | rfl | rfl | rfl | rfl | rfl | rfl <;> decide))
              have HB := Aside0.mk (show Below w.heap.size w w1 by rw [hw1]; exact below_alloc HB.out _)
              clear hw1
              generalize wr.heap.size = g38 at *
              have wn := wf_mk (n := n) (by omega) (by omega)
              have wk := wf_mk (n := k) (by omega) (by omega)
              have WN := Aside0.mk wn
              have WK := Aside0.mk wk
              clear wn wk
              go_loopw [38] (fun v38 W => ∃ j : Nat, j ≤ 7 ∧ v38 = .int .i64 j ∧ Aside0 (LitAt W g38 7) ∧ Aside0 (Below w.heap.size w W)) (fun v38 _ => 7 - (intOf v38).toNat)
              case atStart => exact ⟨0, by omega, rfl, HL, HB⟩
              case round =>
                obtain ⟨j, hj, rfl, HL, HB⟩ := hrel
                by_cases hj3 : j < 7
                · obtain ⟨x, hx, _⟩ := HL.out.2 j hj3
                  go_wp2_with fail
                  refine (bounds_calls n k x WN.out WK.out _).mono ?_
                  rintro e u1 ⟨rfl, b_⟩
                  have HL := Aside0.mk (HL.out.below b_)
                  have HB := Aside0.mk (below_then HB.out b_)
                  clear b_ hx
                  go_wp2_with fail
                  refine ⟨?_, ?_⟩
                  · repeat apply Exists.intro
                    refine ⟨?_, rfl⟩
                    exact ⟨j + 1, by omega, by go_num, HL, HB⟩
                  · simp [intOf]; omega
                · obtain rfl : j = 7 := by omega
                  clear HL hj3
                  go_wp2_with fail
                  go_roundw
                  case rel => exact ⟨k + 1, by omega, by omega, by go_num, HB⟩
                  case measure => simp [intOf]; omega
        · obtain rfl : k = n + 2 := by omega
          go_wp2_with fail
          go_roundw
          case rel => exact ⟨n + 1, by omega, by omega, by go_num, HB⟩
          case measure => simp [intOf]; omega
    · obtain rfl : n = 7 := by omega
      clear hn1 hn2 hn3
      go_wp2_with fail
      obtain ⟨w1, hw1⟩ : ∃ w1, w1 = wr.alloc (.cells #[.int .i64 (-9223372036854775808), .int .i64 (-1), .int .i64 501, .int .i64 9223372036854775807] 3) := ⟨_, rfl⟩
      rw [← hw1]
      have HL := Aside0.mk (show LitAt w1 wr.heap.size 4 by rw [hw1]; exact LitAt.mk wr [-9223372036854775808, -1, 501, 9223372036854775807] _ _ rfl (by intro x hx; simp only [List.mem_cons, List.not_mem_nil, or_false] at hx; rcases hx with rfl | rfl | rfl | rfl <;> decide))
      have HB := Aside0.mk (show Below w.heap.size w w1 by rw [hw1]; exact below_alloc HB.out _)
      clear hw1
      generalize wr.heap.size = g50 at *
      go_loopw [50] (fun v50 W => ∃ j : Nat, j ≤ 4 ∧ v50 = .int .i64 j ∧ Aside0 (LitAt W g50 4) ∧ Aside0 (Below w.heap.size w W)) (fun v50 _ => 4 - (intOf v50).toNat)
      case atStart => exact ⟨0, by omega, rfl, HL, HB⟩
      case round =>
        obtain ⟨j, hj, rfl, HL, HB⟩ := hrel
        by_cases hj3 : j < 4
        · obtain ⟨x, hx, wx⟩ := HL.out.2 j hj3
          have WX := Aside0.mk wx
          clear wx
          go_wp2_with fail
          clear hx
          have HL4 := Aside0.mk (HL.out.below (below_alloc (Below.refl _ _) (.cells #[.int .i64 (-9223372036854775808), .int .i64 (-1), .int .i64 0, .int .i64 501, .int .i64 9223372036854775807] 3)))
          clear HL
          obtain ⟨w1, hw1⟩ : ∃ w1, w1 = wr.alloc (.cells #[.int .i64 (-9223372036854775808), .int .i64 (-1), .int .i64 0, .int .i64 501, .int .i64 9223372036854775807] 3) := ⟨_, rfl⟩
          rw [← hw1]
          rw [← hw1] at HL4
          have HL := Aside0.mk (show LitAt w1 wr.heap.size 5 by rw [hw1]; exact LitAt.mk wr [-9223372036854775808, -1, 0, 501, 9223372036854775807] _ _ rfl (by intro x hx; simp only [List.mem_cons, List.not_mem_nil, or_false] at hx; rcases hx with rfl | rfl | rfl | rfl | rfl <;> decide))
          have HB := Aside0.mk (show Below w.heap.size w w1 by rw [hw1]; exact below_alloc HB.out _)
          clear hw1
          generalize wr.heap.size = g56 at *
          rw [decide_eq_true (show (j : Int) < 4 by omega)]
          go_loopw [56] (fun v56 W => ∃ i : Nat, i ≤ 5 ∧ v56 = .int .i64 i ∧ Aside0 (LitAt W g56 5) ∧ Aside0 (LitAt W g50 4) ∧ Aside0 (Below w.heap.size w W)) (fun v56 _ => 5 - (intOf v56).toNat)
          case atStart => exact ⟨0, by omega, rfl, HL, HL4, HB⟩
          case round =>
            obtain ⟨i, hi, rfl, HL, HL4, HB⟩ := hrel
            by_cases hi3 : i < 5
            · obtain ⟨y, hy, wy⟩ := HL.out.2 i hi3
              have WY := Aside0.mk wy
              clear wy
              go_wp2_with fail
              clear hy
              refine (tells_calls x y 1 _).mono ?_
              rintro e u1 ⟨rfl, b_⟩
              have HL := Aside0.mk (HL.out.below b_)
              have HL4 := Aside0.mk (HL4.out.below b_)
              have HB := Aside0.mk (below_then HB.out b_)
              clear b_
              go_wp2_with fail
              refine (tells_calls 3 1 x _).mono ?_
              rintro e u2 ⟨rfl, b_⟩
              have HL := Aside0.mk (HL.out.below b_)
              have HL4 := Aside0.mk (HL4.out.below b_)
              have HB := Aside0.mk (below_then HB.out b_)
              clear b_
              go_wp2_with fail
              refine (bounds_calls x y 1 WX.out WY.out _).mono ?_
              rintro e u3 ⟨rfl, b_⟩
              have HL := Aside0.mk (HL.out.below b_)
              have HL4 := Aside0.mk (HL4.out.below b_)
              have HB := Aside0.mk (below_then HB.out b_)
              clear b_
              go_wp2_with fail
              refine (bounds_calls 3 1 y (by decide) (by decide) _).mono ?_
              rintro e u4 ⟨rfl, b_⟩
              have HL := Aside0.mk (HL.out.below b_)
              have HL4 := Aside0.mk (HL4.out.below b_)
              have HB := Aside0.mk (below_then HB.out b_)
              clear b_
              go_wp2_with fail
              refine (quantiles_calls [y, x] y _ (isI_two u4 _ y x) (by simp)).mono ?_
              rintro e u5 ⟨rfl, b0_⟩
              have b_ := below_then (below_alloc (Below.refl u4.heap.size u4) (.cells #[.int .i64 y, .int .i64 x] 3)) b0_
              clear b0_
              have HL := Aside0.mk (HL.out.below b_)
              have HL4 := Aside0.mk (HL4.out.below b_)
              have HB := Aside0.mk (below_then HB.out b_)
              clear b_
              go_wp2_with fail
              go_roundw
              case rel => exact ⟨i + 1, by omega, by go_num, HL, HL4, HB⟩
              case measure => simp [intOf]; omega
            · obtain rfl : i = 5 := by omega
              clear HL hi3
              go_wp2_with fail
              go_roundw
              case rel => exact ⟨j + 1, by omega, by go_num, HL4, HB⟩
              case measure => simp [intOf]; omega
        · obtain rfl : j = 4 := by omega
          clear HL hj3
          go_wp2_with fail
          change Code.wp _ _ _ _ (six wr)
          have HS := Aside0.mk (six_at wr)
          have HB := Aside0.mk (six_below w wr HB.out)
          generalize six wr = w1 at *
          generalize wr.heap.size + 1 + 1 + 1 + 1 + 1 = g97 at *
          go_loopw [97] (fun v97 W => ∃ i : Nat, i ≤ 6 ∧ v97 = .int .i64 i ∧ Aside0 (SlicesAt W g97 6) ∧ Aside0 (Below w.heap.size w W)) (fun v97 _ => 6 - (intOf v97).toNat)
          case atStart => exact ⟨0, by omega, rfl, HS, HB⟩
          case round =>
            obtain ⟨i, hi, rfl, HS, HB⟩ := hrel
            by_cases hi3 : i < 6
            · obtain ⟨v, l, hx, hv, hlen⟩ := HS.out.2 i hi3
              have HI := Aside0.mk hv
              have HLN := Aside0.mk (show l.length * 8 ≤ 140737488351232 by omega)
              clear hv hlen
              go_wp2_with fail
              clear hx
              rw [decide_eq_true (show (i : Int) < 6 by omega)]
              go_loopw [13] (fun v13 W => ∃ q : Int, -1250 ≤ q ∧ q ≤ 12500 ∧ v13 = .int .i64 q ∧ Aside0 (IsI W v l) ∧ Aside0 (SlicesAt W g97 6) ∧ Aside0 (Below w.heap.size w W)) (fun v13 _ => (12500 - intOf v13).toNat)
              case atStart => exact ⟨-1250, by omega, by omega, rfl, HI, HS, HB⟩
              case round =>
                obtain ⟨q, hq1, hq2, rfl, HI, HS, HB⟩ := hrel
                by_cases hq3 : q ≤ 11250
                · go_wp2_with fail
                  refine (quantiles_calls l q _ HI.out HLN.out).mono ?_
                  rintro e u1 ⟨rfl, b_⟩
                  have HI := Aside0.mk (HI.out.below b_)
                  have HS := Aside0.mk (HS.out.below b_)
                  have HB := Aside0.mk (below_then HB.out b_)
                  clear b_
                  go_wp2_with fail
                  refine (quantiles_calls l (q + 1) _ HI.out HLN.out).mono ?_
                  rintro e u2 ⟨rfl, b_⟩
                  have HI := Aside0.mk (HI.out.below b_)
                  have HS := Aside0.mk (HS.out.below b_)
                  have HB := Aside0.mk (below_then HB.out b_)
                  clear b_
                  go_wp2_with fail
                  refine ⟨?_, ?_⟩
                  · repeat apply Exists.intro
                    refine ⟨?_, rfl⟩
                    exact ⟨q + 1250, by omega, by omega, by go_num, HI, HS, HB⟩
                  · simp [intOf]; omega
                · go_wp2_with fail
                  go_roundw
                  case rel => exact ⟨i + 1, by omega, by go_num, HS, HB⟩
                  case measure => simp [intOf]; omega
            · obtain rfl : i = 6 := by omega
              go_wp2_with fail
              refine (ends_calls _).mono ?_
              rintro e u1 ⟨rfl, b_⟩
              have HB := Aside0.mk (below_then HB.out b_)
              clear b_
              go_wp2_with fail
              go_ret
              exact ⟨rfl, HB.out⟩

end Go.Proofs.Ytenmlkcjgefmpaa
