/- StatsQuantiles: the walk. -/
import Derived.Test.YtenmlkcjgefmpaaKit
import Derived.Test.YtenmlkcjgefmpaaRank
import Derived.Test.YtenmlkcjgefmpaaLent
namespace Go.Proofs.Ytenmlkcjgefmpaa
set_option linter.unusedVariables false
open Go.RowKit Go.Proofs.YtenmlkcjgefmpaaW.PrintWords Go.Proofs.YtenmlkcjgefmpaaW.PrintLast Go.Proofs.YtenmlkcjgefmpaaW.PrintMore Go.Proofs.Ytenmlkcjgefmpaa.Fn
attribute [local go_sem] max2_int min2_int max_two min_two max_three min_three max_four min_four

theorem C_take {w : World} {A : Option Addr} {n : Nat} {l m : List Int} (h : Kd.C (Kd.int .i64) w A n (l ++ m)) : Kd.C (Kd.int .i64) w A l.length l := by
  obtain ⟨h1, h2, h3⟩ := h
  rw [List.length_append] at h1
  refine ⟨rfl, by omega, fun hp => ?_⟩
  obtain ⟨ad, e, hc⟩ := h3 (by omega)
  refine ⟨ad, e, fun j p hj => hc j p ?_⟩
  obtain ⟨hj1, _⟩ := List.getElem?_eq_some_iff.1 hj
  rw [List.getElem?_append_left hj1]; exact hj

theorem RQuantile_calls {v : Value} (l : List Int) (q : Int) (w : World) (hv : IsI w v l) :
    Calls Try.prog 44 #[v, .int .i64 q] w fun e w' => e = .returned (.tuple #[.int .i64 (quantN l q), .int .i64 (quantE l q)]) ∧ Drawn0 w w' := by
  obtain ⟨A, c, rfl, hc, hr⟩ := hv
  obtain ⟨k, hk⟩ := (ref_Quantile l q).ex
  exact letterbagref04_Quantile.calls k A c l q _ _ w hr hc hk

set_option maxHeartbeats 4000000 in
set_option maxRecDepth 100000 in
theorem quantiles_calls {v : Value} (l : List Int) (q : Int) (w : World) (hv : IsI w v l) (hl : l.length * 8 ≤ 140737488351232) :
    Calls Try.prog 16 #[v, .int .i64 q] w fun e w' => e = .returned (.bool true) ∧ Below w.heap.size w w' := by
  have HV := Aside0.mk hv
  have HL := Aside0.mk hl
  obtain ⟨A, c, rfl, hc, hr⟩ := hv
  clear hr hl hc
  have e1 : ((quantN l q) == (quantN l q)) = true := beq_self_eq_true _
  have e2 : ((quantE l q) == (quantE l q)) = true := beq_self_eq_true _
  have E1 := Aside0.mk e1
  have E2 := Aside0.mk e2
  clear e1 e2
  go_enter Try.func16, Try.ntmps16
  by_cases c1 : l.length > 300 ∧ l.length ≤ 10000
  · obtain ⟨c1, c2⟩ := c1
    have d1 : decide (300 < l.length) = true := decide_eq_true c1
    have d2 : decide (l.length ≤ 10000) = true := decide_eq_true c2
    go_wp2_with fail
    go_ret
    exact ⟨rfl, Below.refl _ _⟩
  · have main : (300 < l.length ∧ 10000 < l.length) ∨ l.length ≤ 300 := by omega
    clear c1
    rcases main with ⟨c1, c2⟩ | c1
    · have d1 : decide (300 < l.length) = true := decide_eq_true c1
      have d2 : decide (l.length ≤ 10000) = false := decide_eq_false (by omega)
      go_wp2_with fail
      refine (Lent_calls l _ HV.out HL.out).mono ?_
      rintro e w1 ⟨g, cap, rfl, hcap, hC, b1⟩
      have HC := Aside0.mk hC
      have HI := Aside0.mk (show IsI w1 (.slice (some ⟨g, 0, none⟩) l.length cap) l from ⟨_, _, rfl, by omega, C_take hC⟩)
      have HB1 := Aside0.mk b1
      have HV1 := Aside0.mk (HV.out.below b1)
      have HCP := Aside0.mk hcap
      clear hC b1 hcap
      go_wp2_with fail
      refine (Quantile_calls l q _ HI.out).mono ?_
      rintro e w2 ⟨rfl, b2⟩
      have HB2 := Aside0.mk (below_then HB1.out b2)
      have HV2 := Aside0.mk (HV1.out.below b2)
      have HC2 := Aside0.mk (Kd.C_below HC.out b2)
      clear b2
      go_wp2_with fail
      refine (RQuantile_calls l q _ HV2.out).mono ?_
      rintro e w3 ⟨rfl, d3⟩
      have b3 := drawn_below d3
      have HB3 := Aside0.mk (below_then HB2.out b3)
      have HV3 := Aside0.mk (HV2.out.below b3)
      have HC3 := Aside0.mk (Kd.C_below HC2.out b3)
      clear b3 d3
      have e1 := E1.out
      have e2 := E2.out
      go_wp2_with fail
      refine (Kept_calls l _ g cap _ HV3.out HCP.out HL.out HC3.out).mono ?_
      rintro e w4 ⟨rfl, d4⟩
      have b4 := below_then HB3.out (drawn_below d4)
      go_wp2_with fail
      go_ret
      exact ⟨rfl, b4⟩
    · have d1 : decide (300 < l.length) = false := decide_eq_false (by omega)
      go_wp2_with fail
      refine (Lent_calls l _ HV.out HL.out).mono ?_
      rintro e w1 ⟨g, cap, rfl, hcap, hC, b1⟩
      have HC := Aside0.mk hC
      have HI := Aside0.mk (show IsI w1 (.slice (some ⟨g, 0, none⟩) l.length cap) l from ⟨_, _, rfl, by omega, C_take hC⟩)
      have HB1 := Aside0.mk b1
      have HV1 := Aside0.mk (HV.out.below b1)
      have HCP := Aside0.mk hcap
      clear hC b1 hcap
      go_wp2_with fail
      refine (Quantile_calls l q _ HI.out).mono ?_
      rintro e w2 ⟨rfl, b2⟩
      have HB2 := Aside0.mk (below_then HB1.out b2)
      have HV2 := Aside0.mk (HV1.out.below b2)
      have HC2 := Aside0.mk (Kd.C_below HC.out b2)
      clear b2
      go_wp2_with fail
      refine (RQuantile_calls l q _ HV2.out).mono ?_
      rintro e w3 ⟨rfl, d3⟩
      have b3 := drawn_below d3
      have HB3 := Aside0.mk (below_then HB2.out b3)
      have HV3 := Aside0.mk (HV2.out.below b3)
      have HC3 := Aside0.mk (Kd.C_below HC2.out b3)
      clear b3 d3
      have e1 := E1.out
      have e2 := E2.out
      go_wp2_with fail
      refine (Kept_calls l _ g cap _ HV3.out HCP.out HL.out HC3.out).mono ?_
      rintro e w4 ⟨rfl, d4⟩
      have b4 := below_then HB3.out (drawn_below d4)
      go_wp2_with fail
      go_ret
      exact ⟨rfl, b4⟩

set_option maxHeartbeats 4000000 in
set_option maxRecDepth 100000 in
theorem Quantiles_calls {v : Value} (l : List Int) (q : Int) (w : World) (hv : IsI w v l) (hl : l.length * 8 ≤ 140737488351232) :
    Calls Try.prog 4 #[v, .int .i64 q] w fun e w' => e = .returned (.bool true) ∧ Below w.heap.size w w' := by
  have HG := Aside0.mk (fun W (h : Below w.heap.size w W) => quantiles_calls l q W (hv.below h) hl)
  obtain ⟨A, c, rfl, hc, hr⟩ := hv
  clear hr hl hc
  go_enter Try.func4, Try.ntmps4
  go_wp2_with fail
  refine (awake_calls _).mono ?_
  rintro e w1 ⟨rfl, b1⟩
  go_wp2_with fail
  refine (HG.out _ b1).mono ?_
  rintro e w2 ⟨rfl, b2⟩
  have b3 := below_then b1 b2
  go_wp2_with fail
  go_ret
  exact ⟨rfl, b3⟩

end Go.Proofs.Ytenmlkcjgefmpaa
