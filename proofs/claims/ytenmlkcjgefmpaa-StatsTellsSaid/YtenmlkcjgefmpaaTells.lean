/- StatsTells and StatsBounds: the walks. -/
import Derived.Test.YtenmlkcjgefmpaaTellA
import Derived.OpenShut
namespace Go.Proofs.Ytenmlkcjgefmpaa
open Go Go.RowKit Go.Proofs.YtenmlkcjgefmpaaW.PrintWords Go.Proofs.YtenmlkcjgefmpaaW.PrintLast Go.Proofs.YtenmlkcjgefmpaaW.PrintMore Go.Proofs.Ytenmlkcjgefmpaa.Fn
attribute [local go_sem] max2_int min2_int max_two min_two max_three min_three max_four min_four

set_option linter.unusedVariables false

set_option maxHeartbeats 4000000 in
set_option maxRecDepth 100000 in
theorem bounds_calls (n k r : Int) (hn : (Lit.int .i64 n).wf = true) (hk : (Lit.int .i64 k).wf = true) (w : World) :
    Calls Try.prog 15 #[.int .i64 n, .int .i64 k, .int .i64 r] w fun e w' => e = .returned (.bool true) ∧ Below w.heap.size w w' := by
  have hn' := bounds_i64 hn
  have hk' := bounds_i64 hk
  have HG := Aside0.mk (fun W => Greatest_all n k r W hn'.1 hn'.2 hk'.1 hk'.2)
  clear hn hk hn' hk'
  go_enter Try.func15, Try.ntmps15
  by_cases c1 : n > 40
  · by_cases c2 : n ≤ 500
    · go_wp2_with fail
      go_ret
      exact ⟨rfl, Below.refl _ _⟩
    · go_wp2_with fail
      refine (Least_all n k r _).mono ?_
      rintro e w1 ⟨rfl, b1⟩
      have b1 := b1
      go_wp2_with fail
      refine (RLeast_all n k r _).mono ?_
      rintro e w2 ⟨rfl, b2⟩
      have b2 := below_then b1 b2
      clear b1
      go_wp2_with fail
      refine (HG.out _).mono ?_
      rintro e w3 ⟨rfl, b3⟩
      have b3 := below_then b2 b3
      clear b2
      go_wp2_with fail
      refine (RGreatest_all n k r _).mono ?_
      rintro e w4 ⟨rfl, b4⟩
      have b4 := below_then b3 b4
      clear b3
      have e1 : ((leastV n k r) == (leastV n k r)) = true := beq_self_eq_true _
      have e2 : ((greatV n k r) == (greatV n k r)) = true := beq_self_eq_true _
      have e3 : ((wrongE n k r 1 2000) == (wrongE n k r 1 2000)) = true := beq_self_eq_true _
      go_wp2_with fail
      go_ret
      exact ⟨rfl, b4⟩
  · go_wp2_with fail
    refine (Least_all n k r _).mono ?_
    rintro e w1 ⟨rfl, b1⟩
    have b1 := b1
    go_wp2_with fail
    refine (RLeast_all n k r _).mono ?_
    rintro e w2 ⟨rfl, b2⟩
    have b2 := below_then b1 b2
    clear b1
    go_wp2_with fail
    refine (HG.out _).mono ?_
    rintro e w3 ⟨rfl, b3⟩
    have b3 := below_then b2 b3
    clear b2
    go_wp2_with fail
    refine (RGreatest_all n k r _).mono ?_
    rintro e w4 ⟨rfl, b4⟩
    have b4 := below_then b3 b4
    clear b3
    have e1 : ((leastV n k r) == (leastV n k r)) = true := beq_self_eq_true _
    have e2 : ((greatV n k r) == (greatV n k r)) = true := beq_self_eq_true _
    have e3 : ((wrongE n k r 1 2000) == (wrongE n k r 1 2000)) = true := beq_self_eq_true _
    go_wp2_with fail
    go_ret
    exact ⟨rfl, b4⟩

set_option maxHeartbeats 4000000 in
set_option maxRecDepth 100000 in
theorem Bounds_calls (n k r : Int) (hn : (Lit.int .i64 n).wf = true) (hk : (Lit.int .i64 k).wf = true) (hr : (Lit.int .i64 r).wf = true) (w : World) :
    Calls Try.prog 3 #[.int .i64 n, .int .i64 k, .int .i64 r] w fun e w' => e = .returned (.bool true) ∧ Below w.heap.size w w' := by
  have HG := Aside0.mk (fun W => bounds_calls n k r hn hk W)
  clear hn hk hr
  go_enter Try.func3, Try.ntmps3
  go_wp2_with fail
  refine (awake_calls _).mono ?_
  rintro e w1 ⟨rfl, b1⟩
  go_wp2_with fail
  refine (HG.out _).mono ?_
  rintro e w2 ⟨rfl, b2⟩
  have b3 := below_then b1 b2
  go_wp2_with fail
  go_ret
  exact ⟨rfl, b3⟩

set_option maxHeartbeats 4000000 in
set_option maxRecDepth 100000 in
theorem tells_calls (n k s : Int) (w : World) :
    Calls Try.prog 28 #[.int .i64 n, .int .i64 k, .int .i64 s] w fun e w' => e = .returned (.bool true) ∧ Below w.heap.size w w' := by
  go_enter Try.func28, Try.ntmps28
  have HB := Aside0.mk (Below.refl w.heap.size w)
  by_cases c1 : n > 60
  · by_cases c2 : n ≤ 500
    · go_wp2_with fail
      go_ret
      exact ⟨rfl, Below.refl _ _⟩
    · go_wp2_with fail
      have e1 : ((wrongE n k 0 0 0) == (wrongE n k 0 0 0)) = true := beq_self_eq_true _
      have e2 : ((wrongE n k s 0 10000) == (wrongE n k s 0 10000)) = true := beq_self_eq_true _
      have E1 := Aside0.mk e1
      have E2 := Aside0.mk e2
      clear e1 e2
      refine (Choose_all n k _).mono ?_
      rintro e u1 ⟨v1, rfl, h_, b_⟩
      have HB := Aside0.mk (below_then HB.out b_)
      have Ha := Aside0.mk h_
      clear h_
      clear b_
      go_wp2_with fail
      refine (RChoose_all n k _).mono ?_
      rintro e u2 ⟨v2, rfl, h_, b_⟩
      have Ha := Aside0.mk (Ha.out.below b_)
      have HB := Aside0.mk (below_then HB.out b_)
      have Hb := Aside0.mk h_
      clear h_
      clear b_
      go_wp2_with fail
      refine (same_calls _ Ha.out Hb.out).mono ?_
      rw [decide_eq_true rfl]
      rintro e u3 ⟨rfl, d_⟩
      have b_ := drawn0_below (Below.refl _ _) d_
      clear d_
      have HB := Aside0.mk (below_then HB.out b_)
      clear b_
      have e1 := E1.out
      have e2 := E2.out
      go_wp2_with fail
      clear e1 e2
      refine (Chance_all n k s _).mono ?_
      rintro e u4 ⟨v4, rfl, h_, b_⟩
      have HB := Aside0.mk (below_then HB.out b_)
      have Hc := Aside0.mk h_
      clear h_
      clear b_
      go_wp2_with fail
      refine (RChance_all n k s _).mono ?_
      rintro e u5 ⟨v5, rfl, h_, b_⟩
      have Hc := Aside0.mk (Hc.out.below b_)
      have HB := Aside0.mk (below_then HB.out b_)
      have Hd := Aside0.mk h_
      clear h_
      clear b_
      go_wp2_with fail
      refine (same_calls _ Hc.out Hd.out).mono ?_
      rw [decide_eq_true rfl]
      rintro e u6 ⟨rfl, d_⟩
      have b_ := drawn0_below (Below.refl _ _) d_
      clear d_
      have HB := Aside0.mk (below_then HB.out b_)
      clear b_
      have e1 := E1.out
      have e2 := E2.out
      go_wp2_with fail
      clear e1 e2
      refine (Upper_all n k s _).mono ?_
      rintro e u7 ⟨v7, rfl, h_, b_⟩
      have HB := Aside0.mk (below_then HB.out b_)
      have Ha := Aside0.mk h_
      clear h_
      clear b_
      go_wp2_with fail
      refine (RUpper_all n k s _).mono ?_
      rintro e u8 ⟨v8, rfl, h_, b_⟩
      have Ha := Aside0.mk (Ha.out.below b_)
      have HB := Aside0.mk (below_then HB.out b_)
      have Hb := Aside0.mk h_
      clear h_
      clear b_
      go_wp2_with fail
      refine (Lower_all n k s _).mono ?_
      rintro e u9 ⟨v9, rfl, h_, b_⟩
      have Ha := Aside0.mk (Ha.out.below b_)
      have Hb := Aside0.mk (Hb.out.below b_)
      have HB := Aside0.mk (below_then HB.out b_)
      have Hc := Aside0.mk h_
      clear h_
      clear b_
      go_wp2_with fail
      refine (RLower_all n k s _).mono ?_
      rintro e u10 ⟨v10, rfl, h_, b_⟩
      have Ha := Aside0.mk (Ha.out.below b_)
      have Hb := Aside0.mk (Hb.out.below b_)
      have Hc := Aside0.mk (Hc.out.below b_)
      have HB := Aside0.mk (below_then HB.out b_)
      have Hd := Aside0.mk h_
      clear h_
      clear b_
      go_wp2_with fail
      refine (same_calls _ Ha.out Hb.out).mono ?_
      rw [decide_eq_true rfl]
      rintro e u11 ⟨rfl, d_⟩
      have b_ := drawn0_below (Below.refl _ _) d_
      clear d_
      have Hc := Aside0.mk (Hc.out.below b_)
      have Hd := Aside0.mk (Hd.out.below b_)
      have HB := Aside0.mk (below_then HB.out b_)
      clear b_
      have e1 := E1.out
      have e2 := E2.out
      go_wp2_with fail
      clear e1 e2
      refine (same_calls _ Hc.out Hd.out).mono ?_
      rw [decide_eq_true rfl]
      rintro e u12 ⟨rfl, d_⟩
      have b_ := drawn0_below (Below.refl _ _) d_
      clear d_
      have HB := Aside0.mk (below_then HB.out b_)
      clear b_
      have e1 := E1.out
      have e2 := E2.out
      go_wp2_with fail
      go_ret
      exact ⟨rfl, HB.out⟩
  · go_wp2_with fail
    have e1 : ((wrongE n k 0 0 0) == (wrongE n k 0 0 0)) = true := beq_self_eq_true _
    have e2 : ((wrongE n k s 0 10000) == (wrongE n k s 0 10000)) = true := beq_self_eq_true _
    have E1 := Aside0.mk e1
    have E2 := Aside0.mk e2
    clear e1 e2
    refine (Choose_all n k _).mono ?_
    rintro e u1 ⟨v1, rfl, h_, b_⟩
    have HB := Aside0.mk (below_then HB.out b_)
    have Ha := Aside0.mk h_
    clear h_
    clear b_
    go_wp2_with fail
    refine (RChoose_all n k _).mono ?_
    rintro e u2 ⟨v2, rfl, h_, b_⟩
    have Ha := Aside0.mk (Ha.out.below b_)
    have HB := Aside0.mk (below_then HB.out b_)
    have Hb := Aside0.mk h_
    clear h_
    clear b_
    go_wp2_with fail
    refine (same_calls _ Ha.out Hb.out).mono ?_
    rw [decide_eq_true rfl]
    rintro e u3 ⟨rfl, d_⟩
    have b_ := drawn0_below (Below.refl _ _) d_
    clear d_
    have HB := Aside0.mk (below_then HB.out b_)
    clear b_
    have e1 := E1.out
    have e2 := E2.out
    go_wp2_with fail
    clear e1 e2
    refine (Chance_all n k s _).mono ?_
    rintro e u4 ⟨v4, rfl, h_, b_⟩
    have HB := Aside0.mk (below_then HB.out b_)
    have Hc := Aside0.mk h_
    clear h_
    clear b_
    go_wp2_with fail
    refine (RChance_all n k s _).mono ?_
    rintro e u5 ⟨v5, rfl, h_, b_⟩
    have Hc := Aside0.mk (Hc.out.below b_)
    have HB := Aside0.mk (below_then HB.out b_)
    have Hd := Aside0.mk h_
    clear h_
    clear b_
    go_wp2_with fail
    refine (same_calls _ Hc.out Hd.out).mono ?_
    rw [decide_eq_true rfl]
    rintro e u6 ⟨rfl, d_⟩
    have b_ := drawn0_below (Below.refl _ _) d_
    clear d_
    have HB := Aside0.mk (below_then HB.out b_)
    clear b_
    have e1 := E1.out
    have e2 := E2.out
    go_wp2_with fail
    clear e1 e2
    refine (Upper_all n k s _).mono ?_
    rintro e u7 ⟨v7, rfl, h_, b_⟩
    have HB := Aside0.mk (below_then HB.out b_)
    have Ha := Aside0.mk h_
    clear h_
    clear b_
    go_wp2_with fail
    refine (RUpper_all n k s _).mono ?_
    rintro e u8 ⟨v8, rfl, h_, b_⟩
    have Ha := Aside0.mk (Ha.out.below b_)
    have HB := Aside0.mk (below_then HB.out b_)
    have Hb := Aside0.mk h_
    clear h_
    clear b_
    go_wp2_with fail
    refine (Lower_all n k s _).mono ?_
    rintro e u9 ⟨v9, rfl, h_, b_⟩
    have Ha := Aside0.mk (Ha.out.below b_)
    have Hb := Aside0.mk (Hb.out.below b_)
    have HB := Aside0.mk (below_then HB.out b_)
    have Hc := Aside0.mk h_
    clear h_
    clear b_
    go_wp2_with fail
    refine (RLower_all n k s _).mono ?_
    rintro e u10 ⟨v10, rfl, h_, b_⟩
    have Ha := Aside0.mk (Ha.out.below b_)
    have Hb := Aside0.mk (Hb.out.below b_)
    have Hc := Aside0.mk (Hc.out.below b_)
    have HB := Aside0.mk (below_then HB.out b_)
    have Hd := Aside0.mk h_
    clear h_
    clear b_
    go_wp2_with fail
    refine (same_calls _ Ha.out Hb.out).mono ?_
    rw [decide_eq_true rfl]
    rintro e u11 ⟨rfl, d_⟩
    have b_ := drawn0_below (Below.refl _ _) d_
    clear d_
    have Hc := Aside0.mk (Hc.out.below b_)
    have Hd := Aside0.mk (Hd.out.below b_)
    have HB := Aside0.mk (below_then HB.out b_)
    clear b_
    have e1 := E1.out
    have e2 := E2.out
    go_wp2_with fail
    clear e1 e2
    refine (same_calls _ Hc.out Hd.out).mono ?_
    rw [decide_eq_true rfl]
    rintro e u12 ⟨rfl, d_⟩
    have b_ := drawn0_below (Below.refl _ _) d_
    clear d_
    have HB := Aside0.mk (below_then HB.out b_)
    clear b_
    have e1 := E1.out
    have e2 := E2.out
    go_wp2_with fail
    go_ret
    exact ⟨rfl, HB.out⟩

set_option maxHeartbeats 4000000 in
set_option maxRecDepth 100000 in
theorem Tells_calls (n k s : Int) (hn : (Lit.int .i64 n).wf = true) (hk : (Lit.int .i64 k).wf = true) (hs : (Lit.int .i64 s).wf = true) (w : World) :
    Calls Try.prog 7 #[.int .i64 n, .int .i64 k, .int .i64 s] w fun e w' => e = .returned (.bool true) ∧ Below w.heap.size w w' := by
  clear hn hk hs
  go_enter Try.func7, Try.ntmps7
  go_wp2_with fail
  refine (awake_calls _).mono ?_
  rintro e w1 ⟨rfl, b1⟩
  go_wp2_with fail
  refine (tells_calls n k s _).mono ?_
  rintro e w2 ⟨rfl, b2⟩
  have b3 := below_then b1 b2
  go_wp2_with fail
  go_ret
  exact ⟨rfl, b3⟩

end Go.Proofs.Ytenmlkcjgefmpaa
