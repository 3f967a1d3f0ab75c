/- The law functions' own check that the calls answer. -/
import Derived.Test.YtenmlkcjgefmpaaQuant
import Derived.Maps.RangeWalk
namespace Go.Proofs.Ytenmlkcjgefmpaa
open Go.RowKit Go.Maps Go.Proofs.YtenmlkcjgefmpaaW.PrintWords Go.Proofs.YtenmlkcjgefmpaaW.PrintLast Go.Proofs.YtenmlkcjgefmpaaW.PrintMore Go.Proofs.Ytenmlkcjgefmpaa.Fn
attribute [local go_sem] max2_int min2_int max_two min_two max_three min_three max_four min_four

theorem wpList_insert_own {H : Type} {P : Program} (w : World) {ops : Array Oper} {rest : List Oper} {o : Oper} {a : Act} {Q : Exit → Act → World → Prop}
    (hg : o.guard = none) (m x v : Operand) (t : TypeId) (hop : o.op = Op.insert t m x v)
    (k e : TypeId) (K : Keyed P k) (ht : P.underlying t = some (.map k e)) (R : Value → Option (DataW H × List MemPlace)) (b n : Nat) (D : DataW H)
    (hm : a.eval m = .map (some b)) (hown : w.ownsMap P k R b n D) (hn : n < maxLen) (key val : Value) (kl : Lit) (hx : a.eval x = key) (hv : a.eval v = val) (hkey : keyOf P k key = some kl)
    (d : DataW H) (ps : List MemPlace) (hval : R val = some (d, ps))
    (hK : ∀ w', w'.ownsMap P k R b (n + 1) (D.put kl d) → w.grownBy w' (some b) → wpList P ops Q rest (a.put o.dst undef) w') :
    wpList P ops Q (o :: rest) a w := by
  refine wpList_plain hg fun K' hK' => ?_
  obtain ⟨w', hrun, r1, r2⟩ := hown.update K ht hn hkey hval
  unfold Oper.wp
  simp [execOp, hop, hm, hx, hv, hrun, Result.andThen]
  exact hK' _ _ (hK w' r1 r2)

theorem num_one_limb {a : Nat} (h0 : 0 < a) (h1 : a < 4294967296) : Num (4294967296 : Int) [(a : Int)] a := by
  refine ⟨?_, ?_, ?_⟩
  · intro d hd
    simp at hd
    omega
  · intro d hd
    simp at hd
    omega
  · simp [iv]

theorem isN_lit (W : World) (e a : Nat) (h0 : 0 < a) (h1 : a < 4294967296) : IsN (W.alloc (.cells #[.int .u32 (a : Int)] e)) (.slice (some ⟨W.heap.size, 0, none⟩) 1 1) a := by
  refine IsN.of_R (R_nums (base := W.heap.size) (e := e) (k := .u32) (xs := [(a : Int)]) ?_) (num_one_limb h0 h1) (by simp)
  exact World.ownsRow_lit (base := W.heap.size) (e := e) (size := 1) W #[.int .u32 (a : Int)] 1 (Nat.le_refl _) (by decide) (by simp)

theorem isI_lit (W : World) (e : Nat) (a b c d : Int) : IsI (W.alloc (.cells #[.int .i64 a, .int .i64 b, .int .i64 c, .int .i64 d] e)) (.slice (some ⟨W.heap.size, 0, none⟩) 4 4) [a, b, c, d] := by
  have h := R_nums (base := W.heap.size) (e := e) (k := .i64) (xs := [a, b, c, d]) (World.ownsRow_lit (base := W.heap.size) (e := e) (size := 1) W #[.int .i64 a, .int .i64 b, .int .i64 c, .int .i64 d] 4 (Nat.le_refl _) (by decide) (by simp))
  obtain ⟨A, c, h1, h2, h3⟩ := Kd.R_reads h
  exact ⟨A, c, h1, h2, h3⟩

theorem drawn0_below {w w1 w2 : World} (h1 : Below w.heap.size w w1) (h2 : Drawn0 w1 w2) : Below w.heap.size w w2 := by
  obtain ⟨m, rfl⟩ := h2
  exact pw_below_drewN h1 m
theorem key3 : Keyed Try.prog 3 := int_keyed Try.underlying3
theorem below_then {w w1 w2 : World} (h1 : Below w.heap.size w w1) (h2 : Below w1.heap.size w1 w2) : Below w.heap.size w w2 := below_step h1 h2

theorem binom52 : binom 5 2 = 10 := by decide +kernel
theorem ch25 : ch 2500 (10000 - 2500) 2 1 = 37500000 := by decide +kernel
theorem up25 : up 2500 (10000 - 2500) 2 1 = 43750000 := by decide +kernel
theorem least1 : leastN 10 10 500 = 7412 := leastN_eq (by decide +kernel) (by decide) (.inr (by decide +kernel))
theorem least2 : leastN 10 0 500 = 0 := leastN_eq (by decide +kernel) (by decide) (.inl rfl)
theorem least1' : leastN 10 (10 - 0) 500 = 7412 := least1
theorem least3' : leastN 0 (0 - 0) 500 = 0 := leastN_eq (by decide +kernel) (by decide) (.inl rfl)
theorem least3 : leastN 0 0 500 = 0 := leastN_eq (by decide +kernel) (by decide) (.inl rfl)

/-- What the table of quantiles reads as. -/
def askD : DataW Unit := ((((DataW.map []).put (.int .i64 0) (.lit (.int .i64 1))).put (.int .i64 5000) (.lit (.int .i64 2))).put (.int .i64 9000) (.lit (.int .i64 5))).put (.int .i64 10000) (.lit (.int .i64 5))
theorem askD_eq : askD = .map [(.int .i64 0, .lit (.int .i64 1)), (.int .i64 5000, .lit (.int .i64 2)), (.int .i64 9000, .lit (.int .i64 5)), (.int .i64 10000, .lit (.int .i64 5))] := by with_unfolding_all rfl
theorem askD_has (x : Int) (h : Maps.has askD (.int .i64 x) = true) : x = 0 ∨ x = 5000 ∨ x = 9000 ∨ x = 10000 := by
  rw [askD_eq] at h
  simp [Maps.has, Lit.sameKey] at h
  omega
theorem sort4 : sortI [5, 1, 4, 2] = [1, 2, 4, 5] := by
  refine List.Perm.eq_of_pairwise (le := fun a b : Int => a ≤ b) (fun a b _ _ h1 h2 => by omega) ?_ (by decide) ((List.mergeSort_perm _ _).trans (by decide))
  have h := List.pairwise_mergeSort (le := fun x y : Int => decide (x ≤ y)) (fun a b c h1 h2 => by simp at *; omega) (fun a b => by simp; omega) [5, 1, 4, 2]
  exact h.imp (fun h => by simpa using h)
theorem ask_n {x c : Int} (h : quantE [5, 1, 4, 2] x = 0) (h2 : [1, 2, 4, 5].getD (rankQ 4 x.toNat) 0 = c) : quantN [5, 1, 4, 2] x = c := by
  unfold quantN
  rw [if_pos h, sort4]
  exact h2
theorem askD_at (x c : Int) (hx : x = 0 ∨ x = 5000 ∨ x = 9000 ∨ x = 10000) (h : ∀ zd, askD.atKey (.int .i64 x) zd = .lit (.int .i64 c)) : quantN [5, 1, 4, 2] x = c ∧ quantE [5, 1, 4, 2] x = 0 := by
  have h := h (.lit (.int .i64 0))
  rw [askD_eq] at h
  rcases hx with rfl | rfl | rfl | rfl
  · have e : c = 1 := by simpa [DataW.atKey, Lit.sameKey] using h.symm
    subst e
    exact ⟨ask_n (by decide +kernel) (by decide +kernel), by decide +kernel⟩
  · have e : c = 2 := by simpa [DataW.atKey, Lit.sameKey] using h.symm
    subst e
    exact ⟨ask_n (by decide +kernel) (by decide +kernel), by decide +kernel⟩
  · have e : c = 5 := by simpa [DataW.atKey, Lit.sameKey] using h.symm
    subst e
    exact ⟨ask_n (by decide +kernel) (by decide +kernel), by decide +kernel⟩
  · have e : c = 5 := by simpa [DataW.atKey, Lit.sameKey] using h.symm
    subst e
    exact ⟨ask_n (by decide +kernel) (by decide +kernel), by decide +kernel⟩

set_option maxHeartbeats 2000000 in
set_option maxRecDepth 100000 in
theorem awake_calls (w : World) : Calls Try.prog 14 #[] w fun e w' => e = .returned (.bool true) ∧ Below w.heap.size w w' := by
  have hmm := @run_makeMap Try.prog
  go_enter Try.func14, Try.ntmps14
  go_wp2_with fail
  refine (Choose_ok 5 2 _ (by decide) (by decide)).mono ?_
  rintro e w1 ⟨v1, rfl, h1, b1⟩
  go_wp2_with fail
  refine (Chance_ok 2 1 2500 _ (by decide) (by decide) (by decide)).mono ?_
  rintro e w2 ⟨v2, rfl, h2, b2⟩
  go_wp2_with fail
  refine (Upper_ok 2 1 2500 _ (by decide) (by decide) (by decide)).mono ?_
  rintro e w3 ⟨v3, rfl, h3, b3⟩
  have k1 : IsN w3 v1 (binom 5 2) := (h1.below b2).below b3
  have k2 : IsN w3 v2 (ch 2500 (10000 - 2500) 2 1) := h2.below b3
  have k3 : IsN w3 v3 (up 2500 (10000 - 2500) 2 1) := h3
  have hb : Below w.heap.size w w3 := below_then (below_then b1 b2) b3
  clear h1 h2 h3 b1 b2 b3
  have hb1 := binom52
  have hb2 := ch25
  have hb3 := up25
  rw [hb1] at k1
  rw [hb2] at k2
  rw [hb3] at k3
  have HB := Aside0.mk hb
  clear hb hb1 hb2 hb3
  go_wp2_with fail
  refine (same_calls _ (k1.alloc _) (isN_lit w3 _ 10 (by decide) (by decide))).mono ?_
  rintro e w4 ⟨rfl, hd4⟩
  have b4 : Below w3.heap.size w3 w4 := drawn0_below (below_alloc (Below.refl _ _) _) hd4
  have k4 := k2.below b4
  have k5 := k3.below b4
  have hb4 := below_then HB.out b4
  clear k1 k2 k3 b4 HB hd4
  go_wp2_with fail
  refine (same_calls _ (k4.alloc _) (isN_lit w4 _ 37500000 (by decide) (by decide))).mono ?_
  rintro e w5 ⟨rfl, hd5⟩
  have b5 : Below w4.heap.size w4 w5 := drawn0_below (below_alloc (Below.refl _ _) _) hd5
  have k6 := k5.below b5
  have hb5 := below_then hb4 b5
  clear k4 k5 b5 hb4 hd5
  go_wp2_with fail
  refine (same_calls _ (k6.alloc _) (isN_lit w5 _ 43750000 (by decide) (by decide))).mono ?_
  rintro e w6 ⟨rfl, hd6⟩
  have b6 : Below w5.heap.size w5 w6 := drawn0_below (below_alloc (Below.refl _ _) _) hd6
  have hb6 := below_then hb5 b6
  clear k6 b6 hb5 hd6
  go_wp2_with fail
  refine (Least_ok 10 10 500 _ (by decide) (by decide) (by decide) (by decide)).mono ?_
  rw [least1]
  rintro e w7 ⟨rfl, b7⟩
  have hb7 := below_then hb6 b7
  clear b7 hb6
  go_wp2_with fail
  refine (Greatest_ok 10 0 500 _ (by decide) (by decide) (by decide) (by decide)).mono ?_
  rw [least1']
  rintro e w8 ⟨rfl, b8⟩
  have hb8 := below_then hb7 b8
  clear b8 hb7
  go_wp2_with fail
  refine (Least_ok 10 0 500 _ (by decide) (by decide) (by decide) (by decide)).mono ?_
  rw [least2]
  rintro e w9 ⟨rfl, b9⟩
  have hb9 := below_then hb8 b9
  clear b9 hb8
  go_wp2_with fail
  refine (Greatest_ok 0 0 500 _ (by decide) (by decide) (by decide) (by decide)).mono ?_
  rw [least3']
  rintro e w10 ⟨rfl, b10⟩
  have hb10 := below_then hb9 b10
  clear b10 hb9
  have hown0 : (w10.alloc (.map #[] 0)).ownsMap Try.prog 3 (plainElem (H := Unit) Try.prog 3) w10.heap.size 0 (.map []) := World.ownsMap_made _ _ _ _
  go_wp2_with (first
    | (refine wpList_insert_own _ rfl _ (.const (.int .i64 0)) _ 56 rfl 3 3 key3 Try.underlying56 _ w10.heap.size 0 _ rfl hown0 (by decide) _ _ _ rfl rfl (keyOf_int_mk Try.underlying3 (by decide)) _ [] (plainElem_int Try.underlying3 (by decide)) ?_; intro m1 hown1 hg1)
    | (refine wpList_insert_own _ rfl _ (.const (.int .i64 5000)) _ 56 rfl 3 3 key3 Try.underlying56 _ w10.heap.size 1 _ rfl hown1 (by decide) _ _ _ rfl rfl (keyOf_int_mk Try.underlying3 (by decide)) _ [] (plainElem_int Try.underlying3 (by decide)) ?_; intro m2 hown2 hg2)
    | (refine wpList_insert_own _ rfl _ (.const (.int .i64 9000)) _ 56 rfl 3 3 key3 Try.underlying56 _ w10.heap.size 2 _ rfl hown2 (by decide) _ _ _ rfl rfl (keyOf_int_mk Try.underlying3 (by decide)) _ [] (plainElem_int Try.underlying3 (by decide)) ?_; intro m3 hown3 hg3)
    | (refine wpList_insert_own _ rfl _ (.const (.int .i64 10000)) _ 56 rfl 3 3 key3 Try.underlying56 _ w10.heap.size 3 _ rfl hown3 (by decide) _ _ _ rfl rfl (keyOf_int_mk Try.underlying3 (by decide)) _ [] (plainElem_int Try.underlying3 (by decide)) ?_; intro m4 hown4 hg4)
    | (at_range; refine wpList_range_own _ rfl _ 56 rfl 3 3 key3 Try.underlying56 _ w10.heap.size 4 _ rfl hown4 ?_; intro w11 hrg0 hg0 hs0)
    | go_in)
  go_frame
  have hbm : Below w.heap.size w m4 := by
    have h0 := below_alloc hb10 (.map #[] 0)
    have hs := hb10.size
    have h1 := h0.grown hg1 h0.size (fun k hk => by cases hk; exact hs)
    have h2 := h1.grown hg2 h1.size (fun k hk => by cases hk; exact hs)
    have h3 := h2.grown hg3 h2.size (fun k hk => by cases hk; exact hs)
    exact h3.grown hg4 h3.size (fun k hk => by cases hk; exact hs)
  have hb11 : Below w.heap.size w w11 := hbm.grown hg0 hbm.size (fun k hk => by cases hk)
  have hR := hbm.size
  have D := Aside0.mk hrg0
  clear hbm hg1 hg2 hg3 hg4 hg0 hs0 hown0 hown1 hown2 hown3 hown4 hb10 hrg0
  go_loopw [12, 13, 14, 15] (fun _ _ _ _ W => ∃ (left : Lit → Bool) (cnt : Nat), W.ranges Try.prog 3 (plainElem (H := Unit) Try.prog 3) w10.heap.size m4.heap.size 4 askD left cnt ∧ Aside0 (∀ x : Int, left (.int .i64 x) = true → x = 0 ∨ x = 5000 ∨ x = 9000 ∨ x = 10000) ∧ Below w.heap.size w W)
    (fun _ _ _ _ W => W.rangeLeft w10.heap.size m4.heap.size)
  case atStart => exact ⟨_, _, D.out, ⟨askD_has⟩, hb11⟩
  case round =>
    obtain ⟨left, cnt, hrg, HL, hbw⟩ := hrel
    go_wp2_with (first
      | (at_next; refine wpList_next_ranges_ii _ rfl _ rfl 3 3 .i64 .i64 key3 Try.underlying3 Try.underlying3 w10.heap.size m4.heap.size 4 _ _ _ rfl hrg ?_ ?_)
      | go_in)
    · intro _ _
      go_wp2_with fail
      go_ret
      exact ⟨rfl, hbw⟩
    · intro x c w12 cnt1 hwx hwc hlx hat hrg1 hlt hg1 hs1 hen
      have hx := HL.out x hlx
      obtain ⟨hq1, hq2⟩ := askD_at x c hx hat
      have hbw1 : Below w.heap.size w w12 := hbw.grown hg1 hbw.size (fun k hk => by cases hk; exact hR)
      have R := Aside0.mk hrg1
      have M := Aside0.mk hrg.left_eq
      have M2 := Aside0.mk hlt
      clear hrg hrg1 hlt hat hbw hg1 hs1
      go_wp2_with fail
      refine (Quantile_calls [5, 1, 4, 2] x _ (isI_lit _ _ _ _ _ _)).mono ?_
      rintro e w13 ⟨rfl, b13⟩
      rw [hq1, hq2]
      go_wp2_with fail
      have hb12 : Below w12.heap.size w12 w13 := below_then (below_alloc (Below.refl _ _) _) b13
      have hr2 := R.out.kept (row := none) (grown_of_below hb12) (by simp) (by simp)
      go_roundw
      case rel =>
        refine ⟨_, cnt1, hr2, ⟨fun y hy => HL.out y ?_⟩, below_then hbw1 hb12⟩
        simp only [Bool.and_eq_true] at hy
        exact hy.1
      case measure =>
        rw [M.out, hr2.left_eq]
        exact M2.out

end Go.Proofs.Ytenmlkcjgefmpaa
