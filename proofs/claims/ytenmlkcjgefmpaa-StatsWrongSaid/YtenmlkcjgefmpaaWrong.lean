/- StatsWrong: the walk. -/
import Derived.Test.YtenmlkcjgefmpaaKit
namespace Go.Proofs.Ytenmlkcjgefmpaa
open Go.RowKit Go.Proofs.YtenmlkcjgefmpaaW.PrintWords Go.Proofs.YtenmlkcjgefmpaaW.PrintLast Go.Proofs.YtenmlkcjgefmpaaW.PrintMore Go.Proofs.Ytenmlkcjgefmpaa.Fn
attribute [local go_sem] max2_int min2_int max_two min_two max_three min_three max_four min_four

theorem isN_zero {w : World} {v : Value} (h : IsN w v 0) : ∃ (A : Option Addr) (c : Nat), v = .slice A 0 c := by
  obtain ⟨xs, A, c, rfl, _, _, hn, _⟩ := h
  have e : xs.length = 0 := (hn.nil_iff (by decide)).2 rfl
  exact ⟨A, c, by rw [e]⟩

theorem cell_lit (u : World) (A : Array Value) (e i : Nat) : (u.alloc (.cells A e)).cell? ⟨u.heap.size, i, none⟩ = A[i]? := by
  unfold World.cell?
  rw [heap_alloc_new]
  rfl

theorem isI_one (W : World) (e : Nat) (a : Int) : IsI (W.alloc (.cells #[.int .i64 a] e)) (.slice (some ⟨W.heap.size, 0, none⟩) 1 1) [a] := by
  have h := R_nums (base := W.heap.size) (e := e) (k := .i64) (xs := [a]) (World.ownsRow_lit (base := W.heap.size) (e := e) (size := 1) W #[.int .i64 a] 1 (Nat.le_refl _) (by decide) (by simp))
  obtain ⟨A, c, h1, h2, h3⟩ := Kd.R_reads h
  exact ⟨A, c, h1, h2, h3⟩
theorem isI_nil (W : World) : IsI W (.slice none 0 0) [] := ⟨none, 0, rfl, Nat.le_refl _, Kd.C_nil _ _⟩
theorem err_arg {n k x lo hi : Int} (h : k < 0 ∨ k > n ∨ x < lo ∨ x > hi) : wrongE n k x lo hi = 2 := if_pos h
theorem err_long {n k x lo hi : Int} (h : ¬ (k < 0 ∨ k > n ∨ x < lo ∨ x > hi)) (hn : n > 500) : wrongE n k x lo hi = 3 := by rw [wrongE, if_neg h, if_pos hn]

set_option maxHeartbeats 1000000 in
set_option maxRecDepth 100000 in
theorem Wrong_calls (x y : Int) (hx : (Lit.int .i64 x).wf = true) (hy : (Lit.int .i64 y).wf = true) (w : World) :
    Calls Try.prog 12 #[.int .i64 x, .int .i64 y] w fun e w' => e = .returned (.bool true) ∧ Below w.heap.size w w' := by
  have hn1 := pickN_lt x (n := 501) (by decide)
  have hb1 := pickN_lt y (n := 1099511627776) (by decide)
  have HT := Aside0.mk (fun W => Pick_calls x 501 W hx (by decide) (by decide))
  have HS := Aside0.mk (fun W => Pick_calls y 1099511627776 W hy (by decide) (by decide))
  generalize pickN x 501 = n at *
  generalize pickN y 1099511627776 = b0 at *
  clear hx hy
  have HB0 := Aside0.mk (Below.refl w.heap.size w)
  go_enter Try.func12, Try.ntmps12
  go_wp2_with fail
  refine (awake_calls _).mono ?_
  rintro e u1 ⟨rfl, b_⟩
  have HB1 := Aside0.mk (below_then HB0.out b_)
  clear b_
  go_wp2_with fail
  refine (HT.out _).mono ?_
  rintro e u2 ⟨rfl, d_⟩
  have HB2 := Aside0.mk (drawn0_below HB1.out d_)
  clear d_
  go_wp2_with fail
  refine (HS.out _).mono ?_
  rintro e u3 ⟨rfl, d_⟩
  have HB3 := Aside0.mk (drawn0_below HB2.out d_)
  clear d_
  go_wp2_with fail
  -- THE LOOP
  obtain ⟨w1, hw1⟩ : ∃ w1, w1 = u3.alloc (.cells #[.int .i64 (n : Int), .int .i64 (-(1 + (b0 : Int))), .int .i64 1, .int .i64 1, .int .i64 (n : Int), .int .i64 ((n : Int) + (1 + (b0 : Int))), .int .i64 1, .int .i64 1, .int .i64 (n : Int), .int .i64 0, .int .i64 (-(1 + (b0 : Int))), .int .i64 (1 - (1 + (b0 : Int))), .int .i64 (n : Int), .int .i64 (n : Int), .int .i64 (10000 + (1 + (b0 : Int))), .int .i64 (2000 + (1 + (b0 : Int))), .int .i64 (-(1 + (b0 : Int))), .int .i64 0, .int .i64 1, .int .i64 1, .int .i64 (500 + (1 + (b0 : Int))), .int .i64 (-1), .int .i64 1, .int .i64 1] 48) := ⟨_, rfl⟩
  rw [← hw1]
  have HW1 := Aside0.mk (show Below w.heap.size w w1 by rw [hw1]; exact below_alloc HB3.out _)
  subst hw1
  go_loopw [67, 8, 9, 10, 11, 12, 13, 14, 15, 16, 17, 18] (fun i _ _ _ _ _ _ _ _ _ _ _ W => ∃ j : Nat, j ≤ 6 ∧ i = .int .i64 j ∧ Aside0 (Below w.heap.size w W) ∧ Aside0 (Below (u3.alloc (.cells #[.int .i64 (n : Int), .int .i64 (-(1 + (b0 : Int))), .int .i64 1, .int .i64 1, .int .i64 (n : Int), .int .i64 ((n : Int) + (1 + (b0 : Int))), .int .i64 1, .int .i64 1, .int .i64 (n : Int), .int .i64 0, .int .i64 (-(1 + (b0 : Int))), .int .i64 (1 - (1 + (b0 : Int))), .int .i64 (n : Int), .int .i64 (n : Int), .int .i64 (10000 + (1 + (b0 : Int))), .int .i64 (2000 + (1 + (b0 : Int))), .int .i64 (-(1 + (b0 : Int))), .int .i64 0, .int .i64 1, .int .i64 1, .int .i64 (500 + (1 + (b0 : Int))), .int .i64 (-1), .int .i64 1, .int .i64 1] 48)).heap.size (u3.alloc (.cells #[.int .i64 (n : Int), .int .i64 (-(1 + (b0 : Int))), .int .i64 1, .int .i64 1, .int .i64 (n : Int), .int .i64 ((n : Int) + (1 + (b0 : Int))), .int .i64 1, .int .i64 1, .int .i64 (n : Int), .int .i64 0, .int .i64 (-(1 + (b0 : Int))), .int .i64 (1 - (1 + (b0 : Int))), .int .i64 (n : Int), .int .i64 (n : Int), .int .i64 (10000 + (1 + (b0 : Int))), .int .i64 (2000 + (1 + (b0 : Int))), .int .i64 (-(1 + (b0 : Int))), .int .i64 0, .int .i64 1, .int .i64 1, .int .i64 (500 + (1 + (b0 : Int))), .int .i64 (-1), .int .i64 1, .int .i64 1] 48)) W))
    (fun i _ _ _ _ _ _ _ _ _ _ _ _ => 6 - (intOf i).toNat)
  case atStart => exact ⟨0, by omega, rfl, HW1, ⟨Below.refl _ _⟩⟩
  case round =>
    obtain ⟨j, hj, rfl, HB, HW⟩ := hrel
    have hc : j = 0 ∨ j = 1 ∨ j = 2 ∨ j = 3 ∨ j = 4 ∨ j = 5 ∨ j = 6 := by omega
    rcases hc with rfl | rfl | rfl | rfl | rfl | rfl | rfl
    · -- row 0
      have hc0 : wr.cell? ⟨u3.heap.size, 0, none⟩ = some (.int .i64 (n : Int)) := (HW.out.cell (by simp)).trans (cell_lit u3 _ _ 0)
      have hc1 : wr.cell? ⟨u3.heap.size, 1, none⟩ = some (.int .i64 (-(1 + (b0 : Int)))) := (HW.out.cell (by simp)).trans (cell_lit u3 _ _ 1)
      have hc2 : wr.cell? ⟨u3.heap.size, 2, none⟩ = some (.int .i64 1) := (HW.out.cell (by simp)).trans (cell_lit u3 _ _ 2)
      have hc3 : wr.cell? ⟨u3.heap.size, 3, none⟩ = some (.int .i64 1) := (HW.out.cell (by simp)).trans (cell_lit u3 _ _ 3)
      have P2 := err_arg (n := (n : Int)) (k := (-(1 + (b0 : Int)))) (x := 1) (lo := 0) (hi := 10000) (by omega)
      have P3 := err_arg (n := (n : Int)) (k := (-(1 + (b0 : Int)))) (x := 1) (lo := 1) (hi := 2000) (by omega)
      have Q2 := Aside0.mk P2
      have Q3 := Aside0.mk P3
      clear P2 P3
      go_wp2_with fail
      obtain ⟨wc, hwc⟩ : ∃ wc, wc = wr.alloc (.cells #[.int .i64 (n : Int), .int .i64 (-(1 + (b0 : Int))), .int .i64 1, .int .i64 1] 48) := ⟨_, rfl⟩
      have ha0 : wc.cell? ⟨wr.heap.size, 0, none⟩ = some (.int .i64 (n : Int)) := by rw [hwc]; exact cell_lit wr _ _ 0
      have ha1 : wc.cell? ⟨wr.heap.size, 1, none⟩ = some (.int .i64 (-(1 + (b0 : Int)))) := by rw [hwc]; exact cell_lit wr _ _ 1
      have ha2 : wc.cell? ⟨wr.heap.size, 2, none⟩ = some (.int .i64 1) := by rw [hwc]; exact cell_lit wr _ _ 2
      have ha3 : wc.cell? ⟨wr.heap.size, 3, none⟩ = some (.int .i64 1) := by rw [hwc]; exact cell_lit wr _ _ 3
      have HA := Aside0.mk (show Below wr.heap.size wr wc by rw [hwc]; exact below_alloc (Below.refl _ _) _)
      have hsz : wr.heap.size < wc.heap.size := by rw [hwc]; simp
      rw [← hwc]
      clear hwc
      refine (Chance_err (n : Int) (-(1 + (b0 : Int))) 1 _ (by rw [Q2.out]; decide)).mono ?_
      rw [Q2.out]
      rintro e x0 ⟨v0, rfl, h_, b_⟩
      obtain ⟨A0, c0, rfl⟩ := isN_zero h_
      clear h_
      have ha0 := (b_.cell (p := ⟨wr.heap.size, 0, none⟩) hsz).trans ha0
      have ha1 := (b_.cell (p := ⟨wr.heap.size, 1, none⟩) hsz).trans ha1
      have ha2 := (b_.cell (p := ⟨wr.heap.size, 2, none⟩) hsz).trans ha2
      have ha3 := (b_.cell (p := ⟨wr.heap.size, 3, none⟩) hsz).trans ha3
      have hsz := Nat.lt_of_lt_of_le hsz b_.size
      have HA := Aside0.mk (below_then HA.out b_)
      clear b_
      go_wp2_with fail
      refine (Upper_err (n : Int) (-(1 + (b0 : Int))) 1 _ (by rw [Q2.out]; decide)).mono ?_
      rw [Q2.out]
      rintro e x1 ⟨v1, rfl, h_, b_⟩
      obtain ⟨A1, c1, rfl⟩ := isN_zero h_
      clear h_
      have ha0 := (b_.cell (p := ⟨wr.heap.size, 0, none⟩) hsz).trans ha0
      have ha1 := (b_.cell (p := ⟨wr.heap.size, 1, none⟩) hsz).trans ha1
      have ha2 := (b_.cell (p := ⟨wr.heap.size, 2, none⟩) hsz).trans ha2
      have ha3 := (b_.cell (p := ⟨wr.heap.size, 3, none⟩) hsz).trans ha3
      have hsz := Nat.lt_of_lt_of_le hsz b_.size
      have HA := Aside0.mk (below_then HA.out b_)
      clear b_
      go_wp2_with fail
      refine (Lower_err (n : Int) (-(1 + (b0 : Int))) 1 _ (by rw [Q2.out]; decide)).mono ?_
      rw [Q2.out]
      rintro e x2 ⟨v2, rfl, h_, b_⟩
      obtain ⟨A2, c2, rfl⟩ := isN_zero h_
      clear h_
      have ha0 := (b_.cell (p := ⟨wr.heap.size, 0, none⟩) hsz).trans ha0
      have ha1 := (b_.cell (p := ⟨wr.heap.size, 1, none⟩) hsz).trans ha1
      have ha2 := (b_.cell (p := ⟨wr.heap.size, 2, none⟩) hsz).trans ha2
      have ha3 := (b_.cell (p := ⟨wr.heap.size, 3, none⟩) hsz).trans ha3
      have hsz := Nat.lt_of_lt_of_le hsz b_.size
      have HA := Aside0.mk (below_then HA.out b_)
      clear b_
      go_wp2_with fail
      refine (Least_err (n : Int) (-(1 + (b0 : Int))) 1 _ (by rw [Q3.out]; decide)).mono ?_
      rw [Q3.out]
      rintro e x3 ⟨rfl, b_⟩
      have ha0 := (b_.cell (p := ⟨wr.heap.size, 0, none⟩) hsz).trans ha0
      have ha1 := (b_.cell (p := ⟨wr.heap.size, 1, none⟩) hsz).trans ha1
      have ha2 := (b_.cell (p := ⟨wr.heap.size, 2, none⟩) hsz).trans ha2
      have ha3 := (b_.cell (p := ⟨wr.heap.size, 3, none⟩) hsz).trans ha3
      have hsz := Nat.lt_of_lt_of_le hsz b_.size
      have HA := Aside0.mk (below_then HA.out b_)
      clear b_
      go_wp2_with fail
      refine (Greatest_err (n : Int) (-(1 + (b0 : Int))) 1 _ (by omega) (by omega) (by omega) (by omega) (by rw [Q3.out]; decide)).mono ?_
      rw [Q3.out]
      rintro e x4 ⟨rfl, b_⟩
      have ha0 := (b_.cell (p := ⟨wr.heap.size, 0, none⟩) hsz).trans ha0
      have ha1 := (b_.cell (p := ⟨wr.heap.size, 1, none⟩) hsz).trans ha1
      have ha2 := (b_.cell (p := ⟨wr.heap.size, 2, none⟩) hsz).trans ha2
      have ha3 := (b_.cell (p := ⟨wr.heap.size, 3, none⟩) hsz).trans ha3
      have hsz := Nat.lt_of_lt_of_le hsz b_.size
      have HA := Aside0.mk (below_then HA.out b_)
      clear b_
      go_wp2_with fail
      go_roundw
      case rel => exact ⟨1, by omega, by go_num, ⟨below_then HB.out HA.out⟩, ⟨below_then HW.out HA.out⟩⟩
      case measure => simp [intOf]
    · -- row 1
      have hc0 : wr.cell? ⟨u3.heap.size, 4, none⟩ = some (.int .i64 (n : Int)) := (HW.out.cell (by simp)).trans (cell_lit u3 _ _ 4)
      have hc1 : wr.cell? ⟨u3.heap.size, 5, none⟩ = some (.int .i64 ((n : Int) + (1 + (b0 : Int)))) := (HW.out.cell (by simp)).trans (cell_lit u3 _ _ 5)
      have hc2 : wr.cell? ⟨u3.heap.size, 6, none⟩ = some (.int .i64 1) := (HW.out.cell (by simp)).trans (cell_lit u3 _ _ 6)
      have hc3 : wr.cell? ⟨u3.heap.size, 7, none⟩ = some (.int .i64 1) := (HW.out.cell (by simp)).trans (cell_lit u3 _ _ 7)
      have P2 := err_arg (n := (n : Int)) (k := ((n : Int) + (1 + (b0 : Int)))) (x := 1) (lo := 0) (hi := 10000) (by omega)
      have P3 := err_arg (n := (n : Int)) (k := ((n : Int) + (1 + (b0 : Int)))) (x := 1) (lo := 1) (hi := 2000) (by omega)
      have Q2 := Aside0.mk P2
      have Q3 := Aside0.mk P3
      clear P2 P3
      go_wp2_with fail
      obtain ⟨wc, hwc⟩ : ∃ wc, wc = wr.alloc (.cells #[.int .i64 (n : Int), .int .i64 ((n : Int) + (1 + (b0 : Int))), .int .i64 1, .int .i64 1] 48) := ⟨_, rfl⟩
      have ha0 : wc.cell? ⟨wr.heap.size, 0, none⟩ = some (.int .i64 (n : Int)) := by rw [hwc]; exact cell_lit wr _ _ 0
      have ha1 : wc.cell? ⟨wr.heap.size, 1, none⟩ = some (.int .i64 ((n : Int) + (1 + (b0 : Int)))) := by rw [hwc]; exact cell_lit wr _ _ 1
      have ha2 : wc.cell? ⟨wr.heap.size, 2, none⟩ = some (.int .i64 1) := by rw [hwc]; exact cell_lit wr _ _ 2
      have ha3 : wc.cell? ⟨wr.heap.size, 3, none⟩ = some (.int .i64 1) := by rw [hwc]; exact cell_lit wr _ _ 3
      have HA := Aside0.mk (show Below wr.heap.size wr wc by rw [hwc]; exact below_alloc (Below.refl _ _) _)
      have hsz : wr.heap.size < wc.heap.size := by rw [hwc]; simp
      rw [← hwc]
      clear hwc
      refine (Chance_err (n : Int) ((n : Int) + (1 + (b0 : Int))) 1 _ (by rw [Q2.out]; decide)).mono ?_
      rw [Q2.out]
      rintro e x0 ⟨v0, rfl, h_, b_⟩
      obtain ⟨A0, c0, rfl⟩ := isN_zero h_
      clear h_
      have ha0 := (b_.cell (p := ⟨wr.heap.size, 0, none⟩) hsz).trans ha0
      have ha1 := (b_.cell (p := ⟨wr.heap.size, 1, none⟩) hsz).trans ha1
      have ha2 := (b_.cell (p := ⟨wr.heap.size, 2, none⟩) hsz).trans ha2
      have ha3 := (b_.cell (p := ⟨wr.heap.size, 3, none⟩) hsz).trans ha3
      have hsz := Nat.lt_of_lt_of_le hsz b_.size
      have HA := Aside0.mk (below_then HA.out b_)
      clear b_
      go_wp2_with fail
      refine (Upper_err (n : Int) ((n : Int) + (1 + (b0 : Int))) 1 _ (by rw [Q2.out]; decide)).mono ?_
      rw [Q2.out]
      rintro e x1 ⟨v1, rfl, h_, b_⟩
      obtain ⟨A1, c1, rfl⟩ := isN_zero h_
      clear h_
      have ha0 := (b_.cell (p := ⟨wr.heap.size, 0, none⟩) hsz).trans ha0
      have ha1 := (b_.cell (p := ⟨wr.heap.size, 1, none⟩) hsz).trans ha1
      have ha2 := (b_.cell (p := ⟨wr.heap.size, 2, none⟩) hsz).trans ha2
      have ha3 := (b_.cell (p := ⟨wr.heap.size, 3, none⟩) hsz).trans ha3
      have hsz := Nat.lt_of_lt_of_le hsz b_.size
      have HA := Aside0.mk (below_then HA.out b_)
      clear b_
      go_wp2_with fail
      refine (Lower_err (n : Int) ((n : Int) + (1 + (b0 : Int))) 1 _ (by rw [Q2.out]; decide)).mono ?_
      rw [Q2.out]
      rintro e x2 ⟨v2, rfl, h_, b_⟩
      obtain ⟨A2, c2, rfl⟩ := isN_zero h_
      clear h_
      have ha0 := (b_.cell (p := ⟨wr.heap.size, 0, none⟩) hsz).trans ha0
      have ha1 := (b_.cell (p := ⟨wr.heap.size, 1, none⟩) hsz).trans ha1
      have ha2 := (b_.cell (p := ⟨wr.heap.size, 2, none⟩) hsz).trans ha2
      have ha3 := (b_.cell (p := ⟨wr.heap.size, 3, none⟩) hsz).trans ha3
      have hsz := Nat.lt_of_lt_of_le hsz b_.size
      have HA := Aside0.mk (below_then HA.out b_)
      clear b_
      go_wp2_with fail
      refine (Least_err (n : Int) ((n : Int) + (1 + (b0 : Int))) 1 _ (by rw [Q3.out]; decide)).mono ?_
      rw [Q3.out]
      rintro e x3 ⟨rfl, b_⟩
      have ha0 := (b_.cell (p := ⟨wr.heap.size, 0, none⟩) hsz).trans ha0
      have ha1 := (b_.cell (p := ⟨wr.heap.size, 1, none⟩) hsz).trans ha1
      have ha2 := (b_.cell (p := ⟨wr.heap.size, 2, none⟩) hsz).trans ha2
      have ha3 := (b_.cell (p := ⟨wr.heap.size, 3, none⟩) hsz).trans ha3
      have hsz := Nat.lt_of_lt_of_le hsz b_.size
      have HA := Aside0.mk (below_then HA.out b_)
      clear b_
      go_wp2_with fail
      refine (Greatest_err (n : Int) ((n : Int) + (1 + (b0 : Int))) 1 _ (by omega) (by omega) (by omega) (by omega) (by rw [Q3.out]; decide)).mono ?_
      rw [Q3.out]
      rintro e x4 ⟨rfl, b_⟩
      have ha0 := (b_.cell (p := ⟨wr.heap.size, 0, none⟩) hsz).trans ha0
      have ha1 := (b_.cell (p := ⟨wr.heap.size, 1, none⟩) hsz).trans ha1
      have ha2 := (b_.cell (p := ⟨wr.heap.size, 2, none⟩) hsz).trans ha2
      have ha3 := (b_.cell (p := ⟨wr.heap.size, 3, none⟩) hsz).trans ha3
      have hsz := Nat.lt_of_lt_of_le hsz b_.size
      have HA := Aside0.mk (below_then HA.out b_)
      clear b_
      go_wp2_with fail
      go_roundw
      case rel => exact ⟨2, by omega, by go_num, ⟨below_then HB.out HA.out⟩, ⟨below_then HW.out HA.out⟩⟩
      case measure => simp [intOf]
    · -- row 2
      have hc0 : wr.cell? ⟨u3.heap.size, 8, none⟩ = some (.int .i64 (n : Int)) := (HW.out.cell (by simp)).trans (cell_lit u3 _ _ 8)
      have hc1 : wr.cell? ⟨u3.heap.size, 9, none⟩ = some (.int .i64 0) := (HW.out.cell (by simp)).trans (cell_lit u3 _ _ 9)
      have hc2 : wr.cell? ⟨u3.heap.size, 10, none⟩ = some (.int .i64 (-(1 + (b0 : Int)))) := (HW.out.cell (by simp)).trans (cell_lit u3 _ _ 10)
      have hc3 : wr.cell? ⟨u3.heap.size, 11, none⟩ = some (.int .i64 (1 - (1 + (b0 : Int)))) := (HW.out.cell (by simp)).trans (cell_lit u3 _ _ 11)
      have P2 := err_arg (n := (n : Int)) (k := 0) (x := (-(1 + (b0 : Int)))) (lo := 0) (hi := 10000) (by omega)
      have P3 := err_arg (n := (n : Int)) (k := 0) (x := (1 - (1 + (b0 : Int)))) (lo := 1) (hi := 2000) (by omega)
      have Q2 := Aside0.mk P2
      have Q3 := Aside0.mk P3
      clear P2 P3
      go_wp2_with fail
      obtain ⟨wc, hwc⟩ : ∃ wc, wc = wr.alloc (.cells #[.int .i64 (n : Int), .int .i64 0, .int .i64 (-(1 + (b0 : Int))), .int .i64 (1 - (1 + (b0 : Int)))] 48) := ⟨_, rfl⟩
      have ha0 : wc.cell? ⟨wr.heap.size, 0, none⟩ = some (.int .i64 (n : Int)) := by rw [hwc]; exact cell_lit wr _ _ 0
      have ha1 : wc.cell? ⟨wr.heap.size, 1, none⟩ = some (.int .i64 0) := by rw [hwc]; exact cell_lit wr _ _ 1
      have ha2 : wc.cell? ⟨wr.heap.size, 2, none⟩ = some (.int .i64 (-(1 + (b0 : Int)))) := by rw [hwc]; exact cell_lit wr _ _ 2
      have ha3 : wc.cell? ⟨wr.heap.size, 3, none⟩ = some (.int .i64 (1 - (1 + (b0 : Int)))) := by rw [hwc]; exact cell_lit wr _ _ 3
      have HA := Aside0.mk (show Below wr.heap.size wr wc by rw [hwc]; exact below_alloc (Below.refl _ _) _)
      have hsz : wr.heap.size < wc.heap.size := by rw [hwc]; simp
      rw [← hwc]
      clear hwc
      refine (Chance_err (n : Int) 0 (-(1 + (b0 : Int))) _ (by rw [Q2.out]; decide)).mono ?_
      rw [Q2.out]
      rintro e x0 ⟨v0, rfl, h_, b_⟩
      obtain ⟨A0, c0, rfl⟩ := isN_zero h_
      clear h_
      have ha0 := (b_.cell (p := ⟨wr.heap.size, 0, none⟩) hsz).trans ha0
      have ha1 := (b_.cell (p := ⟨wr.heap.size, 1, none⟩) hsz).trans ha1
      have ha2 := (b_.cell (p := ⟨wr.heap.size, 2, none⟩) hsz).trans ha2
      have ha3 := (b_.cell (p := ⟨wr.heap.size, 3, none⟩) hsz).trans ha3
      have hsz := Nat.lt_of_lt_of_le hsz b_.size
      have HA := Aside0.mk (below_then HA.out b_)
      clear b_
      go_wp2_with fail
      refine (Upper_err (n : Int) 0 (-(1 + (b0 : Int))) _ (by rw [Q2.out]; decide)).mono ?_
      rw [Q2.out]
      rintro e x1 ⟨v1, rfl, h_, b_⟩
      obtain ⟨A1, c1, rfl⟩ := isN_zero h_
      clear h_
      have ha0 := (b_.cell (p := ⟨wr.heap.size, 0, none⟩) hsz).trans ha0
      have ha1 := (b_.cell (p := ⟨wr.heap.size, 1, none⟩) hsz).trans ha1
      have ha2 := (b_.cell (p := ⟨wr.heap.size, 2, none⟩) hsz).trans ha2
      have ha3 := (b_.cell (p := ⟨wr.heap.size, 3, none⟩) hsz).trans ha3
      have hsz := Nat.lt_of_lt_of_le hsz b_.size
      have HA := Aside0.mk (below_then HA.out b_)
      clear b_
      go_wp2_with fail
      refine (Lower_err (n : Int) 0 (-(1 + (b0 : Int))) _ (by rw [Q2.out]; decide)).mono ?_
      rw [Q2.out]
      rintro e x2 ⟨v2, rfl, h_, b_⟩
      obtain ⟨A2, c2, rfl⟩ := isN_zero h_
      clear h_
      have ha0 := (b_.cell (p := ⟨wr.heap.size, 0, none⟩) hsz).trans ha0
      have ha1 := (b_.cell (p := ⟨wr.heap.size, 1, none⟩) hsz).trans ha1
      have ha2 := (b_.cell (p := ⟨wr.heap.size, 2, none⟩) hsz).trans ha2
      have ha3 := (b_.cell (p := ⟨wr.heap.size, 3, none⟩) hsz).trans ha3
      have hsz := Nat.lt_of_lt_of_le hsz b_.size
      have HA := Aside0.mk (below_then HA.out b_)
      clear b_
      go_wp2_with fail
      refine (Least_err (n : Int) 0 (1 - (1 + (b0 : Int))) _ (by rw [Q3.out]; decide)).mono ?_
      rw [Q3.out]
      rintro e x3 ⟨rfl, b_⟩
      have ha0 := (b_.cell (p := ⟨wr.heap.size, 0, none⟩) hsz).trans ha0
      have ha1 := (b_.cell (p := ⟨wr.heap.size, 1, none⟩) hsz).trans ha1
      have ha2 := (b_.cell (p := ⟨wr.heap.size, 2, none⟩) hsz).trans ha2
      have ha3 := (b_.cell (p := ⟨wr.heap.size, 3, none⟩) hsz).trans ha3
      have hsz := Nat.lt_of_lt_of_le hsz b_.size
      have HA := Aside0.mk (below_then HA.out b_)
      clear b_
      go_wp2_with fail
      refine (Greatest_err (n : Int) 0 (1 - (1 + (b0 : Int))) _ (by omega) (by omega) (by omega) (by omega) (by rw [Q3.out]; decide)).mono ?_
      rw [Q3.out]
      rintro e x4 ⟨rfl, b_⟩
      have ha0 := (b_.cell (p := ⟨wr.heap.size, 0, none⟩) hsz).trans ha0
      have ha1 := (b_.cell (p := ⟨wr.heap.size, 1, none⟩) hsz).trans ha1
      have ha2 := (b_.cell (p := ⟨wr.heap.size, 2, none⟩) hsz).trans ha2
      have ha3 := (b_.cell (p := ⟨wr.heap.size, 3, none⟩) hsz).trans ha3
      have hsz := Nat.lt_of_lt_of_le hsz b_.size
      have HA := Aside0.mk (below_then HA.out b_)
      clear b_
      go_wp2_with fail
      go_roundw
      case rel => exact ⟨3, by omega, by go_num, ⟨below_then HB.out HA.out⟩, ⟨below_then HW.out HA.out⟩⟩
      case measure => simp [intOf]
    · -- row 3
      have hc0 : wr.cell? ⟨u3.heap.size, 12, none⟩ = some (.int .i64 (n : Int)) := (HW.out.cell (by simp)).trans (cell_lit u3 _ _ 12)
      have hc1 : wr.cell? ⟨u3.heap.size, 13, none⟩ = some (.int .i64 (n : Int)) := (HW.out.cell (by simp)).trans (cell_lit u3 _ _ 13)
      have hc2 : wr.cell? ⟨u3.heap.size, 14, none⟩ = some (.int .i64 (10000 + (1 + (b0 : Int)))) := (HW.out.cell (by simp)).trans (cell_lit u3 _ _ 14)
      have hc3 : wr.cell? ⟨u3.heap.size, 15, none⟩ = some (.int .i64 (2000 + (1 + (b0 : Int)))) := (HW.out.cell (by simp)).trans (cell_lit u3 _ _ 15)
      have P2 := err_arg (n := (n : Int)) (k := (n : Int)) (x := (10000 + (1 + (b0 : Int)))) (lo := 0) (hi := 10000) (by omega)
      have P3 := err_arg (n := (n : Int)) (k := (n : Int)) (x := (2000 + (1 + (b0 : Int)))) (lo := 1) (hi := 2000) (by omega)
      have Q2 := Aside0.mk P2
      have Q3 := Aside0.mk P3
      clear P2 P3
      go_wp2_with fail
      obtain ⟨wc, hwc⟩ : ∃ wc, wc = wr.alloc (.cells #[.int .i64 (n : Int), .int .i64 (n : Int), .int .i64 (10000 + (1 + (b0 : Int))), .int .i64 (2000 + (1 + (b0 : Int)))] 48) := ⟨_, rfl⟩
      have ha0 : wc.cell? ⟨wr.heap.size, 0, none⟩ = some (.int .i64 (n : Int)) := by rw [hwc]; exact cell_lit wr _ _ 0
      have ha1 : wc.cell? ⟨wr.heap.size, 1, none⟩ = some (.int .i64 (n : Int)) := by rw [hwc]; exact cell_lit wr _ _ 1
      have ha2 : wc.cell? ⟨wr.heap.size, 2, none⟩ = some (.int .i64 (10000 + (1 + (b0 : Int)))) := by rw [hwc]; exact cell_lit wr _ _ 2
      have ha3 : wc.cell? ⟨wr.heap.size, 3, none⟩ = some (.int .i64 (2000 + (1 + (b0 : Int)))) := by rw [hwc]; exact cell_lit wr _ _ 3
      have HA := Aside0.mk (show Below wr.heap.size wr wc by rw [hwc]; exact below_alloc (Below.refl _ _) _)
      have hsz : wr.heap.size < wc.heap.size := by rw [hwc]; simp
      rw [← hwc]
      clear hwc
      refine (Chance_err (n : Int) (n : Int) (10000 + (1 + (b0 : Int))) _ (by rw [Q2.out]; decide)).mono ?_
      rw [Q2.out]
      rintro e x0 ⟨v0, rfl, h_, b_⟩
      obtain ⟨A0, c0, rfl⟩ := isN_zero h_
      clear h_
      have ha0 := (b_.cell (p := ⟨wr.heap.size, 0, none⟩) hsz).trans ha0
      have ha1 := (b_.cell (p := ⟨wr.heap.size, 1, none⟩) hsz).trans ha1
      have ha2 := (b_.cell (p := ⟨wr.heap.size, 2, none⟩) hsz).trans ha2
      have ha3 := (b_.cell (p := ⟨wr.heap.size, 3, none⟩) hsz).trans ha3
      have hsz := Nat.lt_of_lt_of_le hsz b_.size
      have HA := Aside0.mk (below_then HA.out b_)
      clear b_
      go_wp2_with fail
      refine (Upper_err (n : Int) (n : Int) (10000 + (1 + (b0 : Int))) _ (by rw [Q2.out]; decide)).mono ?_
      rw [Q2.out]
      rintro e x1 ⟨v1, rfl, h_, b_⟩
      obtain ⟨A1, c1, rfl⟩ := isN_zero h_
      clear h_
      have ha0 := (b_.cell (p := ⟨wr.heap.size, 0, none⟩) hsz).trans ha0
      have ha1 := (b_.cell (p := ⟨wr.heap.size, 1, none⟩) hsz).trans ha1
      have ha2 := (b_.cell (p := ⟨wr.heap.size, 2, none⟩) hsz).trans ha2
      have ha3 := (b_.cell (p := ⟨wr.heap.size, 3, none⟩) hsz).trans ha3
      have hsz := Nat.lt_of_lt_of_le hsz b_.size
      have HA := Aside0.mk (below_then HA.out b_)
      clear b_
      go_wp2_with fail
      refine (Lower_err (n : Int) (n : Int) (10000 + (1 + (b0 : Int))) _ (by rw [Q2.out]; decide)).mono ?_
      rw [Q2.out]
      rintro e x2 ⟨v2, rfl, h_, b_⟩
      obtain ⟨A2, c2, rfl⟩ := isN_zero h_
      clear h_
      have ha0 := (b_.cell (p := ⟨wr.heap.size, 0, none⟩) hsz).trans ha0
      have ha1 := (b_.cell (p := ⟨wr.heap.size, 1, none⟩) hsz).trans ha1
      have ha2 := (b_.cell (p := ⟨wr.heap.size, 2, none⟩) hsz).trans ha2
      have ha3 := (b_.cell (p := ⟨wr.heap.size, 3, none⟩) hsz).trans ha3
      have hsz := Nat.lt_of_lt_of_le hsz b_.size
      have HA := Aside0.mk (below_then HA.out b_)
      clear b_
      go_wp2_with fail
      refine (Least_err (n : Int) (n : Int) (2000 + (1 + (b0 : Int))) _ (by rw [Q3.out]; decide)).mono ?_
      rw [Q3.out]
      rintro e x3 ⟨rfl, b_⟩
      have ha0 := (b_.cell (p := ⟨wr.heap.size, 0, none⟩) hsz).trans ha0
      have ha1 := (b_.cell (p := ⟨wr.heap.size, 1, none⟩) hsz).trans ha1
      have ha2 := (b_.cell (p := ⟨wr.heap.size, 2, none⟩) hsz).trans ha2
      have ha3 := (b_.cell (p := ⟨wr.heap.size, 3, none⟩) hsz).trans ha3
      have hsz := Nat.lt_of_lt_of_le hsz b_.size
      have HA := Aside0.mk (below_then HA.out b_)
      clear b_
      go_wp2_with fail
      refine (Greatest_err (n : Int) (n : Int) (2000 + (1 + (b0 : Int))) _ (by omega) (by omega) (by omega) (by omega) (by rw [Q3.out]; decide)).mono ?_
      rw [Q3.out]
      rintro e x4 ⟨rfl, b_⟩
      have ha0 := (b_.cell (p := ⟨wr.heap.size, 0, none⟩) hsz).trans ha0
      have ha1 := (b_.cell (p := ⟨wr.heap.size, 1, none⟩) hsz).trans ha1
      have ha2 := (b_.cell (p := ⟨wr.heap.size, 2, none⟩) hsz).trans ha2
      have ha3 := (b_.cell (p := ⟨wr.heap.size, 3, none⟩) hsz).trans ha3
      have hsz := Nat.lt_of_lt_of_le hsz b_.size
      have HA := Aside0.mk (below_then HA.out b_)
      clear b_
      go_wp2_with fail
      go_roundw
      case rel => exact ⟨4, by omega, by go_num, ⟨below_then HB.out HA.out⟩, ⟨below_then HW.out HA.out⟩⟩
      case measure => simp [intOf]
    · -- row 4
      have hc0 : wr.cell? ⟨u3.heap.size, 16, none⟩ = some (.int .i64 (-(1 + (b0 : Int)))) := (HW.out.cell (by simp)).trans (cell_lit u3 _ _ 16)
      have hc1 : wr.cell? ⟨u3.heap.size, 17, none⟩ = some (.int .i64 0) := (HW.out.cell (by simp)).trans (cell_lit u3 _ _ 17)
      have hc2 : wr.cell? ⟨u3.heap.size, 18, none⟩ = some (.int .i64 1) := (HW.out.cell (by simp)).trans (cell_lit u3 _ _ 18)
      have hc3 : wr.cell? ⟨u3.heap.size, 19, none⟩ = some (.int .i64 1) := (HW.out.cell (by simp)).trans (cell_lit u3 _ _ 19)
      have P2 := err_arg (n := (-(1 + (b0 : Int)))) (k := 0) (x := 1) (lo := 0) (hi := 10000) (by omega)
      have P3 := err_arg (n := (-(1 + (b0 : Int)))) (k := 0) (x := 1) (lo := 1) (hi := 2000) (by omega)
      have Q2 := Aside0.mk P2
      have Q3 := Aside0.mk P3
      clear P2 P3
      go_wp2_with fail
      obtain ⟨wc, hwc⟩ : ∃ wc, wc = wr.alloc (.cells #[.int .i64 (-(1 + (b0 : Int))), .int .i64 0, .int .i64 1, .int .i64 1] 48) := ⟨_, rfl⟩
      have ha0 : wc.cell? ⟨wr.heap.size, 0, none⟩ = some (.int .i64 (-(1 + (b0 : Int)))) := by rw [hwc]; exact cell_lit wr _ _ 0
      have ha1 : wc.cell? ⟨wr.heap.size, 1, none⟩ = some (.int .i64 0) := by rw [hwc]; exact cell_lit wr _ _ 1
      have ha2 : wc.cell? ⟨wr.heap.size, 2, none⟩ = some (.int .i64 1) := by rw [hwc]; exact cell_lit wr _ _ 2
      have ha3 : wc.cell? ⟨wr.heap.size, 3, none⟩ = some (.int .i64 1) := by rw [hwc]; exact cell_lit wr _ _ 3
      have HA := Aside0.mk (show Below wr.heap.size wr wc by rw [hwc]; exact below_alloc (Below.refl _ _) _)
      have hsz : wr.heap.size < wc.heap.size := by rw [hwc]; simp
      rw [← hwc]
      clear hwc
      refine (Chance_err (-(1 + (b0 : Int))) 0 1 _ (by rw [Q2.out]; decide)).mono ?_
      rw [Q2.out]
      rintro e x0 ⟨v0, rfl, h_, b_⟩
      obtain ⟨A0, c0, rfl⟩ := isN_zero h_
      clear h_
      have ha0 := (b_.cell (p := ⟨wr.heap.size, 0, none⟩) hsz).trans ha0
      have ha1 := (b_.cell (p := ⟨wr.heap.size, 1, none⟩) hsz).trans ha1
      have ha2 := (b_.cell (p := ⟨wr.heap.size, 2, none⟩) hsz).trans ha2
      have ha3 := (b_.cell (p := ⟨wr.heap.size, 3, none⟩) hsz).trans ha3
      have hsz := Nat.lt_of_lt_of_le hsz b_.size
      have HA := Aside0.mk (below_then HA.out b_)
      clear b_
      go_wp2_with fail
      refine (Upper_err (-(1 + (b0 : Int))) 0 1 _ (by rw [Q2.out]; decide)).mono ?_
      rw [Q2.out]
      rintro e x1 ⟨v1, rfl, h_, b_⟩
      obtain ⟨A1, c1, rfl⟩ := isN_zero h_
      clear h_
      have ha0 := (b_.cell (p := ⟨wr.heap.size, 0, none⟩) hsz).trans ha0
      have ha1 := (b_.cell (p := ⟨wr.heap.size, 1, none⟩) hsz).trans ha1
      have ha2 := (b_.cell (p := ⟨wr.heap.size, 2, none⟩) hsz).trans ha2
      have ha3 := (b_.cell (p := ⟨wr.heap.size, 3, none⟩) hsz).trans ha3
      have hsz := Nat.lt_of_lt_of_le hsz b_.size
      have HA := Aside0.mk (below_then HA.out b_)
      clear b_
      go_wp2_with fail
      refine (Lower_err (-(1 + (b0 : Int))) 0 1 _ (by rw [Q2.out]; decide)).mono ?_
      rw [Q2.out]
      rintro e x2 ⟨v2, rfl, h_, b_⟩
      obtain ⟨A2, c2, rfl⟩ := isN_zero h_
      clear h_
      have ha0 := (b_.cell (p := ⟨wr.heap.size, 0, none⟩) hsz).trans ha0
      have ha1 := (b_.cell (p := ⟨wr.heap.size, 1, none⟩) hsz).trans ha1
      have ha2 := (b_.cell (p := ⟨wr.heap.size, 2, none⟩) hsz).trans ha2
      have ha3 := (b_.cell (p := ⟨wr.heap.size, 3, none⟩) hsz).trans ha3
      have hsz := Nat.lt_of_lt_of_le hsz b_.size
      have HA := Aside0.mk (below_then HA.out b_)
      clear b_
      go_wp2_with fail
      refine (Least_err (-(1 + (b0 : Int))) 0 1 _ (by rw [Q3.out]; decide)).mono ?_
      rw [Q3.out]
      rintro e x3 ⟨rfl, b_⟩
      have ha0 := (b_.cell (p := ⟨wr.heap.size, 0, none⟩) hsz).trans ha0
      have ha1 := (b_.cell (p := ⟨wr.heap.size, 1, none⟩) hsz).trans ha1
      have ha2 := (b_.cell (p := ⟨wr.heap.size, 2, none⟩) hsz).trans ha2
      have ha3 := (b_.cell (p := ⟨wr.heap.size, 3, none⟩) hsz).trans ha3
      have hsz := Nat.lt_of_lt_of_le hsz b_.size
      have HA := Aside0.mk (below_then HA.out b_)
      clear b_
      go_wp2_with fail
      refine (Greatest_err (-(1 + (b0 : Int))) 0 1 _ (by omega) (by omega) (by omega) (by omega) (by rw [Q3.out]; decide)).mono ?_
      rw [Q3.out]
      rintro e x4 ⟨rfl, b_⟩
      have ha0 := (b_.cell (p := ⟨wr.heap.size, 0, none⟩) hsz).trans ha0
      have ha1 := (b_.cell (p := ⟨wr.heap.size, 1, none⟩) hsz).trans ha1
      have ha2 := (b_.cell (p := ⟨wr.heap.size, 2, none⟩) hsz).trans ha2
      have ha3 := (b_.cell (p := ⟨wr.heap.size, 3, none⟩) hsz).trans ha3
      have hsz := Nat.lt_of_lt_of_le hsz b_.size
      have HA := Aside0.mk (below_then HA.out b_)
      clear b_
      go_wp2_with fail
      go_roundw
      case rel => exact ⟨5, by omega, by go_num, ⟨below_then HB.out HA.out⟩, ⟨below_then HW.out HA.out⟩⟩
      case measure => simp [intOf]
    · -- row 5
      have hc0 : wr.cell? ⟨u3.heap.size, 20, none⟩ = some (.int .i64 (500 + (1 + (b0 : Int)))) := (HW.out.cell (by simp)).trans (cell_lit u3 _ _ 20)
      have hc1 : wr.cell? ⟨u3.heap.size, 21, none⟩ = some (.int .i64 (-1)) := (HW.out.cell (by simp)).trans (cell_lit u3 _ _ 21)
      have hc2 : wr.cell? ⟨u3.heap.size, 22, none⟩ = some (.int .i64 1) := (HW.out.cell (by simp)).trans (cell_lit u3 _ _ 22)
      have hc3 : wr.cell? ⟨u3.heap.size, 23, none⟩ = some (.int .i64 1) := (HW.out.cell (by simp)).trans (cell_lit u3 _ _ 23)
      have P2 := err_arg (n := (500 + (1 + (b0 : Int)))) (k := (-1)) (x := 1) (lo := 0) (hi := 10000) (by omega)
      have P3 := err_arg (n := (500 + (1 + (b0 : Int)))) (k := (-1)) (x := 1) (lo := 1) (hi := 2000) (by omega)
      have Q2 := Aside0.mk P2
      have Q3 := Aside0.mk P3
      clear P2 P3
      go_wp2_with fail
      obtain ⟨wc, hwc⟩ : ∃ wc, wc = wr.alloc (.cells #[.int .i64 (500 + (1 + (b0 : Int))), .int .i64 (-1), .int .i64 1, .int .i64 1] 48) := ⟨_, rfl⟩
      have ha0 : wc.cell? ⟨wr.heap.size, 0, none⟩ = some (.int .i64 (500 + (1 + (b0 : Int)))) := by rw [hwc]; exact cell_lit wr _ _ 0
      have ha1 : wc.cell? ⟨wr.heap.size, 1, none⟩ = some (.int .i64 (-1)) := by rw [hwc]; exact cell_lit wr _ _ 1
      have ha2 : wc.cell? ⟨wr.heap.size, 2, none⟩ = some (.int .i64 1) := by rw [hwc]; exact cell_lit wr _ _ 2
      have ha3 : wc.cell? ⟨wr.heap.size, 3, none⟩ = some (.int .i64 1) := by rw [hwc]; exact cell_lit wr _ _ 3
      have HA := Aside0.mk (show Below wr.heap.size wr wc by rw [hwc]; exact below_alloc (Below.refl _ _) _)
      have hsz : wr.heap.size < wc.heap.size := by rw [hwc]; simp
      rw [← hwc]
      clear hwc
      refine (Chance_err (500 + (1 + (b0 : Int))) (-1) 1 _ (by rw [Q2.out]; decide)).mono ?_
      rw [Q2.out]
      rintro e x0 ⟨v0, rfl, h_, b_⟩
      obtain ⟨A0, c0, rfl⟩ := isN_zero h_
      clear h_
      have ha0 := (b_.cell (p := ⟨wr.heap.size, 0, none⟩) hsz).trans ha0
      have ha1 := (b_.cell (p := ⟨wr.heap.size, 1, none⟩) hsz).trans ha1
      have ha2 := (b_.cell (p := ⟨wr.heap.size, 2, none⟩) hsz).trans ha2
      have ha3 := (b_.cell (p := ⟨wr.heap.size, 3, none⟩) hsz).trans ha3
      have hsz := Nat.lt_of_lt_of_le hsz b_.size
      have HA := Aside0.mk (below_then HA.out b_)
      clear b_
      go_wp2_with fail
      refine (Upper_err (500 + (1 + (b0 : Int))) (-1) 1 _ (by rw [Q2.out]; decide)).mono ?_
      rw [Q2.out]
      rintro e x1 ⟨v1, rfl, h_, b_⟩
      obtain ⟨A1, c1, rfl⟩ := isN_zero h_
      clear h_
      have ha0 := (b_.cell (p := ⟨wr.heap.size, 0, none⟩) hsz).trans ha0
      have ha1 := (b_.cell (p := ⟨wr.heap.size, 1, none⟩) hsz).trans ha1
      have ha2 := (b_.cell (p := ⟨wr.heap.size, 2, none⟩) hsz).trans ha2
      have ha3 := (b_.cell (p := ⟨wr.heap.size, 3, none⟩) hsz).trans ha3
      have hsz := Nat.lt_of_lt_of_le hsz b_.size
      have HA := Aside0.mk (below_then HA.out b_)
      clear b_
      go_wp2_with fail
      refine (Lower_err (500 + (1 + (b0 : Int))) (-1) 1 _ (by rw [Q2.out]; decide)).mono ?_
      rw [Q2.out]
      rintro e x2 ⟨v2, rfl, h_, b_⟩
      obtain ⟨A2, c2, rfl⟩ := isN_zero h_
      clear h_
      have ha0 := (b_.cell (p := ⟨wr.heap.size, 0, none⟩) hsz).trans ha0
      have ha1 := (b_.cell (p := ⟨wr.heap.size, 1, none⟩) hsz).trans ha1
      have ha2 := (b_.cell (p := ⟨wr.heap.size, 2, none⟩) hsz).trans ha2
      have ha3 := (b_.cell (p := ⟨wr.heap.size, 3, none⟩) hsz).trans ha3
      have hsz := Nat.lt_of_lt_of_le hsz b_.size
      have HA := Aside0.mk (below_then HA.out b_)
      clear b_
      go_wp2_with fail
      refine (Least_err (500 + (1 + (b0 : Int))) (-1) 1 _ (by rw [Q3.out]; decide)).mono ?_
      rw [Q3.out]
      rintro e x3 ⟨rfl, b_⟩
      have ha0 := (b_.cell (p := ⟨wr.heap.size, 0, none⟩) hsz).trans ha0
      have ha1 := (b_.cell (p := ⟨wr.heap.size, 1, none⟩) hsz).trans ha1
      have ha2 := (b_.cell (p := ⟨wr.heap.size, 2, none⟩) hsz).trans ha2
      have ha3 := (b_.cell (p := ⟨wr.heap.size, 3, none⟩) hsz).trans ha3
      have hsz := Nat.lt_of_lt_of_le hsz b_.size
      have HA := Aside0.mk (below_then HA.out b_)
      clear b_
      go_wp2_with fail
      refine (Greatest_err (500 + (1 + (b0 : Int))) (-1) 1 _ (by omega) (by omega) (by omega) (by omega) (by rw [Q3.out]; decide)).mono ?_
      rw [Q3.out]
      rintro e x4 ⟨rfl, b_⟩
      have ha0 := (b_.cell (p := ⟨wr.heap.size, 0, none⟩) hsz).trans ha0
      have ha1 := (b_.cell (p := ⟨wr.heap.size, 1, none⟩) hsz).trans ha1
      have ha2 := (b_.cell (p := ⟨wr.heap.size, 2, none⟩) hsz).trans ha2
      have ha3 := (b_.cell (p := ⟨wr.heap.size, 3, none⟩) hsz).trans ha3
      have hsz := Nat.lt_of_lt_of_le hsz b_.size
      have HA := Aside0.mk (below_then HA.out b_)
      clear b_
      go_wp2_with fail
      go_roundw
      case rel => exact ⟨6, by omega, by go_num, ⟨below_then HB.out HA.out⟩, ⟨below_then HW.out HA.out⟩⟩
      case measure => simp [intOf]
    · -- behind the rows
      have Q1 := Aside0.mk (err_long (n := 500 + (1 + (b0 : Int))) (k := 0) (x := 0) (lo := 0) (hi := 0) (by omega) (by omega))
      have Q2 := Aside0.mk (err_long (n := 500 + (1 + (b0 : Int))) (k := 500 + (1 + (b0 : Int))) (x := 1) (lo := 1) (hi := 2000) (by omega) (by omega))
      have Q3 := Aside0.mk (err_long (n := 500 + (1 + (b0 : Int))) (k := 0) (x := 1) (lo := 1) (hi := 2000) (by omega) (by omega))
      have Q4 := Aside0.mk (quantE_arg (l := [1]) (q := 10000 + (1 + (b0 : Int))) (by simp) (by omega))
      have Q5 := Aside0.mk (quantE_arg (l := []) (q := -(1 + (b0 : Int))) (by simp) (by omega))
      have N4 := Aside0.mk (show quantN [1] (10000 + (1 + (b0 : Int))) = 0 by unfold quantN; rw [Q4.out]; rfl)
      have N5 := Aside0.mk (show quantN [] (-(1 + (b0 : Int))) = 0 by unfold quantN; rw [Q5.out]; rfl)
      clear HW
      go_wp2_with fail
      refine (Choose_err (500 + (1 + (b0 : Int))) 0 _ (by rw [Q1.out]; decide)).mono ?_
      rw [Q1.out]
      rintro e y1 ⟨v1, rfl, h_, b_⟩
      obtain ⟨A1, c1, rfl⟩ := isN_zero h_
      clear h_
      have HB1 := Aside0.mk (below_then HB.out b_)
      clear b_
      go_wp2_with fail
      refine (Least_err (500 + (1 + (b0 : Int))) (500 + (1 + (b0 : Int))) 1 _ (by rw [Q2.out]; decide)).mono ?_
      rw [Q2.out]
      rintro e y2 ⟨rfl, b_⟩
      have HB2 := Aside0.mk (below_then HB1.out b_)
      clear b_
      go_wp2_with fail
      refine (Greatest_err (500 + (1 + (b0 : Int))) 0 1 _ (by omega) (by omega) (by omega) (by omega) (by rw [Q3.out]; decide)).mono ?_
      rw [Q3.out]
      rintro e y3 ⟨rfl, b_⟩
      have HB3 := Aside0.mk (below_then HB2.out b_)
      clear b_
      go_wp2_with fail
      refine (Quantile_calls [1] (10000 + (1 + (b0 : Int))) _ (isI_one _ _ 1)).mono ?_
      rw [Q4.out, N4.out]
      rintro e y4 ⟨rfl, b_⟩
      have HB4 := Aside0.mk (below_then HB3.out (below_then (below_alloc (Below.refl _ _) _) b_))
      clear b_
      go_wp2_with fail
      refine (Quantile_calls [] (-(1 + (b0 : Int))) _ (isI_nil _)).mono ?_
      rw [Q5.out, N5.out]
      rintro e y5 ⟨rfl, b_⟩
      have HB5 := Aside0.mk (below_then HB4.out b_)
      clear b_
      go_wp2_with fail
      go_ret
      exact ⟨rfl, HB5.out⟩

end Go.Proofs.Ytenmlkcjgefmpaa
