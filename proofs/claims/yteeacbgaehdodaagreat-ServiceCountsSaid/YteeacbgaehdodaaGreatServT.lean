/- awake: the walk. -/
import Derived.Test.YteeacbgaehdodaaGreatServS
namespace Go.Proofs.YteeacbgaehdodaaGreat
set_option linter.unusedVariables false
open Go Go.RowKit Go.Shelf Go.Lib Go.Sort Go.Maps Go.Proofs.YteeacbgaehdodaaGreatW.PrintWords Go.Proofs.YteeacbgaehdodaaGreatW.PrintLast Go.Proofs.YteeacbgaehdodaaGreatW.PrintMore Go.Proofs.YteeacbgaehdodaaGreat.Fn

theorem keptE : okM stdE (sentsE 2000 10) 3000 500 := ⟨by decide, by decide, by decide, stdE_right, by decide +kernel⟩
theorem lateE : okM stdE (sentsE (-1) 10) 3000 500 := ⟨by decide, by decide, by decide, stdE_right, by decide +kernel⟩
theorem sentsE_key (d : Int) (n : Nat) : ∀ x, x ∈ sentsE d n → keyM x = (1, 2, 3) := fun x hx => by
  unfold sentsE at hx
  obtain ⟨i, _, rfl⟩ := List.mem_map.1 hx
  rfl
theorem leastE1 : leastN 10 10 500 = 7412 := leastN_eq (by decide +kernel) (by decide) (.inr (by decide +kernel))
theorem leastE2 : leastN 10 0 500 = 0 := leastN_eq (by decide +kernel) (by decide) (.inl rfl)
theorem rawE1 : rawRow stdE 3000 keyM (sentsE 2000 10) (1, 2, 3) = ⟨1, 2, 3, 10, 10, 0, 0, 0, 0⟩ := by
  have h1 : cntR stdE 3000 keyM (sentsE 2000 10) (1, 2, 3) (fun o => decide (o ≠ 1) && decide (o ≠ 4)) = 10 := by decide +kernel
  have h2 : cntR stdE 3000 keyM (sentsE 2000 10) (1, 2, 3) (fun o => decide (o = 2)) = 10 := by decide +kernel
  have h3 : cntR stdE 3000 keyM (sentsE 2000 10) (1, 2, 3) (fun o => decide (o = 1)) = 0 := by decide +kernel
  have h4 : cntR stdE 3000 keyM (sentsE 2000 10) (1, 2, 3) (fun o => decide (o = 4)) = 0 := by decide +kernel
  unfold rawRow
  rw [h1, h2, h3, h4]
theorem rawE2 : rawRow stdE 3000 keyM (sentsE (-1) 10) (1, 2, 3) = ⟨1, 2, 3, 10, 0, 0, 0, 0, 0⟩ := by
  have h1 : cntR stdE 3000 keyM (sentsE (-1) 10) (1, 2, 3) (fun o => decide (o ≠ 1) && decide (o ≠ 4)) = 10 := by decide +kernel
  have h2 : cntR stdE 3000 keyM (sentsE (-1) 10) (1, 2, 3) (fun o => decide (o = 2)) = 0 := by decide +kernel
  have h3 : cntR stdE 3000 keyM (sentsE (-1) 10) (1, 2, 3) (fun o => decide (o = 1)) = 0 := by decide +kernel
  have h4 : cntR stdE 3000 keyM (sentsE (-1) 10) (1, 2, 3) (fun o => decide (o = 4)) = 0 := by decide +kernel
  unfold rawRow
  rw [h1, h2, h3, h4]
theorem sentsE_ne (d : Int) (n : Nat) : sentsE d (n + 1) ≠ [] := fun e => by
  have := congrArg List.length e
  rw [sentsE_length] at this
  simp at this
theorem meas_kept {rows : List RR} {er : Int} (h : MeasR stdE (sentsE 2000 10) 3000 500 keyM rows er) : rows = [⟨1, 2, 3, 10, 10, 0, 0, 7412, 10000⟩] ∧ er = 0 := by
  obtain ⟨rfl, l, h1, _, rfl⟩ := h.few keptE (by rw [sentsE_length]; omega)
  rw [h1.single (sentsE_key _ _) (sentsE_ne _ _), rawE1]
  refine ⟨?_, rfl⟩
  show [({ f0 := 1, f1 := 2, f2 := 3, f3 := 10, f4 := 10, f5 := 0, f6 := 0, f7 := (leastN 10 10 500 : Int), f8 := 10000 - (leastN 10 (10 - 10) 500 : Int) } : RR)] = _
  rw [leastE1, show (10 : Nat) - 10 = 0 from rfl, leastE2]; rfl
theorem meas_late {rows : List RR} {er : Int} (h : MeasR stdE (sentsE (-1) 10) 3000 500 keyM rows er) : rows = [⟨1, 2, 3, 10, 0, 0, 0, 0, 2588⟩] ∧ er = 0 := by
  obtain ⟨rfl, l, h1, _, rfl⟩ := h.few lateE (by rw [sentsE_length]; omega)
  rw [h1.single (sentsE_key _ _) (sentsE_ne _ _), rawE2]
  refine ⟨?_, rfl⟩
  show [({ f0 := 1, f1 := 2, f2 := 3, f3 := 10, f4 := 0, f5 := 0, f6 := 0, f7 := (leastN 10 0 500 : Int), f8 := 10000 - (leastN 10 (10 - 0) 500 : Int) } : RR)] = _
  rw [show (10 : Nat) - 0 = 10 from rfl, leastE1, leastE2]; rfl

theorem isX_three (W : World) (x y z : SX) : IsX (W.alloc (.cells #[.int .i64 x.f0, .int .u8 x.f1, .int .i64 x.f2, .int .i64 x.f3, .int .i64 x.f4, .int .i64 x.f5, .int .i64 y.f0, .int .u8 y.f1, .int .i64 y.f2, .int .i64 y.f3, .int .i64 y.f4, .int .i64 y.f5, .int .i64 z.f0, .int .u8 z.f1, .int .i64 z.f2, .int .i64 z.f3, .int .i64 z.f4, .int .i64 z.f5] 35)) (.slice (some ⟨W.heap.size, 0, none⟩) 3 3) [x, y, z] := by
  refine ⟨_, 3, rfl, Nat.le_refl _, C_of_cells (by simp) (fun i hi k v hk => ?_)⟩
  have hk6 : k < 6 := (List.getElem?_eq_some_iff.1 hk).1
  have hi3 : i < 3 := hi
  refine box_cell W _ _ _ v ?_
  rw [← hk]
  (rcases i with _ | _ | _ | i) <;> (try omega) <;> (rcases k with _ | _ | _ | _ | _ | _ | k) <;> (try omega) <;> rfl
theorem sort3 : sortI [100, 300, 2000] = [100, 300, 2000] := by
  unfold sortI
  exact List.mergeSort_of_pairwise (by decide)
theorem transE : transitR [⟨1, 1, 2, 3, 500, 600⟩, ⟨2, 1, 2, 3, 500, 800⟩, ⟨3, 1, 2, 3, 500, 2500⟩] 1 2 3 3000 5000 = (300, 0) := by
  unfold transitR
  rw [if_pos (by refine ⟨by decide, by decide, by decide, by decide +kernel⟩)]
  have hm : minutesR 1 2 3 3000 [⟨1, 1, 2, 3, 500, 600⟩, ⟨2, 1, 2, 3, 500, 800⟩, ⟨3, 1, 2, 3, 500, 2500⟩] = [100, 300, 2000] := by decide +kernel
  rw [hm]
  have he : quantE [100, 300, 2000] 5000 = 0 := by decide
  have hq : quantN [100, 300, 2000] 5000 = 300 := by
    unfold quantN
    rw [if_pos he, sort3]; decide +kernel
  rw [he, hq]

def litE : Array Value := #[.int .i64 1, .int .u8 1, .int .i64 2, .int .i64 3, .int .i64 500, .int .i64 2879, .int .i64 2878, .int .u8 1, .int .i64 1, .int .u8 1, .int .i64 2, .int .i64 3, .int .i64 500, .int .i64 2879, .int .i64 2879, .int .u8 2, .int .i64 1, .int .u8 1, .int .i64 2, .int .i64 3, .int .i64 500, .int .i64 (-1), .int .i64 2879, .int .u8 1, .int .i64 1, .int .u8 1, .int .i64 2, .int .i64 3, .int .i64 500, .int .i64 (-1), .int .i64 2880, .int .u8 3, .int .i64 1, .int .u8 1, .int .i64 3, .int .i64 2, .int .i64 500, .int .i64 2879, .int .i64 2879, .int .u8 4]
theorem litE_at (j : Nat) (hj : j < 5) : ∃ a0 a1 a2 a3 a4 a5 n o : Int, litE[j * 8]? = some (.int .i64 a0) ∧ litE[j * 8 + 1]? = some (.int .u8 a1) ∧ litE[j * 8 + 2]? = some (.int .i64 a2) ∧ litE[j * 8 + 3]? = some (.int .i64 a3) ∧ litE[j * 8 + 4]? = some (.int .i64 a4) ∧ litE[j * 8 + 5]? = some (.int .i64 a5) ∧ litE[j * 8 + 6]? = some (.int .i64 n) ∧ litE[j * 8 + 7]? = some (.int .u8 o) ∧ judgeR stdE ⟨a0, a1, a2, a3, a4, a5⟩ n = (o, 0) := by
  match j, hj with
  | 0, _ => exact ⟨1, 1, 2, 3, 500, 2879, 2878, 1, rfl, rfl, rfl, rfl, rfl, rfl, rfl, rfl, by decide +kernel⟩
  | 1, _ => exact ⟨1, 1, 2, 3, 500, 2879, 2879, 2, rfl, rfl, rfl, rfl, rfl, rfl, rfl, rfl, by decide +kernel⟩
  | 2, _ => exact ⟨1, 1, 2, 3, 500, -1, 2879, 1, rfl, rfl, rfl, rfl, rfl, rfl, rfl, rfl, by decide +kernel⟩
  | 3, _ => exact ⟨1, 1, 2, 3, 500, -1, 2880, 3, rfl, rfl, rfl, rfl, rfl, rfl, rfl, rfl, by decide +kernel⟩
  | 4, _ => exact ⟨1, 1, 3, 2, 500, 2879, 2879, 4, rfl, rfl, rfl, rfl, rfl, rfl, rfl, rfl, by decide +kernel⟩

set_option maxHeartbeats 4000000 in
set_option maxRecDepth 100000 in
theorem awake_calls (w : World) : Calls Tryz.prog 13 #[] w fun e w' => e = .returned (.bool true) ∧ Below w.heap.size w w' := by
  go_enter Tryz.func13, Tryz.ntmps13
  go_wp2_with fail
  refine (sentE_calls 1 2879 _).mono ?_
  rintro e w1 ⟨rfl, b1⟩
  obtain ⟨w2, hw2⟩ : ∃ w2, w2 = w1.alloc (.cells #[.int .i64 1, .int .u8 1, .int .i64 3, .int .i64 2, .int .i64 500, .int .i64 2879] 35) := ⟨_, rfl⟩
  have HB2 : Aside0 (Below w.heap.size w w2) := ⟨by rw [hw2]; exact below_alloc b1 _⟩
  have HX2 : Aside0 (BoxX w2 w1.heap.size ⟨1, 1, 3, 2, 500, 2879⟩) := ⟨by rw [hw2]; exact BoxX.mk w1 1 1 3 2 500 2879 _⟩
  have HW2 := Aside0.mk hw2
  clear hw2 b1
  have k0 : w2.cell? ⟨w1.heap.size, 0, none⟩ = some (.int .i64 1) := HX2.out.2 0 _ rfl
  have k1 : w2.cell? ⟨w1.heap.size, 1, none⟩ = some (.int .u8 1) := HX2.out.2 1 _ rfl
  have k2 : w2.cell? ⟨w1.heap.size, 2, none⟩ = some (.int .i64 3) := HX2.out.2 2 _ rfl
  have k3 : w2.cell? ⟨w1.heap.size, 3, none⟩ = some (.int .i64 2) := HX2.out.2 3 _ rfl
  have k4 : w2.cell? ⟨w1.heap.size, 4, none⟩ = some (.int .i64 500) := HX2.out.2 4 _ rfl
  have k5 : w2.cell? ⟨w1.heap.size, 5, none⟩ = some (.int .i64 2879) := HX2.out.2 5 _ rfl
  have aE := Tryz.isAgg35
  have zE := Tryz.sizeOf35
  go_wp2_with fail
  rw [← HW2.out]
  go_region_held3 (fun W' => W'.cell? ⟨w1.heap.size, 0, none⟩ = some (.int .i64 1) ∧ W'.cell? ⟨w1.heap.size, 1, none⟩ = some (.int .u8 1) ∧ W'.cell? ⟨w1.heap.size, 2, none⟩ = some (.int .i64 3) ∧ W'.cell? ⟨w1.heap.size, 3, none⟩ = some (.int .i64 2) ∧ W'.cell? ⟨w1.heap.size, 4, none⟩ = some (.int .i64 500) ∧ W'.cell? ⟨w1.heap.size, 5, none⟩ = some (.int .i64 2879)) (go_keep)
    (first
      | (go_at_call 33; refine (sentE_calls _ _ _).mono ?_; rintro e w3 ⟨rfl, b_⟩; (first | have HB3 := Aside0.mk (below_step HB3.out b_) | have HB3 := Aside0.mk (below_step (pw_below_drewN HB2.out 1) b_)); (first | have HX3 := Aside0.mk (HX3.out.below b_) | have HX3 := Aside0.mk (HX2.out.below (below_step (pw_below_drewN (Below.refl w2.heap.size w2) 1) b_))); clear b_; (try clear k0 k1 k2 k3 k4 k5); have k0 : w3.cell? ⟨w1.heap.size, 0, none⟩ = some (.int .i64 1) := HX3.out.2 0 _ rfl; have k1 : w3.cell? ⟨w1.heap.size, 1, none⟩ = some (.int .u8 1) := HX3.out.2 1 _ rfl; have k2 : w3.cell? ⟨w1.heap.size, 2, none⟩ = some (.int .i64 3) := HX3.out.2 2 _ rfl; have k3 : w3.cell? ⟨w1.heap.size, 3, none⟩ = some (.int .i64 2) := HX3.out.2 3 _ rfl; have k4 : w3.cell? ⟨w1.heap.size, 4, none⟩ = some (.int .i64 500) := HX3.out.2 4 _ rfl; have k5 : w3.cell? ⟨w1.heap.size, 5, none⟩ = some (.int .i64 2879) := HX3.out.2 5 _ rfl))
  clear k0 k1 k2 k3 k4 k5
  try clear hHeld
  obtain ⟨w4, hw4⟩ : ∃ w4, w4 = w3.alloc (.cells litE 70) := ⟨_, rfl⟩
  have HB4 : Aside0 (Below w.heap.size w w4) := ⟨by rw [hw4]; exact below_alloc HB3.out _⟩
  have hlt4 : w3.heap.size < w4.heap.size := by rw [hw4]; simp
  have HC4 : Aside0 (∀ W, Below w4.heap.size w4 W → ∀ k v, litE[k]? = some v → W.cell? ⟨w3.heap.size, k, none⟩ = some v) := ⟨fun W hW k v h => (hW.cell (p := ⟨w3.heap.size, k, none⟩) hlt4).trans (by rw [hw4]; exact box_cell _ _ _ k v h)⟩
  have HW4 := Aside0.mk (show w3.alloc (.cells #[.int .i64 1, .int .u8 1, .int .i64 2, .int .i64 3, .int .i64 500, .int .i64 2879, .int .i64 2878, .int .u8 1, .int .i64 1, .int .u8 1, .int .i64 2, .int .i64 3, .int .i64 500, .int .i64 2879, .int .i64 2879, .int .u8 2, .int .i64 1, .int .u8 1, .int .i64 2, .int .i64 3, .int .i64 500, .int .i64 (-1), .int .i64 2879, .int .u8 1, .int .i64 1, .int .u8 1, .int .i64 2, .int .i64 3, .int .i64 500, .int .i64 (-1), .int .i64 2880, .int .u8 3, .int .i64 1, .int .u8 1, .int .i64 3, .int .i64 2, .int .i64 500, .int .i64 2879, .int .i64 2879, .int .u8 4] 70) = w4 from hw4.symm)
  clear hw4 hlt4
  rw [HW4.out]
  generalize w3.heap.size = g4 at *
  go_wp2_with fail
  go_loopw [34] (fun v34 W => ∃ j : Nat, j ≤ 5 ∧ v34 = .int .i64 j ∧ Aside0 (Below w4.heap.size w4 W)) (fun v34 _ => 5 - (intOf v34).toNat)
  case atStart => exact ⟨0, by omega, rfl, ⟨Below.refl _ _⟩⟩
  case round =>
    obtain ⟨j, hj, rfl, HB⟩ := hrel
    by_cases hj5 : j < 5
    · obtain ⟨a0, a1, a2, a3, a4, a5, n, o, e0, e1, e2, e3, e4, e5, e6, e7, hjd⟩ := litE_at j hj5
      have x0 : wr.cell? ⟨g4, j * 8, none⟩ = some (.int .i64 a0) := HC4.out _ HB.out _ _ e0
      have x1 : wr.cell? ⟨g4, j * 8 + 1, none⟩ = some (.int .u8 a1) := HC4.out _ HB.out _ _ e1
      have x2 : wr.cell? ⟨g4, j * 8 + 2, none⟩ = some (.int .i64 a2) := HC4.out _ HB.out _ _ e2
      have x3 : wr.cell? ⟨g4, j * 8 + 3, none⟩ = some (.int .i64 a3) := HC4.out _ HB.out _ _ e3
      have x4 : wr.cell? ⟨g4, j * 8 + 4, none⟩ = some (.int .i64 a4) := HC4.out _ HB.out _ _ e4
      have x5 : wr.cell? ⟨g4, j * 8 + 5, none⟩ = some (.int .i64 a5) := HC4.out _ HB.out _ _ e5
      have x6 : wr.cell? ⟨g4, j * 8 + 6, none⟩ = some (.int .i64 n) := HC4.out _ HB.out _ _ e6
      have x7 : wr.cell? ⟨g4, j * 8 + 7, none⟩ = some (.int .u8 o) := HC4.out _ HB.out _ _ e7
      have HJ := Aside0.mk (fun W (v : Value) (h : IsS W v stdE) => Judge_calls stdE ⟨a0, a1, a2, a3, a4, a5⟩ n W h)
      rw [hjd] at HJ
      unfold aggX at HJ
      dsimp only at HJ
      clear hjd e0 e1 e2 e3 e4 e5 e6 e7
      obtain ⟨wa, hwa⟩ : ∃ wa, wa = wr.alloc (.cells #[.int .i64 a0, .int .u8 a1, .int .i64 a2, .int .i64 a3, .int .i64 a4, .int .i64 a5, .int .i64 n, .int .u8 o] 70) := ⟨_, rfl⟩
      have c0 : wa.cell? ⟨wr.heap.size, 0, none⟩ = some (.int .i64 a0) := by rw [hwa]; exact box_cell _ _ _ 0 _ rfl
      have c1 : wa.cell? ⟨wr.heap.size, 1, none⟩ = some (.int .u8 a1) := by rw [hwa]; exact box_cell _ _ _ 1 _ rfl
      have c2 : wa.cell? ⟨wr.heap.size, 2, none⟩ = some (.int .i64 a2) := by rw [hwa]; exact box_cell _ _ _ 2 _ rfl
      have c3 : wa.cell? ⟨wr.heap.size, 3, none⟩ = some (.int .i64 a3) := by rw [hwa]; exact box_cell _ _ _ 3 _ rfl
      have c4 : wa.cell? ⟨wr.heap.size, 4, none⟩ = some (.int .i64 a4) := by rw [hwa]; exact box_cell _ _ _ 4 _ rfl
      have c5 : wa.cell? ⟨wr.heap.size, 5, none⟩ = some (.int .i64 a5) := by rw [hwa]; exact box_cell _ _ _ 5 _ rfl
      have c6 : wa.cell? ⟨wr.heap.size, 6, none⟩ = some (.int .i64 n) := by rw [hwa]; exact box_cell _ _ _ 6 _ rfl
      have c7 : wa.cell? ⟨wr.heap.size, 7, none⟩ = some (.int .u8 o) := by rw [hwa]; exact box_cell _ _ _ 7 _ rfl
      have HBa : Aside0 (Below w4.heap.size w4 wa) := ⟨by rw [hwa]; exact below_alloc HB.out _⟩
      have HLT : Aside0 (wr.heap.size < wa.heap.size) := ⟨by rw [hwa]; simp⟩
      have HWA := Aside0.mk hwa
      clear hwa
      go_wp2_with fail
      rw [← HWA.out]
      clear x0 x1 x2 x3 x4 x5 x6 x7
      go_region_held3 (fun W' => W'.cell? ⟨wr.heap.size, 0, none⟩ = some (.int .i64 a0) ∧ W'.cell? ⟨wr.heap.size, 1, none⟩ = some (.int .u8 a1) ∧ W'.cell? ⟨wr.heap.size, 2, none⟩ = some (.int .i64 a2) ∧ W'.cell? ⟨wr.heap.size, 3, none⟩ = some (.int .i64 a3) ∧ W'.cell? ⟨wr.heap.size, 4, none⟩ = some (.int .i64 a4) ∧ W'.cell? ⟨wr.heap.size, 5, none⟩ = some (.int .i64 a5) ∧ W'.cell? ⟨wr.heap.size, 6, none⟩ = some (.int .i64 n) ∧ W'.cell? ⟨wr.heap.size, 7, none⟩ = some (.int .u8 o)) (go_keep)
        (first
          | (go_at_call 34; refine (stdE_calls _).mono ?_; rintro e w5 ⟨v5, rfl, hv5, b_⟩; have b5 : Below wa.heap.size wa w5 := below_step (pw_below_drewN (Below.refl wa.heap.size wa) 1) b_; have HB5 := Aside0.mk (below_step HBa.out b5); have HV5 := Aside0.mk hv5; have HLT5 : Aside0 (wr.heap.size < w5.heap.size) := ⟨Nat.lt_of_lt_of_le HLT.out b5.size⟩; have c0 : w5.cell? ⟨wr.heap.size, 0, none⟩ = some (.int .i64 a0) := (b5.cell (p := ⟨wr.heap.size, 0, none⟩) HLT.out).trans c0; have c1 : w5.cell? ⟨wr.heap.size, 1, none⟩ = some (.int .u8 a1) := (b5.cell (p := ⟨wr.heap.size, 1, none⟩) HLT.out).trans c1; have c2 : w5.cell? ⟨wr.heap.size, 2, none⟩ = some (.int .i64 a2) := (b5.cell (p := ⟨wr.heap.size, 2, none⟩) HLT.out).trans c2; have c3 : w5.cell? ⟨wr.heap.size, 3, none⟩ = some (.int .i64 a3) := (b5.cell (p := ⟨wr.heap.size, 3, none⟩) HLT.out).trans c3; have c4 : w5.cell? ⟨wr.heap.size, 4, none⟩ = some (.int .i64 a4) := (b5.cell (p := ⟨wr.heap.size, 4, none⟩) HLT.out).trans c4; have c5 : w5.cell? ⟨wr.heap.size, 5, none⟩ = some (.int .i64 a5) := (b5.cell (p := ⟨wr.heap.size, 5, none⟩) HLT.out).trans c5; have c6 : w5.cell? ⟨wr.heap.size, 6, none⟩ = some (.int .i64 n) := (b5.cell (p := ⟨wr.heap.size, 6, none⟩) HLT.out).trans c6; have c7 : w5.cell? ⟨wr.heap.size, 7, none⟩ = some (.int .u8 o) := (b5.cell (p := ⟨wr.heap.size, 7, none⟩) HLT.out).trans c7; clear b_ b5 hv5)
          | (go_at_call 16; refine (HJ.out _ _ HV5.out).mono ?_; rintro e w6 ⟨rfl, b_⟩; have HB6 := Aside0.mk (below_step HB5.out b_); have c0 : w6.cell? ⟨wr.heap.size, 0, none⟩ = some (.int .i64 a0) := (b_.cell (p := ⟨wr.heap.size, 0, none⟩) HLT5.out).trans c0; have c1 : w6.cell? ⟨wr.heap.size, 1, none⟩ = some (.int .u8 a1) := (b_.cell (p := ⟨wr.heap.size, 1, none⟩) HLT5.out).trans c1; have c2 : w6.cell? ⟨wr.heap.size, 2, none⟩ = some (.int .i64 a2) := (b_.cell (p := ⟨wr.heap.size, 2, none⟩) HLT5.out).trans c2; have c3 : w6.cell? ⟨wr.heap.size, 3, none⟩ = some (.int .i64 a3) := (b_.cell (p := ⟨wr.heap.size, 3, none⟩) HLT5.out).trans c3; have c4 : w6.cell? ⟨wr.heap.size, 4, none⟩ = some (.int .i64 a4) := (b_.cell (p := ⟨wr.heap.size, 4, none⟩) HLT5.out).trans c4; have c5 : w6.cell? ⟨wr.heap.size, 5, none⟩ = some (.int .i64 a5) := (b_.cell (p := ⟨wr.heap.size, 5, none⟩) HLT5.out).trans c5; have c6 : w6.cell? ⟨wr.heap.size, 6, none⟩ = some (.int .i64 n) := (b_.cell (p := ⟨wr.heap.size, 6, none⟩) HLT5.out).trans c6; have c7 : w6.cell? ⟨wr.heap.size, 7, none⟩ = some (.int .u8 o) := (b_.cell (p := ⟨wr.heap.size, 7, none⟩) HLT5.out).trans c7; clear b_))
      go_wp2_with fail
      go_roundw
      case rel => exact ⟨j + 1, by omega, by go_num, HB6⟩
      case measure => simp [intOf]; omega
    · obtain rfl : j = 5 := by omega
      have HB7 := Aside0.mk (below_step HB4.out HB.out)
      clear HC4 HW4 HX3 HB3 HX2 HB2 HW2
      go_wp2_with fail
      have HK0 := Aside0.mk (OwnX.nil wr w.heap.size)
      go_loopw [6, 7, 8] (fun v6 v7 v8 W => ∃ i : Nat, i ≤ 10 ∧ v8 = .int .i64 ((i : Int) + 1) ∧ Aside0 (OwnX W w.heap.size v6 (sentsE 2000 i)) ∧ Aside0 (OwnX W w.heap.size v7 (sentsE (-1) i)) ∧ Aside0 (Apart2 v6 v7) ∧ Aside0 (Below w.heap.size w W)) (fun _ _ v8 _ => 11 - (intOf v8).toNat)
      case atStart => exact ⟨0, by omega, rfl, HK0, HK0, ⟨fun k hk => by simp [Value.ownBlock] at hk⟩, HB7⟩
      case round =>
        clear HK0 HB7
        obtain ⟨i, hi, rfl, HK, HL, HA, HB⟩ := hrel
        by_cases hi10 : i < 10
        · obtain ⟨A6, c6, rfl⟩ := HK.out.slice
          obtain ⟨A7, c7, rfl⟩ := HL.out.slice
          have hle : ((i : Int) + 1) ≤ 10 := by omega
          go_wp2_with fail
          refine (sentE_calls _ _ _).mono ?_
          rintro e w5 ⟨rfl, b_⟩
          have HK5 := Aside0.mk (HK.out.below b_)
          have HL5 := Aside0.mk (HL.out.below b_)
          have HB5 := Aside0.mk (below_step HB.out b_)
          clear b_
          go_wp2_with (first
            | ((with_reducible refine gate_builtin (b := .append) (xs := #[.tmp 60, .tmp 63]) rfl ?_); at_builtin; refine print_append_cells (w0 := w) w.heap.size rfl (.tmp 60) (.tmp 63) 25 35 (.agg #[.int .i64 0, .int .u8 0, .int .i64 0, .int .i64 0, .int .i64 0, .int .i64 0]) 6 48 rfl Tryz.underlying25 infoXm rfl (by decide) (by decide) _ _ _ (encX ⟨(i : Int) + 1, 1, 2, 3, 500, 2000⟩) rfl rfl rfl (encX_one _) HK5.out HB5.out HB5.out.size (by rw [sentsE_length]; omega) ?_; intro v6 w6 ho6 hb6 hg6 hat6; have HK6 := Aside0.mk (OwnX.appended ho6); have HB6 := Aside0.mk hb6; have HL6 := Aside0.mk (HL5.out.kept hg6 HA.out.ne); have HA6 := Aside0.mk (HA.out.step HL5.out (Nat.le_refl _) hat6); clear ho6 hb6 hg6 hat6))
          refine (sentE_calls _ _ _).mono ?_
          rintro e w7 ⟨rfl, b_⟩
          have HK7 := Aside0.mk (HK6.out.below b_)
          have HL7 := Aside0.mk (HL6.out.below b_)
          have HB7 := Aside0.mk (below_step HB6.out b_)
          clear b_
          go_wp2_with (first
            | ((with_reducible refine gate_builtin (b := .append) (xs := #[.tmp 65, .tmp 68]) rfl ?_); at_builtin; refine print_append_cells (w0 := w) w.heap.size rfl (.tmp 65) (.tmp 68) 25 35 (.agg #[.int .i64 0, .int .u8 0, .int .i64 0, .int .i64 0, .int .i64 0, .int .i64 0]) 6 48 rfl Tryz.underlying25 infoXm rfl (by decide) (by decide) _ _ _ (encX ⟨(i : Int) + 1, 1, 2, 3, 500, -1⟩) rfl rfl rfl (encX_one _) HL7.out HB7.out HB7.out.size (by rw [sentsE_length]; omega) ?_; intro v8 w8 ho8 hb8 hg8 hat8; have HL8 := Aside0.mk (OwnX.appended ho8); have HB8 := Aside0.mk hb8; have HK8 := Aside0.mk (HK7.out.kept hg8 HA6.out.symm.ne); have HA8 := Aside0.mk ((HA6.out.symm.step HK7.out (Nat.le_refl _) hat8).symm); clear ho8 hb8 hg8 hat8))
          go_roundw
          case rel =>
            repeat apply Exists.intro
            refine ⟨?_, rfl⟩
            exact ⟨i + 1, by omega, congrArg (Value.int .i64) (by omega), ⟨by rw [sentsE_succ]; exact HK8.out⟩, ⟨by rw [sentsE_succ]; exact HL8.out⟩, HA8, HB8⟩
          case measure => simp [intOf]; omega
        · obtain rfl : i = 10 := by omega
          have HIK := Aside0.mk HK.out.isX
          have HIL := Aside0.mk HL.out.isX
          have HPK := Aside0.mk HK.out.plain
          have HPL := Aside0.mk HL.out.plain
          clear HK HL HA
          go_wp2_with fail
          refine (stdE_calls _).mono ?_
          rintro e w5 ⟨v5, rfl, hv5, b_⟩
          have HS5 := Aside0.mk hv5
          have HK5 := Aside0.mk (HIK.out.below b_)
          have HL5 := Aside0.mk (HIL.out.below b_)
          have HB5 := Aside0.mk (below_step HB.out b_)
          clear b_ hv5 HIK HIL
          go_wp2_with fail
          refine (Measure_calls stdE (sentsE 2000 10) 3000 500 _ HS5.out HK5.out HPK.out (by rw [sentsE_length]; omega) (sentsE_u8 _ _)).mono ?_
          rintro e w6 ⟨ra, rows, er, rfl, hm, ho, b_⟩
          obtain ⟨rfl, rfl⟩ := meas_kept hm
          have HA6 := Aside0.mk ho
          have HL6 := Aside0.mk (HL5.out.below b_)
          have HB6 := Aside0.mk (below_step HB5.out b_)
          clear b_ hm ho HK5 HL5 HS5
          go_wp2_with fail
          refine (stdE_calls _).mono ?_
          rintro e w7 ⟨v7, rfl, hv7, b_⟩
          have HS7 := Aside0.mk hv7
          have HA7 := Aside0.mk (HA6.out.below b_)
          have HL7 := Aside0.mk (HL6.out.below b_)
          have HB7 := Aside0.mk (below_step HB6.out b_)
          clear b_ hv7 HA6 HL6
          go_wp2_with fail
          refine (Measure_calls stdE (sentsE (-1) 10) 3000 500 _ HS7.out HL7.out HPL.out (by rw [sentsE_length]; omega) (sentsE_u8 _ _)).mono ?_
          rintro e w8 ⟨rb, rows, er, rfl, hm, ho, b_⟩
          obtain ⟨rfl, rfl⟩ := meas_late hm
          have HA8 := Aside0.mk (HA7.out.below b_)
          have HR8 := Aside0.mk ho
          have HB8 := Aside0.mk (below_step HB7.out b_)
          clear b_ hm ho HL7 HS7 HA7
          obtain ⟨ga, ca, rfl⟩ := HA8.out.some (by decide)
          obtain ⟨gb, cb, rfl⟩ := HR8.out.some (by decide)
          have HA8 : Aside0 (OwnR w8 w5.heap.size (.slice (some ⟨ga, 0, none⟩) 1 ca) [⟨1, 2, 3, 10, 10, 0, 0, 7412, 10000⟩]) := HA8
          have HR8 : Aside0 (OwnR w8 w7.heap.size (.slice (some ⟨gb, 0, none⟩) 1 cb) [⟨1, 2, 3, 10, 0, 0, 0, 0, 2588⟩]) := HR8
          have ka0 : w8.cell? ⟨ga, 0, none⟩ = some (.int .u8 1) := by have h := OwnR.cell (l := [⟨1, 2, 3, 10, 10, 0, 0, 7412, 10000⟩]) HA8.out (i := 0) (k := 0) (by decide) (by decide); exact h
          have ka1 : w8.cell? ⟨ga, 1, none⟩ = some (.int .i64 2) := by have h := OwnR.cell (l := [⟨1, 2, 3, 10, 10, 0, 0, 7412, 10000⟩]) HA8.out (i := 0) (k := 1) (by decide) (by decide); exact h
          have ka2 : w8.cell? ⟨ga, 2, none⟩ = some (.int .i64 3) := by have h := OwnR.cell (l := [⟨1, 2, 3, 10, 10, 0, 0, 7412, 10000⟩]) HA8.out (i := 0) (k := 2) (by decide) (by decide); exact h
          have ka3 : w8.cell? ⟨ga, 3, none⟩ = some (.int .i64 10) := by have h := OwnR.cell (l := [⟨1, 2, 3, 10, 10, 0, 0, 7412, 10000⟩]) HA8.out (i := 0) (k := 3) (by decide) (by decide); exact h
          have ka4 : w8.cell? ⟨ga, 4, none⟩ = some (.int .i64 10) := by have h := OwnR.cell (l := [⟨1, 2, 3, 10, 10, 0, 0, 7412, 10000⟩]) HA8.out (i := 0) (k := 4) (by decide) (by decide); exact h
          have ka5 : w8.cell? ⟨ga, 5, none⟩ = some (.int .i64 0) := by have h := OwnR.cell (l := [⟨1, 2, 3, 10, 10, 0, 0, 7412, 10000⟩]) HA8.out (i := 0) (k := 5) (by decide) (by decide); exact h
          have ka6 : w8.cell? ⟨ga, 6, none⟩ = some (.int .i64 0) := by have h := OwnR.cell (l := [⟨1, 2, 3, 10, 10, 0, 0, 7412, 10000⟩]) HA8.out (i := 0) (k := 6) (by decide) (by decide); exact h
          have ka7 : w8.cell? ⟨ga, 7, none⟩ = some (.int .i64 7412) := by have h := OwnR.cell (l := [⟨1, 2, 3, 10, 10, 0, 0, 7412, 10000⟩]) HA8.out (i := 0) (k := 7) (by decide) (by decide); exact h
          have ka8 : w8.cell? ⟨ga, 8, none⟩ = some (.int .i64 10000) := by have h := OwnR.cell (l := [⟨1, 2, 3, 10, 10, 0, 0, 7412, 10000⟩]) HA8.out (i := 0) (k := 8) (by decide) (by decide); exact h
          have kb0 : w8.cell? ⟨gb, 0, none⟩ = some (.int .u8 1) := by have h := OwnR.cell (l := [⟨1, 2, 3, 10, 0, 0, 0, 0, 2588⟩]) HR8.out (i := 0) (k := 0) (by decide) (by decide); exact h
          have kb1 : w8.cell? ⟨gb, 1, none⟩ = some (.int .i64 2) := by have h := OwnR.cell (l := [⟨1, 2, 3, 10, 0, 0, 0, 0, 2588⟩]) HR8.out (i := 0) (k := 1) (by decide) (by decide); exact h
          have kb2 : w8.cell? ⟨gb, 2, none⟩ = some (.int .i64 3) := by have h := OwnR.cell (l := [⟨1, 2, 3, 10, 0, 0, 0, 0, 2588⟩]) HR8.out (i := 0) (k := 2) (by decide) (by decide); exact h
          have kb3 : w8.cell? ⟨gb, 3, none⟩ = some (.int .i64 10) := by have h := OwnR.cell (l := [⟨1, 2, 3, 10, 0, 0, 0, 0, 2588⟩]) HR8.out (i := 0) (k := 3) (by decide) (by decide); exact h
          have kb4 : w8.cell? ⟨gb, 4, none⟩ = some (.int .i64 0) := by have h := OwnR.cell (l := [⟨1, 2, 3, 10, 0, 0, 0, 0, 2588⟩]) HR8.out (i := 0) (k := 4) (by decide) (by decide); exact h
          have kb5 : w8.cell? ⟨gb, 5, none⟩ = some (.int .i64 0) := by have h := OwnR.cell (l := [⟨1, 2, 3, 10, 0, 0, 0, 0, 2588⟩]) HR8.out (i := 0) (k := 5) (by decide) (by decide); exact h
          have kb6 : w8.cell? ⟨gb, 6, none⟩ = some (.int .i64 0) := by have h := OwnR.cell (l := [⟨1, 2, 3, 10, 0, 0, 0, 0, 2588⟩]) HR8.out (i := 0) (k := 6) (by decide) (by decide); exact h
          have kb7 : w8.cell? ⟨gb, 7, none⟩ = some (.int .i64 0) := by have h := OwnR.cell (l := [⟨1, 2, 3, 10, 0, 0, 0, 0, 2588⟩]) HR8.out (i := 0) (k := 7) (by decide) (by decide); exact h
          have kb8 : w8.cell? ⟨gb, 8, none⟩ = some (.int .i64 2588) := by have h := OwnR.cell (l := [⟨1, 2, 3, 10, 0, 0, 0, 0, 2588⟩]) HR8.out (i := 0) (k := 8) (by decide) (by decide); exact h
          go_wp2_with fail
          refine (Verdict_calls 1 2 3 10 10 0 0 7412 10000 7412 _).mono ?_
          rw [show verdictR 7412 10000 7412 = (1, 0) from rfl]
          rintro e w9 ⟨rfl, b_⟩
          have HA9 := Aside0.mk (HA8.out.below b_)
          have HR9 := Aside0.mk (HR8.out.below b_)
          have HB9 := Aside0.mk (below_step HB8.out b_)
          clear b_ ka0 ka1 ka2 ka3 ka4 ka5 ka6 ka7 ka8 kb0 kb1 kb2 kb3 kb4 kb5 kb6 kb7 kb8 HA8 HR8
          have ka0 : w9.cell? ⟨ga, 0, none⟩ = some (.int .u8 1) := by have h := OwnR.cell (l := [⟨1, 2, 3, 10, 10, 0, 0, 7412, 10000⟩]) HA9.out (i := 0) (k := 0) (by decide) (by decide); exact h
          have ka1 : w9.cell? ⟨ga, 1, none⟩ = some (.int .i64 2) := by have h := OwnR.cell (l := [⟨1, 2, 3, 10, 10, 0, 0, 7412, 10000⟩]) HA9.out (i := 0) (k := 1) (by decide) (by decide); exact h
          have ka2 : w9.cell? ⟨ga, 2, none⟩ = some (.int .i64 3) := by have h := OwnR.cell (l := [⟨1, 2, 3, 10, 10, 0, 0, 7412, 10000⟩]) HA9.out (i := 0) (k := 2) (by decide) (by decide); exact h
          have ka3 : w9.cell? ⟨ga, 3, none⟩ = some (.int .i64 10) := by have h := OwnR.cell (l := [⟨1, 2, 3, 10, 10, 0, 0, 7412, 10000⟩]) HA9.out (i := 0) (k := 3) (by decide) (by decide); exact h
          have ka4 : w9.cell? ⟨ga, 4, none⟩ = some (.int .i64 10) := by have h := OwnR.cell (l := [⟨1, 2, 3, 10, 10, 0, 0, 7412, 10000⟩]) HA9.out (i := 0) (k := 4) (by decide) (by decide); exact h
          have ka5 : w9.cell? ⟨ga, 5, none⟩ = some (.int .i64 0) := by have h := OwnR.cell (l := [⟨1, 2, 3, 10, 10, 0, 0, 7412, 10000⟩]) HA9.out (i := 0) (k := 5) (by decide) (by decide); exact h
          have ka6 : w9.cell? ⟨ga, 6, none⟩ = some (.int .i64 0) := by have h := OwnR.cell (l := [⟨1, 2, 3, 10, 10, 0, 0, 7412, 10000⟩]) HA9.out (i := 0) (k := 6) (by decide) (by decide); exact h
          have ka7 : w9.cell? ⟨ga, 7, none⟩ = some (.int .i64 7412) := by have h := OwnR.cell (l := [⟨1, 2, 3, 10, 10, 0, 0, 7412, 10000⟩]) HA9.out (i := 0) (k := 7) (by decide) (by decide); exact h
          have ka8 : w9.cell? ⟨ga, 8, none⟩ = some (.int .i64 10000) := by have h := OwnR.cell (l := [⟨1, 2, 3, 10, 10, 0, 0, 7412, 10000⟩]) HA9.out (i := 0) (k := 8) (by decide) (by decide); exact h
          go_wp2_with fail
          refine (Verdict_calls 1 2 3 10 10 0 0 7412 10000 7413 _).mono ?_
          rw [show verdictR 7412 10000 7413 = (3, 0) from rfl]
          rintro e w10 ⟨rfl, b_⟩
          have HR10 := Aside0.mk (HR9.out.below b_)
          have HB10 := Aside0.mk (below_step HB9.out b_)
          clear b_ ka0 ka1 ka2 ka3 ka4 ka5 ka6 ka7 ka8 HA9 HR9
          have kb0 : w10.cell? ⟨gb, 0, none⟩ = some (.int .u8 1) := by have h := OwnR.cell (l := [⟨1, 2, 3, 10, 0, 0, 0, 0, 2588⟩]) HR10.out (i := 0) (k := 0) (by decide) (by decide); exact h
          have kb1 : w10.cell? ⟨gb, 1, none⟩ = some (.int .i64 2) := by have h := OwnR.cell (l := [⟨1, 2, 3, 10, 0, 0, 0, 0, 2588⟩]) HR10.out (i := 0) (k := 1) (by decide) (by decide); exact h
          have kb2 : w10.cell? ⟨gb, 2, none⟩ = some (.int .i64 3) := by have h := OwnR.cell (l := [⟨1, 2, 3, 10, 0, 0, 0, 0, 2588⟩]) HR10.out (i := 0) (k := 2) (by decide) (by decide); exact h
          have kb3 : w10.cell? ⟨gb, 3, none⟩ = some (.int .i64 10) := by have h := OwnR.cell (l := [⟨1, 2, 3, 10, 0, 0, 0, 0, 2588⟩]) HR10.out (i := 0) (k := 3) (by decide) (by decide); exact h
          have kb4 : w10.cell? ⟨gb, 4, none⟩ = some (.int .i64 0) := by have h := OwnR.cell (l := [⟨1, 2, 3, 10, 0, 0, 0, 0, 2588⟩]) HR10.out (i := 0) (k := 4) (by decide) (by decide); exact h
          have kb5 : w10.cell? ⟨gb, 5, none⟩ = some (.int .i64 0) := by have h := OwnR.cell (l := [⟨1, 2, 3, 10, 0, 0, 0, 0, 2588⟩]) HR10.out (i := 0) (k := 5) (by decide) (by decide); exact h
          have kb6 : w10.cell? ⟨gb, 6, none⟩ = some (.int .i64 0) := by have h := OwnR.cell (l := [⟨1, 2, 3, 10, 0, 0, 0, 0, 2588⟩]) HR10.out (i := 0) (k := 6) (by decide) (by decide); exact h
          have kb7 : w10.cell? ⟨gb, 7, none⟩ = some (.int .i64 0) := by have h := OwnR.cell (l := [⟨1, 2, 3, 10, 0, 0, 0, 0, 2588⟩]) HR10.out (i := 0) (k := 7) (by decide) (by decide); exact h
          have kb8 : w10.cell? ⟨gb, 8, none⟩ = some (.int .i64 2588) := by have h := OwnR.cell (l := [⟨1, 2, 3, 10, 0, 0, 0, 0, 2588⟩]) HR10.out (i := 0) (k := 8) (by decide) (by decide); exact h
          go_wp2_with fail
          refine (Verdict_calls 1 2 3 10 0 0 0 0 2588 2589 _).mono ?_
          rw [show verdictR 0 2588 2589 = (2, 0) from rfl]
          rintro e w11 ⟨rfl, b_⟩
          have HB11 := Aside0.mk (below_step HB10.out b_)
          clear b_ kb0 kb1 kb2 kb3 kb4 kb5 kb6 kb7 kb8 HR10
          go_wp2_with fail
          refine (sentE_calls _ _ _).mono ?_
          rintro e w12 ⟨rfl, b_⟩
          have HB12 := Aside0.mk (below_step HB11.out b_)
          clear b_
          go_wp2_with fail
          refine (sentE_calls _ _ _).mono ?_
          rintro e w13 ⟨rfl, b_⟩
          have HB13 := Aside0.mk (below_step HB12.out b_)
          clear b_
          go_wp2_with fail
          refine (sentE_calls _ _ _).mono ?_
          rintro e w14 ⟨rfl, b_⟩
          have HB14 := Aside0.mk (below_step HB13.out b_)
          clear b_
          go_wp2_with fail
          refine (Transit_calls [⟨1, 1, 2, 3, 500, 600⟩, ⟨2, 1, 2, 3, 500, 800⟩, ⟨3, 1, 2, 3, 500, 2500⟩] 1 2 3 3000 5000 _ (isX_three w14 _ _ _) (by decide) (by decide)).mono ?_
          rw [transE]
          rintro e w15 ⟨rfl, b_⟩
          have HB15 := Aside0.mk (below_step (below_alloc HB14.out _) b_)
          clear b_
          go_wp2_with fail
          go_ret
          exact ⟨rfl, HB15.out⟩
end Go.Proofs.YteeacbgaehdodaaGreat
