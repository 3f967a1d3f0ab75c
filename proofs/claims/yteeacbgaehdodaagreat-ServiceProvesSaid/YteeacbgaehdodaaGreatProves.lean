/- ServiceProves: the walk. -/
import Derived.Test.YteeacbgaehdodaaGreatServK
namespace Go.Proofs.YteeacbgaehdodaaGreat
set_option linter.unusedVariables false
open Go.RowKit Go.Proofs.YteeacbgaehdodaaGreatW.PrintWords Go.Proofs.YteeacbgaehdodaaGreatW.PrintLast Go.Proofs.YteeacbgaehdodaaGreatW.PrintMore Go.Proofs.YteeacbgaehdodaaGreat.Fn
attribute [local go_sem] max2_int min2_int max_two min_two max_three min_three max_four min_four

set_option maxRecDepth 100000 in
theorem exceedsP_calls {v : Value} (c n r Bn Br : Nat) (w : World) (hv : IsN w v c) (hc : Half c) (hn : n ≤ 500) (hr : r ≤ 2000) (h1 : w.cell? ⟨Bn, 0, none⟩ = some (.int .i64 (n : Int))) (h2 : w.cell? ⟨Br, 0, none⟩ = some (.int .i64 (r : Int))) :
    Calls Tryz.prog 23 #[v, .pointer (some ⟨Bn, 0, none⟩), .pointer (some ⟨Br, 0, none⟩)] w fun e w' => e = .returned (.bool (excN c n r)) ∧ Below w.heap.size w w' := by
  have HF := Aside0.mk (pow_mul_fits n r hn (by omega))
  have HC := Aside0.mk (show Fits (c * 10000) from Half.mul hc (half_small (by decide)))
  have HX := Aside0.mk (show Fits c from hc.fits)
  have HP := Aside0.mk (half_pow n 0 hn)
  clear hc
  go_enter Tryz.func23, Tryz.ntmps23
  have hbn : Bn < w.heap.size := cell_lt h1
  have hbr : Br < w.heap.size := cell_lt h2
  have HV := Aside0.mk (fun W (h : Below w.heap.size w W) => hv.below h)
  have HCL := Aside0.mk (fun (W : World) (h : Below w.heap.size w W) => And.intro ((h.cell (p := ⟨Bn, 0, none⟩) hbn).trans h1) ((h.cell (p := ⟨Br, 0, none⟩) hbr).trans h2))
  clear hv
  go_wp2_with fail
  go_region_held3 (fun W' => W'.cell? ⟨Bn, 0, none⟩ = some (.int .i64 (n : Int)) ∧ W'.cell? ⟨Br, 0, none⟩ = some (.int .i64 (r : Int))) (go_keep)
    (first
      | (go_at_call 25; refine (Of_calls 10000 _ (by decide) (by decide)).mono ?_; rintro e w1 ⟨v1, rfl, h1v, b_⟩; have b1 : Below w.heap.size w w1 := below_step (pw_below_drewN (Below.refl w.heap.size w) 1) b_; have m1 := (HCL.out w1 b1).1; have m2 := (HCL.out w1 b1).2; have H1 := Aside0.mk h1v; have HB1 := Aside0.mk b1; clear b_ b1 h1v)
      | (go_at_call 24; refine (Pow_calls n _ H1.out (by decide) (by decide) hn HP.out).mono ?_; rintro e w2 ⟨v2, rfl, h2v, b_⟩; have b2 : Below w.heap.size w w2 := below_step HB1.out b_; have m3 := (HCL.out w2 b2).1; have m4 := (HCL.out w2 b2).2; have H2 := Aside0.mk h2v; have HB2 := Aside0.mk b2; clear b_ b2 h2v))
  clear h1 h2 m1 m2
  go_wp2_with fail
  refine (Of_calls 10000 _ (by decide) (by decide)).mono ?_
  rintro e w3 ⟨v3, rfl, h3, b_⟩
  have H3 := Aside0.mk h3
  have HA3 := Aside0.mk (H2.out.below b_)
  have HB3 := Aside0.mk (below_step HB2.out b_)
  clear b_ h3 m3 m4
  go_wp2_with fail
  refine (Mul_calls _ (HV.out _ HB3.out) H3.out HX.out (by decide) HC.out).mono ?_
  rintro e w4 ⟨v4, rfl, h4, b_⟩
  have H4 := Aside0.mk h4
  have HA4 := Aside0.mk (HA3.out.below b_)
  have HB4 := Aside0.mk (below_step HB3.out b_)
  clear b_ h4
  have m4 := (HCL.out w4 HB4.out).2
  go_wp2_with fail
  refine (Of_calls (r : Int) _ (by omega) (by omega)).mono ?_
  rw [Int.toNat_natCast]
  rintro e w5 ⟨v5, rfl, h5, b_⟩
  have H5 := Aside0.mk h5
  have HA5 := Aside0.mk (HA4.out.below b_)
  have HX5 := Aside0.mk (H4.out.below b_)
  have HB5 := Aside0.mk (below_step HB4.out b_)
  clear b_ h5 m4
  go_wp2_with fail
  refine (Mul_calls _ HA5.out H5.out (show Fits (10000 ^ n) from HP.out.fits) (by omega) HF.out).mono ?_
  rintro e w6 ⟨v6, rfl, h6, b_⟩
  have H6 := Aside0.mk h6
  have HX6 := Aside0.mk (HX5.out.below b_)
  have HB6 := Aside0.mk (below_step HB5.out b_)
  clear b_ h6
  go_wp2_with fail
  refine (Cmp_calls _ HX6.out H6.out).mono ?_
  rintro e w7 ⟨rfl, ⟨q, rfl⟩⟩
  have hp := cmp_pos (c * 10000) (10000 ^ n * r)
  have hQ : (Ending.returned (.bool (decide (0 < cmpI (c * 10000) (10000 ^ n * r)))) : Ending) = Ending.returned (.bool (excN c n r)) := by rw [hp]; rfl
  have HQ := Aside0.mk hQ
  clear hQ hp
  go_wp2_with fail
  go_ret
  exact ⟨HQ.out, pw_below_drewN HB6.out q⟩

theorem half_low (n k s : Nat) (hn : n ≤ 500) (hs : s ≤ 10000) : Half (low s (10000 - s) n k) := by
  have h := up_half n (n - k) (10000 - s) hn (by omega)
  rw [show 10000 - (10000 - s) = s by omega] at h
  exact h
theorem exc_low {n k a g : Nat} (hg : g ≤ 10000) : excN (low g (10000 - g) n k) n a = excB n (n - k) a (10000 - g) := by
  unfold excB low
  rw [show 10000 - (10000 - g) = g by omega]
  rfl
theorem proves_facts {n k r g : Nat} (hk : k ≤ n) (hn : n ≤ 500) (hr : r ≤ 2000) (hg : g ≤ 10000) : ∃ (v : Int) (eu em : Bool), verdictR (leastN n k r : Int) (10000 - (leastN n (n - k) r : Int)) (g : Int) = (v, 0) ∧ (0 < g → excN (up (g - 1) (10000 - (g - 1)) n k) n r = eu) ∧ excN (low g (10000 - g) n k) n r = em ∧
    ((g = 0 ∧ v = 1) ∨ (0 < g ∧ eu = false ∧ v = 1) ∨ (0 < g ∧ eu = true ∧ em = false ∧ v = 2) ∨ (0 < g ∧ eu = true ∧ em = true ∧ v = 3)) := by
  have hu : 0 < g → excN (up (g - 1) (10000 - (g - 1)) n k) n r = decide (leastN n k r ≤ g - 1) := fun h => by
    show excB n k r (g - 1) = _
    rw [Bool.eq_iff_iff, excB_iff hk (by omega) (by omega), decide_eq_true_eq]
  have hm : excN (low g (10000 - g) n k) n r = decide (leastN n (n - k) r ≤ 10000 - g) := by
    rw [exc_low hg, Bool.eq_iff_iff, excB_iff (by omega) (by omega) (by omega), decide_eq_true_eq]
  have h1 := (leastN_spec (n := n) (k := k) (r := r) hk (by omega)).1
  have h2 := (leastN_spec (n := n) (k := n - k) (r := r) (by omega) (by omega)).1
  generalize leastN n k r = lo at *
  generalize leastN n (n - k) r = l2 at *
  have hv : verdictR (lo : Int) (10000 - (l2 : Int)) (g : Int) = if lo ≥ g then (1, 0) else if 10000 - l2 < g then (2, 0) else (3, 0) := by
    unfold verdictR
    rw [if_neg (by omega)]
    by_cases a : lo ≥ g
    · rw [if_pos (by omega), if_pos a]
    · rw [if_neg (by omega), if_neg a]
      by_cases b : 10000 - l2 < g
      · rw [if_pos (by omega), if_pos b]
      · rw [if_neg (by omega), if_neg b]
  rw [hv]
  by_cases a : lo ≥ g
  · rw [if_pos a]
    refine ⟨1, false, _, rfl, fun h => by rw [hu h, decide_eq_false (by omega)], rfl, ?_⟩
    rcases Nat.eq_zero_or_pos g with h | h
    · exact .inl ⟨h, rfl⟩
    · exact .inr (.inl ⟨h, rfl, rfl⟩)
  · rw [if_neg a]
    by_cases b : 10000 - l2 < g
    · rw [if_pos b]
      exact ⟨2, true, false, rfl, fun h => by rw [hu h, decide_eq_true (by omega)], by rw [hm, decide_eq_false (by omega)], .inr (.inr (.inl ⟨by omega, rfl, rfl, rfl⟩))⟩
    · rw [if_neg b]
      exact ⟨3, true, true, rfl, fun h => by rw [hu h, decide_eq_true (by omega)], by rw [hm, decide_eq_true (by omega)], .inr (.inr (.inr ⟨by omega, rfl, rfl, rfl⟩))⟩

set_option maxHeartbeats 2000000 in
set_option maxRecDepth 100000 in
theorem Proves_calls (x y z t : Int) (hx : (Lit.int .i64 x).wf = true) (hy : (Lit.int .i64 y).wf = true) (hz : (Lit.int .i64 z).wf = true) (ht : (Lit.int .i64 t).wf = true) (w : World) :
    Calls Tryz.prog 4 #[.int .i64 x, .int .i64 y, .int .i64 z, .int .i64 t] w fun e w' => e = .returned (.bool true) ∧ Below w.heap.size w w' := by
  have hn := pickN_lt x (n := 61) (by decide)
  have hk := pickN_lt y (n := pickN x 61 + 1) (by omega)
  have hp := pickN_lt z (n := 2000) (by decide)
  have hg := pickN_lt t (n := 10001) (by decide)
  have HPN := Aside0.mk (fun W => Pick_calls x 61 W hx (by decide) (by decide))
  have HPK := Aside0.mk (fun W => Pick_calls y (pickN x 61 + 1) W hy (by omega) (by omega))
  have HPR := Aside0.mk (fun W => Pick_calls z 2000 W hz (by decide) (by decide))
  have HPT := Aside0.mk (fun W => Pick_calls t 10001 W ht (by decide) (by decide))
  rw [Int.natCast_add] at HPK
  generalize pickN y (pickN x 61 + 1) = k at *
  generalize pickN x 61 = n at *
  generalize pickN z 2000 = p at *
  generalize pickN t 10001 = g at *
  obtain ⟨v, eu, em, hv, heu, hem, hcase⟩ := proves_facts (n := n) (k := k) (r := 1 + p) (g := g) (by omega) (by omega) (by omega) (by omega)
  have HVD := Aside0.mk (fun W => Verdict_calls 0 0 0 n k 0 0 (leastN n k (1 + p) : Int) (10000 - (leastN n (n - k) (1 + p) : Int)) g W)
  rw [hv] at HVD
  have HEU := Aside0.mk heu
  have HEM := Aside0.mk hem
  have HCASE := Aside0.mk hcase
  have HLE := Aside0.mk (fun W => Least_ok n k (1 + p) W (by omega) (by omega) (by omega) (by omega))
  have HGR := Aside0.mk (fun W => Greatest_ok n k (1 + p) W (by omega) (by omega) (by omega) (by omega))
  rw [Int.natCast_add] at HLE HGR
  generalize leastN n k (1 + p) = lo at *
  generalize 10000 - (leastN n (n - k) (1 + p) : Int) = hi at *
  have HHU := Aside0.mk (fun h : 0 < g => up_half n k (g - 1) (by omega) (by omega))
  have HHL := Aside0.mk (half_low n k g (by omega) (by omega))
  clear hx hy hz ht hv heu hem hcase
  go_enter Tryz.func4, Tryz.ntmps4
  go_wp2_with fail
  refine (awake_calls _).mono ?_
  rintro e w1 ⟨rfl, b_⟩
  have HN1 : Aside0 (w1.heap[w.heap.size]? = some (.cells #[.int .i64 x] 3 (0, 0))) := ⟨(b_.block _ (by simp)).trans (heap_alloc_new w _)⟩
  have HB1 := Aside0.mk (below_step (below_alloc (Below.refl w.heap.size w) _) b_)
  clear b_
  have kn := cell_of_one HN1.out
  have fn := free_of_one HN1.out
  go_wp2_with fail
  refine (HPN.out _).mono ?_
  rintro e w2 ⟨rfl, ⟨q, rfl⟩⟩
  go_wp2_with fail
  have HN2 : Aside0 (((w1.drewN q).setCell ⟨w.heap.size, 0, none⟩ (.int .i64 (n : Int))).heap[w.heap.size]? = some (.cells #[.int .i64 (n : Int)] 3 (0, 0))) := ⟨one_setCell HN1.out⟩
  have HB2 : Aside0 (Below w.heap.size w ((w1.drewN q).setCell ⟨w.heap.size, 0, none⟩ (.int .i64 (n : Int)))) := ⟨below_set (pw_below_drewN HB1.out q) (Nat.le_refl _)⟩
  generalize (w1.drewN q).setCell ⟨w.heap.size, 0, none⟩ (.int .i64 (n : Int)) = w2 at *
  clear kn fn HN1 HB1
  refine (HPK.out _).mono ?_
  rintro e w3 ⟨rfl, ⟨q2, rfl⟩⟩
  go_wp2_with fail
  refine (HPR.out _).mono ?_
  rintro e w3 ⟨rfl, ⟨q3, rfl⟩⟩
  go_wp2_with fail
  refine (HPT.out _).mono ?_
  rintro e w3 ⟨rfl, ⟨q4, rfl⟩⟩
  have hA1 : ((w2.drewN (q2 + q3 + q4)).alloc (.cells #[.int .i64 0] 3)).heap[w2.heap.size]? = some (.cells #[.int .i64 0] 3 (0, 0)) := heap_alloc_new (w2.drewN (q2 + q3 + q4)) _
  have hA2 : ((w2.drewN (q2 + q3 + q4)).alloc (.cells #[.int .i64 0] 3)).heap[w.heap.size]? = some (.cells #[.int .i64 (n : Int)] 3 (0, 0)) := by
    have hs : w.heap.size < (w2.drewN (q2 + q3 + q4)).heap.size := lt_of_block HN2.out
    exact (Below.heap_alloc (w2.drewN (q2 + q3 + q4)) _ _ hs).trans HN2.out
  have hlt : w.heap.size < w2.heap.size := lt_of_block HN2.out
  have hB1 := one_setCell (u := .int .i64 (1 + (p : Int))) hA1
  have hB2 := (Below.heap_setCell ((w2.drewN (q2 + q3 + q4)).alloc (.cells #[.int .i64 0] 3)) ⟨w2.heap.size, 0, none⟩ (.int .i64 (1 + (p : Int))) w.heap.size (by show w.heap.size ≠ w2.heap.size; omega)).trans hA2
  have kA := cell_of_one hA1
  have fA := free_of_one hA1
  have kB1 := cell_of_one hB1
  have kB2 := cell_of_one hB2
  have HB3 : Aside0 (Below w.heap.size w (((w2.drewN (q2 + q3 + q4)).alloc (.cells #[.int .i64 0] 3)).setCell ⟨w2.heap.size, 0, none⟩ (.int .i64 (1 + (p : Int))))) := ⟨below_set (below_alloc (pw_below_drewN HB2.out _) _) (by omega)⟩
  have HH1 := Aside0.mk hB1
  have HH2 := Aside0.mk hB2
  clear hA1 hA2 hB1 hB2 HN2 HB2
  go_wp2_with fail
  generalize ((w2.drewN (q2 + q3 + q4)).alloc (.cells #[.int .i64 0] 3)).setCell ⟨w2.heap.size, 0, none⟩ (.int .i64 (1 + (p : Int))) = w3 at *
  generalize w2.heap.size = B at *
  clear kA fA hlt HH1 HH2
  refine (HLE.out _).mono ?_
  rintro e w4 ⟨rfl, b_⟩
  have k1 : w4.cell? ⟨w.heap.size, 0, none⟩ = some (.int .i64 (n : Int)) := (b_.cell (p := ⟨w.heap.size, 0, none⟩) (cell_lt kB2)).trans kB2
  have k2 : w4.cell? ⟨B, 0, none⟩ = some (.int .i64 (1 + (p : Int))) := (b_.cell (p := ⟨B, 0, none⟩) (cell_lt kB1)).trans kB1
  have HB4 := Aside0.mk (below_step HB3.out b_)
  clear b_ kB1 kB2
  go_wp2_with fail
  refine (HGR.out _).mono ?_
  rintro e w5 ⟨rfl, b_⟩
  have d1 : w5.cell? ⟨w.heap.size, 0, none⟩ = some (.int .i64 (n : Int)) := (b_.cell (p := ⟨w.heap.size, 0, none⟩) (cell_lt k1)).trans k1
  have d2 : w5.cell? ⟨B, 0, none⟩ = some (.int .i64 (1 + (p : Int))) := (b_.cell (p := ⟨B, 0, none⟩) (cell_lt k2)).trans k2
  have HB5 := Aside0.mk (below_step HB4.out b_)
  clear b_ k1 k2
  go_wp2_with fail
  refine (HVD.out _).mono ?_
  rintro e w6 ⟨rfl, b_⟩
  have k1 : w6.cell? ⟨w.heap.size, 0, none⟩ = some (.int .i64 (n : Int)) := (b_.cell (p := ⟨w.heap.size, 0, none⟩) (cell_lt d1)).trans d1
  have k2 : w6.cell? ⟨B, 0, none⟩ = some (.int .i64 (1 + (p : Int))) := (b_.cell (p := ⟨B, 0, none⟩) (cell_lt d2)).trans d2
  have HB6 := Aside0.mk (below_step HB5.out b_)
  clear b_ d1 d2 HPN HPK HPR HPT HLE HGR HVD
  rcases HCASE.out with ⟨rfl, rfl⟩ | ⟨hg0, rfl, rfl⟩ | ⟨hg0, rfl, rfl, rfl⟩ | ⟨hg0, rfl, rfl, rfl⟩
  · clear HEU HHU
    go_wp2_with fail
    refine (Lower_ok n k 0 _ (by omega) (by omega) (by omega)).mono ?_
    rintro e w9 ⟨v9, rfl, h9, b_⟩
    have H9 := Aside0.mk h9
    have c1 : w9.cell? ⟨w.heap.size, 0, none⟩ = some (.int .i64 (n : Int)) := (b_.cell (p := ⟨w.heap.size, 0, none⟩) (cell_lt k1)).trans k1
    have c2 : w9.cell? ⟨B, 0, none⟩ = some (.int .i64 (1 + (p : Int))) := (b_.cell (p := ⟨B, 0, none⟩) (cell_lt k2)).trans k2
    have HB9 := Aside0.mk (below_step HB6.out b_)
    clear b_ h9
    go_wp2_with fail
    refine (exceedsP_calls _ n (1 + p) w.heap.size B _ H9.out HHL.out (by omega) (by omega) c1 (by rw [Int.natCast_add]; exact c2)).mono ?_
    rw [HEM.out]
    rintro e w10 ⟨rfl, b_⟩
    have HB10 := Aside0.mk (below_step HB9.out b_)
    clear b_ c1 c2
    go_wp2_with fail
    go_ret
    exact ⟨rfl, HB10.out⟩
  · have c0 : (g : Int) - 1 = ((g - 1 : Nat) : Int) := by omega
    have hgz : ((g : Int) == 0) = false := by rw [beq_eq_false_iff_ne]; omega
    go_wp2_with fail
    refine (Upper_ok n k (g - 1) _ (by omega) (by omega) (by omega)).mono ?_
    rintro e w7 ⟨v7, rfl, h7, b_⟩
    have H7 := Aside0.mk h7
    have d1 : w7.cell? ⟨w.heap.size, 0, none⟩ = some (.int .i64 (n : Int)) := (b_.cell (p := ⟨w.heap.size, 0, none⟩) (cell_lt k1)).trans k1
    have d2 : w7.cell? ⟨B, 0, none⟩ = some (.int .i64 (1 + (p : Int))) := (b_.cell (p := ⟨B, 0, none⟩) (cell_lt k2)).trans k2
    have HB7 := Aside0.mk (below_step HB6.out b_)
    clear b_ h7 k1 k2
    go_wp2_with fail
    refine (exceedsP_calls _ n (1 + p) w.heap.size B _ H7.out (HHU.out hg0) (by omega) (by omega) d1 (by rw [Int.natCast_add]; exact d2)).mono ?_
    rw [HEU.out hg0]
    rintro e w8 ⟨rfl, b_⟩
    have k1 : w8.cell? ⟨w.heap.size, 0, none⟩ = some (.int .i64 (n : Int)) := (b_.cell (p := ⟨w.heap.size, 0, none⟩) (cell_lt d1)).trans d1
    have k2 : w8.cell? ⟨B, 0, none⟩ = some (.int .i64 (1 + (p : Int))) := (b_.cell (p := ⟨B, 0, none⟩) (cell_lt d2)).trans d2
    have HB8 := Aside0.mk (below_step HB7.out b_)
    clear b_ d1 d2 c0
    go_wp2_with fail
    refine (Lower_ok n k g _ (by omega) (by omega) (by omega)).mono ?_
    rintro e w9 ⟨v9, rfl, h9, b_⟩
    have H9 := Aside0.mk h9
    have c1 : w9.cell? ⟨w.heap.size, 0, none⟩ = some (.int .i64 (n : Int)) := (b_.cell (p := ⟨w.heap.size, 0, none⟩) (cell_lt k1)).trans k1
    have c2 : w9.cell? ⟨B, 0, none⟩ = some (.int .i64 (1 + (p : Int))) := (b_.cell (p := ⟨B, 0, none⟩) (cell_lt k2)).trans k2
    have HB9 := Aside0.mk (below_step HB8.out b_)
    clear b_ h9
    go_wp2_with fail
    refine (exceedsP_calls _ n (1 + p) w.heap.size B _ H9.out HHL.out (by omega) (by omega) c1 (by rw [Int.natCast_add]; exact c2)).mono ?_
    rw [HEM.out]
    rintro e w10 ⟨rfl, b_⟩
    have HB10 := Aside0.mk (below_step HB9.out b_)
    clear b_ c1 c2
    go_wp2_with fail
    go_ret
    exact ⟨rfl, HB10.out⟩
  · have c0 : (g : Int) - 1 = ((g - 1 : Nat) : Int) := by omega
    have hgz : ((g : Int) == 0) = false := by rw [beq_eq_false_iff_ne]; omega
    go_wp2_with fail
    refine (Upper_ok n k (g - 1) _ (by omega) (by omega) (by omega)).mono ?_
    rintro e w7 ⟨v7, rfl, h7, b_⟩
    have H7 := Aside0.mk h7
    have d1 : w7.cell? ⟨w.heap.size, 0, none⟩ = some (.int .i64 (n : Int)) := (b_.cell (p := ⟨w.heap.size, 0, none⟩) (cell_lt k1)).trans k1
    have d2 : w7.cell? ⟨B, 0, none⟩ = some (.int .i64 (1 + (p : Int))) := (b_.cell (p := ⟨B, 0, none⟩) (cell_lt k2)).trans k2
    have HB7 := Aside0.mk (below_step HB6.out b_)
    clear b_ h7 k1 k2
    go_wp2_with fail
    refine (exceedsP_calls _ n (1 + p) w.heap.size B _ H7.out (HHU.out hg0) (by omega) (by omega) d1 (by rw [Int.natCast_add]; exact d2)).mono ?_
    rw [HEU.out hg0]
    rintro e w8 ⟨rfl, b_⟩
    have k1 : w8.cell? ⟨w.heap.size, 0, none⟩ = some (.int .i64 (n : Int)) := (b_.cell (p := ⟨w.heap.size, 0, none⟩) (cell_lt d1)).trans d1
    have k2 : w8.cell? ⟨B, 0, none⟩ = some (.int .i64 (1 + (p : Int))) := (b_.cell (p := ⟨B, 0, none⟩) (cell_lt d2)).trans d2
    have HB8 := Aside0.mk (below_step HB7.out b_)
    clear b_ d1 d2 c0
    go_wp2_with fail
    refine (Lower_ok n k g _ (by omega) (by omega) (by omega)).mono ?_
    rintro e w9 ⟨v9, rfl, h9, b_⟩
    have H9 := Aside0.mk h9
    have c1 : w9.cell? ⟨w.heap.size, 0, none⟩ = some (.int .i64 (n : Int)) := (b_.cell (p := ⟨w.heap.size, 0, none⟩) (cell_lt k1)).trans k1
    have c2 : w9.cell? ⟨B, 0, none⟩ = some (.int .i64 (1 + (p : Int))) := (b_.cell (p := ⟨B, 0, none⟩) (cell_lt k2)).trans k2
    have HB9 := Aside0.mk (below_step HB8.out b_)
    clear b_ h9
    go_wp2_with fail
    refine (exceedsP_calls _ n (1 + p) w.heap.size B _ H9.out HHL.out (by omega) (by omega) c1 (by rw [Int.natCast_add]; exact c2)).mono ?_
    rw [HEM.out]
    rintro e w10 ⟨rfl, b_⟩
    have HB10 := Aside0.mk (below_step HB9.out b_)
    clear b_ c1 c2
    go_wp2_with fail
    go_ret
    exact ⟨rfl, HB10.out⟩
  · have c0 : (g : Int) - 1 = ((g - 1 : Nat) : Int) := by omega
    have hgz : ((g : Int) == 0) = false := by rw [beq_eq_false_iff_ne]; omega
    go_wp2_with fail
    refine (Upper_ok n k (g - 1) _ (by omega) (by omega) (by omega)).mono ?_
    rintro e w7 ⟨v7, rfl, h7, b_⟩
    have H7 := Aside0.mk h7
    have d1 : w7.cell? ⟨w.heap.size, 0, none⟩ = some (.int .i64 (n : Int)) := (b_.cell (p := ⟨w.heap.size, 0, none⟩) (cell_lt k1)).trans k1
    have d2 : w7.cell? ⟨B, 0, none⟩ = some (.int .i64 (1 + (p : Int))) := (b_.cell (p := ⟨B, 0, none⟩) (cell_lt k2)).trans k2
    have HB7 := Aside0.mk (below_step HB6.out b_)
    clear b_ h7 k1 k2
    go_wp2_with fail
    refine (exceedsP_calls _ n (1 + p) w.heap.size B _ H7.out (HHU.out hg0) (by omega) (by omega) d1 (by rw [Int.natCast_add]; exact d2)).mono ?_
    rw [HEU.out hg0]
    rintro e w8 ⟨rfl, b_⟩
    have k1 : w8.cell? ⟨w.heap.size, 0, none⟩ = some (.int .i64 (n : Int)) := (b_.cell (p := ⟨w.heap.size, 0, none⟩) (cell_lt d1)).trans d1
    have k2 : w8.cell? ⟨B, 0, none⟩ = some (.int .i64 (1 + (p : Int))) := (b_.cell (p := ⟨B, 0, none⟩) (cell_lt d2)).trans d2
    have HB8 := Aside0.mk (below_step HB7.out b_)
    clear b_ d1 d2 c0
    go_wp2_with fail
    refine (Lower_ok n k g _ (by omega) (by omega) (by omega)).mono ?_
    rintro e w9 ⟨v9, rfl, h9, b_⟩
    have H9 := Aside0.mk h9
    have c1 : w9.cell? ⟨w.heap.size, 0, none⟩ = some (.int .i64 (n : Int)) := (b_.cell (p := ⟨w.heap.size, 0, none⟩) (cell_lt k1)).trans k1
    have c2 : w9.cell? ⟨B, 0, none⟩ = some (.int .i64 (1 + (p : Int))) := (b_.cell (p := ⟨B, 0, none⟩) (cell_lt k2)).trans k2
    have HB9 := Aside0.mk (below_step HB8.out b_)
    clear b_ h9
    go_wp2_with fail
    refine (exceedsP_calls _ n (1 + p) w.heap.size B _ H9.out HHL.out (by omega) (by omega) c1 (by rw [Int.natCast_add]; exact c2)).mono ?_
    rw [HEM.out]
    rintro e w10 ⟨rfl, b_⟩
    have HB10 := Aside0.mk (below_step HB9.out b_)
    clear b_ c1 c2
    go_wp2_with fail
    go_ret
    exact ⟨rfl, HB10.out⟩

end Go.Proofs.YteeacbgaehdodaaGreat
