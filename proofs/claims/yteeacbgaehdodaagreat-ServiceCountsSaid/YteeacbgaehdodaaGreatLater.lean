/- ServiceLater: items that are made, their outcomes; the walk. -/
import Derived.Test.YteeacbgaehdodaaGreatMade
namespace Go.Proofs.YteeacbgaehdodaaGreat
set_option linter.unusedVariables false
open Go Go.RowKit Go.Shelf Go.Lib Go.Sort Go.Maps Go.Proofs.YteeacbgaehdodaaGreatW.PrintWords Go.Proofs.YteeacbgaehdodaaGreatW.PrintLast Go.Proofs.YteeacbgaehdodaaGreatW.PrintMore Go.Proofs.YteeacbgaehdodaaGreat.Fn

theorem madeX_u8 (l : List TT) : U8X (madeX l) := fun x hx => by
  unfold madeX madeN at hx
  obtain ⟨j, _, rfl⟩ := List.mem_map.1 hx
  show (pairT _).1 ≤ 255
  rcases pairT_cases ((l.getD j zT).f0 % 5) with h | h | h | h | h <;> rw [h] <;> decide

/-! ### the law, in plain words -/
theorem stdM_minutes : ∀ y, y ∈ stdM → 0 ≤ y.f3 ∧ y.f3 ≤ 4000 := by decide
theorem prom_bound (c f t acc : Int) (h0 : 0 ≤ acc) (h1 : acc ≤ 20000) (h : (promR stdM c f t acc).2 = 0) : 0 ≤ (promR stdM c f t acc).1 ∧ (promR stdM c f t acc).1 ≤ 30000 := by
  unfold promR at *
  rw [if_neg (show ¬ (rightL stdM = false ∨ acc < 0) from fun h => h.elim (fun h => by rw [stdM_right] at h; cases h) (fun h => by omega))] at *
  cases hl : lookS stdM c f t with
  | none =>
    rw [hl] at h
    have h : (6 : Int) = 0 := h
    omega
  | some y =>
    rw [hl] at h
    have hy := stdM_minutes y (List.mem_of_find?_eq_some hl)
    dsimp only at *
    by_cases hc : acc > 1051898399 - y.f3
    · omega
    · rw [if_neg hc] at *
      dsimp only
      omega
theorem judge_made {l : List TT} (hl : ∀ t, t ∈ l → wfT t) {x : SX} (hx : rightX x = true) {now : Int} (h0 : 0 ≤ now) (h1 : now ≤ 1051898399) : judgeR stdM x now = (outcomeR stdM x now, 0) := by
  unfold judgeR
  rw [if_pos ⟨by unfold timedB; exact decide_eq_true ⟨h0, h1⟩, stdM_right, sentR_of (by simp) (by simpa using hx) (by simp)⟩]
theorem outcome_in (l : List SS) (x : SX) (now : Int) : outcomeR l x now = 1 ∨ outcomeR l x now = 2 ∨ outcomeR l x now = 3 ∨ outcomeR l x now = 4 := by
  unfold outcomeR
  repeat' split
  all_goals simp
theorem later_law {i : Nat} {t : TT} (h : wfT t) {a b : Int} (h0 : 0 ≤ a) (hab : a ≤ b) (hb : b < 40000) :
    outcomeR stdM (thingX i t) 1051898399 ≠ 1 ∧ (outcomeR stdM (thingX i t) a = 1 → outcomeR stdM (thingX i t) b ≠ 4) ∧ (outcomeR stdM (thingX i t) a ≠ 1 → outcomeR stdM (thingX i t) b = outcomeR stdM (thingX i t) a ∧ outcomeR stdM (thingX i t) 1051898399 = outcomeR stdM (thingX i t) a) := by
  obtain ⟨h1, h2, h3⟩ := h
  have hf4 : 0 ≤ (thingX i t).f4 ∧ (thingX i t).f4 ≤ 20000 := by show 0 ≤ t.f1 % 20000 ∧ t.f1 % 20000 ≤ 20000; omega
  have hf5 : (thingX i t).f5 ≤ 28000 := by
    show (if t.f3 = true then t.f1 % 20000 + t.f2 % 8000 else -1) ≤ 28000
    split <;> omega
  have hp := prom_bound (thingX i t).f1 (thingX i t).f2 (thingX i t).f3 (thingX i t).f4 hf4.1 hf4.2
  unfold outcomeR delivB
  generalize thingX i t = x at *
  generalize promR stdM x.f1 x.f2 x.f3 x.f4 = pr at *
  simp only [decide_eq_true_eq]
  by_cases he : pr.2 = 0
  · have hp := hp he
    rw [if_neg (show ¬ (pr.2 ≠ 0) by omega), if_neg (show ¬ (pr.2 ≠ 0) by omega), if_neg (show ¬ (pr.2 ≠ 0) by omega)]
    by_cases d1 : 0 ≤ x.f5 ∧ x.f5 ≤ a
    · rw [if_pos d1, if_pos d1, if_pos (show 0 ≤ x.f5 ∧ x.f5 ≤ b by omega), if_pos (show 0 ≤ x.f5 ∧ x.f5 ≤ b by omega), if_pos (show 0 ≤ x.f5 ∧ x.f5 ≤ 1051898399 by omega), if_pos (show 0 ≤ x.f5 ∧ x.f5 ≤ 1051898399 by omega)]
      split <;> simp
    · rw [if_neg d1, if_neg d1]
      by_cases d2 : 0 ≤ x.f5
      · rw [if_pos (show 0 ≤ x.f5 ∧ x.f5 ≤ 1051898399 by omega), if_pos (show 0 ≤ x.f5 ∧ x.f5 ≤ 1051898399 by omega)]
        by_cases d3 : x.f5 ≤ b
        · rw [if_pos (show 0 ≤ x.f5 ∧ x.f5 ≤ b from ⟨d2, d3⟩), if_pos (show 0 ≤ x.f5 ∧ x.f5 ≤ b from ⟨d2, d3⟩)]
          by_cases c1 : pr.1 < a
          · rw [if_pos c1, if_pos (show pr.1 < x.f5 by omega)]; simp
          · rw [if_neg c1]
            split <;> simp
        · rw [if_neg (show ¬ (0 ≤ x.f5 ∧ x.f5 ≤ b) by omega), if_neg (show ¬ (0 ≤ x.f5 ∧ x.f5 ≤ b) by omega)]
          by_cases c1 : pr.1 < a
          · rw [if_pos c1, if_pos (show pr.1 < x.f5 by omega), if_pos (show pr.1 < b by omega)]; simp
          · rw [if_neg c1]
            repeat' split
            all_goals simp
      · rw [if_neg (show ¬ (0 ≤ x.f5 ∧ x.f5 ≤ 1051898399) by omega), if_neg (show ¬ (0 ≤ x.f5 ∧ x.f5 ≤ b) by omega), if_neg (show ¬ (0 ≤ x.f5 ∧ x.f5 ≤ b) by omega), if_neg (show ¬ (0 ≤ x.f5 ∧ x.f5 ≤ 1051898399) by omega), if_pos (show pr.1 < 1051898399 by omega)]
        by_cases c1 : pr.1 < a
        · rw [if_pos c1, if_pos (show pr.1 < b by omega)]; simp
        · rw [if_neg c1]
          split <;> simp
  · rw [if_pos he, if_pos he, if_pos he]; simp

theorem madeX_one (t : TT) : madeX [t] = [thingX 0 t] := rfl
theorem isT_one (W : World) (t : TT) (e g : Nat) (hg : W.heap.size = g) : IsT (W.alloc (.cells #[.int .u8 t.f0, .int .u16 t.f1, .int .u16 t.f2, .bool t.f3] e)) (.slice (some ⟨g, 0, none⟩) 1 1) [t] := by
  subst hg
  refine ⟨_, 1, rfl, Nat.le_refl _, rfl, by simp, fun _ => ⟨⟨W.heap.size, 0, none⟩, rfl, fun j p hj => ?_⟩⟩
  obtain ⟨hj1, hj2⟩ := List.getElem?_eq_some_iff.1 hj
  obtain rfl : j = 0 := by simpa using hj1
  have hj2 : t = p := hj2
  subst hj2
  refine ⟨[.int .u8 t.f0, .int .u16 t.f1, .int .u16 t.f2, .bool t.f3], rfl, k30_mk _ t, fun i u hu => ?_⟩
  rw [Go.WideShapes.add_plain, Nat.zero_mul, Nat.zero_add, Nat.zero_add]
  exact box_cell W _ e i u (by rw [← hu]; simp)

set_option maxHeartbeats 1000000 in
set_option maxRecDepth 100000 in
theorem Later_calls (t : TT) (a b : Int) (hwf : wfT t) (ha : (Lit.int .i64 a).wf = true) (hb : (Lit.int .i64 b).wf = true) (w : World) :
    Calls Tryz.prog 7 #[.agg #[.int .u8 t.f0, .int .u16 t.f1, .int .u16 t.f2, .bool t.f3], .int .i64 a, .int .i64 b] w fun e w' => e = .returned (.bool true) ∧ Below w.heap.size w w' := by
  have ha1 := pickN_lt a (n := 40000) (by decide)
  have hb1 := pickN_lt b (n := 40000) (by decide)
  have HTA := Aside0.mk (fun W => time_calls a W ha)
  have HTB := Aside0.mk (fun W => time_calls b W hb)
  generalize pickN a 40000 = p at *
  generalize pickN b 40000 = q at *
  have hu1 : 0 ≤ min (p : Int) (q : Int) ∧ min (p : Int) (q : Int) ≤ max (p : Int) (q : Int) ∧ max (p : Int) (q : Int) < 40000 := by omega
  have hxr := thingX_right (i := 0) hwf (by decide)
  have hwl : ∀ y, y ∈ [t] → wfT y := fun y hy => by rw [List.mem_singleton.1 hy]; exact hwf
  have HJ1 := Aside0.mk (fun W (w0 : Value) (h : IsS W w0 stdM) => Judge_calls stdM (thingX 0 t) (min (p : Int) (q : Int)) W h)
  have HJ2 := Aside0.mk (fun W (w0 : Value) (h : IsS W w0 stdM) => Judge_calls stdM (thingX 0 t) (max (p : Int) (q : Int)) W h)
  have HJ3 := Aside0.mk (fun W (w0 : Value) (h : IsS W w0 stdM) => Judge_calls stdM (thingX 0 t) 1051898399 W h)
  rw [judge_made hwl hxr (by omega) (by omega)] at HJ1 HJ2 HJ3
  obtain ⟨l1, l2, l3⟩ := later_law (i := 0) hwf hu1.1 hu1.2.1 hu1.2.2
  have o1 := outcome_in stdM (thingX 0 t) (min (p : Int) (q : Int))
  have HM := Aside0.mk (fun W g (h : W.heap.size = g) => Made_calls [t] _ (isT_one W t 30 g h) hwl)
  rw [madeX_one] at HM
  generalize outcomeR stdM (thingX 0 t) (min (p : Int) (q : Int)) = r1 at *
  generalize outcomeR stdM (thingX 0 t) (max (p : Int) (q : Int)) = r2 at *
  generalize outcomeR stdM (thingX 0 t) 1051898399 = r3 at *
  have HC : Aside0 ((r1 = 1 ∧ (r3 == 1) = false ∧ (r2 == 4) = false) ∨ ((r1 == 1) = false ∧ (r1 == 4) = (r1 == 4) ∧ r2 = r1 ∧ r3 = r1)) := ⟨by
    by_cases h : r1 = 1
    · exact .inl ⟨h, by rw [beq_eq_false_iff_ne]; exact l1, by rw [beq_eq_false_iff_ne]; exact l2 h⟩
    · obtain ⟨h2, h3⟩ := l3 h
      exact .inr ⟨by rw [beq_eq_false_iff_ne]; exact h, rfl, h2, h3⟩⟩
  clear hu1 hxr hwl l1 l2 l3 o1 ha hb
  unfold aggX at HJ1 HJ2 HJ3
  obtain ⟨x, hx⟩ : ∃ x, x = thingX 0 t := ⟨_, rfl⟩
  rw [← hx] at HJ1 HJ2 HJ3 HM
  obtain ⟨t0, t1, t2, t3⟩ := t
  clear hx hwf
  go_enter Tryz.func7, Tryz.ntmps7
  go_wp2_with fail
  refine (awake_calls _).mono ?_
  rintro e w1 ⟨rfl, b_⟩
  have k0 : w1.cell? ⟨w.heap.size, 0, none⟩ = some (.int .u8 t0) := (b_.cell (p := ⟨w.heap.size, 0, none⟩) (by simp)).trans (box_cell w _ _ 0 _ rfl)
  have k1 : w1.cell? ⟨w.heap.size, 1, none⟩ = some (.int .u16 t1) := (b_.cell (p := ⟨w.heap.size, 1, none⟩) (by simp)).trans (box_cell w _ _ 1 _ rfl)
  have k2 : w1.cell? ⟨w.heap.size, 2, none⟩ = some (.int .u16 t2) := (b_.cell (p := ⟨w.heap.size, 2, none⟩) (by simp)).trans (box_cell w _ _ 2 _ rfl)
  have k3 : w1.cell? ⟨w.heap.size, 3, none⟩ = some (.bool t3) := (b_.cell (p := ⟨w.heap.size, 3, none⟩) (by simp)).trans (box_cell w _ _ 3 _ rfl)
  have HB1 := Aside0.mk (below_step (below_alloc (Below.refl w.heap.size w) _) b_)
  clear b_
  go_wp2_with fail
  refine (HM.out _ _ rfl).mono ?_
  rintro e w2 ⟨v0, v1, rfl, hs2, hx2, b_⟩
  generalize (w1.alloc (.cells #[.int .u8 t0, .int .u16 t1, .int .u16 t2, .bool t3] 30)).heap.size = bs at hs2 hx2
  have HS2 := Aside0.mk hs2
  have HX2 := Aside0.mk hx2
  have HB2 := Aside0.mk (below_step (below_alloc HB1.out _) b_)
  clear b_ hs2 hx2 k0 k1 k2 k3
  obtain ⟨g, cap, rfl⟩ := HX2.out.block (by simp)
  go_wp2_with fail
  refine (HTA.out _).mono ?_
  rintro e w3 ⟨rfl, ⟨m1, rfl⟩⟩
  go_wp2_with fail
  refine (HTB.out _).mono ?_
  rintro e w3 ⟨rfl, ⟨m2, rfl⟩⟩
  have HS3 : Aside0 (OwnS (w2.drewN (m1 + m2)) bs v0 stdM) := ⟨HS2.out.below (pw_below_drewN (Below.refl _ _) _)⟩
  have HX3 : Aside0 (OwnX (w2.drewN (m1 + m2)) bs (.slice (some ⟨g, 0, none⟩) 1 cap) [x]) := ⟨HX2.out.below (pw_below_drewN (Below.refl _ _) _)⟩
  have HB3 : Aside0 (Below w.heap.size w (w2.drewN (m1 + m2))) := ⟨pw_below_drewN HB2.out _⟩
  have x0 : (w2.drewN (m1 + m2)).cell? ⟨g, 0, none⟩ = some (.int .i64 x.f0) := HX3.out.cell (i := 0) (k := 0) (by simp) rfl
  have x1 : (w2.drewN (m1 + m2)).cell? ⟨g, 1, none⟩ = some (.int .u8 x.f1) := HX3.out.cell (i := 0) (k := 1) (by simp) rfl
  have x2 : (w2.drewN (m1 + m2)).cell? ⟨g, 2, none⟩ = some (.int .i64 x.f2) := HX3.out.cell (i := 0) (k := 2) (by simp) rfl
  have x3 : (w2.drewN (m1 + m2)).cell? ⟨g, 3, none⟩ = some (.int .i64 x.f3) := HX3.out.cell (i := 0) (k := 3) (by simp) rfl
  have x4 : (w2.drewN (m1 + m2)).cell? ⟨g, 4, none⟩ = some (.int .i64 x.f4) := HX3.out.cell (i := 0) (k := 4) (by simp) rfl
  have x5 : (w2.drewN (m1 + m2)).cell? ⟨g, 5, none⟩ = some (.int .i64 x.f5) := HX3.out.cell (i := 0) (k := 5) (by simp) rfl
  have aE := Tryz.isAgg35
  have zE := Tryz.sizeOf35
  clear HS2 HX2 HB2
  go_wp2_with fail
  generalize w2.drewN (m1 + m2) = w3 at *
  refine (HJ1.out _ _ HS3.out.isS).mono ?_
  rintro e w4 ⟨rfl, b_⟩
  have HS4 := Aside0.mk (HS3.out.below b_)
  have HX4 := Aside0.mk (HX3.out.below b_)
  have HB4 := Aside0.mk (below_step HB3.out b_)
  clear b_ x0 x1 x2 x3 x4 x5 HS3 HX3
  have x0 : w4.cell? ⟨g, 0, none⟩ = some (.int .i64 x.f0) := HX4.out.cell (i := 0) (k := 0) (by simp) rfl
  have x1 : w4.cell? ⟨g, 1, none⟩ = some (.int .u8 x.f1) := HX4.out.cell (i := 0) (k := 1) (by simp) rfl
  have x2 : w4.cell? ⟨g, 2, none⟩ = some (.int .i64 x.f2) := HX4.out.cell (i := 0) (k := 2) (by simp) rfl
  have x3 : w4.cell? ⟨g, 3, none⟩ = some (.int .i64 x.f3) := HX4.out.cell (i := 0) (k := 3) (by simp) rfl
  have x4 : w4.cell? ⟨g, 4, none⟩ = some (.int .i64 x.f4) := HX4.out.cell (i := 0) (k := 4) (by simp) rfl
  have x5 : w4.cell? ⟨g, 5, none⟩ = some (.int .i64 x.f5) := HX4.out.cell (i := 0) (k := 5) (by simp) rfl
  go_wp2_with fail
  refine (HJ2.out _ _ HS4.out.isS).mono ?_
  rintro e w5 ⟨rfl, b_⟩
  have HS5 := Aside0.mk (HS4.out.below b_)
  have HX5 := Aside0.mk (HX4.out.below b_)
  have HB5 := Aside0.mk (below_step HB4.out b_)
  clear b_ x0 x1 x2 x3 x4 x5 HS4 HX4
  have x0 : w5.cell? ⟨g, 0, none⟩ = some (.int .i64 x.f0) := HX5.out.cell (i := 0) (k := 0) (by simp) rfl
  have x1 : w5.cell? ⟨g, 1, none⟩ = some (.int .u8 x.f1) := HX5.out.cell (i := 0) (k := 1) (by simp) rfl
  have x2 : w5.cell? ⟨g, 2, none⟩ = some (.int .i64 x.f2) := HX5.out.cell (i := 0) (k := 2) (by simp) rfl
  have x3 : w5.cell? ⟨g, 3, none⟩ = some (.int .i64 x.f3) := HX5.out.cell (i := 0) (k := 3) (by simp) rfl
  have x4 : w5.cell? ⟨g, 4, none⟩ = some (.int .i64 x.f4) := HX5.out.cell (i := 0) (k := 4) (by simp) rfl
  have x5 : w5.cell? ⟨g, 5, none⟩ = some (.int .i64 x.f5) := HX5.out.cell (i := 0) (k := 5) (by simp) rfl
  go_wp2_with fail
  refine (HJ3.out _ _ HS5.out.isS).mono ?_
  rintro e w6 ⟨rfl, b_⟩
  have HB6 := Aside0.mk (below_step HB5.out b_)
  clear b_ x0 x1 x2 x3 x4 x5 HS5 HX5
  rcases HC.out with ⟨rfl, h3, h2⟩ | ⟨h1, h2, rfl, rfl⟩
  · go_wp2_with fail
    go_ret
    exact ⟨by show Ending.returned (.bool (r2 != 4)) = _; rw [bne, h2]; rfl, HB6.out⟩
  · go_wp2_with fail
    go_ret
    exact ⟨rfl, HB6.out⟩

end Go.Proofs.YteeacbgaehdodaaGreat
