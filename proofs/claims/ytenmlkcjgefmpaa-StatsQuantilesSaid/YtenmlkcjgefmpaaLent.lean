/- What LentInts makes, and what KeptInts finds of it. -/
import Derived.Test.YtenmlkcjgefmpaaQuant
namespace Go.Proofs.Ytenmlkcjgefmpaa
set_option linter.unusedVariables false
open Go.RowKit Go.Proofs.YtenmlkcjgefmpaaW.PrintWords Go.Proofs.YtenmlkcjgefmpaaW.PrintLast Go.Proofs.YtenmlkcjgefmpaaW.PrintMore Go.Proofs.Ytenmlkcjgefmpaa.Fn
attribute [local go_sem] max2_int min2_int max_two min_two max_three min_three max_four min_four

def marks (j : Nat) : List Int := (List.range j).map fun i : Nat => 8000024 + (i : Int)
theorem marks_succ (j : Nat) : marks (j + 1) = marks j ++ [8000024 + (j : Int)] := by simp [marks, List.range_succ]
theorem marks_length (j : Nat) : (marks j).length = j := by simp [marks]

theorem mark_calls (i : Nat) (hi : i ≤ 100) (w : World) : Calls Try.prog 69 #[.int .i64 1, .int .i64 (i : Int)] w fun e w' => e = .returned (.int .i64 (8000024 + (i : Int))) ∧ Drawn0 w w' := by
  go_enter Try.func69, Try.ntmps69
  go_wp2_with fail
  go_ret
  exact ⟨rfl, ⟨0, rfl⟩⟩

theorem mark_draws (i : Nat) (hi : i ≤ 100) (w : World) : Calls Try.prog 69 #[.int .i64 1, .int .i64 (i : Int)] w fun e w' => e = .returned (.int .i64 (8000024 + (i : Int))) ∧ ∃ m, w' = w.drewN m :=
  (mark_calls i hi w).mono fun _ _ h => ⟨h.1, by obtain ⟨_, ⟨d⟩⟩ := h; exact d⟩

theorem make0_gate {P : Program} {w0 W : World} {base e : Nat} {ops : Array Oper} {o : Oper} {rest : List Oper} {a : Act} {Q : Exit → Act → World → Prop} (hg : o.guard = none) (t : TypeId) (x y : Operand) (ho : o.op = .makeSlice t x y) (c : Nat) (n : Int)
    (hx : a.eval x = .int .i64 0) (hy : a.eval y = .int .i64 n) (hn : n = (c : Int)) (ht : P.underlying t = some (.slice e)) (z : Value) (hinfo : (P.info? e).map (fun i => (i.zero, i.size, i.bytes)) = some (some z, 1, 8))
    (hc : c * 8 ≤ 281474976710656) (hbase : base ≤ W.heap.size) (HB : Below base w0 W)
    (h : ∀ v1 w1, Kd.R (Kd.int .i64) e w1 base (fun _ => True) v1 [] → Below base w0 w1 → wpList P ops Q rest (a.put o.dst v1) w1) : wpList P ops Q (o :: rest) a W := by
  subst hn
  refine wpList_plain hg fun K' hK' => ?_
  obtain ⟨i, hi, hzz⟩ := Option.map_eq_some_iff.1 hinfo
  simp only [Prod.mk.injEq] at hzz
  obtain ⟨hz, hs, hb8⟩ := hzz
  obtain ⟨w', hrun, r1, r2⟩ := run_make_own (P := P) W base t e i z 1 ht hi hz hs .i64 .i64 c (by rw [hb8]; omega) (by simp [maxLen]; omega) hbase
  unfold Oper.wp
  simp [execOp, ho, hx, hy, hrun, Result.andThen]
  exact hK' _ _ (h _ _ (R_nums (k := .i64) (xs := []) r1) (HB.grown r2 hbase (fun k e => by cases e)))

set_option maxHeartbeats 4000000 in
set_option maxRecDepth 100000 in
theorem Lent_calls {v : Value} (l : List Int) (w : World) (hv : IsI w v l) (hl : l.length * 8 ≤ 140737488351232) :
    Calls Try.prog 43 #[v] w fun e w' => ∃ (g cap : Nat), e = .returned (.slice (some ⟨g, 0, none⟩) l.length cap) ∧ l.length + 12 ≤ cap ∧ Kd.C (Kd.int .i64) w' (some ⟨g, 0, none⟩) (l.length + 12) (l ++ marks 12) ∧ Below w.heap.size w w' := by
  obtain ⟨A, c, rfl, hc, hr⟩ := hv
  have HR := Aside0.mk hr
  have HL := Aside0.mk hl
  have HB := Aside0.mk (Below.refl w.heap.size w)
  have hmax : l.length ≤ 17592186043904 := by omega
  clear hr hl hc
  go_enter Try.func43, Try.ntmps43
  go_wp2_with (first
    | ((with_reducible refine gate_dst (N := 8) rfl ?_); refine make0_gate (w0 := w) (base := w.heap.size) (e := 3) rfl 24 _ _ rfl (l.length + 12) _ rfl rfl (by omega) Try.underlying24 (.int .i64 0) info3 (by omega) (Nat.le_refl _) HB.out ?_; intro v1 w1 ho hb; have HO := Aside0.mk ho; have HB := Aside0.mk hb; clear ho hb)
    | ((with_reducible refine gate_builtin (b := .append) (xs := #[.tmp 9, .tmp 10]) rfl ?_); at_builtin; refine Kd.R_append_rows (Kd.int .i64) (w0 := w) w.heap.size rfl (.tmp 9) (.tmp 10) 24 3 (.int .i64 0) 8 rfl Try.underlying24 info3 rfl (by decide) (by omega) v1 [] l _ _ _ (fun _ => True) (fun _ => False) rfl rfl ?aO ?aR (fun _ _ h => h) (fun _ h => h.elim) ?aF ?aB ?aS ?aL ?_; (case aR => exact (Kd.C_below HR.out HB.out)); (case aB => exact HB.out); (case aF => exact (fun _ _ => trivial)); (case aO => exact HO.out); (case aS => exact (below_size HB.out)); (case aL => have := HL.out; simp; omega); intro v2 w2 ho hb hg hat; have HO2 := Aside0.mk ho; have HB2 := Aside0.mk hb; clear ho hb hg hat HO HB))
  go_loopw [3, 4] (fun v3 v4 W => ∃ j : Nat, j ≤ 12 ∧ v4 = .int .i64 j ∧ Aside0 (Kd.R (Kd.int .i64) 3 W w.heap.size (fun _ => True) v3 (l ++ marks j)) ∧ Aside0 (Below w.heap.size w W)) (fun _ v4 _ => 12 - (intOf v4).toNat)
  case atStart => exact ⟨0, by omega, rfl, ⟨by have h := HO2.out; simpa [marks] using h⟩, HB2⟩
  case round =>
    obtain ⟨j, hj, rfl, HO, HB⟩ := hrel
    by_cases hjn : j < 12
    · go_wp2_with fail
      refine (mark_calls j (by omega) _).mono ?_
      rintro e w3 ⟨rfl, ⟨m, rfl⟩⟩
      go_wp2_with (first
        | ((with_reducible refine gate_builtin (b := .append) (xs := #[.tmp 16, .tmp 19]) rfl ?_); at_builtin; refine Kd.R_append (Kd.int .i64) (w0 := w) w.heap.size rfl (.tmp 16) (.tmp 19) 24 3 (.int .i64 0) 8 rfl Try.underlying24 info3 rfl (by decide) (by omega) u3 (l ++ marks j) (8000024 + (j : Int)) [.int .i64 (8000024 + (j : Int))] (fun _ => True) (fun _ => False) rfl rfl ?aP (fun _ hk => hk.elim) ?aF ?aO ?aB ?aS ?aL ?_; (case aP => exact rfl); (case aB => exact pw_below_drewN HB.out m); (case aF => exact (fun _ _ => trivial)); (case aO => exact Kd.R_drewN HO.out m); (case aS => exact (below_size (pw_below_drewN HB.out m))); (case aL => have := HL.out; rw [List.length_append, marks_length]; omega); intro v4 w4 ho hb hg hat; rw [List.append_assoc, ← marks_succ] at ho; have HO3 := Aside0.mk ho; have HB3 := Aside0.mk hb; clear ho hb hg hat HO HB))
      go_roundw
      case rel => exact ⟨j + 1, by omega, by go_num, HO3, HB3⟩
      case measure => simp [intOf]; omega
    · obtain rfl : j = 12 := by omega
      have hlen : (l ++ marks 12).length = l.length + 12 := by rw [List.length_append, marks_length]
      obtain ⟨g, cap, hu, _, _, _⟩ := Kd.R_form HO.out (by omega)
      subst hu
      obtain ⟨_, hcap, hC⟩ := Kd.R_reads' HO.out
      rw [hlen] at hcap hC ⊢
      have HC := Aside0.mk hC
      have hle : l.length ≤ cap := by omega
      have hlc : (l.length : Int) ≤ (cap : Int) := by omega
      clear hlen hC HO hjn
      go_wp2_with fail
      go_ret
      exact ⟨g, cap, rfl, hcap, HC.out, HB.out⟩

theorem C_cell {w : World} {A : Option Addr} {n : Nat} {xs : List Int} (h : Kd.C (Kd.int .i64) w A n xs) {j : Nat} (hj : j < n) : ∃ ad, A = some ad ∧ w.cell? (ad.add j) = some (.int .i64 (xs.getD j 0)) := by
  obtain ⟨ad, c, e, _, hK, hc⟩ := Kd.C_get h 0 (j : Int) (by omega) (by omega)
  rw [Int.toNat_natCast] at hK hc
  have hK' : c = [.int .i64 (xs.getD j 0)] := hK
  subst hK'
  refine ⟨ad, e, ?_⟩
  have := hc 0 _ rfl
  rwa [show j * (Kd.int .i64).sz + 0 = j from Nat.mul_one j] at this

theorem marks_get {j : Nat} (h : j < 12) : (marks 12).getD j 0 = 8000024 + (j : Int) := by
  unfold marks
  rw [List.getD_eq_getElem?_getD, List.getElem?_map, List.getElem?_range h]; rfl

set_option maxHeartbeats 4000000 in
set_option maxRecDepth 100000 in
theorem Kept_calls (l : List Int) (v : Value) (g cap : Nat) (w : World) (hv : IsI w v l) (hcap : l.length + 12 ≤ cap) (hl : l.length * 8 ≤ 140737488351232) (hC : Kd.C (Kd.int .i64) w (some ⟨g, 0, none⟩) (l.length + 12) (l ++ marks 12)) :
    Calls Try.prog 45 #[.slice (some ⟨g, 0, none⟩) l.length cap, v] w fun e w' => e = .returned (.bool true) ∧ Drawn0 w w' := by
  obtain ⟨A, c, rfl, hc, hr⟩ := hv
  have HR := Aside0.mk hr
  have HC := Aside0.mk hC
  have HL := Aside0.mk hl
  have hmax : l.length ≤ 17592186043904 := by omega
  have hself : ((l.length : Int) != (l.length : Int)) = false := by simp
  clear hr hC hl hc
  go_enter Try.func45, Try.ntmps45
  go_wp2_with fail
  go_loopw [6] (fun v6 W => ∃ (j : Nat), j ≤ l.length + 12 ∧ v6 = .int .i64 j ∧ Aside0 (Drawn0 w W)) (fun v6 _ => l.length + 12 - (intOf v6).toNat)
  case atStart => exact ⟨0, by omega, rfl, ⟨Drawn0.refl _⟩⟩
  case round =>
    obtain ⟨j, hj, rfl, HD⟩ := hrel
    have hCw := Kd.C_below HC.out (drawn_below HD.out)
    have hRw := Kd.C_below HR.out (drawn_below HD.out)
    by_cases h1 : j < l.length
    · obtain ⟨ad, rfl, hx⟩ := C_cell hRw h1
      obtain ⟨ad2, hg, hy⟩ := C_cell hCw (show j < l.length + 12 by omega)
      obtain rfl : ad2 = ⟨g, 0, none⟩ := by injection hg with e; exact e.symm
      rw [show (l ++ marks 12).getD j 0 = l.getD j 0 by rw [List.getD_eq_getElem?_getD, List.getElem?_append_left h1, ← List.getD_eq_getElem?_getD], Go.WideShapes.add_plain, Nat.zero_add] at hy
      generalize l.getD j 0 = z at *
      have d1 : decide ((j : Int) < (l.length : Int)) = true := decide_eq_true (by omega)
      have d2 : decide (l.length ≤ j) = false := decide_eq_false (by omega)
      have d3 : (j : Int) < (l.length : Int) + 12 := by omega
      have d4 : (j : Int) < (l.length : Int) := by omega
      clear hCw hRw hg
      go_wp2_with fail
      go_quiet (fail)
      go_wp2_with fail
      go_roundw
      case rel => exact ⟨j + 1, by omega, by go_num, ⟨HD.out.step _⟩⟩
      case measure => simp [intOf]; omega
    · by_cases h2 : j < l.length + 12
      · obtain ⟨q, hq⟩ : ∃ q, q = j - l.length := ⟨_, rfl⟩
        obtain ⟨ad2, hg, hy⟩ := C_cell hCw h2
        obtain rfl : ad2 = ⟨g, 0, none⟩ := by injection hg with e; exact e.symm
        rw [show (l ++ marks 12).getD j 0 = 8000024 + (q : Int) by rw [← marks_get (show q < 12 by omega), List.getD_eq_getElem?_getD, List.getElem?_append_right (by omega), ← List.getD_eq_getElem?_getD, hq], Go.WideShapes.add_plain, Nat.zero_add] at hy
        have d1 : decide (j < l.length) = false := decide_eq_false (by omega)
        have d2 : decide (l.length ≤ j) = true := decide_eq_true (by omega)
        have d3 : (j : Int) < (l.length : Int) + 12 := by omega
        have d4 : (j : Int) - (l.length : Int) = (q : Int) := by omega
        have HM := Aside0.mk (fun W => mark_draws q (by omega) W)
        clear hCw hRw hg hq
        go_wp2_with fail
        go_quiet (first | (go_at_call 69; refine Calls.quiet_of (HM.out _)))
        go_wp2_with fail
        go_roundw
        case rel => exact ⟨j + 1, by omega, by go_num, ⟨HD.out.step _⟩⟩
        case measure => simp [intOf]; omega
      · have d1 : decide (j < l.length + 12) = false := decide_eq_false (by omega)
        have d3 : ¬ (j : Int) < (l.length : Int) + 12 := by omega
        clear hCw hRw
        go_wp2_with fail
        go_ret
        exact ⟨rfl, HD.out⟩

end Go.Proofs.Ytenmlkcjgefmpaa
