/- The contract of Quantile. -/
import Derived.Test.YtenmlkcjgefmpaaChoose
import Derived.Test.YtenmlkcjgefmpaaShelf
import Derived.Shelf.Sort.Plain
import Derived.Sort.OwnSortedInts
namespace Go.Proofs.Ytenmlkcjgefmpaa
open Go.RowKit Go.Shelf Go.Sort Go.Proofs.YtenmlkcjgefmpaaW.PrintWords Go.Proofs.YtenmlkcjgefmpaaW.PrintLast Go.Proofs.YtenmlkcjgefmpaaW.PrintMore Go.Proofs.Ytenmlkcjgefmpaa.Fn
attribute [local go_sem] max2_int min2_int max_two min_two max_three min_three max_four min_four

/-- The slice v reads as the list of whole numbers. -/
def IsI (w : World) (v : Value) (l : List Int) : Prop := ∃ (A : Option Addr) (c : Nat), v = .slice A l.length c ∧ l.length ≤ c ∧ Kd.C (Kd.int .i64) w A l.length l

theorem IsI.below {w w' : World} {v : Value} {l : List Int} (h : IsI w v l) (hb : Below w.heap.size w w') : IsI w' v l := by
  obtain ⟨A, c, h1, h2, h3⟩ := h
  exact ⟨A, c, h1, h2, Kd.C_below h3 hb⟩
theorem IsI.len {w : World} {A : Option Addr} {n c : Nat} {l : List Int} (h : IsI w (.slice A n c) l) : n = l.length := by
  obtain ⟨_, _, e, _⟩ := h
  injection e

def sortI (l : List Int) : List Int := l.mergeSort fun x y => decide (x ≤ y)
theorem sortI_length (l : List Int) : (sortI l).length = l.length := List.length_mergeSort l
def rankP (p : Nat) : Nat := if (p + 9999) / 10000 < 1 then 0 else (p + 9999) / 10000 - 1
def rankQ (len q : Nat) : Nat := rankP (q * len)
theorem rankP_lt {p n : Nat} (h : p ≤ 10000 * n) (hn : 0 < n) : rankP p < n := by
  unfold rankP
  split <;> omega
theorem rankP_small {p : Nat} (h : ((p : Int) + 10000 - 1) / 10000 < 1) : rankP p = 0 := by
  unfold rankP
  rw [if_pos (by omega)]
theorem rankP_big {p : Nat} (h : ¬ ((p : Int) + 10000 - 1) / 10000 < 1) : (rankP p : Int) = ((p : Int) + 10000 - 1) / 10000 - 1 := by
  unfold rankP
  rw [if_neg (by omega)]
  omega
def quantE (l : List Int) (q : Int) : Int := if l.length > 10000 then 5 else if q < 0 ∨ q > 10000 then 2 else if l.length = 0 then 6 else 0
def quantN (l : List Int) (q : Int) : Int := if quantE l q = 0 then (sortI l).getD (rankQ l.length q.toNat) 0 else 0

theorem rankQ_lt {len q : Nat} (h : 0 < len) (hq : q ≤ 10000) : rankQ len q < len := by
  exact rankP_lt (Nat.mul_le_mul_right _ hq) h

set_option maxHeartbeats 1000000 in
theorem CloneI_some (ad : Addr) (c : Nat) (l0 : List Int) (w : World) (hr : Kd.C (Kd.int .i64) w (some ad) l0.length l0) (hl : l0.length ≤ 100000) :
    Calls Try.prog 39 #[.slice (some ad) l0.length c] w fun e w' => ∃ v : Value, e = .returned v ∧ Kd.R (Kd.int .i64) 3 w' w.heap.size (fun _ => True) v l0 ∧ Below w.heap.size w w' := by
  have HR0 := Aside0.mk hr
  have HL := Aside0.mk hl
  have HB := Aside0.mk (Below.refl w.heap.size w)
  clear hr hl
  have hnil := fun W => Lib.run_eql_slice_nil (P := Try.prog) W 24 3 (some ad) l0.length c 0 0 Try.underlying24
  go_enter Try.func39, Try.ntmps39
  go_wp2_with (first
    | ((with_reducible refine gate_dst (N := 5) rfl ?_); refine Kd.R_lit (Kd.int .i64) _ 3 ?hg (N := 5) ?hd (xs := ([] : List Int)) (inner := []) (ok := fun _ => True) (okp := fun _ => True) ?hr ?hp (fun _ hk => hk) trivial (Below.refl _ _) (Nat.le_refl _) (by simp) ?_; (case hd => rfl); (case hg => rfl); (case hr => first | (go_simp; done) | (go_simp; rfl)); (case hp => exact (Reps.none _ _)); intro v453 w3 ho4 hb hg_ hnew_; clear hg_ hnew_; have n0_ := Aside0.mk (Kd.R_lower ho4 (below_size (by repeat (first | (with_reducible first | exact HB.out | apply below_alloc | apply pw_below_drewN | apply below_drew1) | exact HB.out)))); have n1_ := Aside0.mk (below_step (by repeat (first | (with_reducible first | exact HB.out | apply below_alloc | apply pw_below_drewN | apply below_drew1) | exact HB.out)) hb); clear HB; have HO454 := n0_; have HB := n1_; clear n0_ n1_; clear hb ho4)
    | ((with_reducible refine gate_builtin (b := .append) (xs := #[.tmp 5, .tmp 6]) rfl ?_); at_builtin; refine Kd.R_append_rows (Kd.int .i64) (w0 := w) w.heap.size rfl (.tmp 5) (.tmp 6) 24 3 (.int .i64 0) 8 rfl Try.underlying24 info3 rfl (by decide) (by omega) v453 [] l0 _ _ _ (fun _ => True) (fun _ => False) rfl rfl ?aO ?aR (fun _ _ h => h) (fun _ h => h.elim) ?aF ?aB ?aS ?aL ?_; (case aR => exact (Kd.C_below HR0.out HB.out)); (case aB => exact (by repeat (first | (with_reducible first | exact HB.out | apply below_alloc | apply pw_below_drewN | apply below_drew1) | exact HB.out))); (case aF => exact (fun _ _ => trivial)); (case aO => exact HO454.out); (case aS => exact (below_size (by repeat (first | (with_reducible first | exact HB.out | apply below_alloc | apply pw_below_drewN | apply below_drew1) | exact HB.out)))); (case aL => have := HL.out; simp; omega); intro v456 w5 ho hb hg hat; have n0_ := Aside0.mk (hb); have n1_ := Aside0.mk (ho); clear HB; clear HO454; have HB := n0_; have HO457 := n1_; clear n0_ n1_; clear ho hb hg hat))
  go_ret
  exact ⟨_, rfl, HO457.out, HB.out⟩

theorem nums_map (l : List Int) : nums .i64 l = l.map (Value.int .i64) := rfl

/-- slices.Sort on a row of the call's own -/
theorem Sort_calls (l : List Int) (v : Value) (w0 w : World) (hl : 0 < l.length) (hle : l.length ≤ 100000) (hb : Below w0.heap.size w0 w) (ho : Kd.R (Kd.int .i64) 3 w w0.heap.size (fun _ => True) v l) :
    Calls Try.prog 64 #[v] w fun e w' => e = .returned (.tuple #[]) ∧ Kd.R (Kd.int .i64) 3 w' w0.heap.size (fun _ => True) v (sortI l) ∧ Below w0.heap.size w0 w' := by
  obtain ⟨_, inner, hown, hreps⟩ := ho
  have hin : inner = l.map (Value.int .i64) := by
    apply List.ext_getElem
    · rw [hreps.1, List.length_map]; show l.length * 1 = l.length; omega
    · intro i h1 h2
      have h3 : i < l.length := by simpa using h2
      have h4 : ((inner.drop (i * 1)).take 1) = [.int .i64 l[i]] := hreps.2 i l[i] (List.getElem?_eq_getElem h3)
      rw [Nat.mul_one, List.drop_eq_getElem_cons h1, List.take_succ_cons] at h4
      injection h4 with h5 _
      rw [h5, List.getElem_map]
  subst hin
  rcases hown.2 with ⟨rfl, h0⟩ | ⟨g, cap, cur, rfl, hg, hh, hn, hcap, hcs, ht⟩
  · omega
  · rw [show l.length * (Kd.int .i64).sz = l.length from Nat.mul_one _] at ht
    have hcon := Any.slices_Sort_int shSort g 0 cap l w (holds_of_blockI hh ht) (lt_of_block hh) (by omega)
    refine hcon.mono ?_
    rintro e w' ⟨rfl, n, os, rfl⟩
    have hrow := ownsRow_sortedI (n := n) (os := os) (ss := l) (ts := sortI l) (sortI_length l) hg hh hn hcap hcs
    refine ⟨rfl, ?_, hb.grown (grownBy_sortedI _) hb.size (fun k e => by cases e; exact hg)⟩
    refine R_nums (k := .i64) (xs := sortI l) ?_
    rw [sortI_length, nums_map]
    exact hrow

theorem quantE_many {l : List Int} {q : Int} (h : l.length > 10000) : quantE l q = 5 := if_pos h
theorem quantE_arg {l : List Int} {q : Int} (h : ¬ l.length > 10000) (hq : q < 0 ∨ q > 10000) : quantE l q = 2 := by unfold quantE; rw [if_neg h, if_pos hq]
theorem quantE_none {l : List Int} {q : Int} (h : ¬ l.length > 10000) (hq : ¬ (q < 0 ∨ q > 10000)) (h0 : l.length = 0) : quantE l q = 6 := by unfold quantE; rw [if_neg h, if_neg hq, if_pos h0]
theorem quantE_ok {l : List Int} {q : Int} (h : ¬ l.length > 10000) (hq : ¬ (q < 0 ∨ q > 10000)) (h0 : ¬ l.length = 0) : quantE l q = 0 := by unfold quantE; rw [if_neg h, if_neg hq, if_neg h0]

set_option maxHeartbeats 2000000 in
set_option maxRecDepth 100000 in
theorem Quantile_calls {v : Value} (l : List Int) (q : Int) (w : World) (hv : IsI w v l) :
    Calls Try.prog 37 #[v, .int .i64 q] w fun e w' => e = .returned (.tuple #[.int .i64 (quantN l q), .int .i64 (quantE l q)]) ∧ Below w.heap.size w w' := by
  obtain ⟨A, c, rfl, hc, hr⟩ := hv
  have HR := Aside0.mk hr
  have hmax := hr.2.1
  clear hr
  by_cases h1 : l.length > 10000
  · have HQ := Aside0.mk (quantE_many (q := q) h1)
    have HN := Aside0.mk (show quantN l q = 0 by unfold quantN; rw [HQ.out]; rfl)
    have HP := Aside0.mk (show Ending.returned (.tuple #[.int .i64 0, .int .i64 5]) = Ending.returned (.tuple #[.int .i64 (quantN l q), .int .i64 (quantE l q)]) by rw [HN.out, HQ.out])
    have hd : decide (10000 < l.length) = true := decide_eq_true h1
    have hd' : decide (10000 < (l.length : Int)) = true := decide_eq_true (by omega)
    go_enter Try.func37, Try.ntmps37
    go_wp2_with fail
    go_ret2
    exact ⟨HP.out, Below.refl _ _⟩
  · by_cases hq : q < 0 ∨ q > 10000
    · have HQ := Aside0.mk (quantE_arg h1 hq)
      have HN := Aside0.mk (show quantN l q = 0 by unfold quantN; rw [HQ.out]; rfl)
      have HP := Aside0.mk (show Ending.returned (.tuple #[.int .i64 0, .int .i64 2]) = Ending.returned (.tuple #[.int .i64 (quantN l q), .int .i64 (quantE l q)]) by rw [HN.out, HQ.out])
      have hd' : decide (10000 < (l.length : Int)) = false := decide_eq_false (by omega)
      rcases hq with hq | hq
      · have hd2 : decide (q < 0) = true := decide_eq_true hq
        go_enter Try.func37, Try.ntmps37
        go_wp2_with fail
        go_ret2
        exact ⟨HP.out, Below.refl _ _⟩
      · have hd2 : decide (q < 0) = false := decide_eq_false (by omega)
        have hd3 : decide (10000 < q) = true := decide_eq_true (by omega)
        go_enter Try.func37, Try.ntmps37
        go_wp2_with fail
        go_ret2
        exact ⟨HP.out, Below.refl _ _⟩
    · have hd' : decide (10000 < (l.length : Int)) = false := decide_eq_false (by omega)
      have hd2 : decide (q < 0) = false := decide_eq_false (by omega)
      have hd3 : decide (10000 < q) = false := decide_eq_false (by omega)
      by_cases h0 : l.length = 0
      · have HQ := Aside0.mk (quantE_none h1 hq h0)
        have HN := Aside0.mk (show quantN l q = 0 by unfold quantN; rw [HQ.out]; rfl)
        have HP := Aside0.mk (show Ending.returned (.tuple #[.int .i64 0, .int .i64 6]) = Ending.returned (.tuple #[.int .i64 (quantN l q), .int .i64 (quantE l q)]) by rw [HN.out, HQ.out])
        have hd4 : ((l.length : Int) == 0) = true := by rw [beq_iff_eq]; omega
        clear h0
        go_enter Try.func37, Try.ntmps37
        go_wp2_with fail
        go_ret2
        exact ⟨HP.out, Below.refl _ _⟩
      · have HQ := Aside0.mk (quantE_ok h1 hq h0)
        obtain ⟨q', rfl⟩ := Int.eq_ofNat_of_zero_le (show 0 ≤ q by omega)
        have HN := Aside0.mk (show quantN l (q' : Int) = (sortI l).getD (rankQ l.length q') 0 by unfold quantN; rw [HQ.out, if_pos rfl, Int.toNat_natCast])
        have hd4 : ((l.length : Int) == 0) = false := by rw [beq_eq_false_iff_ne]; omega
        obtain ⟨ad, hA, _⟩ := HR.out.2.2 (show 0 < l.length by omega)
        subst hA
        go_enter Try.func37, Try.ntmps37
        go_wp2_with fail
        refine (CloneI_some ad c l w HR.out (by omega)).mono ?_
        rintro e w1 ⟨v1, rfl, ho, hb⟩
        have HO := Aside0.mk ho
        have HB := Aside0.mk hb
        clear ho hb
        go_wp2_with fail
        refine (Sort_calls l v1 w w1 (by omega) (by omega) HB.out HO.out).mono ?_
        rintro e w2 ⟨rfl, ho, hb⟩
        obtain ⟨g, cap, rfl, _, _, _⟩ := Kd.R_form ho (by rw [sortI_length]; omega)
        have HO2 := Aside0.mk ho
        have HB2 := Aside0.mk hb
        have hrk := rankQ_lt (len := l.length) (q := q') (by omega) (by omega)
        obtain ⟨p, hp⟩ : ∃ p : Nat, q' * l.length = p := ⟨_, rfl⟩
        have hpb : p ≤ 100000000 := by rw [← hp]; exact Nat.mul_le_mul (show q' ≤ 10000 by omega) (show l.length ≤ 10000 by omega)
        have ep : wrap64 ((q' : Int) * (l.length : Int)) = (p : Int) := by rw [← Int.natCast_mul, hp]; exact w64 (by omega) (by omega)
        have hsl : l.length ≤ (sortI l).length := by rw [sortI_length]; exact Nat.le_refl _
        have HRK := Aside0.mk (show rankQ l.length q' = rankP p by unfold rankQ; rw [hp])
        clear hp ho hb HO HR
        by_cases hm : ((p : Int) + 10000 - 1) / 10000 < 1
        · have HK := Aside0.mk (show rankQ l.length q' = 0 by rw [HRK.out]; exact rankP_small hm)
          obtain ⟨hcell, _⟩ := Kd.R_celln 0 HO2.out 0 (by omega) (by omega)
          have hcell' : w2.cell? ⟨g, 0, none⟩ = some (.int .i64 ((sortI l).getD 0 0)) := hcell
          have HCV := Aside0.mk (show Ending.returned (.tuple #[.int .i64 ((sortI l).getD 0 0), .int .i64 0]) = Ending.returned (.tuple #[.int .i64 (quantN l (q' : Int)), .int .i64 (quantE l (q' : Int))]) by rw [HN.out, HQ.out, HK.out])
          obtain ⟨z, hz⟩ : ∃ z, (sortI l).getD 0 0 = z := ⟨_, rfl⟩
          rw [hz] at hcell' HCV
          clear hcell hz hrk
          go_wp2_with fail
          go_ret2
          exact ⟨HCV.out, HB2.out⟩
        · obtain ⟨r, hr0, hr1⟩ : ∃ r : Nat, rankP p = r ∧ (r : Int) = ((p : Int) + 10000 - 1) / 10000 - 1 := ⟨rankP p, rfl, rankP_big hm⟩
          have HK := Aside0.mk (show rankQ l.length q' = r by rw [HRK.out]; exact hr0)
          have hrl : r < (sortI l).length := by rw [HK.out] at hrk; omega
          obtain ⟨hcell, _⟩ := Kd.R_celln 0 HO2.out (r : Int) (by omega) (by omega)
          have hcell' : w2.cell? ⟨g, r, none⟩ = some (.int .i64 ((sortI l).getD r 0)) := by rw [Int.toNat_natCast] at hcell; exact hcell
          have HCV := Aside0.mk (show Ending.returned (.tuple #[.int .i64 ((sortI l).getD r 0), .int .i64 0]) = Ending.returned (.tuple #[.int .i64 (quantN l (q' : Int)), .int .i64 (quantE l (q' : Int))]) by rw [HN.out, HQ.out, HK.out])
          obtain ⟨z, hz⟩ : ∃ z, (sortI l).getD r 0 = z := ⟨_, rfl⟩
          rw [hz] at hcell' HCV
          have hr2 : ((p : Int) + 10000 - 1) / 10000 - 1 = (r : Int) := hr1.symm
          clear hcell hz hrk hr1 hr0
          go_wp2_with fail
          go_ret2
          exact ⟨HCV.out, HB2.out⟩

end Go.Proofs.Ytenmlkcjgefmpaa
