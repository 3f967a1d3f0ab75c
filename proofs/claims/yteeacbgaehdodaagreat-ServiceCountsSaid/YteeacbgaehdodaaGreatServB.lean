/- Contracts of service's outcome, Judge and Verdict. The contract of service's Transit. -/
import Derived.Test.YteeacbgaehdodaaGreatSentC
namespace Go.Proofs.YteeacbgaehdodaaGreat
set_option linter.unusedVariables false
open Go Go.RowKit Go.Shelf Go.Lib Go.Proofs.YteeacbgaehdodaaGreatW.PrintWords Go.Proofs.YteeacbgaehdodaaGreatW.PrintLast Go.Proofs.YteeacbgaehdodaaGreatW.PrintMore Go.Proofs.YteeacbgaehdodaaGreat.Fn

def timedB (now : Int) : Bool := decide (0 ≤ now ∧ now ≤ 1051898399)
def delivB (x : SX) (now : Int) : Bool := decide (0 ≤ x.f5 ∧ x.f5 ≤ now)
def outcomeR (l : List SS) (x : SX) (now : Int) : Int :=
  if (promR l x.f1 x.f2 x.f3 x.f4).2 ≠ 0 then 4 else
  if (promR l x.f1 x.f2 x.f3 x.f4).1 < (if delivB x now = true then x.f5 else now) then 3 else
  if delivB x now = true then 2 else 1

theorem timed_calls (now : Int) (w : World) : Calls Tryz.prog 36 #[.int .i64 now] w fun e w' => e = .returned (.bool (timedB now)) ∧ Drawn0 w w' := by
  refine service_timed.calls now _ w ?_
  unfold service_timed.f timedB
  by_cases h : now ≥ 0
  · rw [if_pos h]; congr 1; rw [decide_eq_decide]; omega
  · rw [if_neg h]; congr 1; symm; rw [decide_eq_false_iff_not]; omega
theorem deliv_calls (x : SX) (now : Int) (w : World) : Calls Tryz.prog 43 #[aggX x, .int .i64 now] w fun e w' => e = .returned (.bool (delivB x now)) ∧ Below w.heap.size w w' := by
  refine service_delivered.calls x.f0 x.f1 x.f2 x.f3 x.f4 x.f5 now _ w ?_
  unfold service_delivered.f delivB
  by_cases h : x.f5 ≥ 0
  · rw [if_pos h]; congr 1; rw [decide_eq_decide]; omega
  · rw [if_neg h]; congr 1; symm; rw [decide_eq_false_iff_not]; omega

/-- The box of an item. -/
def BoxX (W : World) (g : Nat) (x : SX) : Prop := g < W.heap.size ∧ ∀ k v, (encX x)[k]? = some v → W.cell? ⟨g, k, none⟩ = some v
theorem BoxX.below {W W' : World} {g : Nat} {x : SX} (h : BoxX W g x) (hb : Below W.heap.size W W') : BoxX W' g x :=
  ⟨Nat.lt_of_lt_of_le h.1 hb.size, fun k v hv => (hb.cell (p := ⟨g, k, none⟩) h.1).trans (h.2 k v hv)⟩
theorem BoxX.mk (w : World) (a b c d p q : Int) (e : Nat) : BoxX (w.alloc (.cells #[.int .i64 a, .int .u8 b, .int .i64 c, .int .i64 d, .int .i64 p, .int .i64 q] e)) w.heap.size ⟨a, b, c, d, p, q⟩ :=
  ⟨by simp, fun k v hv => box_cell w _ e k v (by rw [← hv]; simp [encX])⟩

set_option maxHeartbeats 4000000 in
set_option maxRecDepth 100000 in
theorem outcome_calls {v : Value} (l : List SS) (x : SX) (now : Int) (w : World) (hv : IsS w v l) (ha0 : -9223372036854775808 ≤ x.f4) (ha1 : x.f4 ≤ 9223372036854775807) :
    Calls Tryz.prog 39 #[v, aggX x, .int .i64 now] w fun e w' => e = .returned (.int .u8 (outcomeR l x now)) ∧ Below w.heap.size w w' := by
  have HP := Aside0.mk (fun W (h : Below w.heap.size w W) => Promise_calls l x.f1 x.f2 x.f3 x.f4 W (hv.below h) ha0 ha1)
  have HD := Aside0.mk (fun W => deliv_calls x now W)
  obtain ⟨A, cc, rfl, hc, hr⟩ := hv
  clear hc hr ha0 ha1
  have EO : Aside0 (outcomeR l x now = if (promR l x.f1 x.f2 x.f3 x.f4).2 ≠ 0 then 4 else if (promR l x.f1 x.f2 x.f3 x.f4).1 < (if delivB x now = true then x.f5 else now) then 3 else if delivB x now = true then 2 else 1) := ⟨rfl⟩
  generalize outcomeR l x now = out at *
  generalize promR l x.f1 x.f2 x.f3 x.f4 = pr at *
  generalize delivB x now = dl at *
  obtain ⟨p, pe⟩ := pr
  obtain ⟨a, b, c, d, e5, e6⟩ := x
  unfold aggX at HD
  show Calls Tryz.prog 39 #[.slice A l.length cc, .agg #[.int .i64 a, .int .u8 b, .int .i64 c, .int .i64 d, .int .i64 e5, .int .i64 e6], .int .i64 now] w _
  have HP : Aside0 (∀ W, Below w.heap.size w W → Calls Tryz.prog 78 #[.slice A l.length cc, .int .u8 b, .int .i64 c, .int .i64 d, .int .i64 e5] W fun e w' => e = .returned (.tuple #[.int .i64 p, .int .i64 pe]) ∧ Below W.heap.size W w') := HP
  have EO : Aside0 (out = if pe ≠ 0 then 4 else if p < (if dl = true then e6 else now) then 3 else if dl = true then 2 else 1) := EO
  have HBX := Aside0.mk (BoxX.mk w a b c d e5 e6 35)
  have aE := Tryz.isAgg35
  have zE := Tryz.sizeOf35
  go_enter Tryz.func39, Tryz.ntmps39
  go_wp2_with fail
  refine (HP.out _ (below_alloc (Below.refl _ _) _)).mono ?_
  rintro e w1 ⟨rfl, b_⟩
  have HB := Aside0.mk (below_step (below_alloc (Below.refl w.heap.size w) _) b_)
  have HBX1 := Aside0.mk (HBX.out.below b_)
  clear b_ HBX
  generalize w.heap.size = g at HBX1 ⊢
  have k0 : w1.cell? ⟨g, 0, none⟩ = some (.int .i64 a) := HBX1.out.2 0 _ rfl
  have k1 : w1.cell? ⟨g, 1, none⟩ = some (.int .u8 b) := HBX1.out.2 1 _ rfl
  have k2 : w1.cell? ⟨g, 2, none⟩ = some (.int .i64 c) := HBX1.out.2 2 _ rfl
  have k3 : w1.cell? ⟨g, 3, none⟩ = some (.int .i64 d) := HBX1.out.2 3 _ rfl
  have k4 : w1.cell? ⟨g, 4, none⟩ = some (.int .i64 e5) := HBX1.out.2 4 _ rfl
  have k5 : w1.cell? ⟨g, 5, none⟩ = some (.int .i64 e6) := HBX1.out.2 5 _ rfl
  go_wp2_with fail
  refine (HD.out _).mono ?_
  rintro e w2 ⟨rfl, b_⟩
  have HB2 := Aside0.mk (below_step HB.out b_)
  have HBX2 := Aside0.mk (HBX1.out.below b_)
  clear b_ k0 k1 k2 k3 k4 k5
  have k0 : w2.cell? ⟨g, 0, none⟩ = some (.int .i64 a) := HBX2.out.2 0 _ rfl
  have k1 : w2.cell? ⟨g, 1, none⟩ = some (.int .u8 b) := HBX2.out.2 1 _ rfl
  have k2 : w2.cell? ⟨g, 2, none⟩ = some (.int .i64 c) := HBX2.out.2 2 _ rfl
  have k3 : w2.cell? ⟨g, 3, none⟩ = some (.int .i64 d) := HBX2.out.2 3 _ rfl
  have k4 : w2.cell? ⟨g, 4, none⟩ = some (.int .i64 e5) := HBX2.out.2 4 _ rfl
  have k5 : w2.cell? ⟨g, 5, none⟩ = some (.int .i64 e6) := HBX2.out.2 5 _ rfl
  by_cases hpe : pe = 0
  · subst hpe
    cases dl
    · by_cases hlt : p < now
      · go_wp2_with fail
        go_ret
        exact ⟨by rw [EO.out]; simp [hlt], HB2.out⟩
      · have hlt' : decide (p < now) = false := decide_eq_false hlt
        go_wp2_with fail
        refine (HD.out _).mono ?_
        rintro e w3 ⟨rfl, b_⟩
        have HB3 := Aside0.mk (below_step HB2.out b_)
        clear b_ k0 k1 k2 k3 k4 k5
        go_wp2_with fail
        go_ret
        exact ⟨by rw [EO.out]; simp [hlt], HB3.out⟩
    · by_cases hlt : p < e6
      · go_wp2_with fail
        go_ret
        exact ⟨by rw [EO.out]; simp [hlt], HB2.out⟩
      · have hlt' : decide (p < e6) = false := decide_eq_false hlt
        go_wp2_with fail
        refine (HD.out _).mono ?_
        rintro e w3 ⟨rfl, b_⟩
        have HB3 := Aside0.mk (below_step HB2.out b_)
        clear b_ k0 k1 k2 k3 k4 k5
        go_wp2_with fail
        go_ret
        exact ⟨by rw [EO.out]; simp [hlt], HB3.out⟩
  · have hpe' : (pe == 0) = false := by rw [beq_eq_false_iff_ne]; exact hpe
    cases dl
    · go_wp2_with fail
      go_ret
      exact ⟨by rw [EO.out]; simp [hpe], HB2.out⟩
    · go_wp2_with fail
      go_ret
      exact ⟨by rw [EO.out]; simp [hpe], HB2.out⟩

/-! ### Judge -/
def judgeR (l : List SS) (x : SX) (now : Int) : Int × Int := if timedB now = true ∧ rightL l = true ∧ sentR [x] = true then (outcomeR l x now, 0) else (0, 2)

theorem rightX_parts {x : SX} (h : rightX x = true) : 0 < x.f1 ∧ (1 ≤ x.f0 ∧ x.f0 ≤ 999999) ∧ (1 ≤ x.f2 ∧ x.f2 ≤ 999999) ∧ (1 ≤ x.f3 ∧ x.f3 ≤ 999999) ∧ (0 ≤ x.f4 ∧ x.f4 ≤ 1051898399) ∧ (x.f5 = -1 ∨ (x.f4 ≤ x.f5 ∧ x.f5 ≤ 1051898399)) := by
  unfold rightX outB at h
  simp at h
  omega
theorem sentR_parts {l : List SX} (h : sentR l = true) : l.length ≤ 2000 ∧ (∀ x ∈ l, rightX x = true) ∧ (l.map fun x => x.f0).Nodup := by
  unfold sentR at h
  rw [Bool.and_eq_true, Bool.and_eq_true, decide_eq_true_eq, List.all_eq_true, decide_eq_true_eq] at h
  exact ⟨h.1, h.2.1, h.2.2⟩
theorem isX_one (W : World) (g e : Nat) (a b c d p q : Int) (hg : W.heap.size = g) : IsX (W.alloc (.cells #[.int .i64 a, .int .u8 b, .int .i64 c, .int .i64 d, .int .i64 p, .int .i64 q] e)) (.slice (some ⟨g, 0, none⟩) 1 1) [⟨a, b, c, d, p, q⟩] := by
  subst hg
  refine ⟨_, 1, rfl, Nat.le_refl _, C_of_cells (by simp) (fun i hi k v hk => ?_)⟩
  obtain rfl : i = 0 := by simpa using hi
  rw [show 0 + 0 * 6 + k = k by omega]
  exact box_cell W _ e k v (by rw [← hk]; simp [encX])

set_option maxHeartbeats 4000000 in
set_option maxRecDepth 100000 in
theorem Judge_calls {v : Value} (l : List SS) (x : SX) (now : Int) (w : World) (hv : IsS w v l) :
    Calls Tryz.prog 16 #[v, aggX x, .int .i64 now] w fun e w' => e = .returned (.tuple #[.int .u8 (judgeR l x now).1, .int .i64 (judgeR l x now).2]) ∧ Below w.heap.size w w' := by
  have HT := Aside0.mk (fun W => timed_calls now W)
  have HRC := Aside0.mk (fun W (h : Below w.heap.size w W) => RightS_calls l W (hv.below h))
  have HO := Aside0.mk (fun W (h : Below w.heap.size w W) (ha : 0 ≤ x.f4 ∧ x.f4 ≤ 1051898399) => outcome_calls l x now W (hv.below h) (by omega) (by omega))
  obtain ⟨A, cc, rfl, hc, hr⟩ := hv
  clear hc hr
  have EJ : Aside0 (judgeR l x now = if timedB now = true ∧ rightL l = true ∧ sentR [x] = true then (outcomeR l x now, 0) else (0, 2)) := ⟨rfl⟩
  have hx4 : sentR [x] = true → 0 ≤ x.f4 ∧ x.f4 ≤ 1051898399 := fun h => (rightX_parts ((sentR_parts h).2.1 x (by simp))).2.2.2.2.1
  generalize judgeR l x now = out at *
  generalize timedB now = tm at *
  generalize rightL l = rl at *
  generalize outcomeR l x now = oc at *
  obtain ⟨a, b, c, d, p, q⟩ := x
  have HX := Aside0.mk (fun (W : World) (g : Nat) (h : W.heap.size = g) => RightSent_calls [(⟨a, b, c, d, p, q⟩ : SX)] _ (isX_one W g 35 a b c d p q h) (by simp) (by simp))
  generalize sentR [(⟨a, b, c, d, p, q⟩ : SX)] = sr at *
  unfold aggX at HO
  have HO : Aside0 (∀ W, Below w.heap.size w W → 0 ≤ p ∧ p ≤ 1051898399 → Calls Tryz.prog 39 #[.slice A l.length cc, .agg #[.int .i64 a, .int .u8 b, .int .i64 c, .int .i64 d, .int .i64 p, .int .i64 q], .int .i64 now] W fun e w' => e = .returned (.int .u8 oc) ∧ Below W.heap.size W w') := HO
  have hx4 : sr = true → 0 ≤ p ∧ p ≤ 1051898399 := hx4
  have HX4 := Aside0.mk hx4
  clear hx4
  show Calls Tryz.prog 16 #[.slice A l.length cc, .agg #[.int .i64 a, .int .u8 b, .int .i64 c, .int .i64 d, .int .i64 p, .int .i64 q], .int .i64 now] w _
  have HBX := Aside0.mk (BoxX.mk w a b c d p q 35)
  have aE := Tryz.isAgg35
  have zE := Tryz.sizeOf35
  go_enter Tryz.func16, Tryz.ntmps16
  go_wp2_with fail
  refine (HT.out _).mono ?_
  rintro e w1 ⟨rfl, d_⟩
  have HB := Aside0.mk (below_step (below_alloc (Below.refl w.heap.size w) _) (drawn_below d_))
  have HBX1 := Aside0.mk (HBX.out.below (drawn_below d_))
  clear d_ HBX
  cases tm
  · go_wp2_with fail
    go_ret2
    exact ⟨by rw [EJ.out]; rfl, HB.out⟩
  · go_wp2_with fail
    refine (HRC.out _ HB.out).mono ?_
    rintro e w2 ⟨rfl, b_⟩
    have HB2 := Aside0.mk (below_step HB.out b_)
    have HBX2 := Aside0.mk (HBX1.out.below b_)
    clear b_ HBX1
    cases rl
    · go_wp2_with fail
      go_ret2
      exact ⟨by rw [EJ.out]; rfl, HB2.out⟩
    · obtain ⟨g, hg⟩ : ∃ g, g = w.heap.size := ⟨_, rfl⟩
      rw [← hg] at HBX2
      have k0 : w2.cell? ⟨g, 0, none⟩ = some (.int .i64 a) := HBX2.out.2 0 _ rfl
      have k1 : w2.cell? ⟨g, 1, none⟩ = some (.int .u8 b) := HBX2.out.2 1 _ rfl
      have k2 : w2.cell? ⟨g, 2, none⟩ = some (.int .i64 c) := HBX2.out.2 2 _ rfl
      have k3 : w2.cell? ⟨g, 3, none⟩ = some (.int .i64 d) := HBX2.out.2 3 _ rfl
      have k4 : w2.cell? ⟨g, 4, none⟩ = some (.int .i64 p) := HBX2.out.2 4 _ rfl
      have k5 : w2.cell? ⟨g, 5, none⟩ = some (.int .i64 q) := HBX2.out.2 5 _ rfl
      rw [hg] at k0 k1 k2 k3 k4 k5
      go_wp2_with fail
      refine (HX.out _ _ rfl).mono ?_
      rintro e w3 ⟨rfl, b_⟩
      have HB3 := Aside0.mk (below_step (below_alloc HB2.out _) b_)
      have HBX3 := Aside0.mk ((HBX2.out.below (below_alloc (Below.refl _ _) _)).below b_)
      clear b_ k0 k1 k2 k3 k4 k5
      rw [hg] at HBX3
      clear hg HBX2
      cases sr
      · go_wp2_with fail
        go_ret2
        exact ⟨by rw [EJ.out]; rfl, HB3.out⟩
      · have k0 : w3.cell? ⟨w.heap.size, 0, none⟩ = some (.int .i64 a) := HBX3.out.2 0 _ rfl
        have k1 : w3.cell? ⟨w.heap.size, 1, none⟩ = some (.int .u8 b) := HBX3.out.2 1 _ rfl
        have k2 : w3.cell? ⟨w.heap.size, 2, none⟩ = some (.int .i64 c) := HBX3.out.2 2 _ rfl
        have k3 : w3.cell? ⟨w.heap.size, 3, none⟩ = some (.int .i64 d) := HBX3.out.2 3 _ rfl
        have k4 : w3.cell? ⟨w.heap.size, 4, none⟩ = some (.int .i64 p) := HBX3.out.2 4 _ rfl
        have k5 : w3.cell? ⟨w.heap.size, 5, none⟩ = some (.int .i64 q) := HBX3.out.2 5 _ rfl
        go_wp2_with fail
        refine (HO.out _ HB3.out (by simpa using HX4.out)).mono ?_
        rintro e w4 ⟨rfl, b_⟩
        have HB4 := Aside0.mk (below_step HB3.out b_)
        clear b_ k0 k1 k2 k3 k4 k5
        go_wp2_with fail
        go_ret2
        exact ⟨by rw [EJ.out]; rfl, HB4.out⟩

/-! ### Verdict -/
def verdictR (least greatest target : Int) : Int × Int := if target < 0 ∨ target > 10000 then (0, 2) else if least ≥ target then (1, 0) else if greatest < target then (2, 0) else (3, 0)
theorem verdict_fn (a b c d e f g least greatest target : Int) : service_Verdict.f 1 a b c d e f g least greatest target = some (verdictR least greatest target) := by
  unfold service_Verdict.f verdictR
  by_cases h1 : target < 0
  · rw [if_pos h1, if_pos (.inl h1)]; rfl
  · rw [if_neg h1]
    by_cases h2 : target > 10000
    · rw [if_pos (.inr h2), decide_eq_true h2]; rfl
    · rw [if_neg (by omega), decide_eq_false h2]
      simp only [service_Verdict.j0]
      rw [if_neg (by decide)]
      split
      · rfl
      · split <;> rfl
theorem Verdict_calls (a b c d e f g least greatest target : Int) (w : World) :
    Calls Tryz.prog 20 #[.agg #[.int .u8 a, .int .i64 b, .int .i64 c, .int .i64 d, .int .i64 e, .int .i64 f, .int .i64 g, .int .i64 least, .int .i64 greatest], .int .i64 target] w fun en w' => en = .returned (.tuple #[.int .u8 (verdictR least greatest target).1, .int .i64 (verdictR least greatest target).2]) ∧ Below w.heap.size w w' :=
  service_Verdict.calls 1 a b c d e f g least greatest target _ _ w (verdict_fn a b c d e f g least greatest target)

end Go.Proofs.YteeacbgaehdodaaGreat

namespace Go.Proofs.YteeacbgaehdodaaGreat
set_option linter.unusedVariables false
open Go Go.RowKit Go.Shelf Go.Lib Go.Proofs.YteeacbgaehdodaaGreatW.PrintWords Go.Proofs.YteeacbgaehdodaaGreatW.PrintLast Go.Proofs.YteeacbgaehdodaaGreatW.PrintMore Go.Proofs.YteeacbgaehdodaaGreat.Fn

def pickB (cls f t now : Int) (x : SX) : Bool := decide (x.f1 = cls) && (decide (x.f2 = f) && (decide (x.f3 = t) && delivB x now))
def minutesR (cls f t now : Int) (l : List SX) : List Int := (l.filter (pickB cls f t now)).map fun x => x.f5 - x.f4
def transitR (l : List SX) (cls f t now q : Int) : Int × Int :=
  if timedB now = true ∧ 0 ≤ q ∧ q ≤ 10000 ∧ sentR l = true then (quantN (minutesR cls f t now l) q, quantE (minutesR cls f t now l) q) else (0, 2)

theorem minutes_succ (cls f t now : Int) (l : List SX) {j : Nat} (h : j < l.length) : minutesR cls f t now (l.take (j + 1)) = minutesR cls f t now (l.take j) ++ (if pickB cls f t now (l.getD j zX) = true then [(l.getD j zX).f5 - (l.getD j zX).f4] else []) := by
  have e : l.getD j zX = l[j] := by rw [List.getD_eq_getElem?_getD, List.getElem?_eq_getElem h]; rfl
  unfold minutesR
  rw [List.take_succ_eq_append_getElem h, List.filter_append, List.map_append, e]
  congr 1
  by_cases hp : pickB cls f t now l[j] = true
  · rw [if_pos hp, List.filter_cons_of_pos hp]; rfl
  · rw [if_neg hp, List.filter_cons_of_neg hp]; rfl
theorem minutes_len (cls f t now : Int) (l : List SX) : (minutesR cls f t now l).length ≤ l.length := by
  unfold minutesR
  rw [List.length_map]; exact List.length_filter_le _ _

set_option maxHeartbeats 8000000 in
set_option maxRecDepth 100000 in
theorem Transit_calls {v : Value} (l : List SX) (cls f t now q : Int) (w : World) (hv : IsX w v l) (h0 : 0 < l.length) (hl : l.length ≤ 100000) :
    Calls Tryz.prog 19 #[v, .int .u8 cls, .int .i64 f, .int .i64 t, .int .i64 now, .int .i64 q] w fun e w' => e = .returned (.tuple #[.int .i64 (transitR l cls f t now q).1, .int .i64 (transitR l cls f t now q).2]) ∧ Below w.heap.size w w' := by
  have HT := Aside0.mk (fun W => timed_calls now W)
  have HS := Aside0.mk (fun W (h : Below w.heap.size w W) => RightSent_calls l W (hv.below h) h0 hl)
  have HV := Aside0.mk hv
  obtain ⟨A, cc, rfl, hc, hr⟩ := hv
  clear hc hr
  have ET : Aside0 (transitR l cls f t now q = if timedB now = true ∧ 0 ≤ q ∧ q ≤ 10000 ∧ sentR l = true then (quantN (minutesR cls f t now l) q, quantE (minutesR cls f t now l) q) else (0, 2)) := ⟨rfl⟩
  have HSP := Aside0.mk (fun h : sentR l = true => (sentR_parts h).2.1)
  generalize transitR l cls f t now q = out at *
  generalize timedB now = tm at *
  generalize sentR l = sr at *
  go_enter Tryz.func19, Tryz.ntmps19
  go_wp2_with fail
  refine (HT.out _).mono ?_
  rintro e w1 ⟨rfl, d_⟩
  have HB := Aside0.mk (drawn_below d_)
  clear d_
  cases tm
  · go_wp2_with fail
    go_ret2
    exact ⟨by rw [ET.out]; rfl, HB.out⟩
  · by_cases hq0 : q < 0
    · go_wp2_with fail
      go_ret2
      exact ⟨by rw [ET.out, if_neg (by omega)]; rfl, HB.out⟩
    · have hq0' : decide (q < 0) = false := decide_eq_false hq0
      by_cases hq1 : q > 10000
      · go_wp2_with fail
        go_ret2
        exact ⟨by rw [ET.out, if_neg (by omega)]; rfl, HB.out⟩
      · have hq1' : decide (10000 < q) = false := decide_eq_false (by omega)
        go_wp2_with fail
        refine (HS.out _ HB.out).mono ?_
        rintro e w2 ⟨rfl, b_⟩
        have HB2 := Aside0.mk (below_step HB.out b_)
        clear b_
        cases sr
        · go_wp2_with fail
          go_ret2
          exact ⟨by rw [ET.out]; simp, HB2.out⟩
        · have ET2 : Aside0 (out = (quantN (minutesR cls f t now l) q, quantE (minutesR cls f t now l) q)) := ⟨by rw [ET.out, if_pos (by simp; omega)]⟩
          have HRX := Aside0.mk (HSP.out rfl)
          clear ET HSP HS HT
          have HR2 := Aside0.mk (HV.out.below HB2.out).reads
          obtain ⟨b, off, rfl, hbl⟩ := X_plain HR2.out h0
          go_wp2_with fail
          go_loopw [35, 14] (fun v35 v14 W => ∃ j : Nat, j ≤ l.length ∧ v35 = .int .i64 j ∧ Aside0 (Kd.R (Kd.int .i64) 3 W w.heap.size (fun _ => True) v14 (minutesR cls f t now (l.take j))) ∧ Aside0 (Below w.heap.size w W) ∧ Aside0 (Kd.C k35 W (some ⟨b, off, none⟩) l.length l)) (fun v35 _ _ => l.length - (intOf v35).toNat)
          case atStart => exact ⟨0, by omega, rfl, ⟨Kd.R_nil _ _ _ _ _⟩, HB2, HR2⟩
          case round =>
            obtain ⟨j, hj, rfl, HO, HB, HR⟩ := hrel
            by_cases hj3 : j < l.length
            · have hx4 := X_cells HR.out hj3
              have hxr := rightX_parts (HRX.out (l.getD j zX) (by rw [List.getD_eq_getElem?_getD, List.getElem?_eq_getElem hj3]; exact List.getElem_mem hj3))
              have HM := Aside0.mk (minutes_succ cls f t now l hj3)
              obtain ⟨x, hx⟩ : ∃ x, x = l.getD j zX := ⟨_, rfl⟩
              rw [← hx] at hx4 hxr HM
              have x0 : wr.cell? ⟨b, off + j * 6, none⟩ = some (.int .i64 x.f0) := hx4 0 _ rfl
              have x1 : wr.cell? ⟨b, off + j * 6 + 1, none⟩ = some (.int .u8 x.f1) := hx4 1 _ rfl
              have x2 : wr.cell? ⟨b, off + j * 6 + 2, none⟩ = some (.int .i64 x.f2) := hx4 2 _ rfl
              have x3 : wr.cell? ⟨b, off + j * 6 + 3, none⟩ = some (.int .i64 x.f3) := hx4 3 _ rfl
              have x4 : wr.cell? ⟨b, off + j * 6 + 4, none⟩ = some (.int .i64 x.f4) := hx4 4 _ rfl
              have x5 : wr.cell? ⟨b, off + j * 6 + 5, none⟩ = some (.int .i64 x.f5) := hx4 5 _ rfl
              clear hx4 hx
              have HD := Aside0.mk (fun W => deliv_calls x now W)
              obtain ⟨xa, xb, xc, xd, xp, xq⟩ := x
              unfold aggX at HD
              have hpB : ∀ z : Bool, pickB cls f t now ⟨xa, xb, xc, xd, xp, xq⟩ = z → Aside0 (minutesR cls f t now (l.take (j + 1)) = minutesR cls f t now (l.take j) ++ (if z = true then [xq - xp] else [])) := fun z hz => ⟨by rw [HM.out, hz]⟩
              have HPB := Aside0.mk hpB
              clear hpB HM
              obtain ⟨wa, hwa⟩ : ∃ wa, wa = wr.alloc (.cells #[.int .i64 xa, .int .u8 xb, .int .i64 xc, .int .i64 xd, .int .i64 xp, .int .i64 xq] 35) := ⟨_, rfl⟩
              have HOa : Aside0 (Kd.R (Kd.int .i64) 3 wa w.heap.size (fun _ => True) u14 (minutesR cls f t now (l.take j))) := ⟨by rw [hwa]; exact Kd.R_alloc HO.out _⟩
              have HBa : Aside0 (Below w.heap.size w wa) := ⟨by rw [hwa]; exact below_alloc HB.out _⟩
              have HRa : Aside0 (Kd.C k35 wa (some ⟨b, off, none⟩) l.length l) := ⟨by rw [hwa]; exact Kd.C_below HR.out (below_alloc (Below.refl _ _) _)⟩
              have HXa : Aside0 (BoxX wa wr.heap.size ⟨xa, xb, xc, xd, xp, xq⟩) := ⟨by rw [hwa]; exact BoxX.mk wr xa xb xc xd xp xq _⟩
              have HWA := Aside0.mk hwa
              clear hwa
              by_cases n1 : xb = cls
              · by_cases n2 : xc = f
                · by_cases n3 : xd = t
                  · obtain ⟨dl, hdl⟩ : ∃ dl, dl = delivB ⟨xa, xb, xc, xd, xp, xq⟩ now := ⟨_, rfl⟩
                    rw [← hdl] at HD
                    have HP := HPB.out dl (by unfold pickB; rw [decide_eq_true n1, decide_eq_true n2, decide_eq_true n3, ← hdl]; simp)
                    have hdl2 : dl = true → 0 ≤ xq ∧ xq ≤ now := fun h => by rw [hdl] at h; unfold delivB at h; simpa using h
                    have HDL := Aside0.mk hdl2
                    clear hdl hdl2
                    subst n1 n2 n3
                    go_wp2_with fail
                    rw [← HWA.out]
                    refine (HD.out _).mono ?_
                    rintro e w3 ⟨rfl, b_⟩
                    have HO3 := Aside0.mk (Kd.R_below HOa.out b_)
                    have HB3 := Aside0.mk (below_step HBa.out b_)
                    have HR3 := Aside0.mk (Kd.C_below HRa.out b_)
                    have HX3 := Aside0.mk (HXa.out.below b_)
                    clear b_
                    cases dl
                    · go_wp2_with fail
                      have HO2 : Aside0 (Kd.R (Kd.int .i64) 3 w3 w.heap.size (fun _ => True) u14 (minutesR xb xc xd now (l.take (j + 1)))) := ⟨by rw [HP.out]; simpa using HO3.out⟩
                      go_roundw
                      case rel => exact ⟨j + 1, by omega, by go_num, HO2, HB3, HR3⟩
                      case measure => simp [intOf]; omega
                    · have hd := HDL.out rfl
                      have k4 : w3.cell? ⟨wr.heap.size, 4, none⟩ = some (.int .i64 xp) := HX3.out.2 4 _ rfl
                      have k5 : w3.cell? ⟨wr.heap.size, 5, none⟩ = some (.int .i64 xq) := HX3.out.2 5 _ rfl
                      have hx5 : 0 ≤ xp ∧ xp ≤ 1051898399 := hxr.2.2.2.2.1
                      have hx6 : xq ≤ 1051898399 := by
                        rcases hxr.2.2.2.2.2 with h | h
                        · have h : xq = -1 := h
                          omega
                        · exact h.2
                      have HLEN := Aside0.mk (minutes_len xb xc xd now (l.take j))
                      clear hxr
                      go_wp2_with (first
                        | ((with_reducible refine gate_builtin (b := .append) (xs := #[.tmp 60, .tmp 66]) rfl ?_); at_builtin; refine Kd.R_append (Kd.int .i64) (w0 := w) w.heap.size rfl (.tmp 60) (.tmp 66) 67 3 (.int .i64 0) 8 rfl Tryz.underlying67 info3 rfl (by decide) (by omega) u14 (minutesR xb xc xd now (l.take j)) (xq - xp) [.int .i64 (xq - xp)] (fun _ => True) (fun _ => False) rfl rfl ?aP (fun _ hk => hk.elim) ?aF ?aO ?aB ?aS ?aL ?_; (case aP => exact rfl); (case aB => exact HB3.out); (case aF => exact (fun _ _ => trivial)); (case aO => exact HO3.out); (case aS => exact HB3.out.size); (case aL => have := HLEN.out; rw [List.length_take] at this; omega); intro v4 w4 ho hb hg hat; have HO4 : Aside0 (Kd.R (Kd.int .i64) 3 w4 w.heap.size (fun _ => True) v4 (minutesR xb xc xd now (l.take (j + 1)))) := ⟨by rw [HP.out]; simpa using ho⟩; have HB4 := Aside0.mk hb; have HR4 := Aside0.mk (show Kd.C k35 w4 (some ⟨b, off, none⟩) l.length l from Kd.C_below HV.out.reads hb); clear ho hb hg hat))
                      go_roundw
                      case rel => exact ⟨j + 1, by omega, by go_num, HO4, HB4, HR4⟩
                      case measure => simp [intOf]; omega
                  · have HP := HPB.out false (by unfold pickB; rw [decide_eq_false n3]; simp)
                    have n3b : (xd == t) = false := by rw [beq_eq_false_iff_ne]; exact n3
                    subst n1 n2
                    go_wp2_with fail
                    rw [← HWA.out]
                    have HO2 : Aside0 (Kd.R (Kd.int .i64) 3 wa w.heap.size (fun _ => True) u14 (minutesR xb xc t now (l.take (j + 1)))) := ⟨by rw [HP.out]; simpa using HOa.out⟩
                    go_roundw
                    case rel => exact ⟨j + 1, by omega, by go_num, HO2, HBa, HRa⟩
                    case measure => simp [intOf]; omega
                · have HP := HPB.out false (by unfold pickB; rw [decide_eq_false n2]; simp)
                  have n2b : (xc == f) = false := by rw [beq_eq_false_iff_ne]; exact n2
                  subst n1
                  go_wp2_with fail
                  rw [← HWA.out]
                  have HO2 : Aside0 (Kd.R (Kd.int .i64) 3 wa w.heap.size (fun _ => True) u14 (minutesR xb f t now (l.take (j + 1)))) := ⟨by rw [HP.out]; simpa using HOa.out⟩
                  go_roundw
                  case rel => exact ⟨j + 1, by omega, by go_num, HO2, HBa, HRa⟩
                  case measure => simp [intOf]; omega
              · have HP := HPB.out false (by unfold pickB; rw [decide_eq_false n1]; simp)
                have n1b : (xb == cls) = false := by rw [beq_eq_false_iff_ne]; exact n1
                go_wp2_with fail
                rw [← HWA.out]
                have HO2 : Aside0 (Kd.R (Kd.int .i64) 3 wa w.heap.size (fun _ => True) u14 (minutesR cls f t now (l.take (j + 1)))) := ⟨by rw [HP.out]; simpa using HOa.out⟩
                go_roundw
                case rel => exact ⟨j + 1, by omega, by go_num, HO2, HBa, HRa⟩
                case measure => simp [intOf]; omega
            · obtain rfl : j = l.length := by omega
              rw [List.take_length] at HO
              have HI : Aside0 (IsI wr u14 (minutesR cls f t now l)) := ⟨by
                obtain ⟨A, c, h1, h2, h3⟩ := Kd.R_reads HO.out
                exact ⟨A, c, h1, h2, h3⟩⟩
              go_wp2_with fail
              refine (Quantile_calls _ q _ HI.out).mono ?_
              rintro e w3 ⟨rfl, b_⟩
              have HB3 := Aside0.mk (below_step HB.out b_)
              clear b_
              go_wp2_with fail
              go_ret2
              exact ⟨by rw [ET2.out]; rfl, HB3.out⟩

end Go.Proofs.YteeacbgaehdodaaGreat
