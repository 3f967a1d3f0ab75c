/- Contracts of service's rows: compare, count. Rows of the call's own, told by their cells; the contract of count. count: an outcome's count in one row of the call's own. The map of measure: keys that are structs. The keys of rows: the two closures; rows by keys, told by counts. slices.SortFunc of rows of the call's own. Plain laws of rows by keys: rows in order are one list; sums over keys. -/
import Derived.Test.YteeacbgaehdodaaGreatServB
import Derived.Laws.OwnMore
import Derived.Maps.Own
import Derived.Maps.OwnOps
import Derived.Maps.OwnSet
import Derived.Maps.Views
import Derived.DeepKeys4
import Derived.DeepKeys5
import Derived.Test.YteeacbgaehdodaaGreatSentC
namespace Go.Proofs.YteeacbgaehdodaaGreat
set_option linter.unusedVariables false
open Go Go.RowKit Go.Shelf Go.Lib Go.Sort Go.Proofs.YteeacbgaehdodaaGreatW.PrintWords Go.Proofs.YteeacbgaehdodaaGreatW.PrintLast Go.Proofs.YteeacbgaehdodaaGreatW.PrintMore Go.Proofs.YteeacbgaehdodaaGreat.Fn

abbrev RR := S46
abbrev zR : RR := z46
def encR (x : RR) : List Value := [.int .u8 x.f0, .int .i64 x.f1, .int .i64 x.f2, .int .i64 x.f3, .int .i64 x.f4, .int .i64 x.f5, .int .i64 x.f6, .int .i64 x.f7, .int .i64 x.f8]
def aggR (x : RR) : Value := .agg #[.int .u8 x.f0, .int .i64 x.f1, .int .i64 x.f2, .int .i64 x.f3, .int .i64 x.f4, .int .i64 x.f5, .int .i64 x.f6, .int .i64 x.f7, .int .i64 x.f8]
def cmpR (x y : RR) : Int := or3 (cmpI3 x.f0 y.f0) (cmpI3 x.f1 y.f1) (cmpI3 x.f2 y.f2)

theorem three_grow (w : World) (a b c : Obj) (q k : Nat) : (((((w.alloc a).alloc b).drewN q).alloc c).drewN k) = Go.Sort.grow (w.drewN (q + k)) #[a, b, c] := by
  rw [Go.Sort.alloc_eq_grow, Go.Sort.alloc_eq_grow, Go.Sort.alloc_eq_grow]
  simp [Go.Sort.grow, World.drewN, Nat.add_assoc]
  refine ⟨?_, rfl, rfl⟩
  have e : (w.alloc a).heap = w.heap.push a := rfl
  rw [e]
  apply Array.ext'
  simp

set_option maxHeartbeats 1000000 in
set_option maxRecDepth 100000 in
theorem rowCmp_calls (x y : RR) (w : World) : Calls Tryz.prog 81 #[aggR x, aggR y] w fun e w' => e = .returned (.int .i64 (cmpR x y)) ∧ (∃ q os, w' = Go.Sort.grow (w.drewN q) os) := by
  obtain ⟨a0, a1, a2, a3, a4, a5, a6, a7, a8⟩ := x
  obtain ⟨b0, b1, b2, b3, b4, b5, b6, b7, b8⟩ := y
  show Calls Tryz.prog 81 #[.agg #[.int .u8 a0, .int .i64 a1, .int .i64 a2, .int .i64 a3, .int .i64 a4, .int .i64 a5, .int .i64 a6, .int .i64 a7, .int .i64 a8], .agg #[.int .u8 b0, .int .i64 b1, .int .i64 b2, .int .i64 b3, .int .i64 b4, .int .i64 b5, .int .i64 b6, .int .i64 b7, .int .i64 b8]] w fun e w' => e = .returned (.int .i64 (or3 (cmpI3 a0 b0) (cmpI3 a1 b1) (cmpI3 a2 b2))) ∧ (∃ q os, w' = Go.Sort.grow (w.drewN q) os)
  obtain ⟨w1, hw1⟩ : ∃ w1, w1 = (w.alloc (.cells #[.int .u8 a0, .int .i64 a1, .int .i64 a2, .int .i64 a3, .int .i64 a4, .int .i64 a5, .int .i64 a6, .int .i64 a7, .int .i64 a8] 46)).alloc (.cells #[.int .u8 b0, .int .i64 b1, .int .i64 b2, .int .i64 b3, .int .i64 b4, .int .i64 b5, .int .i64 b6, .int .i64 b7, .int .i64 b8] 46) := ⟨_, rfl⟩
  have hsz : w1.heap.size = w.heap.size + 1 + 1 := by rw [hw1]; simp
  have hA : ∀ k v, (#[Value.int .u8 a0, .int .i64 a1, .int .i64 a2, .int .i64 a3, .int .i64 a4, .int .i64 a5, .int .i64 a6, .int .i64 a7, .int .i64 a8] : Array Value)[k]? = some v → w1.cell? ⟨w.heap.size, k, none⟩ = some v := fun k v h => by
    rw [hw1]
    exact Lib.cell?_alloc_some _ (box_cell w _ _ k v h)
  have hBc : ∀ k v, (#[Value.int .u8 b0, .int .i64 b1, .int .i64 b2, .int .i64 b3, .int .i64 b4, .int .i64 b5, .int .i64 b6, .int .i64 b7, .int .i64 b8] : Array Value)[k]? = some v → w1.cell? ⟨w.heap.size + 1, k, none⟩ = some v := fun k v h => by
    have h2 := box_cell (w.alloc (.cells #[.int .u8 a0, .int .i64 a1, .int .i64 a2, .int .i64 a3, .int .i64 a4, .int .i64 a5, .int .i64 a6, .int .i64 a7, .int .i64 a8] 46)) _ 46 k v h
    rw [show (w.alloc (.cells #[.int .u8 a0, .int .i64 a1, .int .i64 a2, .int .i64 a3, .int .i64 a4, .int .i64 a5, .int .i64 a6, .int .i64 a7, .int .i64 a8] 46)).heap.size = w.heap.size + 1 by simp] at h2
    rw [hw1]; exact h2
  have ka0 : w1.cell? ⟨w.heap.size, 0, none⟩ = some (.int .u8 a0) := hA 0 _ rfl
  have ka1 : w1.cell? ⟨w.heap.size, 1, none⟩ = some (.int .i64 a1) := hA 1 _ rfl
  have ka2 : w1.cell? ⟨w.heap.size, 2, none⟩ = some (.int .i64 a2) := hA 2 _ rfl
  have kb0 : w1.cell? ⟨w.heap.size + 1, 0, none⟩ = some (.int .u8 b0) := hBc 0 _ rfl
  have kb1 : w1.cell? ⟨w.heap.size + 1, 1, none⟩ = some (.int .i64 b1) := hBc 1 _ rfl
  have kb2 : w1.cell? ⟨w.heap.size + 1, 2, none⟩ = some (.int .i64 b2) := hBc 2 _ rfl
  clear hA hBc
  have HW1 := Aside0.mk hw1
  go_enter Tryz.func81, Tryz.ntmps81
  go_wp2_with fail
  rw [← hw1]
  clear hw1
  have hlt0 : w.heap.size < w1.heap.size := by omega
  have hlt1 : w.heap.size + 1 < w1.heap.size := by omega
  generalize w.heap.size = g at *
  have HOR := Aside0.mk (fun (r0 r1 r2 : Int) (W : World) (g2 : Nat) (h : W.heap.size = g2) => (cmp_Or_int.calls 5 (some ⟨g2, 0, none⟩) 3 [r0, r1, r2] (or3 r0 r1 r2) (W.alloc (.cells #[.int .i64 r0, .int .i64 r1, .int .i64 r2] 3)) (by subst h; exact (isI_litN W 3 [r0, r1, r2] (by simp)).reads) (by simp) (or_fn r0 r1 r2)))
  go_region_held3 (fun W' => W'.cell? ⟨g, 0, none⟩ = some (.int .u8 a0) ∧ W'.cell? ⟨g, 1, none⟩ = some (.int .i64 a1) ∧ W'.cell? ⟨g, 2, none⟩ = some (.int .i64 a2) ∧ W'.cell? ⟨g + 1, 0, none⟩ = some (.int .u8 b0) ∧ W'.cell? ⟨g + 1, 1, none⟩ = some (.int .i64 b1) ∧ W'.cell? ⟨g + 1, 2, none⟩ = some (.int .i64 b2)) (go_keep)
    (first
      | (go_at_call 100; refine (cmp_Compare_uint8.calls _ _ _ _ (compare_u8_fn _ _)).mono ?_; rintro e w3 ⟨rfl, ⟨m1, rfl⟩⟩)
      | (go_at_call 74; refine (cmp_Compare_int.calls _ _ _ _ (compare_int_fn _ _)).mono ?_; rintro e w3 ⟨rfl, ⟨m2, rfl⟩⟩)
      | (go_at_call 99; refine (HOR.out (cmpI3 a0 b0) (cmpI3 a1 b1) (cmpI3 a2 b2) _ (g + 1 + 1) (by simp [hsz])).mono ?_; rintro e w3 ⟨rfl, ⟨m4, rfl⟩⟩))
  go_wp2_with fail
  go_ret
  refine ⟨rfl, ?_⟩
  rw [HW1.out]
  exact ⟨_, _, three_grow w _ _ _ _ _⟩

/-! ### the order of rows -/
theorem cmpR_cases (x y : RR) : (cmpR x y < 0 ↔ (x.f0 < y.f0 ∨ (x.f0 = y.f0 ∧ (x.f1 < y.f1 ∨ (x.f1 = y.f1 ∧ x.f2 < y.f2))))) := by
  unfold cmpR or3
  rcases cmpI3_cases x.f0 y.f0 with ⟨h, e⟩ | ⟨h, e⟩ | ⟨h, e⟩ <;> rw [e]
  · rw [if_neg (by decide)]; omega
  · rw [if_pos rfl]
    rcases cmpI3_cases x.f1 y.f1 with ⟨h', e'⟩ | ⟨h', e'⟩ | ⟨h', e'⟩ <;> rw [e']
    · rw [if_neg (by decide)]; omega
    · rw [if_pos rfl]
      rcases cmpI3_cases x.f2 y.f2 with ⟨h2, e2⟩ | ⟨h2, e2⟩ | ⟨h2, e2⟩ <;> rw [e2] <;> omega
    · rw [if_neg (by decide)]; omega
  · rw [if_neg (by decide)]; omega
theorem ltR (x y : RR) : ltOf cmpR x y = decide (x.f0 < y.f0 ∨ (x.f0 = y.f0 ∧ (x.f1 < y.f1 ∨ (x.f1 = y.f1 ∧ x.f2 < y.f2)))) := by
  unfold ltOf
  rw [decide_eq_decide]; exact cmpR_cases x y
theorem swoR : SWO (ltOf cmpR) where
  irrefl x := by rw [ltR]; simp
  trans x y z h1 h2 := by rw [ltR, decide_eq_true_eq] at *; omega
  ntrans x y z h1 h2 := by rw [ltR, decide_eq_false_iff_not] at *; omega

end Go.Proofs.YteeacbgaehdodaaGreat

namespace Go.Proofs.YteeacbgaehdodaaGreat
set_option linter.unusedVariables false
open Go Go.RowKit Go.Shelf Go.Lib Go.Sort Go.Proofs.YteeacbgaehdodaaGreatW.PrintWords Go.Proofs.YteeacbgaehdodaaGreatW.PrintLast Go.Proofs.YteeacbgaehdodaaGreatW.PrintMore Go.Proofs.YteeacbgaehdodaaGreat.Fn

local instance instR : Inhabited RR := ⟨zR⟩

def flatR (l : List RR) : List Value := (flatK encR 9 l.toArray).toList
theorem flatR_length (l : List RR) : (flatR l).length = l.length * 9 := by simp [flatR]
theorem flatR_get (l : List RR) {i k : Nat} (hi : i < l.length) (hk : k < 9) : (flatR l)[i * 9 + k]? = (encR (l.getD i zR))[k]? := by
  have hlt : i * 9 + k < l.toArray.size * 9 := by simp; omega
  have h := get_flatK encR 9 l.toArray (i * 9 + k) hlt
  have hd : (i * 9 + k) / 9 = i := by omega
  have hm : (i * 9 + k) % 9 = k := by omega
  rw [hd, hm] at h
  have hs : i * 9 + k < (flatK encR 9 l.toArray).size := by rw [size_flatK]; exact hlt
  unfold flatR
  rw [Array.getElem?_toList, Array.getElem?_eq_getElem hs]
  rw [getElem!_pos (flatK encR 9 l.toArray) (i * 9 + k) hs] at h
  rw [h]
  have he : l.toArray[i]! = l.getD i zR := by
    rw [getElem!_pos l.toArray i (by simpa using hi), List.getD_eq_getElem?_getD, List.getElem?_eq_getElem hi]; simp
  rw [he]
  have hlen : k < (encR (l.getD i zR)).length := hk
  rw [List.getElem?_eq_getElem hlen, getElem!_pos (encR (l.getD i zR)) k hlen]

/-- two flat rows that agree at each place are one -/
theorem flatR_ext {F : List Value} {l : List RR} (hl : F.length = l.length * 9) (h : ∀ i k, i < l.length → k < 9 → F[i * 9 + k]? = (encR (l.getD i zR))[k]?) : F = flatR l := by
  apply List.ext_getElem?
  intro t
  rcases Nat.lt_or_ge t (l.length * 9) with ht | ht
  · have h1 := h (t / 9) (t % 9) (by omega) (by omega)
    have h2 := flatR_get l (show t / 9 < l.length by omega) (show t % 9 < 9 by omega)
    rw [show t / 9 * 9 + t % 9 = t by omega] at h1 h2
    rw [h1, h2]
  · rw [List.getElem?_eq_none (by omega), List.getElem?_eq_none (by rw [flatR_length]; omega)]

theorem flatR_append (l : List RR) (x : RR) : flatR l ++ encR x = flatR (l ++ [x]) := by
  refine flatR_ext (by simp [flatR_length, encR]; omega) (fun i k hi hk => ?_)
  rw [List.length_append, List.length_singleton] at hi
  rcases Nat.lt_or_ge i l.length with h | h
  · rw [List.getElem?_append_left (by rw [flatR_length]; omega), flatR_get l h hk]
    rw [List.getD_eq_getElem?_getD, List.getD_eq_getElem?_getD, List.getElem?_append_left h]
  · obtain rfl : i = l.length := by omega
    rw [List.getElem?_append_right (by rw [flatR_length]; omega), flatR_length, Nat.add_sub_cancel_left]
    rw [List.getD_eq_getElem?_getD, List.getElem?_append_right (Nat.le_refl _), Nat.sub_self]; rfl

/-- one field of one row set anew -/
theorem flatR_set {l : List RR} {i k : Nat} (hi : i < l.length) (hk : k < 9) (u : Value) (y : RR) (hy : ∀ m, m < 9 → (encR y)[m]? = if m = k then some u else (encR (l.getD i zR))[m]?) : (flatR l).set (i * 9 + k) u = flatR (l.set i y) := by
  refine flatR_ext (by rw [List.length_set, flatR_length, List.length_set]) (fun j m hj hm => ?_)
  rw [List.length_set] at hj
  rw [List.getElem?_set]
  by_cases hji : j = i
  · subst hji
    have e : (l.set j y).getD j zR = y := by rw [List.getD_eq_getElem?_getD, List.getElem?_set_self hi]; rfl
    rw [e, hy m hm]
    by_cases hmk : m = k
    · subst hmk
      rw [if_pos rfl, if_pos rfl, if_pos (by rw [flatR_length]; omega)]
    · rw [if_neg (by omega), if_neg hmk, flatR_get l hj hm]
  · rw [if_neg (by omega), flatR_get l hj hm]
    have e : (l.set i y).getD j zR = l.getD j zR := by rw [List.getD_eq_getElem?_getD, List.getElem?_set_ne (by omega), ← List.getD_eq_getElem?_getD]
    rw [e]

/-- how an outcome counts -/
def countR (r : RR) (o : Int) : RR :=
  if o = 1 then { r with f5 := r.f5 + 1 } else if o = 4 then { r with f6 := r.f6 + 1 } else if o = 2 then { r with f3 := r.f3 + 1, f4 := r.f4 + 1 } else { r with f3 := r.f3 + 1 }

end Go.Proofs.YteeacbgaehdodaaGreat

namespace Go.Proofs.YteeacbgaehdodaaGreat
set_option linter.unusedVariables false
open Go Go.RowKit Go.Shelf Go.Lib Go.Sort Go.Proofs.YteeacbgaehdodaaGreatW.PrintWords Go.Proofs.YteeacbgaehdodaaGreatW.PrintLast Go.Proofs.YteeacbgaehdodaaGreatW.PrintMore Go.Proofs.YteeacbgaehdodaaGreat.Fn

/-- a row of rows, the call's own -/
def OwnR (w : World) (base : Nat) (v : Value) (l : List RR) : Prop := w.ownsRow base 46 9 v l.length (flatR l)

theorem OwnR.cell {w : World} {base g cap : Nat} {l : List RR} (h : OwnR w base (.slice (some ⟨g, 0, none⟩) l.length cap) l) {i k : Nat} (hi : i < l.length) (hk : k < 9) : w.cell? ⟨g, i * 9 + k, none⟩ = (encR (l.getD i zR))[k]? := by
  rw [World.ownsRow.cellAt h (i * 9 + k) (by omega), flatR_get l hi hk]
theorem OwnR.free {w : World} {base g cap : Nat} {l : List RR} (h : OwnR w base (.slice (some ⟨g, 0, none⟩) l.length cap) l) (j : Nat) : w.frozen? ⟨g, j, none⟩ = false := World.ownsRow.frozenAt h j
theorem OwnR.put {w : World} {base g cap : Nat} {l : List RR} (h : OwnR w base (.slice (some ⟨g, 0, none⟩) l.length cap) l) {i k : Nat} (hi : i < l.length) (hk : k < 9) (u : Value) (y : RR) (hy : ∀ m, m < 9 → (encR y)[m]? = if m = k then some u else (encR (l.getD i zR))[m]?) :
    OwnR (w.setCell ⟨g, i * 9 + k, none⟩ u) base (.slice (some ⟨g, 0, none⟩) l.length cap) (l.set i y) ∧ w.grownBy (w.setCell ⟨g, i * 9 + k, none⟩ u) (some g) := by
  obtain ⟨h1, h2⟩ := World.ownsRow.stored h (i * 9 + k) u
  refine ⟨?_, h2⟩
  rw [flatR_set hi hk u y hy] at h1
  unfold OwnR
  rw [List.length_set]; exact h1

set_option maxHeartbeats 1000000 in
set_option maxRecDepth 100000 in
theorem count_calls {base g cap : Nat} (l : List RR) (i : Nat) (o : Int) (w : World) (h : OwnR w base (.slice (some ⟨g, 0, none⟩) l.length cap) l) (hi : i < l.length)
    (h3 : 0 ≤ (l.getD i zR).f3 ∧ (l.getD i zR).f3 ≤ 100000) (h4 : 0 ≤ (l.getD i zR).f4 ∧ (l.getD i zR).f4 ≤ 100000) (h5 : 0 ≤ (l.getD i zR).f5 ∧ (l.getD i zR).f5 ≤ 100000) (h6 : 0 ≤ (l.getD i zR).f6 ∧ (l.getD i zR).f6 ≤ 100000) :
    Calls Tryz.prog 79 #[.pointer (some ⟨g, i * 9, none⟩), .int .u8 o] w fun e w' => e = .returned (.tuple #[]) ∧ OwnR w' base (.slice (some ⟨g, 0, none⟩) l.length cap) (l.set i (countR (l.getD i zR) o)) ∧ w.grownBy w' (some g) := by
  have k3 : w.cell? ⟨g, i * 9 + 3, none⟩ = some (.int .i64 (l.getD i zR).f3) := h.cell hi (by omega)
  have k4 : w.cell? ⟨g, i * 9 + 4, none⟩ = some (.int .i64 (l.getD i zR).f4) := h.cell hi (by omega)
  have k5 : w.cell? ⟨g, i * 9 + 5, none⟩ = some (.int .i64 (l.getD i zR).f5) := h.cell hi (by omega)
  have k6 : w.cell? ⟨g, i * 9 + 6, none⟩ = some (.int .i64 (l.getD i zR).f6) := h.cell hi (by omega)
  have f3 : w.frozen? ⟨g, i * 9 + 3, none⟩ = false := h.free _
  have f4 : w.frozen? ⟨g, i * 9 + 4, none⟩ = false := h.free _
  have f5 : w.frozen? ⟨g, i * 9 + 5, none⟩ = false := h.free _
  have f6 : w.frozen? ⟨g, i * 9 + 6, none⟩ = false := h.free _
  have H := Aside0.mk h
  clear h
  obtain ⟨x, hx⟩ : ∃ x, x = l.getD i zR := ⟨_, rfl⟩
  rw [← hx] at k3 k4 k5 k6 h3 h4 h5 h6 ⊢
  have HX := Aside0.mk hx
  clear hx
  obtain ⟨a0, a1, a2, a3, a4, a5, a6, a7, a8⟩ := x
  dsimp only [] at k3 k4 k5 k6 h3 h4 h5 h6
  have HP := Aside0.mk (fun (u : Value) (k : Nat) (hk : k < 9) (y : RR) (hy : ∀ m, m < 9 → (encR y)[m]? = if m = k then some u else (encR (l.getD i zR))[m]?) => H.out.put hi hk u y hy)
  rw [← HX.out] at HP
  by_cases o1 : o = 1
  · subst o1
    go_enter Tryz.func79, Tryz.ntmps79
    go_wp2_with fail
    go_end0
    refine ⟨rfl, HP.out _ 5 (by omega) _ ?_⟩
    intro m hm
    (rcases m with _ | _ | _ | _ | _ | _ | _ | _ | _ | m) <;> first | rfl | omega
  · by_cases o4 : o = 4
    · subst o4
      go_enter Tryz.func79, Tryz.ntmps79
      go_wp2_with fail
      go_end0
      refine ⟨rfl, HP.out _ 6 (by omega) _ ?_⟩
      intro m hm
      (rcases m with _ | _ | _ | _ | _ | _ | _ | _ | _ | m) <;> first | rfl | omega
    · by_cases o2 : o = 2
      · subst o2
        go_enter Tryz.func79, Tryz.ntmps79
        go_wp2_with fail
        go_end0
        have h1 := HP.out (.int .i64 (a4 + 1)) 4 (by omega) ⟨a0, a1, a2, a3, a4 + 1, a5, a6, a7, a8⟩ (by
          intro m hm
          (rcases m with _ | _ | _ | _ | _ | _ | _ | _ | _ | m) <;> first | rfl | omega)
        have hl : (l.set i ⟨a0, a1, a2, a3, a4 + 1, a5, a6, a7, a8⟩).length = l.length := List.length_set
        have h2 := OwnR.put (w := w.setCell ⟨g, i * 9 + 4, none⟩ (.int .i64 (a4 + 1))) (base := base) (g := g) (cap := cap) (l := l.set i ⟨a0, a1, a2, a3, a4 + 1, a5, a6, a7, a8⟩) (by rw [hl]; exact h1.1) (i := i) (k := 3) (by rw [hl]; exact hi) (by omega) (.int .i64 (a3 + 1)) ⟨a0, a1, a2, a3 + 1, a4 + 1, a5, a6, a7, a8⟩ (by
          intro m hm
          rw [List.getD_eq_getElem?_getD, List.getElem?_set_self hi]
          (rcases m with _ | _ | _ | _ | _ | _ | _ | _ | _ | m) <;> first | rfl | omega)
        rw [hl, List.set_set] at h2
        exact ⟨rfl, h2.1, h1.2.trans h2.2⟩
      · have hc : countR ⟨a0, a1, a2, a3, a4, a5, a6, a7, a8⟩ o = ⟨a0, a1, a2, a3 + 1, a4, a5, a6, a7, a8⟩ := by
          unfold countR
          rw [if_neg o1, if_neg o4, if_neg o2]
        rw [hc]
        have HC := Aside0.mk hc
        clear hc
        go_enter Tryz.func79, Tryz.ntmps79
        go_wp2_with fail
        go_end0
        refine ⟨rfl, HP.out _ 3 (by omega) _ ?_⟩
        intro m hm
        (rcases m with _ | _ | _ | _ | _ | _ | _ | _ | _ | m) <;> first | rfl | omega

end Go.Proofs.YteeacbgaehdodaaGreat

namespace Go.Proofs.YteeacbgaehdodaaGreat
set_option linter.unusedVariables false
open Go Go.RowKit Go.Shelf Go.Lib Go.Sort Go.Maps Go.WideMaps Go.Proofs.YteeacbgaehdodaaGreatW.PrintWords Go.Proofs.YteeacbgaehdodaaGreatW.PrintLast Go.Proofs.YteeacbgaehdodaaGreatW.PrintMore Go.Proofs.YteeacbgaehdodaaGreat.Fn

abbrev KK := Int × Int × Int
def aggK (k : KK) : Value := .agg #[.int .u8 k.1, .int .i64 k.2.1, .int .i64 k.2.2]
def litK (k : KK) : List Lit := [.int .u8 k.1, .int .i64 k.2.1, .int .i64 k.2.2]
def wfK (k : KK) : Prop := (Lit.int .u8 k.1).wf = true ∧ (Lit.int .i64 k.2.1).wf = true ∧ (Lit.int .i64 k.2.2).wf = true

theorem laidP : laidOutB Tryz.prog = true := by kernel_rfl
theorem rowK : (78 : TypeId) < Tryz.prog.types.size := of_decide_eq_true (by kernel_rfl)
theorem wideK : (match Tryz.prog.underlying 78 with | some (.array _ _) | some (.struct _) => true | _ => false) = true := by kernel_rfl
set_option maxRecDepth 1000000 in
theorem lawK : Keyed Tryz.prog 78 := Keyed.of_law (deep_law_laid laidP (m := 2) (by omega) rowK (by kernel_rfl) wideK)
theorem keyTypeK : Tryz.prog.keyType 78 = true := by kernel_rfl
theorem pos_ex {a n : Nat} (h : a < n) : ∃ m, n = m + 1 := ⟨n - 1, by omega⟩
theorem sizeP : ∃ m, Tryz.prog.types.size = m + 1 := pos_ex rowK
theorem cellsK : Tryz.prog.cellsOf 78 = 3 := by kernel_rfl
theorem cells3 : Tryz.prog.cellsOf 3 = 1 := by kernel_rfl
theorem cells5 : Tryz.prog.cellsOf 5 = 1 := by kernel_rfl

theorem keyOf_K {k : KK} (h : wfK k) : keyOf Tryz.prog 78 (aggK k) = some (.string (keyBytes (litK k))) := by
  obtain ⟨a, b, c⟩ := k
  obtain ⟨h1, h2, h3⟩ := h
  have hf : (aggK (a, b, c)).formed Tryz.prog 78 = true := by simp [Value.formed, Tryz.underlying78, aggK, cellsK]
  have hl : Tryz.prog.keyLits (Tryz.prog.types.size + 1) 78 (aggK (a, b, c)).cells.toList = some (litK (a, b, c)) := by
    obtain ⟨m, hm⟩ := sizeP
    rw [hm]
    have i5 : ∀ n x, (Lit.int .u8 x).wf = true → Tryz.prog.keyLits (n + 1) 5 [.int .u8 x] = some [.int .u8 x] := fun n x hx => by simp [Program.keyLits, Tryz.underlying5, hx]
    have i3 : ∀ n x, (Lit.int .i64 x).wf = true → Tryz.prog.keyLits (n + 1) 3 [.int .i64 x] = some [.int .i64 x] := fun n x hx => by simp [Program.keyLits, Tryz.underlying3, hx]
    show Program.keyLits Tryz.prog (m + 1 + 1) 78 [.int .u8 a, .int .i64 b, .int .i64 c] = _
    unfold Program.keyLits
    rw [Tryz.underlying78]
    simp [cellsK, cells3, cells5, i5 _ a h1, i3 _ b h2, i3 _ c h3, litK]
  unfold keyOf
  rw [Tryz.underlying78]
  simp only [keyTypeK, hf, hl]
  rfl

def rowKey (r : RR) : KK := (r.f0, r.f1, r.f2)
def strK (k : KK) : Lit := .string (keyBytes (litK k))

theorem strK_inj {k k' : KK} (h : wfK k) (h' : wfK k') (e : strK k = strK k') : k = k' := by
  have h1 := lawK.inj (keyOf_K h) (by rw [keyOf_K h', ← strK, ← strK, e])
  obtain ⟨a, b, c⟩ := k
  obtain ⟨a', b', c'⟩ := k'
  simpa [aggK] using h1
theorem strK_isKey {k : KK} (h : wfK k) : WideAt.IsKeyLit (strK k) := lawK.key (keyOf_K h)

/-- the map tells each key's row -/
def MapR {H : Type} (D : DataW H) (l : List RR) : Prop :=
  Maps.IsMap D ∧ ∀ k, wfK k → Maps.has D (strK k) = l.any (fun r => decide (rowKey r = k)) ∧ ∀ i, i < l.length → rowKey (l.getD i zR) = k → ∀ z, D.atKey (strK k) z = .lit (.int .i64 i)

theorem MapR.nil {H : Type} : MapR (.map [] : DataW H) [] := ⟨Maps.isMap_empty, fun k _ => ⟨rfl, fun i h => absurd h (Nat.not_lt_zero i)⟩⟩
theorem MapR.put {H : Type} {D : DataW H} {l : List RR} (h : MapR D l) {k : KK} (hk : wfK k) (hn : l.any (fun r => decide (rowKey r = k)) = false) (r : RR) (hr : rowKey r = k) : MapR (D.put (strK k) (.lit (.int .i64 l.length))) (l ++ [r]) := by
  refine ⟨h.1.put _ _, fun k' hk' => ?_⟩
  have ha : (l ++ [r]).any (fun r => decide (rowKey r = k')) = (l.any (fun r => decide (rowKey r = k')) || decide (k = k')) := by rw [List.any_append]; simp [hr]
  by_cases e : k' = k
  · subst e
    refine ⟨by rw [Maps.has_put_same h.1 (strK_isKey hk), ha]; simp, fun i hi hik z => ?_⟩
    rw [Maps.atKey_put_same h.1 (strK_isKey hk)]
    rw [List.length_append, List.length_singleton] at hi
    rcases Nat.lt_or_ge i l.length with h1 | h1
    · exfalso
      rw [List.any_eq_false] at hn
      rw [List.getD_eq_getElem?_getD, List.getElem?_append_left h1, List.getElem?_eq_getElem h1] at hik
      exact hn _ (List.getElem_mem h1) (by simpa using hik)
    · obtain rfl : i = l.length := by omega
      rfl
  · have hne : strK k' ≠ strK k := fun h2 => e (strK_inj hk' hk h2)
    refine ⟨by rw [Maps.has_put_other hne, ha, (h.2 k' hk').1]; simp [Ne.symm e], fun i hi hik z => ?_⟩
    rw [Maps.atKey_put_other hne]
    rw [List.length_append, List.length_singleton] at hi
    rcases Nat.lt_or_ge i l.length with h1 | h1
    · rw [List.getD_eq_getElem?_getD, List.getElem?_append_left h1, ← List.getD_eq_getElem?_getD] at hik
      exact (h.2 k' hk').2 i h1 hik z
    · obtain rfl : i = l.length := by omega
      rw [List.getD_eq_getElem?_getD, List.getElem?_append_right (Nat.le_refl _), Nat.sub_self] at hik
      exact absurd (hik.symm.trans hr) e
theorem MapR.set {H : Type} {D : DataW H} {l : List RR} (h : MapR D l) {i : Nat} (hi : i < l.length) (r : RR) (hr : rowKey r = rowKey (l.getD i zR)) : MapR D (l.set i r) := by
  have hg : ∀ j, j < l.length → rowKey ((l.set i r).getD j zR) = rowKey (l.getD j zR) := fun j hj => by
    by_cases e : j = i
    · subst e
      rw [List.getD_eq_getElem?_getD, List.getElem?_set_self hi]; exact hr
    · rw [List.getD_eq_getElem?_getD, List.getElem?_set_ne (Ne.symm e), ← List.getD_eq_getElem?_getD]
  refine ⟨h.1, fun k hk => ⟨?_, fun j hj hjk z => ?_⟩⟩
  · rw [(h.2 k hk).1, Bool.eq_iff_iff, List.any_eq_true, List.any_eq_true]
    have hm : ∀ (m : List RR) , (∃ x, x ∈ m ∧ decide (rowKey x = k) = true) ↔ ∃ j, j < m.length ∧ rowKey (m.getD j zR) = k := fun m => by
      constructor
      · rintro ⟨x, hx, e⟩
        obtain ⟨j, hj, rfl⟩ := List.mem_iff_getElem.1 hx
        exact ⟨j, hj, by rw [List.getD_eq_getElem?_getD, List.getElem?_eq_getElem hj]; simpa using e⟩
      · rintro ⟨j, hj, e⟩
        exact ⟨m[j], List.getElem_mem hj, by rw [List.getD_eq_getElem?_getD, List.getElem?_eq_getElem hj] at e; simpa using e⟩
    rw [hm, hm, List.length_set]
    exact ⟨fun ⟨j, hj, e⟩ => ⟨j, hj, by rw [hg j hj]; exact e⟩, fun ⟨j, hj, e⟩ => ⟨j, hj, by rw [← hg j hj]; exact e⟩⟩
  · rw [List.length_set] at hj
    exact (h.2 k hk).2 j hj (by rw [← hg j hj]; exact hjk) z

end Go.Proofs.YteeacbgaehdodaaGreat

namespace Go.Proofs.YteeacbgaehdodaaGreat
set_option linter.unusedVariables false
open Go Go.RowKit Go.Shelf Go.Lib Go.Sort Go.Maps Go.Proofs.YteeacbgaehdodaaGreatW.PrintWords Go.Proofs.YteeacbgaehdodaaGreatW.PrintLast Go.Proofs.YteeacbgaehdodaaGreatW.PrintMore Go.Proofs.YteeacbgaehdodaaGreat.Fn

def keyM (x : SX) : KK := (x.f1, x.f2, x.f3)
def keyC (x : SX) : KK := (x.f1, 0, 0)

theorem sizeK : (Tryz.prog.info? 78).map (·.size) = some 3 := by kernel_rfl

set_option maxHeartbeats 1000000 in
set_option maxRecDepth 100000 in
theorem keyM_calls (x : SX) (w : World) : Calls Tryz.prog 41 #[aggX x] w fun e w' => e = .returned (aggK (keyM x)) ∧ Below w.heap.size w w' := by
  obtain ⟨a0, a1, a2, a3, a4, a5⟩ := x
  unfold aggX aggK keyM
  dsimp only
  go_enter Tryz.func41, Tryz.ntmps41
  go_wp2_with fail
  try simp only [Exit.inBlock, Exit.then]
  refine bodyPost_ret (results_cell_row rfl _ _ (w.heap.size + 1) 78 #[.int .u8 a1, .int .i64 a2, .int .i64 a3] (0, 0) _ (by simp) ?_ Tryz.underlying78 rfl sizeK) rfl ?_
  · have h := heap_alloc_new (w.alloc (.cells #[.int .i64 a0, .int .u8 a1, .int .i64 a2, .int .i64 a3, .int .i64 a4, .int .i64 a5] 35)) (.cells #[.int .u8 a1, .int .i64 a2, .int .i64 a3] 78)
    simpa using h
  · exact ⟨rfl, below_alloc (below_alloc (Below.refl _ _) _) _⟩

set_option maxHeartbeats 1000000 in
set_option maxRecDepth 100000 in
theorem keyC_calls (x : SX) (w : World) : Calls Tryz.prog 42 #[aggX x] w fun e w' => e = .returned (aggK (keyC x)) ∧ Below w.heap.size w w' := by
  obtain ⟨a0, a1, a2, a3, a4, a5⟩ := x
  unfold aggX aggK keyC
  dsimp only
  go_enter Tryz.func42, Tryz.ntmps42
  go_wp2_with fail
  try simp only [Exit.inBlock, Exit.then]
  refine bodyPost_ret (results_cell_row rfl _ _ (w.heap.size + 1) 78 #[.int .u8 a1, .int .i64 0, .int .i64 0] (0, 0) _ (by simp) ?_ Tryz.underlying78 rfl sizeK) rfl ?_
  · have h := heap_alloc_new (w.alloc (.cells #[.int .i64 a0, .int .u8 a1, .int .i64 a2, .int .i64 a3, .int .i64 a4, .int .i64 a5] 35)) (.cells #[.int .u8 a1, .int .i64 0, .int .i64 0] 78)
    simpa using h
  · exact ⟨rfl, below_alloc (below_alloc (Below.refl _ _) _) _⟩

/-! ### rows, told by counts -/
section
variable (std : List SS) (now : Int) (key : SX → KK)
def cntR (s : List SX) (k : KK) (p : Int → Bool) : Int := ((s.filter fun x => decide (key x = k) && p (outcomeR std x now)).length : Int)
def rawRow (s : List SX) (k : KK) : RR := ⟨k.1, k.2.1, k.2.2, cntR std now key s k (fun o => decide (o ≠ 1) && decide (o ≠ 4)), cntR std now key s k (fun o => decide (o = 2)), cntR std now key s k (fun o => decide (o = 1)), cntR std now key s k (fun o => decide (o = 4)), 0, 0⟩

theorem rowKey_raw (s : List SX) (k : KK) : rowKey (rawRow std now key s k) = k := rfl
theorem rowKey_count (r : RR) (o : Int) : rowKey (countR r o) = rowKey r := by
  unfold countR
  repeat' split
  all_goals rfl

theorem cntR_nonneg (s : List SX) (k : KK) (p : Int → Bool) : 0 ≤ cntR std now key s k p := by unfold cntR; omega
theorem cntR_le (s : List SX) (k : KK) (p : Int → Bool) : cntR std now key s k p ≤ s.length := by
  have := List.length_filter_le (fun x => decide (key x = k) && p (outcomeR std x now)) s
  unfold cntR; omega
theorem cntR_snoc (s : List SX) (x : SX) (k : KK) (p : Int → Bool) : cntR std now key (s ++ [x]) k p = cntR std now key s k p + if key x = k ∧ p (outcomeR std x now) = true then 1 else 0 := by
  unfold cntR
  rw [List.filter_append, List.length_append]
  by_cases h : key x = k ∧ p (outcomeR std x now) = true
  · rw [if_pos h, List.filter_cons_of_pos (by simp [h.1, h.2])]; simp
  · rw [if_neg h, List.filter_cons_of_neg (by
      intro e
      simp only [Bool.and_eq_true, decide_eq_true_eq] at e
      exact h e)]; simp
theorem cntR_none (s : List SX) (k : KK) (p : Int → Bool) (h : ∀ x, x ∈ s → key x ≠ k) : cntR std now key s k p = 0 := by
  unfold cntR
  rw [List.filter_eq_nil_iff.2 (fun x hx e => by
    simp only [Bool.and_eq_true, decide_eq_true_eq] at e
    exact h x hx e.1)]
  rfl

theorem rawRow_snoc (s : List SX) (x : SX) (k : KK) : rawRow std now key (s ++ [x]) k = if key x = k then countR (rawRow std now key s k) (outcomeR std x now) else rawRow std now key s k := by
  unfold rawRow
  rw [cntR_snoc, cntR_snoc, cntR_snoc, cntR_snoc]
  by_cases h : key x = k
  · rw [if_pos h]
    unfold countR
    by_cases o1 : outcomeR std x now = 1
    · simp [o1, h]
    · by_cases o4 : outcomeR std x now = 4
      · simp [o4, h]
      · by_cases o2 : outcomeR std x now = 2
        · simp [o2, h]
        · simp [o1, o2, o4, h]
  · simp [h]

/-- rows by their keys, of some items -/
structure Rows (s : List SX) (l : List RR) : Prop where
  nodup : (l.map rowKey).Nodup
  row : ∀ r, r ∈ l → r = rawRow std now key s (rowKey r)
  keys : ∀ k, (∃ r, r ∈ l ∧ rowKey r = k) ↔ ∃ x, x ∈ s ∧ key x = k
/-- .. and a row for one key, too -/
structure RowsPre (s : List SX) (k0 : KK) (l : List RR) : Prop where
  nodup : (l.map rowKey).Nodup
  row : ∀ r, r ∈ l → r = rawRow std now key s (rowKey r)
  keys : ∀ k, (∃ r, r ∈ l ∧ rowKey r = k) ↔ ((∃ x, x ∈ s ∧ key x = k) ∨ k = k0)
variable {std now key}
theorem Rows.nil : Rows std now key [] [] := ⟨by simp, by simp, by simp⟩
theorem Rows.same {s : List SX} {l : List RR} (h : Rows std now key s l) {k : KK} (hk : ∃ r, r ∈ l ∧ rowKey r = k) : RowsPre std now key s k l := by
  refine ⟨h.nodup, h.row, fun k' => ?_⟩
  rw [h.keys]
  constructor
  · exact fun e => .inl e
  · rintro (e | rfl)
    · exact e
    · exact (h.keys _).1 hk
theorem Rows.add {s : List SX} {l : List RR} (h : Rows std now key s l) {k : KK} (hk : ¬ ∃ r, r ∈ l ∧ rowKey r = k) : RowsPre std now key s k (l ++ [⟨k.1, k.2.1, k.2.2, 0, 0, 0, 0, 0, 0⟩]) := by
  have hno : ∀ x, x ∈ s → key x ≠ k := fun x hx e => hk ((h.keys k).2 ⟨x, hx, e⟩)
  have hz : (⟨k.1, k.2.1, k.2.2, 0, 0, 0, 0, 0, 0⟩ : RR) = rawRow std now key s k := by
    unfold rawRow
    rw [cntR_none std now key s k _ hno, cntR_none std now key s k _ hno, cntR_none std now key s k _ hno, cntR_none std now key s k _ hno]
  rw [hz]
  refine ⟨?_, ?_, ?_⟩
  · rw [List.map_append, List.nodup_append]
    refine ⟨h.nodup, by simp, fun a ha b hb e => ?_⟩
    obtain ⟨r, hr, rfl⟩ := List.mem_map.1 ha
    simp only [List.map_cons, List.map_nil, List.mem_singleton] at hb
    exact hk ⟨r, hr, by rw [e, hb]; rfl⟩
  · intro r hr
    rcases List.mem_append.1 hr with hr | hr
    · exact h.row r hr
    · rw [List.mem_singleton] at hr
      rw [hr]; rfl
  · intro k'
    constructor
    · rintro ⟨r, hr, e⟩
      rcases List.mem_append.1 hr with hr | hr
      · exact .inl ((h.keys k').1 ⟨r, hr, e⟩)
      · rw [List.mem_singleton] at hr
        rw [hr] at e
        exact .inr e.symm
    · rintro (e | rfl)
      · obtain ⟨r, hr, e⟩ := (h.keys k').2 e
        exact ⟨r, List.mem_append.2 (.inl hr), e⟩
      · exact ⟨_, List.mem_append.2 (.inr (List.mem_singleton.2 rfl)), rfl⟩
theorem RowsPre.count {s : List SX} {x : SX} {l : List RR} (h : RowsPre std now key s (key x) l) {i : Nat} (hi : i < l.length) (hk : rowKey (l.getD i zR) = key x) : Rows std now key (s ++ [x]) (l.set i (countR (l.getD i zR) (outcomeR std x now))) := by
  have hgi : l.getD i zR = l[i] := by rw [List.getD_eq_getElem?_getD, List.getElem?_eq_getElem hi]; rfl
  rw [hgi] at hk ⊢
  have hmap : (l.set i (countR l[i] (outcomeR std x now))).map rowKey = l.map rowKey := by
    rw [List.map_set, rowKey_count]
    apply List.ext_getElem?
    intro j
    rw [List.getElem?_set]
    by_cases e : i = j
    · subst e
      rw [if_pos rfl, if_pos (by simpa using hi), List.getElem?_map, List.getElem?_eq_getElem hi]; rfl
    · rw [if_neg e]
  have hmem : ∀ k, (∃ r, r ∈ l.set i (countR l[i] (outcomeR std x now)) ∧ rowKey r = k) ↔ ∃ r, r ∈ l ∧ rowKey r = k := fun k => by
    rw [← List.mem_map, ← List.mem_map, hmap]
  refine ⟨by rw [hmap]; exact h.nodup, ?_, ?_⟩
  · intro r hr
    obtain ⟨j, hj, rfl⟩ := List.mem_iff_getElem.1 hr
    rw [List.length_set] at hj
    rw [List.getElem_set]
    by_cases e : i = j
    · subst e
      rw [if_pos rfl, rowKey_count, hk, rawRow_snoc, if_pos rfl]
      have := h.row l[i] (List.getElem_mem hi)
      rw [hk] at this
      rw [← this]
    · rw [if_neg e]
      have h1 := h.row l[j] (List.getElem_mem hj)
      have hne : key x ≠ rowKey l[j] := fun e2 => e (by
        have hp := List.pairwise_iff_getElem.1 (List.nodup_iff_pairwise_ne.1 h.nodup)
        rcases Nat.lt_trichotomy i j with h2 | h2 | h2
        · exact absurd (by rw [List.getElem_map, List.getElem_map, hk, e2]) (hp i j (by simpa using hi) (by simpa using hj) h2)
        · exact h2
        · exact absurd (by rw [List.getElem_map, List.getElem_map, hk, e2]) (hp j i (by simpa using hj) (by simpa using hi) h2))
      rw [rawRow_snoc, if_neg hne, ← h1]
  · intro k
    rw [hmem, h.keys]
    constructor
    · rintro (⟨y, hy, e⟩ | e)
      · exact ⟨y, List.mem_append.2 (.inl hy), e⟩
      · exact ⟨x, by simp, e.symm⟩
    · rintro ⟨y, hy, e⟩
      rcases List.mem_append.1 hy with hy | hy
      · exact .inl ⟨y, hy, e⟩
      · rw [List.mem_singleton] at hy
        exact .inr (by rw [← e, hy])
theorem Rows.perm {s : List SX} {l m : List RR} (h : Rows std now key s l) (hp : m.Perm l) : Rows std now key s m :=
  ⟨((hp.map rowKey).nodup_iff).2 h.nodup, fun r hr => h.row r (hp.mem_iff.1 hr), fun k => by
    rw [← h.keys k]
    exact ⟨fun ⟨r, hr, e⟩ => ⟨r, hp.mem_iff.1 hr, e⟩, fun ⟨r, hr, e⟩ => ⟨r, hp.mem_iff.2 hr, e⟩⟩⟩
end

end Go.Proofs.YteeacbgaehdodaaGreat

namespace Go.Proofs.YteeacbgaehdodaaGreat
set_option linter.unusedVariables false
open Go Go.RowKit Go.Shelf Go.Lib Go.Sort Go.Maps Go.Proofs.YteeacbgaehdodaaGreatW.PrintWords Go.Proofs.YteeacbgaehdodaaGreatW.PrintLast Go.Proofs.YteeacbgaehdodaaGreatW.PrintMore Go.Proofs.YteeacbgaehdodaaGreat.Fn

attribute [local instance] instR

theorem block_sorted {w : World} {g n : Nat} {cur : Array Value} {e : TypeId} {fr : Nat × Nat} (d : Array RR) (os : Array Obj) (hg : w.heap[g]? = some (.cells cur e fr)) : ∃ cur', (sortWorldK encR 9 w g 0 n d os).heap[g]? = some (.cells cur' e fr) ∧ cur'.size = cur.size := by
  have hlt : g < w.heap.size := (Array.getElem?_eq_some_iff.1 hg).1
  refine ⟨putCells id 0 (flatK encR 9 d) cur, ?_, by simp [putCells]⟩
  unfold sortWorldK
  rw [heap_grow_old _ _ (by simpa [putRowK, putRow, mapBlock, Sort.ahead] using hlt)]
  simp [putRowK, putRow, mapBlock, Sort.ahead, Array.getElem?_modify, hg, onCells]

theorem grownBy_sortR {w : World} {g n : Nat} {os : Array Obj} (d : Array RR) : w.grownBy (sortWorldK encR 9 w g 0 n d os) (some g) := by
  refine ⟨rfl, rfl, rfl, by simp [sortWorldK, putRowK, putRow, mapBlock, Sort.ahead, grow], fun k hk hne => ?_⟩
  have : g ≠ k := fun e => hne (by rw [e])
  unfold sortWorldK
  rw [heap_grow_old _ _ (by simpa [putRowK, putRow, mapBlock, Sort.ahead] using hk)]
  simp [putRowK, putRow, mapBlock, Sort.ahead, Array.getElem?_modify, this]

theorem OwnR.holds {w : World} {base g cap : Nat} {l : List RR} (h : OwnR w base (.slice (some ⟨g, 0, none⟩) l.length cap) l) : HoldsK encR 9 w g 0 l.toArray := by
  intro j hj
  have hj' : j < l.length * 9 := by simpa using hj
  refine ⟨?_, World.ownsRow.frozenAt h (0 + j)⟩
  rw [Nat.zero_add, World.ownsRow.cellAt h j hj']
  unfold flatR
  rw [Array.getElem?_toList, Array.getElem?_eq_getElem hj, getElem!_pos (flatK encR 9 l.toArray) j hj]; rfl

theorem OwnR.block {w : World} {base g cap : Nat} {l : List RR} (h : OwnR w base (.slice (some ⟨g, 0, none⟩) l.length cap) l) : base ≤ g ∧ l.length ≤ cap ∧ cap ≤ maxLen ∧ ∃ cur, w.heap[g]? = some (.cells cur 46 (0, 0)) ∧ cur.size = cap * 9 := by
  rcases h.2 with ⟨h', _⟩ | ⟨g', cap', cur, h', hb, hg, h1, h2, h3, _⟩
  · simp at h'
  · simp only [Value.slice.injEq, Option.some.injEq, Addr.mk.injEq, and_true, true_and] at h'
    obtain ⟨rfl, rfl⟩ := h'
    exact ⟨hb, h1, h2, cur, hg, h3⟩

theorem OwnR.of_holds {w : World} {base g cap : Nat} {m : List RR} {cur : Array Value} (hb : base ≤ g) (hc : m.length ≤ cap) (hm : cap ≤ maxLen) (hg : w.heap[g]? = some (.cells cur 46 (0, 0))) (hs : cur.size = cap * 9) (hH : HoldsK encR 9 w g 0 m.toArray) : OwnR w base (.slice (some ⟨g, 0, none⟩) m.length cap) m := by
  refine ⟨flatR_length m, .inr ⟨g, cap, cur, rfl, hb, hg, hc, hm, hs, ?_⟩⟩
  apply List.ext_getElem?
  intro j
  rcases Nat.lt_or_ge j (m.length * 9) with h | h
  · rw [List.getElem?_take_of_lt h]
    have hj : j < (flatK encR 9 m.toArray).size := by rw [size_flatK]; simpa using h
    have h1 := (hH j hj).1
    rw [Nat.zero_add, cell_of_row w g j cur _ (0, 0) hg] at h1
    unfold flatR
    rw [Array.getElem?_toList, Array.getElem?_toList, h1, Array.getElem?_eq_getElem hj, getElem!_pos (flatK encR 9 m.toArray) j hj]; rfl
  · rw [List.getElem?_eq_none (by rw [List.length_take]; omega), List.getElem?_eq_none (by rw [flatR_length]; omega)]

theorem encR_one (x : RR) (v : Value) (hv : v ∈ encR x) : v.oneCell' = true := by
  simp only [encR, List.mem_cons, List.not_mem_nil, or_false] at hv
  rcases hv with rfl | rfl | rfl | rfl | rfl | rfl | rfl | rfl | rfl <;> rfl

/-- keys in order -/
def ltKey (a b : KK) : Prop := a.1 < b.1 ∨ (a.1 = b.1 ∧ (a.2.1 < b.2.1 ∨ (a.2.1 = b.2.1 ∧ a.2.2 < b.2.2)))
def SortedR (l : List RR) : Prop := ∀ i j, i < j → j < l.length → ¬ ltKey (rowKey (l.getD j zR)) (rowKey (l.getD i zR))

set_option maxHeartbeats 1000000 in
set_option maxRecDepth 100000 in
theorem SortR_calls {base g cap : Nat} (l : List RR) (w : World) (hO : OwnR w base (.slice (some ⟨g, 0, none⟩) l.length cap) l) (hl : l.length ≤ 100000) :
    Calls Tryz.prog 80 #[.slice (some ⟨g, 0, none⟩) l.length cap, .func (.func 81) #[] #[]] w fun e w' => e = .returned (.tuple #[]) ∧ (∃ m : List RR, m.Perm l ∧ SortedR m ∧ OwnR w' base (.slice (some ⟨g, 0, none⟩) m.length cap) m) ∧ w.grownBy w' (some g) := by
  obtain ⟨hbg, hlc, hcm, cur, hgg, hcs⟩ := hO.block
  have hgl : g < w.heap.size := (Array.getElem?_eq_some_iff.1 hgg).1
  have hH := hO.holds
  have eg : ∀ args w, (callFunc 81 args).run Tryz.prog w = .ok (.enter 81 args) w := enters_of Tryz.func81 (by kernel_rfl) rfl
  have hcmp : CmpLays Tryz.prog 81 #[] encR 9 cmpR g 0 l.toArray.size w := fun _ _ _ _ x y => rowCmp_calls x y _
  have hcon := AnyQ.slices_SortFunc shSortR 9 Tryz.isAgg46 Tryz.sizeOf46 encR (fun _ => rfl) encR_one cmpR swoR 81 #[] g 0 cap l.toArray w eg hcmp hH hgl (by simp; omega)
  refine hcon.mono ?_
  rintro e w' ⟨rfl, d', n, os, ⟨hp1, _, hp3⟩, hs, rfl⟩
  have hsize : d'.toList.length = l.length := by simpa using hp1
  have hperm : d'.toList.Perm l := by
    have e1 : d'.extract 0 l.toArray.size = d' := by rw [← hp1]; simp
    have e2 : l.toArray.extract 0 l.toArray.size = l.toArray := by simp
    rw [e1, e2] at hp3
    simpa using hp3
  have hHd := holdsK_sortWorldK encR 9 w g 0 n l.toArray d' os hgl hH hp1
  have hget : ∀ i (h : i < d'.size), d'[i]! = d'.toList.getD i zR := fun i h => by
    rw [getElem!_pos d' i h, List.getD_eq_getElem?_getD, List.getElem?_eq_getElem (by simpa using h)]; simp
  obtain ⟨cur', hg', hs'⟩ := block_sorted (n := n) d' os hgg
  refine ⟨rfl, ⟨d'.toList, hperm, fun i j hij hj => ?_, OwnR.of_holds hbg (by omega) hcm hg' (by omega) (by simpa using hHd)⟩, grownBy_sortR d'⟩
  have h1 := hs i j (Nat.zero_le _) hij (by simp at hj hsize ⊢; omega)
  rw [ltR, decide_eq_false_iff_not, hget j (by simpa using hj), hget i (by simp at hj; omega)] at h1
  exact h1

end Go.Proofs.YteeacbgaehdodaaGreat

namespace Go.Proofs.YteeacbgaehdodaaGreat
set_option linter.unusedVariables false

/-! ### rows in order are one list -/
instance (a b : KK) : Decidable (ltKey a b) := by unfold ltKey; infer_instance
theorem ltKey_tri (a b : KK) : ltKey a b ∨ a = b ∨ ltKey b a := by
  obtain ⟨a1, a2, a3⟩ := a
  obtain ⟨b1, b2, b3⟩ := b
  unfold ltKey
  simp only [Prod.mk.injEq]
  omega
theorem getD_R {l : List RR} {k : Nat} (h : k < l.length) : l.getD k zR = l[k] := by rw [List.getD_eq_getElem?_getD, List.getElem?_eq_getElem h]; rfl
theorem SortedR.pairwise {l : List RR} (h : SortedR l) : (l.map rowKey).Pairwise fun a b => ¬ ltKey b a := by
  rw [List.pairwise_iff_getElem]
  intro i j hi hj hij
  rw [List.getElem_map, List.getElem_map]
  have hj' : j < l.length := by simpa using hj
  have := h i j hij hj'
  rw [getD_R hj', getD_R (by omega)] at this
  exact this
section
variable {std : List SS} {now : Int} {key : SX → KK}
theorem cntR_perm {s s' : List SX} (h : s.Perm s') (k : KK) (p : Int → Bool) : cntR std now key s k p = cntR std now key s' k p := by
  unfold cntR
  rw [(h.filter _).length_eq]
theorem rawRow_perm {s s' : List SX} (h : s.Perm s') : rawRow std now key s = rawRow std now key s' := by
  funext k
  unfold rawRow
  rw [cntR_perm h, cntR_perm h, cntR_perm h, cntR_perm h]
theorem Rows.eq_map {s : List SX} {l : List RR} (h : Rows std now key s l) : l = (l.map rowKey).map (rawRow std now key s) := by
  rw [List.map_map]
  have : ∀ m : List RR, (∀ r, r ∈ m → r = rawRow std now key s (rowKey r)) → m = m.map (rawRow std now key s ∘ rowKey) := by
    intro m
    induction m with
    | nil => intro _; rfl
    | cons r m ih =>
      intro hm
      rw [List.map_cons, ← ih (fun r hr => hm r (List.mem_cons_of_mem _ hr))]
      congr 1
      exact hm r List.mem_cons_self
  exact this l h.row
theorem Rows.mem_keys {s : List SX} {l : List RR} (h : Rows std now key s l) (k : KK) : k ∈ l.map rowKey ↔ ∃ x, x ∈ s ∧ key x = k := by
  rw [List.mem_map]; exact h.keys k
theorem Rows.unique {s s' : List SX} {l m : List RR} (h : Rows std now key s l) (h' : Rows std now key s' m) (hp : s.Perm s') (hl : SortedR l) (hm : SortedR m) : l = m := by
  rw [h.eq_map, h'.eq_map, rawRow_perm hp]
  congr 1
  have hperm : (l.map rowKey).Perm (m.map rowKey) := (List.perm_ext_iff_of_nodup h.nodup h'.nodup).2 fun k => by
    rw [h.mem_keys, h'.mem_keys]
    exact ⟨fun ⟨x, hx, e⟩ => ⟨x, hp.mem_iff.1 hx, e⟩, fun ⟨x, hx, e⟩ => ⟨x, hp.mem_iff.2 hx, e⟩⟩
  exact List.Perm.eq_of_pairwise (le := fun a b => ¬ ltKey b a) (fun a b _ _ h1 h2 => ((ltKey_tri a b).resolve_left h2).resolve_right h1) hl.pairwise hm.pairwise hperm
theorem Rows.strict {s : List SX} {l : List RR} (h : Rows std now key s l) (hl : SortedR l) {i j : Nat} (hij : i < j) (hj : j < l.length) : ltKey (rowKey (l.getD i zR)) (rowKey (l.getD j zR)) := by
  have h1 := hl i j hij hj
  have hne : rowKey (l.getD i zR) ≠ rowKey (l.getD j zR) := fun e => by
    have hp := List.pairwise_iff_getElem.1 (List.nodup_iff_pairwise_ne.1 h.nodup) i j (by simp; omega) (by simpa using hj) hij
    rw [List.getElem_map, List.getElem_map] at hp
    rw [getD_R hj, getD_R (by omega)] at e
    exact hp e
  exact ((ltKey_tri _ _).resolve_right fun h2 => h2.elim hne h1)
theorem Rows.get {s : List SX} {l : List RR} (h : Rows std now key s l) {i : Nat} (hi : i < l.length) : l.getD i zR = rawRow std now key s (rowKey (l.getD i zR)) := by
  rw [getD_R hi]; exact h.row _ (List.getElem_mem hi)

/-! ### sums over keys -/
theorem sum_one {α : Type} [DecidableEq α] (c : Nat) : ∀ (K : List α) (a : α), K.Nodup → a ∈ K → (K.map fun k => if a = k then c else 0).sum = c := by
  intro K
  induction K with
  | nil => intro a _ h; cases h
  | cons k K ih =>
    intro a hn ha
    rw [List.nodup_cons] at hn
    rw [List.map_cons, List.sum_cons]
    by_cases e : a = k
    · subst e
      rw [if_pos rfl]
      have : (K.map fun k => if a = k then c else 0).sum = 0 := by
        have h0 : ∀ L : List α, a ∉ L → (L.map fun k => if a = k then c else 0).sum = 0 := by
          intro L
          induction L with
          | nil => intro _; rfl
          | cons y L ih =>
            intro hL
            rw [List.mem_cons, not_or] at hL
            rw [List.map_cons, List.sum_cons, if_neg hL.1, ih hL.2]
        exact h0 K hn.1
      omega
    · rw [if_neg e, Nat.zero_add]
      exact ih a hn.2 ((List.mem_cons.1 ha).resolve_left e)
theorem sum_keys {α κ : Type} [DecidableEq κ] (g : α → κ) (q : α → Bool) (P : κ → Bool) (K : List κ) (hn : K.Nodup) : ∀ s : List α, (∀ x, x ∈ s → g x ∈ K) →
    (K.map fun k => if P k = true then (s.filter fun x => decide (g x = k) && q x).length else 0).sum = (s.filter fun x => P (g x) && q x).length := by
  intro s
  induction s with
  | nil =>
    intro _
    have : ∀ L : List κ, (L.map fun k => if P k = true then (([] : List α).filter fun x => decide (g x = k) && q x).length else 0).sum = 0 := by
      intro L
      induction L with
      | nil => rfl
      | cons k L ih => rw [List.map_cons, List.sum_cons, ih]; simp
    rw [this]; rfl
  | cons x s ih =>
    intro hs
    have h1 := ih (fun y hy => hs y (List.mem_cons_of_mem _ hy))
    have h2 := sum_one (if P (g x) = true ∧ q x = true then 1 else 0) K (g x) hn (hs x List.mem_cons_self)
    have hadd : ∀ L : List κ, (L.map fun k => if P k = true then ((x :: s).filter fun x => decide (g x = k) && q x).length else 0).sum = (L.map fun k => if P k = true then (s.filter fun x => decide (g x = k) && q x).length else 0).sum + (L.map fun k => if g x = k then (if P (g x) = true ∧ q x = true then 1 else 0) else 0).sum := by
      intro L
      induction L with
      | nil => rfl
      | cons k L ihL =>
        rw [List.map_cons, List.sum_cons, List.map_cons, List.sum_cons, List.map_cons, List.sum_cons, ihL]
        have : (if P k = true then ((x :: s).filter fun x => decide (g x = k) && q x).length else 0) = (if P k = true then (s.filter fun x => decide (g x = k) && q x).length else 0) + (if g x = k then (if P (g x) = true ∧ q x = true then 1 else 0) else 0) := by
          by_cases e : g x = k
          · subst e
            by_cases hP : P (g x) = true <;> by_cases hq : q x = true <;> simp [hP, hq]
          · rw [if_neg e, List.filter_cons_of_neg (by simp [e])]; rfl
        omega
    rw [hadd, h1, h2]
    by_cases h : P (g x) = true ∧ q x = true
    · rw [if_pos h, List.filter_cons_of_pos (by simp [h.1, h.2])]; rfl
    · rw [if_neg h, List.filter_cons_of_neg (by
        intro e
        rw [Bool.and_eq_true] at e
        exact h e)]; rfl

/-- each item is in one row -/
theorem Rows.all {s : List SX} {l : List RR} (h : Rows std now key s l) : ((l.map rowKey).map fun k => (s.filter fun x => decide (key x = k)).length).sum = s.length := by
  have h1 := sum_keys key (fun _ => true) (fun _ => true) (l.map rowKey) h.nodup s (fun x hx => (h.mem_keys _).2 ⟨x, hx, rfl⟩)
  have hf : s.filter (fun x => (fun _ => true) (key x) && (fun _ => true) x) = s := List.filter_eq_self.2 fun x _ => rfl
  rw [hf] at h1
  rw [← h1]
  congr 2
  funext k
  rw [if_pos rfl]
  congr 2
  funext x
  rw [Bool.and_true]
/-- the rows of a class sum up -/
theorem Rows.class_sum {s : List SX} {l : List RR} (h : Rows std now keyM s l) (c : Int) (p : Int → Bool) : ((((l.map rowKey).map fun k => if decide (k.1 = c) = true then (s.filter fun x => decide (keyM x = k) && p (outcomeR std x now)).length else 0).sum : Nat) : Int) = cntR std now keyC s (c, 0, 0) p := by
  have h1 := sum_keys keyM (fun x => p (outcomeR std x now)) (fun k => decide (k.1 = c)) (l.map rowKey) h.nodup s (fun x hx => (h.mem_keys _).2 ⟨x, hx, rfl⟩)
  rw [h1]
  unfold cntR
  congr 3
  funext x
  rw [show decide ((keyM x).1 = c) = decide (keyC x = (c, 0, 0)) from decide_eq_decide.2 ⟨fun h => by unfold keyC; rw [show x.f1 = c from h], fun h => congrArg Prod.fst h⟩]
end

end Go.Proofs.YteeacbgaehdodaaGreat
