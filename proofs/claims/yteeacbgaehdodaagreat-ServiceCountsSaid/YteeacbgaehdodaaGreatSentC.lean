/- Contracts of claim's checks: within, Right. Contracts of claim's Right, of the search for a standard, and of Promise. Contracts of claim's checks of items: the closures, and all at items. The contract of claim.RightSent. claim.RightSent at lists that hold nothing, too. -/
import Derived.Test.YteeacbgaehdodaaGreatQuant
import Derived.Test.YteeacbgaehdodaaGreatFnS
import Derived.Test.YteeacbgaehdodaaGreatShelf
import Derived.Shelf.SlicesQ.IndexFunc
import Derived.Shelf.SlicesE.IndexFunc
import Derived.StillTailTactics
import Derived.Shelf.SlicesE.Clone
import Derived.Shelf.SlSortCmp.NoneTotal
namespace Go.Proofs.YteeacbgaehdodaaGreat
set_option linter.unusedVariables false
open Go Go.RowKit Go.Shelf Go.Lib Go.Proofs.YteeacbgaehdodaaGreatW.PrintWords Go.Proofs.YteeacbgaehdodaaGreatW.PrintLast Go.Proofs.YteeacbgaehdodaaGreatW.PrintMore Go.Proofs.YteeacbgaehdodaaGreat.Fn

theorem C_plain {w : World} {A : Option Addr} {n : Nat} {xs : List Int} (h : Kd.C (Kd.int .i64) w A n xs) (hn : 0 < n) : ∃ b off, A = some ⟨b, off, none⟩ := by
  obtain ⟨ad, c, e, _, hK, hc⟩ := Kd.C_get h 0 0 (by omega) (by omega)
  have hK' : c = [.int .i64 (xs.getD 0 0)] := hK
  subst hK'
  have h1 := hc 0 _ rfl
  have hs := World.cell?_spot h1
  obtain ⟨b, off, spot⟩ := ad
  have hspot : spot = none := by simpa [Addr.add] using hs
  exact ⟨b, off, by rw [e, hspot]⟩

theorem C_at {w : World} {b off n : Nat} {xs : List Int} (h : Kd.C (Kd.int .i64) w (some ⟨b, off, none⟩) n xs) {j : Nat} (hj : j < n) : w.cell? ⟨b, off + j, none⟩ = some (.int .i64 (xs.getD j 0)) := by
  obtain ⟨ad, c, e, _, hK, hc⟩ := Kd.C_get h 0 (j : Int) (by omega) (by omega)
  rw [Int.toNat_natCast] at hK hc
  have hK' : c = [.int .i64 (xs.getD j 0)] := hK
  subst hK'
  have := hc 0 _ rfl
  rw [show j * (Kd.int .i64).sz + 0 = j from Nat.mul_one j] at this
  injection e with e
  subst e
  rw [Go.WideShapes.add_plain] at this
  exact this

theorem IsI.reads {w : World} {A : Option Addr} {n c : Nat} {l : List Int} (h : IsI w (.slice A n c) l) : Kd.C (Kd.int .i64) w A l.length l := by
  obtain ⟨_, _, e, _, h⟩ := h
  injection e with e1 _ _
  rw [e1]; exact h

def outB (low high x : Int) : Bool := decide (x < low ∨ high < x)

theorem pred_within (low high : Int) (B C : Nat) (w : World) (hB : B < w.heap.size) (hC : C < w.heap.size) (hb : w.cell? ⟨B, 0, none⟩ = some (.int .i64 low)) (hc : w.cell? ⟨C, 0, none⟩ = some (.int .i64 high)) :
    PredAt Tryz.prog 98 #[.pointer (some ⟨B, 0, none⟩), .pointer (some ⟨C, 0, none⟩)] (Value.int .i64) (outB low high) w := fun W x hW => by
  have h1 : W.cell? ⟨B, 0, none⟩ = some (.int .i64 low) := (hW.cell (p := ⟨B, 0, none⟩) hB).trans hb
  have h2 : W.cell? ⟨C, 0, none⟩ = some (.int .i64 high) := (hW.cell (p := ⟨C, 0, none⟩) hC).trans hc
  show Calls Tryz.prog 98 #[.int .i64 x, .pointer (some ⟨B, 0, none⟩), .pointer (some ⟨C, 0, none⟩)] W _
  by_cases hx : x < low
  · have e : outB low high x = true := decide_eq_true (.inl hx)
    rw [e]
    go_enter Tryz.func98, Tryz.ntmps98
    go_wp2_with fail
    go_ret
    exact ⟨rfl, 0, rfl⟩
  · by_cases hy : high < x
    · have e : outB low high x = true := decide_eq_true (.inr hy)
      rw [e]
      have hx' : decide (x < low) = false := decide_eq_false hx
      go_enter Tryz.func98, Tryz.ntmps98
      go_wp2_with fail
      go_ret
      exact ⟨rfl, 0, rfl⟩
    · have e : outB low high x = false := decide_eq_false (by omega)
      rw [e]
      have hx' : decide (x < low) = false := decide_eq_false hx
      have hy' : decide (high < x) = false := decide_eq_false hy
      go_enter Tryz.func98, Tryz.ntmps98
      go_wp2_with fail
      go_ret
      exact ⟨rfl, 0, rfl⟩

set_option maxHeartbeats 2000000 in
theorem Within_calls {v : Value} (low high : Int) (l : List Int) (w : World) (hv : IsI w v l) (h0 : 0 < l.length) :
    Calls Tryz.prog 69 #[.int .i64 low, .int .i64 high, v] w fun e w' => e = .returned (.bool (!(l.any (outB low high)))) ∧ Below w.heap.size w w' := by
  obtain ⟨A, c, rfl, hc, hr⟩ := hv
  obtain ⟨b, off, rfl⟩ := C_plain hr h0
  have hmx := hr.2.1
  have eg : ∀ args w, (callFunc 98 args).run Tryz.prog w = .ok (.enter 98 args) w := enters_of Tryz.func98 (by kernel_rfl) rfl
  obtain ⟨w1, hw1⟩ : ∃ w1, w1 = (w.alloc (.cells #[.int .i64 low] 3)).alloc (.cells #[.int .i64 high] 3) := ⟨_, rfl⟩
  have hB1 : Below w.heap.size w w1 := by rw [hw1]; exact below_alloc (below_alloc (Below.refl _ _) _) _
  have hsz : w1.heap.size = w.heap.size + 1 + 1 := by rw [hw1]; simp
  have hc1 : w1.cell? ⟨w.heap.size, 0, none⟩ = some (.int .i64 low) := by
    rw [hw1]
    refine Lib.cell?_alloc_some _ ?_
    unfold World.cell?
    rw [heap_alloc_new]; rfl
  have hc2 : w1.cell? ⟨w.heap.size + 1, 0, none⟩ = some (.int .i64 high) := by
    rw [hw1]
    have e : w.heap.size + 1 = (w.alloc (.cells #[.int .i64 low] 3)).heap.size := by simp
    rw [e]
    unfold World.cell?
    rw [heap_alloc_new]; rfl
  have hcon := AnyE.slices_ContainsFunc shContI (Value.int .i64) (outB low high) 98 #[.pointer (some ⟨w.heap.size, 0, none⟩), .pointer (some ⟨w.heap.size + 1, 0, none⟩)] eg b off l.length c l w1
    (pred_within low high w.heap.size (w.heap.size + 1) w1 (by omega) (by omega) hc1 hc2) (Nat.le_refl _) hmx (fun j hj => by
      have h1 := C_at (Kd.C_below hr hB1) hj
      rw [h1, List.getElem!_eq_getElem?_getD, List.getD_eq_getElem?_getD]; rfl)
  rw [List.take_length] at hcon
  have HCON := Aside0.mk hcon
  have HB1 := Aside0.mk hB1
  clear hcon hc1 hc2 hr hsz hB1
  go_enter Tryz.func69, Tryz.ntmps69
  go_wp2_with fail
  rw [← hw1]
  refine HCON.out.mono ?_
  rintro e w2 ⟨rfl, q, rfl⟩
  have HB2 := Aside0.mk (pw_below_drewN HB1.out q)
  clear HCON
  go_wp2_with fail
  go_ret
  exact ⟨rfl, by rw [← hw1]; exact HB2.out⟩

theorem isI_litN (W : World) (e : Nat) (xs : List Int) (hl : xs.length ≤ 100) : IsI (W.alloc (.cells (xs.map (Value.int .i64)).toArray e)) (.slice (some ⟨W.heap.size, 0, none⟩) xs.length xs.length) xs := by
  have h := R_nums (base := W.heap.size) (e := e) (k := .i64) (xs := xs) (by
    have := World.ownsRow_lit (base := W.heap.size) (e := e) (size := 1) W (xs.map (Value.int .i64)).toArray xs.length (Nat.le_refl _) (by simp [maxLen]; omega) (by simp)
    simpa [nums] using this)
  obtain ⟨A, c, h1, h2, h3⟩ := Kd.R_reads h
  exact ⟨A, c, h1, h2, h3⟩

theorem below_step' {w w1 w2 : World} (h1 : Below w.heap.size w w1) (h2 : Below w1.heap.size w1 w2) : Below w.heap.size w w2 := below_step h1 h2
theorem within_lit (low high : Int) (xs : List Int) (W : World) (g : Nat) (hg : W.heap.size = g) (hl : xs.length ≤ 100) (h0 : 0 < xs.length) :
    Calls Tryz.prog 69 #[.int .i64 low, .int .i64 high, .slice (some ⟨g, 0, none⟩) xs.length xs.length] (W.alloc (.cells (xs.map (Value.int .i64)).toArray 3)) fun e w' => e = .returned (.bool (!(xs.any (outB low high)))) ∧ Below (W.alloc (.cells (xs.map (Value.int .i64)).toArray 3)).heap.size (W.alloc (.cells (xs.map (Value.int .i64)).toArray 3)) w' := by
  subst hg
  exact Within_calls low high xs _ (isI_litN W 3 xs hl) h0

/-! ### standards -/
def encS (x : S33) : List Value := [.int .u8 x.f0, .int .i64 x.f1, .int .i64 x.f2, .int .i64 x.f3]
def aggS (x : S33) : Value := .agg #[.int .u8 x.f0, .int .i64 x.f1, .int .i64 x.f2, .int .i64 x.f3]
def rightS (x : S33) : Bool := decide (0 < x.f0) && (!([x.f1, x.f2].any (outB 1 999999)) && !([x.f3].any (outB 0 100000)))

set_option maxHeartbeats 2000000 in
theorem rightS_calls (x : S33) (w : World) : Calls Tryz.prog 68 #[aggS x] w fun e w' => e = .returned (.bool (rightS x)) ∧ Below w.heap.size w w' := by
  obtain ⟨a, b, c, d⟩ := x
  show Calls Tryz.prog 68 #[.agg #[.int .u8 a, .int .i64 b, .int .i64 c, .int .i64 d]] w fun e w' => e = .returned (.bool (decide (0 < a) && (!([b, c].any (outB 1 999999)) && !([d].any (outB 0 100000))))) ∧ Below w.heap.size w w'
  have HW1 := Aside0.mk (fun W g (h : W.heap.size = g) => within_lit 1 999999 [b, c] W g h (by simp) (by simp))
  have HW2 := Aside0.mk (fun W g (h : W.heap.size = g) => within_lit 0 100000 [d] W g h (by simp) (by simp))
  generalize [b, c].any (outB 1 999999) = r1 at *
  generalize [d].any (outB 0 100000) = r2 at *
  by_cases ha : 0 < a
  · rw [decide_eq_true ha]
    go_enter Tryz.func68, Tryz.ntmps68
    go_wp2_with fail
    refine (HW1.out (w.alloc _) _ (by simp)).mono ?_
    rintro e w1 ⟨rfl, b_⟩
    have HB := Aside0.mk (below_step (below_alloc (below_alloc (Below.refl w.heap.size w) _) _) b_)
    have hbox : w1.cell? ⟨w.heap.size, 3, none⟩ = some (.int .i64 d) := by
      rw [b_.cell (p := ⟨w.heap.size, 3, none⟩) (by simp; omega)]
      refine Lib.cell?_alloc_some _ ?_
      unfold World.cell?
      rw [heap_alloc_new]; rfl
    clear b_
    cases r1
    · go_wp2_with fail
      refine (HW2.out _ _ rfl).mono ?_
      rintro e w2 ⟨rfl, b_⟩
      have HB2 := Aside0.mk (below_step (below_alloc HB.out _) b_)
      clear b_ hbox
      go_wp2_with fail
      go_ret
      exact ⟨by simp, HB2.out⟩
    · go_wp2_with fail
      go_ret
      exact ⟨by simp, HB.out⟩
  · rw [decide_eq_false ha]
    have ha' : decide (0 < a) = false := decide_eq_false ha
    go_enter Tryz.func68, Tryz.ntmps68
    go_wp2_with fail
    go_ret
    exact ⟨by simp, below_alloc (Below.refl _ _) _⟩

/-- The closure that all hands on: what is not right. -/
theorem pred_allS (B : Nat) (w : World) (hB : B < w.heap.size) (hb : w.cell? ⟨B, 0, none⟩ = some (.func (.func 68) #[] #[])) :
    PredBelow Tryz.prog 96 #[.pointer (some ⟨B, 0, none⟩)] (fun x => .agg (encS x).toArray) (fun x => !rightS x) w := fun W x hW => by
  have h1 : W.cell? ⟨B, 0, none⟩ = some (.func (.func 68) #[] #[]) := (hW.cell (p := ⟨B, 0, none⟩) hB).trans hb
  show Calls Tryz.prog 96 #[.agg #[.int .u8 x.f0, .int .i64 x.f1, .int .i64 x.f2, .int .i64 x.f3], .pointer (some ⟨B, 0, none⟩)] W _
  have HR := Aside0.mk (fun W => rightS_calls x W)
  have HB := Aside0.mk hW
  have hBW : B < W.heap.size := Nat.lt_of_lt_of_le hB hW.size
  clear hW
  unfold aggS at HR
  obtain ⟨a, b, c, d⟩ := x
  go_enter Tryz.func96, Tryz.ntmps96
  go_wp2_with fail
  refine (HR.out _).mono ?_
  rintro e w1 ⟨rfl, b_⟩
  have HB2 := Aside0.mk (below_step (below_alloc HB.out _) b_)
  clear b_
  go_wp2_with fail
  go_ret
  exact ⟨rfl, HB2.out⟩

/-! ### byStandard -/
def cmpI3 (x y : Int) : Int := if x < y then -1 else if x > y then 1 else 0
def or3 (a b c : Int) : Int := if a = 0 then (if b = 0 then c else b) else a
def cmpS (x y : S33) : Int := or3 (cmpI3 x.f0 y.f0) (cmpI3 x.f1 y.f1) (cmpI3 x.f2 y.f2)

theorem compare_int_fn (a b : Int) : cmp_Compare_int.f a b = some (cmpI3 a b) := by
  unfold cmp_Compare_int.f cmp_isNaN_int.f cmpI3
  simp
  split <;> (try split) <;> rfl
theorem compare_u8_fn (a b : Int) : cmp_Compare_uint8.f a b = some (cmpI3 a b) := by
  unfold cmp_Compare_uint8.f cmp_isNaN_uint8.f cmpI3
  simp
  split <;> (try split) <;> rfl
theorem or_fn (a b c : Int) : cmp_Or_int.f 5 [a, b, c] = some (or3 a b c) := by
  unfold cmp_Or_int.f or3
  have e : (([a, b, c] : List Int).length : Int) = 3 := rfl
  have r0 : rd [a, b, c] 0 = a := rfl
  have r1 : rd [a, b, c] 1 = b := rfl
  have r2 : rd [a, b, c] 2 = c := rfl
  have w0 : wrap64 (0 + 1) = 1 := w64 (by decide) (by decide)
  have w1 : wrap64 (1 + 1) = 2 := w64 (by decide) (by decide)
  have w2 : wrap64 (2 + 1) = 3 := w64 (by decide) (by decide)
  simp only [cmp_Or_int.l0, e, r0, r1, r2, w0, w1, w2]
  by_cases ha : a = 0
  · by_cases hb : b = 0
    · by_cases hc : c = 0 <;> simp [ha, hb, hc]
    · simp [ha, hb]
  · simp [ha]

theorem byStandard_calls (x y : S33) (w : World) : Calls Tryz.prog 70 #[aggS x, aggS y] w fun e w' => e = .returned (.int .i64 (cmpS x y)) ∧ Below w.heap.size w w' := by
  refine claim_byStandard.calls 5 x.f0 x.f1 x.f2 x.f3 y.f0 y.f1 y.f2 y.f3 _ w ?_
  unfold claim_byStandard.f
  rw [compare_u8_fn, Option.bind_some, compare_int_fn, Option.bind_some, compare_int_fn, Option.bind_some, or_fn, Option.bind_some]
  rfl

/-! ### all, at standards -/
/-- Each is less than the next one. -/
def orderedS : List S33 → Bool
  | [] => true
  | [_] => true
  | x :: y :: l => decide (cmpS x y < 0) && orderedS (y :: l)
def rightL (l : List S33) : Bool := decide (l.length ≤ 500) && (l.all rightS && orderedS l)

/-- The slice reads as the list of standards. -/
def IsS (w : World) (v : Value) (l : List S33) : Prop := ∃ (A : Option Addr) (c : Nat), v = .slice A l.length c ∧ l.length ≤ c ∧ Kd.C k33 w A l.length l
theorem IsS.below {w w' : World} {v : Value} {l : List S33} (h : IsS w v l) (hb : Below w.heap.size w w') : IsS w' v l := by
  obtain ⟨A, c, h1, h2, h3⟩ := h
  exact ⟨A, c, h1, h2, Kd.C_below h3 hb⟩

theorem orderedS_iff : ∀ l : List S33, orderedS l = true ↔ ∀ i, i + 1 < l.length → cmpS (l.getD i z33) (l.getD (i + 1) z33) < 0
  | [] => by simp [orderedS]
  | [_] => by simp [orderedS]
  | x :: y :: l => by
    rw [orderedS, Bool.and_eq_true, decide_eq_true_eq, orderedS_iff (y :: l)]
    constructor
    · rintro ⟨h1, h2⟩ i hi
      cases i with
      | zero => exact h1
      | succ i => exact h2 i (by simpa using hi)
    · intro h
      exact ⟨h 0 (by simp), fun i hi => h (i + 1) (by simpa using hi)⟩

theorem cell_lt {w : World} {b off : Nat} {u : Value} (h : w.cell? ⟨b, off, none⟩ = some u) : b < w.heap.size := by
  unfold World.cell? at h
  rcases Nat.lt_or_ge b w.heap.size with h1 | h1
  · exact h1
  · rw [show w.heap[b]? = none from Array.getElem?_eq_none h1] at h
    simp at h

theorem S_plain {w : World} {A : Option Addr} {n : Nat} {xs : List S33} (h : Kd.C k33 w A n xs) (hn : 0 < n) : ∃ b off, A = some ⟨b, off, none⟩ ∧ b < w.heap.size := by
  obtain ⟨ad, c, e, _, hK, hc⟩ := Kd.C_get h z33 0 (by omega) (by omega)
  obtain rfl := k33_open hK
  have h1 := hc 0 _ rfl
  have hs := World.cell?_spot h1
  obtain ⟨b, off, spot⟩ := ad
  have hspot : spot = none := by simpa [Addr.add] using hs
  subst hspot
  rw [Go.WideShapes.add_plain] at h1
  exact ⟨b, off, e, cell_lt h1⟩

theorem S_cells {w : World} {b off n : Nat} {xs : List S33} (h : Kd.C k33 w (some ⟨b, off, none⟩) n xs) {j : Nat} (hj : j < n) : ∀ i v, (encS (xs.getD j z33))[i]? = some v → w.cell? ⟨b, off + j * 4 + i, none⟩ = some v := by
  obtain ⟨ad, c, e, _, hK, hc⟩ := Kd.C_get h z33 (j : Int) (by omega) (by omega)
  rw [Int.toNat_natCast] at hK hc
  obtain rfl := k33_open hK
  injection e with e
  subst e
  intro i v hi
  have h1 := hc i v hi
  rw [Go.WideShapes.add_plain, show k33.sz = 4 from rfl, ← Nat.add_assoc] at h1
  exact h1

theorem S_load {w : World} {b off n : Nat} {xs : List S33} (h : Kd.C k33 w (some ⟨b, off, none⟩) n xs) {j : Nat} (hj : j < n) :
    Sem.run Tryz.prog (loadCellsFrom ⟨b, off + j * 4, none⟩ 0 4 #[]) w = .ok (encS (xs.getD j z33)).toArray w :=
  run_loadCellsFrom_list Tryz.prog _ _ (encS (xs.getD j z33)) 4 rfl (fun i v hi => by
    rw [Addr.add_lit]
    exact S_cells h hj i v hi)

set_option maxHeartbeats 4000000 in
set_option maxRecDepth 100000 in
theorem allS_calls {v : Value} (l : List S33) (w : World) (hv : IsS w v l) (h0 : 0 < l.length) :
    Calls Tryz.prog 67 #[v, .int .i64 500, .func (.func 68) #[] #[], .func (.func 70) #[] #[]] w fun e w' => e = .returned (.bool (rightL l)) ∧ Below w.heap.size w w' := by
  obtain ⟨A, c, rfl, hc, hr⟩ := hv
  obtain ⟨b, off, rfl, hbl⟩ := S_plain hr h0
  have hmx := hr.2.1
  by_cases hbig : l.length > 500
  · have e : rightL l = false := by unfold rightL; rw [decide_eq_false (by omega)]; rfl
    rw [e]
    have hd : decide (500 < l.length) = true := decide_eq_true hbig
    go_enter Tryz.func67, Tryz.ntmps67
    go_wp2_with fail
    go_ret
    exact ⟨rfl, below_alloc (Below.refl _ _) _⟩
  · have hd : decide (500 < l.length) = false := decide_eq_false hbig
    have eg : ∀ args w, (callFunc 96 args).run Tryz.prog w = .ok (.enter 96 args) w := enters_of Tryz.func96 (by kernel_rfl) rfl
    obtain ⟨w1, hw1⟩ : ∃ w1, w1 = w.alloc (.cells #[.func (.func 68) #[] #[]] 111) := ⟨_, rfl⟩
    have hB1 : Below w.heap.size w w1 := by rw [hw1]; exact below_alloc (Below.refl _ _) _
    have hsz : w1.heap.size = w.heap.size + 1 := by rw [hw1]; simp
    have hc1 : w1.cell? ⟨w.heap.size, 0, none⟩ = some (.func (.func 68) #[] #[]) := by
      rw [hw1]
      unfold World.cell?
      rw [heap_alloc_new]; rfl
    letI : Inhabited S33 := ⟨z33⟩
    have hcon := AnyQ.slices_ContainsFunc shContS 4 Tryz.isAgg33 Tryz.sizeOf33 encS (fun _ => rfl) (fun x => !rightS x) 96 #[.pointer (some ⟨w.heap.size, 0, none⟩)] eg b off l.length c l w1
      (pred_allS w.heap.size w1 (by omega) hc1) (Nat.le_refl _) hmx (by omega) (fun j hj i v hi => S_cells (Kd.C_below hr hB1) hj i v (by
        rw [List.getElem!_eq_getElem?_getD] at hi
        rw [List.getD_eq_getElem?_getD]
        exact hi))
    rw [List.take_length] at hcon
    have HCON := Aside0.mk hcon
    have HB1 := Aside0.mk hB1
    have HR1 := Aside0.mk (Kd.C_below hr hB1)
    clear hcon hc1 hr hsz hB1
    have eany : l.any (fun x => !rightS x) = !(l.all rightS) := by rw [List.any_eq_not_all_not]; simp
    rw [eany] at HCON
    go_enter Tryz.func67, Tryz.ntmps67
    go_wp2_with fail
    rw [← hw1]
    refine HCON.out.mono ?_
    rintro e w2 ⟨rfl, b_⟩
    have HB2 := Aside0.mk (below_step HB1.out b_)
    have HR2 := Aside0.mk (Kd.C_below HR1.out b_)
    clear b_ HCON eany
    cases hall : l.all rightS
    · have e : rightL l = false := by unfold rightL; rw [hall]; simp
      have E := Aside0.mk e
      clear e hall
      go_wp2_with fail
      go_ret
      exact ⟨by rw [E.out]; rfl, HB2.out⟩
    · have HALL := Aside0.mk hall
      clear hall
      go_wp2_with fail
      go_loopw [9] (fun v9 W => ∃ j : Nat, 1 ≤ j ∧ j ≤ l.length ∧ v9 = .int .i64 j ∧ Aside0 (∀ i, i + 1 < j → cmpS (l.getD i z33) (l.getD (i + 1) z33) < 0) ∧ Aside0 (Below w.heap.size w W) ∧ Aside0 (Kd.C k33 W (some ⟨b, off, none⟩) l.length l)) (fun v9 _ => l.length - (intOf v9).toNat)
      case atStart => exact ⟨1, by omega, by omega, rfl, ⟨fun i hi => by omega⟩, HB2, HR2⟩
      case round =>
        obtain ⟨j, hj1, hj2, rfl, HO, HB, HR⟩ := hrel
        by_cases hj3 : j < l.length
        · have c1 : (j : Int) - 1 = ((j - 1 : Nat) : Int) := by omega
          have hx4 := S_cells HR.out (show j - 1 < l.length by omega)
          have hy4 := S_cells HR.out hj3
          obtain ⟨x, hx⟩ : ∃ x, x = l.getD (j - 1) z33 := ⟨_, rfl⟩
          obtain ⟨y, hy⟩ : ∃ y, y = l.getD j z33 := ⟨_, rfl⟩
          rw [← hx] at hx4
          rw [← hy] at hy4
          have x0 : wr.cell? ⟨b, off + (j - 1) * 4, none⟩ = some (.int .u8 x.f0) := hx4 0 _ rfl
          have x1 : wr.cell? ⟨b, off + (j - 1) * 4 + 1, none⟩ = some (.int .i64 x.f1) := hx4 1 _ rfl
          have x2 : wr.cell? ⟨b, off + (j - 1) * 4 + 2, none⟩ = some (.int .i64 x.f2) := hx4 2 _ rfl
          have x3 : wr.cell? ⟨b, off + (j - 1) * 4 + 3, none⟩ = some (.int .i64 x.f3) := hx4 3 _ rfl
          have y0 : wr.cell? ⟨b, off + j * 4, none⟩ = some (.int .u8 y.f0) := hy4 0 _ rfl
          have y1 : wr.cell? ⟨b, off + j * 4 + 1, none⟩ = some (.int .i64 y.f1) := hy4 1 _ rfl
          have y2 : wr.cell? ⟨b, off + j * 4 + 2, none⟩ = some (.int .i64 y.f2) := hy4 2 _ rfl
          have y3 : wr.cell? ⟨b, off + j * 4 + 3, none⟩ = some (.int .i64 y.f3) := hy4 3 _ rfl
          clear hx4 hy4
          have HXE := Aside0.mk hx
          have HYE := Aside0.mk hy
          have HCMP := Aside0.mk (fun W => byStandard_calls x y W)
          clear hx hy
          have hjm : ((j - 1 : Nat) : Int) < (l.length : Int) := by omega
          have hjn : (j : Int) < (l.length : Int) := by omega
          have hjw : IntKind.i64.wrap ((j - 1 : Nat) : Int) = ((j - 1 : Nat) : Int) := IntWalk.i64_in _ (by omega)
          have hjw2 : IntKind.i64.wrap (j : Int) = (j : Int) := IntWalk.i64_in _ (by omega)
          go_wp2_with fail
          have aE := Tryz.isAgg33
          have zE := Tryz.sizeOf33
          have uE := Tryz.underlying33
          unfold aggS at HCMP
          go_still_tail 10, (by kernel_rfl)
          change wpList _ _ _ _ _ wr.drew
          go_wp2_with fail
          refine (HCMP.out _).mono ?_
          rintro e w3 ⟨rfl, b_⟩
          have b2 : Below wr.heap.size wr w3 := below_step (pw_below_drewN (Below.refl wr.heap.size wr) 1) b_
          have HB3 := Aside0.mk (below_step HB.out b2)
          have HR3 := Aside0.mk (Kd.C_below HR.out b2)
          clear b_ b2 x0 x1 x2 x3 y0 y1 y2 y3 HCMP
          by_cases hcmp : cmpS x y < 0
          · have HO3 : Aside0 (∀ i, i + 1 < j + 1 → cmpS (l.getD i z33) (l.getD (i + 1) z33) < 0) := ⟨fun i hi => by
              rcases Nat.lt_or_ge (i + 1) j with h | h
              · exact HO.out i h
              · obtain rfl : i = j - 1 := by omega
                rw [← HXE.out, show j - 1 + 1 = j by omega, ← HYE.out]; exact hcmp⟩
            have hd2 : decide (0 ≤ cmpS x y) = false := decide_eq_false (by omega)
            generalize cmpS x y = r at *
            go_wp2_with fail
            go_roundw
            case rel => exact ⟨j + 1, by omega, by omega, by go_num, HO3, HB3, HR3⟩
            case measure => simp [intOf]; omega
          · have E : Aside0 (rightL l = false) := ⟨by
              unfold rightL
              have : orderedS l = false := by
                cases h : orderedS l
                · rfl
                · have h2 := (orderedS_iff l).1 h (j - 1) (by omega)
                  rw [← HXE.out, show j - 1 + 1 = j by omega, ← HYE.out] at h2
                  exact absurd h2 hcmp
              rw [this, Bool.and_false, Bool.and_false]⟩
            have hd2 : decide (0 ≤ cmpS x y) = true := decide_eq_true (by omega)
            generalize cmpS x y = r at *
            go_wp2_with fail
            go_ret
            exact ⟨by rw [E.out]; rfl, HB3.out⟩
        · obtain rfl : j = l.length := by omega
          have E : Aside0 (rightL l = true) := ⟨by
            unfold rightL
            rw [HALL.out, (orderedS_iff l).2 (fun i hi => HO.out i hi), decide_eq_true (by omega)]; rfl⟩
          go_wp2_with fail
          go_ret
          exact ⟨by rw [E.out]; rfl, HB.out⟩

end Go.Proofs.YteeacbgaehdodaaGreat

namespace Go.Proofs.YteeacbgaehdodaaGreat
set_option linter.unusedVariables false
open Go Go.RowKit Go.Shelf Go.Lib Go.Proofs.YteeacbgaehdodaaGreatW.PrintWords Go.Proofs.YteeacbgaehdodaaGreatW.PrintLast Go.Proofs.YteeacbgaehdodaaGreatW.PrintMore Go.Proofs.YteeacbgaehdodaaGreat.Fn

abbrev SS := S33
abbrev zS : SS := z33

/-! ### the order of standards -/
def ltS (x y : SS) : Prop := x.f0 < y.f0 ∨ (x.f0 = y.f0 ∧ (x.f1 < y.f1 ∨ (x.f1 = y.f1 ∧ x.f2 < y.f2)))
def eqS (x y : SS) : Prop := x.f0 = y.f0 ∧ x.f1 = y.f1 ∧ x.f2 = y.f2
theorem cmpI3_cases (x y : Int) : (x < y ∧ cmpI3 x y = -1) ∨ (x = y ∧ cmpI3 x y = 0) ∨ (y < x ∧ cmpI3 x y = 1) := by
  unfold cmpI3
  rcases Int.lt_trichotomy x y with h | h | h
  · left; exact ⟨h, if_pos h⟩
  · right; left; subst h; exact ⟨rfl, by rw [if_neg (by omega), if_neg (by omega)]⟩
  · right; right; exact ⟨h, by rw [if_neg (by omega), if_pos h]⟩
theorem cmpS_cases (x y : SS) : (cmpS x y < 0 ↔ ltS x y) ∧ (cmpS x y = 0 ↔ eqS x y) := by
  unfold cmpS or3 ltS eqS
  rcases cmpI3_cases x.f0 y.f0 with ⟨h, e⟩ | ⟨h, e⟩ | ⟨h, e⟩ <;> rw [e]
  · rw [if_neg (by decide)]; omega
  · rw [if_pos rfl]
    rcases cmpI3_cases x.f1 y.f1 with ⟨h', e'⟩ | ⟨h', e'⟩ | ⟨h', e'⟩ <;> rw [e']
    · rw [if_neg (by decide)]; omega
    · rw [if_pos rfl]
      rcases cmpI3_cases x.f2 y.f2 with ⟨h2, e2⟩ | ⟨h2, e2⟩ | ⟨h2, e2⟩ <;> rw [e2] <;> omega
    · rw [if_neg (by decide)]; omega
  · rw [if_neg (by decide)]; omega
theorem ltS_trans {x y z : SS} (h1 : ltS x y) (h2 : ltS y z) : ltS x z := by
  unfold ltS at *; omega

/-- strictly in order -/
def Sorted (l : List SS) : Prop := ∀ i j, i < j → j < l.length → ltS (l.getD i zS) (l.getD j zS)
theorem sorted_of {l : List SS} (h : orderedS l = true) : Sorted l := by
  have h0 := (orderedS_iff l).1 h
  intro i j hij
  induction j with
  | zero => omega
  | succ j ih =>
    intro hj
    have h1 := (cmpS_cases _ _).1.1 (h0 j hj)
    rcases Nat.lt_or_ge i j with h2 | h2
    · exact ltS_trans (ih h2 (by omega)) h1
    · obtain rfl : i = j := by omega
      exact h1

theorem indexS_empty (A : Option Addr) (c : Nat) (fv : Value) (w : World) : Calls Tryz.prog 119 #[.slice A 0 c, fv] w fun e w' => e = .returned (.int .i64 (-1)) ∧ w' = w := by
  go_enter Tryz.func119, Tryz.ntmps119
  go_wp2_with fail
  go_loopw [8] (fun v8 W => v8 = .int .i64 0 ∧ Aside0 (W = w)) (fun _ _ => 0)
  case atStart => exact ⟨rfl, ⟨rfl⟩⟩
  case round =>
    obtain ⟨rfl, HW⟩ := hrel
    go_wp2_with fail
    go_ret
    exact ⟨rfl, HW.out⟩
theorem containsS_empty (A : Option Addr) (c : Nat) (fv : Value) (w : World) : Calls Tryz.prog 95 #[.slice A 0 c, fv] w fun e w' => e = .returned (.bool false) ∧ w' = w := by
  go_enter Tryz.func95, Tryz.ntmps95
  go_wp2_with fail
  refine (indexS_empty A c fv _).mono ?_
  rintro e w1 ⟨rfl, rfl⟩
  go_wp2_with fail
  go_ret
  exact ⟨rfl, rfl⟩

set_option maxHeartbeats 4000000 in
set_option maxRecDepth 100000 in
theorem allS_empty {v : Value} (w : World) (hv : IsS w v []) :
    Calls Tryz.prog 67 #[v, .int .i64 500, .func (.func 68) #[] #[], .func (.func 70) #[] #[]] w fun e w' => e = .returned (.bool true) ∧ Below w.heap.size w w' := by
  obtain ⟨A, c, rfl, hc, hr⟩ := hv
  show Calls Tryz.prog 67 #[.slice A 0 c, .int .i64 500, .func (.func 68) #[] #[], .func (.func 70) #[] #[]] w _
  clear hr hc
  go_enter Tryz.func67, Tryz.ntmps67
  go_wp2_with fail
  refine (containsS_empty A c _ _).mono ?_
  rintro e w1 ⟨rfl, hw1⟩
  have HB : Aside0 (Below w.heap.size w w1) := ⟨by rw [hw1]; exact below_alloc (Below.refl _ _) _⟩
  clear hw1
  go_wp2_with fail
  go_loopw [9] (fun v9 W => v9 = .int .i64 1 ∧ Aside0 (Below w.heap.size w W)) (fun _ _ => 0)
  case atStart => exact ⟨rfl, HB⟩
  case round =>
    obtain ⟨rfl, HB⟩ := hrel
    go_wp2_with fail
    go_ret
    exact ⟨rfl, HB.out⟩

theorem RightS_calls {v : Value} (l : List SS) (w : World) (hv : IsS w v l) :
    Calls Tryz.prog 37 #[v] w fun e w' => e = .returned (.bool (rightL l)) ∧ Below w.heap.size w w' := by
  have H : Aside0 (∀ W, Below w.heap.size w W → Calls Tryz.prog 67 #[v, .int .i64 500, .func (.func 68) #[] #[], .func (.func 70) #[] #[]] W fun e w' => e = .returned (.bool (rightL l)) ∧ Below W.heap.size W w') := ⟨fun W hW => by
    have hv' := hv.below hW
    by_cases h0 : 0 < l.length
    · exact allS_calls l W hv' h0
    · obtain rfl : l = [] := List.length_eq_zero_iff.1 (by omega)
      exact allS_empty W hv'⟩
  obtain ⟨A, c, rfl, hc, hr⟩ := hv
  clear hc hr
  go_enter Tryz.func37, Tryz.ntmps37
  go_wp2_with fail
  refine (H.out _ (Below.refl _ _)).mono ?_
  rintro e w1 ⟨rfl, b_⟩
  go_wp2_with fail
  go_ret
  exact ⟨rfl, b_⟩

/-! ### the search -/
theorem leS_of {l : List SS} (hs : Sorted l) {t : SS} {i j : Nat} (hij : i ≤ j) (hj : j < l.length) (h : ltS (l.getD j zS) t) : ltS (l.getD i zS) t := by
  rcases Nat.lt_or_ge i j with h1 | h1
  · exact ltS_trans (hs i j h1 hj) h
  · obtain rfl : i = j := by omega
    exact h
theorem geS_of {l : List SS} (hs : Sorted l) {t : SS} {i j : Nat} (hij : i ≤ j) (hj : j < l.length) (h : ¬ ltS (l.getD i zS) t) : ¬ ltS (l.getD j zS) t :=
  fun h2 => h (leS_of hs hij hj h2)

/-- the place where t is, or would be -/
def At (l : List SS) (t : SS) (i : Nat) : Prop := i ≤ l.length ∧ (∀ k, k < i → ltS (l.getD k zS) t) ∧ (∀ k, i ≤ k → k < l.length → ¬ ltS (l.getD k zS) t)
def foundB (l : List SS) (t : SS) (i : Nat) : Bool := decide (i < l.length) && decide (cmpS (l.getD i zS) t = 0)

set_option maxHeartbeats 8000000 in
set_option maxRecDepth 100000 in
theorem Search_calls {v : Value} (l : List SS) (t : SS) (w : World) (hv : IsS w v l) (hs : Sorted l) (hl : l.length ≤ 500) :
    Calls Tryz.prog 106 #[v, aggS t, .func (.func 70) #[] #[]] w fun e w' => (∃ i : Nat, e = .returned (.tuple #[.int .i64 i, .bool (foundB l t i)]) ∧ At l t i) ∧ Below w.heap.size w w' := by
  obtain ⟨A, c, rfl, hc, hr⟩ := hv
  have HR := Aside0.mk hr
  have HS := Aside0.mk hs
  clear hr hs
  obtain ⟨t0, t1, t2, t3⟩ := t
  show Calls Tryz.prog 106 #[.slice A l.length c, .agg #[.int .u8 t0, .int .i64 t1, .int .i64 t2, .int .i64 t3], .func (.func 70) #[] #[]] w _
  obtain ⟨w1, hw1⟩ : ∃ w1, w1 = w.alloc (.cells #[.int .u8 t0, .int .i64 t1, .int .i64 t2, .int .i64 t3] 33) := ⟨_, rfl⟩
  have HB1 : Aside0 (Below w.heap.size w w1) := ⟨by rw [hw1]; exact below_alloc (Below.refl _ _) _⟩
  have hsz : w.heap.size < w1.heap.size := by rw [hw1]; simp
  have HT : Aside0 (∀ i u, (encS ⟨t0, t1, t2, t3⟩)[i]? = some u → w1.cell? ⟨w.heap.size, i, none⟩ = some u) := ⟨fun i u hi => by
    rw [hw1]
    unfold World.cell?
    rw [heap_alloc_new]
    show (#[.int .u8 t0, .int .i64 t1, .int .i64 t2, .int .i64 t3] : Array Value)[i]? = some u
    rw [← hi]; simp [encS]⟩
  go_enter Tryz.func106, Tryz.ntmps106
  go_wp2_with fail
  rw [← hw1]
  go_loopw [9, 10] (fun v9 v10 W => ∃ lo hi : Nat, v9 = .int .i64 lo ∧ v10 = .int .i64 hi ∧ lo ≤ hi ∧ hi ≤ l.length ∧ Aside0 (∀ k, k < lo → ltS (l.getD k zS) ⟨t0, t1, t2, t3⟩) ∧ Aside0 (∀ k, hi ≤ k → k < l.length → ¬ ltS (l.getD k zS) ⟨t0, t1, t2, t3⟩) ∧ Aside0 (Below w1.heap.size w1 W)) (fun v9 v10 _ => (intOf v10).toNat - (intOf v9).toNat)
  case atStart => exact ⟨0, l.length, rfl, rfl, by omega, by omega, ⟨fun k hk => by omega⟩, ⟨fun k hk hk2 => by omega⟩, ⟨Below.refl _ _⟩⟩
  case round =>
    obtain ⟨lo, hi, rfl, rfl, hlh, hhl, HLO, HHI, HB⟩ := hrel
    have HRW := Kd.C_below HR.out (below_step HB1.out HB.out)
    have q0 : wr.cell? ⟨w.heap.size, 0, none⟩ = some (.int .u8 t0) := (HB.out.cell (p := ⟨w.heap.size, 0, none⟩) hsz).trans (HT.out 0 _ rfl)
    have q1 : wr.cell? ⟨w.heap.size, 1, none⟩ = some (.int .i64 t1) := (HB.out.cell (p := ⟨w.heap.size, 1, none⟩) hsz).trans (HT.out 1 _ rfl)
    have q2 : wr.cell? ⟨w.heap.size, 2, none⟩ = some (.int .i64 t2) := (HB.out.cell (p := ⟨w.heap.size, 2, none⟩) hsz).trans (HT.out 2 _ rfl)
    have q3 : wr.cell? ⟨w.heap.size, 3, none⟩ = some (.int .i64 t3) := (HB.out.cell (p := ⟨w.heap.size, 3, none⟩) hsz).trans (HT.out 3 _ rfl)
    have aE := Tryz.isAgg33
    have zE := Tryz.sizeOf33
    by_cases hlt : lo < hi
    · obtain ⟨b, off, rfl, hbl⟩ := S_plain HRW (by omega)
      obtain ⟨h, hh⟩ : ∃ h, h = (lo + hi) / 2 := ⟨_, rfl⟩
      have c1 : ((lo : Int) + (hi : Int)) / 2 = (h : Int) := by omega
      have hhl2 : h < l.length := by omega
      have hlh2 : lo ≤ h := by omega
      have hlh3 : h < hi := by omega
      have hy4 := S_cells HRW hhl2
      obtain ⟨y, hy⟩ : ∃ y, y = l.getD h z33 := ⟨_, rfl⟩
      rw [← hy] at hy4
      have y0 : wr.cell? ⟨b, off + h * 4, none⟩ = some (.int .u8 y.f0) := hy4 0 _ rfl
      have y1 : wr.cell? ⟨b, off + h * 4 + 1, none⟩ = some (.int .i64 y.f1) := hy4 1 _ rfl
      have y2 : wr.cell? ⟨b, off + h * 4 + 2, none⟩ = some (.int .i64 y.f2) := hy4 2 _ rfl
      have y3 : wr.cell? ⟨b, off + h * 4 + 3, none⟩ = some (.int .i64 y.f3) := hy4 3 _ rfl
      have HYE := Aside0.mk hy
      have HCMP := Aside0.mk (fun W => byStandard_calls y ⟨t0, t1, t2, t3⟩ W)
      clear hy4 hy HRW hh
      have hwh : IntKind.i64.wrap (h : Int) = (h : Int) := IntWalk.i64_in _ (by omega)
      have hhi2 : (h : Int) < (l.length : Int) := by omega
      go_wp2_with fail
      unfold aggS at HCMP
      go_still_tail 6, (by kernel_rfl)
      change wpList _ _ _ _ _ wr.drew
      go_wp2_with fail
      refine (HCMP.out _).mono ?_
      rintro e w3 ⟨rfl, b_⟩
      have HB3 := Aside0.mk (show Below w1.heap.size w1 w3 from below_step HB.out (below_step (pw_below_drewN (Below.refl wr.heap.size wr) 1) b_))
      clear b_ y0 y1 y2 y3 q0 q1 q2 q3 HCMP
      have hcs := (cmpS_cases y ⟨t0, t1, t2, t3⟩).1
      by_cases hcmp : cmpS y ⟨t0, t1, t2, t3⟩ < 0
      · have HLO2 : Aside0 (∀ k, k < h + 1 → ltS (l.getD k zS) ⟨t0, t1, t2, t3⟩) := ⟨fun k hk => leS_of HS.out (show k ≤ h by omega) hhl2 (by rw [show l.getD h zS = y from HYE.out.symm]; exact hcs.1 hcmp)⟩
        generalize cmpS y ⟨t0, t1, t2, t3⟩ = r at *
        clear hcs
        go_wp2_with fail
        go_roundw
        case rel => exact ⟨h + 1, hi, by go_num, rfl, by omega, by omega, HLO2, HHI, HB3⟩
        case measure => simp [intOf]; omega
      · have HHI2 : Aside0 (∀ k, h ≤ k → k < l.length → ¬ ltS (l.getD k zS) ⟨t0, t1, t2, t3⟩) := ⟨fun k hk hk2 => geS_of HS.out hk hk2 (by rw [show l.getD h zS = y from HYE.out.symm]; exact fun h2 => hcmp (hcs.2 h2))⟩
        generalize cmpS y ⟨t0, t1, t2, t3⟩ = r at *
        clear hcs
        go_wp2_with fail
        go_roundw
        case rel => exact ⟨lo, h, rfl, by go_num, by omega, by omega, HLO, HHI2, HB3⟩
        case measure => simp [intOf]; omega
    · obtain rfl : lo = hi := by omega
      have HAT : Aside0 (At l ⟨t0, t1, t2, t3⟩ lo) := ⟨hhl, HLO.out, HHI.out⟩
      by_cases hin : lo < l.length
      · obtain ⟨b, off, rfl, hbl⟩ := S_plain HRW (by omega)
        have hy4 := S_cells HRW hin
        obtain ⟨y, hy⟩ : ∃ y, y = l.getD lo z33 := ⟨_, rfl⟩
        rw [← hy] at hy4
        have y0 : wr.cell? ⟨b, off + lo * 4, none⟩ = some (.int .u8 y.f0) := hy4 0 _ rfl
        have y1 : wr.cell? ⟨b, off + lo * 4 + 1, none⟩ = some (.int .i64 y.f1) := hy4 1 _ rfl
        have y2 : wr.cell? ⟨b, off + lo * 4 + 2, none⟩ = some (.int .i64 y.f2) := hy4 2 _ rfl
        have y3 : wr.cell? ⟨b, off + lo * 4 + 3, none⟩ = some (.int .i64 y.f3) := hy4 3 _ rfl
        have HCMP := Aside0.mk (fun W => byStandard_calls y ⟨t0, t1, t2, t3⟩ W)
        have EF : Aside0 (foundB l ⟨t0, t1, t2, t3⟩ lo = decide (cmpS y ⟨t0, t1, t2, t3⟩ = 0)) := ⟨by unfold foundB; rw [decide_eq_true hin, hy]; rfl⟩
        clear hy4 hy HRW
        have hwh : IntKind.i64.wrap (lo : Int) = (lo : Int) := IntWalk.i64_in _ (by omega)
        have hhi2 : (lo : Int) < (l.length : Int) := by omega
        have hd : decide ((lo : Int) < (l.length : Int)) = true := decide_eq_true hhi2
        have hd' : decide (lo < l.length) = true := decide_eq_true hin
        have hbt : w.heap.size < wr.heap.size := Nat.lt_of_lt_of_le hsz HB.out.size
        unfold aggS at HCMP
        obtain ⟨r, hr⟩ : ∃ r, r = cmpS y ⟨t0, t1, t2, t3⟩ := ⟨_, rfl⟩
        rw [← hr] at EF HCMP
        clear hr
        go_wp2_with fail
        go_region_held3 (fun W' => W'.cell? ⟨b, off + lo * 4, none⟩ = some (.int .u8 y.f0) ∧ W'.cell? ⟨b, off + lo * 4 + 1, none⟩ = some (.int .i64 y.f1) ∧ W'.cell? ⟨b, off + lo * 4 + 2, none⟩ = some (.int .i64 y.f2) ∧ W'.cell? ⟨b, off + lo * 4 + 3, none⟩ = some (.int .i64 y.f3) ∧ W'.cell? ⟨w.heap.size, 0, none⟩ = some (.int .u8 t0) ∧ W'.cell? ⟨w.heap.size, 1, none⟩ = some (.int .i64 t1) ∧ W'.cell? ⟨w.heap.size, 2, none⟩ = some (.int .i64 t2) ∧ W'.cell? ⟨w.heap.size, 3, none⟩ = some (.int .i64 t3)) (go_keep)
          (first
            | (go_at_call 70; refine (HCMP.out _).mono ?_; rintro e w3 ⟨rfl, b_⟩; have k0 : w3.cell? ⟨b, off + lo * 4, none⟩ = some (.int .u8 y.f0) := (b_.cell (p := ⟨b, off + lo * 4, none⟩) hbl).trans y0; have k1 : w3.cell? ⟨b, off + lo * 4 + 1, none⟩ = some (.int .i64 y.f1) := (b_.cell (p := ⟨b, off + lo * 4 + 1, none⟩) hbl).trans y1; have k2 : w3.cell? ⟨b, off + lo * 4 + 2, none⟩ = some (.int .i64 y.f2) := (b_.cell (p := ⟨b, off + lo * 4 + 2, none⟩) hbl).trans y2; have k3 : w3.cell? ⟨b, off + lo * 4 + 3, none⟩ = some (.int .i64 y.f3) := (b_.cell (p := ⟨b, off + lo * 4 + 3, none⟩) hbl).trans y3; have m0 : w3.cell? ⟨w.heap.size, 0, none⟩ = some (.int .u8 t0) := (b_.cell (p := ⟨w.heap.size, 0, none⟩) hbt).trans q0; have m1 : w3.cell? ⟨w.heap.size, 1, none⟩ = some (.int .i64 t1) := (b_.cell (p := ⟨w.heap.size, 1, none⟩) hbt).trans q1; have m2 : w3.cell? ⟨w.heap.size, 2, none⟩ = some (.int .i64 t2) := (b_.cell (p := ⟨w.heap.size, 2, none⟩) hbt).trans q2; have m3 : w3.cell? ⟨w.heap.size, 3, none⟩ = some (.int .i64 t3) := (b_.cell (p := ⟨w.heap.size, 3, none⟩) hbt).trans q3; have HB3 := Aside0.mk (show Below w1.heap.size w1 w3 from below_step HB.out (below_step (pw_below_drewN (Below.refl wr.heap.size wr) 1) b_)); clear b_))
        go_wp2_with fail
        go_ret2
        exact ⟨⟨lo, by rw [EF.out]; rfl, HAT.out⟩, below_step HB1.out HB3.out⟩
      · have EF : Aside0 (foundB l ⟨t0, t1, t2, t3⟩ lo = false) := ⟨by unfold foundB; rw [decide_eq_false hin]; rfl⟩
        have hd : decide ((lo : Int) < (l.length : Int)) = false := decide_eq_false (by omega)
        have hd' : decide (lo < l.length) = false := decide_eq_false hin
        go_wp2_with fail
        go_quiet (fail)
        go_wp2_with fail
        go_ret2
        exact ⟨⟨lo, by rw [EF.out]; rfl, HAT.out⟩, below_step HB1.out (pw_below_drewN HB.out _)⟩

/-! ### Promise -/
def lookS (l : List SS) (c f t : Int) : Option SS := l.find? fun x => decide (x.f0 = c ∧ x.f1 = f ∧ x.f2 = t)
def promR (l : List SS) (c f t acc : Int) : Int × Int :=
  if rightL l = false ∨ acc < 0 then (0, 2) else
  match lookS l c f t with
  | none => (0, 6)
  | some y => if acc > 1051898399 - y.f3 then (0, 3) else ((acc + y.f3) - (acc + y.f3) % 1440 + 1440 - 1, 0)

theorem getD_of {l : List SS} {k : Nat} (h : k < l.length) : l.getD k zS = l[k] := by rw [List.getD_eq_getElem?_getD, List.getElem?_eq_getElem h]; rfl

theorem look_found {l : List SS} {t : SS} {i : Nat} (hat : At l t i) (h : foundB l t i = true) : i < l.length ∧ lookS l t.f0 t.f1 t.f2 = some (l.getD i zS) := by
  unfold foundB at h
  rw [Bool.and_eq_true, decide_eq_true_eq, decide_eq_true_eq] at h
  obtain ⟨h1, h2⟩ := h
  refine ⟨h1, ?_⟩
  have he := (cmpS_cases _ _).2.1 h2
  unfold lookS
  rw [List.find?_eq_some_iff_getElem]
  refine ⟨decide_eq_true he, i, h1, (getD_of h1).symm, fun j hj => ?_⟩
  have hlt := hat.2.1 j hj
  rw [getD_of (show j < l.length by omega)] at hlt
  rw [Bool.not_eq_true', decide_eq_false_iff_not]
  unfold ltS at hlt
  omega

theorem look_none {l : List SS} {t : SS} {i : Nat} (hs : Sorted l) (hat : At l t i) (h : foundB l t i = false) : lookS l t.f0 t.f1 t.f2 = none := by
  unfold lookS
  rw [List.find?_eq_none]
  intro x hx
  obtain ⟨k, hk, rfl⟩ := List.mem_iff_getElem.1 hx
  rw [decide_eq_true_eq]
  intro he
  rcases Nat.lt_or_ge k i with h1 | h1
  · have hlt := hat.2.1 k h1
    rw [getD_of hk] at hlt
    unfold ltS at hlt
    omega
  · have hni : i < l.length := by omega
    have hge := hat.2.2 i (Nat.le_refl _) hni
    rcases Nat.lt_or_ge i k with h2 | h2
    · have h3 := hs i k h2 hk
      rw [getD_of hk] at h3
      unfold ltS at h3 hge
      omega
    · obtain rfl : i = k := by omega
      unfold foundB at h
      rw [decide_eq_true hni, Bool.true_and, decide_eq_false_iff_not] at h
      exact h ((cmpS_cases _ _).2.2 (by rw [getD_of hk]; exact he))

theorem rightL_parts {l : List SS} (h : rightL l = true) : l.length ≤ 500 ∧ (∀ x ∈ l, rightS x = true) ∧ Sorted l := by
  unfold rightL at h
  rw [Bool.and_eq_true, Bool.and_eq_true, decide_eq_true_eq, List.all_eq_true] at h
  exact ⟨h.1, h.2.1, sorted_of h.2.2⟩
theorem rightS_parts {x : SS} (h : rightS x = true) : 0 < x.f0 ∧ (1 ≤ x.f1 ∧ x.f1 ≤ 999999) ∧ (1 ≤ x.f2 ∧ x.f2 ≤ 999999) ∧ 0 ≤ x.f3 ∧ x.f3 ≤ 100000 := by
  unfold rightS outB at h
  simp at h
  omega

set_option maxHeartbeats 4000000 in
set_option maxRecDepth 100000 in
theorem Promise_calls {v : Value} (l : List SS) (c f t acc : Int) (w : World) (hv : IsS w v l) (ha0 : -9223372036854775808 ≤ acc) (ha1 : acc ≤ 9223372036854775807) :
    Calls Tryz.prog 78 #[v, .int .u8 c, .int .i64 f, .int .i64 t, .int .i64 acc] w fun e w' => e = .returned (.tuple #[.int .i64 (promR l c f t acc).1, .int .i64 (promR l c f t acc).2]) ∧ Below w.heap.size w w' := by
  have HV := Aside0.mk hv
  have HRC := Aside0.mk (fun W (h : Below w.heap.size w W) => RightS_calls l W (hv.below h))
  obtain ⟨A, cc, rfl, hc, hr⟩ := hv
  clear hc hr
  cases hright : rightL l
  · have E : Aside0 (promR l c f t acc = (0, 2)) := ⟨by unfold promR; rw [if_pos (.inl hright)]⟩
    rw [hright] at HRC
    go_enter Tryz.func78, Tryz.ntmps78
    go_wp2_with fail
    refine (HRC.out _ (Below.refl _ _)).mono ?_
    rintro e w1 ⟨rfl, b1⟩
    go_wp2_with fail
    go_ret2
    exact ⟨by rw [E.out]; rfl, b1⟩
  · rw [hright] at HRC
    by_cases hacc : acc < 0
    · have E : Aside0 (promR l c f t acc = (0, 2)) := ⟨by unfold promR; rw [if_pos (.inr hacc)]⟩
      go_enter Tryz.func78, Tryz.ntmps78
      go_wp2_with fail
      refine (HRC.out _ (Below.refl _ _)).mono ?_
      rintro e w1 ⟨rfl, b1⟩
      go_wp2_with fail
      go_ret2
      exact ⟨by rw [E.out]; rfl, b1⟩
    · obtain ⟨hp1, hp2, hp3⟩ := rightL_parts hright
      have hacc' : decide (acc < 0) = false := decide_eq_false hacc
      have HSC := Aside0.mk (fun W (h : Below w.heap.size w W) => Search_calls l ⟨c, f, t, 0⟩ W (HV.out.below h) hp3 hp1)
      go_enter Tryz.func78, Tryz.ntmps78
      go_wp2_with fail
      refine (HRC.out _ (Below.refl _ _)).mono ?_
      rintro e w1 ⟨rfl, b1⟩
      go_wp2_with fail
      refine (HSC.out _ b1).mono ?_
      rintro e w2 ⟨⟨i, rfl, hat⟩, b2⟩
      have HB := Aside0.mk (below_step b1 b2)
      have HV2 := Aside0.mk ((HV.out.below b1).below b2)
      clear b1 b2
      cases hfound : foundB l ⟨c, f, t, 0⟩ i
      · have E : Aside0 (promR l c f t acc = (0, 6)) := ⟨by
          unfold promR
          rw [if_neg (show ¬ (rightL l = false ∨ acc < 0) from fun h => h.elim (fun h => by rw [hright] at h; cases h) (fun h => by omega)), show lookS l c f t = none from look_none hp3 hat hfound]⟩
        go_wp2_with fail
        go_ret2
        exact ⟨by rw [E.out]; rfl, HB.out⟩
      · obtain ⟨hil, hlook⟩ := look_found hat hfound
        obtain ⟨_, _, e0, _, hr2⟩ := HV2.out
        injection e0 with e1 _ e3
        subst e1
        obtain ⟨b, off, rfl, hbl⟩ := S_plain hr2 (by omega)
        have hcell := S_cells hr2 hil 3 (.int .i64 (l.getD i zS).f3) rfl
        obtain ⟨y, hy⟩ : ∃ y, y = l.getD i zS := ⟨_, rfl⟩
        rw [← hy] at hcell
        have hyr := rightS_parts (hp2 y (by rw [hy, getD_of hil]; exact List.getElem_mem hil))
        have hyl : lookS l c f t = some y := by rw [hy]; exact hlook
        have hm := hyr.2.2.2
        clear hr2 hlook hyr hy hat HV2 hp2 hp3
        have hi2 : (i : Int) < (l.length : Int) := by omega
        have hwi : IntKind.i64.wrap (i : Int) = (i : Int) := IntWalk.i64_in _ (by omega)
        by_cases hlong : acc > 1051898399 - y.f3
        · have E : Aside0 (promR l c f t acc = (0, 3)) := ⟨by
            unfold promR
            rw [if_neg (show ¬ (rightL l = false ∨ acc < 0) from fun h => h.elim (fun h => by rw [hright] at h; cases h) (fun h => by omega)), hyl]
            show (if acc > 1051898399 - y.f3 then _ else _) = _
            rw [if_pos hlong]⟩
          go_wp2_with fail
          go_ret2
          exact ⟨by rw [E.out]; rfl, HB.out⟩
        · have E : Aside0 (promR l c f t acc = ((acc + y.f3) - (acc + y.f3) % 1440 + 1440 - 1, 0)) := ⟨by
            unfold promR
            rw [if_neg (show ¬ (rightL l = false ∨ acc < 0) from fun h => h.elim (fun h => by rw [hright] at h; cases h) (fun h => by omega)), hyl]
            show (if acc > 1051898399 - y.f3 then _ else _) = _
            rw [if_neg hlong]⟩
          have ht : Int.tmod (acc + y.f3) 1440 = (acc + y.f3) % 1440 := Int.tmod_eq_emod_of_nonneg (by omega)
          go_wp2_with fail
          go_ret2
          exact ⟨by rw [E.out]; rfl, HB.out⟩

end Go.Proofs.YteeacbgaehdodaaGreat

namespace Go.Proofs.YteeacbgaehdodaaGreat
set_option linter.unusedVariables false
open Go Go.RowKit Go.Shelf Go.Lib Go.Proofs.YteeacbgaehdodaaGreatW.PrintWords Go.Proofs.YteeacbgaehdodaaGreatW.PrintLast Go.Proofs.YteeacbgaehdodaaGreatW.PrintMore Go.Proofs.YteeacbgaehdodaaGreat.Fn

abbrev SX := S35
abbrev zX : SX := z35

def encX (x : SX) : List Value := [.int .i64 x.f0, .int .u8 x.f1, .int .i64 x.f2, .int .i64 x.f3, .int .i64 x.f4, .int .i64 x.f5]
def aggX (x : SX) : Value := .agg #[.int .i64 x.f0, .int .u8 x.f1, .int .i64 x.f2, .int .i64 x.f3, .int .i64 x.f4, .int .i64 x.f5]
def cmpX (x y : SX) : Int := cmpI3 x.f0 y.f0
def rightX (x : SX) : Bool := decide (0 < x.f1) && (!([x.f0, x.f2, x.f3].any (outB 1 999999)) && (!([x.f4].any (outB 0 1051898399)) && (decide (x.f5 = -1) || !([x.f5].any (outB x.f4 1051898399)))))

set_option maxHeartbeats 2000000 in
theorem byItem_calls0 (n : Nat) (hn : n = 73 ∨ n = 77) (x y : SX) (w : World) : Calls Tryz.prog n #[aggX x, aggX y] w fun e w' => e = .returned (.int .i64 (cmpX x y)) ∧ (∃ q os, w' = Go.Sort.grow (w.drewN q) os) ∧ Below w.heap.size w w' := by
  obtain ⟨a, b, c, d, e5, e6⟩ := x
  obtain ⟨a', b', c', d', e5', e6'⟩ := y
  unfold aggX cmpX
  rcases hn with rfl | rfl
  · go_enter Tryz.func73, Tryz.ntmps73
    go_wp2_with fail
    refine (cmp_Compare_int.calls a a' _ _ (compare_int_fn a a')).mono ?_
    rintro e w1 ⟨rfl, ⟨q, rfl⟩⟩
    go_wp2_with fail
    go_ret
    exact ⟨rfl, ⟨q, _, by rw [Go.Sort.alloc_eq_grow, Go.Sort.alloc_eq_grow, Go.Sort.grow_grow]; rfl⟩, pw_below_drewN (below_alloc (below_alloc (Below.refl _ _) _) _) q⟩
  · go_enter Tryz.func77, Tryz.ntmps77
    go_wp2_with fail
    refine (cmp_Compare_int.calls a a' _ _ (compare_int_fn a a')).mono ?_
    rintro e w1 ⟨rfl, ⟨q, rfl⟩⟩
    go_wp2_with fail
    go_ret
    exact ⟨rfl, ⟨q, _, by rw [Go.Sort.alloc_eq_grow, Go.Sort.alloc_eq_grow, Go.Sort.grow_grow]; rfl⟩, pw_below_drewN (below_alloc (below_alloc (Below.refl _ _) _) _) q⟩

theorem byItem_calls (x y : SX) (w : World) : Calls Tryz.prog 77 #[aggX x, aggX y] w fun e w' => e = .returned (.int .i64 (cmpX x y)) ∧ Below w.heap.size w w' :=
  (byItem_calls0 _ (.inr rfl) x y w).mono fun _ _ h => ⟨h.1, h.2.2⟩

theorem box_cell (w : World) (A : Array Value) (e k : Nat) (u : Value) (h : A[k]? = some u) : (w.alloc (.cells A e)).cell? ⟨w.heap.size, k, none⟩ = some u := by
  unfold World.cell?
  rw [heap_alloc_new]
  exact h

set_option maxHeartbeats 4000000 in
theorem rightX_calls (x : SX) (w : World) : Calls Tryz.prog 76 #[aggX x] w fun e w' => e = .returned (.bool (rightX x)) ∧ Below w.heap.size w w' := by
  obtain ⟨a, b, c, d, p, q⟩ := x
  show Calls Tryz.prog 76 #[.agg #[.int .i64 a, .int .u8 b, .int .i64 c, .int .i64 d, .int .i64 p, .int .i64 q]] w fun e w' => e = .returned (.bool (decide (0 < b) && (!([a, c, d].any (outB 1 999999)) && (!([p].any (outB 0 1051898399)) && (decide (q = -1) || !([q].any (outB p 1051898399))))))) ∧ Below w.heap.size w w'
  have HW1 := Aside0.mk (fun W g (h : W.heap.size = g) => within_lit 1 999999 [a, c, d] W g h (by simp) (by simp))
  have HW2 := Aside0.mk (fun W g (h : W.heap.size = g) => within_lit 0 1051898399 [p] W g h (by simp) (by simp))
  have HW3 := Aside0.mk (fun W g (h : W.heap.size = g) => within_lit p 1051898399 [q] W g h (by simp) (by simp))
  generalize [a, c, d].any (outB 1 999999) = r1 at *
  generalize [p].any (outB 0 1051898399) = r2 at *
  generalize [q].any (outB p 1051898399) = r3 at *
  by_cases hb : 0 < b
  · rw [decide_eq_true hb]
    go_enter Tryz.func76, Tryz.ntmps76
    go_wp2_with fail
    refine (HW1.out (w.alloc _) _ (by simp)).mono ?_
    rintro e w1 ⟨rfl, b_⟩
    have HB := Aside0.mk (below_step (below_alloc (below_alloc (Below.refl w.heap.size w) _) _) b_)
    have hlt : w.heap.size < w1.heap.size := Nat.lt_of_lt_of_le (by simp; omega) b_.size
    have k4 : w1.cell? ⟨w.heap.size, 4, none⟩ = some (.int .i64 p) := by
      rw [b_.cell (p := ⟨w.heap.size, 4, none⟩) (by simp; omega)]
      exact Lib.cell?_alloc_some _ (box_cell w _ _ 4 _ rfl)
    have k5 : w1.cell? ⟨w.heap.size, 5, none⟩ = some (.int .i64 q) := by
      rw [b_.cell (p := ⟨w.heap.size, 5, none⟩) (by simp; omega)]
      exact Lib.cell?_alloc_some _ (box_cell w _ _ 5 _ rfl)
    clear b_
    cases r1
    · go_wp2_with fail
      refine (HW2.out _ _ rfl).mono ?_
      rintro e w2 ⟨rfl, b_⟩
      have HB2 := Aside0.mk (below_step (below_alloc HB.out _) b_)
      have hlt2 : w.heap.size < w2.heap.size := Nat.lt_of_lt_of_le (by simp; omega) b_.size
      have k4' : w2.cell? ⟨w.heap.size, 4, none⟩ = some (.int .i64 p) := by
        rw [b_.cell (p := ⟨w.heap.size, 4, none⟩) (by simp; omega)]
        exact Lib.cell?_alloc_some _ k4
      have k5' : w2.cell? ⟨w.heap.size, 5, none⟩ = some (.int .i64 q) := by
        rw [b_.cell (p := ⟨w.heap.size, 5, none⟩) (by simp; omega)]
        exact Lib.cell?_alloc_some _ k5
      clear b_ k4 k5
      cases r2
      · by_cases hq : q = -1
        · subst hq
          go_wp2_with fail
          go_ret
          exact ⟨by simp, HB2.out⟩
        · have hq' : (q == -1) = false := by rw [beq_eq_false_iff_ne]; exact hq
          go_wp2_with fail
          refine (HW3.out _ _ rfl).mono ?_
          rintro e w3 ⟨rfl, b_⟩
          have HB3 := Aside0.mk (below_step (below_alloc HB2.out _) b_)
          clear b_
          go_wp2_with fail
          go_ret
          exact ⟨by simp [hq], HB3.out⟩
      · go_wp2_with fail
        go_ret
        exact ⟨by simp, HB2.out⟩
    · go_wp2_with fail
      go_ret
      exact ⟨by simp, HB.out⟩
  · rw [decide_eq_false hb]
    have hb' : decide (0 < b) = false := decide_eq_false hb
    go_enter Tryz.func76, Tryz.ntmps76
    go_wp2_with fail
    go_ret
    exact ⟨by simp, below_alloc (Below.refl _ _) _⟩


/-- The closure that all hands on: what is not right. -/
theorem pred_allX (B : Nat) (w : World) (hB : B < w.heap.size) (hb : w.cell? ⟨B, 0, none⟩ = some (.func (.func 76) #[] #[])) :
    PredBelow Tryz.prog 105 #[.pointer (some ⟨B, 0, none⟩)] (fun x => .agg (encX x).toArray) (fun x => !rightX x) w := fun W x hW => by
  have h1 : W.cell? ⟨B, 0, none⟩ = some (.func (.func 76) #[] #[]) := (hW.cell (p := ⟨B, 0, none⟩) hB).trans hb
  show Calls Tryz.prog 105 #[.agg #[.int .i64 x.f0, .int .u8 x.f1, .int .i64 x.f2, .int .i64 x.f3, .int .i64 x.f4, .int .i64 x.f5], .pointer (some ⟨B, 0, none⟩)] W _
  have HR := Aside0.mk (fun W => rightX_calls x W)
  have HB := Aside0.mk hW
  have hBW : B < W.heap.size := Nat.lt_of_lt_of_le hB hW.size
  clear hW
  unfold aggX at HR
  obtain ⟨a, b, c, d, e5, e6⟩ := x
  go_enter Tryz.func105, Tryz.ntmps105
  go_wp2_with fail
  refine (HR.out _).mono ?_
  rintro e w1 ⟨rfl, b_⟩
  have HB2 := Aside0.mk (below_step (below_alloc HB.out _) b_)
  clear b_
  go_wp2_with fail
  go_ret
  exact ⟨rfl, HB2.out⟩

/-! ### all, at items -/
/-- Each is less than the next one. -/
def orderedX : List S35 → Bool
  | [] => true
  | [_] => true
  | x :: y :: l => decide (cmpX x y < 0) && orderedX (y :: l)
def rightXL (l : List S35) : Bool := decide (l.length ≤ 2000) && (l.all rightX && orderedX l)

/-- The slice reads as the list of items. -/
def IsX (w : World) (v : Value) (l : List S35) : Prop := ∃ (A : Option Addr) (c : Nat), v = .slice A l.length c ∧ l.length ≤ c ∧ Kd.C k35 w A l.length l
theorem IsX.below {w w' : World} {v : Value} {l : List S35} (h : IsX w v l) (hb : Below w.heap.size w w') : IsX w' v l := by
  obtain ⟨A, c, h1, h2, h3⟩ := h
  exact ⟨A, c, h1, h2, Kd.C_below h3 hb⟩

theorem orderedX_iff : ∀ l : List S35, orderedX l = true ↔ ∀ i, i + 1 < l.length → cmpX (l.getD i z35) (l.getD (i + 1) z35) < 0
  | [] => by simp [orderedX]
  | [_] => by simp [orderedX]
  | x :: y :: l => by
    rw [orderedX, Bool.and_eq_true, decide_eq_true_eq, orderedX_iff (y :: l)]
    constructor
    · rintro ⟨h1, h2⟩ i hi
      cases i with
      | zero => exact h1
      | succ i => exact h2 i (by simpa using hi)
    · intro h
      exact ⟨h 0 (by simp), fun i hi => h (i + 1) (by simpa using hi)⟩

theorem X_plain {w : World} {A : Option Addr} {n : Nat} {xs : List S35} (h : Kd.C k35 w A n xs) (hn : 0 < n) : ∃ b off, A = some ⟨b, off, none⟩ ∧ b < w.heap.size := by
  obtain ⟨ad, c, e, _, hK, hc⟩ := Kd.C_get h z35 0 (by omega) (by omega)
  obtain rfl := k35_open hK
  have h1 := hc 0 _ rfl
  have hs := World.cell?_spot h1
  obtain ⟨b, off, spot⟩ := ad
  have hspot : spot = none := by simpa [Addr.add] using hs
  subst hspot
  rw [Go.WideShapes.add_plain] at h1
  exact ⟨b, off, e, cell_lt h1⟩

theorem X_cells {w : World} {b off n : Nat} {xs : List S35} (h : Kd.C k35 w (some ⟨b, off, none⟩) n xs) {j : Nat} (hj : j < n) : ∀ i v, (encX (xs.getD j z35))[i]? = some v → w.cell? ⟨b, off + j * 6 + i, none⟩ = some v := by
  obtain ⟨ad, c, e, _, hK, hc⟩ := Kd.C_get h z35 (j : Int) (by omega) (by omega)
  rw [Int.toNat_natCast] at hK hc
  obtain rfl := k35_open hK
  injection e with e
  subst e
  intro i v hi
  have h1 := hc i v hi
  rw [Go.WideShapes.add_plain, show k35.sz = 6 from rfl, ← Nat.add_assoc] at h1
  exact h1

theorem X_load {w : World} {b off n : Nat} {xs : List S35} (h : Kd.C k35 w (some ⟨b, off, none⟩) n xs) {j : Nat} (hj : j < n) :
    Sem.run Tryz.prog (loadCellsFrom ⟨b, off + j * 6, none⟩ 0 6 #[]) w = .ok (encX (xs.getD j z35)).toArray w :=
  run_loadCellsFrom_list Tryz.prog _ _ (encX (xs.getD j z35)) 6 rfl (fun i v hi => by
    rw [Addr.add_lit]
    exact X_cells h hj i v hi)

set_option maxHeartbeats 4000000 in
set_option maxRecDepth 100000 in
theorem allX_calls {v : Value} (l : List S35) (w : World) (hv : IsX w v l) (h0 : 0 < l.length) :
    Calls Tryz.prog 75 #[v, .int .i64 2000, .func (.func 76) #[] #[], .func (.func 77) #[] #[]] w fun e w' => e = .returned (.bool (rightXL l)) ∧ Below w.heap.size w w' := by
  obtain ⟨A, c, rfl, hc, hr⟩ := hv
  obtain ⟨b, off, rfl, hbl⟩ := X_plain hr h0
  have hmx := hr.2.1
  by_cases hbig : l.length > 2000
  · have e : rightXL l = false := by unfold rightXL; rw [decide_eq_false (by omega)]; rfl
    rw [e]
    have hd : decide (2000 < l.length) = true := decide_eq_true hbig
    go_enter Tryz.func75, Tryz.ntmps75
    go_wp2_with fail
    go_ret
    exact ⟨rfl, below_alloc (Below.refl _ _) _⟩
  · have hd : decide (2000 < l.length) = false := decide_eq_false hbig
    have eg : ∀ args w, (callFunc 105 args).run Tryz.prog w = .ok (.enter 105 args) w := enters_of Tryz.func105 (by kernel_rfl) rfl
    obtain ⟨w1, hw1⟩ : ∃ w1, w1 = w.alloc (.cells #[.func (.func 76) #[] #[]] 116) := ⟨_, rfl⟩
    have hB1 : Below w.heap.size w w1 := by rw [hw1]; exact below_alloc (Below.refl _ _) _
    have hsz : w1.heap.size = w.heap.size + 1 := by rw [hw1]; simp
    have hc1 : w1.cell? ⟨w.heap.size, 0, none⟩ = some (.func (.func 76) #[] #[]) := by
      rw [hw1]
      unfold World.cell?
      rw [heap_alloc_new]; rfl
    letI : Inhabited S35 := ⟨z35⟩
    have hcon := AnyQ.slices_ContainsFunc shContX 6 Tryz.isAgg35 Tryz.sizeOf35 encX (fun _ => rfl) (fun x => !rightX x) 105 #[.pointer (some ⟨w.heap.size, 0, none⟩)] eg b off l.length c l w1
      (pred_allX w.heap.size w1 (by omega) hc1) (Nat.le_refl _) hmx (by omega) (fun j hj i v hi => X_cells (Kd.C_below hr hB1) hj i v (by
        rw [List.getElem!_eq_getElem?_getD] at hi
        rw [List.getD_eq_getElem?_getD]
        exact hi))
    rw [List.take_length] at hcon
    have HCON := Aside0.mk hcon
    have HB1 := Aside0.mk hB1
    have HR1 := Aside0.mk (Kd.C_below hr hB1)
    clear hcon hc1 hr hsz hB1
    have eany : l.any (fun x => !rightX x) = !(l.all rightX) := by rw [List.any_eq_not_all_not]; simp
    rw [eany] at HCON
    go_enter Tryz.func75, Tryz.ntmps75
    go_wp2_with fail
    rw [← hw1]
    refine HCON.out.mono ?_
    rintro e w2 ⟨rfl, b_⟩
    have HB2 := Aside0.mk (below_step HB1.out b_)
    have HR2 := Aside0.mk (Kd.C_below HR1.out b_)
    clear b_ HCON eany
    cases hall : l.all rightX
    · have e : rightXL l = false := by unfold rightXL; rw [hall]; simp
      have E := Aside0.mk e
      clear e hall
      go_wp2_with fail
      go_ret
      exact ⟨by rw [E.out]; rfl, HB2.out⟩
    · have HALL := Aside0.mk hall
      clear hall
      go_wp2_with fail
      go_loopw [9] (fun v9 W => ∃ j : Nat, 1 ≤ j ∧ j ≤ l.length ∧ v9 = .int .i64 j ∧ Aside0 (∀ i, i + 1 < j → cmpX (l.getD i z35) (l.getD (i + 1) z35) < 0) ∧ Aside0 (Below w.heap.size w W) ∧ Aside0 (Kd.C k35 W (some ⟨b, off, none⟩) l.length l)) (fun v9 _ => l.length - (intOf v9).toNat)
      case atStart => exact ⟨1, by omega, by omega, rfl, ⟨fun i hi => by omega⟩, HB2, HR2⟩
      case round =>
        obtain ⟨j, hj1, hj2, rfl, HO, HB, HR⟩ := hrel
        by_cases hj3 : j < l.length
        · have c1 : (j : Int) - 1 = ((j - 1 : Nat) : Int) := by omega
          have hx4 := X_cells HR.out (show j - 1 < l.length by omega)
          have hy4 := X_cells HR.out hj3
          obtain ⟨x, hx⟩ : ∃ x, x = l.getD (j - 1) z35 := ⟨_, rfl⟩
          obtain ⟨y, hy⟩ : ∃ y, y = l.getD j z35 := ⟨_, rfl⟩
          rw [← hx] at hx4
          rw [← hy] at hy4
          have x0 : wr.cell? ⟨b, off + (j - 1) * 6, none⟩ = some (.int .i64 x.f0) := hx4 0 _ rfl
          have x1 : wr.cell? ⟨b, off + (j - 1) * 6 + 1, none⟩ = some (.int .u8 x.f1) := hx4 1 _ rfl
          have x2 : wr.cell? ⟨b, off + (j - 1) * 6 + 2, none⟩ = some (.int .i64 x.f2) := hx4 2 _ rfl
          have x3 : wr.cell? ⟨b, off + (j - 1) * 6 + 3, none⟩ = some (.int .i64 x.f3) := hx4 3 _ rfl
          have x4 : wr.cell? ⟨b, off + (j - 1) * 6 + 4, none⟩ = some (.int .i64 x.f4) := hx4 4 _ rfl
          have x5 : wr.cell? ⟨b, off + (j - 1) * 6 + 5, none⟩ = some (.int .i64 x.f5) := hx4 5 _ rfl
          have y0 : wr.cell? ⟨b, off + j * 6, none⟩ = some (.int .i64 y.f0) := hy4 0 _ rfl
          have y1 : wr.cell? ⟨b, off + j * 6 + 1, none⟩ = some (.int .u8 y.f1) := hy4 1 _ rfl
          have y2 : wr.cell? ⟨b, off + j * 6 + 2, none⟩ = some (.int .i64 y.f2) := hy4 2 _ rfl
          have y3 : wr.cell? ⟨b, off + j * 6 + 3, none⟩ = some (.int .i64 y.f3) := hy4 3 _ rfl
          have y4 : wr.cell? ⟨b, off + j * 6 + 4, none⟩ = some (.int .i64 y.f4) := hy4 4 _ rfl
          have y5 : wr.cell? ⟨b, off + j * 6 + 5, none⟩ = some (.int .i64 y.f5) := hy4 5 _ rfl
          clear hx4 hy4
          have HXE := Aside0.mk hx
          have HYE := Aside0.mk hy
          have HCMP := Aside0.mk (fun W => byItem_calls x y W)
          clear hx hy
          have hjm : ((j - 1 : Nat) : Int) < (l.length : Int) := by omega
          have hjn : (j : Int) < (l.length : Int) := by omega
          have hjw : IntKind.i64.wrap ((j - 1 : Nat) : Int) = ((j - 1 : Nat) : Int) := IntWalk.i64_in _ (by omega)
          have hjw2 : IntKind.i64.wrap (j : Int) = (j : Int) := IntWalk.i64_in _ (by omega)
          go_wp2_with fail
          have aE := Tryz.isAgg35
          have zE := Tryz.sizeOf35
          have uE := Tryz.underlying35
          unfold aggX at HCMP
          go_still_tail 10, (by kernel_rfl)
          change wpList _ _ _ _ _ wr.drew
          go_wp2_with fail
          refine (HCMP.out _).mono ?_
          rintro e w3 ⟨rfl, b_⟩
          have b2 : Below wr.heap.size wr w3 := below_step (pw_below_drewN (Below.refl wr.heap.size wr) 1) b_
          have HB3 := Aside0.mk (below_step HB.out b2)
          have HR3 := Aside0.mk (Kd.C_below HR.out b2)
          clear b_ b2 x0 x1 x2 x3 x4 x5 y0 y1 y2 y3 y4 y5 HCMP
          by_cases hcmp : cmpX x y < 0
          · have HO3 : Aside0 (∀ i, i + 1 < j + 1 → cmpX (l.getD i z35) (l.getD (i + 1) z35) < 0) := ⟨fun i hi => by
              rcases Nat.lt_or_ge (i + 1) j with h | h
              · exact HO.out i h
              · obtain rfl : i = j - 1 := by omega
                rw [← HXE.out, show j - 1 + 1 = j by omega, ← HYE.out]; exact hcmp⟩
            have hd2 : decide (0 ≤ cmpX x y) = false := decide_eq_false (by omega)
            generalize cmpX x y = r at *
            go_wp2_with fail
            go_roundw
            case rel => exact ⟨j + 1, by omega, by omega, by go_num, HO3, HB3, HR3⟩
            case measure => simp [intOf]; omega
          · have E : Aside0 (rightXL l = false) := ⟨by
              unfold rightXL
              have : orderedX l = false := by
                cases h : orderedX l
                · rfl
                · have h2 := (orderedX_iff l).1 h (j - 1) (by omega)
                  rw [← HXE.out, show j - 1 + 1 = j by omega, ← HYE.out] at h2
                  exact absurd h2 hcmp
              rw [this, Bool.and_false, Bool.and_false]⟩
            have hd2 : decide (0 ≤ cmpX x y) = true := decide_eq_true (by omega)
            generalize cmpX x y = r at *
            go_wp2_with fail
            go_ret
            exact ⟨by rw [E.out]; rfl, HB3.out⟩
        · obtain rfl : j = l.length := by omega
          have E : Aside0 (rightXL l = true) := ⟨by
            unfold rightXL
            rw [HALL.out, (orderedX_iff l).2 (fun i hi => HO.out i hi), decide_eq_true (by omega)]; rfl⟩
          go_wp2_with fail
          go_ret
          exact ⟨by rw [E.out]; rfl, HB.out⟩

end Go.Proofs.YteeacbgaehdodaaGreat

namespace Go.Proofs.YteeacbgaehdodaaGreat
set_option linter.unusedVariables false
open Go Go.RowKit Go.Shelf Go.Lib Go.Sort Go.Proofs.YteeacbgaehdodaaGreatW.PrintWords Go.Proofs.YteeacbgaehdodaaGreatW.PrintLast Go.Proofs.YteeacbgaehdodaaGreatW.PrintMore Go.Proofs.YteeacbgaehdodaaGreat.Fn

local instance instX : Inhabited SX := ⟨zX⟩

def sentR (l : List SX) : Bool := decide (l.length ≤ 2000) && (l.all rightX && decide ((l.map fun x => x.f0).Nodup))

theorem cmpX_neg (x y : SX) : (cmpX x y < 0 ↔ x.f0 < y.f0) := by
  unfold cmpX
  rcases cmpI3_cases x.f0 y.f0 with ⟨h, e⟩ | ⟨h, e⟩ | ⟨h, e⟩ <;> rw [e] <;> omega
theorem ltX (x y : SX) : ltOf cmpX x y = decide (x.f0 < y.f0) := by
  unfold ltOf
  rw [decide_eq_decide]; exact cmpX_neg x y
theorem swoX : SWO (ltOf cmpX) where
  irrefl x := by rw [ltX]; simp
  trans x y z h1 h2 := by rw [ltX] at *; simp at *; omega
  ntrans x y z h1 h2 := by rw [ltX] at *; simp at *; omega

/-- sorted, and each less than the next: no item twice -/
theorem ordered_nodup {l : List SX} (hs : ∀ i j, i < j → j < l.length → (l.getD i zX).f0 ≤ (l.getD j zX).f0) : orderedX l = decide ((l.map fun x => x.f0).Nodup) := by
  rw [Bool.eq_iff_iff, decide_eq_true_eq, orderedX_iff]
  have hg : ∀ i (h : i < l.length), l.getD i zX = l[i] := fun i h => by rw [List.getD_eq_getElem?_getD, List.getElem?_eq_getElem h]; rfl
  constructor
  · intro h
    have hlt : ∀ i j, i < j → j < l.length → (l.getD i zX).f0 < (l.getD j zX).f0 := by
      intro i j hij
      induction j with
      | zero => omega
      | succ j ih =>
        intro hj
        have h1 : (l.getD j zX).f0 < (l.getD (j + 1) zX).f0 := (cmpX_neg _ _).1 (h j hj)
        rcases Nat.lt_or_ge i j with h2 | h2
        · have := ih h2 (by omega); omega
        · obtain rfl : i = j := by omega
          exact h1
    rw [List.nodup_iff_pairwise_ne, List.pairwise_iff_getElem]
    intro i j hi hj hij
    rw [List.length_map] at hi hj
    have := hlt i j hij hj
    rw [hg i hi, hg j hj] at this
    rw [List.getElem_map, List.getElem_map]
    omega
  · intro h i hi
    rw [List.nodup_iff_pairwise_ne, List.pairwise_iff_getElem] at h
    have h1 := h i (i + 1) (by rw [List.length_map]; omega) (by rw [List.length_map]; omega) (by omega)
    rw [List.getElem_map, List.getElem_map] at h1
    have h2 := hs i (i + 1) (by omega) hi
    rw [cmpX_neg]
    rw [hg i (by omega), hg (i + 1) hi] at h2 ⊢
    omega

theorem sent_perm {l m : List SX} (h : m.Perm l) (hs : ∀ i j, i < j → j < m.length → (m.getD i zX).f0 ≤ (m.getD j zX).f0) : rightXL m = sentR l := by
  unfold rightXL sentR
  rw [ordered_nodup hs, h.length_eq]
  congr 2
  · rw [Bool.eq_iff_iff, List.all_eq_true, List.all_eq_true]
    exact ⟨fun hm x hx => hm x (h.mem_iff.2 hx), fun hl x hx => hl x (h.mem_iff.1 hx)⟩
  · rw [decide_eq_decide]; exact (h.map _).nodup_iff

/-! ### rows of items of the call's own -/
def flatX (l : List SX) : List Value := (flatK encX 6 l.toArray).toList
theorem flatX_length (l : List SX) : (flatX l).length = l.length * 6 := by simp [flatX]
theorem flatX_get (l : List SX) {i k : Nat} (hi : i < l.length) (hk : k < 6) : (flatX l)[i * 6 + k]? = (encX (l.getD i zX))[k]? := by
  have hlt : i * 6 + k < l.toArray.size * 6 := by simp; omega
  have h := get_flatK encX 6 l.toArray (i * 6 + k) hlt
  have hd : (i * 6 + k) / 6 = i := by omega
  have hm : (i * 6 + k) % 6 = k := by omega
  rw [hd, hm] at h
  have hs : i * 6 + k < (flatK encX 6 l.toArray).size := by rw [size_flatK]; exact hlt
  unfold flatX
  rw [Array.getElem?_toList, Array.getElem?_eq_getElem hs]
  rw [getElem!_pos (flatK encX 6 l.toArray) (i * 6 + k) hs] at h
  rw [h]
  have he : l.toArray[i]! = l.getD i zX := by
    rw [getElem!_pos l.toArray i (by simpa using hi), List.getD_eq_getElem?_getD, List.getElem?_eq_getElem hi]; simp
  rw [he]
  have hlen : k < (encX (l.getD i zX)).length := hk
  rw [List.getElem?_eq_getElem hlen, getElem!_pos (encX (l.getD i zX)) k hlen]

theorem C_of_cells {w : World} {b off : Nat} {l : List SX} (hl : l.length ≤ 9223372036854775807) (h : ∀ i, i < l.length → ∀ k v, (encX (l.getD i zX))[k]? = some v → w.cell? ⟨b, off + i * 6 + k, none⟩ = some v) : Kd.C k35 w (some ⟨b, off, none⟩) l.length l := by
  refine ⟨rfl, hl, fun _ => ⟨⟨b, off, none⟩, rfl, fun j p hj => ?_⟩⟩
  obtain ⟨hj1, hj2⟩ := List.getElem?_eq_some_iff.1 hj
  refine ⟨encX p, rfl, k35_mk w p, fun i u hu => ?_⟩
  have h1 := h j hj1 i u (by rw [List.getD_eq_getElem?_getD, hj]; exact hu)
  rw [Go.WideShapes.add_plain, show k35.sz = 6 from rfl, ← Nat.add_assoc]
  exact h1

theorem holdsX_of_block {w : World} {g : Nat} {cur : Array Value} {e : TypeId} {l : List SX} (hb : w.heap[g]? = some (.cells cur e (0, 0))) (ht : cur.toList.take (l.length * 6) = flatX l) : HoldsK encX 6 w g 0 l.toArray := by
  intro j hj
  have hj' : j < l.length * 6 := by simpa using hj
  refine ⟨?_, by simp [World.frozen?, hb]⟩
  have h1 : (cur.toList.take (l.length * 6))[j]? = (flatX l)[j]? := by rw [ht]
  rw [List.getElem?_take_of_lt hj'] at h1
  simp only [World.cell?, hb, Nat.zero_add]
  simp only [Option.isSome_none, Bool.false_eq_true, if_false]
  rw [← Array.getElem?_toList, h1]
  unfold flatX
  rw [Array.getElem?_toList, Array.getElem?_eq_getElem hj, getElem!_pos (flatK encX 6 l.toArray) j hj]; rfl

theorem grownBy_sortX {w : World} {g n : Nat} {os : Array Obj} (d : Array SX) : w.grownBy (sortWorldK encX 6 w g 0 n d os) (some g) := by
  refine ⟨rfl, rfl, rfl, by simp [sortWorldK, putRowK, putRow, mapBlock, Sort.ahead, grow], fun k hk hne => ?_⟩
  have : g ≠ k := fun e => hne (by rw [e])
  unfold sortWorldK
  rw [heap_grow_old _ _ (by simpa [putRowK, putRow, mapBlock, Sort.ahead] using hk)]
  simp [putRowK, putRow, mapBlock, Sort.ahead, Array.getElem?_modify, this]

/-! ### the walk -/
theorem IsX.reads {w : World} {A : Option Addr} {n c : Nat} {l : List SX} (h : IsX w (.slice A n c) l) : Kd.C k35 w A l.length l := by
  obtain ⟨_, _, e, _, h⟩ := h
  injection e with e1 _ _
  rw [e1]; exact h

theorem infoX : ∃ i0, Tryz.prog.info? 35 = some i0 ∧ i0.zero = some (.agg #[.int .i64 0, .int .u8 0, .int .i64 0, .int .i64 0, .int .i64 0, .int .i64 0]) ∧ i0.size = 6 ∧ i0.bytes = 48 := by
  obtain ⟨i0, h1, h2⟩ := Option.map_eq_some_iff.1 info35
  simp only [Prod.mk.injEq] at h2
  exact ⟨i0, h1, h2.1, h2.2.1, h2.2.2⟩

set_option maxHeartbeats 1000000 in
set_option maxRecDepth 100000 in
/-- slices.Clone of items, then slices.SortFunc by item: a row of the call's own that reads as a list in order with the same items. -/
theorem CloneX_calls (l : List SX) (b off c : Nat) (w : World) (hr : Kd.C k35 w (some ⟨b, off, none⟩) l.length l) (h0 : 0 < l.length) (hl : l.length ≤ 100000) :
    Calls Tryz.prog 71 #[.slice (some ⟨b, off, none⟩) l.length c] w fun e w' => (∃ g cap, e = .returned (.slice (some ⟨g, 0, none⟩) l.length cap) ∧ w.heap.size ≤ g ∧ g < w'.heap.size ∧ l.length ≤ cap ∧ HoldsK encX 6 w' g 0 l.toArray) ∧ Below w.heap.size w w' := by
  obtain ⟨i0, hi, hz, hs, hbt⟩ := infoX
  have hcon := AnyE.slices_Clone shCloneX i0 _ 6 48 hi hz hs hbt rfl (by decide) Tryz.sizeOf35 b off l.length c (flatX l) w (flatX_length l) (by simp [maxLen]; omega) (by omega) (fun j u hj => by
    obtain ⟨hj1, _⟩ := List.getElem?_eq_some_iff.1 hj
    rw [flatX_length] at hj1
    have h1 := flatX_get l (show j / 6 < l.length by omega) (show j % 6 < 6 by omega)
    rw [show j / 6 * 6 + j % 6 = j by omega] at h1
    rw [h1] at hj
    have h2 := X_cells hr (show j / 6 < l.length by omega) (j % 6) u hj
    rwa [show off + j / 6 * 6 + j % 6 = off + j by omega] at h2) (fun u hu => by
    obtain ⟨j, hj, rfl⟩ := List.mem_iff_getElem.1 hu
    have hj1 := hj
    rw [flatX_length] at hj1
    have h1 := flatX_get l (show j / 6 < l.length by omega) (show j % 6 < 6 by omega)
    rw [show j / 6 * 6 + j % 6 = j by omega, List.getElem?_eq_getElem hj] at h1
    have hm : (flatX l)[j] ∈ encX (l.getD (j / 6) zX) := List.mem_of_getElem? h1.symm
    simp only [encX, List.mem_cons, List.not_mem_nil, or_false] at hm
    rcases hm with h | h | h | h | h | h <;> rw [h] <;> rfl)
  refine hcon.mono ?_
  rintro e w' ⟨v', rfl, hown, _, hb⟩
  rcases hown.2 with ⟨rfl, h⟩ | ⟨g, cap, cur, rfl, hg, hh, hn, hcap, hcs, ht⟩
  · omega
  · exact ⟨⟨g, cap, rfl, hg, lt_of_block hh, hn, holdsX_of_block hh ht⟩, hb⟩

set_option maxHeartbeats 1000000 in
set_option maxRecDepth 100000 in
theorem SortX_calls (l : List SX) (g cap : Nat) (w0 w : World) (hH : HoldsK encX 6 w g 0 l.toArray) (hg : w0.heap.size ≤ g) (hgl : g < w.heap.size) (hl : l.length ≤ 100000) (hb : Below w0.heap.size w0 w) :
    Calls Tryz.prog 72 #[.slice (some ⟨g, 0, none⟩) l.length cap, .func (.func 73) #[] #[]] w fun e w' => e = .returned (.tuple #[]) ∧ (∃ m : List SX, m.Perm l ∧ (∀ i j, i < j → j < m.length → (m.getD i zX).f0 ≤ (m.getD j zX).f0) ∧ Kd.C k35 w' (some ⟨g, 0, none⟩) m.length m) ∧ Below w0.heap.size w0 w' := by
  have eg : ∀ args w, (callFunc 73 args).run Tryz.prog w = .ok (.enter 73 args) w := enters_of Tryz.func73 (by kernel_rfl) rfl
  have hcmp : CmpLays Tryz.prog 73 #[] encX 6 cmpX g 0 l.toArray.size w := fun _ _ _ _ x y => (byItem_calls0 _ (.inl rfl) x y _).mono fun _ _ h => ⟨h.1, h.2.1⟩
  have hcon := AnyQ.slices_SortFunc shSortX 6 Tryz.isAgg35 Tryz.sizeOf35 encX (fun _ => rfl) (fun x v hv => by simp [encX] at hv; rcases hv with rfl | rfl | rfl | rfl | rfl | rfl <;> rfl) cmpX swoX 73 #[] g 0 cap l.toArray w eg hcmp hH hgl (by simp; omega)
  refine hcon.mono ?_
  rintro e w' ⟨rfl, d', n, os, ⟨hp1, _, hp3⟩, hs, rfl⟩
  have hsize : d'.toList.length = l.length := by simpa using hp1
  have hperm : d'.toList.Perm l := by
    have e1 : d'.extract 0 l.toArray.size = d' := by rw [← hp1]; simp
    have e2 : l.toArray.extract 0 l.toArray.size = l.toArray := by simp
    rw [e1, e2] at hp3
    simpa using hp3
  have hHd := holdsK_sortWorldK encX 6 w g 0 n l.toArray d' os hgl hH hp1
  have hget : ∀ i (h : i < d'.size), d'[i]! = d'.toList.getD i zX := fun i h => by
    rw [getElem!_pos d' i h, List.getD_eq_getElem?_getD, List.getElem?_eq_getElem (by simpa using h)]; simp
  refine ⟨rfl, ⟨d'.toList, hperm, fun i j hij hj => ?_, C_of_cells (by omega) (fun i hi k v hk => ?_)⟩, hb.grown (grownBy_sortX d') hb.size (fun k e => by cases e; exact hg)⟩
  · have h1 := hs i j (Nat.zero_le _) hij (by simp at hj hsize ⊢; omega)
    rw [ltX, decide_eq_false_iff_not, hget j (by simpa using hj), hget i (by simp at hj; omega)] at h1
    omega
  · have hi' : i < d'.size := by simpa using hi
    obtain ⟨hk1, hk2⟩ := List.getElem?_eq_some_iff.1 hk
    have h1 := (HoldsK.cell hHd hi' (c := k) hk1).1
    rw [h1, hget i hi', getElem!_pos _ k hk1, hk2]

set_option maxHeartbeats 2000000 in
set_option maxRecDepth 100000 in
theorem RightSent_calls {v : Value} (l : List SX) (w : World) (hv : IsX w v l) (h0 : 0 < l.length) (hl : l.length ≤ 100000) :
    Calls Tryz.prog 38 #[v] w fun e w' => e = .returned (.bool (sentR l)) ∧ Below w.heap.size w w' := by
  obtain ⟨A, c, rfl, hc, hr⟩ := hv
  obtain ⟨b, off, rfl, hbl⟩ := X_plain hr h0
  have HR := Aside0.mk hr
  clear hr
  go_enter Tryz.func38, Tryz.ntmps38
  go_wp2_with fail
  refine (CloneX_calls l b off c _ HR.out h0 hl).mono ?_
  rintro e w1 ⟨⟨g, cap, rfl, hg, hgl, hcap, hH⟩, b1⟩
  have HH := Aside0.mk hH
  have HB := Aside0.mk b1
  clear hH b1
  go_wp2_with fail
  refine (SortX_calls l g cap w w1 HH.out hg hgl hl HB.out).mono ?_
  rintro e w2 ⟨rfl, ⟨m, hp, hs, hC⟩, b2⟩
  have hml := hp.length_eq
  have HS := Aside0.mk (sent_perm hp hs)
  have HI := Aside0.mk (show IsX w2 (.slice (some ⟨g, 0, none⟩) m.length cap) m from ⟨_, _, rfl, by omega, hC⟩)
  have HB2 := Aside0.mk b2
  have hm0 : 0 < m.length := by omega
  rw [← hml]
  clear hp hs hC b2 HH hml
  go_wp2_with fail
  refine (allX_calls m _ HI.out hm0).mono ?_
  rw [HS.out]
  rintro e w3 ⟨rfl, b3⟩
  have HB3 := Aside0.mk (below_step HB2.out b3)
  clear b3
  go_wp2_with fail
  go_ret
  exact ⟨rfl, HB3.out⟩

end Go.Proofs.YteeacbgaehdodaaGreat

namespace Go.Proofs.YteeacbgaehdodaaGreat
set_option linter.unusedVariables false
open Go Go.RowKit Go.Shelf Go.Lib Go.Sort Go.Proofs.YteeacbgaehdodaaGreatW.PrintWords Go.Proofs.YteeacbgaehdodaaGreatW.PrintLast Go.Proofs.YteeacbgaehdodaaGreatW.PrintMore Go.Proofs.YteeacbgaehdodaaGreat.Fn

/-- nil, or a slice of a plain block -/
def PlainS (v : Value) : Prop := ∃ (A : Option Addr) (n c : Nat), v = .slice A n c ∧ (A = none ∨ ∃ b off, A = some ⟨b, off, none⟩)

theorem indexX_empty (A : Option Addr) (c : Nat) (fv : Value) (w : World) : Calls Tryz.prog 132 #[.slice A 0 c, fv] w fun e w' => e = .returned (.int .i64 (-1)) ∧ w' = w := by
  go_enter Tryz.func132, Tryz.ntmps132
  go_wp2_with fail
  go_loopw [8] (fun v8 W => v8 = .int .i64 0 ∧ Aside0 (W = w)) (fun _ _ => 0)
  case atStart => exact ⟨rfl, ⟨rfl⟩⟩
  case round =>
    obtain ⟨rfl, HW⟩ := hrel
    go_wp2_with fail
    go_ret
    exact ⟨rfl, HW.out⟩
theorem containsX_empty (A : Option Addr) (c : Nat) (fv : Value) (w : World) : Calls Tryz.prog 104 #[.slice A 0 c, fv] w fun e w' => e = .returned (.bool false) ∧ w' = w := by
  go_enter Tryz.func104, Tryz.ntmps104
  go_wp2_with fail
  refine (indexX_empty A c fv _).mono ?_
  rintro e w1 ⟨rfl, rfl⟩
  go_wp2_with fail
  go_ret
  exact ⟨rfl, rfl⟩

set_option maxHeartbeats 4000000 in
set_option maxRecDepth 100000 in
theorem allX_empty {v : Value} (w : World) (hv : IsX w v []) :
    Calls Tryz.prog 75 #[v, .int .i64 2000, .func (.func 76) #[] #[], .func (.func 77) #[] #[]] w fun e w' => e = .returned (.bool true) ∧ Below w.heap.size w w' := by
  obtain ⟨A, c, rfl, hc, hr⟩ := hv
  show Calls Tryz.prog 75 #[.slice A 0 c, .int .i64 2000, .func (.func 76) #[] #[], .func (.func 77) #[] #[]] w _
  clear hr hc
  go_enter Tryz.func75, Tryz.ntmps75
  go_wp2_with fail
  refine (containsX_empty A c _ _).mono ?_
  rintro e w1 ⟨rfl, hw1⟩
  have HB : Aside0 (Below w.heap.size w w1) := ⟨by rw [hw1]; exact below_alloc (Below.refl _ _) _⟩
  clear hw1
  go_wp2_with fail
  go_loopw [9] (fun v9 W => v9 = .int .i64 1 ∧ Aside0 (Below w.heap.size w W)) (fun _ _ => 0)
  case atStart => exact ⟨rfl, HB⟩
  case round =>
    obtain ⟨rfl, HB⟩ := hrel
    go_wp2_with fail
    go_ret
    exact ⟨rfl, HB.out⟩


set_option maxRecDepth 100000 in
theorem CloneX_empty {A : Option Addr} (c : Nat) (w : World) (hA : A = none ∨ ∃ b off, A = some ⟨b, off, none⟩) :
    Calls Tryz.prog 71 #[.slice A 0 c] w fun e w' => (∃ A' c', e = .returned (.slice A' 0 c')) ∧ Below w.heap.size w w' := by
  rcases hA with rfl | ⟨b, off, rfl⟩
  · refine (AnyE.slices_Clone_nil shCloneX 0 c w).mono ?_
    rintro e w' ⟨rfl, rfl⟩
    exact ⟨⟨_, _, rfl⟩, Below.refl _ _⟩
  · obtain ⟨i0, hi, hz, hs, hbt⟩ := infoX
    refine (AnyE.slices_Clone shCloneX i0 _ 6 48 hi hz hs hbt rfl (by decide) Tryz.sizeOf35 b off 0 c [] w rfl (by simp [maxLen]) (by omega) (fun j u hj => by simp at hj) (fun u hu => by simp at hu)).mono ?_
    rintro e w' ⟨v', rfl, hown, _, hb⟩
    refine ⟨?_, hb⟩
    rcases hown.2 with ⟨rfl, h⟩ | ⟨g, cap, cur, rfl, _⟩
    · exact ⟨_, _, rfl⟩
    · exact ⟨_, _, rfl⟩

set_option maxHeartbeats 2000000 in
set_option maxRecDepth 100000 in
theorem RightSent_empty {A : Option Addr} (c : Nat) (w : World) (hA : A = none ∨ ∃ b off, A = some ⟨b, off, none⟩) :
    Calls Tryz.prog 38 #[.slice A 0 c] w fun e w' => e = .returned (.bool true) ∧ Below w.heap.size w w' := by
  have HA := Aside0.mk hA
  clear hA
  go_enter Tryz.func38, Tryz.ntmps38
  go_wp2_with fail
  refine (CloneX_empty c _ HA.out).mono ?_
  rintro e w1 ⟨⟨A', c', rfl⟩, b1⟩
  have HB := Aside0.mk b1
  clear b1
  go_wp2_with fail
  refine (AnyF.slices_SortFunc_none shSortX A' c' _ _).mono ?_
  rintro e w2 ⟨rfl, rfl⟩
  go_wp2_with fail
  refine (allX_empty _ ⟨A', c', rfl, Nat.zero_le _, rfl, by simp, fun h => absurd h (Nat.lt_irrefl 0)⟩).mono ?_
  rintro e w3 ⟨rfl, b3⟩
  have HB3 := Aside0.mk (below_step HB.out b3)
  clear b3
  go_wp2_with fail
  go_ret
  exact ⟨rfl, HB3.out⟩

theorem sentR_nil : sentR [] = true := rfl
theorem RightSent_all {v : Value} (l : List SX) (w : World) (hv : IsX w v l) (hp : PlainS v) (hl : l.length ≤ 100000) :
    Calls Tryz.prog 38 #[v] w fun e w' => e = .returned (.bool (sentR l)) ∧ Below w.heap.size w w' := by
  by_cases h0 : 0 < l.length
  · exact RightSent_calls l w hv h0 hl
  · obtain rfl : l = [] := List.length_eq_zero_iff.1 (by omega)
    obtain ⟨A, n, c, rfl, hA⟩ := hp
    obtain ⟨A', c', e, _⟩ := hv
    injection e with e1 e2 e3
    subst e1 e2 e3
    exact RightSent_empty _ w hA

end Go.Proofs.YteeacbgaehdodaaGreat
