/- A range over an iterator that tells, of each element that it yields, what it is in memory. The iterator over the chances of 0, 1 and so on: what it yields. The contract of between: the sum of the chances from one number of successes to another one. -/
import Derived.RangeFuncNested
import Derived.RangeFuncBound
import Derived.RangeFuncCalls
import Derived.RangeFuncLeaves
import Derived.Test.YteeacbgaehdodaaGreatAdd
import Derived.Test.YteeacbgaehdodaaGreatMathC
import Derived.Shelf.Abstract
import Derived.Shelf.RegionOpen
import Derived.OwnWalkIn
import Derived.TacticsInMore
import Derived.LoopNIn
import Derived.LoopIn
import Derived.Deep.RegionHeld3
import Derived.Deep.DeepCutAuto
namespace Go.Proofs.YteeacbgaehdodaaGreat
open Go.RowKit

variable {F : Fence} {n : Nat} {P : Program}

/-- The contract of an iterator; 'Sees pre x W': what is known of x in W, when it comes behind pre. -/
def SeqSees {α : Type} (F : Fence) (n : Nat) (P : Program) (g : Nat) (lb : Array Value) (encs : α → Array Value) (Sees : List α → α → World → Prop) (Kp : World → World → Prop) (S Sp : List α → Prop) (N : Nat) (w : World) : Prop :=
  ∀ (l : Nat) (J Jx : List α → World → Prop) (W : World), Below w.heap.size w W → AbidesFrom W.heap.size J → AbidesFrom W.heap.size Jx →
    (∀ pre x W1, J pre W1 → Sees pre x W1 → pre.length < N → YieldAt F (n - 1) P l (encs x) W1 fun e W' =>
      (e = .returned (.bool true) ∧ J (pre ++ [x]) W' ∧ Kp W1 W') ∨ (e = .returned (.bool false) ∧ Jx (pre ++ [x]) W')) →
    J [] W →
    CallsIn F n P g (#[.func (.yield l) #[] #[]] ++ lb) W fun e W' => (∃ v, e = .returned v) ∧ ((∃ xs, S xs ∧ J xs W') ∨ (∃ pre, Sp pre ∧ Jx pre W'))

/-- A range over an iterator that tells of each element what it is in memory: the library's law wpIn_rangeFunc_ownF with one premise more. -/
theorem wpIn_rangeFunc_sees {α : Type} {g : Operand} {ps : Array Tmp} {assign body : Code} {Q : Exit → Act → World → Prop} {a : Act} {w : World}
    (hro : F.round = none) (h1 : 1 ≤ n) {gf : Nat} {lb : Array Value} (hg : a.eval g = .func (.func gf) #[] lb) (hFg : F.fn gf) (eg : ∀ args w, (callFunc gf args).run P w = .ok (.enter gf args) w)
    {encs : α → Array Value} {Sees : List α → α → World → Prop} {Kp : World → World → Prop} {S Sp : List α → Prop} {N : Nat} {w0 : World} (hseq : SeqSees F (n - 1) P gf lb encs Sees Kp S Sp N w0) (hSees : ∀ (pre : List α) (x : α) (W : World) (l : Nat) (o o' : Obj), Sees pre x W → W.heap[l]? = some o → o.isCells = false → Sees pre x (W.putObj l o'))
    (hKt : ∀ {A B C : World}, Kp A B → Kp B C → Kp A C) (hKb : ∀ (W : World) (l : Nat) (o o' : Obj), w.heap.size ≤ l → W.heap[l]? = some o → o.isCells = false → o.isWalk = false → Kp W (W.putObj l o')) (hb0 : Below w0.heap.size w0 w) (hps : ∀ x, (encs x).size = ps.size)
    (I : List α → World → Prop) (Ix : Code → List α → World → Prop) (hI : OwnFrom w.heap.size I) (hIx : ∀ c, OwnFrom w.heap.size (Ix c)) (h0 : I [] w) (a₁ : α → Act)
    (hassign : ∀ (l : Nat) (x : α) (W : World) (K : Act → World → Prop), K (a₁ x) W →
      assign.wpIn (F.inRound l) (n - 1 - 1) P (Exit.then K (fun _ _ _ => False)) { tmps := (ps.zip (encs x)).foldl (fun t (p, v) => t.setIfInBounds p v) a.tmps, defers := [] } W)
    (hbody : ∀ (l : Nat) (pre : List α) (x : α) (W : World), I pre W → Sees pre x W → pre.length < N → body.wpIn (F.inRound l) (n - 1 - 1) P (ownPostK Kp I Ix (pre ++ [x]) W) (a₁ x) W)
    (hdone : ∀ (D : Nat) (xs : List α) (W : World), w.heap.size ≤ D → S xs → I xs W → W.heap[D]? = some (.deferred (some [])) → Q .normal { a with defers := { target := .collected D, args := #[] } :: a.defers } W)
    (hstop : ∀ (D : Nat) (c : Code) (pre : List α) (W : World), w.heap.size ≤ D → Sp pre → Ix c pre W → W.heap[D]? = some (.deferred (some [])) → c.wpIn F n P Q { a with defers := { target := .collected D, args := #[] } :: a.defers } W) :
    (Code.rangeFunc g ps assign body).wpIn F n P Q a w := by
  refine wpIn_rangeFunc ?_
  intro fn hfn
  rw [hro]
  obtain ⟨rec, hrec⟩ : ∃ rec : LoopState → Option Code → Loop, rec = fun st pe => { state := st, pending := pe, fn, tmps := a.tmps, params := ps, assign, body, defers := w.heap.size } := ⟨_, rfl⟩
  obtain ⟨W1, hW1⟩ : ∃ W1, (w.alloc (.deferred (some []))).alloc (.loop (rec .ready none)) = W1 := ⟨_, rfl⟩
  have hL1 : W1.heap[w.heap.size + 1]? = some (.loop (rec .ready none)) := by
    rw [← hW1]; have := World.alloc_heap_new (w.alloc (.deferred (some []))) (.loop (rec .ready none)); rwa [World.size_alloc] at this
  have hK1 : W1.heap[w.heap.size]? = some (.deferred (some [])) := by
    rw [← hW1]; exact (Below.heap_alloc _ _ _ (by simp)).trans (World.alloc_heap_new w _)
  have hI1 : I [] W1 := by rw [← hW1]; exact hI.alloc _ (hI.alloc _ h0)
  have hb1 : Below w0.heap.size w0 W1 := by
    rw [← hW1]; exact hb0.trans ((((Below.refl _ w).alloc (Nat.le_refl _) _).alloc (by simp) _).mono hb0.size)
  refine ⟨w.heap.size + 1, [{ target := .collected w.heap.size, args := #[] }], W1, { target := .fn (.func gf) lb, args := #[.func (.yield (w.heap.size + 1)) #[] #[]] }, W1, gf,
    #[.func (.yield (w.heap.size + 1)) #[] #[]] ++ lb, W1, ?_, ?_, ?_, ?_, fun _ => h1, ?_⟩
  · rw [← hW1, hrec]; exact run_enterLoop_outer _ _ _ _ _
  · simp only [resolve, hg]
    simp [go_sem]
  · intro f' hf'; simp [Target.leads] at hf'; subst hf'; exact hFg
  · simp [invoke, go_sem, eg]
  · -- THE ITERATOR's CONTRACT, AT THE CALLER's INVARIANT WITH THE TWO FACTS OF BOOK-KEEPING BESIDE IT
    have hnw : ∀ {A B : World} {row : Option Nat}, (∀ r, row = some r → W1.heap.size ≤ r ∧ ∃ o : Obj, A.heap[r]? = some o ∧ o.isWalk = true) → (∀ r, row = some r → w.heap.size ≤ r ∧ ∃ o : Obj, A.heap[r]? = some o ∧ o.isCells = false) :=
      fun hr r e => by obtain ⟨hB, o, ho, hw⟩ := hr r e; exact ⟨by rw [← hW1] at hB; simp at hB; omega, o, ho, Obj.not_cells_of_walk hw⟩
    refine (hseq (w.heap.size + 1)
      (fun pre W => I pre W ∧ W.heap[w.heap.size + 1]? = some (.loop (rec .ready none)) ∧ W.heap[w.heap.size]? = some (.deferred (some [])))
      (fun pre W => ∃ c, Ix c pre W ∧ W.heap[w.heap.size + 1]? = some (.loop (rec .done (some c))) ∧ W.heap[w.heap.size]? = some (.deferred (some [])))
      W1 hb1
      (fun s A B row hs hg' hr => ⟨hI s A B row hs.1 hg' (hnw (B := B) hr), (grownBy_keeps hg' (fun r e => (hr r e).2) hs.2.1 rfl).trans hs.2.1, (grownBy_keeps hg' (fun r e => (hr r e).2) hs.2.2 rfl).trans hs.2.2⟩)
      (fun s A B row hs hg' hr => by
        obtain ⟨c, hc, hl, hk⟩ := hs
        exact ⟨c, hIx c s A B row hc hg' (hnw (B := B) hr), (grownBy_keeps hg' (fun r e => (hr r e).2) hl rfl).trans hl, (grownBy_keeps hg' (fun r e => (hr r e).2) hk rfl).trans hk⟩)
      ?_ ⟨hI1, hL1, hK1⟩).mono ?_
    · -- ONE ROUND
      rintro pre x W ⟨hi, hl, hk⟩ hsee hlen
      have hlt : w.heap.size + 1 < W.heap.size := (Array.getElem?_eq_some_iff.1 hl).1
      have hy := run_yield (P := P) (args := encs x) hl (by rw [hrec]; exact hps x)
      rw [hrec] at hy
      refine ⟨fn, _, assign, body, hy, roundIn_of_wpIn hfn (hassign _ x W _ ⟨_, run_beginRound hl (by rw [hrec]), ?_⟩)⟩
      have hl2 : (W.putObj (w.heap.size + 1) (.loop { rec .ready none with state := .busy })).heap[w.heap.size + 1]? = some (.loop { rec .ready none with state := .busy }) := World.putObj_heap_same hlt
      have hk2 : (W.putObj (w.heap.size + 1) (.loop { rec .ready none with state := .busy })).heap[w.heap.size]? = some (.deferred (some [])) := (World.putObj_heap_other (by omega)).trans hk
      have hw2 : Kp W (W.putObj (w.heap.size + 1) (.loop { rec .ready none with state := .busy })) := hKb _ _ _ _ (by omega) hl rfl rfl
      refine wpIn_mono (hbody _ pre x _ (hI.putObj _ hi (by omega) hl rfl) (hSees _ _ _ _ _ _ hsee hl rfl) hlen) ?_
      have fin : ∀ (jump : Option Code) (W3 : World), KeepsOthers (W.putObj (w.heap.size + 1) (.loop { rec .ready none with state := .busy })) W3 →
          (Instr.endRound (w.heap.size + 1) jump).run P W3 = .ok (.bool jump.isNone) (W3.putObj (w.heap.size + 1) (.loop (rec (if jump.isNone then .ready else .done) jump))) ∧
          W3.heap[w.heap.size + 1]? = some (.loop { rec .ready none with state := .busy }) ∧
          (W3.putObj (w.heap.size + 1) (.loop (rec (if jump.isNone then .ready else .done) jump))).heap[w.heap.size + 1]? = some (.loop (rec (if jump.isNone then .ready else .done) jump)) ∧
          (W3.putObj (w.heap.size + 1) (.loop (rec (if jump.isNone then .ready else .done) jump))).heap[w.heap.size]? = some (.deferred (some [])) := fun jump W3 hk3 => by
        have hl3 := hk3.same _ _ hl2 rfl
        have := run_endRound (P := P) jump hl3
        rw [hrec] at this ⊢
        exact ⟨this, by rw [hrec] at hl3; exact hl3, World.putObj_heap_same (Array.getElem?_eq_some_iff.1 hl3).1, (World.putObj_heap_other (by omega)).trans (hk3.same _ _ hk2 rfl)⟩
      rintro e a3 W3 hp
      cases e with
      | normal =>
        obtain ⟨hk3, hkp3, hi3⟩ := hp
        obtain ⟨hr, hl3, hl4, hk4⟩ := fin none W3 hk3
        exact ⟨_, _, hr, .inl ⟨rfl, ⟨hI.putObj _ hi3 (by omega) hl3 rfl, hl4, hk4⟩, hKt (hKt hw2 hkp3) (hKb _ _ _ _ (by omega) hl3 rfl rfl)⟩⟩
      | ret =>
        obtain ⟨hk3, hi3⟩ := hp
        obtain ⟨hr, hl3, hl4, hk4⟩ := fin (some .ret) W3 hk3
        exact ⟨_, _, hr, .inr ⟨rfl, .ret, (hIx _).putObj _ hi3 (by omega) hl3 rfl, hl4, hk4⟩⟩
      | exit id =>
        obtain ⟨hk3, hi3⟩ := hp
        obtain ⟨hr, hl3, hl4, hk4⟩ := fin (some (.exit id)) W3 hk3
        exact ⟨_, _, hr, .inr ⟨rfl, .exit id, (hIx _).putObj _ hi3 (by omega) hl3 rfl, hl4, hk4⟩⟩
      | goto t =>
        obtain ⟨hk3, hi3⟩ := hp
        obtain ⟨hr, hl3, hl4, hk4⟩ := fin (some (.goto t)) W3 hk3
        exact ⟨_, _, hr, .inr ⟨rfl, .goto t, (hIx _).putObj _ hi3 (by omega) hl3 rfl, hl4, hk4⟩⟩
      | panic ch => exact hp.elim
      | outgrown => exact hp.elim
    · -- BEHIND THE ITERATOR
      rintro e W2 ⟨⟨v, rfl⟩, (⟨xs, hS, hi, hl, hk⟩ | ⟨pre, hSp, c, hi, hl, hk⟩)⟩
      · exact ⟨none, _, by have := run_endLoop (P := P) hl (by rw [hrec]; simp); rw [hrec] at this; exact this, hdone _ xs _ (Nat.le_refl _) hS (hI.putObj _ hi (by omega) hl rfl) ((World.putObj_heap_other (by omega)).trans hk)⟩
      · exact ⟨some c, _, by have := run_endLoop (P := P) hl (by rw [hrec]; simp); rw [hrec] at this; exact this, hstop _ c pre _ (Nat.le_refl _) hSp ((hIx c).putObj _ hi (by omega) hl rfl) ((World.putObj_heap_other (by omega)).trans hk)⟩

end Go.Proofs.YteeacbgaehdodaaGreat

namespace Go.Proofs.YteeacbgaehdodaaGreat
open Go.RowKit Go.Shelf Go.Proofs.YteeacbgaehdodaaGreatW.PrintWords Go.Proofs.YteeacbgaehdodaaGreatW.PrintLast Go.Proofs.YteeacbgaehdodaaGreatW.PrintMore Go.Proofs.YteeacbgaehdodaaGreat.Fn
attribute [local go_sem] Oper.semAt_some

theorem chances_calls (n s : Int) (w : World) : Calls Tryz.prog 84 #[.int .i64 n, .int .i64 s] w fun e w' => e = .returned (.func (.func 109) #[] #[.pointer (some ⟨w.heap.size + 1, 0, none⟩), .pointer (some ⟨w.heap.size, 0, none⟩)]) ∧ w' = (w.alloc (.cells #[.int .i64 n] 3)).alloc (.cells #[.int .i64 s] 3) := by
  go_enter Tryz.func84, Tryz.ntmps84
  go_wp2
  go_ret
  exact ⟨rfl, rfl⟩

/-- what a body must keep between two rounds -/
structure KpN (W W' : World) : Prop where
  size : W.heap.size ≤ W'.heap.size
  num : ∀ v x, IsN W v x → IsN W' v x
  int : ∀ a k, W.cell? a = some (.int .i64 k) → W'.cell? a = some (.int .i64 k)

theorem grown_of_below {A B : World} (h : Below A.heap.size A B) : A.grownBy B none := ⟨h.os, h.tape, h.output, h.size, fun k hk _ => h.block k hk⟩

theorem ch_zero_eq (p q n : Nat) : ch p q n 0 = q ^ n := by simp [ch, binom_zero]
theorem ch_step (p q n k : Nat) (hk : k ≤ n) (hq : 0 < q) : ch p q n k * ((n - k) * p) / ((k + 1) * q) = ch p q n (k + 1) := by
  by_cases h : k < n
  · exact ch_next_div p q n k h hq
  · rw [ch_gt p q n (k + 1) (by omega), show n - k = 0 by omega, Nat.zero_mul, Nat.mul_zero, Nat.zero_div]

def SeesN (n s : Nat) (pre : List (Nat × Value)) (x : Nat × Value) (W : World) : Prop := x.1 = pre.length ∧ IsN W x.2 (ch s (10000 - s) n pre.length)

/-- what lies between two rounds of the iterator -/
structure IterAt (n s Bs Bn : Nat) (J : List (Nat × Value) → World → Prop) (k : Nat) (v : Value) (W : World) (pre : List (Nat × Value)) : Prop where
  len : pre.length = k
  num : IsN W v (ch s (10000 - s) n k)
  own : J pre W
  cs : W.cell? ⟨Bs, 0, none⟩ = some (.int .i64 (s : Int))
  cn : W.cell? ⟨Bn, 0, none⟩ = some (.int .i64 (n : Int))

set_option exponentiation.threshold 600 in
theorem pow_500 : 10000 ^ 500 ≤ 4294967296 ^ 250 := by
  rw [show 500 = 2 * 250 from rfl, Nat.pow_mul]
  exact Nat.pow_le_pow_left (by decide) 250

theorem half_250 : Half (4294967296 ^ 250) := by
  unfold Half
  rw [Int.natCast_pow]
  have h3 := pow_le_pow' (B := (4294967296 : Int)) (by decide) (show 250 + 1 ≤ 400 by decide)
  rw [Int.pow_succ] at h3
  have h4 := pow_pos' (B := (4294967296 : Int)) (by decide) 250
  have h5 : ∀ P Q : Int, 0 < P → P * (4294967296 : Int) ≤ Q → P < Q := fun P Q a b => by omega
  exact h5 _ _ h4 h3

set_option exponentiation.threshold 600 in
theorem half_pow (n s : Nat) (hn : n ≤ 500) : Half ((10000 - s) ^ n) :=
  half_250.le (Nat.le_trans (Nat.le_trans (Nat.pow_le_pow_left (by omega) n) (Nat.pow_le_pow_right (by decide) hn)) pow_500)

theorem prod_bound {a b : Int} (a0 : 0 ≤ a) (a1 : a ≤ 500) (b0 : 0 ≤ b) (b1 : b ≤ 5000) : 0 ≤ a * b ∧ a * b ≤ 2500000 := by
  have h1 := Int.mul_nonneg a0 b0
  have h2 := Int.mul_le_mul a1 b1 b0 (show (0 : Int) ≤ 500 by decide)
  omega
theorem prod_bound2 {a b : Int} (a0 : 1 ≤ a) (a1 : a ≤ 501) (b0 : 1 ≤ b) (b1 : b ≤ 10000) : 0 < a * b ∧ a * b < 4294967296 := by
  have h1 := Int.mul_pos (show 0 < a by omega) (show 0 < b by omega)
  have h2 := Int.mul_le_mul a1 b1 (show 0 ≤ b by omega) (show (0 : Int) ≤ 501 by decide)
  omega

theorem ch_fits (n s k : Nat) (hn : n ≤ 500) (hs : s ≤ 5000) (hk : k ≤ n) :
    Fits (ch s (10000 - s) n k) ∧ ((((n : Int) - (k : Int)) * (s : Int)).toNat = (n - k) * s) ∧ Fits (ch s (10000 - s) n k * ((n - k) * s)) ∧
      ch s (10000 - s) n k * ((n - k) * s) / ((((k : Int) + 1) * (10000 - (s : Int))).toNat) = ch s (10000 - s) n (k + 1) := by
  have h1 : ch s (10000 - s) n k ≤ 10000 ^ n := by
    have := ch_le s (10000 - s) n k
    rwa [show s + (10000 - s) = 10000 by omega] at this
  have h2 : Half (ch s (10000 - s) n k) := (half_pow n 0 hn).le h1
  have e1 : ((n : Int) - (k : Int)) * (s : Int) = (((n - k) * s : Nat) : Int) := by rw [Int.natCast_mul, Int.natCast_sub hk]
  have e2 : ((k : Int) + 1) * (10000 - (s : Int)) = (((k + 1) * (10000 - s) : Nat) : Int) := by
    rw [Int.natCast_mul, Int.natCast_sub (by omega)]; rfl
  have h3 : (n - k) * s < 4294967296 := by
    have := Nat.mul_le_mul (show n - k ≤ 500 by omega) hs
    omega
  refine ⟨h2.fits, by rw [e1, Int.toNat_natCast], h2.mul (half_small h3), ?_⟩
  rw [e2, Int.toNat_natCast]
  exact ch_step s (10000 - s) n k hk (by omega)

set_option maxHeartbeats 4000000 in
set_option maxRecDepth 100000 in
theorem chances1_sees (m n s : Nat) (hm : 1 ≤ m) (hn : n ≤ 500) (hs : s ≤ 5000) (Bs Bn : Nat) (w : World) (hbs : Bs < w.heap.size) (hbn : Bn < w.heap.size) (hcs : w.cell? ⟨Bs, 0, none⟩ = some (.int .i64 (s : Int))) (hcn : w.cell? ⟨Bn, 0, none⟩ = some (.int .i64 (n : Int))) :
    SeqSees Fence.wide m Tryz.prog 109 #[.pointer (some ⟨Bs, 0, none⟩), .pointer (some ⟨Bn, 0, none⟩)] (fun x : Nat × Value => #[.int .i64 (x.1 : Int), x.2]) (SeesN n s) KpN (fun xs => xs.length = n + 1) (fun _ => True) (n + 1) w := by
  intro l J Jx W hW hJ hJx hY h0
  have HJ := Aside0.mk hJ
  have HJX := Aside0.mk hJx
  have HY := Aside0.mk hY
  have H0 := Aside0.mk h0
  have hcs' : W.cell? ⟨Bs, 0, none⟩ = some (.int .i64 (s : Int)) := (hW.cell (p := ⟨Bs, 0, none⟩) hbs).trans hcs
  have hcn' : W.cell? ⟨Bn, 0, none⟩ = some (.int .i64 (n : Int)) := (hW.cell (p := ⟨Bn, 0, none⟩) hbn).trans hcn
  have hbs' : Bs < W.heap.size := Nat.lt_of_lt_of_le hbs hW.size
  have hbn' : Bn < W.heap.size := Nat.lt_of_lt_of_le hbn hW.size
  clear hJ hJx hY h0 hcs hcn hbs hbn
  refine callsIn_wide.2 ?_
  simp only [List.append_toArray, List.nil_append, List.cons_append]
  have e1 : IntKind.i64.wrap (10000 - (s : Int)) = 10000 - (s : Int) := IntWalk.i64_in _ (by omega)
  have b1 : 0 ≤ 10000 - (s : Int) := by omega
  have b2 : 10000 - (s : Int) < 9223372036854775808 := by omega
  have HQ := Aside0.mk (half_pow n s hn)
  have HT := Aside0.mk (show (10000 - (s : Int)).toNat = 10000 - s by omega)
  go_enter Tryz.func109, Tryz.ntmps109
  go_upto_region 0 with (fail)
  go_cut [4] (fun v4 wc => Aside0 (IsN wc v4 ((10000 - s) ^ n)) ∧ Aside0 (Below W.heap.size W wc))
  case first =>
    go_region_held3 (fun W' => W'.cell? ⟨Bs, 0, none⟩ = some (.int .i64 (s : Int)) ∧ W'.cell? ⟨Bn, 0, none⟩ = some (.int .i64 (n : Int))) (go_keep)
      (first
        | (go_at_call 46; refine (one_calls (10000 - (s : Int)) _ b1 b2).mono ?_; rintro e w' ⟨v10, rfl, hv, hb⟩; have c1 : w'.cell? ⟨Bs, 0, none⟩ = some (.int .i64 (s : Int)) := (hb.cell (p := ⟨Bs, 0, none⟩) hbs').trans hcs'; have c2 : w'.cell? ⟨Bn, 0, none⟩ = some (.int .i64 (n : Int)) := (hb.cell (p := ⟨Bn, 0, none⟩) hbn').trans hcn'; have HV := Aside0.mk hv; have HB := Aside0.mk (below_step (below_drew (Below.refl W.heap.size W)) hb); clear hv hb)
        | (go_at_call 24; refine (Pow_calls (a := 10000 - s) n _ (by rw [HT.out] at HV; exact HV.out) (by omega) (by omega) hn HQ.out).mono ?_; rintro e w2 ⟨v12, rfl, hv2, hb2⟩; have c3 : w2.cell? ⟨Bs, 0, none⟩ = some (.int .i64 (s : Int)) := (hb2.cell (p := ⟨Bs, 0, none⟩) (Nat.lt_of_lt_of_le hbs' HB.out.size)).trans c1; have c4 : w2.cell? ⟨Bn, 0, none⟩ = some (.int .i64 (n : Int)) := (hb2.cell (p := ⟨Bn, 0, none⟩) (Nat.lt_of_lt_of_le hbn' HB.out.size)).trans c2; have HV2 := Aside0.mk hv2; have HB2 := Aside0.mk (below_step HB.out hb2); clear hv2 hb2))
    go_wp2_with fail
    go_meet
    case rel => exact ⟨HV2, HB2⟩
  case rest =>
    obtain ⟨HV4, HB4⟩ := hcut
    have hcs4 : wc.cell? ⟨Bs, 0, none⟩ = some (.int .i64 (s : Int)) := (HB4.out.cell (p := ⟨Bs, 0, none⟩) hbs').trans hcs'
    have hcn4 : wc.cell? ⟨Bn, 0, none⟩ = some (.int .i64 (n : Int)) := (HB4.out.cell (p := ⟨Bn, 0, none⟩) hbn').trans hcn'
    clear hcs' hcn'
    go_wp2_with fail
    refine (wpIn_wide (n := m)).1 ?_
    gi_loopw [4, 6] (fun v4 v6 wr => ∃ (k : Nat) (pre : List (Nat × Value)), v6 = .int .i64 k ∧ k ≤ n + 1 ∧ Aside0 (IterAt n s Bs Bn J k v4 wr pre) ∧ Aside0 (W.heap.size ≤ wr.heap.size)) (fun _ v6 _ => n + 1 - (intOf v6).toNat)
    case atStart => exact ⟨0, [], rfl, by omega, ⟨rfl, by rw [ch_zero_eq]; exact HV4.out, HJ.out _ _ _ none H0.out (grown_of_below HB4.out) (fun r e => by cases e), hcs4, hcn4⟩, ⟨HB4.out.size⟩⟩
    case round =>
      clear HV4 HB4 hcs4 hcn4
      obtain ⟨k, pre, rfl, hk, HI, HB⟩ := hrel
      have hcs5 := HI.out.cs
      have hcn5 := HI.out.cn
      by_cases hk1 : k ≤ n
      · obtain ⟨fn, tmps, assign, body, hy, hR⟩ := HY.out pre (k, u4) wr HI.out.own ⟨HI.out.len.symm, by rw [HI.out.len]; exact HI.out.num⟩ (by have := HI.out.len; omega)
        dsimp only at hy
        have HI' := HI
        clear HY
        gi_wp2
        refine hR.mono ?_
        rintro e W3 (⟨rfl, hJ3, hk3⟩ | ⟨rfl, hJx3⟩)
        · have hcs3 := hk3.int _ _ hcs5
          have hcn3 := hk3.int _ _ hcn5
          have HV3 := Aside0.mk (hk3.num _ _ HI.out.num)
          have HJ3 := Aside0.mk hJ3
          have HS3 := Aside0.mk (Nat.le_trans HB.out hk3.size)
          clear hJ3 hk3 hcs5 hcn5 HB hR hy
          gi_wp2
          refine wpIn_wide.2 ?_
          have b3 : (0 : Int) ≤ (n : Int) - (k : Int) := by omega
          have e3 : IntKind.i64.wrap ((n : Int) - (k : Int)) = (n : Int) - (k : Int) := IntWalk.i64_in _ (by omega)
          have hp : (0 : Int) ≤ ((n : Int) - (k : Int)) * (s : Int) ∧ ((n : Int) - (k : Int)) * (s : Int) ≤ 2500000 := prod_bound (by omega) (by omega) (by omega) (by omega)
          have e4 : IntKind.i64.wrap (((n : Int) - (k : Int)) * (s : Int)) = ((n : Int) - (k : Int)) * (s : Int) := IntWalk.i64_in _ (by omega)
          have hq : (0 : Int) < ((k : Int) + 1) * (10000 - (s : Int)) ∧ ((k : Int) + 1) * (10000 - (s : Int)) < 4294967296 := prod_bound2 (by omega) (by omega) (by omega) (by omega)
          have e5 : IntKind.i64.wrap ((k : Int) + 1) = (k : Int) + 1 := IntWalk.i64_in _ (by omega)
          have e6 : IntKind.i64.wrap (((k : Int) + 1) * (10000 - (s : Int))) = ((k : Int) + 1) * (10000 - (s : Int)) := IntWalk.i64_in _ (by omega)
          have hbs3 : Bs < W3.heap.size := Nat.lt_of_lt_of_le hbs' HS3.out
          have hbn3 : Bn < W3.heap.size := Nat.lt_of_lt_of_le hbn' HS3.out
          have HM := Aside0.mk (ch_fits n s k (by omega) hs hk1)
          go_region_held3 (fun W' => W'.cell? ⟨Bs, 0, none⟩ = some (.int .i64 (s : Int)) ∧ W'.cell? ⟨Bn, 0, none⟩ = some (.int .i64 (n : Int))) (go_keep)
            (first
              | (go_at_call 47; refine (smul_calls (((n : Int) - (k : Int)) * (s : Int)) _ (HV3.out.drew) HM.out.1 hp.1 (by omega) (by rw [HM.out.2.1]; exact HM.out.2.2.1)).mono ?_; rintro e w' ⟨v31, rfl, hv, hb⟩; have c1 : w'.cell? ⟨Bs, 0, none⟩ = some (.int .i64 (s : Int)) := (hb.cell (p := ⟨Bs, 0, none⟩) hbs3).trans hcs3; have c2 : w'.cell? ⟨Bn, 0, none⟩ = some (.int .i64 (n : Int)) := (hb.cell (p := ⟨Bn, 0, none⟩) hbn3).trans hcn3; have HV := Aside0.mk hv; have HB' := Aside0.mk (below_step (below_drew (Below.refl W3.heap.size W3)) hb); clear hv hb)
              | (go_at_call 110; refine (div_calls (((k : Int) + 1) * (10000 - (s : Int))) _ HV.out hq.1 hq.2).mono ?_; rintro e w2 ⟨v37, rfl, hv2, hb2⟩; have c3 : w2.cell? ⟨Bs, 0, none⟩ = some (.int .i64 (s : Int)) := (hb2.cell (p := ⟨Bs, 0, none⟩) (Nat.lt_of_lt_of_le hbs3 HB'.out.size)).trans c1; have c4 : w2.cell? ⟨Bn, 0, none⟩ = some (.int .i64 (n : Int)) := (hb2.cell (p := ⟨Bn, 0, none⟩) (Nat.lt_of_lt_of_le hbn3 HB'.out.size)).trans c2; have HV2 := Aside0.mk hv2; have HB2 := Aside0.mk (below_step HB'.out hb2); clear hv2 hb2))
          have HI2 : Aside0 (IterAt n s Bs Bn J (k + 1) v37 w2 (pre ++ [(k, u4)])) := ⟨by simp [HI.out.len], by have h := HV2.out; rw [HM.out.2.1, HM.out.2.2.2] at h; exact h, HJ.out _ _ _ none HJ3.out (grown_of_below HB2.out) (fun r e => by cases e), c3, c4⟩
          have HS2 := Aside0.mk (Nat.le_trans HS3.out HB2.out.size)
          clear hcs3 hcn3 c1 c2 c3 c4 e3 e4 e5 e6
          gi_wp2
          go_roundw
          case rel => exact ⟨k + 1, _, by go_num, by omega, HI2, HS2⟩
          case measure => simp [intOf]; omega
        · have HX3 := Aside0.mk hJx3
          clear hJx3 hR hy
          gi_wp2
          refine bodyPost_ret (results_none rfl _ _ _) rfl ?_
          exact ⟨⟨_, rfl⟩, .inr ⟨_, trivial, HX3.out⟩⟩
      · obtain rfl : k = n + 1 := by omega
        gi_wp2
        go_end0
        exact ⟨⟨_, rfl⟩, .inl ⟨pre, HI.out.len, HI.out.own⟩⟩

end Go.Proofs.YteeacbgaehdodaaGreat

namespace Go.Proofs.YteeacbgaehdodaaGreat
open Go.RowKit Go.Shelf Go.Proofs.YteeacbgaehdodaaGreatW.PrintWords Go.Proofs.YteeacbgaehdodaaGreatW.PrintLast Go.Proofs.YteeacbgaehdodaaGreatW.PrintMore Go.Proofs.YteeacbgaehdodaaGreat.Fn
attribute [local go_sem] Oper.semAt_some

/-- where the failures are counted instead -/
theorem span_turn (p q n f t : Nat) (h1 : f ≤ t) (h2 : t ≤ n) : span q p n (n - t) (n - f + 1) = span p q n f (t + 1) := by
  have a1 := span_eq q p n (n - t) (n - f + 1) (by omega)
  have a2 := span_eq p q n f (t + 1) (by omega)
  have b1 := up_turn p q n t h2
  have b2 : up p q n f + up q p n (n - f + 1) = (p + q) ^ n := by
    cases f with
    | zero => rw [up_zero, Nat.sub_zero, up_gt q p n (n + 1) (by omega), Nat.add_zero]
    | succ f => rw [show n - (f + 1) + 1 = n - f by omega]; exact up_turn p q n f (by omega)
  omega

theorem heap_two_first (w : World) (a b : Obj) : ((w.alloc a).alloc b).heap[w.heap.size]? = some a := (Below.heap_alloc _ _ _ (by simp)).trans (heap_alloc_new w a)
theorem heap_two_second (w : World) (a b : Obj) : ((w.alloc a).alloc b).heap[w.heap.size + 1]? = some b := by
  have h := heap_alloc_new (w.alloc a) b
  rwa [World.size_alloc] at h

theorem IsN.own {W W' : World} {row : Option Nat} {v : Value} {x : Nat} (h : IsN W v x) (hg : W.grownBy W' row) (hr : ∀ r, row = some r → ∃ o : Obj, W.heap[r]? = some o ∧ o.isCells = false) : IsN W' v x := by
  obtain ⟨xs, A, c, h1, h2, h3, h4, h5, h6, h7⟩ := h
  refine ⟨xs, A, c, h1, h2, h3, h4, h5, h6, fun hp => ?_⟩
  obtain ⟨ad, e, hc⟩ := h7 hp
  refine ⟨ad, e, fun j p hj => ?_⟩
  obtain ⟨cs, g1, g2, g3⟩ := hc j p hj
  exact ⟨cs, g1, g2, fun i u hu => cell_kept (g3 i u hu) hg hr⟩

theorem cell_of_box {W : World} {B t : Nat} {v u : Value} {a : Addr} (hb : W.heap[B]? = some (.cells #[v] t (0, 0))) (ha : W.cell? a = some u) (hB : a.block = B) : u = v := by
  subst hB
  unfold World.cell? at ha
  rw [hb] at ha
  have h2 : (#[v] : Array Value)[a.off]? = some u := by
    have h := ha
    simp only at h
    split at h
    · cases h
    · exact h
  have h3 : a.off = 0 := by
    rcases Nat.eq_zero_or_pos a.off with h | h
    · exact h
    · rw [Array.getElem?_eq_none (by simp; omega)] at h2; cases h2
  rw [h3] at h2
  simpa using h2.symm

theorem IsN.set_slice {W : World} {B t : Nat} {v u : Value} {x : Nat} {A : Option Addr} {n c : Nat} (h : IsN W v x) (hb : W.heap[B]? = some (.cells #[.slice A n c] t (0, 0))) : IsN (W.setCell ⟨B, 0, none⟩ u) v x := by
  obtain ⟨xs, A', c', h1, h2, h3, h4, h5, h6, h7⟩ := h
  refine ⟨xs, A', c', h1, h2, h3, h4, h5, h6, fun hp => ?_⟩
  obtain ⟨ad, e, hc⟩ := h7 hp
  refine ⟨ad, e, fun j p hj => ?_⟩
  obtain ⟨cs, g1, g2, g3⟩ := hc j p hj
  refine ⟨cs, g1, g2, fun i y hu => ?_⟩
  have g4 := g3 i y hu
  have g5 : cs = [.int .u32 p] := g2
  by_cases hB : (ad.add (j * 1 + i)).block = B
  · have g6 := cell_of_box hb g4 hB
    rw [g6, g5] at hu
    cases i with
    | zero => simp at hu
    | succ i => simp at hu
  · exact (World.cell?_of_block (Below.heap_setCell W ⟨B, 0, none⟩ u _ hB)).trans g4

theorem KpN.trans {A B C : World} (h : KpN A B) (k : KpN B C) : KpN A C := ⟨Nat.le_trans h.size k.size, fun v x hv => k.num v x (h.num v x hv), fun a i ha => k.int a i (h.int a i ha)⟩
theorem KpN.record (W : World) (l : Nat) (o o' : Obj) (hl : W.heap[l]? = some o) (ho : o.isCells = false) : KpN W (W.putObj l o') :=
  ⟨(grownBy_putObj' W l o').size, fun v x hv => hv.own (grownBy_putObj' W l o') (fun r e => by cases e; exact ⟨o, hl, ho⟩), fun a i ha => cell_kept ha (grownBy_putObj' W l o') (fun r e => by cases e; exact ⟨o, hl, ho⟩)⟩
theorem KpN.below {W W' : World} (h : Below W.heap.size W W') : KpN W W' :=
  ⟨h.size, fun v x hv => hv.below h, fun a i ha => by
    have hlt : a.block < W.heap.size := by
      obtain ⟨o, ho, _⟩ := cells_of_cell ha
      exact lt_of_block ho
    exact (h.cell hlt).trans ha⟩
theorem KpN.set_slice {W : World} {B t : Nat} {u : Value} {A : Option Addr} {n c : Nat} (hb : W.heap[B]? = some (.cells #[.slice A n c] t (0, 0))) : KpN W (W.setCell ⟨B, 0, none⟩ u) :=
  ⟨(KeepsOthers.setCell W ⟨B, 0, none⟩ u).size, fun v x hv => hv.set_slice hb, fun a i ha => by
    by_cases hB : a.block = B
    · have := cell_of_box hb ha hB
      cases this
    · exact (World.cell?_of_block (Below.heap_setCell W ⟨B, 0, none⟩ u _ hB)).trans ha⟩

/-- what the loop keeps: the sum so far, in its box; the two bounds in theirs -/
structure SumAt (w : World) (B y : Nat) (g u : Int) (W : World) : Prop where
  box : ∃ A n c, W.heap[B]? = some (.cells #[.slice A n c] 49 (0, 0)) ∧ IsN W (.slice A n c) y
  bg : W.heap[w.heap.size]? = some (.cells #[.int .i64 g] 3 (0, 0))
  bu : W.heap[w.heap.size + 1]? = some (.cells #[.int .i64 u] 3 (0, 0))
  below : Below w.heap.size w W

theorem SumAt.own {w W W' : World} {B y : Nat} {g u : Int} {row : Option Nat} (h : SumAt w B y g u W) (hg : W.grownBy W' row) (hlow : ∀ r, row = some r → w.heap.size ≤ r) (hr : ∀ r, row = some r → ∃ o : Obj, W.heap[r]? = some o ∧ o.isCells = false) : SumAt w B y g u W' := by
  obtain ⟨A, n, c, h1, h2⟩ := h.box
  exact ⟨⟨A, n, c, (grownBy_keeps_cells hg hr h1 rfl).trans h1, h2.own hg hr⟩, (grownBy_keeps_cells hg hr h.bg rfl).trans h.bg, (grownBy_keeps_cells hg hr h.bu rfl).trans h.bu, h.below.grown hg h.below.size (fun k e => hlow k e)⟩

/-- behind the test: which share, from where, to where -/
def Sides (p n f t : Nat) (s g u : Int) : Prop := ∃ (s' g' u' : Nat), s = (s' : Int) ∧ g = (g' : Int) ∧ u = (u' : Int) ∧ s' ≤ 5000 ∧ g' ≤ u' ∧ u' ≤ n ∧ span s' (10000 - s') n g' (u' + 1) = span p (10000 - p) n f (t + 1)

theorem span_fits (n s g m : Nat) (hn : n ≤ 500) (hs : s ≤ 5000) :
    Fits (span s (10000 - s) n g m) ∧ Fits (ch s (10000 - s) n m) ∧ Fits (span s (10000 - s) n g m + ch s (10000 - s) n m) := by
  have h1 := span_le s (10000 - s) n g m
  have h2 := ch_le s (10000 - s) n m
  rw [show s + (10000 - s) = 10000 by omega] at h1 h2
  have h3 := half_pow n 0 hn
  rw [Nat.sub_zero] at h3
  have h4 := h3.mul (half_small (show 2 < 4294967296 by decide))
  exact ⟨h4.le (by omega), h4.le (by omega), h4.le (by omega)⟩

theorem keeps_below {W W' : World} (h : Below W.heap.size W W') : KeepsOthers W W' := ⟨h.size, fun k _ hk _ => (h.block k (lt_of_block hk)).trans hk⟩

set_option maxHeartbeats 4000000 in
set_option maxRecDepth 100000 in
theorem between_calls (n p f t : Nat) (w : World) (hn : n ≤ 500) (hp : p ≤ 10000) (hft : f ≤ t) (htn : t ≤ n) :
    Calls Tryz.prog 50 #[.int .i64 (n : Int), .int .i64 (p : Int), .int .i64 (f : Int), .int .i64 (t : Int)] w (GivesN w (span p (10000 - p) n f (t + 1))) := by
  refine (callsIn_wide (n := 6)).1 ?_
  refine callsIn_of_wp_marks Tryz.func50 rfl trivial ?_ rfl
  simp only [Tryz.ntmps50, List.size_toArray, List.length_cons, List.length_nil, Nat.reduceAdd, Nat.reduceSub, Array.replicate_succ, Array.replicate_zero, List.push_toArray, List.append_toArray, List.nil_append, List.cons_append]
  refine wpIn_wide.2 ?_
  go_upto_if 14 with (fail)
  go_cut [1] from 15 to 22 (fun v1 wc => ∃ x g u : Int, v1 = .int .i64 x ∧ Aside0 (Sides p n f t x g u) ∧ Aside0 (wc.heap[w.heap.size]? = some (.cells #[.int .i64 g] 3 (0, 0))) ∧ Aside0 (wc.heap[w.heap.size + 1]? = some (.cells #[.int .i64 u] 3 (0, 0))) ∧ Aside0 (wc.heap.size = w.heap.size + 2) ∧ Aside0 (Below w.heap.size w wc))
  case first =>
    by_cases hs : p ≤ 5000
    · have hd : decide (10000 < 2 * (p : Int)) = false := decide_eq_false (by omega)
      go_wp2_with fail
      go_meet
      case rel => exact ⟨p, f, t, rfl, ⟨p, f, t, rfl, rfl, rfl, hs, hft, htn, rfl⟩, ⟨heap_two_first _ _ _⟩, ⟨heap_two_second _ _ _⟩, ⟨by simp⟩, ⟨((Below.refl _ w).alloc (Nat.le_refl _) _).alloc (by simp) _⟩⟩
    · have hd : decide (10000 < 2 * (p : Int)) = true := decide_eq_true (by omega)
      go_wp2_with fail
      go_region
      go_wp2_with fail
      go_meet
      case rel =>
        refine ⟨10000 - (p : Int), (n : Int) - (t : Int), (n : Int) - (f : Int), rfl, ⟨10000 - p, n - t, n - f, by omega, by omega, by omega, by omega, by omega, by omega, ?_⟩, ⟨?_⟩, ⟨?_⟩, ⟨?_⟩, ⟨?_⟩⟩
        · rw [show 10000 - (10000 - p) = p by omega]
          exact span_turn p (10000 - p) n f t hft htn
        · exact heap_two_first _ _ _
        · exact heap_two_second _ _ _
        · simp
        · exact below_drew (((Below.refl _ w).alloc (Nat.le_refl _) _).alloc (by simp) _)
  case rest =>
    obtain ⟨x, g, u, rfl, HS, HG, HU, HZ, HB⟩ := hcut
    obtain ⟨s', g', u', rfl, rfl, rfl, hs5, hgu, hun, hspan⟩ := HS.out
    have HSP := Aside0.mk hspan
    clear hspan HS
    go_wp2_with fail
    refine (chances_calls _ _ _).mono ?_
    rintro e w2 ⟨rfl, rfl⟩
    go_wp2_with fail
    refine (wpIn_wide (n := 6)).1 ?_
    have hB : wc.heap.size = w.heap.size + 2 := HZ.out
    have HB0 := Aside0.mk hB
    clear hB
    refine wpIn_rangeFunc_sees (F := Fence.wide) (n := 6) rfl (by decide) (gf := 109) (lb := #[.pointer (some ⟨wc.heap.size + 1 + 1, 0, none⟩), .pointer (some ⟨wc.heap.size + 1, 0, none⟩)]) rfl trivial (enters_of Tryz.func109 (by kernel_rfl) rfl)
      (chances1_sees 5 n s' (by decide) hn hs5 _ _ _ (by simp) (by simp) ?cs ?cn) ?sees (fun h k => h.trans k) (fun W l o o' _ hl ho _ => KpN.record W l o o' hl ho) (Below.refl _ _) (fun _ => rfl)
      (fun pre W => pre.length ≤ u' + 1 ∧ SumAt w wc.heap.size (span s' (10000 - s') n g' pre.length) (g' : Int) (u' : Int) W)
      (fun c _ W => c = .exit 0 ∧ SumAt w wc.heap.size (span s' (10000 - s') n g' (u' + 1)) (g' : Int) (u' : Int) W)
      ?hI ?hIx ?h0 (fun y => { tmps := #[.int .i64 (n : Int), .int .i64 (s' : Int), .int .i64 (f : Int), .int .i64 (t : Int), undef, undef, .pointer (some ⟨w.heap.size, 0, none⟩), .pointer (some ⟨w.heap.size + 1, 0, none⟩), .slice none 0 0, .pointer (some ⟨wc.heap.size, 0, none⟩), .int .i64 (y.1 : Int), y.2, .int .i64 (p : Int), .int .i64 (2 * (p : Int)), .bool (decide (10000 < 2 * (p : Int))), u15, u16, u17, u18, u19, u20, u21, u22, .int .i64 (n : Int), .int .i64 (s' : Int), .func (.func 109) #[] #[.pointer (some ⟨wc.heap.size + 1 + 1, 0, none⟩), .pointer (some ⟨wc.heap.size + 1, 0, none⟩)], .int .i64 (y.1 : Int), y.2, undef, undef, undef, undef, undef, undef, undef, undef, undef, undef, undef, undef, undef], defers := [] }) ?assign ?body ?done ?stop
    case cs =>
      have h := heap_two_second (wc.alloc (.cells #[.slice none 0 0] 49)) (.cells #[.int .i64 (n : Int)] 3) (.cells #[.int .i64 (s' : Int)] 3)
      rw [World.size_alloc] at h
      exact cell_of_one h
    case cn =>
      have h := heap_two_first (wc.alloc (.cells #[.slice none 0 0] 49)) (.cells #[.int .i64 (n : Int)] 3) (.cells #[.int .i64 (s' : Int)] 3)
      rw [World.size_alloc] at h
      exact cell_of_one h
    case sees => exact fun pre y W l o o' h hl ho => ⟨h.1, h.2.own (grownBy_putObj' W l o') (fun r e => by cases e; exact ⟨o, hl, ho⟩)⟩
    case hI => exact fun pre A C row h hg hr => ⟨h.1, h.2.own hg (fun r e => by have := (hr r e).1; simp at this; have := HB0.out; omega) (fun r e => (hr r e).2)⟩
    case hIx => exact fun c pre A C row h hg hr => ⟨h.1, h.2.own hg (fun r e => by have := (hr r e).1; simp at this; have := HB0.out; omega) (fun r e => (hr r e).2)⟩
    case h0 =>
      have hz : wc.heap.size < (wc.alloc (.cells #[.slice none 0 0] 49)).heap.size := by simp
      have hb3 : Below (wc.alloc (.cells #[.slice none 0 0] 49)).heap.size (wc.alloc (.cells #[.slice none 0 0] 49)) (((wc.alloc (.cells #[.slice none 0 0] 49)).alloc (.cells #[.int .i64 (n : Int)] 3)).alloc (.cells #[.int .i64 (s' : Int)] 3)) := ((Below.refl _ _).alloc (Nat.le_refl _) _).alloc (by simp) _
      have hb4 : Below wc.heap.size wc (wc.alloc (.cells #[.slice none 0 0] 49)) := (Below.refl _ _).alloc (Nat.le_refl _) _
      refine ⟨by simp, ⟨⟨none, 0, 0, (hb3.block _ hz).trans (heap_alloc_new wc _), by rw [List.length_nil]; exact IsN.nil _⟩, ?_, ?_, ?_⟩⟩
      · exact ((hb3.block _ (by have := HB0.out; simp; omega)).trans (hb4.block _ (by have := HB0.out; omega))).trans HG.out
      · exact ((hb3.block _ (by have := HB0.out; simp; omega)).trans (hb4.block _ (by have := HB0.out; omega))).trans HU.out
      · exact below_step (below_step HB.out hb4) hb3
    case assign =>
      intro l y W K hK
      gi_wp2
      exact hK
    case body =>
      rintro l pre y W ⟨hlen, hsum⟩ hsee hN
      obtain ⟨yk, yv⟩ := y
      obtain ⟨hy1, hy2⟩ := hsee
      dsimp only at hy1 hy2
      subst hy1
      have HSUM := Aside0.mk hsum
      have HSEE := Aside0.mk hy2
      have hg1 := cell_of_one hsum.bg
      have hu1 := cell_of_one hsum.bu
      clear hsum hy2 hN
      have hf1 := free_of_one HSUM.out.bg
      by_cases h1 : u' < pre.length
      · have hd : decide ((u' : Int) < (pre.length : Int)) = true := decide_eq_true (by omega)
        gi_wp2
        exact ⟨KeepsOthers.refl _, rfl, by have h := HSUM.out; rw [show pre.length = u' + 1 by omega] at h; exact h⟩
      · by_cases h2 : g' ≤ pre.length
        · obtain ⟨A, na, c, hbox, hnum⟩ := HSUM.out.box
          have hbc := cell_of_one hbox
          have hbf := free_of_one hbox
          have HBOX := Aside0.mk hbox
          have HNUM := Aside0.mk hnum
          have HF := Aside0.mk (span_fits n s' g' pre.length hn hs5)
          clear hbox hnum
          gi_wp2_with fail
          refine ⟨trivial, ?_⟩
          refine (CallsIn.inRound l (callsIn_wide.2 (Add_calls _ HNUM.out HSEE.out HF.out.1 HF.out.2.1 HF.out.2.2))).mono ?_
          rintro e w4 ⟨v4, rfl, hv4, hb4⟩
          obtain ⟨ds, A4, c4, rfl, d2, d3, d4, d5⟩ := id hv4
          have HV4 := Aside0.mk hv4
          have HB4 := Aside0.mk hb4
          have hlt := lt_of_block HBOX.out
          have hbox4 := (hb4.block _ hlt).trans HBOX.out
          have hbc4 := cell_of_one hbox4
          have hbf4 := free_of_one hbox4
          have HBOX4 := Aside0.mk hbox4
          clear hv4 hb4 d4 d5 hbox4 hbc hbf hg1 hu1 hf1
          gi_wp2
          have hpos : w.heap.size < wc.heap.size := by have := HB0.out; omega
          refine ⟨(keeps_below HB4.out).trans (KeepsOthers.setCell _ _ _), (KpN.below HB4.out).trans (KpN.set_slice HBOX4.out), by simp; omega, ?_⟩
          rw [List.length_append, List.length_singleton, span, if_pos h2]
          refine ⟨⟨_, _, _, one_setCell HBOX4.out, HV4.out.set_slice HBOX4.out⟩, ?_, ?_, ?_⟩
          · exact (Below.heap_setCell _ _ _ _ (by simp; omega)).trans ((HB4.out.block _ (lt_of_block HSUM.out.bg)).trans HSUM.out.bg)
          · exact (Below.heap_setCell _ _ _ _ (by have := HB0.out; simp; omega)).trans ((HB4.out.block _ (lt_of_block HSUM.out.bu)).trans HSUM.out.bu)
          · exact below_set (below_step HSUM.out.below HB4.out) (by omega)
        · gi_wp2
          refine ⟨KeepsOthers.refl _, ⟨Nat.le_refl _, fun _ _ h => h, fun _ _ h => h⟩, by simp; omega, ?_⟩
          rw [List.length_append, List.length_singleton, span, if_neg h2, Nat.add_zero]
          exact HSUM.out
    case done =>
      rintro D ys W hD hys ⟨hlen, hsum⟩ hK
      obtain rfl : u' = n := by omega
      rw [hys] at hsum
      obtain ⟨A, na, c, hbox, hnum⟩ := hsum.box
      have hbc := cell_of_one hbox
      have HNUM := Aside0.mk hnum
      have HBW := Aside0.mk hsum.below
      have HK := Aside0.mk hK
      clear hbox hnum hsum hys
      gi_wp2
      go_wp2_with fail
      refine ⟨by simp, .inl ⟨_, _, rfl, run_takeDeferred HK.out, ?_⟩⟩
      refine ⟨_, results_tmp rfl _ _ _, _, rfl, ?_, ?_⟩
      · rw [← HSP.out]
        exact HNUM.out.own (grownBy_putObj' W D (.deferred none)) (fun r e => by cases e; exact ⟨_, HK.out, rfl⟩)
      · exact HBW.out.grown (grownBy_putObj' W D (.deferred none)) HBW.out.size (fun k e => by cases e; simp at hD; have := HB0.out; omega)
    case stop =>
      rintro D c pre W hD _ ⟨rfl, hsum⟩ hK
      obtain ⟨A, na, c, hbox, hnum⟩ := hsum.box
      have hbc := cell_of_one hbox
      have HNUM := Aside0.mk hnum
      have HBW := Aside0.mk hsum.below
      have HK := Aside0.mk hK
      clear hbox hnum hsum
      gi_wp2
      go_wp2_with fail
      refine ⟨by simp, .inl ⟨_, _, rfl, run_takeDeferred HK.out, ?_⟩⟩
      refine ⟨_, results_tmp rfl _ _ _, _, rfl, ?_, ?_⟩
      · rw [← HSP.out]
        exact HNUM.out.own (grownBy_putObj' W D (.deferred none)) (fun r e => by cases e; exact ⟨_, HK.out, rfl⟩)
      · exact HBW.out.grown (grownBy_putObj' W D (.deferred none)) HBW.out.size (fun k e => by cases e; simp at hD; have := HB0.out; omega)

end Go.Proofs.YteeacbgaehdodaaGreat
