/- Items that are made: Made, told in plain words. Measure and Classes; the rows that come out, in plain words. Rows of items of the call's own. -/
import Derived.Test.YteeacbgaehdodaaGreatServB
import Derived.Test.YteeacbgaehdodaaGreatServP
import Derived.Test.YteeacbgaehdodaaGreatServL
import Derived.Test.YteeacbgaehdodaaGreatMathC
namespace Go.Proofs.YteeacbgaehdodaaGreat
set_option linter.unusedVariables false
open Go Go.RowKit Go.Shelf Go.Lib Go.Sort Go.Maps Go.Proofs.YteeacbgaehdodaaGreatW.PrintWords Go.Proofs.YteeacbgaehdodaaGreatW.PrintLast Go.Proofs.YteeacbgaehdodaaGreatW.PrintMore Go.Proofs.YteeacbgaehdodaaGreat.Fn

/-- classes are bytes -/
def U8X (s : List SX) : Prop := ∀ x, x ∈ s → x.f1 ≤ 255
theorem wf8 {n : Int} (h0 : 0 ≤ n) (h : n ≤ 255) : (Lit.int .u8 n).wf = true := by
  have h1 : IntKind.min .u8 ≤ n := by show (0 : Int) ≤ _; omega
  have h2 : n ≤ IntKind.max .u8 := by show _ ≤ (255 : Int); omega
  show (decide (IntKind.min .u8 ≤ n) && decide (n ≤ IntKind.max .u8)) = true
  rw [decide_eq_true h1, decide_eq_true h2]; rfl
theorem wf64 {n : Int} (h0 : 0 ≤ n) (h : n ≤ 999999) : (Lit.int .i64 n).wf = true := by
  have h1 : IntKind.min .i64 ≤ n := by show (-9223372036854775808 : Int) ≤ _; omega
  have h2 : n ≤ IntKind.max .i64 := by show _ ≤ (9223372036854775807 : Int); omega
  show (decide (IntKind.min .i64 ≤ n) && decide (n ≤ IntKind.max .i64)) = true
  rw [decide_eq_true h1, decide_eq_true h2]; rfl
theorem keyM_wf {s : List SX} (h : U8X s) : ∀ x, x ∈ s → rightX x = true → wfK (keyM x) := fun x hx hr => by
  obtain ⟨h1, _, h2, h3, _⟩ := rightX_parts hr
  have := h x hx
  exact ⟨wf8 (by show 0 ≤ x.f1; omega) this, wf64 (by show 0 ≤ x.f2; omega) (by show x.f2 ≤ 999999; omega), wf64 (by show 0 ≤ x.f3; omega) (by show x.f3 ≤ 999999; omega)⟩
theorem keyC_wf {s : List SX} (h : U8X s) : ∀ x, x ∈ s → rightX x = true → wfK (keyC x) := fun x hx hr => by
  obtain ⟨h1, _⟩ := rightX_parts hr
  have := h x hx
  exact ⟨wf8 (by show 0 ≤ x.f1; omega) this, wf64 (Int.le_refl 0) (show (0 : Int) ≤ 999999 by decide), wf64 (Int.le_refl 0) (show (0 : Int) ≤ 999999 by decide)⟩

set_option maxRecDepth 100000 in
theorem Measure_calls {v vs : Value} (std : List SS) (s : List SX) (now risk : Int) (w : World) (hv : IsS w v std) (hs : IsX w vs s) (hp : PlainS vs) (hl : s.length ≤ 100000) (h8 : U8X s) :
    Calls Tryz.prog 17 #[v, vs, .int .i64 now, .int .i64 risk] w fun e w' => ∃ rv rows er, e = .returned (.tuple #[rv, .int .i64 er]) ∧ MeasR std s now risk keyM rows er ∧ OwnR w' w.heap.size rv rows ∧ Below w.heap.size w w' := by
  have HM := Aside0.mk (measure_calls 41 keyM (enters_of Tryz.func41 (by kernel_rfl) rfl) keyM_calls std s (keyM_wf h8) now risk w hv hs hp hl)
  clear hv hs hp hl h8
  go_enter Tryz.func17, Tryz.ntmps17
  go_wp2_with fail
  refine HM.out.mono ?_
  rintro e w1 ⟨rv, rows, er, rfl, h1, h2, h3⟩
  have H := Aside0.mk (And.intro h1 (And.intro h2 h3))
  clear h1 h2 h3 HM
  go_wp2_with fail
  go_ret2
  exact ⟨_, rows, _, rfl, H.out.1, H.out.2.1, H.out.2.2⟩
set_option maxRecDepth 100000 in
theorem Classes_calls {v vs : Value} (std : List SS) (s : List SX) (now risk : Int) (w : World) (hv : IsS w v std) (hs : IsX w vs s) (hp : PlainS vs) (hl : s.length ≤ 100000) (h8 : U8X s) :
    Calls Tryz.prog 18 #[v, vs, .int .i64 now, .int .i64 risk] w fun e w' => ∃ rv rows er, e = .returned (.tuple #[rv, .int .i64 er]) ∧ MeasR std s now risk keyC rows er ∧ OwnR w' w.heap.size rv rows ∧ Below w.heap.size w w' := by
  have HM := Aside0.mk (measure_calls 42 keyC (enters_of Tryz.func42 (by kernel_rfl) rfl) keyC_calls std s (keyC_wf h8) now risk w hv hs hp hl)
  clear hv hs hp hl h8
  go_enter Tryz.func18, Tryz.ntmps18
  go_wp2_with fail
  refine HM.out.mono ?_
  rintro e w1 ⟨rv, rows, er, rfl, h1, h2, h3⟩
  have H := Aside0.mk (And.intro h1 (And.intro h2 h3))
  clear h1 h2 h3 HM
  go_wp2_with fail
  go_ret2
  exact ⟨_, rows, _, rfl, H.out.1, H.out.2.1, H.out.2.2⟩

/-! ### what is measured, in plain words -/
section
variable {std : List SS} {s : List SX} {now risk : Int} {key : SX → KK} {rows : List RR} {er : Int}
theorem MeasR.bad (h : MeasR std s now risk key rows er) (hn : ¬ okM std s now risk) : rows = [] ∧ er = 2 := by
  rcases h with ⟨_, h⟩ | ⟨h, _⟩
  · exact h
  · exact absurd h hn
theorem MeasR.few (h : MeasR std s now risk key rows er) (ho : okM std s now risk) (hs : s.length ≤ 500) : er = 0 ∧ ∃ l, Rows std now key s l ∧ SortedR l ∧ rows = l.map (bndR risk) := by
  rcases h with ⟨h, _⟩ | ⟨_, l, h1, h2, h⟩
  · exact absurd ho h
  · rcases h with ⟨h3, h4, _⟩ | ⟨_, _, r, hr, hb⟩
    · exact ⟨h3, l, h1, h2, h4⟩
    · exfalso
      have h5 := h1.row r hr
      have h6 := cntR_le std now key s (rowKey r) (fun o => decide (o ≠ 1) && decide (o ≠ 4))
      rw [h5] at hb
      have hb : 500 < cntR std now key s (rowKey r) (fun o => decide (o ≠ 1) && decide (o ≠ 4)) := hb
      omega
theorem Rows.single {l : List RR} (h : Rows std now key s l) {k : KK} (hk : ∀ x, x ∈ s → key x = k) (h0 : s ≠ []) : l = [rawRow std now key s k] := by
  have hall : ∀ r, r ∈ l → rowKey r = k := fun r hr => by
    obtain ⟨x, hx, e⟩ := (h.keys (rowKey r)).1 ⟨r, hr, rfl⟩
    rw [← e, hk x hx]
  obtain ⟨x, hx⟩ := List.exists_mem_of_ne_nil s h0
  obtain ⟨r0, hr0, _⟩ := (h.keys (key x)).2 ⟨x, hx, rfl⟩
  match l, h, hall, hr0 with
  | [r], h, hall, _ =>
    have h1 := h.row r (List.mem_singleton.2 rfl)
    rw [hall r (List.mem_singleton.2 rfl)] at h1
    rw [h1]
  | r :: q :: l, h, hall, _ =>
    exfalso
    have hn := h.nodup
    rw [List.map_cons, List.map_cons, List.nodup_cons] at hn
    exact hn.1 (List.mem_cons.2 (.inl (by rw [hall r (by simp), hall q (by simp)])))
end

end Go.Proofs.YteeacbgaehdodaaGreat

namespace Go.Proofs.YteeacbgaehdodaaGreat
set_option linter.unusedVariables false
open Go Go.RowKit Go.Shelf Go.Lib Go.Sort Go.Maps Go.Proofs.YteeacbgaehdodaaGreatW.PrintWords Go.Proofs.YteeacbgaehdodaaGreatW.PrintLast Go.Proofs.YteeacbgaehdodaaGreatW.PrintMore Go.Proofs.YteeacbgaehdodaaGreat.Fn

def OwnX (w : World) (base : Nat) (v : Value) (l : List SX) : Prop := w.ownsRow base 35 6 v l.length (flatX l)
theorem flatX_ext {F : List Value} {l : List SX} (hl : F.length = l.length * 6) (h : ∀ i k, i < l.length → k < 6 → F[i * 6 + k]? = (encX (l.getD i zX))[k]?) : F = flatX l := by
  apply List.ext_getElem?
  intro t
  rcases Nat.lt_or_ge t (l.length * 6) with ht | ht
  · have h1 := h (t / 6) (t % 6) (by omega) (by omega)
    have h2 := flatX_get l (show t / 6 < l.length by omega) (show t % 6 < 6 by omega)
    rw [show t / 6 * 6 + t % 6 = t by omega] at h1 h2
    rw [h1, h2]
  · rw [List.getElem?_eq_none (by omega), List.getElem?_eq_none (by rw [flatX_length]; omega)]
theorem flatX_append (l : List SX) (x : SX) : flatX l ++ encX x = flatX (l ++ [x]) := by
  refine flatX_ext (by simp [flatX_length, encX]; omega) (fun i k hi hk => ?_)
  rw [List.length_append, List.length_singleton] at hi
  rcases Nat.lt_or_ge i l.length with h | h
  · rw [List.getElem?_append_left (by rw [flatX_length]; omega), flatX_get l h hk]
    rw [List.getD_eq_getElem?_getD, List.getD_eq_getElem?_getD, List.getElem?_append_left h]
  · obtain rfl : i = l.length := by omega
    rw [List.getElem?_append_right (by rw [flatX_length]; omega), flatX_length, Nat.add_sub_cancel_left]
    rw [List.getD_eq_getElem?_getD, List.getElem?_append_right (Nat.le_refl _), Nat.sub_self]; rfl
theorem OwnX.nil (w : World) (base : Nat) : OwnX w base (.slice none 0 0) [] := ⟨flatX_length [], .inl ⟨rfl, rfl⟩⟩
theorem OwnX.slice {w : World} {base : Nat} {v : Value} {l : List SX} (h : OwnX w base v l) : ∃ A c, v = .slice A l.length c := by
  rcases h.2 with ⟨rfl, e⟩ | ⟨g, cap, cur, rfl, _⟩
  · exact ⟨none, 0, by rw [e]⟩
  · exact ⟨_, _, rfl⟩
theorem OwnX.plain {w : World} {base : Nat} {v : Value} {l : List SX} (h : OwnX w base v l) : PlainS v := by
  rcases h.2 with ⟨rfl, e⟩ | ⟨g, cap, cur, rfl, _⟩
  · exact ⟨none, 0, 0, rfl, .inl rfl⟩
  · exact ⟨_, _, _, rfl, .inr ⟨g, 0, rfl⟩⟩
theorem OwnX.isX {w : World} {base : Nat} {v : Value} {l : List SX} (h : OwnX w base v l) : IsX w v l := by
  have h0 := h
  rcases h.2 with ⟨rfl, e⟩ | ⟨g, cap, cur, rfl, hb, hg, hn, hm, _⟩
  · have e' : l = [] := List.length_eq_zero_iff.1 e
    subst e'
    exact ⟨none, 0, rfl, Nat.le_refl _, Kd.C_nil _ _⟩
  · refine ⟨_, cap, rfl, hn, C_of_cells (by simp [maxLen] at hm; omega) (fun i hi k v hk => ?_)⟩
    have hk6 : k < 6 := (List.getElem?_eq_some_iff.1 hk).1
    rw [Nat.zero_add, World.ownsRow.cellAt h0 (i * 6 + k) (by omega), flatX_get l hi hk6, hk]
theorem OwnX.kept {w w' : World} {base : Nat} {v : Value} {l : List SX} {row : Option Nat} (h : OwnX w base v l) (hg : w.grownBy w' row) (hne : v.ownBlock = none ∨ v.ownBlock ≠ row) : OwnX w' base v l := World.ownsRow.kept h hg hne
theorem OwnX.below {w w' : World} {base : Nat} {v : Value} {l : List SX} (h : OwnX w base v l) (hb : Below w.heap.size w w') : OwnX w' base v l := World.ownsRow.kept h (grown_below hb) (by cases v.ownBlock <;> simp)
theorem OwnX.lt {w : World} {base : Nat} {v : Value} {l : List SX} (h : OwnX w base v l) : ∀ k, v.ownBlock = some k → base ≤ k ∧ k < w.heap.size := World.ownsRow.lt h
theorem encX_one (x : SX) (v : Value) (hv : v ∈ encX x) : v.oneCell' = true := by
  simp only [encX, List.mem_cons, List.not_mem_nil, or_false] at hv
  rcases hv with rfl | rfl | rfl | rfl | rfl | rfl <;> rfl
theorem OwnX.appended {w : World} {base : Nat} {v : Value} {l : List SX} {x : SX} (h : w.ownsRow base 35 6 v (l.length + 1) (flatX l ++ encX x)) : OwnX w base v (l ++ [x]) := by
  unfold OwnX
  rw [← flatX_append, List.length_append, List.length_singleton]; exact h
theorem infoXm : (Tryz.prog.info? 35).map (fun i => (i.zero, i.size, i.bytes)) = some (some (.agg #[.int .i64 0, .int .u8 0, .int .i64 0, .int .i64 0, .int .i64 0, .int .i64 0]), 6, 48) := by kernel_rfl
/-- of two slices: not one block -/
def Apart2 (v u : Value) : Prop := ∀ k, v.ownBlock = some k → u.ownBlock ≠ some k
theorem Apart2.ne {v u : Value} (h : Apart2 v u) : u.ownBlock = none ∨ u.ownBlock ≠ v.ownBlock := by
  cases hv : v.ownBlock with
  | none => cases hu : u.ownBlock with
    | none => exact .inl rfl
    | some b => exact .inr (by simp)
  | some k => exact .inr (h k hv)
theorem Apart2.symm {v u : Value} (h : Apart2 v u) : Apart2 u v := fun k hk hv => h k hv hk
theorem Apart2.step {w : World} {base : Nat} {v u v1 : Value} {l : List SX} (h : Apart2 v u) (hu : OwnX w base u l) {n : Nat} (hn : w.heap.size ≤ n) (hat : v1.ownBlock = v.ownBlock ∨ ∃ b, v1.ownBlock = some b ∧ n ≤ b) : Apart2 v1 u := fun k hk hk2 => by
  rcases hat with e | ⟨b, e, hb⟩
  · rw [e] at hk; exact h k hk hk2
  · rw [e] at hk
    injection hk with hk
    have := (hu.lt k hk2).2
    omega

/-! ### the chapter's examples -/
def stdE : List SS := [⟨1, 2, 3, 1000⟩]
def sentE (i d : Int) : SX := ⟨i, 1, 2, 3, 500, d⟩
theorem sentE_calls (i d : Int) (w : World) : Calls Tryz.prog 33 #[.int .i64 i, .int .i64 d] w fun e w' => e = .returned (.agg #[.int .i64 i, .int .u8 1, .int .i64 2, .int .i64 3, .int .i64 500, .int .i64 d]) ∧ Below w.heap.size w w' :=
  letterbaglaw41_sent.calls i d i 1 2 3 500 d w rfl
theorem stdE_calls (w : World) : Calls Tryz.prog 34 #[] w fun e w' => ∃ v, e = .returned v ∧ IsS w' v stdE ∧ Below w.heap.size w w' :=
  (letterbaglaw41_standard.calls stdE w rfl).mono fun e w' ⟨v, h1, h2, h3⟩ => ⟨v, h1, by
    obtain ⟨A, c, h4, h5, h6⟩ := Kd.R_reads h2
    exact ⟨A, c, h4, h5, h6⟩, h3⟩
theorem stdE_right : rightL stdE = true := by decide +kernel
def sentsE (d : Int) (n : Nat) : List SX := (List.range n).map fun i : Nat => sentE ((i : Int) + 1) d
theorem sentsE_succ (d : Int) (n : Nat) : sentsE d (n + 1) = sentsE d n ++ [sentE (n + 1) d] := by
  unfold sentsE
  rw [List.range_succ, List.map_append]; rfl
theorem sentsE_length (d : Int) (n : Nat) : (sentsE d n).length = n := by simp [sentsE]
theorem sentsE_u8 (d : Int) (n : Nat) : U8X (sentsE d n) := fun x hx => by
  unfold sentsE at hx
  obtain ⟨i, _, rfl⟩ := List.mem_map.1 hx
  show (1 : Int) ≤ 255
  decide

end Go.Proofs.YteeacbgaehdodaaGreat
