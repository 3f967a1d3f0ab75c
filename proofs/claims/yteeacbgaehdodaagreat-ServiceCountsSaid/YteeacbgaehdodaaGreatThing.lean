/- A slice of things, an argument: read as a list of things, each with its numbers in their ranges. -/
import Derived.Test.YteeacbgaehdodaaGreatLater
import Derived.Deep.Slices
import Derived.Deep.Fields
import Derived.ChangeSame
namespace Go.Proofs.YteeacbgaehdodaaGreat
set_option linter.unusedVariables false
open Go Go.RowKit Go.ChangeShapes Go.WideShapes Go.Deep Go.Proofs.YteeacbgaehdodaaGreatW.PrintWords Go.Proofs.YteeacbgaehdodaaGreatW.PrintLast Go.Proofs.YteeacbgaehdodaaGreatW.PrintMore Go.Proofs.YteeacbgaehdodaaGreat.Fn

/-- a field of one cell, of a struct's cells -/
theorem field_at {H : Type} {enc : TypeId × Value → H} {P : Program} {W : World} {base : Nat} {spare : Nat → Bool} {held : Bool} {e : TypeId} {fs : Array Field} {n : Nat} {cs : List Value} {y : DataW H × List MemPlace} (he : P.underlying e = some (.struct fs)) (h : DataW.trod enc P W base spare held n e cs = some y)
    (j : Nat) (f : Field) (hf : fs[j]? = some f) (ho : f.offset = j) (hc : P.cellsOf f.type = 1) (hj : j < P.cellsOf e) : ∃ (v : Value) (m : Nat) (z : DataW H × List MemPlace), cs[j]? = some v ∧ DataW.trod enc P W base spare held m f.type [v] = some z := by
  obtain ⟨xs, m, _, _, hl, hx, hg⟩ := DataW.trod_struct he h
  have h1 := hg j f hf
  have hjx : j < xs.length := by rw [hx]; exact (Array.getElem?_eq_some_iff.1 hf).1
  have hjc : j < cs.length := by omega
  have ht : (cs.drop j).take 1 = [cs[j]] := by rw [List.drop_eq_getElem_cons hjc]; rfl
  rw [ho, hc, ht, List.getElem?_eq_getElem hjx] at h1
  exact ⟨cs[j], m, _, List.getElem?_eq_getElem hjc, h1⟩

theorem cellsT : Tryz.prog.cellsOf 30 = 4 := by kernel_rfl
theorem cellsU8 : Tryz.prog.cellsOf 5 = 1 := by kernel_rfl
theorem cellsU16 : Tryz.prog.cellsOf 28 = 1 := by kernel_rfl
theorem cellsB : Tryz.prog.cellsOf 4 = 1 := by kernel_rfl
theorem wf_u8 {n : Int} (h : (Lit.int .u8 n).wf = true) : 0 ≤ n ∧ n ≤ 255 := by
  have h : (decide (IntKind.min .u8 ≤ n) && decide (n ≤ IntKind.max .u8)) = true := h
  rw [Bool.and_eq_true, decide_eq_true_eq, decide_eq_true_eq] at h
  exact h
theorem wf_u16 {n : Int} (h : (Lit.int .u16 n).wf = true) : 0 ≤ n ∧ n ≤ 65535 := by
  have h : (decide (IntKind.min .u16 ≤ n) && decide (n ≤ IntKind.max .u16)) = true := h
  rw [Bool.and_eq_true, decide_eq_true_eq, decide_eq_true_eq] at h
  exact h

/-- the cells of a thing -/
theorem thing_of {H : Type} {enc : TypeId × Value → H} {W : World} {base : Nat} {spare : Nat → Bool} {held : Bool} {n : Nat} {cs : List Value} {y : DataW H × List MemPlace} (h : DataW.trod enc Tryz.prog W base spare held n 30 cs = some y) :
    ∃ t : TT, wfT t ∧ cs[0]? = some (.int .u8 t.f0) ∧ cs[1]? = some (.int .u16 t.f1) ∧ cs[2]? = some (.int .u16 t.f2) ∧ cs[3]? = some (.bool t.f3) := by
  obtain ⟨v0, _, _, e0, h0⟩ := field_at Tryz.underlying30 h 0 _ rfl rfl cellsU8 (by rw [cellsT]; decide)
  obtain ⟨v1, _, _, e1, h1⟩ := field_at Tryz.underlying30 h 1 _ rfl rfl cellsU16 (by rw [cellsT]; decide)
  obtain ⟨v2, _, _, e2, h2⟩ := field_at Tryz.underlying30 h 2 _ rfl rfl cellsU16 (by rw [cellsT]; decide)
  obtain ⟨v3, _, _, e3, h3⟩ := field_at Tryz.underlying30 h 3 _ rfl rfl cellsB (by rw [cellsT]; decide)
  obtain ⟨a, ha, _, wa⟩ := DataW.trod_int Tryz.underlying5 h0
  obtain ⟨b, hb, _, wb⟩ := DataW.trod_int Tryz.underlying28 h1
  obtain ⟨c, hc, _, wc⟩ := DataW.trod_int Tryz.underlying28 h2
  obtain ⟨d, hd, _⟩ := DataW.trod_bool Tryz.underlying4 h3
  injection ha with ha _
  injection hb with hb _
  injection hc with hc _
  injection hd with hd _
  subst ha hb hc hd
  exact ⟨⟨a, b, c, d⟩, ⟨wf_u8 wa, wf_u16 wb, wf_u16 wc⟩, e0, e1, e2, e3⟩

theorem things_of {H : Type} {enc : TypeId × Value → H} {W : World} {base : Nat} {spare : Nat → Bool} {held : Bool} {n : Nat} {A : Option Addr} {len cap : Nat} {y : DataW H × List MemPlace} (h : DataW.trod enc Tryz.prog W base spare held n 22 [.slice A len cap] = some y) :
    ∃ l : List TT, IsT W (.slice A len cap) l ∧ ∀ t, t ∈ l → wfT t := by
  rcases Go.Deep.open_slice Tryz.underlying22 h with ⟨hcs, _⟩ | ⟨a, len', cap', m, n', D, Pl, hcs, _, hl, hm, hmm, _, hi⟩
  · simp at hcs
    obtain ⟨rfl, rfl, rfl⟩ := hcs
    exact ⟨[], ⟨none, 0, rfl, Nat.le_refl _, Kd.C_nil _ _⟩, by simp⟩
  · simp at hcs
    obtain ⟨rfl, rfl, rfl⟩ := hcs
    have hlm : len ≤ m := by rw [hmm]; split <;> omega
    have hel : ∀ i, i < len → ∃ t : TT, wfT t ∧ ∀ k u, ([.int .u8 t.f0, .int .u16 t.f1, .int .u16 t.f2, .bool t.f3] : List Value)[k]? = some u → W.cell? (a.add (i * 4 + k)) = some u := fun i him => by
      obtain ⟨cs', hc, ht⟩ := hi i (by omega)
      rw [cellsT] at hc
      obtain ⟨_, hcl, hat⟩ := World.cells?_some hc
      obtain ⟨t, hw, e0, e1, e2, e3⟩ := thing_of ht
      refine ⟨t, hw, fun k u hk => ?_⟩
      have hk4 : k < 4 := (List.getElem?_eq_some_iff.1 hk).1
      have h1 := hat k hk4
      rw [Go.Deep.add_add] at h1
      rw [h1, ← hk]
      (rcases k with _ | _ | _ | _ | k) <;> first | exact e0 | exact e1 | exact e2 | exact e3 | omega
    refine ⟨(List.range len).map fun i => if h : i < len then (hel i h).choose else zT, ⟨some a, cap, by simp, by simpa using hl, by simp, by simp; have := hm; unfold maxLen at this; omega, fun _ => ⟨a, rfl, fun j p hj => ?_⟩⟩, fun t ht => ?_⟩
    · obtain ⟨hj1, hj2⟩ := List.getElem?_eq_some_iff.1 hj
      have hj3 : j < len := by simpa using hj1
      simp only [List.getElem_map, List.getElem_range, dif_pos hj3] at hj2
      subst hj2
      exact ⟨_, rfl, k30_mk _ _, (hel j hj3).choose_spec.2⟩
    · obtain ⟨i, hi', rfl⟩ := List.mem_map.1 ht
      have hi3 : i < len := List.mem_range.1 hi'
      rw [dif_pos hi3]
      exact (hel i hi3).choose_spec.1

set_option maxRecDepth 100000 in
theorem thing_arg {H : Type} {enc : TypeId × Value → H} {W : World} {base b0 : Nat} {r : Reach} {spare : Nat → Bool} {held : Bool} {v : Value} {d : DataW H} {p : List MemPlace} (hv : Value.okWide Tryz.prog W r b0 30 v) (h : DataW.Trod enc Tryz.prog W base spare held 30 v d p) :
    ∃ t : TT, wfT t ∧ v = .agg #[.int .u8 t.f0, .int .u16 t.f1, .int .u16 t.f2, .bool t.f3] := by
  obtain ⟨cs, rfl, hsz⟩ := okWide_struct Tryz.underlying30 hv
  obtain ⟨l⟩ := cs
  obtain ⟨fuel, hf⟩ := h
  obtain ⟨t, hw, e0, e1, e2, e3⟩ := thing_of hf
  refine ⟨t, hw, ?_⟩
  have hl : l.length = 4 := hsz.trans cellsT
  match l, hl with
  | [c0, c1, c2, c3], _ =>
    have e0 : some c0 = _ := e0
    have e1 : some c1 = _ := e1
    have e2 : some c2 = _ := e2
    have e3 : some c3 = _ := e3
    injection e0 with e0
    injection e1 with e1
    injection e2 with e2
    injection e3 with e3
    rw [e0, e1, e2, e3]

theorem things_arg {H : Type} {enc : TypeId × Value → H} {W : World} {base : Nat} {spare : Nat → Bool} {held : Bool} {A : Option Addr} {len cap : Nat} {d : DataW H} {p : List MemPlace} (h : DataW.Trod enc Tryz.prog W base spare held 22 (.slice A len cap) d p) :
    ∃ l : List TT, IsT W (.slice A len cap) l ∧ ∀ t, t ∈ l → wfT t := by
  obtain ⟨m, hm⟩ := h
  exact things_of hm

end Go.Proofs.YteeacbgaehdodaaGreat
