/- Items that are made: Made, told in plain words, and its walk. -/
import Derived.Test.YteeacbgaehdodaaGreatServK
namespace Go.Proofs.YteeacbgaehdodaaGreat
set_option linter.unusedVariables false
open Go Go.RowKit Go.Shelf Go.Lib Go.Proofs.YteeacbgaehdodaaGreatW.PrintWords Go.Proofs.YteeacbgaehdodaaGreatW.PrintLast Go.Proofs.YteeacbgaehdodaaGreatW.PrintMore Go.Proofs.YteeacbgaehdodaaGreat.Fn

abbrev TT := S30
abbrev zT : TT := z30
def wfT (t : TT) : Prop := (0 ≤ t.f0 ∧ t.f0 ≤ 255) ∧ (0 ≤ t.f1 ∧ t.f1 ≤ 65535) ∧ (0 ≤ t.f2 ∧ t.f2 ≤ 65535)
def stdM : List SS := [⟨1, 1, 2, 1000⟩, ⟨1, 2, 1, 2000⟩, ⟨2, 1, 3, 4000⟩, ⟨2, 2, 3, 0⟩]
def pairT (n : Int) : Int × Int × Int := if n = 0 then (1, 1, 2) else if n = 1 then (1, 2, 1) else if n = 2 then (2, 1, 3) else if n = 3 then (2, 2, 3) else (2, 3, 1)
def thingX (i : Nat) (t : TT) : SX := ⟨1 + (i : Int), (pairT (t.f0 % 5)).1, (pairT (t.f0 % 5)).2.1, (pairT (t.f0 % 5)).2.2, t.f1 % 20000, if t.f3 = true then t.f1 % 20000 + t.f2 % 8000 else -1⟩
def madeN (l : List TT) (n : Nat) : List SX := (List.range n).map fun j => thingX j (l.getD j zT)
def madeX (l : List TT) : List SX := madeN l (min l.length 2000)

theorem madeN_succ (l : List TT) (n : Nat) : madeN l (n + 1) = madeN l n ++ [thingX n (l.getD n zT)] := by
  unfold madeN
  rw [List.range_succ, List.map_append]; rfl
theorem madeN_length (l : List TT) (n : Nat) : (madeN l n).length = n := by simp [madeN]
theorem wfT_get {l : List TT} (h : ∀ t, t ∈ l → wfT t) {i : Nat} (hi : i < l.length) : wfT (l.getD i zT) := by
  rw [List.getD_eq_getElem?_getD, List.getElem?_eq_getElem hi]; exact h _ (List.getElem_mem hi)

/-! ### what is made is right -/
theorem stdM_right : rightL stdM = true := by decide +kernel
theorem pairT_cases (n : Int) : pairT n = (1, 1, 2) ∨ pairT n = (1, 2, 1) ∨ pairT n = (2, 1, 3) ∨ pairT n = (2, 2, 3) ∨ pairT n = (2, 3, 1) := by
  unfold pairT
  repeat' split
  all_goals simp
theorem thingX_right {i : Nat} {t : TT} (h : wfT t) (hi : i < 2000) : rightX (thingX i t) = true := by
  obtain ⟨h0, h1, h2⟩ := h
  unfold rightX thingX outB
  have hp := pairT_cases (t.f0 % 5)
  generalize pairT (t.f0 % 5) = p at *
  dsimp only
  rcases hp with rfl | rfl | rfl | rfl | rfl <;> cases t.f3 <;> simp <;> omega
theorem madeN_right {l : List TT} (h : ∀ t, t ∈ l → wfT t) {n : Nat} (hn : n ≤ 2000) (hl : n ≤ l.length) : ∀ x, x ∈ madeN l n → rightX x = true := by
  intro x hx
  unfold madeN at hx
  obtain ⟨j, hj, rfl⟩ := List.mem_map.1 hx
  rw [List.mem_range] at hj
  exact thingX_right (wfT_get h (by omega)) (by omega)
theorem madeN_nodup (l : List TT) (n : Nat) : ((madeN l n).map fun x => x.f0).Nodup := by
  unfold madeN
  rw [List.map_map, List.nodup_iff_pairwise_ne, List.pairwise_map]
  refine List.Pairwise.imp ?_ List.pairwise_lt_range
  intro a b hab e
  have e : 1 + (a : Int) = 1 + (b : Int) := e
  omega
theorem sentR_of {l : List SX} (h1 : l.length ≤ 2000) (h2 : ∀ x, x ∈ l → rightX x = true) (h3 : (l.map fun x => x.f0).Nodup) : sentR l = true := by
  unfold sentR
  rw [decide_eq_true h1, List.all_eq_true.2 h2, decide_eq_true h3]; rfl
theorem madeX_length (l : List TT) : (madeX l).length = min l.length 2000 := madeN_length l _
theorem madeX_right {l : List TT} (h : ∀ t, t ∈ l → wfT t) : sentR (madeX l) = true := sentR_of (by rw [madeX_length]; omega) (madeN_right h (by omega) (by omega)) (madeN_nodup l _)

/-! ### things, as an argument -/
def IsT (w : World) (v : Value) (l : List TT) : Prop := ∃ (A : Option Addr) (c : Nat), v = .slice A l.length c ∧ l.length ≤ c ∧ Kd.C k30 w A l.length l
theorem IsT.below {w w' : World} {v : Value} {l : List TT} (h : IsT w v l) (hb : Below w.heap.size w w') : IsT w' v l := by
  obtain ⟨A, c, h1, h2, h3⟩ := h
  exact ⟨A, c, h1, h2, Kd.C_below h3 hb⟩
theorem T_plain {w : World} {A : Option Addr} {n : Nat} {xs : List TT} (h : Kd.C k30 w A n xs) (hn : 0 < n) : ∃ b off, A = some ⟨b, off, none⟩ := by
  obtain ⟨ad, c, e, _, hK, hc⟩ := Kd.C_get h zT 0 (by omega) (by omega)
  obtain rfl := k30_open hK
  have h1 := hc 0 _ rfl
  have hs := World.cell?_spot h1
  obtain ⟨b, off, spot⟩ := ad
  have hspot : spot = none := by simpa [Addr.add] using hs
  subst hspot
  exact ⟨b, off, e⟩
theorem T_cells {w : World} {b off n : Nat} {xs : List TT} (h : Kd.C k30 w (some ⟨b, off, none⟩) n xs) {j : Nat} (hj : j < n) : ∀ i v, ([.int .u8 (xs.getD j zT).f0, .int .u16 (xs.getD j zT).f1, .int .u16 (xs.getD j zT).f2, .bool (xs.getD j zT).f3] : List Value)[i]? = some v → w.cell? ⟨b, off + j * 4 + i, none⟩ = some v := by
  obtain ⟨ad, c, e, _, hK, hc⟩ := Kd.C_get h zT (j : Int) (by omega) (by omega)
  rw [Int.toNat_natCast] at hK hc
  obtain rfl := k30_open hK
  injection e with e
  subst e
  intro i v hi
  have h1 := hc i v hi
  rw [Go.WideShapes.add_plain, show k30.sz = 4 from rfl, ← Nat.add_assoc] at h1
  exact h1

/-! ### standards of the call's own -/
def flatS (l : List SS) : List Value := l.flatMap encS
theorem flatS_get : ∀ (l : List SS) (i k : Nat), i < l.length → k < 4 → (flatS l)[i * 4 + k]? = (encS (l.getD i zS))[k]?
  | [], _, _, h, _ => by simp at h
  | x :: l, 0, k, _, hk => by
    unfold flatS
    rw [List.flatMap_cons, List.getElem?_append_left (by simp [encS]; omega)]
    simp
  | x :: l, i + 1, k, h, hk => by
    have := flatS_get l i k (by simpa using h) hk
    unfold flatS at *
    rw [List.flatMap_cons, List.getElem?_append_right (by simp [encS]; omega), show (i + 1) * 4 + k - (encS x).length = i * 4 + k by simp [encS]; omega, this]
    simp
theorem flatS_length (l : List SS) : (flatS l).length = l.length * 4 := by
  induction l with
  | nil => rfl
  | cons x l ih => unfold flatS at *; rw [List.flatMap_cons, List.length_append, ih]; simp [encS]; omega
def OwnS (w : World) (base : Nat) (v : Value) (l : List SS) : Prop := w.ownsRow base 33 4 v l.length (flatS l)
theorem OwnS.below {w w' : World} {base : Nat} {v : Value} {l : List SS} (h : OwnS w base v l) (hb : Below w.heap.size w w') : OwnS w' base v l := World.ownsRow.kept h (grown_below hb) (by cases v.ownBlock <;> simp)
theorem OwnS.kept {w w' : World} {base : Nat} {v : Value} {l : List SS} {row : Option Nat} (h : OwnS w base v l) (hg : w.grownBy w' row) (hne : v.ownBlock = none ∨ v.ownBlock ≠ row) : OwnS w' base v l := World.ownsRow.kept h hg hne
theorem OwnS.cell {w : World} {base g n cap : Nat} {l : List SS} (h : OwnS w base (.slice (some ⟨g, 0, none⟩) n cap) l) {i k : Nat} {v : Value} (hi : i < l.length) (hk : (encS (l.getD i zS))[k]? = some v) : w.cell? ⟨g, i * 4 + k, none⟩ = some v := by
  have hk4 : k < 4 := (List.getElem?_eq_some_iff.1 hk).1
  have hn : n = l.length := by
    rcases h.2 with ⟨e, _⟩ | ⟨g', cap', cur, e, _⟩
    · cases e
    · injection e
  subst hn
  rw [World.ownsRow.cellAt h (i * 4 + k) (by omega), flatS_get l i k hi hk4, hk]
theorem CS_of_cells {w : World} {b off : Nat} {l : List SS} (hl : l.length ≤ 9223372036854775807) (h : ∀ i, i < l.length → ∀ k v, (encS (l.getD i zS))[k]? = some v → w.cell? ⟨b, off + i * 4 + k, none⟩ = some v) : Kd.C k33 w (some ⟨b, off, none⟩) l.length l := by
  refine ⟨rfl, hl, fun _ => ⟨⟨b, off, none⟩, rfl, fun j p hj => ?_⟩⟩
  obtain ⟨hj1, hj2⟩ := List.getElem?_eq_some_iff.1 hj
  refine ⟨encS p, rfl, k33_mk w p, fun i u hu => ?_⟩
  have h1 := h j hj1 i u (by rw [List.getD_eq_getElem?_getD, hj]; exact hu)
  rw [Go.WideShapes.add_plain, show k33.sz = 4 from rfl, ← Nat.add_assoc]
  exact h1
theorem OwnS.isS {w : World} {base : Nat} {v : Value} {l : List SS} (h : OwnS w base v l) : IsS w v l := by
  have h0 := h
  rcases h.2 with ⟨rfl, e⟩ | ⟨g, cap, cur, rfl, hb, hg, hn, hm, _⟩
  · have e' : l = [] := List.length_eq_zero_iff.1 e
    subst e'
    exact ⟨none, 0, rfl, Nat.le_refl _, Kd.C_nil _ _⟩
  · refine ⟨_, cap, rfl, hn, CS_of_cells (by simp [maxLen] at hm; omega) (fun i hi k v hk => ?_)⟩
    rw [Nat.zero_add]
    exact h0.cell hi hk
theorem OwnX.cell {w : World} {base g n cap : Nat} {l : List SX} (h : OwnX w base (.slice (some ⟨g, 0, none⟩) n cap) l) {i k : Nat} {v : Value} (hi : i < l.length) (hk : (encX (l.getD i zX))[k]? = some v) : w.cell? ⟨g, i * 6 + k, none⟩ = some v := by
  have hk6 : k < 6 := (List.getElem?_eq_some_iff.1 hk).1
  have hn : n = l.length := by
    rcases h.2 with ⟨e, _⟩ | ⟨g', cap', cur, e, _⟩
    · cases e
    · injection e
  subst hn
  rw [World.ownsRow.cellAt h (i * 6 + k) (by omega), flatX_get l hi hk6, hk]
theorem OwnX.block {w : World} {base : Nat} {v : Value} {l : List SX} (h : OwnX w base v l) (h0 : 0 < l.length) : ∃ g cap, v = .slice (some ⟨g, 0, none⟩) l.length cap := by
  rcases h.2 with ⟨rfl, e⟩ | ⟨g, cap, cur, rfl, _⟩
  · omega
  · exact ⟨g, cap, rfl⟩
theorem grown_set (w : World) (g j : Nat) (u : Value) : w.grownBy (w.setCell ⟨g, j, none⟩ u) (some g) := ⟨rfl, rfl, rfl, by simp [World.setCell], fun k hk hne => Below.heap_setCell w ⟨g, j, none⟩ u k (fun e => hne (by rw [e]))⟩
theorem OwnX.far {w : World} {base g j : Nat} {u v : Value} {l : List SX} (h : OwnX w base v l) (hne : v.ownBlock = none ∨ v.ownBlock ≠ some g) : OwnX (w.setCell ⟨g, j, none⟩ u) base v l := h.kept (grown_set w g j u) hne
theorem OwnS.far {w : World} {base g j : Nat} {u v : Value} {l : List SS} (h : OwnS w base v l) (hne : v.ownBlock = none ∨ v.ownBlock ≠ some g) : OwnS (w.setCell ⟨g, j, none⟩ u) base v l := h.kept (grown_set w g j u) hne
theorem stdM_lit (W : World) (base : Nat) (hb : base ≤ W.heap.size) : OwnS (W.alloc (.cells #[.int .u8 1, .int .i64 1, .int .i64 2, .int .i64 1000, .int .u8 1, .int .i64 2, .int .i64 1, .int .i64 2000, .int .u8 2, .int .i64 1, .int .i64 3, .int .i64 4000, .int .u8 2, .int .i64 2, .int .i64 3, .int .i64 0] 33)) base (.slice (some ⟨W.heap.size, 0, none⟩) 4 4) stdM := by
  have h := World.ownsRow_lit (base := base) (e := 33) (size := 4) W #[.int .u8 1, .int .i64 1, .int .i64 2, .int .i64 1000, .int .u8 1, .int .i64 2, .int .i64 1, .int .i64 2000, .int .u8 2, .int .i64 1, .int .i64 3, .int .i64 4000, .int .u8 2, .int .i64 2, .int .i64 3, .int .i64 0] 4 hb (by decide) (by simp)
  exact h

theorem set_keep3 {w : World} {g a g' b1 b2 b3 : Nat} {u v1 v2 v3 : Value} (h : w.cell? ⟨g', b1, none⟩ = some v1 ∧ w.cell? ⟨g', b2, none⟩ = some v2 ∧ w.cell? ⟨g', b3, none⟩ = some v3) (hne : g' < g) :
    (w.setCell ⟨g, a, none⟩ u).cell? ⟨g', b1, none⟩ = some v1 ∧ (w.setCell ⟨g, a, none⟩ u).cell? ⟨g', b2, none⟩ = some v2 ∧ (w.setCell ⟨g, a, none⟩ u).cell? ⟨g', b3, none⟩ = some v3 := by
  have hk := fun b => World.cell?_setCell_other w ⟨g, a, none⟩ ⟨g', b, none⟩ u (fun e => by injection e with e; omega)
  exact ⟨(hk b1).trans h.1, (hk b2).trans h.2.1, (hk b3).trans h.2.2⟩
theorem box_free (w : World) (A : Array Value) (e k : Nat) : (w.alloc (.cells A e)).frozen? ⟨w.heap.size, k, none⟩ = false := by
  unfold World.frozen?
  rw [heap_alloc_new]
  simp
theorem Apart2.stepS {w : World} {base : Nat} {v u v1 : Value} {l : List SS} (h : Apart2 v u) (hu : OwnS w base u l) {n : Nat} (hn : w.heap.size ≤ n) (hat : v1.ownBlock = v.ownBlock ∨ ∃ b, v1.ownBlock = some b ∧ n ≤ b) : Apart2 v1 u := fun k hk hk2 => by
  rcases hat with e | ⟨b, e, hb⟩
  · rw [e] at hk; exact h k hk hk2
  · rw [e] at hk
    injection hk with hk
    have := (World.ownsRow.lt hu k hk2).2
    omega
theorem pair_std {n : Int} {k : Nat} (h : n = (k : Int)) (hk : k < 4) : pairT n = ((stdM.getD k zS).f0, (stdM.getD k zS).f1, (stdM.getD k zS).f2) := by
  subst h
  match k, hk with
  | 0, _ => rfl
  | 1, _ => rfl
  | 2, _ => rfl
  | 3, _ => rfl

set_option maxHeartbeats 4000000 in
set_option maxRecDepth 100000 in
theorem Made_calls {v : Value} (l : List TT) (w : World) (hv : IsT w v l) (h : ∀ t, t ∈ l → wfT t) :
    Calls Tryz.prog 14 #[v] w fun e w' => ∃ v0 v1, e = .returned (.tuple #[v0, v1]) ∧ OwnS w' w.heap.size v0 stdM ∧ OwnX w' w.heap.size v1 (madeX l) ∧ Below w.heap.size w w' := by
  have HI := Aside0.mk (fun W (h : Below w.heap.size w W) => hv.below h)
  have HWF := Aside0.mk h
  obtain ⟨A, c, rfl, hlc, hC⟩ := hv
  have hcm := hC.2.1
  clear h hC
  go_enter Tryz.func14, Tryz.ntmps14
  go_wp2_with fail
  have HS1 := Aside0.mk (stdM_lit w w.heap.size (Nat.le_refl _))
  have HB1 : Aside0 (Below w.heap.size w (w.alloc (.cells #[.int .u8 1, .int .i64 1, .int .i64 2, .int .i64 1000, .int .u8 1, .int .i64 2, .int .i64 1, .int .i64 2000, .int .u8 2, .int .i64 1, .int .i64 3, .int .i64 4000, .int .u8 2, .int .i64 2, .int .i64 3, .int .i64 0] 33))) := ⟨below_alloc (Below.refl _ _) _⟩
  have HX1 := Aside0.mk (OwnX.nil (w.alloc (.cells #[.int .u8 1, .int .i64 1, .int .i64 2, .int .i64 1000, .int .u8 1, .int .i64 2, .int .i64 1, .int .i64 2000, .int .u8 2, .int .i64 1, .int .i64 3, .int .i64 4000, .int .u8 2, .int .i64 2, .int .i64 3, .int .i64 0] 33)) w.heap.size)
  generalize w.alloc (.cells #[.int .u8 1, .int .i64 1, .int .i64 2, .int .i64 1000, .int .u8 1, .int .i64 2, .int .i64 1, .int .i64 2000, .int .u8 2, .int .i64 1, .int .i64 3, .int .i64 4000, .int .u8 2, .int .i64 2, .int .i64 3, .int .i64 0] 33) = w1 at *
  obtain ⟨g0, hg0⟩ : ∃ g0, g0 = w.heap.size := ⟨_, rfl⟩
  have HS1 : Aside0 (OwnS w1 w.heap.size (.slice (some ⟨g0, 0, none⟩) 4 4) stdM) := ⟨by rw [hg0]; exact HS1.out⟩
  rw [← hg0]
  rw [hg0]
  go_loopw [5, 6] (fun v5 v6 W => ∃ i : Nat, i ≤ min l.length 2000 ∧ v6 = .int .i64 i ∧ Aside0 (OwnS W w.heap.size (.slice (some ⟨w.heap.size, 0, none⟩) 4 4) stdM) ∧ Aside0 (OwnX W w.heap.size v5 (madeN l i)) ∧ Aside0 (Apart2 v5 (.slice (some ⟨w.heap.size, 0, none⟩) 4 4)) ∧ Aside0 (Below w.heap.size w W)) (fun _ v6 _ => 2000 - (intOf v6).toNat)
  case atStart => exact ⟨0, by omega, rfl, by rw [hg0] at HS1; exact HS1, HX1, ⟨fun k hk => by simp [Value.ownBlock] at hk⟩, HB1⟩
  case round =>
    clear HS1 HB1 HX1 hg0
    obtain ⟨i, hi, rfl, HS, HX, HA, HB⟩ := hrel
    by_cases hi1 : i < l.length
    · by_cases hi2 : i < 2000
      · obtain ⟨A5, c5, rfl⟩ := HX.out.slice
        have HIr := HI.out wr HB.out
        obtain ⟨A', c', e', _, hCr⟩ := HIr
        injection e' with e1 e2 e3
        subst e1 e3
        obtain ⟨b, off, rfl⟩ := T_plain hCr (by omega)
        have hx4 := T_cells hCr hi1
        have hw := wfT_get HWF.out hi1
        have HMS : Aside0 (madeN l (i + 1) = madeN l i ++ [thingX i (l.getD i zT)]) := ⟨madeN_succ l i⟩
        obtain ⟨t, ht⟩ : ∃ t, t = l.getD i zT := ⟨_, rfl⟩
        rw [← ht] at hx4 hw HMS
        clear ht hCr
        have x0 : wr.cell? ⟨b, off + i * 4, none⟩ = some (.int .u8 t.f0) := hx4 0 _ rfl
        have x1 : wr.cell? ⟨b, off + i * 4 + 1, none⟩ = some (.int .u16 t.f1) := hx4 1 _ rfl
        have x2 : wr.cell? ⟨b, off + i * 4 + 2, none⟩ = some (.int .u16 t.f2) := hx4 2 _ rfl
        have x3 : wr.cell? ⟨b, off + i * 4 + 3, none⟩ = some (.bool t.f3) := hx4 3 _ rfl
        clear hx4
        obtain ⟨h0, h1, h2⟩ := hw
        obtain ⟨t0, t1, t2, t3⟩ := t
        dsimp only at x0 x1 x2 x3 h0 h1 h2
        obtain ⟨k, hk⟩ : ∃ k : Nat, t0 % 5 = (k : Int) := ⟨(t0 % 5).toNat, by omega⟩
        have ta : Int.tmod t0 5 = (k : Int) := (Int.tmod_eq_emod_of_nonneg h0.1).trans hk
        have tb : Int.tmod t1 20000 = t1 % 20000 := Int.tmod_eq_emod_of_nonneg h1.1
        have tc : Int.tmod t2 8000 = t2 % 8000 := Int.tmod_eq_emod_of_nonneg h2.1
        have hk5 : k < 5 := by omega
        have HK := Aside0.mk hk
        clear hk
        have y0 : (wr.alloc (.cells #[.int .i64 (1 + (i : Int)), .int .u8 2, .int .i64 3, .int .i64 1, .int .i64 (t1 % 20000), .int .i64 (-1)] 35)).cell? ⟨b, off + i * 4, none⟩ = some (.int .u8 t0) := Lib.cell?_alloc_some _ x0
        have y1 : (wr.alloc (.cells #[.int .i64 (1 + (i : Int)), .int .u8 2, .int .i64 3, .int .i64 1, .int .i64 (t1 % 20000), .int .i64 (-1)] 35)).cell? ⟨b, off + i * 4 + 1, none⟩ = some (.int .u16 t1) := Lib.cell?_alloc_some _ x1
        have y2 : (wr.alloc (.cells #[.int .i64 (1 + (i : Int)), .int .u8 2, .int .i64 3, .int .i64 1, .int .i64 (t1 % 20000), .int .i64 (-1)] 35)).cell? ⟨b, off + i * 4 + 2, none⟩ = some (.int .u16 t2) := Lib.cell?_alloc_some _ x2
        have y3 : (wr.alloc (.cells #[.int .i64 (1 + (i : Int)), .int .u8 2, .int .i64 3, .int .i64 1, .int .i64 (t1 % 20000), .int .i64 (-1)] 35)).cell? ⟨b, off + i * 4 + 3, none⟩ = some (.bool t3) := Lib.cell?_alloc_some _ x3
        have z0 : (wr.alloc (.cells #[.int .i64 (1 + (i : Int)), .int .u8 2, .int .i64 3, .int .i64 1, .int .i64 (t1 % 20000), .int .i64 (-1)] 35)).cell? ⟨wr.heap.size, 0, none⟩ = some (.int .i64 (1 + (i : Int))) := box_cell _ _ _ 0 _ rfl
        have z1 : (wr.alloc (.cells #[.int .i64 (1 + (i : Int)), .int .u8 2, .int .i64 3, .int .i64 1, .int .i64 (t1 % 20000), .int .i64 (-1)] 35)).cell? ⟨wr.heap.size, 1, none⟩ = some (.int .u8 (2)) := box_cell _ _ _ 1 _ rfl
        have z2 : (wr.alloc (.cells #[.int .i64 (1 + (i : Int)), .int .u8 2, .int .i64 3, .int .i64 1, .int .i64 (t1 % 20000), .int .i64 (-1)] 35)).cell? ⟨wr.heap.size, 2, none⟩ = some (.int .i64 (3)) := box_cell _ _ _ 2 _ rfl
        have z3 : (wr.alloc (.cells #[.int .i64 (1 + (i : Int)), .int .u8 2, .int .i64 3, .int .i64 1, .int .i64 (t1 % 20000), .int .i64 (-1)] 35)).cell? ⟨wr.heap.size, 3, none⟩ = some (.int .i64 (1)) := box_cell _ _ _ 3 _ rfl
        have z4 : (wr.alloc (.cells #[.int .i64 (1 + (i : Int)), .int .u8 2, .int .i64 3, .int .i64 1, .int .i64 (t1 % 20000), .int .i64 (-1)] 35)).cell? ⟨wr.heap.size, 4, none⟩ = some (.int .i64 (t1 % 20000)) := box_cell _ _ _ 4 _ rfl
        have z5 : (wr.alloc (.cells #[.int .i64 (1 + (i : Int)), .int .u8 2, .int .i64 3, .int .i64 1, .int .i64 (t1 % 20000), .int .i64 (-1)] 35)).cell? ⟨wr.heap.size, 5, none⟩ = some (.int .i64 (-1)) := box_cell _ _ _ 5 _ rfl
        have q1 : (wr.alloc (.cells #[.int .i64 (1 + (i : Int)), .int .u8 2, .int .i64 3, .int .i64 1, .int .i64 (t1 % 20000), .int .i64 (-1)] 35)).frozen? ⟨wr.heap.size, 1, none⟩ = false := box_free _ _ _ _
        have q2 : (wr.alloc (.cells #[.int .i64 (1 + (i : Int)), .int .u8 2, .int .i64 3, .int .i64 1, .int .i64 (t1 % 20000), .int .i64 (-1)] 35)).frozen? ⟨wr.heap.size, 2, none⟩ = false := box_free _ _ _ _
        have q3 : (wr.alloc (.cells #[.int .i64 (1 + (i : Int)), .int .u8 2, .int .i64 3, .int .i64 1, .int .i64 (t1 % 20000), .int .i64 (-1)] 35)).frozen? ⟨wr.heap.size, 3, none⟩ = false := box_free _ _ _ _
        have q5 : (wr.alloc (.cells #[.int .i64 (1 + (i : Int)), .int .u8 2, .int .i64 3, .int .i64 1, .int .i64 (t1 % 20000), .int .i64 (-1)] 35)).frozen? ⟨wr.heap.size, 5, none⟩ = false := box_free _ _ _ _
        have hne5 : Aside0 ((Value.slice A5 (madeN l i).length c5).ownBlock = none ∨ (Value.slice A5 (madeN l i).length c5).ownBlock ≠ some wr.heap.size) := ⟨by
          cases hu : (Value.slice A5 (madeN l i).length c5).ownBlock with
          | none => exact .inl rfl
          | some g => exact .inr (fun e => by injection e with e; have := (HX.out.lt g hu).2; omega)⟩
        have hltw : w.heap.size < wr.heap.size := by
          have := (World.ownsRow.lt HS.out _ rfl).2
          exact this
        have hle := HB.out.size
        have HSa : Aside0 (OwnS (wr.alloc (.cells #[.int .i64 (1 + (i : Int)), .int .u8 2, .int .i64 3, .int .i64 1, .int .i64 (t1 % 20000), .int .i64 (-1)] 35)) w.heap.size (.slice (some ⟨w.heap.size, 0, none⟩) 4 4) stdM) := ⟨HS.out.below (below_alloc (Below.refl _ _) _)⟩
        have HXa : Aside0 (OwnX (wr.alloc (.cells #[.int .i64 (1 + (i : Int)), .int .u8 2, .int .i64 3, .int .i64 1, .int .i64 (t1 % 20000), .int .i64 (-1)] 35)) w.heap.size (.slice A5 (madeN l i).length c5) (madeN l i)) := ⟨HX.out.below (below_alloc (Below.refl _ _) _)⟩
        have HBa : Aside0 (Below w.heap.size w (wr.alloc (.cells #[.int .i64 (1 + (i : Int)), .int .u8 2, .int .i64 3, .int .i64 1, .int .i64 (t1 % 20000), .int .i64 (-1)] 35))) := ⟨below_alloc HB.out _⟩
        have hszA : (wr.alloc (.cells #[.int .i64 (1 + (i : Int)), .int .u8 2, .int .i64 3, .int .i64 1, .int .i64 (t1 % 20000), .int .i64 (-1)] 35)).heap.size = wr.heap.size + 1 := by simp
        have HSZ := Aside0.mk hszA
        clear hszA
        by_cases hk4 : k < 4
        · have HPR := Aside0.mk (pair_std HK.out hk4)
          have r0 : wr.cell? ⟨w.heap.size, k * 4, none⟩ = some (.int .u8 (stdM.getD k zS).f0) := HS.out.cell (i := k) (k := 0) hk4 rfl
          have r1 : wr.cell? ⟨w.heap.size, k * 4 + 1, none⟩ = some (.int .i64 (stdM.getD k zS).f1) := HS.out.cell (i := k) (k := 1) hk4 rfl
          have r2 : wr.cell? ⟨w.heap.size, k * 4 + 2, none⟩ = some (.int .i64 (stdM.getD k zS).f2) := HS.out.cell (i := k) (k := 2) hk4 rfl
          have s0 : (wr.alloc (.cells #[.int .i64 (1 + (i : Int)), .int .u8 2, .int .i64 3, .int .i64 1, .int .i64 (t1 % 20000), .int .i64 (-1)] 35)).cell? ⟨w.heap.size, k * 4, none⟩ = some (.int .u8 (stdM.getD k zS).f0) := HSa.out.cell (i := k) (k := 0) hk4 rfl
          have s1 : (wr.alloc (.cells #[.int .i64 (1 + (i : Int)), .int .u8 2, .int .i64 3, .int .i64 1, .int .i64 (t1 % 20000), .int .i64 (-1)] 35)).cell? ⟨w.heap.size, k * 4 + 1, none⟩ = some (.int .i64 (stdM.getD k zS).f1) := HSa.out.cell (i := k) (k := 1) hk4 rfl
          have s2 : (wr.alloc (.cells #[.int .i64 (1 + (i : Int)), .int .u8 2, .int .i64 3, .int .i64 1, .int .i64 (t1 % 20000), .int .i64 (-1)] 35)).cell? ⟨w.heap.size, k * 4 + 2, none⟩ = some (.int .i64 (stdM.getD k zS).f2) := HSa.out.cell (i := k) (k := 2) hk4 rfl
          generalize (stdM.getD k zS).f0 = d0 at *
          generalize (stdM.getD k zS).f1 = d1 at *
          generalize (stdM.getD k zS).f2 = d2 at *
          cases t3
          · go_wp2_with fail
            go_region_held3 (fun W' => W'.cell? ⟨w.heap.size, k * 4, none⟩ = some (.int .u8 d0) ∧ W'.cell? ⟨w.heap.size, k * 4 + 1, none⟩ = some (.int .i64 d1) ∧ W'.cell? ⟨w.heap.size, k * 4 + 2, none⟩ = some (.int .i64 d2)) (exact ⟨Lib.cell?_alloc_some _ r0, Lib.cell?_alloc_some _ r1, Lib.cell?_alloc_some _ r2⟩) (fail)
            have y2' : (wr.alloc (.cells #[.int .i64 (1 + (i : Int)), .int .u8 (d0), .int .i64 (d1), .int .i64 (d2), .int .i64 (t1 % 20000), .int .i64 (-1)] 35)).drew.cell? ⟨b, off + i * 4 + 2, none⟩ = some (.int .u16 t2) := Lib.cell?_alloc_some _ x2
            have y3' : (wr.alloc (.cells #[.int .i64 (1 + (i : Int)), .int .u8 (d0), .int .i64 (d1), .int .i64 (d2), .int .i64 (t1 % 20000), .int .i64 (-1)] 35)).drew.cell? ⟨b, off + i * 4 + 3, none⟩ = some (.bool false) := Lib.cell?_alloc_some _ x3
            have z0' : (wr.alloc (.cells #[.int .i64 (1 + (i : Int)), .int .u8 (d0), .int .i64 (d1), .int .i64 (d2), .int .i64 (t1 % 20000), .int .i64 (-1)] 35)).drew.cell? ⟨wr.heap.size, 0, none⟩ = some (.int .i64 (1 + (i : Int))) := box_cell _ _ _ 0 _ rfl
            have z1' : (wr.alloc (.cells #[.int .i64 (1 + (i : Int)), .int .u8 (d0), .int .i64 (d1), .int .i64 (d2), .int .i64 (t1 % 20000), .int .i64 (-1)] 35)).drew.cell? ⟨wr.heap.size, 1, none⟩ = some (.int .u8 (d0)) := box_cell _ _ _ 1 _ rfl
            have z2' : (wr.alloc (.cells #[.int .i64 (1 + (i : Int)), .int .u8 (d0), .int .i64 (d1), .int .i64 (d2), .int .i64 (t1 % 20000), .int .i64 (-1)] 35)).drew.cell? ⟨wr.heap.size, 2, none⟩ = some (.int .i64 (d1)) := box_cell _ _ _ 2 _ rfl
            have z3' : (wr.alloc (.cells #[.int .i64 (1 + (i : Int)), .int .u8 (d0), .int .i64 (d1), .int .i64 (d2), .int .i64 (t1 % 20000), .int .i64 (-1)] 35)).drew.cell? ⟨wr.heap.size, 3, none⟩ = some (.int .i64 (d2)) := box_cell _ _ _ 3 _ rfl
            have z4' : (wr.alloc (.cells #[.int .i64 (1 + (i : Int)), .int .u8 (d0), .int .i64 (d1), .int .i64 (d2), .int .i64 (t1 % 20000), .int .i64 (-1)] 35)).drew.cell? ⟨wr.heap.size, 4, none⟩ = some (.int .i64 (t1 % 20000)) := box_cell _ _ _ 4 _ rfl
            have z5' : (wr.alloc (.cells #[.int .i64 (1 + (i : Int)), .int .u8 (d0), .int .i64 (d1), .int .i64 (d2), .int .i64 (t1 % 20000), .int .i64 (-1)] 35)).drew.cell? ⟨wr.heap.size, 5, none⟩ = some (.int .i64 (-1)) := box_cell _ _ _ 5 _ rfl
            have q5' : (wr.alloc (.cells #[.int .i64 (1 + (i : Int)), .int .u8 (d0), .int .i64 (d1), .int .i64 (d2), .int .i64 (t1 % 20000), .int .i64 (-1)] 35)).drew.frozen? ⟨wr.heap.size, 5, none⟩ = false := box_free _ _ _ _
            go_wp2_with (first
              | ((with_reducible refine gate_builtin (b := .append) (xs := #[.tmp 79, .tmp 81]) rfl ?_); at_builtin; refine Aside0.out ?_))
            refine ⟨?_⟩
            refine print_append_cells (w0 := w) (W := (wr.alloc (.cells #[.int .i64 (1 + (i : Int)), .int .u8 (d0), .int .i64 (d1), .int .i64 (d2), .int .i64 (t1 % 20000), .int .i64 (-1)] 35)).drew) w.heap.size rfl (.tmp 79) (.tmp 81) 25 35 (.agg #[.int .i64 0, .int .u8 0, .int .i64 0, .int .i64 0, .int .i64 0, .int .i64 0]) 6 48 rfl Tryz.underlying25 infoXm rfl (by decide) (by decide) _ _ _ (encX ⟨1 + (i : Int), d0, d1, d2, t1 % 20000, -1⟩) rfl (congrArg (fun q => Value.slice (some ⟨q, 0, none⟩) 1 1) (show wr.heap.size + 1 = (wr.alloc (.cells #[.int .i64 (1 + (i : Int)), .int .u8 (d0), .int .i64 (d1), .int .i64 (d2), .int .i64 (t1 % 20000), .int .i64 (-1)] 35)).heap.size by simp)) rfl (encX_one _) (HX.out.below (pw_below_drewN (below_alloc (Below.refl _ _) _) 1)) (pw_below_drewN (below_alloc HB.out _) 1) (Nat.le_trans HB.out.size (Below.size (pw_below_drewN (below_alloc (Below.refl wr.heap.size wr) _) 1))) (by rw [madeN_length]; omega) ?_
            intro v7 w7 ho7 hb7 hg7 hat7
            have HX7 : Aside0 (OwnX w7 w.heap.size v7 (madeN l (i + 1))) := ⟨by rw [HMS.out, show thingX i ⟨t0, t1, t2, false⟩ = ⟨1 + (i : Int), d0, d1, d2, t1 % 20000, -1⟩ from by unfold thingX; dsimp only; rw [HPR.out]; rfl]; exact OwnX.appended ho7⟩
            have HB7 := Aside0.mk hb7
            have HS7 := Aside0.mk ((HS.out.below (pw_below_drewN (below_alloc (Below.refl _ _) _) 1)).kept hg7 HA.out.ne)
            have HA7 := Aside0.mk (HA.out.stepS (HS.out.below (pw_below_drewN (below_alloc (Below.refl wr.heap.size wr) _) 1)) (Nat.le_refl _) hat7)
            clear ho7 hb7 hg7 hat7
            go_wp2_with fail
            go_roundw
            case rel => exact ⟨i + 1, by omega, by go_num, HS7, HX7, HA7, HB7⟩
            case measure => simp [intOf]; omega
          · go_wp2_with fail
            go_region_held3 (fun W' => W'.cell? ⟨w.heap.size, k * 4, none⟩ = some (.int .u8 d0) ∧ W'.cell? ⟨w.heap.size, k * 4 + 1, none⟩ = some (.int .i64 d1) ∧ W'.cell? ⟨w.heap.size, k * 4 + 2, none⟩ = some (.int .i64 d2)) (exact ⟨Lib.cell?_alloc_some _ r0, Lib.cell?_alloc_some _ r1, Lib.cell?_alloc_some _ r2⟩) (fail)
            have y2' : (wr.alloc (.cells #[.int .i64 (1 + (i : Int)), .int .u8 (d0), .int .i64 (d1), .int .i64 (d2), .int .i64 (t1 % 20000), .int .i64 (-1)] 35)).drew.cell? ⟨b, off + i * 4 + 2, none⟩ = some (.int .u16 t2) := Lib.cell?_alloc_some _ x2
            have y3' : (wr.alloc (.cells #[.int .i64 (1 + (i : Int)), .int .u8 (d0), .int .i64 (d1), .int .i64 (d2), .int .i64 (t1 % 20000), .int .i64 (-1)] 35)).drew.cell? ⟨b, off + i * 4 + 3, none⟩ = some (.bool true) := Lib.cell?_alloc_some _ x3
            have z0' : (wr.alloc (.cells #[.int .i64 (1 + (i : Int)), .int .u8 (d0), .int .i64 (d1), .int .i64 (d2), .int .i64 (t1 % 20000), .int .i64 (-1)] 35)).drew.cell? ⟨wr.heap.size, 0, none⟩ = some (.int .i64 (1 + (i : Int))) := box_cell _ _ _ 0 _ rfl
            have z1' : (wr.alloc (.cells #[.int .i64 (1 + (i : Int)), .int .u8 (d0), .int .i64 (d1), .int .i64 (d2), .int .i64 (t1 % 20000), .int .i64 (-1)] 35)).drew.cell? ⟨wr.heap.size, 1, none⟩ = some (.int .u8 (d0)) := box_cell _ _ _ 1 _ rfl
            have z2' : (wr.alloc (.cells #[.int .i64 (1 + (i : Int)), .int .u8 (d0), .int .i64 (d1), .int .i64 (d2), .int .i64 (t1 % 20000), .int .i64 (-1)] 35)).drew.cell? ⟨wr.heap.size, 2, none⟩ = some (.int .i64 (d1)) := box_cell _ _ _ 2 _ rfl
            have z3' : (wr.alloc (.cells #[.int .i64 (1 + (i : Int)), .int .u8 (d0), .int .i64 (d1), .int .i64 (d2), .int .i64 (t1 % 20000), .int .i64 (-1)] 35)).drew.cell? ⟨wr.heap.size, 3, none⟩ = some (.int .i64 (d2)) := box_cell _ _ _ 3 _ rfl
            have z4' : (wr.alloc (.cells #[.int .i64 (1 + (i : Int)), .int .u8 (d0), .int .i64 (d1), .int .i64 (d2), .int .i64 (t1 % 20000), .int .i64 (-1)] 35)).drew.cell? ⟨wr.heap.size, 4, none⟩ = some (.int .i64 (t1 % 20000)) := box_cell _ _ _ 4 _ rfl
            have z5' : (wr.alloc (.cells #[.int .i64 (1 + (i : Int)), .int .u8 (d0), .int .i64 (d1), .int .i64 (d2), .int .i64 (t1 % 20000), .int .i64 (-1)] 35)).drew.cell? ⟨wr.heap.size, 5, none⟩ = some (.int .i64 (-1)) := box_cell _ _ _ 5 _ rfl
            have q5' : (wr.alloc (.cells #[.int .i64 (1 + (i : Int)), .int .u8 (d0), .int .i64 (d1), .int .i64 (d2), .int .i64 (t1 % 20000), .int .i64 (-1)] 35)).drew.frozen? ⟨wr.heap.size, 5, none⟩ = false := box_free _ _ _ _
            go_wp2_with fail
            go_region_held3 (fun W' => W'.cell? ⟨b, off + i * 4 + 2, none⟩ = some (.int .u16 t2) ∧ W'.cell? ⟨wr.heap.size, 4, none⟩ = some (.int .i64 (t1 % 20000))) (exact ⟨Lib.cell?_alloc_some _ x2, box_cell _ _ _ 4 _ rfl⟩) (fail)
            go_wp2_with (first
              | ((with_reducible refine gate_builtin (b := .append) (xs := #[.tmp 79, .tmp 81]) rfl ?_); at_builtin; refine Aside0.out ?_))
            refine ⟨?_⟩
            refine print_append_cells (w0 := w) (W := (wr.alloc (.cells #[.int .i64 (1 + (i : Int)), .int .u8 (d0), .int .i64 (d1), .int .i64 (d2), .int .i64 (t1 % 20000), .int .i64 (t1 % 20000 + t2 % 8000)] 35)).drewN 2) w.heap.size rfl (.tmp 79) (.tmp 81) 25 35 (.agg #[.int .i64 0, .int .u8 0, .int .i64 0, .int .i64 0, .int .i64 0, .int .i64 0]) 6 48 rfl Tryz.underlying25 infoXm rfl (by decide) (by decide) _ _ _ (encX ⟨1 + (i : Int), d0, d1, d2, t1 % 20000, t1 % 20000 + t2 % 8000⟩) rfl (congrArg (fun q => Value.slice (some ⟨q, 0, none⟩) 1 1) (show wr.heap.size + 1 = (wr.alloc (.cells #[.int .i64 (1 + (i : Int)), .int .u8 (d0), .int .i64 (d1), .int .i64 (d2), .int .i64 (t1 % 20000), .int .i64 (t1 % 20000 + t2 % 8000)] 35)).heap.size by simp)) rfl (encX_one _) (HX.out.below (pw_below_drewN (below_alloc (Below.refl _ _) _) 2)) (pw_below_drewN (below_alloc HB.out _) 2) (Nat.le_trans HB.out.size (Below.size (pw_below_drewN (below_alloc (Below.refl wr.heap.size wr) _) 2))) (by rw [madeN_length]; omega) ?_
            intro v7 w7 ho7 hb7 hg7 hat7
            have HX7 : Aside0 (OwnX w7 w.heap.size v7 (madeN l (i + 1))) := ⟨by rw [HMS.out, show thingX i ⟨t0, t1, t2, true⟩ = ⟨1 + (i : Int), d0, d1, d2, t1 % 20000, t1 % 20000 + t2 % 8000⟩ from by unfold thingX; dsimp only; rw [HPR.out]; rfl]; exact OwnX.appended ho7⟩
            have HB7 := Aside0.mk hb7
            have HS7 := Aside0.mk ((HS.out.below (pw_below_drewN (below_alloc (Below.refl _ _) _) 2)).kept hg7 HA.out.ne)
            have HA7 := Aside0.mk (HA.out.stepS (HS.out.below (pw_below_drewN (below_alloc (Below.refl wr.heap.size wr) _) 2)) (Nat.le_refl _) hat7)
            clear ho7 hb7 hg7 hat7
            go_wp2_with fail
            go_roundw
            case rel => exact ⟨i + 1, by omega, by go_num, HS7, HX7, HA7, HB7⟩
            case measure => simp [intOf]; omega
        · have hk4' : k = 4 := by omega
          have HPR : Aside0 (pairT (t0 % 5) = (2, 3, 1)) := ⟨by rw [HK.out, hk4']; rfl⟩
          clear hk4'
          cases t3
          · have y2' : (wr.alloc (.cells #[.int .i64 (1 + (i : Int)), .int .u8 (2), .int .i64 (3), .int .i64 (1), .int .i64 (t1 % 20000), .int .i64 (-1)] 35)).cell? ⟨b, off + i * 4 + 2, none⟩ = some (.int .u16 t2) := Lib.cell?_alloc_some _ x2
            have y3' : (wr.alloc (.cells #[.int .i64 (1 + (i : Int)), .int .u8 (2), .int .i64 (3), .int .i64 (1), .int .i64 (t1 % 20000), .int .i64 (-1)] 35)).cell? ⟨b, off + i * 4 + 3, none⟩ = some (.bool false) := Lib.cell?_alloc_some _ x3
            have z0' : (wr.alloc (.cells #[.int .i64 (1 + (i : Int)), .int .u8 (2), .int .i64 (3), .int .i64 (1), .int .i64 (t1 % 20000), .int .i64 (-1)] 35)).cell? ⟨wr.heap.size, 0, none⟩ = some (.int .i64 (1 + (i : Int))) := box_cell _ _ _ 0 _ rfl
            have z1' : (wr.alloc (.cells #[.int .i64 (1 + (i : Int)), .int .u8 (2), .int .i64 (3), .int .i64 (1), .int .i64 (t1 % 20000), .int .i64 (-1)] 35)).cell? ⟨wr.heap.size, 1, none⟩ = some (.int .u8 (2)) := box_cell _ _ _ 1 _ rfl
            have z2' : (wr.alloc (.cells #[.int .i64 (1 + (i : Int)), .int .u8 (2), .int .i64 (3), .int .i64 (1), .int .i64 (t1 % 20000), .int .i64 (-1)] 35)).cell? ⟨wr.heap.size, 2, none⟩ = some (.int .i64 (3)) := box_cell _ _ _ 2 _ rfl
            have z3' : (wr.alloc (.cells #[.int .i64 (1 + (i : Int)), .int .u8 (2), .int .i64 (3), .int .i64 (1), .int .i64 (t1 % 20000), .int .i64 (-1)] 35)).cell? ⟨wr.heap.size, 3, none⟩ = some (.int .i64 (1)) := box_cell _ _ _ 3 _ rfl
            have z4' : (wr.alloc (.cells #[.int .i64 (1 + (i : Int)), .int .u8 (2), .int .i64 (3), .int .i64 (1), .int .i64 (t1 % 20000), .int .i64 (-1)] 35)).cell? ⟨wr.heap.size, 4, none⟩ = some (.int .i64 (t1 % 20000)) := box_cell _ _ _ 4 _ rfl
            have z5' : (wr.alloc (.cells #[.int .i64 (1 + (i : Int)), .int .u8 (2), .int .i64 (3), .int .i64 (1), .int .i64 (t1 % 20000), .int .i64 (-1)] 35)).cell? ⟨wr.heap.size, 5, none⟩ = some (.int .i64 (-1)) := box_cell _ _ _ 5 _ rfl
            have q5' : (wr.alloc (.cells #[.int .i64 (1 + (i : Int)), .int .u8 (2), .int .i64 (3), .int .i64 (1), .int .i64 (t1 % 20000), .int .i64 (-1)] 35)).frozen? ⟨wr.heap.size, 5, none⟩ = false := box_free _ _ _ _
            go_wp2_with (first
              | ((with_reducible refine gate_builtin (b := .append) (xs := #[.tmp 79, .tmp 81]) rfl ?_); at_builtin; refine Aside0.out ?_))
            refine ⟨?_⟩
            refine print_append_cells (w0 := w) (W := (wr.alloc (.cells #[.int .i64 (1 + (i : Int)), .int .u8 (2), .int .i64 (3), .int .i64 (1), .int .i64 (t1 % 20000), .int .i64 (-1)] 35))) w.heap.size rfl (.tmp 79) (.tmp 81) 25 35 (.agg #[.int .i64 0, .int .u8 0, .int .i64 0, .int .i64 0, .int .i64 0, .int .i64 0]) 6 48 rfl Tryz.underlying25 infoXm rfl (by decide) (by decide) _ _ _ (encX ⟨1 + (i : Int), 2, 3, 1, t1 % 20000, -1⟩) rfl (congrArg (fun q => Value.slice (some ⟨q, 0, none⟩) 1 1) (show wr.heap.size + 1 = (wr.alloc (.cells #[.int .i64 (1 + (i : Int)), .int .u8 (2), .int .i64 (3), .int .i64 (1), .int .i64 (t1 % 20000), .int .i64 (-1)] 35)).heap.size by simp)) rfl (encX_one _) (HX.out.below (below_alloc (Below.refl _ _) _)) (below_alloc HB.out _) (Nat.le_trans HB.out.size (Below.size (below_alloc (Below.refl wr.heap.size wr) _))) (by rw [madeN_length]; omega) ?_
            intro v7 w7 ho7 hb7 hg7 hat7
            have HX7 : Aside0 (OwnX w7 w.heap.size v7 (madeN l (i + 1))) := ⟨by rw [HMS.out, show thingX i ⟨t0, t1, t2, false⟩ = ⟨1 + (i : Int), 2, 3, 1, t1 % 20000, -1⟩ from by unfold thingX; dsimp only; rw [HPR.out]; rfl]; exact OwnX.appended ho7⟩
            have HB7 := Aside0.mk hb7
            have HS7 := Aside0.mk ((HS.out.below (below_alloc (Below.refl _ _) _)).kept hg7 HA.out.ne)
            have HA7 := Aside0.mk (HA.out.stepS (HS.out.below (below_alloc (Below.refl wr.heap.size wr) _)) (Nat.le_refl _) hat7)
            clear ho7 hb7 hg7 hat7
            go_wp2_with fail
            go_roundw
            case rel => exact ⟨i + 1, by omega, by go_num, HS7, HX7, HA7, HB7⟩
            case measure => simp [intOf]; omega
          · have y2' : (wr.alloc (.cells #[.int .i64 (1 + (i : Int)), .int .u8 (2), .int .i64 (3), .int .i64 (1), .int .i64 (t1 % 20000), .int .i64 (-1)] 35)).cell? ⟨b, off + i * 4 + 2, none⟩ = some (.int .u16 t2) := Lib.cell?_alloc_some _ x2
            have y3' : (wr.alloc (.cells #[.int .i64 (1 + (i : Int)), .int .u8 (2), .int .i64 (3), .int .i64 (1), .int .i64 (t1 % 20000), .int .i64 (-1)] 35)).cell? ⟨b, off + i * 4 + 3, none⟩ = some (.bool true) := Lib.cell?_alloc_some _ x3
            have z0' : (wr.alloc (.cells #[.int .i64 (1 + (i : Int)), .int .u8 (2), .int .i64 (3), .int .i64 (1), .int .i64 (t1 % 20000), .int .i64 (-1)] 35)).cell? ⟨wr.heap.size, 0, none⟩ = some (.int .i64 (1 + (i : Int))) := box_cell _ _ _ 0 _ rfl
            have z1' : (wr.alloc (.cells #[.int .i64 (1 + (i : Int)), .int .u8 (2), .int .i64 (3), .int .i64 (1), .int .i64 (t1 % 20000), .int .i64 (-1)] 35)).cell? ⟨wr.heap.size, 1, none⟩ = some (.int .u8 (2)) := box_cell _ _ _ 1 _ rfl
            have z2' : (wr.alloc (.cells #[.int .i64 (1 + (i : Int)), .int .u8 (2), .int .i64 (3), .int .i64 (1), .int .i64 (t1 % 20000), .int .i64 (-1)] 35)).cell? ⟨wr.heap.size, 2, none⟩ = some (.int .i64 (3)) := box_cell _ _ _ 2 _ rfl
            have z3' : (wr.alloc (.cells #[.int .i64 (1 + (i : Int)), .int .u8 (2), .int .i64 (3), .int .i64 (1), .int .i64 (t1 % 20000), .int .i64 (-1)] 35)).cell? ⟨wr.heap.size, 3, none⟩ = some (.int .i64 (1)) := box_cell _ _ _ 3 _ rfl
            have z4' : (wr.alloc (.cells #[.int .i64 (1 + (i : Int)), .int .u8 (2), .int .i64 (3), .int .i64 (1), .int .i64 (t1 % 20000), .int .i64 (-1)] 35)).cell? ⟨wr.heap.size, 4, none⟩ = some (.int .i64 (t1 % 20000)) := box_cell _ _ _ 4 _ rfl
            have z5' : (wr.alloc (.cells #[.int .i64 (1 + (i : Int)), .int .u8 (2), .int .i64 (3), .int .i64 (1), .int .i64 (t1 % 20000), .int .i64 (-1)] 35)).cell? ⟨wr.heap.size, 5, none⟩ = some (.int .i64 (-1)) := box_cell _ _ _ 5 _ rfl
            have q5' : (wr.alloc (.cells #[.int .i64 (1 + (i : Int)), .int .u8 (2), .int .i64 (3), .int .i64 (1), .int .i64 (t1 % 20000), .int .i64 (-1)] 35)).frozen? ⟨wr.heap.size, 5, none⟩ = false := box_free _ _ _ _
            go_wp2_with fail
            go_region_held3 (fun W' => W'.cell? ⟨b, off + i * 4 + 2, none⟩ = some (.int .u16 t2) ∧ W'.cell? ⟨wr.heap.size, 4, none⟩ = some (.int .i64 (t1 % 20000))) (exact ⟨Lib.cell?_alloc_some _ x2, box_cell _ _ _ 4 _ rfl⟩) (fail)
            go_wp2_with (first
              | ((with_reducible refine gate_builtin (b := .append) (xs := #[.tmp 79, .tmp 81]) rfl ?_); at_builtin; refine Aside0.out ?_))
            refine ⟨?_⟩
            refine print_append_cells (w0 := w) (W := (wr.alloc (.cells #[.int .i64 (1 + (i : Int)), .int .u8 (2), .int .i64 (3), .int .i64 (1), .int .i64 (t1 % 20000), .int .i64 (t1 % 20000 + t2 % 8000)] 35)).drewN 1) w.heap.size rfl (.tmp 79) (.tmp 81) 25 35 (.agg #[.int .i64 0, .int .u8 0, .int .i64 0, .int .i64 0, .int .i64 0, .int .i64 0]) 6 48 rfl Tryz.underlying25 infoXm rfl (by decide) (by decide) _ _ _ (encX ⟨1 + (i : Int), 2, 3, 1, t1 % 20000, t1 % 20000 + t2 % 8000⟩) rfl (congrArg (fun q => Value.slice (some ⟨q, 0, none⟩) 1 1) (show wr.heap.size + 1 = (wr.alloc (.cells #[.int .i64 (1 + (i : Int)), .int .u8 (2), .int .i64 (3), .int .i64 (1), .int .i64 (t1 % 20000), .int .i64 (t1 % 20000 + t2 % 8000)] 35)).heap.size by simp)) rfl (encX_one _) (HX.out.below (pw_below_drewN (below_alloc (Below.refl _ _) _) 1)) (pw_below_drewN (below_alloc HB.out _) 1) (Nat.le_trans HB.out.size (Below.size (pw_below_drewN (below_alloc (Below.refl wr.heap.size wr) _) 1))) (by rw [madeN_length]; omega) ?_
            intro v7 w7 ho7 hb7 hg7 hat7
            have HX7 : Aside0 (OwnX w7 w.heap.size v7 (madeN l (i + 1))) := ⟨by rw [HMS.out, show thingX i ⟨t0, t1, t2, true⟩ = ⟨1 + (i : Int), 2, 3, 1, t1 % 20000, t1 % 20000 + t2 % 8000⟩ from by unfold thingX; dsimp only; rw [HPR.out]; rfl]; exact OwnX.appended ho7⟩
            have HB7 := Aside0.mk hb7
            have HS7 := Aside0.mk ((HS.out.below (pw_below_drewN (below_alloc (Below.refl _ _) _) 1)).kept hg7 HA.out.ne)
            have HA7 := Aside0.mk (HA.out.stepS (HS.out.below (pw_below_drewN (below_alloc (Below.refl wr.heap.size wr) _) 1)) (Nat.le_refl _) hat7)
            clear ho7 hb7 hg7 hat7
            go_wp2_with fail
            go_roundw
            case rel => exact ⟨i + 1, by omega, by go_num, HS7, HX7, HA7, HB7⟩
            case measure => simp [intOf]; omega
      · have hi3 : i = 2000 := by omega
        have HXE : Aside0 (OwnX wr w.heap.size u5 (madeX l)) := ⟨by unfold madeX; rw [show min l.length 2000 = i by omega]; exact HX.out⟩
        go_wp2_with fail
        go_ret2
        exact ⟨_, _, rfl, HS.out, HXE.out, HB.out⟩
    · have HXE : Aside0 (OwnX wr w.heap.size u5 (madeX l)) := ⟨by unfold madeX; rw [show min l.length 2000 = i by omega]; exact HX.out⟩
      go_wp2_with fail
      go_ret2
      exact ⟨_, _, rfl, HS.out, HXE.out, HB.out⟩

end Go.Proofs.YteeacbgaehdodaaGreat
