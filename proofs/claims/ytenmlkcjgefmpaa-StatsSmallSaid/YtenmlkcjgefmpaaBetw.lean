/- The contract of between: the sum of the chances from one number of successes to another one. -/
import Derived.Test.YtenmlkcjgefmpaaChan
namespace Go.Proofs.Ytenmlkcjgefmpaa
open Go.RowKit Go.Shelf Go.Proofs.YtenmlkcjgefmpaaW.PrintWords Go.Proofs.YtenmlkcjgefmpaaW.PrintLast Go.Proofs.YtenmlkcjgefmpaaW.PrintMore Go.Proofs.Ytenmlkcjgefmpaa.Fn
attribute [local go_sem] Oper.semAt_some

/-- where the failures are counted instead -/
theorem span_turn (p q n f t : Nat) (h1 : f ≤ t) (h2 : t ≤ n) : span q p n (n - t) (n - f + 1) = span p q n f (t + 1) := by
  have a1 := span_eq q p n (n - t) (n - f + 1) (by omega)
  have a2 := span_eq p q n f (t + 1) (by omega)
  have b1 := up_turn p q n t h2
  have b2 : up p q n f + up q p n (n - f + 1) = (p + q) ^ n := by
    cases f with
    | zero => rw [up_zero, Nat.sub_zero, up_gt q p n (n + 1) (by omega), Nat.add_zero]
    | succ f => rw [show n - (f + 1) + 1 = n - f by omega]; exact up_turn p q n f (by omega)
  omega

theorem heap_two_first (w : World) (a b : Obj) : ((w.alloc a).alloc b).heap[w.heap.size]? = some a := (Below.heap_alloc _ _ _ (by simp)).trans (heap_alloc_new w a)
theorem heap_two_second (w : World) (a b : Obj) : ((w.alloc a).alloc b).heap[w.heap.size + 1]? = some b := by
  have h := heap_alloc_new (w.alloc a) b
  rwa [World.size_alloc] at h

theorem IsN.own {W W' : World} {row : Option Nat} {v : Value} {x : Nat} (h : IsN W v x) (hg : W.grownBy W' row) (hr : ∀ r, row = some r → ∃ o : Obj, W.heap[r]? = some o ∧ o.isCells = false) : IsN W' v x := by
  obtain ⟨xs, A, c, h1, h2, h3, h4, h5, h6, h7⟩ := h
  refine ⟨xs, A, c, h1, h2, h3, h4, h5, h6, fun hp => ?_⟩
  obtain ⟨ad, e, hc⟩ := h7 hp
  refine ⟨ad, e, fun j p hj => ?_⟩
  obtain ⟨cs, g1, g2, g3⟩ := hc j p hj
  exact ⟨cs, g1, g2, fun i u hu => cell_kept (g3 i u hu) hg hr⟩

theorem cell_of_box {W : World} {B t : Nat} {v u : Value} {a : Addr} (hb : W.heap[B]? = some (.cells #[v] t (0, 0))) (ha : W.cell? a = some u) (hB : a.block = B) : u = v := by
  subst hB
  unfold World.cell? at ha
  rw [hb] at ha
  have h2 : (#[v] : Array Value)[a.off]? = some u := by
    have h := ha
    simp only at h
    split at h
    · cases h
    · exact h
  have h3 : a.off = 0 := by
    rcases Nat.eq_zero_or_pos a.off with h | h
    · exact h
    · rw [Array.getElem?_eq_none (by simp; omega)] at h2; cases h2
  rw [h3] at h2
  simpa using h2.symm

theorem IsN.set_slice {W : World} {B t : Nat} {v u : Value} {x : Nat} {A : Option Addr} {n c : Nat} (h : IsN W v x) (hb : W.heap[B]? = some (.cells #[.slice A n c] t (0, 0))) : IsN (W.setCell ⟨B, 0, none⟩ u) v x := by
  obtain ⟨xs, A', c', h1, h2, h3, h4, h5, h6, h7⟩ := h
  refine ⟨xs, A', c', h1, h2, h3, h4, h5, h6, fun hp => ?_⟩
  obtain ⟨ad, e, hc⟩ := h7 hp
  refine ⟨ad, e, fun j p hj => ?_⟩
  obtain ⟨cs, g1, g2, g3⟩ := hc j p hj
  refine ⟨cs, g1, g2, fun i y hu => ?_⟩
  have g4 := g3 i y hu
  have g5 : cs = [.int .u32 p] := g2
  by_cases hB : (ad.add (j * 1 + i)).block = B
  · have g6 := cell_of_box hb g4 hB
    rw [g6, g5] at hu
    cases i with
    | zero => simp at hu
    | succ i => simp at hu
  · exact (World.cell?_of_block (Below.heap_setCell W ⟨B, 0, none⟩ u _ hB)).trans g4

theorem KpN.trans {A B C : World} (h : KpN A B) (k : KpN B C) : KpN A C := ⟨Nat.le_trans h.size k.size, fun v x hv => k.num v x (h.num v x hv), fun a i ha => k.int a i (h.int a i ha)⟩
theorem KpN.record (W : World) (l : Nat) (o o' : Obj) (hl : W.heap[l]? = some o) (ho : o.isCells = false) : KpN W (W.putObj l o') :=
  ⟨(grownBy_putObj' W l o').size, fun v x hv => hv.own (grownBy_putObj' W l o') (fun r e => by cases e; exact ⟨o, hl, ho⟩), fun a i ha => cell_kept ha (grownBy_putObj' W l o') (fun r e => by cases e; exact ⟨o, hl, ho⟩)⟩
theorem KpN.below {W W' : World} (h : Below W.heap.size W W') : KpN W W' :=
  ⟨h.size, fun v x hv => hv.below h, fun a i ha => by
    have hlt : a.block < W.heap.size := by
      obtain ⟨o, ho, _⟩ := cells_of_cell ha
      exact lt_of_block ho
    exact (h.cell hlt).trans ha⟩
theorem KpN.set_slice {W : World} {B t : Nat} {u : Value} {A : Option Addr} {n c : Nat} (hb : W.heap[B]? = some (.cells #[.slice A n c] t (0, 0))) : KpN W (W.setCell ⟨B, 0, none⟩ u) :=
  ⟨(KeepsOthers.setCell W ⟨B, 0, none⟩ u).size, fun v x hv => hv.set_slice hb, fun a i ha => by
    by_cases hB : a.block = B
    · have := cell_of_box hb ha hB
      cases this
    · exact (World.cell?_of_block (Below.heap_setCell W ⟨B, 0, none⟩ u _ hB)).trans ha⟩

/-- what the loop keeps: the sum so far, in its box; the two bounds in theirs -/
structure SumAt (w : World) (B y : Nat) (g u : Int) (W : World) : Prop where
  box : ∃ A n c, W.heap[B]? = some (.cells #[.slice A n c] 28 (0, 0)) ∧ IsN W (.slice A n c) y
  bg : W.heap[w.heap.size]? = some (.cells #[.int .i64 g] 3 (0, 0))
  bu : W.heap[w.heap.size + 1]? = some (.cells #[.int .i64 u] 3 (0, 0))
  below : Below w.heap.size w W

theorem SumAt.own {w W W' : World} {B y : Nat} {g u : Int} {row : Option Nat} (h : SumAt w B y g u W) (hg : W.grownBy W' row) (hlow : ∀ r, row = some r → w.heap.size ≤ r) (hr : ∀ r, row = some r → ∃ o : Obj, W.heap[r]? = some o ∧ o.isCells = false) : SumAt w B y g u W' := by
  obtain ⟨A, n, c, h1, h2⟩ := h.box
  exact ⟨⟨A, n, c, (grownBy_keeps_cells hg hr h1 rfl).trans h1, h2.own hg hr⟩, (grownBy_keeps_cells hg hr h.bg rfl).trans h.bg, (grownBy_keeps_cells hg hr h.bu rfl).trans h.bu, h.below.grown hg h.below.size (fun k e => hlow k e)⟩

/-- behind the test: which share, from where, to where -/
def Sides (p n f t : Nat) (s g u : Int) : Prop := ∃ (s' g' u' : Nat), s = (s' : Int) ∧ g = (g' : Int) ∧ u = (u' : Int) ∧ s' ≤ 5000 ∧ g' ≤ u' ∧ u' ≤ n ∧ span s' (10000 - s') n g' (u' + 1) = span p (10000 - p) n f (t + 1)

theorem span_fits (n s g m : Nat) (hn : n ≤ 500) (hs : s ≤ 5000) :
    Fits (span s (10000 - s) n g m) ∧ Fits (ch s (10000 - s) n m) ∧ Fits (span s (10000 - s) n g m + ch s (10000 - s) n m) := by
  have h1 := span_le s (10000 - s) n g m
  have h2 := ch_le s (10000 - s) n m
  rw [show s + (10000 - s) = 10000 by omega] at h1 h2
  have h3 := half_pow n 0 hn
  rw [Nat.sub_zero] at h3
  have h4 := h3.mul (half_small (show 2 < 4294967296 by decide))
  exact ⟨h4.le (by omega), h4.le (by omega), h4.le (by omega)⟩

theorem keeps_below {W W' : World} (h : Below W.heap.size W W') : KeepsOthers W W' := ⟨h.size, fun k _ hk _ => (h.block k (lt_of_block hk)).trans hk⟩

set_option maxHeartbeats 4000000 in
set_option maxRecDepth 100000 in
theorem between_calls (n p f t : Nat) (w : World) (hn : n ≤ 500) (hp : p ≤ 10000) (hft : f ≤ t) (htn : t ≤ n) :
    Calls Try.prog 47 #[.int .i64 (n : Int), .int .i64 (p : Int), .int .i64 (f : Int), .int .i64 (t : Int)] w (GivesN w (span p (10000 - p) n f (t + 1))) := by
  refine (callsIn_wide (n := 6)).1 ?_
  refine callsIn_of_wp_marks Try.func47 rfl trivial ?_ rfl
  simp only [Try.ntmps47, List.size_toArray, List.length_cons, List.length_nil, Nat.reduceAdd, Nat.reduceSub, Array.replicate_succ, Array.replicate_zero, List.push_toArray, List.append_toArray, List.nil_append, List.cons_append]
  refine wpIn_wide.2 ?_
  go_upto_if 14 with (fail)
  go_cut [1] from 15 to 22 (fun v1 wc => ∃ x g u : Int, v1 = .int .i64 x ∧ Aside0 (Sides p n f t x g u) ∧ Aside0 (wc.heap[w.heap.size]? = some (.cells #[.int .i64 g] 3 (0, 0))) ∧ Aside0 (wc.heap[w.heap.size + 1]? = some (.cells #[.int .i64 u] 3 (0, 0))) ∧ Aside0 (wc.heap.size = w.heap.size + 2) ∧ Aside0 (Below w.heap.size w wc))
  case first =>
    by_cases hs : p ≤ 5000
    · have hd : decide (10000 < 2 * (p : Int)) = false := decide_eq_false (by omega)
      go_wp2_with fail
      go_meet
      case rel => exact ⟨p, f, t, rfl, ⟨p, f, t, rfl, rfl, rfl, hs, hft, htn, rfl⟩, ⟨heap_two_first _ _ _⟩, ⟨heap_two_second _ _ _⟩, ⟨by simp⟩, ⟨((Below.refl _ w).alloc (Nat.le_refl _) _).alloc (by simp) _⟩⟩
    · have hd : decide (10000 < 2 * (p : Int)) = true := decide_eq_true (by omega)
      go_wp2_with fail
      go_region
      go_wp2_with fail
      go_meet
      case rel =>
        refine ⟨10000 - (p : Int), (n : Int) - (t : Int), (n : Int) - (f : Int), rfl, ⟨10000 - p, n - t, n - f, by omega, by omega, by omega, by omega, by omega, by omega, ?_⟩, ⟨?_⟩, ⟨?_⟩, ⟨?_⟩, ⟨?_⟩⟩
        · rw [show 10000 - (10000 - p) = p by omega]
          exact span_turn p (10000 - p) n f t hft htn
        · exact heap_two_first _ _ _
        · exact heap_two_second _ _ _
        · simp
        · exact below_drew (((Below.refl _ w).alloc (Nat.le_refl _) _).alloc (by simp) _)
  case rest =>
    obtain ⟨x, g, u, rfl, HS, HG, HU, HZ, HB⟩ := hcut
    obtain ⟨s', g', u', rfl, rfl, rfl, hs5, hgu, hun, hspan⟩ := HS.out
    have HSP := Aside0.mk hspan
    clear hspan HS
    go_wp2_with fail
    refine (chances_calls _ _ _).mono ?_
    rintro e w2 ⟨rfl, rfl⟩
    go_wp2_with fail
    refine (wpIn_wide (n := 6)).1 ?_
    have hB : wc.heap.size = w.heap.size + 2 := HZ.out
    have HB0 := Aside0.mk hB
    clear hB
    refine wpIn_rangeFunc_sees (F := Fence.wide) (n := 6) rfl (by decide) (gf := 79) (lb := #[.pointer (some ⟨wc.heap.size + 1 + 1, 0, none⟩), .pointer (some ⟨wc.heap.size + 1, 0, none⟩)]) rfl trivial (enters_of Try.func79 (by kernel_rfl) rfl)
      (chances1_sees 5 n s' (by decide) hn hs5 _ _ _ (by simp) (by simp) ?cs ?cn) ?sees (fun h k => h.trans k) (fun W l o o' _ hl ho _ => KpN.record W l o o' hl ho) (Below.refl _ _) (fun _ => rfl)
      (fun pre W => pre.length ≤ u' + 1 ∧ SumAt w wc.heap.size (span s' (10000 - s') n g' pre.length) (g' : Int) (u' : Int) W)
      (fun c _ W => c = .exit 0 ∧ SumAt w wc.heap.size (span s' (10000 - s') n g' (u' + 1)) (g' : Int) (u' : Int) W)
      ?hI ?hIx ?h0 (fun y => { tmps := #[.int .i64 (n : Int), .int .i64 (s' : Int), .int .i64 (f : Int), .int .i64 (t : Int), undef, undef, .pointer (some ⟨w.heap.size, 0, none⟩), .pointer (some ⟨w.heap.size + 1, 0, none⟩), .slice none 0 0, .pointer (some ⟨wc.heap.size, 0, none⟩), .int .i64 (y.1 : Int), y.2, .int .i64 (p : Int), .int .i64 (2 * (p : Int)), .bool (decide (10000 < 2 * (p : Int))), u15, u16, u17, u18, u19, u20, u21, u22, .int .i64 (n : Int), .int .i64 (s' : Int), .func (.func 79) #[] #[.pointer (some ⟨wc.heap.size + 1 + 1, 0, none⟩), .pointer (some ⟨wc.heap.size + 1, 0, none⟩)], .int .i64 (y.1 : Int), y.2, undef, undef, undef, undef, undef, undef, undef, undef, undef, undef, undef, undef, undef], defers := [] }) ?assign ?body ?done ?stop
    case cs =>
      have h := heap_two_second (wc.alloc (.cells #[.slice none 0 0] 28)) (.cells #[.int .i64 (n : Int)] 3) (.cells #[.int .i64 (s' : Int)] 3)
      rw [World.size_alloc] at h
      exact cell_of_one h
    case cn =>
      have h := heap_two_first (wc.alloc (.cells #[.slice none 0 0] 28)) (.cells #[.int .i64 (n : Int)] 3) (.cells #[.int .i64 (s' : Int)] 3)
      rw [World.size_alloc] at h
      exact cell_of_one h
    case sees => exact fun pre y W l o o' h hl ho => ⟨h.1, h.2.own (grownBy_putObj' W l o') (fun r e => by cases e; exact ⟨o, hl, ho⟩)⟩
    case hI => exact fun pre A C row h hg hr => ⟨h.1, h.2.own hg (fun r e => by have := (hr r e).1; simp at this; have := HB0.out; omega) (fun r e => (hr r e).2)⟩
    case hIx => exact fun c pre A C row h hg hr => ⟨h.1, h.2.own hg (fun r e => by have := (hr r e).1; simp at this; have := HB0.out; omega) (fun r e => (hr r e).2)⟩
    case h0 =>
      have hz : wc.heap.size < (wc.alloc (.cells #[.slice none 0 0] 28)).heap.size := by simp
      have hb3 : Below (wc.alloc (.cells #[.slice none 0 0] 28)).heap.size (wc.alloc (.cells #[.slice none 0 0] 28)) (((wc.alloc (.cells #[.slice none 0 0] 28)).alloc (.cells #[.int .i64 (n : Int)] 3)).alloc (.cells #[.int .i64 (s' : Int)] 3)) := ((Below.refl _ _).alloc (Nat.le_refl _) _).alloc (by simp) _
      have hb4 : Below wc.heap.size wc (wc.alloc (.cells #[.slice none 0 0] 28)) := (Below.refl _ _).alloc (Nat.le_refl _) _
      refine ⟨by simp, ⟨⟨none, 0, 0, (hb3.block _ hz).trans (heap_alloc_new wc _), by rw [List.length_nil]; exact IsN.nil _⟩, ?_, ?_, ?_⟩⟩
      · exact ((hb3.block _ (by have := HB0.out; simp; omega)).trans (hb4.block _ (by have := HB0.out; omega))).trans HG.out
      · exact ((hb3.block _ (by have := HB0.out; simp; omega)).trans (hb4.block _ (by have := HB0.out; omega))).trans HU.out
      · exact below_step (below_step HB.out hb4) hb3
    case assign =>
      intro l y W K hK
      gi_wp2
      exact hK
    case body =>
      rintro l pre y W ⟨hlen, hsum⟩ hsee hN
      obtain ⟨yk, yv⟩ := y
      obtain ⟨hy1, hy2⟩ := hsee
      dsimp only at hy1 hy2
      subst hy1
      have HSUM := Aside0.mk hsum
      have HSEE := Aside0.mk hy2
      have hg1 := cell_of_one hsum.bg
      have hu1 := cell_of_one hsum.bu
      clear hsum hy2 hN
      have hf1 := free_of_one HSUM.out.bg
      by_cases h1 : u' < pre.length
      · have hd : decide ((u' : Int) < (pre.length : Int)) = true := decide_eq_true (by omega)
        gi_wp2
        exact ⟨KeepsOthers.refl _, rfl, by have h := HSUM.out; rw [show pre.length = u' + 1 by omega] at h; exact h⟩
      · by_cases h2 : g' ≤ pre.length
        · obtain ⟨A, na, c, hbox, hnum⟩ := HSUM.out.box
          have hbc := cell_of_one hbox
          have hbf := free_of_one hbox
          have HBOX := Aside0.mk hbox
          have HNUM := Aside0.mk hnum
          have HF := Aside0.mk (span_fits n s' g' pre.length hn hs5)
          clear hbox hnum
          gi_wp2_with fail
          refine ⟨trivial, ?_⟩
          refine (CallsIn.inRound l (callsIn_wide.2 (Add_calls _ HNUM.out HSEE.out HF.out.1 HF.out.2.1 HF.out.2.2))).mono ?_
          rintro e w4 ⟨v4, rfl, hv4, hb4⟩
          obtain ⟨ds, A4, c4, rfl, d2, d3, d4, d5⟩ := id hv4
          have HV4 := Aside0.mk hv4
          have HB4 := Aside0.mk hb4
          have hlt := lt_of_block HBOX.out
          have hbox4 := (hb4.block _ hlt).trans HBOX.out
          have hbc4 := cell_of_one hbox4
          have hbf4 := free_of_one hbox4
          have HBOX4 := Aside0.mk hbox4
          clear hv4 hb4 d4 d5 hbox4 hbc hbf hg1 hu1 hf1
          gi_wp2
          have hpos : w.heap.size < wc.heap.size := by have := HB0.out; omega
          refine ⟨(keeps_below HB4.out).trans (KeepsOthers.setCell _ _ _), (KpN.below HB4.out).trans (KpN.set_slice HBOX4.out), by simp; omega, ?_⟩
          rw [List.length_append, List.length_singleton, span, if_pos h2]
          refine ⟨⟨_, _, _, one_setCell HBOX4.out, HV4.out.set_slice HBOX4.out⟩, ?_, ?_, ?_⟩
          · exact (Below.heap_setCell _ _ _ _ (by simp; omega)).trans ((HB4.out.block _ (lt_of_block HSUM.out.bg)).trans HSUM.out.bg)
          · exact (Below.heap_setCell _ _ _ _ (by have := HB0.out; simp; omega)).trans ((HB4.out.block _ (lt_of_block HSUM.out.bu)).trans HSUM.out.bu)
          · exact below_set (below_step HSUM.out.below HB4.out) (by omega)
        · gi_wp2
          refine ⟨KeepsOthers.refl _, ⟨Nat.le_refl _, fun _ _ h => h, fun _ _ h => h⟩, by simp; omega, ?_⟩
          rw [List.length_append, List.length_singleton, span, if_neg h2, Nat.add_zero]
          exact HSUM.out
    case done =>
      rintro D ys W hD hys ⟨hlen, hsum⟩ hK
      obtain rfl : u' = n := by omega
      rw [hys] at hsum
      obtain ⟨A, na, c, hbox, hnum⟩ := hsum.box
      have hbc := cell_of_one hbox
      have HNUM := Aside0.mk hnum
      have HBW := Aside0.mk hsum.below
      have HK := Aside0.mk hK
      clear hbox hnum hsum hys
      gi_wp2
      go_wp2_with fail
      refine ⟨by simp, .inl ⟨_, _, rfl, run_takeDeferred HK.out, ?_⟩⟩
      refine ⟨_, results_tmp rfl _ _ _, _, rfl, ?_, ?_⟩
      · rw [← HSP.out]
        exact HNUM.out.own (grownBy_putObj' W D (.deferred none)) (fun r e => by cases e; exact ⟨_, HK.out, rfl⟩)
      · exact HBW.out.grown (grownBy_putObj' W D (.deferred none)) HBW.out.size (fun k e => by cases e; simp at hD; have := HB0.out; omega)
    case stop =>
      rintro D c pre W hD _ ⟨rfl, hsum⟩ hK
      obtain ⟨A, na, c, hbox, hnum⟩ := hsum.box
      have hbc := cell_of_one hbox
      have HNUM := Aside0.mk hnum
      have HBW := Aside0.mk hsum.below
      have HK := Aside0.mk hK
      clear hbox hnum hsum
      gi_wp2
      go_wp2_with fail
      refine ⟨by simp, .inl ⟨_, _, rfl, run_takeDeferred HK.out, ?_⟩⟩
      refine ⟨_, results_tmp rfl _ _ _, _, rfl, ?_, ?_⟩
      · rw [← HSP.out]
        exact HNUM.out.own (grownBy_putObj' W D (.deferred none)) (fun r e => by cases e; exact ⟨_, HK.out, rfl⟩)
      · exact HBW.out.grown (grownBy_putObj' W D (.deferred none)) HBW.out.size (fun k e => by cases e; simp at hD; have := HB0.out; omega)

end Go.Proofs.Ytenmlkcjgefmpaa
