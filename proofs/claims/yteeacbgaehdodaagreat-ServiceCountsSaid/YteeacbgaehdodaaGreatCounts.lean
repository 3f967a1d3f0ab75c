/- ServiceCounts: the walk. -/
import Derived.Test.YteeacbgaehdodaaGreatServU
namespace Go.Proofs.YteeacbgaehdodaaGreat
set_option linter.unusedVariables false
open Go Go.RowKit Go.Shelf Go.Lib Go.Sort Go.Maps Go.Proofs.YteeacbgaehdodaaGreatW.PrintWords Go.Proofs.YteeacbgaehdodaaGreatW.PrintLast Go.Proofs.YteeacbgaehdodaaGreatW.PrintMore Go.Proofs.YteeacbgaehdodaaGreat.Fn

theorem C_take {w : World} {A : Option Addr} {n m : Nat} {xs : List TT} (h : Kd.C k30 w A n xs) (hm : m ≤ n) : Kd.C k30 w A m (xs.take m) := by
  obtain ⟨h1, h2, h3⟩ := h
  refine ⟨by rw [List.length_take]; omega, by omega, fun h0 => ?_⟩
  obtain ⟨ad, e, f⟩ := h3 (by omega)
  refine ⟨ad, e, fun j p hj => f j p ?_⟩
  have hjm : j < m := by
    have := (List.getElem?_eq_some_iff.1 hj).1
    rw [List.length_take] at this; omega
  rw [List.getElem?_take_of_lt hjm] at hj
  exact hj
theorem IsT.take {w : World} {A : Option Addr} {n c m : Nat} {l : List TT} (h : IsT w (.slice A n c) l) (hm : m ≤ l.length) : IsT w (.slice A m c) (l.take m) := by
  obtain ⟨A', c', h1, h2, h3⟩ := h
  injection h1 with h4 h5 h6
  subst h4 h6
  exact ⟨A, c, by rw [List.length_take, Nat.min_eq_left hm], by rw [List.length_take]; omega, by
    have := C_take h3 hm
    rw [List.length_take, Nat.min_eq_left hm]; exact this⟩
theorem made_ok {l : List TT} (hf : ∀ t, t ∈ l → wfT t) {now risk : Nat} (h1 : now < 40000) (h2 : risk < 2000) : okM stdM (madeX l) (now : Int) (1 + (risk : Int)) :=
  ⟨by unfold timedB; exact decide_eq_true ⟨by omega, by omega⟩, by omega, by omega, stdM_right, madeX_right hf⟩

theorem set_block {w : World} {b k : Nat} {cs : Array Value} {u : Value} {t : TypeId} (h : w.heap[b]? = some (.cells cs t (0, 0))) : (w.setCell ⟨b, k, none⟩ u).heap[b]? = some (.cells (cs.setIfInBounds k u) t (0, 0)) := by
  have hlt := lt_of_block h
  have h' : w.heap[b] = .cells cs t (0, 0) := by simpa [Array.getElem?_eq_getElem hlt] using h
  show (w.heap.modify b _)[b]? = _
  rw [Array.getElem?_eq_getElem (by simpa using hlt), Array.getElem_modify_self, h']
  rfl
theorem cell_block {w : World} {b k : Nat} {cs : Array Value} {t : TypeId} {f : Nat × Nat} {v : Value} (h : w.heap[b]? = some (.cells cs t f)) (hv : cs[k]? = some v) : w.cell? ⟨b, k, none⟩ = some v := by
  unfold World.cell?
  rw [h]; exact hv
theorem free_block {w : World} {b k : Nat} {cs : Array Value} {t : TypeId} (h : w.heap[b]? = some (.cells cs t (0, 0))) : w.frozen? ⟨b, k, none⟩ = false := by
  unfold World.frozen?
  rw [h]; simp
def CntAt (s : List SX) (q : Int) (K : KK) (j t1 t2 t3 t4 ta : Nat) : Prop := t1 = cntO stdM q (s.take j) K 1 ∧ t2 = cntO stdM q (s.take j) K 2 ∧ t3 = cntO stdM q (s.take j) K 3 ∧ t4 = cntO stdM q (s.take j) K 4 ∧ ta = cntA (s.take j) K
theorem CntAt.zero (s : List SX) (q : Int) (K : KK) : CntAt s q K 0 0 0 0 0 0 := ⟨rfl, rfl, rfl, rfl, rfl⟩
theorem take_snoc {s : List SX} {j : Nat} (hj : j < s.length) : s.take (j + 1) = s.take j ++ [s.getD j zX] := by
  rw [List.take_succ_eq_append_getElem hj, List.getD_eq_getElem?_getD, List.getElem?_eq_getElem hj]; rfl
theorem CntAt.skip {s : List SX} {q : Int} {K : KK} {j t1 t2 t3 t4 ta : Nat} (h : CntAt s q K j t1 t2 t3 t4 ta) (hj : j < s.length) (hk : keyM (s.getD j zX) ≠ K) : CntAt s q K (j + 1) t1 t2 t3 t4 ta := by
  obtain ⟨h1, h2, h3, h4, h5⟩ := h
  unfold CntAt
  rw [take_snoc hj, cntO_snoc, cntO_snoc, cntO_snoc, cntO_snoc, cntA_snoc, if_neg (fun e => hk e.1), if_neg (fun e => hk e.1), if_neg (fun e => hk e.1), if_neg (fun e => hk e.1), if_neg hk]
  exact ⟨h1, h2, h3, h4, h5⟩
theorem CntAt.hit {s : List SX} {q : Int} {K : KK} {j t1 t2 t3 t4 ta : Nat} (h : CntAt s q K j t1 t2 t3 t4 ta) (hj : j < s.length) (hk : keyM (s.getD j zX) = K) {o : Int} (ho : outcomeR stdM (s.getD j zX) q = o) : CntAt s q K (j + 1) (t1 + if o = 1 then 1 else 0) (t2 + if o = 2 then 1 else 0) (t3 + if o = 3 then 1 else 0) (t4 + if o = 4 then 1 else 0) (ta + 1) := by
  obtain ⟨h1, h2, h3, h4, h5⟩ := h
  unfold CntAt
  rw [take_snoc hj, cntO_snoc, cntO_snoc, cntO_snoc, cntO_snoc, cntA_snoc, if_pos hk]
  simp only [hk, ho, true_and]
  exact ⟨by rw [h1], by rw [h2], by rw [h3], by rw [h4], by rw [h5]⟩
theorem CntAt.le {s : List SX} {q : Int} {K : KK} {j t1 t2 t3 t4 ta : Nat} (h : CntAt s q K j t1 t2 t3 t4 ta) (hs : s.length ≤ 100) : t1 ≤ 100 ∧ t2 ≤ 100 ∧ t3 ≤ 100 ∧ t4 ≤ 100 := by
  obtain ⟨h1, h2, h3, h4, h5⟩ := h
  have hl : (s.take j).length ≤ 100 := by rw [List.length_take]; omega
  rw [h1, h2, h3, h4]
  exact ⟨Nat.le_trans (cntO_le _ _ _) hl, Nat.le_trans (cntO_le _ _ _) hl, Nat.le_trans (cntO_le _ _ _) hl, Nat.le_trans (cntO_le _ _ _) hl⟩
theorem cnt_sum_le {s : List SX} {q : Int} {K : KK} {t2 t3 : Nat} (h2 : t2 = cntO stdM q s K 2) (h3 : t3 = cntO stdM q s K 3) (hs : s.length ≤ 100) : t2 + t3 ≤ 100 := by
  have h := cnt_trials (std := stdM) (now := q) K s
  have h1 := cntR_le stdM q keyM s K (fun o => decide (o ≠ 1) && decide (o ≠ 4))
  rw [h] at h1
  omega
theorem CntAt.all {s : List SX} {q : Int} {K : KK} {t1 t2 t3 t4 ta : Nat} (h : CntAt s q K s.length t1 t2 t3 t4 ta) : t1 = cntO stdM q s K 1 ∧ t2 = cntO stdM q s K 2 ∧ t3 = cntO stdM q s K 3 ∧ t4 = cntO stdM q s K 4 ∧ ta = cntA s K := by
  unfold CntAt at h
  rw [List.take_length] at h
  exact h
theorem own_ne {v : Value} {b n : Nat} (h : ∀ k, v.ownBlock = some k → b ≤ k ∧ k < n) : v.ownBlock = none ∨ v.ownBlock ≠ some n := by
  cases hv : v.ownBlock with
  | none => exact .inl rfl
  | some k => exact .inr (fun e => by injection e with e; have := (h k hv).2; omega)
theorem heap_alloc_old2 (w : World) (o : Obj) {r : Nat} (h : r < w.heap.size) : (w.alloc o).heap[r]? = w.heap[r]? := Below.heap_alloc w o r h
theorem ones (K : List KK) : (K.map fun _ => 1).sum = K.length := by
  induction K with
  | nil => rfl
  | cons k K ih => rw [List.map_cons, List.sum_cons, ih, List.length_cons]; omega
theorem rows_len {std : List SS} {now : Int} {s : List SX} {m : List RR} (h : Rows std now keyM s m) (hs : s.length ≤ 100) : m.length ≤ 100 := by
  have h1 : ((m.map rowKey).map fun k => 1).sum ≤ s.length := by
    rw [← h.all]
    have hpos : ∀ k, k ∈ m.map rowKey → 1 ≤ (s.filter fun x => decide (keyM x = k)).length := fun k hk => by
      obtain ⟨x, hx, e⟩ := (h.mem_keys k).1 hk
      exact List.length_pos_of_mem (List.mem_filter.2 ⟨hx, by simp [e]⟩)
    generalize m.map rowKey = K at hpos
    induction K with
    | nil => simp
    | cons k K ih =>
      rw [List.map_cons, List.map_cons, List.sum_cons, List.sum_cons]
      have := hpos k (by simp)
      have := ih (fun k' hk' => hpos k' (by simp [hk']))
      omega
  rw [ones, List.length_map] at h1
  omega
theorem row_told {std : List SS} {now risk : Int} {s : List SX} {m : List RR} (h : Rows std now keyM s m) {i : Nat} (hi : i < m.length) : ∃ (a0 a1 a2 : Int) (c1 c2 c3 c4 lo : Nat) (hi' : Int), encR ((m.map (bndR risk)).getD i zR) = [.int .u8 a0, .int .i64 a1, .int .i64 a2, .int .i64 ((c2 : Int) + (c3 : Int)), .int .i64 c2, .int .i64 c1, .int .i64 c4, .int .i64 lo, .int .i64 hi'] ∧ rowKey (m.getD i zR) = (a0, a1, a2) ∧
    c1 = cntO std now s (a0, a1, a2) 1 ∧ c2 = cntO std now s (a0, a1, a2) 2 ∧ c3 = cntO std now s (a0, a1, a2) 3 ∧ c4 = cntO std now s (a0, a1, a2) 4 ∧ lo = leastN (c2 + c3) c2 risk.toNat ∧ hi' = 10000 - (leastN (c2 + c3) c3 risk.toNat : Int) := by
  obtain ⟨h3, h4, h5, h6⟩ := row_counts (h.get hi)
  rw [map_getD hi]
  obtain ⟨r, hr⟩ : ∃ r, r = m.getD i zR := ⟨_, rfl⟩
  rw [← hr] at h3 h4 h5 h6 ⊢
  obtain ⟨a0, a1, a2, a3, a4, a5, a6, a7, a8⟩ := r
  have hk : rowKey ⟨a0, a1, a2, a3, a4, a5, a6, a7, a8⟩ = (a0, a1, a2) := rfl
  rw [hk] at h3 h4 h5 h6
  dsimp only at h3 h4 h5 h6
  subst h3 h4 h5 h6
  refine ⟨a0, a1, a2, _, _, _, _, _, _, ?_, hk, rfl, rfl, rfl, rfl, rfl, rfl⟩
  unfold encR bndR
  dsimp only
  rw [Int.toNat_natCast, Int.toNat_natCast, Nat.add_sub_cancel_left, Int.natCast_add]

set_option maxHeartbeats 4000000 in
set_option maxRecDepth 100000 in
theorem Counts_calls {v : Value} {w : World} (l0 : List TT) (n r : Int) (hi : IsT w v l0) (hf : ∀ t, t ∈ l0 → wfT t) (hn : (Lit.int .i64 n).wf = true) (hr : (Lit.int .i64 r).wf = true) :
    Calls Tryz.prog 6 #[v, .int .i64 n, .int .i64 r] w fun e w' => e = .returned (.bool true) ∧ Below w.heap.size w w' := by
  have hn1 := pickN_lt n (n := 40000) (by decide)
  have hr1 := pickN_lt r (n := 2000) (by decide)
  have HTN := Aside0.mk (fun W => time_calls n W hn)
  have HPR := Aside0.mk (fun W => Pick_calls r 2000 W hr (by decide) (by decide))
  generalize pickN n 40000 = q at *
  generalize pickN r 2000 = p at *
  obtain ⟨A, c, rfl, hlc, hC⟩ := hi
  obtain ⟨l, hl⟩ : ∃ l, l = l0.take (min l0.length 100) := ⟨_, rfl⟩
  have hll : l.length = min l0.length 100 := by rw [hl, List.length_take]; omega
  have hfl : ∀ t, t ∈ l → wfT t := fun t ht => hf t (List.mem_of_mem_take (hl ▸ ht))
  have HI : Aside0 (IsT w (.slice A (min l0.length 100) c) l) := ⟨by rw [hl]; exact IsT.take ⟨A, c, rfl, hlc, hC⟩ (by omega)⟩
  have hcm := hC.2.1
  have HMD := Aside0.mk (fun W (h : Below w.heap.size w W) => Made_calls l W (HI.out.below h) hfl)
  have hok := made_ok hfl hn1 hr1
  have hlen : (madeX l).length ≤ 100 := by rw [madeX_length]; omega
  have HOK := Aside0.mk hok
  have HU8 := Aside0.mk (madeX_u8 l)
  have HRX := Aside0.mk (sentR_parts (madeX_right hfl)).2.1
  have hmin : (min ((l0.length : Nat) : Int) 100).toNat = min l0.length 100 := by omega
  rw [← hmin] at HMD
  generalize madeX l = s at *
  have hsl : s.length ≤ 100 := hlen
  have HSL := Aside0.mk hlen
  clear hl hf hfl hok hn hr HI hll hC hmin hlen hsl
  go_enter Tryz.func6, Tryz.ntmps6
  go_wp2_with fail
  refine (awake_calls _).mono ?_
  rintro e w1 ⟨rfl, b1⟩
  have HB1 := Aside0.mk b1
  clear b1
  go_wp2_with fail
  refine (HMD.out _ HB1.out).mono ?_
  rintro e w2 ⟨v0, v1, rfl, hs2, hx2, b_⟩
  obtain ⟨b1, hb1⟩ : ∃ b1, b1 = w1.heap.size := ⟨_, rfl⟩
  rw [← hb1] at hs2 hx2
  have HS2 := Aside0.mk hs2
  have HX2 := Aside0.mk hx2
  have HB2 := Aside0.mk (below_step HB1.out b_)
  clear b_ hs2 hx2 hb1
  go_wp2_with fail
  refine (HTN.out _).mono ?_
  rintro e w3 ⟨rfl, ⟨m1, rfl⟩⟩
  go_wp2_with fail
  refine (HPR.out _).mono ?_
  rintro e w3 ⟨rfl, ⟨m2, rfl⟩⟩
  have HS3 : Aside0 (OwnS (w2.drewN (m1 + m2)) b1 v0 stdM) := ⟨HS2.out.below (pw_below_drewN (Below.refl _ _) _)⟩
  have HX3 : Aside0 (OwnX (w2.drewN (m1 + m2)) b1 v1 s) := ⟨HX2.out.below (pw_below_drewN (Below.refl _ _) _)⟩
  have HB3 : Aside0 (Below w.heap.size w (w2.drewN (m1 + m2))) := ⟨pw_below_drewN HB2.out _⟩
  go_wp2_with fail
  generalize w2.drewN (m1 + m2) = w3 at *
  refine (Measure_calls stdM s q (1 + (p : Int)) _ HS3.out.isS HX3.out.isX HX3.out.plain (by have := HSL.out; omega) HU8.out).mono ?_
  rintro e w4 ⟨rv, rows, er, rfl, hm, ho, b_⟩
  obtain ⟨rfl, m, hrows, hsort, rfl⟩ := hm.few HOK.out (by have := HSL.out; omega)
  obtain ⟨b3, hb3⟩ : ∃ b3, b3 = w3.heap.size := ⟨_, rfl⟩
  rw [← hb3] at ho
  obtain ⟨Ar, cr, hrv⟩ := OwnR.slice ho
  rw [List.length_map] at hrv
  subst hrv
  have HRW := Aside0.mk hrows
  have HSO := Aside0.mk hsort
  have HO4 := Aside0.mk ho
  have HS4 := Aside0.mk (HS3.out.below b_)
  have HX4 := Aside0.mk (HX3.out.below b_)
  have HB4 := Aside0.mk (below_step HB3.out b_)
  clear b_ hm ho hrows hsort hb3 HS3 HX3 HB3 HS2 HX2 HB2 HB1 HMD HTN HPR HOK HU8
  obtain ⟨Ax, cx, rfl⟩ := HX4.out.slice
  have hslen := HSL.out
  have HML : Aside0 (m.length ≤ 100) := ⟨rows_len HRW.out HSL.out⟩
  have hmlen := HML.out
  go_wp2_with fail
  go_loopw [13, 54] (fun v13 v54 W => ∃ i : Nat, i ≤ m.length ∧ v54 = .int .i64 i ∧ v13 = .int .i64 (sumA s m i : Nat) ∧ Aside0 (OwnS W b1 v0 stdM) ∧ Aside0 (OwnX W b1 (.slice Ax s.length cx) s) ∧ Aside0 (OwnR W b3 (.slice Ar m.length cr) (m.map (bndR (1 + (p : Int))))) ∧ Aside0 (Below w.heap.size w W)) (fun _ v54 _ => m.length - (intOf v54).toNat)
  case atStart => exact ⟨0, by omega, rfl, rfl, HS4, HX4, HO4, HB4⟩
  case round =>
    clear HS4 HX4 HO4 HB4
    obtain ⟨i, him, rfl, rfl, HS, HX, HO, HB⟩ := hrel
    by_cases hi : i < m.length
    · obtain ⟨g, cg, hg⟩ := HO.out.some (by rw [List.length_map]; omega)
      rw [List.length_map] at hg
      injection hg with e1 e2 e3
      subst e1 e3
      have HOl : Aside0 (OwnR wr b3 (.slice (some ⟨g, 0, none⟩) (m.map (bndR (1 + (p : Int)))).length cr) (m.map (bndR (1 + (p : Int))))) := ⟨by rw [List.length_map]; exact HO.out⟩
      obtain ⟨a0, a1, a2, c1, c2, c3, c4, lo, hg, hen, hkey, hc1, hc2, hc3, hc4, hlo, hhi⟩ := row_told (risk := 1 + (p : Int)) HRW.out hi
      have HEN := Aside0.mk hen
      have HKEY := Aside0.mk hkey
      have HC1 := Aside0.mk hc1
      have HC2 := Aside0.mk hc2
      have HC3 := Aside0.mk hc3
      have HC4 := Aside0.mk hc4
      have HLO := Aside0.mk hlo
      have HHI := Aside0.mk hhi
      clear hen hkey hc1 hc2 hc3 hc4 hlo hhi
      have y0 : wr.cell? ⟨g, i * 9, none⟩ = some (.int .u8 (a0)) := by have h := HOl.out.cell (i := i) (k := 0) (by rw [List.length_map]; exact hi) (by omega); rw [HEN.out] at h; exact h
      have y1 : wr.cell? ⟨g, i * 9 + 1, none⟩ = some (.int .i64 (a1)) := by have h := HOl.out.cell (i := i) (k := 1) (by rw [List.length_map]; exact hi) (by omega); rw [HEN.out] at h; exact h
      have y2 : wr.cell? ⟨g, i * 9 + 2, none⟩ = some (.int .i64 (a2)) := by have h := HOl.out.cell (i := i) (k := 2) (by rw [List.length_map]; exact hi) (by omega); rw [HEN.out] at h; exact h
      have y3 : wr.cell? ⟨g, i * 9 + 3, none⟩ = some (.int .i64 ((c2 : Int) + (c3 : Int))) := by have h := HOl.out.cell (i := i) (k := 3) (by rw [List.length_map]; exact hi) (by omega); rw [HEN.out] at h; exact h
      have y4 : wr.cell? ⟨g, i * 9 + 4, none⟩ = some (.int .i64 ((c2 : Int))) := by have h := HOl.out.cell (i := i) (k := 4) (by rw [List.length_map]; exact hi) (by omega); rw [HEN.out] at h; exact h
      have y5 : wr.cell? ⟨g, i * 9 + 5, none⟩ = some (.int .i64 ((c1 : Int))) := by have h := HOl.out.cell (i := i) (k := 5) (by rw [List.length_map]; exact hi) (by omega); rw [HEN.out] at h; exact h
      have y6 : wr.cell? ⟨g, i * 9 + 6, none⟩ = some (.int .i64 ((c4 : Int))) := by have h := HOl.out.cell (i := i) (k := 6) (by rw [List.length_map]; exact hi) (by omega); rw [HEN.out] at h; exact h
      have y7 : wr.cell? ⟨g, i * 9 + 7, none⟩ = some (.int .i64 ((lo : Int))) := by have h := HOl.out.cell (i := i) (k := 7) (by rw [List.length_map]; exact hi) (by omega); rw [HEN.out] at h; exact h
      have y8 : wr.cell? ⟨g, i * 9 + 8, none⟩ = some (.int .i64 (hg)) := by have h := HOl.out.cell (i := i) (k := 8) (by rw [List.length_map]; exact hi) (by omega); rw [HEN.out] at h; exact h
      go_upto_if 60 with (fail)
      go_cut [13] (fun v13 wx => v13 = .int .i64 (sumA s m i : Nat) ∧ Aside0 (OwnS wx b1 v0 stdM) ∧ Aside0 (OwnX wx b1 (.slice Ax s.length cx) s) ∧ Aside0 (OwnR wx b3 (.slice (some ⟨g, 0, none⟩) m.length cr) (m.map (bndR (1 + (p : Int))))) ∧ Aside0 (Below w.heap.size w wx) ∧ Aside0 (wx.heap[wr.heap.size]? = some (.cells #[.int .u8 (a0), .int .i64 (a1), .int .i64 (a2), .int .i64 ((c2 : Int) + (c3 : Int)), .int .i64 ((c2 : Int)), .int .i64 ((c1 : Int)), .int .i64 ((c4 : Int)), .int .i64 ((lo : Int)), .int .i64 (hg)] 46 (0, 0))))
      case first =>
        by_cases h0 : 0 < i
        · have hlt := HRW.out.strict HSO.out (i := i - 1) (j := i) (by omega) hi
          rw [HKEY.out] at hlt
          obtain ⟨o, ho⟩ : ∃ o, (m.map (bndR (1 + (p : Int)))).getD (i - 1) zR = o := ⟨_, rfl⟩
          have hko : rowKey (m.getD (i - 1) zR) = rowKey o := by rw [← ho, map_getD (by omega)]; rfl
          rw [hko] at hlt
          obtain ⟨o0, o1, o2, o3, o4, o5, o6, o7, o8⟩ := o
          have HOR := Aside0.mk ho
          have HLT : Aside0 (ltKey (o0, o1, o2) (a0, a1, a2)) := ⟨hlt⟩
          clear hlt ho hko
          have cm : (i : Int) - 1 = ((i - 1 : Nat) : Int) := by omega
          have hi1 : i - 1 < m.length := by omega
          have HSZ : Aside0 ((wr.alloc (.cells #[.int .u8 (a0), .int .i64 (a1), .int .i64 (a2), .int .i64 ((c2 : Int) + (c3 : Int)), .int .i64 ((c2 : Int)), .int .i64 ((c1 : Int)), .int .i64 ((c4 : Int)), .int .i64 ((lo : Int)), .int .i64 (hg)] 46)).heap.size = wr.heap.size + 1) := ⟨by simp⟩
          have z0 : (wr.alloc (.cells #[.int .u8 (a0), .int .i64 (a1), .int .i64 (a2), .int .i64 ((c2 : Int) + (c3 : Int)), .int .i64 ((c2 : Int)), .int .i64 ((c1 : Int)), .int .i64 ((c4 : Int)), .int .i64 ((lo : Int)), .int .i64 (hg)] 46)).cell? ⟨g, (i - 1) * 9, none⟩ = some (.int .u8 o0) := Lib.cell?_alloc_some _ (by have h := HOl.out.cell (i := i - 1) (k := 0) (by rw [List.length_map]; omega) (by omega); rw [HOR.out] at h; exact h)
          have z1 : (wr.alloc (.cells #[.int .u8 (a0), .int .i64 (a1), .int .i64 (a2), .int .i64 ((c2 : Int) + (c3 : Int)), .int .i64 ((c2 : Int)), .int .i64 ((c1 : Int)), .int .i64 ((c4 : Int)), .int .i64 ((lo : Int)), .int .i64 (hg)] 46)).cell? ⟨g, (i - 1) * 9 + 1, none⟩ = some (.int .i64 o1) := Lib.cell?_alloc_some _ (by have h := HOl.out.cell (i := i - 1) (k := 1) (by rw [List.length_map]; omega) (by omega); rw [HOR.out] at h; exact h)
          have z2 : (wr.alloc (.cells #[.int .u8 (a0), .int .i64 (a1), .int .i64 (a2), .int .i64 ((c2 : Int) + (c3 : Int)), .int .i64 ((c2 : Int)), .int .i64 ((c1 : Int)), .int .i64 ((c4 : Int)), .int .i64 ((lo : Int)), .int .i64 (hg)] 46)).cell? ⟨g, (i - 1) * 9 + 2, none⟩ = some (.int .i64 o2) := Lib.cell?_alloc_some _ (by have h := HOl.out.cell (i := i - 1) (k := 2) (by rw [List.length_map]; omega) (by omega); rw [HOR.out] at h; exact h)
          have z3 : (wr.alloc (.cells #[.int .u8 (a0), .int .i64 (a1), .int .i64 (a2), .int .i64 ((c2 : Int) + (c3 : Int)), .int .i64 ((c2 : Int)), .int .i64 ((c1 : Int)), .int .i64 ((c4 : Int)), .int .i64 ((lo : Int)), .int .i64 (hg)] 46)).cell? ⟨g, (i - 1) * 9 + 3, none⟩ = some (.int .i64 o3) := Lib.cell?_alloc_some _ (by have h := HOl.out.cell (i := i - 1) (k := 3) (by rw [List.length_map]; omega) (by omega); rw [HOR.out] at h; exact h)
          have z4 : (wr.alloc (.cells #[.int .u8 (a0), .int .i64 (a1), .int .i64 (a2), .int .i64 ((c2 : Int) + (c3 : Int)), .int .i64 ((c2 : Int)), .int .i64 ((c1 : Int)), .int .i64 ((c4 : Int)), .int .i64 ((lo : Int)), .int .i64 (hg)] 46)).cell? ⟨g, (i - 1) * 9 + 4, none⟩ = some (.int .i64 o4) := Lib.cell?_alloc_some _ (by have h := HOl.out.cell (i := i - 1) (k := 4) (by rw [List.length_map]; omega) (by omega); rw [HOR.out] at h; exact h)
          have z5 : (wr.alloc (.cells #[.int .u8 (a0), .int .i64 (a1), .int .i64 (a2), .int .i64 ((c2 : Int) + (c3 : Int)), .int .i64 ((c2 : Int)), .int .i64 ((c1 : Int)), .int .i64 ((c4 : Int)), .int .i64 ((lo : Int)), .int .i64 (hg)] 46)).cell? ⟨g, (i - 1) * 9 + 5, none⟩ = some (.int .i64 o5) := Lib.cell?_alloc_some _ (by have h := HOl.out.cell (i := i - 1) (k := 5) (by rw [List.length_map]; omega) (by omega); rw [HOR.out] at h; exact h)
          have z6 : (wr.alloc (.cells #[.int .u8 (a0), .int .i64 (a1), .int .i64 (a2), .int .i64 ((c2 : Int) + (c3 : Int)), .int .i64 ((c2 : Int)), .int .i64 ((c1 : Int)), .int .i64 ((c4 : Int)), .int .i64 ((lo : Int)), .int .i64 (hg)] 46)).cell? ⟨g, (i - 1) * 9 + 6, none⟩ = some (.int .i64 o6) := Lib.cell?_alloc_some _ (by have h := HOl.out.cell (i := i - 1) (k := 6) (by rw [List.length_map]; omega) (by omega); rw [HOR.out] at h; exact h)
          have z7 : (wr.alloc (.cells #[.int .u8 (a0), .int .i64 (a1), .int .i64 (a2), .int .i64 ((c2 : Int) + (c3 : Int)), .int .i64 ((c2 : Int)), .int .i64 ((c1 : Int)), .int .i64 ((c4 : Int)), .int .i64 ((lo : Int)), .int .i64 (hg)] 46)).cell? ⟨g, (i - 1) * 9 + 7, none⟩ = some (.int .i64 o7) := Lib.cell?_alloc_some _ (by have h := HOl.out.cell (i := i - 1) (k := 7) (by rw [List.length_map]; omega) (by omega); rw [HOR.out] at h; exact h)
          have z8 : (wr.alloc (.cells #[.int .u8 (a0), .int .i64 (a1), .int .i64 (a2), .int .i64 ((c2 : Int) + (c3 : Int)), .int .i64 ((c2 : Int)), .int .i64 ((c1 : Int)), .int .i64 ((c4 : Int)), .int .i64 ((lo : Int)), .int .i64 (hg)] 46)).cell? ⟨g, (i - 1) * 9 + 8, none⟩ = some (.int .i64 o8) := Lib.cell?_alloc_some _ (by have h := HOl.out.cell (i := i - 1) (k := 8) (by rw [List.length_map]; omega) (by omega); rw [HOR.out] at h; exact h)
          have r0 : ((wr.alloc (.cells #[.int .u8 (a0), .int .i64 (a1), .int .i64 (a2), .int .i64 ((c2 : Int) + (c3 : Int)), .int .i64 ((c2 : Int)), .int .i64 ((c1 : Int)), .int .i64 ((c4 : Int)), .int .i64 ((lo : Int)), .int .i64 (hg)] 46)).alloc (.cells #[.int .u8 o0, .int .i64 o1, .int .i64 o2, .int .i64 o3, .int .i64 o4, .int .i64 o5, .int .i64 o6, .int .i64 o7, .int .i64 o8] 46)).cell? ⟨wr.heap.size, 0, none⟩ = some (.int .u8 (a0)) := Lib.cell?_alloc_some _ (box_cell _ _ _ 0 _ rfl)
          have r1 : ((wr.alloc (.cells #[.int .u8 (a0), .int .i64 (a1), .int .i64 (a2), .int .i64 ((c2 : Int) + (c3 : Int)), .int .i64 ((c2 : Int)), .int .i64 ((c1 : Int)), .int .i64 ((c4 : Int)), .int .i64 ((lo : Int)), .int .i64 (hg)] 46)).alloc (.cells #[.int .u8 o0, .int .i64 o1, .int .i64 o2, .int .i64 o3, .int .i64 o4, .int .i64 o5, .int .i64 o6, .int .i64 o7, .int .i64 o8] 46)).cell? ⟨wr.heap.size, 1, none⟩ = some (.int .i64 (a1)) := Lib.cell?_alloc_some _ (box_cell _ _ _ 1 _ rfl)
          have r2 : ((wr.alloc (.cells #[.int .u8 (a0), .int .i64 (a1), .int .i64 (a2), .int .i64 ((c2 : Int) + (c3 : Int)), .int .i64 ((c2 : Int)), .int .i64 ((c1 : Int)), .int .i64 ((c4 : Int)), .int .i64 ((lo : Int)), .int .i64 (hg)] 46)).alloc (.cells #[.int .u8 o0, .int .i64 o1, .int .i64 o2, .int .i64 o3, .int .i64 o4, .int .i64 o5, .int .i64 o6, .int .i64 o7, .int .i64 o8] 46)).cell? ⟨wr.heap.size, 2, none⟩ = some (.int .i64 (a2)) := Lib.cell?_alloc_some _ (box_cell _ _ _ 2 _ rfl)
          have s0 : ((wr.alloc (.cells #[.int .u8 (a0), .int .i64 (a1), .int .i64 (a2), .int .i64 ((c2 : Int) + (c3 : Int)), .int .i64 ((c2 : Int)), .int .i64 ((c1 : Int)), .int .i64 ((c4 : Int)), .int .i64 ((lo : Int)), .int .i64 (hg)] 46)).alloc (.cells #[.int .u8 o0, .int .i64 o1, .int .i64 o2, .int .i64 o3, .int .i64 o4, .int .i64 o5, .int .i64 o6, .int .i64 o7, .int .i64 o8] 46)).cell? ⟨wr.heap.size + 1, 0, none⟩ = some (.int .u8 o0) := by have h := box_cell (wr.alloc (.cells #[.int .u8 (a0), .int .i64 (a1), .int .i64 (a2), .int .i64 ((c2 : Int) + (c3 : Int)), .int .i64 ((c2 : Int)), .int .i64 ((c1 : Int)), .int .i64 ((c4 : Int)), .int .i64 ((lo : Int)), .int .i64 (hg)] 46)) #[.int .u8 o0, .int .i64 o1, .int .i64 o2, .int .i64 o3, .int .i64 o4, .int .i64 o5, .int .i64 o6, .int .i64 o7, .int .i64 o8] 46 0 (.int .u8 o0) rfl; rw [HSZ.out] at h; exact h
          have s1 : ((wr.alloc (.cells #[.int .u8 (a0), .int .i64 (a1), .int .i64 (a2), .int .i64 ((c2 : Int) + (c3 : Int)), .int .i64 ((c2 : Int)), .int .i64 ((c1 : Int)), .int .i64 ((c4 : Int)), .int .i64 ((lo : Int)), .int .i64 (hg)] 46)).alloc (.cells #[.int .u8 o0, .int .i64 o1, .int .i64 o2, .int .i64 o3, .int .i64 o4, .int .i64 o5, .int .i64 o6, .int .i64 o7, .int .i64 o8] 46)).cell? ⟨wr.heap.size + 1, 1, none⟩ = some (.int .i64 o1) := by have h := box_cell (wr.alloc (.cells #[.int .u8 (a0), .int .i64 (a1), .int .i64 (a2), .int .i64 ((c2 : Int) + (c3 : Int)), .int .i64 ((c2 : Int)), .int .i64 ((c1 : Int)), .int .i64 ((c4 : Int)), .int .i64 ((lo : Int)), .int .i64 (hg)] 46)) #[.int .u8 o0, .int .i64 o1, .int .i64 o2, .int .i64 o3, .int .i64 o4, .int .i64 o5, .int .i64 o6, .int .i64 o7, .int .i64 o8] 46 1 (.int .i64 o1) rfl; rw [HSZ.out] at h; exact h
          have s2 : ((wr.alloc (.cells #[.int .u8 (a0), .int .i64 (a1), .int .i64 (a2), .int .i64 ((c2 : Int) + (c3 : Int)), .int .i64 ((c2 : Int)), .int .i64 ((c1 : Int)), .int .i64 ((c4 : Int)), .int .i64 ((lo : Int)), .int .i64 (hg)] 46)).alloc (.cells #[.int .u8 o0, .int .i64 o1, .int .i64 o2, .int .i64 o3, .int .i64 o4, .int .i64 o5, .int .i64 o6, .int .i64 o7, .int .i64 o8] 46)).cell? ⟨wr.heap.size + 1, 2, none⟩ = some (.int .i64 o2) := by have h := box_cell (wr.alloc (.cells #[.int .u8 (a0), .int .i64 (a1), .int .i64 (a2), .int .i64 ((c2 : Int) + (c3 : Int)), .int .i64 ((c2 : Int)), .int .i64 ((c1 : Int)), .int .i64 ((c4 : Int)), .int .i64 ((lo : Int)), .int .i64 (hg)] 46)) #[.int .u8 o0, .int .i64 o1, .int .i64 o2, .int .i64 o3, .int .i64 o4, .int .i64 o5, .int .i64 o6, .int .i64 o7, .int .i64 o8] 46 2 (.int .i64 o2) rfl; rw [HSZ.out] at h; exact h
          rcases HLT.out with h | ⟨h, h2 | ⟨h', h2⟩⟩
          · as_aux_lemma =>
              have h : o0 < a0 := h
              have g1 : decide (a0 < o0) = false := decide_eq_false (by omega)
              have g2 : (o0 == a0) = false := by rw [beq_eq_false_iff_ne]; omega
              go_wp2_with fail
              go_meet
              case rel => exact ⟨rfl, ⟨HS.out.below (below_alloc (below_alloc (Below.refl wr.heap.size wr) _) _)⟩, ⟨HX.out.below (below_alloc (below_alloc (Below.refl wr.heap.size wr) _) _)⟩, ⟨HO.out.below (below_alloc (below_alloc (Below.refl wr.heap.size wr) _) _)⟩, ⟨below_step HB.out (below_alloc (below_alloc (Below.refl wr.heap.size wr) _) _)⟩, ⟨(heap_alloc_old2 _ _ (by simp)).trans (heap_alloc_new wr _)⟩⟩
          · as_aux_lemma =>
              have h : o0 = a0 := h
              have h2 : o1 < a1 := h2
              subst h
              have g1 : decide (a1 < o1) = false := decide_eq_false (by omega)
              have g2 : (o1 == a1) = false := by rw [beq_eq_false_iff_ne]; omega
              go_wp2_with fail
              go_meet
              case rel => exact ⟨rfl, ⟨HS.out.below (below_alloc (below_alloc (Below.refl wr.heap.size wr) _) _)⟩, ⟨HX.out.below (below_alloc (below_alloc (Below.refl wr.heap.size wr) _) _)⟩, ⟨HO.out.below (below_alloc (below_alloc (Below.refl wr.heap.size wr) _) _)⟩, ⟨below_step HB.out (below_alloc (below_alloc (Below.refl wr.heap.size wr) _) _)⟩, ⟨(heap_alloc_old2 _ _ (by simp)).trans (heap_alloc_new wr _)⟩⟩
          · as_aux_lemma =>
              obtain ⟨g3, g4, g5⟩ : o0 = a0 ∧ o1 = a1 ∧ o2 < a2 := ⟨h, h', h2⟩
              clear h h' h2 HLT
              subst g3 g4
              have g1 : decide (a2 ≤ o2) = false := decide_eq_false (by omega)
              go_wp2_with fail
              go_meet
              case rel => exact ⟨rfl, ⟨HS.out.below (below_alloc (below_alloc (Below.refl wr.heap.size wr) _) _)⟩, ⟨HX.out.below (below_alloc (below_alloc (Below.refl wr.heap.size wr) _) _)⟩, ⟨HO.out.below (below_alloc (below_alloc (Below.refl wr.heap.size wr) _) _)⟩, ⟨below_step HB.out (below_alloc (below_alloc (Below.refl wr.heap.size wr) _) _)⟩, ⟨(heap_alloc_old2 _ _ (by simp)).trans (heap_alloc_new wr _)⟩⟩
        · go_wp2_with fail
          go_meet
          case rel => exact ⟨rfl, ⟨HS.out.below (below_alloc (Below.refl _ _) _)⟩, ⟨HX.out.below (below_alloc (Below.refl _ _) _)⟩, ⟨HO.out.below (below_alloc (Below.refl _ _) _)⟩, ⟨below_step HB.out (below_alloc (Below.refl _ _) _)⟩, ⟨heap_alloc_new wr _⟩⟩
      case rest =>
        clear HS HX HO HB HOl y0 y1 y2 y3 y4 y5 y6 y7 y8
        obtain ⟨rfl, HS, HX, HO, HB, HR⟩ := hcut
        have hgr : wr.heap.size < wc.heap.size := lt_of_block HR.out
        have HG0 : Aside0 ((wc.alloc (.cells #[.int .i64 0, .int .i64 (0), .int .i64 (0), .int .i64 (0), .int .i64 (0)] 61)).heap[wc.heap.size]? = some (.cells #[.int .i64 0, .int .i64 (0), .int .i64 (0), .int .i64 (0), .int .i64 (0)] 61 (0, 0))) := ⟨heap_alloc_new wc _⟩
        have HR0 : Aside0 ((wc.alloc (.cells #[.int .i64 0, .int .i64 (0), .int .i64 (0), .int .i64 (0), .int .i64 (0)] 61)).heap[wr.heap.size]? = some (.cells #[.int .u8 (a0), .int .i64 (a1), .int .i64 (a2), .int .i64 ((c2 : Int) + (c3 : Int)), .int .i64 ((c2 : Int)), .int .i64 ((c1 : Int)), .int .i64 ((c4 : Int)), .int .i64 ((lo : Int)), .int .i64 (hg)] 46 (0, 0))) := ⟨(heap_alloc_old2 _ _ hgr).trans HR.out⟩
        have HS0 : Aside0 (OwnS (wc.alloc (.cells #[.int .i64 0, .int .i64 (0), .int .i64 (0), .int .i64 (0), .int .i64 (0)] 61)) b1 v0 stdM) := ⟨HS.out.below (below_alloc (Below.refl _ _) _)⟩
        have HX0 : Aside0 (OwnX (wc.alloc (.cells #[.int .i64 0, .int .i64 (0), .int .i64 (0), .int .i64 (0), .int .i64 (0)] 61)) b1 (.slice Ax s.length cx) s) := ⟨HX.out.below (below_alloc (Below.refl _ _) _)⟩
        have HO0 : Aside0 (OwnR (wc.alloc (.cells #[.int .i64 0, .int .i64 (0), .int .i64 (0), .int .i64 (0), .int .i64 (0)] 61)) b3 (.slice (some ⟨g, 0, none⟩) m.length cr) (m.map (bndR (1 + (p : Int))))) := ⟨HO.out.below (below_alloc (Below.refl _ _) _)⟩
        have HB0 : Aside0 (Below w.heap.size w (wc.alloc (.cells #[.int .i64 0, .int .i64 (0), .int .i64 (0), .int .i64 (0), .int .i64 (0)] 61))) := ⟨below_alloc HB.out _⟩
        have HWG : Aside0 (w.heap.size ≤ wc.heap.size) := ⟨HB.out.size⟩
        have HNS : Aside0 (v0.ownBlock = none ∨ v0.ownBlock ≠ some wc.heap.size) := ⟨own_ne (World.ownsRow.lt HS.out)⟩
        have HNX : Aside0 ((Value.slice Ax s.length cx).ownBlock = none ∨ (Value.slice Ax s.length cx).ownBlock ≠ some wc.heap.size) := ⟨own_ne (World.ownsRow.lt HX.out)⟩
        have HNO : Aside0 ((Value.slice (some ⟨g, 0, none⟩) m.length cr).ownBlock = none ∨ (Value.slice (some ⟨g, 0, none⟩) m.length cr).ownBlock ≠ some wc.heap.size) := ⟨own_ne (World.ownsRow.lt HO.out)⟩
        go_wp2_with fail
        generalize wc.alloc (.cells #[.int .i64 0, .int .i64 (0), .int .i64 (0), .int .i64 (0), .int .i64 (0)] 61) = wd at *
        generalize wr.heap.size = gr at *
        generalize wc.heap.size = gg at *
        clear HS HX HO HB HR
        have hsum := sumA_le HRW.out (i := i + 1) (by omega)
        rw [sumA_succ s hi, HKEY.out] at hsum
        generalize hsm : sumA s m i = sm at *
        go_loopw [13, 101] (fun v13 v101 W => ∃ j t1 t2 t3 t4 ta : Nat, j ≤ s.length ∧ v101 = .int .i64 j ∧ v13 = .int .i64 ((sm + ta : Nat) : Int) ∧ Aside0 (CntAt s q (a0, a1, a2) j t1 t2 t3 t4 ta) ∧ Aside0 (OwnS W b1 v0 stdM) ∧ Aside0 (OwnX W b1 (.slice Ax s.length cx) s) ∧ Aside0 (OwnR W b3 (.slice (some ⟨g, 0, none⟩) m.length cr) (m.map (bndR (1 + (p : Int))))) ∧ Aside0 (Below w.heap.size w W) ∧ Aside0 (W.heap[gr]? = some (.cells #[.int .u8 (a0), .int .i64 (a1), .int .i64 (a2), .int .i64 ((c2 : Int) + (c3 : Int)), .int .i64 ((c2 : Int)), .int .i64 ((c1 : Int)), .int .i64 ((c4 : Int)), .int .i64 ((lo : Int)), .int .i64 (hg)] 46 (0, 0))) ∧ Aside0 (W.heap[gg]? = some (.cells #[.int .i64 0, .int .i64 (t1 : Int), .int .i64 (t2 : Int), .int .i64 (t3 : Int), .int .i64 (t4 : Int)] 61 (0, 0)))) (fun _ v101 _ => s.length - (intOf v101).toNat)
        case atStart => exact ⟨0, 0, 0, 0, 0, 0, by omega, rfl, rfl, ⟨CntAt.zero _ _ _⟩, HS0, HX0, HO0, HB0, HR0, HG0⟩
        case round =>
          clear HS0 HX0 HO0 HB0 HR0 HG0
          obtain ⟨j, t1, t2, t3, t4, ta, hjs, rfl, rfl, HC, HS, HX, HO, HB, HR, HG⟩ := hrel
          by_cases hj : j < s.length
          · obtain ⟨g2, cg2, hg2⟩ := HX.out.block (by omega)
            injection hg2 with e1 e2 e3
            subst e1 e3
            obtain ⟨x, hx⟩ : ∃ x, x = s.getD j zX := ⟨_, rfl⟩
            obtain ⟨xa, xb, xc, xd, xp, xq⟩ := x
            have HXE := Aside0.mk hx
            clear hx
            have x0 : wr.cell? ⟨g2, j * 6, none⟩ = some (.int .i64 xa) := HX.out.cell (i := j) (k := 0) hj (by rw [← HXE.out]; rfl)
            have x1 : wr.cell? ⟨g2, j * 6 + 1, none⟩ = some (.int .u8 xb) := HX.out.cell (i := j) (k := 1) hj (by rw [← HXE.out]; rfl)
            have x2 : wr.cell? ⟨g2, j * 6 + 2, none⟩ = some (.int .i64 xc) := HX.out.cell (i := j) (k := 2) hj (by rw [← HXE.out]; rfl)
            have x3 : wr.cell? ⟨g2, j * 6 + 3, none⟩ = some (.int .i64 xd) := HX.out.cell (i := j) (k := 3) hj (by rw [← HXE.out]; rfl)
            have x4 : wr.cell? ⟨g2, j * 6 + 4, none⟩ = some (.int .i64 xp) := HX.out.cell (i := j) (k := 4) hj (by rw [← HXE.out]; rfl)
            have x5 : wr.cell? ⟨g2, j * 6 + 5, none⟩ = some (.int .i64 xq) := HX.out.cell (i := j) (k := 5) hj (by rw [← HXE.out]; rfl)
            have b0 : (wr.alloc (.cells #[.int .i64 xa, .int .u8 xb, .int .i64 xc, .int .i64 xd, .int .i64 xp, .int .i64 xq] 35)).cell? ⟨wr.heap.size, 0, none⟩ = some (.int .i64 xa) := box_cell _ _ _ 0 _ rfl
            have b1 : (wr.alloc (.cells #[.int .i64 xa, .int .u8 xb, .int .i64 xc, .int .i64 xd, .int .i64 xp, .int .i64 xq] 35)).cell? ⟨wr.heap.size, 1, none⟩ = some (.int .u8 xb) := box_cell _ _ _ 1 _ rfl
            have b2 : (wr.alloc (.cells #[.int .i64 xa, .int .u8 xb, .int .i64 xc, .int .i64 xd, .int .i64 xp, .int .i64 xq] 35)).cell? ⟨wr.heap.size, 2, none⟩ = some (.int .i64 xc) := box_cell _ _ _ 2 _ rfl
            have b3 : (wr.alloc (.cells #[.int .i64 xa, .int .u8 xb, .int .i64 xc, .int .i64 xd, .int .i64 xp, .int .i64 xq] 35)).cell? ⟨wr.heap.size, 3, none⟩ = some (.int .i64 xd) := box_cell _ _ _ 3 _ rfl
            have b4 : (wr.alloc (.cells #[.int .i64 xa, .int .u8 xb, .int .i64 xc, .int .i64 xd, .int .i64 xp, .int .i64 xq] 35)).cell? ⟨wr.heap.size, 4, none⟩ = some (.int .i64 xp) := box_cell _ _ _ 4 _ rfl
            have b5 : (wr.alloc (.cells #[.int .i64 xa, .int .u8 xb, .int .i64 xc, .int .i64 xd, .int .i64 xp, .int .i64 xq] 35)).cell? ⟨wr.heap.size, 5, none⟩ = some (.int .i64 xq) := box_cell _ _ _ 5 _ rfl
            have r0 : (wr.alloc (.cells #[.int .i64 xa, .int .u8 xb, .int .i64 xc, .int .i64 xd, .int .i64 xp, .int .i64 xq] 35)).cell? ⟨gr, 0, none⟩ = some (.int .u8 a0) := Lib.cell?_alloc_some _ (cell_block HR.out rfl)
            have r1 : (wr.alloc (.cells #[.int .i64 xa, .int .u8 xb, .int .i64 xc, .int .i64 xd, .int .i64 xp, .int .i64 xq] 35)).cell? ⟨gr, 1, none⟩ = some (.int .i64 a1) := Lib.cell?_alloc_some _ (cell_block HR.out rfl)
            have r2 : (wr.alloc (.cells #[.int .i64 xa, .int .u8 xb, .int .i64 xc, .int .i64 xd, .int .i64 xp, .int .i64 xq] 35)).cell? ⟨gr, 2, none⟩ = some (.int .i64 a2) := Lib.cell?_alloc_some _ (cell_block HR.out rfl)
            by_cases n1 : xb = a0
            · subst n1
              by_cases n2 : xc = a1
              · subst n2
                by_cases n3 : xd = a2
                · subst n3
                  have hxr : rightX ⟨xa, xb, xc, xd, xp, xq⟩ = true := HRX.out ⟨xa, xb, xc, xd, xp, xq⟩ (by rw [HXE.out, List.getD_eq_getElem?_getD, List.getElem?_eq_getElem hj]; exact List.getElem_mem hj)
                  have HJ := Aside0.mk (fun W (v : Value) (h : IsS W v stdM) => Judge_calls stdM ⟨xa, xb, xc, xd, xp, xq⟩ q W h)
                  rw [judge_made (l := []) (fun _ h => by simp at h) hxr (by omega) (by omega)] at HJ
                  unfold aggX at HJ
                  dsimp only at HJ
                  have HKX : Aside0 (keyM (s.getD j zX) = (xb, xc, xd)) := ⟨by rw [← HXE.out]; rfl⟩
                  obtain ⟨oc, hoc⟩ : ∃ oc, outcomeR stdM ⟨xa, xb, xc, xd, xp, xq⟩ q = oc := ⟨_, rfl⟩
                  have hin := outcome_in stdM ⟨xa, xb, xc, xd, xp, xq⟩ q
                  rw [hoc] at hin HJ
                  have HOX : Aside0 (outcomeR stdM (s.getD j zX) q = oc) := ⟨by rw [← HXE.out]; exact hoc⟩
                  have HIN := Aside0.mk hin
                  have HLE := Aside0.mk (HC.out.le HSL.out)
                  obtain ⟨l1, l2, l3, l4⟩ := HC.out.le HSL.out
                  have hta : ta ≤ 100 := by
                    have h1 := HC.out.2.2.2.2
                    have h2 := cntA_take s j (xb, xc, xd)
                    have h3 := cntA_le s (xb, xc, xd)
                    have h4 := HSL.out
                    have h5 : ta = cntA (s.take j) (xb, xc, xd) := h1
                    omega
                  obtain ⟨wa, hwa⟩ : ∃ wa, wa = wr.alloc (.cells #[.int .i64 xa, .int .u8 xb, .int .i64 xc, .int .i64 xd, .int .i64 xp, .int .i64 xq] 35) := ⟨_, rfl⟩
                  have hba : Below wr.heap.size wr wa := by rw [hwa]; exact below_alloc (Below.refl _ _) _
                  have HBXa : Aside0 (BoxX wa wr.heap.size ⟨xa, xb, xc, xd, xp, xq⟩) := ⟨by rw [hwa]; exact BoxX.mk wr xa xb xc xd xp xq _⟩
                  have HSa := Aside0.mk (HS.out.below hba)
                  have HXa := Aside0.mk (HX.out.below hba)
                  have HOa := Aside0.mk (HO.out.below hba)
                  have HBa := Aside0.mk (below_step HB.out hba)
                  have HRa := Aside0.mk ((hba.block _ (lt_of_block HR.out)).trans HR.out)
                  have HGa := Aside0.mk ((hba.block _ (lt_of_block HG.out)).trans HG.out)
                  have HWA := Aside0.mk hwa
                  have aE := Tryz.isAgg35
                  have zE := Tryz.sizeOf35
                  clear hxr hoc hin hba hwa HS HX HO HB HR HG
                  go_wp2_with fail
                  rw [← HWA.out]
                  have k0 : wa.cell? ⟨wr.heap.size, 0, none⟩ = some (.int .i64 xa) := HBXa.out.2 0 _ rfl
                  have k1 : wa.cell? ⟨wr.heap.size, 1, none⟩ = some (.int .u8 xb) := HBXa.out.2 1 _ rfl
                  have k2 : wa.cell? ⟨wr.heap.size, 2, none⟩ = some (.int .i64 xc) := HBXa.out.2 2 _ rfl
                  have k3 : wa.cell? ⟨wr.heap.size, 3, none⟩ = some (.int .i64 xd) := HBXa.out.2 3 _ rfl
                  have k4 : wa.cell? ⟨wr.heap.size, 4, none⟩ = some (.int .i64 xp) := HBXa.out.2 4 _ rfl
                  have k5 : wa.cell? ⟨wr.heap.size, 5, none⟩ = some (.int .i64 xq) := HBXa.out.2 5 _ rfl
                  refine (HJ.out _ _ HSa.out.isS).mono ?_
                  rintro e w6 ⟨rfl, b6⟩
                  have HBX6 := Aside0.mk (HBXa.out.below b6)
                  have HS6 := Aside0.mk (HSa.out.below b6)
                  have HX6 := Aside0.mk (HXa.out.below b6)
                  have HO6 := Aside0.mk (HOa.out.below b6)
                  have HB6 := Aside0.mk (below_step HBa.out b6)
                  have HR6 := Aside0.mk ((b6.block _ (lt_of_block HRa.out)).trans HRa.out)
                  have HG6 := Aside0.mk ((b6.block _ (lt_of_block HGa.out)).trans HGa.out)
                  clear b6
                  clear k0 k1 k2 k3 k4 k5
                  rcases HIN.out with rfl | rfl | rfl | rfl
                  · as_aux_lemma =>
                      have cg : w6.cell? ⟨gg, 1, none⟩ = some (.int .i64 (t1 : Int)) := cell_block HG6.out rfl
                      have fg : w6.frozen? ⟨gg, 1, none⟩ = false := free_block HG6.out
                      have HG7 := Aside0.mk (set_block (k := 1) (u := .int .i64 ((t1 : Int) + 1)) HG6.out)
                      have HR7 : Aside0 ((w6.setCell ⟨gg, 1, none⟩ (.int .i64 ((t1 : Int) + 1))).heap[gr]? = some (.cells #[.int .u8 (xb), .int .i64 (xc), .int .i64 (xd), .int .i64 ((c2 : Int) + (c3 : Int)), .int .i64 ((c2 : Int)), .int .i64 ((c1 : Int)), .int .i64 ((c4 : Int)), .int .i64 ((lo : Int)), .int .i64 (hg)] 46 (0, 0))) := ⟨(Below.heap_setCell w6 ⟨gg, 1, none⟩ _ gr (Nat.ne_of_lt hgr)).trans HR6.out⟩
                      have hg7 := grown_set w6 gg 1 (.int .i64 ((t1 : Int) + 1))
                      have HS7 := Aside0.mk (HS6.out.kept hg7 HNS.out)
                      have HX7 := Aside0.mk (HX6.out.kept hg7 HNX.out)
                      have HO7 := Aside0.mk (HO6.out.kept hg7 HNO.out)
                      have HB7 := Aside0.mk (HB6.out.grown hg7 HB6.out.size (fun _ e => by cases e; exact HWG.out))
                      have HC7 := HC.out.hit hj HKX.out HOX.out
                      have HC8 : Aside0 (CntAt s q (xb, xc, xd) (j + 1) (t1 + 1) (t2) (t3) (t4) (ta + 1)) := ⟨by simpa using HC7⟩
                      clear hg7 HC7
                      go_wp2_with fail
                      go_roundw
                      case rel => exact ⟨j + 1, (t1 + 1), (t2), (t3), (t4), ta + 1, by omega, by go_num, by go_num, HC8, HS7, HX7, HO7, HB7, HR7, HG7⟩
                      case measure => simp [intOf]; omega
                  · as_aux_lemma =>
                      have cg : w6.cell? ⟨gg, 2, none⟩ = some (.int .i64 (t2 : Int)) := cell_block HG6.out rfl
                      have fg : w6.frozen? ⟨gg, 2, none⟩ = false := free_block HG6.out
                      have HG7 := Aside0.mk (set_block (k := 2) (u := .int .i64 ((t2 : Int) + 1)) HG6.out)
                      have HR7 : Aside0 ((w6.setCell ⟨gg, 2, none⟩ (.int .i64 ((t2 : Int) + 1))).heap[gr]? = some (.cells #[.int .u8 (xb), .int .i64 (xc), .int .i64 (xd), .int .i64 ((c2 : Int) + (c3 : Int)), .int .i64 ((c2 : Int)), .int .i64 ((c1 : Int)), .int .i64 ((c4 : Int)), .int .i64 ((lo : Int)), .int .i64 (hg)] 46 (0, 0))) := ⟨(Below.heap_setCell w6 ⟨gg, 2, none⟩ _ gr (Nat.ne_of_lt hgr)).trans HR6.out⟩
                      have hg7 := grown_set w6 gg 2 (.int .i64 ((t2 : Int) + 1))
                      have HS7 := Aside0.mk (HS6.out.kept hg7 HNS.out)
                      have HX7 := Aside0.mk (HX6.out.kept hg7 HNX.out)
                      have HO7 := Aside0.mk (HO6.out.kept hg7 HNO.out)
                      have HB7 := Aside0.mk (HB6.out.grown hg7 HB6.out.size (fun _ e => by cases e; exact HWG.out))
                      have HC7 := HC.out.hit hj HKX.out HOX.out
                      have HC8 : Aside0 (CntAt s q (xb, xc, xd) (j + 1) (t1) (t2 + 1) (t3) (t4) (ta + 1)) := ⟨by simpa using HC7⟩
                      clear hg7 HC7
                      go_wp2_with fail
                      go_roundw
                      case rel => exact ⟨j + 1, (t1), (t2 + 1), (t3), (t4), ta + 1, by omega, by go_num, by go_num, HC8, HS7, HX7, HO7, HB7, HR7, HG7⟩
                      case measure => simp [intOf]; omega
                  · as_aux_lemma =>
                      have cg : w6.cell? ⟨gg, 3, none⟩ = some (.int .i64 (t3 : Int)) := cell_block HG6.out rfl
                      have fg : w6.frozen? ⟨gg, 3, none⟩ = false := free_block HG6.out
                      have HG7 := Aside0.mk (set_block (k := 3) (u := .int .i64 ((t3 : Int) + 1)) HG6.out)
                      have HR7 : Aside0 ((w6.setCell ⟨gg, 3, none⟩ (.int .i64 ((t3 : Int) + 1))).heap[gr]? = some (.cells #[.int .u8 (xb), .int .i64 (xc), .int .i64 (xd), .int .i64 ((c2 : Int) + (c3 : Int)), .int .i64 ((c2 : Int)), .int .i64 ((c1 : Int)), .int .i64 ((c4 : Int)), .int .i64 ((lo : Int)), .int .i64 (hg)] 46 (0, 0))) := ⟨(Below.heap_setCell w6 ⟨gg, 3, none⟩ _ gr (Nat.ne_of_lt hgr)).trans HR6.out⟩
                      have hg7 := grown_set w6 gg 3 (.int .i64 ((t3 : Int) + 1))
                      have HS7 := Aside0.mk (HS6.out.kept hg7 HNS.out)
                      have HX7 := Aside0.mk (HX6.out.kept hg7 HNX.out)
                      have HO7 := Aside0.mk (HO6.out.kept hg7 HNO.out)
                      have HB7 := Aside0.mk (HB6.out.grown hg7 HB6.out.size (fun _ e => by cases e; exact HWG.out))
                      have HC7 := HC.out.hit hj HKX.out HOX.out
                      have HC8 : Aside0 (CntAt s q (xb, xc, xd) (j + 1) (t1) (t2) (t3 + 1) (t4) (ta + 1)) := ⟨by simpa using HC7⟩
                      clear hg7 HC7
                      go_wp2_with fail
                      go_roundw
                      case rel => exact ⟨j + 1, (t1), (t2), (t3 + 1), (t4), ta + 1, by omega, by go_num, by go_num, HC8, HS7, HX7, HO7, HB7, HR7, HG7⟩
                      case measure => simp [intOf]; omega
                  · as_aux_lemma =>
                      have cg : w6.cell? ⟨gg, 4, none⟩ = some (.int .i64 (t4 : Int)) := cell_block HG6.out rfl
                      have fg : w6.frozen? ⟨gg, 4, none⟩ = false := free_block HG6.out
                      have HG7 := Aside0.mk (set_block (k := 4) (u := .int .i64 ((t4 : Int) + 1)) HG6.out)
                      have HR7 : Aside0 ((w6.setCell ⟨gg, 4, none⟩ (.int .i64 ((t4 : Int) + 1))).heap[gr]? = some (.cells #[.int .u8 (xb), .int .i64 (xc), .int .i64 (xd), .int .i64 ((c2 : Int) + (c3 : Int)), .int .i64 ((c2 : Int)), .int .i64 ((c1 : Int)), .int .i64 ((c4 : Int)), .int .i64 ((lo : Int)), .int .i64 (hg)] 46 (0, 0))) := ⟨(Below.heap_setCell w6 ⟨gg, 4, none⟩ _ gr (Nat.ne_of_lt hgr)).trans HR6.out⟩
                      have hg7 := grown_set w6 gg 4 (.int .i64 ((t4 : Int) + 1))
                      have HS7 := Aside0.mk (HS6.out.kept hg7 HNS.out)
                      have HX7 := Aside0.mk (HX6.out.kept hg7 HNX.out)
                      have HO7 := Aside0.mk (HO6.out.kept hg7 HNO.out)
                      have HB7 := Aside0.mk (HB6.out.grown hg7 HB6.out.size (fun _ e => by cases e; exact HWG.out))
                      have HC7 := HC.out.hit hj HKX.out HOX.out
                      have HC8 : Aside0 (CntAt s q (xb, xc, xd) (j + 1) (t1) (t2) (t3) (t4 + 1) (ta + 1)) := ⟨by simpa using HC7⟩
                      clear hg7 HC7
                      go_wp2_with fail
                      go_roundw
                      case rel => exact ⟨j + 1, (t1), (t2), (t3), (t4 + 1), ta + 1, by omega, by go_num, by go_num, HC8, HS7, HX7, HO7, HB7, HR7, HG7⟩
                      case measure => simp [intOf]; omega
                · as_aux_lemma =>
                    have n3b : (xd == a2) = false := by rw [beq_eq_false_iff_ne]; exact n3
                    go_wp2_with fail
                    go_roundw
                    case rel => exact ⟨j + 1, t1, t2, t3, t4, ta, by omega, by go_num, rfl, ⟨HC.out.skip hj (by rw [← HXE.out]; exact fun e => n3 (congrArg (fun k => k.2.2) e))⟩, ⟨HS.out.below (below_alloc (Below.refl _ _) _)⟩, ⟨HX.out.below (below_alloc (Below.refl _ _) _)⟩, ⟨HO.out.below (below_alloc (Below.refl _ _) _)⟩, ⟨below_step HB.out (below_alloc (Below.refl _ _) _)⟩, ⟨(heap_alloc_old2 _ _ (lt_of_block HR.out)).trans HR.out⟩, ⟨(heap_alloc_old2 _ _ (lt_of_block HG.out)).trans HG.out⟩⟩
                    case measure => simp [intOf]; omega
              · as_aux_lemma =>
                  have n2b : (xc == a1) = false := by rw [beq_eq_false_iff_ne]; exact n2
                  go_wp2_with fail
                  go_roundw
                  case rel => exact ⟨j + 1, t1, t2, t3, t4, ta, by omega, by go_num, rfl, ⟨HC.out.skip hj (by rw [← HXE.out]; exact fun e => n2 (congrArg (fun k => k.2.1) e))⟩, ⟨HS.out.below (below_alloc (Below.refl _ _) _)⟩, ⟨HX.out.below (below_alloc (Below.refl _ _) _)⟩, ⟨HO.out.below (below_alloc (Below.refl _ _) _)⟩, ⟨below_step HB.out (below_alloc (Below.refl _ _) _)⟩, ⟨(heap_alloc_old2 _ _ (lt_of_block HR.out)).trans HR.out⟩, ⟨(heap_alloc_old2 _ _ (lt_of_block HG.out)).trans HG.out⟩⟩
                  case measure => simp [intOf]; omega
            · as_aux_lemma =>
                have n1b : (xb == a0) = false := by rw [beq_eq_false_iff_ne]; exact n1
                go_wp2_with fail
                go_roundw
                case rel => exact ⟨j + 1, t1, t2, t3, t4, ta, by omega, by go_num, rfl, ⟨HC.out.skip hj (by rw [← HXE.out]; exact fun e => n1 (congrArg Prod.fst e))⟩, ⟨HS.out.below (below_alloc (Below.refl _ _) _)⟩, ⟨HX.out.below (below_alloc (Below.refl _ _) _)⟩, ⟨HO.out.below (below_alloc (Below.refl _ _) _)⟩, ⟨below_step HB.out (below_alloc (Below.refl _ _) _)⟩, ⟨(heap_alloc_old2 _ _ (lt_of_block HR.out)).trans HR.out⟩, ⟨(heap_alloc_old2 _ _ (lt_of_block HG.out)).trans HG.out⟩⟩
                case measure => simp [intOf]; omega

          · obtain rfl : j = s.length := by omega
            obtain ⟨q1, q2, q3, q4, q5⟩ := HC.out.all
            obtain rfl : t1 = c1 := q1.trans HC1.out.symm
            obtain rfl : t2 = c2 := q2.trans HC2.out.symm
            obtain rfl : t3 = c3 := q3.trans HC3.out.symm
            obtain rfl : t4 = c4 := q4.trans HC4.out.symm
            have HTA : Aside0 (sm + ta = sumA s m (i + 1)) := ⟨by rw [sumA_succ s hi, HKEY.out, hsm, ← q5]⟩
            obtain ⟨l1, l2, l3, l4⟩ := HC.out.le HSL.out
            clear q1 q2 q3 q4 q5
            have hn23 : t2 + t3 ≤ 200 := by omega
            have hrk : (1 + (p : Int)).toNat = 1 + p := by omega
            have HLE := Aside0.mk (fun W => Least_ok (t2 + t3) t2 (1 + p) W (by omega) (by omega) (by omega) (by omega))
            have HGR := Aside0.mk (fun W => Greatest_ok (t2 + t3) t2 (1 + p) W (by omega) (by omega) (by omega) (by omega))
            have hlo := HLO.out
            have hhi := HHI.out
            rw [hrk] at hlo hhi
            rw [Nat.add_sub_cancel_left, ← hhi, Int.natCast_add, Int.natCast_add] at HGR
            rw [← hlo, Int.natCast_add, Int.natCast_add] at HLE
            have hord := bounds_order (n := t2 + t3) (k := t2) (a := 1 + p) (by omega) (by omega) (by omega)
            rw [Nat.add_sub_cancel_left, ← hlo] at hord
            have hsp := fun h0 : 0 < t2 + t3 => bound_share (n := t2 + t3) (k := t2) (a := 1 + p) (by omega) h0 (cnt_sum_le HC2.out HC3.out HSL.out) (by omega)
            have hsp2 := fun h0 : 0 < t2 + t3 => bound_share (n := t2 + t3) (k := t3) (a := 1 + p) (by omega) h0 (cnt_sum_le HC2.out HC3.out HSL.out) (by omega)
            rw [← hlo] at hsp
            obtain ⟨L2, hL2⟩ : ∃ L2, L2 = leastN (t2 + t3) t3 (1 + p) := ⟨_, rfl⟩
            rw [← hL2] at hord hsp2 hhi
            have hd1 : decide (hg < (lo : Int)) = false := decide_eq_false (by omega)
            have HHH := Aside0.mk hhi
            have HORD := Aside0.mk hord
            have HSP := Aside0.mk hsp
            have HSP2 := Aside0.mk hsp2
            clear hlo hhi hord hsp hsp2 hL2
            have y0 : wr.cell? ⟨gr, 0, none⟩ = some (.int .u8 (a0)) := cell_block HR.out rfl
            have y1 : wr.cell? ⟨gr, 1, none⟩ = some (.int .i64 (a1)) := cell_block HR.out rfl
            have y2 : wr.cell? ⟨gr, 2, none⟩ = some (.int .i64 (a2)) := cell_block HR.out rfl
            have y3 : wr.cell? ⟨gr, 3, none⟩ = some (.int .i64 ((t2 : Int) + (t3 : Int))) := cell_block HR.out rfl
            have y4 : wr.cell? ⟨gr, 4, none⟩ = some (.int .i64 ((t2 : Int))) := cell_block HR.out rfl
            have y5 : wr.cell? ⟨gr, 5, none⟩ = some (.int .i64 ((t1 : Int))) := cell_block HR.out rfl
            have y6 : wr.cell? ⟨gr, 6, none⟩ = some (.int .i64 ((t4 : Int))) := cell_block HR.out rfl
            have y7 : wr.cell? ⟨gr, 7, none⟩ = some (.int .i64 ((lo : Int))) := cell_block HR.out rfl
            have y8 : wr.cell? ⟨gr, 8, none⟩ = some (.int .i64 (hg)) := cell_block HR.out rfl
            go_wp2_with fail
            refine (HLE.out _).mono ?_
            rintro e w5 ⟨rfl, b5⟩
            have HS5 := Aside0.mk (HS.out.below b5)
            have HX5 := Aside0.mk (HX.out.below b5)
            have HO5 := Aside0.mk (HO.out.below b5)
            have HB5 := Aside0.mk (below_step HB.out b5)
            have HR5 := Aside0.mk ((b5.block _ (lt_of_block HR.out)).trans HR.out)
            have HG5 := Aside0.mk ((b5.block _ (lt_of_block HG.out)).trans HG.out)
            clear b5 HS HX HO HB HR HG y0 y1 y2 y3 y4 y5 y6 y7 y8
            have y0 : w5.cell? ⟨gr, 0, none⟩ = some (.int .u8 (a0)) := cell_block HR5.out rfl
            have y1 : w5.cell? ⟨gr, 1, none⟩ = some (.int .i64 (a1)) := cell_block HR5.out rfl
            have y2 : w5.cell? ⟨gr, 2, none⟩ = some (.int .i64 (a2)) := cell_block HR5.out rfl
            have y3 : w5.cell? ⟨gr, 3, none⟩ = some (.int .i64 ((t2 : Int) + (t3 : Int))) := cell_block HR5.out rfl
            have y4 : w5.cell? ⟨gr, 4, none⟩ = some (.int .i64 ((t2 : Int))) := cell_block HR5.out rfl
            have y5 : w5.cell? ⟨gr, 5, none⟩ = some (.int .i64 ((t1 : Int))) := cell_block HR5.out rfl
            have y6 : w5.cell? ⟨gr, 6, none⟩ = some (.int .i64 ((t4 : Int))) := cell_block HR5.out rfl
            have y7 : w5.cell? ⟨gr, 7, none⟩ = some (.int .i64 ((lo : Int))) := cell_block HR5.out rfl
            have y8 : w5.cell? ⟨gr, 8, none⟩ = some (.int .i64 (hg)) := cell_block HR5.out rfl
            go_wp2_with fail
            refine (HGR.out _).mono ?_
            rintro e w6 ⟨rfl, b6⟩
            have HS6 := Aside0.mk (HS5.out.below b6)
            have HX6 := Aside0.mk (HX5.out.below b6)
            have HO6 := Aside0.mk (HO5.out.below b6)
            have HB6 := Aside0.mk (below_step HB5.out b6)
            have HR6 := Aside0.mk ((b6.block _ (lt_of_block HR5.out)).trans HR5.out)
            have HG6 := Aside0.mk ((b6.block _ (lt_of_block HG5.out)).trans HG5.out)
            clear b6 HS5 HX5 HO5 HB5 HR5 HG5 y0 y1 y2 y3 y4 y5 y6 y7 y8
            have y0 : w6.cell? ⟨gr, 0, none⟩ = some (.int .u8 (a0)) := cell_block HR6.out rfl
            have y1 : w6.cell? ⟨gr, 1, none⟩ = some (.int .i64 (a1)) := cell_block HR6.out rfl
            have y2 : w6.cell? ⟨gr, 2, none⟩ = some (.int .i64 (a2)) := cell_block HR6.out rfl
            have y3 : w6.cell? ⟨gr, 3, none⟩ = some (.int .i64 ((t2 : Int) + (t3 : Int))) := cell_block HR6.out rfl
            have y4 : w6.cell? ⟨gr, 4, none⟩ = some (.int .i64 ((t2 : Int))) := cell_block HR6.out rfl
            have y5 : w6.cell? ⟨gr, 5, none⟩ = some (.int .i64 ((t1 : Int))) := cell_block HR6.out rfl
            have y6 : w6.cell? ⟨gr, 6, none⟩ = some (.int .i64 ((t4 : Int))) := cell_block HR6.out rfl
            have y7 : w6.cell? ⟨gr, 7, none⟩ = some (.int .i64 ((lo : Int))) := cell_block HR6.out rfl
            have y8 : w6.cell? ⟨gr, 8, none⟩ = some (.int .i64 (hg)) := cell_block HR6.out rfl
            have z1 : w6.cell? ⟨gg, 1, none⟩ = some (.int .i64 (t1 : Int)) := cell_block HG6.out rfl
            have z2 : w6.cell? ⟨gg, 2, none⟩ = some (.int .i64 (t2 : Int)) := cell_block HG6.out rfl
            have z3 : w6.cell? ⟨gg, 3, none⟩ = some (.int .i64 (t3 : Int)) := cell_block HG6.out rfl
            have z4 : w6.cell? ⟨gg, 4, none⟩ = some (.int .i64 (t4 : Int)) := cell_block HG6.out rfl
            by_cases h0 : 0 < t2 + t3
            · as_aux_lemma =>
                have f1 := HSP.out h0
                have f2 := HSP2.out h0
                have hh := HHH.out
                have ho := HORD.out
                have y1' : lo * (t2 + t3) ≤ 10000 * 200 := Nat.mul_le_mul (by omega) (by omega)
                have y2' : L2 * (t2 + t3) ≤ 10000 * 200 := Nat.mul_le_mul (by omega) (by omega)
                have e1 : ((lo : Int) - 1) * ((t2 : Int) + (t3 : Int)) = ((lo * (t2 + t3) : Nat) : Int) - ((t2 : Int) + (t3 : Int)) := by rw [Int.sub_mul, Int.one_mul, Int.natCast_mul, Int.natCast_add]
                have e2 : (hg + 1) * ((t2 : Int) + (t3 : Int)) = 10001 * ((t2 : Int) + (t3 : Int)) - ((L2 * (t2 + t3) : Nat) : Int) := by rw [hh, Int.natCast_mul, Int.natCast_add, show (10000 - (L2 : Int) + 1) = 10001 - (L2 : Int) by omega, Int.sub_mul]
                have p1 : IntKind.i64.wrap (((lo : Int) - 1) * ((t2 : Int) + (t3 : Int))) = ((lo : Int) - 1) * ((t2 : Int) + (t3 : Int)) := IntWalk.i64_in _ (by rw [e1]; omega)
                have p2 : IntKind.i64.wrap ((hg + 1) * ((t2 : Int) + (t3 : Int))) = (hg + 1) * ((t2 : Int) + (t3 : Int)) := IntWalk.i64_in _ (by rw [e2]; omega)
                have t5 : decide (10000 * (t2 : Int) ≤ ((lo : Int) - 1) * ((t2 : Int) + (t3 : Int))) = false := decide_eq_false (by rw [e1]; omega)
                have t6 : decide ((hg + 1) * ((t2 : Int) + (t3 : Int)) ≤ 10000 * (t2 : Int)) = false := decide_eq_false (by rw [e2]; omega)
                have t7 : decide ((0 : Int) < (t2 : Int) + (t3 : Int)) = true := decide_eq_true (by omega)
                have hgb : -10000 ≤ hg ∧ hg ≤ 10000 := by omega
                have hlob : lo ≤ 10000 := by omega
                clear f1 f2 hh ho y1' y2' e1 e2
                go_wp2_with fail
                refine ⟨⟨i + 1, hi, congrArg (Value.int .i64) (by omega), congrArg (Value.int .i64) (by rw [← HTA.out, Int.natCast_add]), HS6, HX6, HO6, HB6⟩, ?_⟩
                simp [intOf]; omega
            · as_aux_lemma =>
                have t7 : decide ((0 : Int) < (t2 : Int) + (t3 : Int)) = false := decide_eq_false (by omega)
                go_wp2_with fail
                refine ⟨⟨i + 1, hi, congrArg (Value.int .i64) (by omega), congrArg (Value.int .i64) (by rw [← HTA.out, Int.natCast_add]), HS6, HX6, HO6, HB6⟩, ?_⟩
                simp [intOf]; omega
    · as_aux_lemma =>
        obtain rfl : i = m.length := by omega
        have HALL : Aside0 (sumA s m m.length = s.length) := ⟨sumA_all HRW.out⟩
        rw [HALL.out]
        go_wp2_with fail
        go_ret
        exact ⟨rfl, HB.out⟩

end Go.Proofs.YteeacbgaehdodaaGreat
