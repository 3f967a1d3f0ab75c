/- measure: the walk. -/
import Derived.Test.YteeacbgaehdodaaGreatServL
namespace Go.Proofs.YteeacbgaehdodaaGreat
set_option linter.unusedVariables false
open Go Go.RowKit Go.Shelf Go.Lib Go.Sort Go.Maps Go.Proofs.YteeacbgaehdodaaGreatW.PrintWords Go.Proofs.YteeacbgaehdodaaGreatW.PrintLast Go.Proofs.YteeacbgaehdodaaGreatW.PrintMore Go.Proofs.YteeacbgaehdodaaGreat.Fn

theorem OwnR.nil (w : World) (base : Nat) : OwnR w base (.slice none 0 0) [] := ⟨flatR_length [], .inl ⟨rfl, rfl⟩⟩

theorem OwnR.slice {w : World} {base : Nat} {v : Value} {l : List RR} (h : OwnR w base v l) : ∃ A c, v = .slice A l.length c := by
  rcases h.2 with ⟨rfl, e⟩ | ⟨g, cap, cur, rfl, _⟩
  · exact ⟨none, 0, by rw [e]⟩
  · exact ⟨_, _, rfl⟩
theorem OwnR.lt {w : World} {base : Nat} {v : Value} {l : List RR} (h : OwnR w base v l) : ∀ k, v.ownBlock = some k → base ≤ k ∧ k < w.heap.size := World.ownsRow.lt h
theorem OwnR.ne_map {P : Program} {k : TypeId} {R : Value → Option (DataW Unit × List MemPlace)} {w : World} {base b n : Nat} {v : Value} {l : List RR} {D : DataW Unit} (h : OwnR w base v l) (hm : w.ownsMap P k R b n D) : v.ownBlock ≠ some b := fun e => by
  obtain ⟨cells, h1⟩ := own_typed h b e
  obtain ⟨es, clock, h2, _⟩ := hm
  rw [h1] at h2
  cases h2
theorem OwnR.kept {w w' : World} {base : Nat} {v : Value} {l : List RR} {row : Option Nat} (h : OwnR w base v l) (hg : w.grownBy w' row) (hne : v.ownBlock = none ∨ v.ownBlock ≠ row) : OwnR w' base v l := World.ownsRow.kept h hg hne
theorem BoxX.kept {w w' : World} {g : Nat} {x : SX} {row : Option Nat} (h : BoxX w g x) (hg : w.grownBy w' row) (hne : some g ≠ row) : BoxX w' g x := ⟨Nat.lt_of_lt_of_le h.1 hg.size, fun k v hk => hg.cell (h.2 k v hk) hne⟩
theorem wfI (n : Nat) (h : n ≤ 100000) : (Lit.int .i64 (n : Int)).wf = true := by
  have h1 : IntKind.min .i64 ≤ (n : Int) := by show (-9223372036854775808 : Int) ≤ _; omega
  have h2 : (n : Int) ≤ IntKind.max .i64 := by show _ ≤ (9223372036854775807 : Int); omega
  show (decide (IntKind.min .i64 ≤ (n : Int)) && decide ((n : Int) ≤ IntKind.max .i64)) = true
  rw [decide_eq_true h1, decide_eq_true h2]; rfl
theorem zeroI (w : World) : (zeroValue 3).run Tryz.prog w = .ok (.int .i64 0) w := by kernel_rfl
theorem grown_below {w w' : World} (hb : Below w.heap.size w w') : w.grownBy w' none := ⟨hb.os, hb.tape, hb.output, hb.size, fun k hk _ => hb.block k hk⟩
theorem OwnR.below {w w' : World} {base : Nat} {v : Value} {l : List RR} (h : OwnR w base v l) (hb : Below w.heap.size w w') : OwnR w' base v l := World.ownsRow.kept h (grown_below hb) (by cases v.ownBlock <;> simp)
theorem ownsMap_below {P : Program} {k : TypeId} {R : Value → Option (DataW Unit × List MemPlace)} {w w' : World} {b n : Nat} {D : DataW Unit} (h : w.ownsMap P k R b n D) (hb : Below w.heap.size w w') : w'.ownsMap P k R b n D := h.kept (grown_below hb) (by simp)

theorem OwnR.some {w : World} {base : Nat} {v : Value} {l : List RR} (h : OwnR w base v l) (hl : 0 < l.length) : ∃ g cap, v = .slice (some ⟨g, 0, none⟩) l.length cap := by
  rcases h.2 with ⟨rfl, e⟩ | ⟨g, cap, cur, rfl, _⟩
  · omega
  · exact ⟨g, cap, rfl⟩
theorem ownsMap_mono {H : Type} {P : Program} {k : TypeId} {R : Value → Option (DataW H × List MemPlace)} {w : World} {b n n' : Nat} {D : DataW H} (h : w.ownsMap P k R b n D) (hn : n ≤ n') : w.ownsMap P k R b n' D := by
  obtain ⟨es, clock, h1, h2, h3, h4⟩ := h
  exact ⟨es, clock, h1, h2, Nat.le_trans h3 hn, h4⟩
theorem any_none {rows : List RR} {k : KK} (h : false = rows.any fun r => decide (rowKey r = k)) : ¬ ∃ r, r ∈ rows ∧ rowKey r = k := by
  rintro ⟨r, hr, e⟩
  have := List.any_eq_false.1 h.symm r hr
  simp [e] at this
theorem any_some {rows : List RR} {k : KK} (h : true = rows.any fun r => decide (rowKey r = k)) : ∃ i, i < rows.length ∧ rowKey (rows.getD i zR) = k := by
  obtain ⟨r, hr, e⟩ := List.any_eq_true.1 h.symm
  obtain ⟨i, hi, rfl⟩ := List.mem_iff_getElem.1 hr
  exact ⟨i, hi, by rw [List.getD_eq_getElem?_getD, List.getElem?_eq_getElem hi]; simpa using e⟩
theorem getD_last (rows : List RR) (r : RR) : (rows ++ [r]).getD rows.length zR = r := by
  rw [List.getD_eq_getElem?_getD, List.getElem?_append_right (Nat.le_refl _), Nat.sub_self]; rfl
theorem raw_bounds {std : List SS} {now : Int} {key : SX → KK} {s : List SX} {k : KK} {r : RR} (h : r = rawRow std now key s k) (hs : s.length ≤ 100000) : (0 ≤ r.f3 ∧ r.f3 ≤ 100000) ∧ (0 ≤ r.f4 ∧ r.f4 ≤ 100000) ∧ (0 ≤ r.f5 ∧ r.f5 ≤ 100000) ∧ (0 ≤ r.f6 ∧ r.f6 ≤ 100000) := by
  have h0 := fun p => cntR_nonneg std now key s k p
  have h1 := fun p => cntR_le std now key s k p
  rw [h]
  unfold rawRow
  dsimp only
  refine ⟨⟨h0 _, ?_⟩, ⟨h0 _, ?_⟩, ⟨h0 _, ?_⟩, ⟨h0 _, ?_⟩⟩ <;> exact Int.le_trans (h1 _) (by omega)

theorem infoR : (Tryz.prog.info? 46).map (fun i => (i.zero, i.size, i.bytes)) = some (some (.agg #[.int .u8 0, .int .i64 0, .int .i64 0, .int .i64 0, .int .i64 0, .int .i64 0, .int .i64 0, .int .i64 0, .int .i64 0]), 9, 72) := by kernel_rfl

/-! ### what measure returns -/
def bndR (risk : Int) (r : RR) : RR := { r with f7 := (leastN r.f3.toNat r.f4.toNat risk.toNat : Int), f8 := 10000 - (leastN r.f3.toNat (r.f3.toNat - r.f4.toNat) risk.toNat : Int) }
def okM (std : List SS) (s : List SX) (now risk : Int) : Prop := timedB now = true ∧ 1 ≤ risk ∧ risk ≤ 2000 ∧ rightL std = true ∧ sentR s = true
/-- the rows that measure returns, and its error -/
def MeasR (std : List SS) (s : List SX) (now risk : Int) (key : SX → KK) (rows : List RR) (er : Int) : Prop :=
  (¬ okM std s now risk ∧ rows = [] ∧ er = 2) ∨ (okM std s now risk ∧ ∃ l, Rows std now key s l ∧ SortedR l ∧ ((er = 0 ∧ rows = l.map (bndR risk) ∧ ∀ r, r ∈ l → r.f3 ≤ 500) ∨ (er = 3 ∧ rows = [] ∧ ∃ r, r ∈ l ∧ 500 < r.f3)))

def mixR (risk : Int) (m : List RR) (i : Nat) : List RR := (m.take i).map (bndR risk) ++ m.drop i
theorem mixR_length (risk : Int) (m : List RR) (i : Nat) : (mixR risk m i).length = m.length := by
  unfold mixR
  rw [List.length_append, List.length_map, List.length_take, List.length_drop]; omega
theorem mixR_get {risk : Int} {m : List RR} {i : Nat} (hi : i < m.length) : (mixR risk m i).getD i zR = m.getD i zR := by
  unfold mixR
  rw [List.getD_eq_getElem?_getD, List.getElem?_append_right (by simp; omega), List.length_map, List.length_take, List.getElem?_drop, show i + (i - min i m.length) = i by omega, ← List.getD_eq_getElem?_getD]
theorem mixR_set {risk : Int} {m : List RR} {i : Nat} (hi : i < m.length) : (mixR risk m i).set i (bndR risk (m.getD i zR)) = mixR risk m (i + 1) := by
  unfold mixR
  have hl : ((m.take i).map (bndR risk)).length = i := by rw [List.length_map, List.length_take]; omega
  rw [List.set_append_right _ _ (by omega), hl, Nat.sub_self, List.drop_eq_getElem_cons hi, List.set_cons_zero, List.take_succ_eq_append_getElem hi, List.map_append, List.append_assoc]
  congr 1
  rw [List.getD_eq_getElem?_getD, List.getElem?_eq_getElem hi]; rfl
theorem mixR_zero (risk : Int) (m : List RR) : mixR risk m 0 = m := rfl
theorem mixR_all (risk : Int) (m : List RR) : mixR risk m m.length = m.map (bndR risk) := by
  unfold mixR
  rw [List.take_length, List.drop_length, List.append_nil]
theorem cntR_imp {std : List SS} {now : Int} {key : SX → KK} (s : List SX) (k : KK) {p q : Int → Bool} (h : ∀ o, p o = true → q o = true) : cntR std now key s k p ≤ cntR std now key s k q := by
  unfold cntR
  have : (s.filter fun x => decide (key x = k) && p (outcomeR std x now)).length ≤ (s.filter fun x => decide (key x = k) && q (outcomeR std x now)).length := by
    induction s with
    | nil => exact Nat.le_refl _
    | cons x s ih =>
      by_cases hp : (decide (key x = k) && p (outcomeR std x now)) = true
      · have hq : (decide (key x = k) && q (outcomeR std x now)) = true := by
          rw [Bool.and_eq_true] at hp ⊢
          exact ⟨hp.1, h _ hp.2⟩
        rw [List.filter_cons_of_pos (p := fun x => decide (key x = k) && p (outcomeR std x now)) hp, List.filter_cons_of_pos (p := fun x => decide (key x = k) && q (outcomeR std x now)) hq]
        simp only [List.length_cons]; omega
      · rw [List.filter_cons_of_neg (p := fun x => decide (key x = k) && p (outcomeR std x now)) hp]
        by_cases hq : (decide (key x = k) && q (outcomeR std x now)) = true
        · rw [List.filter_cons_of_pos (p := fun x => decide (key x = k) && q (outcomeR std x now)) hq]
          simp only [List.length_cons]; omega
        · rw [List.filter_cons_of_neg (p := fun x => decide (key x = k) && q (outcomeR std x now)) hq]; exact ih
  omega
theorem raw_kept {std : List SS} {now : Int} {key : SX → KK} {s : List SX} {k : KK} {r : RR} (h : r = rawRow std now key s k) : 0 ≤ r.f4 ∧ r.f4 ≤ r.f3 := by
  rw [h]
  unfold rawRow
  dsimp only
  exact ⟨cntR_nonneg std now key s k _, cntR_imp s k (fun o ho => by
    have ho : o = 2 := of_decide_eq_true ho
    subst ho
    rfl)⟩
theorem bad_of {std : List SS} {s : List SX} {now risk : Int} {key : SX → KK} (h : ¬ okM std s now risk) : MeasR std s now risk key [] 2 := .inl ⟨h, rfl, rfl⟩

theorem set_far {w : World} {g a b : Nat} {u v : Value} (h : w.cell? ⟨g, b, none⟩ = some v) (hab : a ≠ b) : (w.setCell ⟨g, a, none⟩ u).cell? ⟨g, b, none⟩ = some v := by
  rw [World.cell?_setCell_other _ _ _ _ (fun e => by injection e with _ e; exact hab e)]; exact h

set_option maxHeartbeats 8000000 in
set_option maxRecDepth 100000 in
theorem measure_calls (fid : Nat) (key : SX → KK) (heg : ∀ args w, (callFunc fid args).run Tryz.prog w = .ok (.enter fid args) w) (hkc : ∀ x W, Calls Tryz.prog fid #[aggX x] W fun e w' => e = .returned (aggK (key x)) ∧ Below W.heap.size W w')
    {v vs : Value} (std : List SS) (s : List SX) (hwf : ∀ x, x ∈ s → rightX x = true → wfK (key x)) (now risk : Int) (w : World) (hv : IsS w v std) (hs : IsX w vs s) (hp : PlainS vs) (hl : s.length ≤ 100000) :
    Calls Tryz.prog 40 #[v, vs, .int .i64 now, .int .i64 risk, .func (.func fid) #[] #[]] w fun e w' => ∃ rv rows er, e = .returned (.tuple #[rv, .int .i64 er]) ∧ MeasR std s now risk key rows er ∧ OwnR w' w.heap.size rv rows ∧ Below w.heap.size w w' := by
  have HT := Aside0.mk (fun W => timed_calls now W)
  have HR := Aside0.mk (fun W (h : Below w.heap.size w W) => RightS_calls std W (hv.below h))
  have HS := Aside0.mk (fun W (h : Below w.heap.size w W) => RightSent_all s W (hs.below h) hp hl)
  have HK := Aside0.mk hkc
  have HV := Aside0.mk hv
  have HX := Aside0.mk hs
  have HP := Aside0.mk hp
  clear hkc hp
  obtain ⟨A1, c1, rfl, h1c, h1r⟩ := hv
  obtain ⟨A2, c2, rfl, h2c, h2r⟩ := hs
  clear h1r h2r
  obtain ⟨tm0, htm0⟩ : ∃ tm0, timedB now = tm0 := ⟨_, rfl⟩
  rw [htm0] at HT
  generalize hrl : rightL std = rl at *
  generalize hsr : sentR s = sr at *
  have HRL := Aside0.mk hrl
  have HSR := Aside0.mk hsr
  clear hrl hsr
  have HBAD : Aside0 (¬ okM std s now risk → MeasR std s now risk key [] 2) := ⟨bad_of⟩
  have HTM0 : Aside0 (timedB now = tm0) := ⟨htm0⟩
  clear htm0
  have hmm := @run_makeMap Tryz.prog
  go_enter Tryz.func40, Tryz.ntmps40
  go_wp2_with fail
  refine (HT.out _).mono ?_
  rintro e w1 ⟨rfl, d_⟩
  have HB := Aside0.mk (drawn_below d_)
  clear d_
  cases tm0
  · go_wp2_with fail
    go_ret2
    exact ⟨_, [], 2, rfl, HBAD.out (fun h => by have := HTM0.out.symm.trans h.1; cases this), OwnR.nil _ _, HB.out⟩
  · by_cases hq0 : risk < 1
    · go_wp2_with fail
      go_ret2
      exact ⟨_, [], 2, rfl, HBAD.out (fun h => by have := h.2.1; omega), OwnR.nil _ _, HB.out⟩
    · have hq0' : decide (risk < 1) = false := decide_eq_false hq0
      by_cases hq1 : risk > 2000
      · go_wp2_with fail
        go_ret2
        exact ⟨_, [], 2, rfl, HBAD.out (fun h => by have := h.2.2.1; omega), OwnR.nil _ _, HB.out⟩
      · have hq1' : decide (2000 < risk) = false := decide_eq_false (by omega)
        go_wp2_with fail
        refine (HR.out _ HB.out).mono ?_
        rintro e w2 ⟨rfl, b_⟩
        have HB2 := Aside0.mk (below_step HB.out b_)
        clear b_
        cases rl
        · go_wp2_with fail
          go_ret2
          exact ⟨_, [], 2, rfl, HBAD.out (fun h => by have := HRL.out.symm.trans h.2.2.2.1; cases this), OwnR.nil _ _, HB2.out⟩
        · go_wp2_with fail
          refine (HS.out _ HB2.out).mono ?_
          rintro e w3 ⟨rfl, b_⟩
          have HB3 := Aside0.mk (below_step HB2.out b_)
          clear b_
          cases sr
          · go_wp2_with fail
            go_ret2
            exact ⟨_, [], 2, rfl, HBAD.out (fun h => by have := HSR.out.symm.trans h.2.2.2.2; cases this), OwnR.nil _ _, HB3.out⟩
          · go_wp2_with fail
            have hM3 : w.heap.size ≤ w3.heap.size := HB3.out.size
            have HBm : Aside0 (Below w.heap.size w (w3.alloc (.map #[] 0))) := ⟨below_alloc HB3.out _⟩
            have HMm : Aside0 ((w3.alloc (.map #[] 0)).ownsMap (H := Unit) Tryz.prog 78 (plainElem Tryz.prog 3) w3.heap.size 0 (.map [])) := ⟨World.ownsMap_made _ _ _ _⟩
            generalize w3.alloc (.map #[] 0) = wm at *
            generalize w3.heap.size = M at *
            go_loopw [47, 12] (fun v47 v12 W => ∃ (j : Nat) (rows : List RR) (D : DataW Unit), j ≤ s.length ∧ rows.length ≤ j ∧ v47 = .int .i64 j ∧ Aside0 (OwnR W w.heap.size v12 rows) ∧ Aside0 (Rows std now key (s.take j) rows) ∧ Aside0 (W.ownsMap Tryz.prog 78 (plainElem Tryz.prog 3) M j D) ∧ Aside0 (MapR D rows) ∧ Aside0 (Below w.heap.size w W)) (fun v47 _ _ => s.length - (intOf v47).toNat)
            case atStart => exact ⟨0, [], .map [], by omega, by simp, rfl, ⟨OwnR.nil _ _⟩, ⟨Rows.nil⟩, HMm, ⟨MapR.nil⟩, HBm⟩
            case round =>
              obtain ⟨j, rows, D, hj, hrj, rfl, HO, HRW, HM, HMR, HB⟩ := hrel
              obtain ⟨A', c', rfl⟩ := OwnR.slice HO.out
              by_cases hj3 : j < s.length
              · have HXr := HX.out.below HB.out
                obtain ⟨b, off, rfl, hbl⟩ := X_plain HXr.reads (by omega)
                have hx4 := X_cells HXr.reads hj3
                obtain ⟨x, hx⟩ : ∃ x, x = s.getD j zX := ⟨_, rfl⟩
                rw [← hx] at hx4
                have x0 : wr.cell? ⟨b, off + j * 6, none⟩ = some (.int .i64 x.f0) := hx4 0 _ rfl
                have x1 : wr.cell? ⟨b, off + j * 6 + 1, none⟩ = some (.int .u8 x.f1) := hx4 1 _ rfl
                have x2 : wr.cell? ⟨b, off + j * 6 + 2, none⟩ = some (.int .i64 x.f2) := hx4 2 _ rfl
                have x3 : wr.cell? ⟨b, off + j * 6 + 3, none⟩ = some (.int .i64 x.f3) := hx4 3 _ rfl
                have x4 : wr.cell? ⟨b, off + j * 6 + 4, none⟩ = some (.int .i64 x.f4) := hx4 4 _ rfl
                have x5 : wr.cell? ⟨b, off + j * 6 + 5, none⟩ = some (.int .i64 x.f5) := hx4 5 _ rfl
                have HXE := Aside0.mk hx
                have HKX := Aside0.mk (fun W => HK.out x W)
                clear hx4 hx HXr
                have hxm : x ∈ s := by rw [HXE.out, List.getD_eq_getElem?_getD, List.getElem?_eq_getElem hj3]; exact List.getElem_mem hj3
                obtain ⟨k, hk⟩ : ∃ k, k = key x := ⟨_, rfl⟩
                have HWF := Aside0.mk (hwf x hxm ((sentR_parts HSR.out).2.1 x hxm))
                rw [← hk] at HKX HWF
                have HKE := Aside0.mk hk
                have HKY := Aside0.mk (keyOf_K HWF.out)
                clear hk hxm
                obtain ⟨ka, kb, kc⟩ := k
                unfold aggK at HKX HKY
                dsimp only at HKX HKY
                obtain ⟨xa, xb, xc, xd, xp, xq⟩ := x
                unfold aggX at HKX
                obtain ⟨wa, hwa⟩ : ∃ wa, wa = wr.alloc (.cells #[.int .i64 xa, .int .u8 xb, .int .i64 xc, .int .i64 xd, .int .i64 xp, .int .i64 xq] 35) := ⟨_, rfl⟩
                have hg0 : wr.grownBy wa none := by rw [hwa]; exact World.grownBy_alloc _ _ _
                have HXa : Aside0 (BoxX wa wr.heap.size ⟨xa, xb, xc, xd, xp, xq⟩) := ⟨by rw [hwa]; exact BoxX.mk wr xa xb xc xd xp xq _⟩
                have HWA := Aside0.mk hwa
                clear hwa
                go_wp2_with fail
                rw [← HWA.out]
                refine (HKX.out _).mono ?_
                rintro e w4 ⟨rfl, b4⟩
                obtain ⟨w5, hw5⟩ : ∃ w5, w5 = w4.alloc (.cells #[.int .u8 ka, .int .i64 kb, .int .i64 kc] 78) := ⟨_, rfl⟩
                have b5 : Below w4.heap.size w4 w5 := by rw [hw5]; exact below_alloc (Below.refl _ _) _
                have b15 : Below wr.heap.size wr w5 := below_step (below_step (by rw [HWA.out]; exact below_alloc (Below.refl _ _) _) b4) b5
                have HX5 := Aside0.mk ((HXa.out.below b4).below b5)
                have HO5 := Aside0.mk (OwnR.below HO.out b15)
                have HM5 := Aside0.mk (ownsMap_below HM.out b15)
                have HB5 := Aside0.mk (below_step HB.out b15)
                have k0 : w5.cell? ⟨w4.heap.size, 0, none⟩ = some (.int .u8 ka) := by rw [hw5]; exact box_cell _ _ _ 0 _ rfl
                have k1 : w5.cell? ⟨w4.heap.size, 1, none⟩ = some (.int .i64 kb) := by rw [hw5]; exact box_cell _ _ _ 1 _ rfl
                have k2 : w5.cell? ⟨w4.heap.size, 2, none⟩ = some (.int .i64 kc) := by rw [hw5]; exact box_cell _ _ _ 2 _ rfl
                have HNK : Aside0 (some w4.heap.size ≠ some M) := ⟨fun e => by injection e with e; have h1 := HM.out.lt; have h2 := b4.size; have h3 := hg0.size; omega⟩
                have HW5 := Aside0.mk hw5
                clear b4 b5 b15 hw5 x0 x1 x2 x3 x4 x5 hg0
                go_upto_if 61 with (at_lookup; rw [← HW5.out]; refine wpList_lookup_own_ok_int _ rfl _ _ 118 rfl 78 3 .i64 lawK Tryz.underlying118 Tryz.underlying3 (zeroI _) M j D rfl HM5.out _ _ rfl HKY.out ?_; intro cc hcc hcw; have HCC := Aside0.mk hcc; clear hcc hcw)
                have HHS := Aside0.mk ((HMR.out.2 _ HWF.out).1)
                have HAT := Aside0.mk ((HMR.out.2 _ HWF.out).2)
                have HNM := Aside0.mk (OwnR.ne_map HO.out HM.out)
                have hML : M < wr.heap.size := HM.out.lt
                have HOL := Aside0.mk (OwnR.lt HO.out)
                have HLEN : Aside0 (rows.length ≤ 100000) := ⟨by omega⟩
                have HS5 : Aside0 (wr.heap.size < w5.heap.size) := ⟨HX5.out.1⟩
                unfold strK at HHS HAT
                generalize Maps.has D (Lit.string (keyBytes (litK (ka, kb, kc)))) = hb at *
                go_cut [12, 17] (fun v12 v17 wx => ∃ (i : Nat) (rows' : List RR) (D' : DataW Unit) (g cap : Nat), v17 = .int .i64 i ∧ i < rows'.length ∧ rows'.length ≤ j + 1 ∧ v12 = .slice (some ⟨g, 0, none⟩) rows'.length cap ∧ Aside0 (OwnR wx w.heap.size (.slice (some ⟨g, 0, none⟩) rows'.length cap) rows') ∧ Aside0 (RowsPre std now key (s.take j) (ka, kb, kc) rows') ∧ Aside0 (rowKey (rows'.getD i zR) = (ka, kb, kc)) ∧ Aside0 (wx.ownsMap Tryz.prog 78 (plainElem Tryz.prog 3) M (j + 1) D') ∧ Aside0 (MapR D' rows') ∧ Aside0 (Below w.heap.size w wx) ∧ Aside0 (BoxX wx wr.heap.size ⟨xa, xb, xc, xd, xp, xq⟩) ∧ Aside0 (g ≠ wr.heap.size))
                case first =>
                  cases hb
                  · go_wp2_with (first
                      | (at_mapUpdate; refine wpList_mapUpdate_own _ rfl _ _ _ 118 rfl 78 3 lawK Tryz.underlying118 _ M j D rfl HM5.out (by unfold maxLen; omega) _ _ _ rfl rfl HKY.out _ [] (plainElem_int Tryz.underlying3 (wfI _ HLEN.out)) ?_; intro w6 hm6 hg6; have HM6 := Aside0.mk hm6; have HG6 := Aside0.mk hg6; have HO6 := Aside0.mk (HO5.out.kept hg6 (.inr HNM.out)); have HB6 := Aside0.mk (HB5.out.grown hg6 HB5.out.size (fun _ e => by cases e; exact hM3)); have HX6 := Aside0.mk (HX5.out.kept hg6 (fun e => by injection e with e; omega)); have q0 : w6.cell? ⟨w4.heap.size, 0, none⟩ = some (.int .u8 ka) := hg6.cell k0 (HNK.out); have q1 : w6.cell? ⟨w4.heap.size, 1, none⟩ = some (.int .i64 kb) := hg6.cell k1 (HNK.out); have q2 : w6.cell? ⟨w4.heap.size, 2, none⟩ = some (.int .i64 kc) := hg6.cell k2 (HNK.out); clear hm6 hg6)
                      | ((with_reducible refine gate_builtin (b := .append) (xs := #[.tmp 67, .tmp 75]) rfl ?_); at_builtin; refine print_append_cells (w0 := w) w.heap.size rfl (.tmp 67) (.tmp 75) 39 46 (.agg #[.int .u8 0, .int .i64 0, .int .i64 0, .int .i64 0, .int .i64 0, .int .i64 0, .int .i64 0, .int .i64 0, .int .i64 0]) 9 72 rfl Tryz.underlying39 infoR rfl (by decide) (by decide) _ rows.length (flatR rows) (encR ⟨ka, kb, kc, 0, 0, 0, 0, 0, 0⟩) rfl rfl rfl (encR_one _) HO6.out HB6.out HB6.out.size (by have := HLEN.out; omega) ?_; intro v7 w7 ho7 hb7 hg7 hat7; have HO7 : Aside0 (OwnR w7 w.heap.size v7 (rows ++ [⟨ka, kb, kc, 0, 0, 0, 0, 0, 0⟩])) := ⟨by unfold OwnR; rw [← flatR_append, List.length_append, List.length_singleton]; exact ho7⟩; have HB7 := Aside0.mk hb7; have HG7 := Aside0.mk hg7; have HAT7 := Aside0.mk hat7; clear ho7 hb7 hg7 hat7))
                    obtain ⟨g, cap, hv7⟩ := OwnR.some HO7.out (by simp)
                    have HN0 : Aside0 (¬ ∃ r, r ∈ rows ∧ rowKey r = (ka, kb, kc)) := ⟨any_none HHS.out⟩
                    have HP7 : Aside0 (RowsPre std now key (s.take j) (ka, kb, kc) (rows ++ [⟨ka, kb, kc, 0, 0, 0, 0, 0, 0⟩])) := ⟨HRW.out.add HN0.out⟩
                    have HM7 : Aside0 (w7.ownsMap Tryz.prog 78 (plainElem Tryz.prog 3) M (j + 1) (D.put (strK (ka, kb, kc)) (.lit (.int .i64 (rows.length : Int))))) := ⟨HM6.out.kept HG7.out (Ne.symm HNM.out)⟩
                    have HMR7 : Aside0 (MapR (D.put (strK (ka, kb, kc)) (.lit (.int .i64 (rows.length : Int)))) (rows ++ [⟨ka, kb, kc, 0, 0, 0, 0, 0, 0⟩])) := ⟨HMR.out.put HWF.out HHS.out.symm _ rfl⟩
                    have HX7 := Aside0.mk (HX6.out.kept HG7.out (fun e => Nat.lt_irrefl _ (HOL.out _ e.symm).2))
                    have HGN : Aside0 (g ≠ wr.heap.size) := ⟨fun e => by
                      rcases HAT7.out with h | ⟨q, h, hq⟩
                      · rw [hv7] at h
                        exact Nat.lt_irrefl _ (e ▸ (HOL.out g h.symm).2)
                      · rw [hv7] at h
                        have h : some g = some q := h
                        injection h with h
                        have h1 := HG6.out.size
                        have h2 := HS5.out
                        omega⟩
                    subst hv7
                    go_meet
                    case rel => exact ⟨rows.length, _, _, g, cap, rfl, by simp, by rw [List.length_append, List.length_singleton]; omega, by rw [List.length_append, List.length_singleton], by rw [List.length_append, List.length_singleton] at HO7 ⊢; exact HO7, HP7, ⟨by rw [getD_last]; rfl⟩, HM7, HMR7, HB7, HX7, HGN⟩
                  · obtain ⟨i, hi, hik⟩ := any_some HHS.out
                    have hcc : cc = (i : Int) := by
                      have h1 := HAT.out i hi hik (.lit (.int .i64 0))
                      rw [HCC.out] at h1
                      injection h1 with h1
                      injection h1
                    subst hcc
                    have HIK := Aside0.mk hik
                    have HPS : Aside0 (RowsPre std now key (s.take j) (ka, kb, kc) rows) := ⟨HRW.out.same ⟨rows.getD i zR, by rw [List.getD_eq_getElem?_getD, List.getElem?_eq_getElem hi]; exact List.getElem_mem hi, hik⟩⟩
                    have HM6 := Aside0.mk (ownsMap_mono HM5.out (Nat.le_succ j))
                    clear hik
                    obtain ⟨g, cap, hv5⟩ := OwnR.some HO5.out (by omega)
                    injection hv5 with e1 e2 e3
                    subst e1 e3
                    have HGN : Aside0 (g ≠ wr.heap.size) := ⟨fun e => Nat.lt_irrefl _ (e ▸ (HOL.out g rfl).2)⟩
                    go_wp2_with fail
                    go_meet
                    case rel => exact ⟨i, rows, D, g, _, rfl, hi, by omega, rfl, HO5, HPS, HIK, HM6, HMR, HB5, HX5, HGN⟩
                case rest =>
                  clear HO HRW HM HMR HB HO5 HM5 HB5 HX5 HHS HAT HNM HOL k0 k1 k2
                  obtain ⟨i, rows', D', g, cap, rfl, hi', hj', rfl, HO, HRW, HIK, HM, HMR, HB, HX, HGN⟩ := hcut
                  have hxr := rightX_parts ((sentR_parts HSR.out).2.1 (s.getD j zX) (by rw [List.getD_eq_getElem?_getD, List.getElem?_eq_getElem hj3]; exact List.getElem_mem hj3))
                  rw [← HXE.out] at hxr
                  have hxp : 0 ≤ xp ∧ xp ≤ 1051898399 := hxr.2.2.2.2.1
                  have HOC := Aside0.mk (fun W (h : Below w.heap.size w W) => outcome_calls std ⟨xa, xb, xc, xd, xp, xq⟩ now W (HV.out.below h) (by show -9223372036854775808 ≤ xp; omega) (by show xp ≤ 9223372036854775807; omega))
                  unfold aggX at HOC
                  dsimp only at HOC
                  obtain ⟨oc, hoc⟩ : ∃ oc, oc = outcomeR std ⟨xa, xb, xc, xd, xp, xq⟩ now := ⟨_, rfl⟩
                  rw [← hoc] at HOC
                  have HOE := Aside0.mk hoc
                  have HRB := Aside0.mk (raw_bounds (HRW.out.row _ (show rows'.getD i zR ∈ rows' by rw [List.getD_eq_getElem?_getD, List.getElem?_eq_getElem hi']; exact List.getElem_mem hi')) (by rw [List.length_take]; omega))
                  have HTK : Aside0 (s.take (j + 1) = s.take j ++ [⟨xa, xb, xc, xd, xp, xq⟩]) := ⟨by rw [HXE.out, List.take_succ_eq_append_getElem hj3, List.getD_eq_getElem?_getD, List.getElem?_eq_getElem hj3]; rfl⟩
                  have k0 : wc.cell? ⟨wr.heap.size, 0, none⟩ = some (.int .i64 xa) := HX.out.2 0 _ rfl
                  have k1 : wc.cell? ⟨wr.heap.size, 1, none⟩ = some (.int .u8 xb) := HX.out.2 1 _ rfl
                  have k2 : wc.cell? ⟨wr.heap.size, 2, none⟩ = some (.int .i64 xc) := HX.out.2 2 _ rfl
                  have k3 : wc.cell? ⟨wr.heap.size, 3, none⟩ = some (.int .i64 xd) := HX.out.2 3 _ rfl
                  have k4 : wc.cell? ⟨wr.heap.size, 4, none⟩ = some (.int .i64 xp) := HX.out.2 4 _ rfl
                  have k5 : wc.cell? ⟨wr.heap.size, 5, none⟩ = some (.int .i64 xq) := HX.out.2 5 _ rfl
                  have aE := Tryz.isAgg35
                  have zE := Tryz.sizeOf35
                  clear hxr hoc
                  go_wp2_with fail
                  go_region_held3 (fun W' => W'.cell? ⟨wr.heap.size, 0, none⟩ = some (.int .i64 xa) ∧ W'.cell? ⟨wr.heap.size, 1, none⟩ = some (.int .u8 xb) ∧ W'.cell? ⟨wr.heap.size, 2, none⟩ = some (.int .i64 xc) ∧ W'.cell? ⟨wr.heap.size, 3, none⟩ = some (.int .i64 xd) ∧ W'.cell? ⟨wr.heap.size, 4, none⟩ = some (.int .i64 xp) ∧ W'.cell? ⟨wr.heap.size, 5, none⟩ = some (.int .i64 xq)) (go_keep)
                    (first
                      | (go_at_call 39; refine (HOC.out _ (pw_below_drewN HB.out 1)).mono ?_; rintro e w8 ⟨rfl, b_⟩; have b8 : Below wc.heap.size wc w8 := below_step (pw_below_drewN (Below.refl wc.heap.size wc) 1) b_; have HO8 := Aside0.mk (OwnR.below HO.out b8); have HB8 := Aside0.mk (below_step HB.out b8); have HM8 := Aside0.mk (ownsMap_below HM.out b8); have HX8 := Aside0.mk (HX.out.below b8); have hbg : Aside0 (w.heap.size ≤ g ∧ g < w8.heap.size) := ⟨OwnR.lt HO8.out g rfl⟩; have m0 : w8.cell? ⟨wr.heap.size, 0, none⟩ = some (.int .i64 xa) := HX8.out.2 0 _ rfl; have m1 : w8.cell? ⟨wr.heap.size, 1, none⟩ = some (.int .u8 xb) := HX8.out.2 1 _ rfl; have m2 : w8.cell? ⟨wr.heap.size, 2, none⟩ = some (.int .i64 xc) := HX8.out.2 2 _ rfl; have m3 : w8.cell? ⟨wr.heap.size, 3, none⟩ = some (.int .i64 xd) := HX8.out.2 3 _ rfl; have m4 : w8.cell? ⟨wr.heap.size, 4, none⟩ = some (.int .i64 xp) := HX8.out.2 4 _ rfl; have m5 : w8.cell? ⟨wr.heap.size, 5, none⟩ = some (.int .i64 xq) := HX8.out.2 5 _ rfl; clear b_ b8)
                      | (go_at_call 79; refine (count_calls rows' i oc _ HO8.out hi' HRB.out.1 HRB.out.2.1 HRB.out.2.2.1 HRB.out.2.2.2).mono ?_; rintro e w9 ⟨rfl, ho9, hg9⟩; have HO9 : Aside0 (OwnR w9 w.heap.size (.slice (some ⟨g, 0, none⟩) rows'.length cap) (rows'.set i (countR (rows'.getD i zR) oc))) := ⟨ho9⟩; have HB9 := Aside0.mk (HB8.out.grown hg9 HB8.out.size (fun _ e => by cases e; exact hbg.out.1)); have HM9 := Aside0.mk (HM8.out.kept hg9 (Ne.symm (OwnR.ne_map HO8.out HM8.out))); have n0 : w9.cell? ⟨wr.heap.size, 0, none⟩ = some (.int .i64 xa) := hg9.cell m0 (fun e => by injection e with e; exact HGN.out e.symm); have n1 : w9.cell? ⟨wr.heap.size, 1, none⟩ = some (.int .u8 xb) := hg9.cell m1 (fun e => by injection e with e; exact HGN.out e.symm); have n2 : w9.cell? ⟨wr.heap.size, 2, none⟩ = some (.int .i64 xc) := hg9.cell m2 (fun e => by injection e with e; exact HGN.out e.symm); have n3 : w9.cell? ⟨wr.heap.size, 3, none⟩ = some (.int .i64 xd) := hg9.cell m3 (fun e => by injection e with e; exact HGN.out e.symm); have n4 : w9.cell? ⟨wr.heap.size, 4, none⟩ = some (.int .i64 xp) := hg9.cell m4 (fun e => by injection e with e; exact HGN.out e.symm); have n5 : w9.cell? ⟨wr.heap.size, 5, none⟩ = some (.int .i64 xq) := hg9.cell m5 (fun e => by injection e with e; exact HGN.out e.symm); clear ho9 hg9))
                  go_wp2_with fail
                  have HR9 : Aside0 (Rows std now key (s.take (j + 1)) (rows'.set i (countR (rows'.getD i zR) oc))) := ⟨by
                    rw [HTK.out, HOE.out]
                    have h1 := HRW.out
                    have h2 := HIK.out
                    rw [HKE.out] at h1 h2
                    exact h1.count hi' h2⟩
                  have HMR9 : Aside0 (MapR D' (rows'.set i (countR (rows'.getD i zR) oc))) := ⟨HMR.out.set hi' _ (rowKey_count _ _)⟩
                  go_roundw
                  case rel => exact ⟨j + 1, _, D', by omega, by rw [List.length_set]; exact hj', by go_num, HO9, HR9, HM9, HMR9, HB9⟩
                  case measure => simp [intOf]; omega
              · obtain rfl : j = s.length := by omega
                have HRF : Aside0 (Rows std now key s rows) := ⟨by have h := HRW.out; rw [List.take_length] at h; exact h⟩
                have HOK : Aside0 (okM std s now risk) := ⟨HTM0.out, by omega, by omega, HRL.out, HSR.out⟩
                clear HRW HM HMR HK
                by_cases h0 : rows.length = 0
                · obtain rfl : rows = [] := List.length_eq_zero_iff.1 h0
                  have HRES : Aside0 (MeasR std s now risk key [] 0) := ⟨.inr ⟨HOK.out, [], HRF.out, fun i j _ hj => by simp at hj, .inl ⟨rfl, rfl, fun r hr => by simp at hr⟩⟩⟩
                  go_wp2_with fail
                  refine (AnyF.slices_SortFunc_none shSortR A' c' _ _).mono ?_
                  rintro e w4 ⟨rfl, rfl⟩
                  go_wp2_with fail
                  have HB4 := Aside0.mk HB.out
                  have HO4 : Aside0 (OwnR w4 w.heap.size (.slice A' 0 c') []) := ⟨HO.out⟩
                  clear HB HO HRF
                  go_loopw [90] (fun v90 W => v90 = .int .i64 0 ∧ Aside0 (OwnR W w.heap.size (.slice A' 0 c') []) ∧ Aside0 (Below w.heap.size w W)) (fun _ _ => 0)
                  case atStart => exact ⟨rfl, HO4, HB4⟩
                  case round =>
                    clear HO4 HB4
                    obtain ⟨rfl, HO, HB⟩ := hrel
                    go_wp2_with fail
                    go_ret2
                    exact ⟨_, [], 0, rfl, HRES.out, HO.out, HB.out⟩
                · obtain ⟨g, cap, hv⟩ := OwnR.some HO.out (by omega)
                  injection hv with e1 e2 e3
                  subst e1 e3
                  have hg0 : Aside0 (w.heap.size ≤ g) := ⟨(OwnR.lt HO.out g rfl).1⟩
                  go_wp2_with fail
                  refine (SortR_calls rows _ HO.out (by omega)).mono ?_
                  rintro e w4 ⟨rfl, ⟨m, hp, hs, ho4⟩, hg4⟩
                  have HRM := Aside0.mk (HRF.out.perm hp)
                  have HSM := Aside0.mk hs
                  have HB4 := Aside0.mk (HB.out.grown hg4 HB.out.size (fun _ e => by cases e; exact hg0.out))
                  have HO4 := Aside0.mk ho4
                  have hml := hp.length_eq
                  rw [← hml]
                  have HLm : Aside0 (m.length ≤ 100000) := ⟨by omega⟩
                  clear hp hs hg4 ho4 HRF HO HB hml h0
                  go_wp2_with fail
                  obtain ⟨rk, rfl⟩ : ∃ rk : Nat, risk = (rk : Int) := ⟨risk.toNat, by omega⟩
                  clear HBAD
                  go_loopw [90] (fun v90 W => ∃ i : Nat, i ≤ m.length ∧ v90 = .int .i64 i ∧ Aside0 (OwnR W w.heap.size (.slice (some ⟨g, 0, none⟩) m.length c') (mixR rk m i)) ∧ Aside0 (∀ r, r ∈ m.take i → r.f3 ≤ 500) ∧ Aside0 (Below w.heap.size w W)) (fun v90 _ => m.length - (intOf v90).toNat)
                  case atStart => exact ⟨0, by omega, rfl, by rw [mixR_zero]; exact HO4, ⟨fun r hr => by simp at hr⟩, HB4⟩
                  case round =>
                    clear HB4 HO4
                    obtain ⟨i, hi, rfl, HO, HLE, HB⟩ := hrel
                    by_cases hi2 : i < m.length
                    · have HO' : Aside0 (OwnR wr w.heap.size (.slice (some ⟨g, 0, none⟩) (mixR rk m i).length c') (mixR rk m i)) := ⟨by rw [mixR_length]; exact HO.out⟩
                      have hil : i < (mixR rk m i).length := by rw [mixR_length]; exact hi2
                      have hrm : m.getD i zR ∈ m := by rw [List.getD_eq_getElem?_getD, List.getElem?_eq_getElem hi2]; exact List.getElem_mem hi2
                      have hkept := raw_kept (HRM.out.row _ hrm)
                      have k3 : wr.cell? ⟨g, i * 9 + 3, none⟩ = some (.int .i64 (m.getD i zR).f3) := by rw [← mixR_get (risk := rk) hi2]; exact HO'.out.cell hil (by omega)
                      have k4 : wr.cell? ⟨g, i * 9 + 4, none⟩ = some (.int .i64 (m.getD i zR).f4) := by rw [← mixR_get (risk := rk) hi2]; exact HO'.out.cell hil (by omega)
                      have HMG : Aside0 ((mixR rk m i).getD i zR = m.getD i zR) := ⟨mixR_get hi2⟩
                      have HMS : Aside0 ((mixR rk m i).set i (bndR rk (m.getD i zR)) = mixR rk m (i + 1)) := ⟨mixR_set hi2⟩
                      have HRM2 := Aside0.mk hrm
                      have HTK : Aside0 (m.take (i + 1) = m.take i ++ [m.getD i zR]) := ⟨by rw [List.take_succ_eq_append_getElem hi2, List.getD_eq_getElem?_getD, List.getElem?_eq_getElem hi2]; rfl⟩
                      clear hrm HO
                      obtain ⟨r, hr⟩ : ∃ r, r = m.getD i zR := ⟨_, rfl⟩
                      rw [← hr] at hkept k3 k4 HMG HMS HRM2 HTK
                      clear hr
                      obtain ⟨n, hn⟩ : ∃ n : Nat, r.f3 = n := ⟨r.f3.toNat, by omega⟩
                      obtain ⟨k, hk⟩ : ∃ k : Nat, r.f4 = k := ⟨r.f4.toNat, by omega⟩
                      rw [hn] at k3
                      rw [hk] at k4
                      have hkn : k ≤ n := by omega
                      have HN := Aside0.mk hn
                      have HK := Aside0.mk hk
                      clear hn hk hkept
                      by_cases hbig : 500 < n
                      · have hw : wrongE n k rk 1 2000 = 3 := by unfold wrongE; rw [if_neg (by omega), if_pos (by omega)]
                        have HL := Aside0.mk (fun W => Least_err n k rk W (by rw [hw]; decide))
                        rw [hw] at HL
                        clear hw
                        have HC5 := Aside0.mk (fun (W : World) (h : Below wr.heap.size wr W) => (show W.cell? ⟨g, i * 9 + 3, none⟩ = some (.int .i64 (n : Int)) ∧ W.cell? ⟨g, i * 9 + 4, none⟩ = some (.int .i64 (k : Int)) from by rw [← HN.out, ← HK.out, ← HMG.out]; exact ⟨(OwnR.below HO'.out h).cell hil (by omega), (OwnR.below HO'.out h).cell hil (by omega)⟩))
                        go_wp2_with fail
                        go_region_held3 (fun W' => W'.cell? ⟨g, i * 9 + 3, none⟩ = some (.int .i64 (n : Int)) ∧ W'.cell? ⟨g, i * 9 + 4, none⟩ = some (.int .i64 (k : Int))) (go_keep)
                          (first
                            | (go_at_call 21; refine (HL.out _).mono ?_; rintro e w5 ⟨rfl, b_⟩; have b5 : Below wr.heap.size wr w5 := below_step (pw_below_drewN (Below.refl wr.heap.size wr) 1) b_; have HB5 := Aside0.mk (below_step HB.out b5); have m3 := (HC5.out w5 b5).1; have m4 := (HC5.out w5 b5).2; clear b_ b5))
                        go_wp2_with fail
                        go_ret2
                        exact ⟨_, [], 3, rfl, .inr ⟨HOK.out, m, HRM.out, HSM.out, .inr ⟨rfl, rfl, r, HRM2.out, by have := HN.out; omega⟩⟩, OwnR.nil _ _, HB5.out⟩
                      · have HL := Aside0.mk (fun W => Least_ok n k rk W (by omega) hkn (by omega) (by omega))
                        obtain ⟨lo, hlo⟩ : ∃ lo, lo = leastN n k rk := ⟨_, rfl⟩
                        rw [← hlo] at HL
                        have HLO := Aside0.mk hlo
                        clear hlo
                        have HC5 := Aside0.mk (fun (W : World) (h : Below wr.heap.size wr W) => (show W.cell? ⟨g, i * 9 + 3, none⟩ = some (.int .i64 (n : Int)) ∧ W.cell? ⟨g, i * 9 + 4, none⟩ = some (.int .i64 (k : Int)) ∧ W.frozen? ⟨g, i * 9 + 7, none⟩ = false ∧ W.cell? ⟨g, i * 9 + 7, none⟩ = some (.int .i64 r.f7) from by rw [← HN.out, ← HK.out, ← HMG.out]; exact ⟨(OwnR.below HO'.out h).cell hil (by omega), (OwnR.below HO'.out h).cell hil (by omega), (OwnR.below HO'.out h).free _, (OwnR.below HO'.out h).cell hil (by omega)⟩))
                        go_wp2_with fail
                        go_region_held3 (fun W' => W'.cell? ⟨g, i * 9 + 3, none⟩ = some (.int .i64 (n : Int)) ∧ W'.cell? ⟨g, i * 9 + 4, none⟩ = some (.int .i64 (k : Int))) (go_keep)
                          (first
                            | (go_at_call 21; refine (HL.out _).mono ?_; rintro e w5 ⟨rfl, b_⟩; have b5 : Below wr.heap.size wr w5 := below_step (pw_below_drewN (Below.refl wr.heap.size wr) 1) b_; have HB5 := Aside0.mk (below_step HB.out b5); have m3 := (HC5.out w5 b5).1; have m4 := (HC5.out w5 b5).2.1; have f7 := (HC5.out w5 b5).2.2.1; have m7 := (HC5.out w5 b5).2.2.2; have HO5 := Aside0.mk (OwnR.below HO'.out b5); clear b_ b5))
                        clear k3 k4
                        go_wp2_with fail
                        have hput := HO5.out.put (i := i) (k := 7) hil (by omega) (.int .i64 (lo : Int)) { r with f7 := (lo : Int) } (by
                          rw [HMG.out]
                          intro q hq
                          (rcases q with _ | _ | _ | _ | _ | _ | _ | _ | _ | q) <;> first | rfl | omega)
                        have hg5 : w.heap.size ≤ g := hg0.out
                        have HB6 := Aside0.mk (HB5.out.grown hput.2 HB5.out.size (fun _ e => by cases e; exact hg5))
                        have HO6 : Aside0 (OwnR (w5.setCell ⟨g, i * 9 + 7, none⟩ (.int .i64 (lo : Int))) w.heap.size (.slice (some ⟨g, 0, none⟩) ((mixR rk m i).set i { r with f7 := (lo : Int) }).length c') ((mixR rk m i).set i { r with f7 := (lo : Int) })) := ⟨by rw [List.length_set]; exact hput.1⟩
                        clear hput m3 m4 f7 m7 HC5
                        have HMG6 : Aside0 (((mixR rk m i).set i { r with f7 := (lo : Int) }).getD i zR = { r with f7 := (lo : Int) }) := ⟨by rw [List.getD_eq_getElem?_getD, List.getElem?_set_self hil]; rfl⟩
                        have hil6 : i < ((mixR rk m i).set i { r with f7 := (lo : Int) }).length := by rw [List.length_set]; exact hil
                        generalize w5.setCell ⟨g, i * 9 + 7, none⟩ (.int .i64 (lo : Int)) = w6 at *
                        obtain ⟨hi', hhi⟩ : ∃ hi', hi' = 10000 - (leastN n (n - k) rk : Int) := ⟨_, rfl⟩
                        have HG := Aside0.mk (fun W => Greatest_ok n k rk W (by omega) hkn (by omega) (by omega))
                        rw [← hhi] at HG
                        have HHI := Aside0.mk hhi
                        clear hhi
                        have HC6 := Aside0.mk (fun (W : World) (h : Below w6.heap.size w6 W) => (show W.cell? ⟨g, i * 9 + 3, none⟩ = some (.int .i64 (n : Int)) ∧ W.cell? ⟨g, i * 9 + 4, none⟩ = some (.int .i64 (k : Int)) ∧ W.frozen? ⟨g, i * 9 + 8, none⟩ = false ∧ W.cell? ⟨g, i * 9 + 8, none⟩ = some (.int .i64 r.f8) from by rw [← HN.out, ← HK.out]; exact ⟨by rw [(OwnR.below HO6.out h).cell hil6 (by omega), HMG6.out]; rfl, by rw [(OwnR.below HO6.out h).cell hil6 (by omega), HMG6.out]; rfl, (OwnR.below HO6.out h).free _, by rw [(OwnR.below HO6.out h).cell hil6 (by omega), HMG6.out]; rfl⟩))
                        have k3 := (HC6.out w6 (Below.refl _ _)).1
                        have k4 := (HC6.out w6 (Below.refl _ _)).2.1
                        go_region_held3 (fun W' => W'.cell? ⟨g, i * 9 + 3, none⟩ = some (.int .i64 (n : Int)) ∧ W'.cell? ⟨g, i * 9 + 4, none⟩ = some (.int .i64 (k : Int))) (first | exact ⟨set_far (by assumption) (by omega), set_far (by assumption) (by omega)⟩ | go_keep)
                          (first
                            | (go_at_call 22; refine (HG.out _).mono ?_; rintro e w7 ⟨rfl, b_⟩; have b7 : Below w6.heap.size w6 w7 := below_step (pw_below_drewN (Below.refl w6.heap.size w6) 1) b_; have HB7 := Aside0.mk (below_step HB6.out b7); have m3 := (HC6.out w7 b7).1; have m4 := (HC6.out w7 b7).2.1; have f8 := (HC6.out w7 b7).2.2.1; have m8 := (HC6.out w7 b7).2.2.2; have HO7 := Aside0.mk (OwnR.below HO6.out b7); clear b_ b7))
                        go_wp2_with fail
                        have hput := HO7.out.put (i := i) (k := 8) hil6 (by omega) (.int .i64 hi') { r with f7 := (lo : Int), f8 := hi' } (by
                          rw [HMG6.out]
                          intro q hq
                          (rcases q with _ | _ | _ | _ | _ | _ | _ | _ | _ | q) <;> first | rfl | omega)
                        have hfin : ((mixR rk m i).set i { r with f7 := (lo : Int) }).set i { r with f7 := (lo : Int), f8 := hi' } = mixR rk m (i + 1) := by
                          rw [List.set_set, ← HMS.out]
                          congr 1
                          unfold bndR
                          rw [HN.out, HK.out, HLO.out, HHI.out]; rfl
                        have hwi : wrap64 ((i : Int) + 1) = ((i + 1 : Nat) : Int) := by
                          have := HLm.out
                          rw [w64 (by omega) (by omega)]; omega
                        rw [hwi]
                        clear hwi
                        refine ⟨⟨i + 1, hi2, rfl, ⟨?_⟩, ⟨?_⟩, ⟨?_⟩⟩, ?_⟩
                        · have h1 := hput.1
                          rw [hfin, List.length_set, mixR_length] at h1
                          exact h1
                        · intro q hq
                          rw [HTK.out, List.mem_append, List.mem_singleton] at hq
                          rcases hq with hq | hq
                          · exact HLE.out q hq
                          · rw [hq, HN.out]; omega
                        · exact HB7.out.grown hput.2 HB7.out.size (fun _ e => by cases e; exact hg5)
                        · show m.length - (i + 1) < m.length - i
                          omega
                    · obtain rfl : i = m.length := by omega
                      have HRES : Aside0 (MeasR std s now rk key (m.map (bndR rk)) 0) := ⟨.inr ⟨HOK.out, m, HRM.out, HSM.out, .inl ⟨rfl, rfl, by have h := HLE.out; rw [List.take_length] at h; exact h⟩⟩⟩
                      have HOE : Aside0 (OwnR wr w.heap.size (.slice (some ⟨g, 0, none⟩) m.length c') (m.map (bndR rk))) := ⟨by rw [← mixR_all]; exact HO.out⟩
                      go_wp2_with fail
                      go_ret2
                      exact ⟨_, _, 0, rfl, HRES.out, HOE.out, HB.out⟩

end Go.Proofs.YteeacbgaehdodaaGreat
