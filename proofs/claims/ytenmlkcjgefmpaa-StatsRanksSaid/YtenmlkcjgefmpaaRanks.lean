/- StatsRanks: the walk. -/
import Derived.Test.YtenmlkcjgefmpaaKit
import Derived.Test.YtenmlkcjgefmpaaRank
import Derived.Shelf.Slices.Turned
import Derived.Shelf.Slices.Reverse
namespace Go.Proofs.Ytenmlkcjgefmpaa
set_option linter.unusedVariables false
open Go.RowKit Go.Shelf Go.Sort Go.Proofs.YtenmlkcjgefmpaaW.PrintWords Go.Proofs.YtenmlkcjgefmpaaW.PrintLast Go.Proofs.YtenmlkcjgefmpaaW.PrintMore Go.Proofs.Ytenmlkcjgefmpaa.Fn
attribute [local go_sem] min2_z max2_z max_two min_two max_three min_three max_four min_four

theorem C_prefix {w : World} {A : Option Addr} {n : Nat} {l m : List Int} (h : Kd.C (Kd.int .i64) w A n (l ++ m)) : Kd.C (Kd.int .i64) w A l.length l := by
  obtain ⟨h1, h2, h3⟩ := h
  rw [List.length_append] at h1
  refine ⟨rfl, by omega, fun hp => ?_⟩
  obtain ⟨ad, e, hc⟩ := h3 (by omega)
  refine ⟨ad, e, fun j p hj => hc j p ?_⟩
  obtain ⟨hj1, _⟩ := List.getElem?_eq_some_iff.1 hj
  rw [List.getElem?_append_left hj1]; exact hj

theorem C_plain {w : World} {A : Option Addr} {n : Nat} {xs : List Int} (h : Kd.C (Kd.int .i64) w A n xs) (hn : 0 < n) : ∃ b off, A = some ⟨b, off, none⟩ := by
  obtain ⟨ad, c, e, _, hK, hc⟩ := Kd.C_get h 0 0 (by omega) (by omega)
  have hK' : c = [.int .i64 (xs.getD 0 0)] := hK
  subst hK'
  have h1 := hc 0 _ rfl
  have hs := World.cell?_spot h1
  obtain ⟨b, off, spot⟩ := ad
  have hspot : spot = none := by simpa [Addr.add] using hs
  exact ⟨b, off, by rw [e, hspot]⟩

theorem C_at {w : World} {b off n : Nat} {xs : List Int} (h : Kd.C (Kd.int .i64) w (some ⟨b, off, none⟩) n xs) {j : Nat} (hj : j < n) : w.cell? ⟨b, off + j, none⟩ = some (.int .i64 (xs.getD j 0)) := by
  obtain ⟨ad, c, e, _, hK, hc⟩ := Kd.C_get h 0 (j : Int) (by omega) (by omega)
  rw [Int.toNat_natCast] at hK hc
  have hK' : c = [.int .i64 (xs.getD j 0)] := hK
  subst hK'
  have := hc 0 _ rfl
  rw [show j * (Kd.int .i64).sz + 0 = j from Nat.mul_one j] at this
  injection e with e
  subst e
  rw [Go.WideShapes.add_plain] at this
  exact this

theorem IsI.reads {w : World} {A : Option Addr} {n c : Nat} {l : List Int} (h : IsI w (.slice A n c) l) : Kd.C (Kd.int .i64) w A l.length l := by
  obtain ⟨_, _, e, _, h⟩ := h
  injection e with e1 _ _
  rw [e1]; exact h

theorem isI_of_R {w : World} {e base : Nat} {ok : Nat → Prop} {v : Value} {l : List Int} (h : Kd.R (Kd.int .i64) e w base ok v l) : IsI w v l := by
  obtain ⟨A, c, h1, h2, h3⟩ := Kd.R_reads h
  exact ⟨A, c, h1, h2, h3⟩

theorem Contains_calls {v : Value} (l : List Int) (x : Int) (w : World) (hv : IsI w v l) (h0 : 0 < l.length) :
    Calls Try.prog 38 #[v, .int .i64 x] w fun e w' => e = .returned (.bool (l.contains x)) ∧ w' = w := by
  obtain ⟨A, c, rfl, hc, hr⟩ := hv
  obtain ⟨b, off, rfl⟩ := C_plain hr h0
  have h := Any.slices_Contains_int shContains b off l.length c l x w (Nat.le_refl _) hr.2.1 (fun j hj => C_at hr hj)
  rw [List.take_length] at h
  exact h

/-- slices.Reverse on a row of the call's own -/
theorem Reverse_calls (l : List Int) (v : Value) (w0 w : World) (hl : 0 < l.length) (hle : l.length ≤ 100000) (hb : Below w0.heap.size w0 w) (ho : Kd.R (Kd.int .i64) 3 w w0.heap.size (fun _ => True) v l) :
    Calls Try.prog 40 #[v] w fun e w' => e = .returned (.tuple #[]) ∧ Kd.R (Kd.int .i64) 3 w' w0.heap.size (fun _ => True) v l.reverse ∧ Below w0.heap.size w0 w' := by
  obtain ⟨_, inner, hown, hreps⟩ := ho
  have hin : inner = l.map (Value.int .i64) := by
    apply List.ext_getElem
    · rw [hreps.1, List.length_map]; show l.length * 1 = l.length; omega
    · intro i h1 h2
      have h3 : i < l.length := by simpa using h2
      have h4 : ((inner.drop (i * 1)).take 1) = [.int .i64 l[i]] := hreps.2 i l[i] (List.getElem?_eq_getElem h3)
      rw [Nat.mul_one, List.drop_eq_getElem_cons h1, List.take_succ_cons] at h4
      injection h4 with h5 _
      rw [h5, List.getElem_map]
  subst hin
  rcases hown.2 with ⟨rfl, h0⟩ | ⟨g, cap, cur, rfl, hg, hh, hn, hcap, hcs, ht⟩
  · omega
  · rw [show l.length * (Kd.int .i64).sz = l.length from Nat.mul_one _] at ht
    have hcon := Any.slices_Reverse_int shReverse g 0 cap l w (holds_of_blockI hh ht) (by omega)
    refine hcon.mono ?_
    rintro e w' ⟨rfl, n, rfl⟩
    have egrow : putRow (Value.int .i64) (Sort.ahead w n) g 0 l.reverse.toArray = grow (putRow (Value.int .i64) (Sort.ahead w n) g 0 l.reverse.toArray) #[] := by simp [grow, putRow, mapBlock, Sort.ahead]
    have hrow := ownsRow_sortedI (n := n) (os := #[]) (ss := l) (ts := l.reverse) (List.length_reverse) hg hh hn hcap hcs
    rw [egrow]
    refine ⟨rfl, ?_, hb.grown (grownBy_sortedI _) hb.size (fun k e => by cases e; exact hg)⟩
    refine R_nums (k := .i64) (xs := l.reverse) ?_
    rw [List.length_reverse]
    exact hrow

theorem take_counts (l : List Int) (x : Int) {j : Nat} (h : j < l.length) : clt (l.take (j + 1)) x = clt (l.take j) x + if l[j] < x then 1 else 0 := by
  unfold clt
  rw [List.take_succ_eq_append_getElem h, List.countP_append]
  congr 1
  by_cases hc : l[j] < x <;> simp [hc]

set_option maxHeartbeats 4000000 in
set_option maxRecDepth 100000 in
theorem Ranks_calls {v : Value} (l0 : List Int) (s t : Int) (w : World) (hv : IsI w v l0) (hs : (Lit.int .i64 s).wf = true) (ht : (Lit.int .i64 t).wf = true) :
    Calls Try.prog 13 #[v, .int .i64 s, .int .i64 t] w fun e w' => e = .returned (.bool true) ∧ Below w.heap.size w w' := by
  obtain ⟨A, c, rfl, hc, hr⟩ := hv
  obtain ⟨l, l1, hl01, hl0, hm⟩ : ∃ l l1 : List Int, l0 = l ++ l1 ∧ l.length = min l0.length 5000 ∧ l.length ≤ 5000 := ⟨l0.take 5000, l0.drop 5000, (List.take_append_drop _ _).symm, by rw [List.length_take]; omega, by rw [List.length_take]; omega⟩
  have hmin : minZ (l0.length : Int) 5000 = (l.length : Int) := by
    have := min_nat l0.length 5000
    rw [hl0]; exact this
  have hle : l.length ≤ l0.length := by omega
  have HI := Aside0.mk (show IsI w (.slice A l.length c) l from ⟨A, c, rfl, by omega, by rw [hl01] at hr; exact C_prefix hr⟩)
  have hcl : l.length ≤ c := by omega
  have hmx := hr.2.1
  clear hr hl01 hl0
  have hp1 := shareN_le s
  have hp2 := shareN_le t
  have HS := Aside0.mk (fun W => share_calls s W hs)
  have HT := Aside0.mk (fun W => share_calls t W ht)
  generalize shareN s = a at *
  generalize shareN t = b at *
  clear hs ht
  obtain ⟨p, hp⟩ : ∃ p, p = min a b := ⟨_, rfl⟩
  obtain ⟨q, hq⟩ : ∃ q, q = max a b := ⟨_, rfl⟩
  have hminp : minZ (a : Int) (b : Int) = (p : Int) := by rw [hp]; exact min_nat a b
  have hmaxq : maxZ (a : Int) (b : Int) = (q : Int) := by rw [hq]; exact max_nat a b
  have hpq : p ≤ q := by omega
  have hq1 : q ≤ 10000 := by omega
  clear hp hq hp1 hp2
  have HB := Aside0.mk (Below.refl w.heap.size w)
  go_enter Try.func13, Try.ntmps13
  go_wp2_with fail
  refine (awake_calls _).mono ?_
  rintro e w1 ⟨rfl, b_⟩
  have HI := Aside0.mk (HI.out.below b_)
  have HB := Aside0.mk (below_then HB.out b_)
  clear b_
  go_wp2_with fail
  refine (HS.out _).mono ?_
  rintro e w2 ⟨rfl, d_⟩
  have b_ := drawn_below d_
  have HI := Aside0.mk (HI.out.below b_)
  have HB := Aside0.mk (below_then HB.out b_)
  clear b_ d_
  go_wp2_with fail
  refine (HT.out _).mono ?_
  rintro e w3 ⟨rfl, d_⟩
  have b_ := drawn_below d_
  have HI := Aside0.mk (HI.out.below b_)
  have HB := Aside0.mk (below_then HB.out b_)
  clear b_ d_
  go_wp2_with fail
  refine (Quantile_calls l (p : Int) _ HI.out).mono ?_
  rintro e w4 ⟨rfl, b_⟩
  have HI := Aside0.mk (HI.out.below b_)
  have HB := Aside0.mk (below_then HB.out b_)
  clear b_
  go_wp2_with fail
  refine (Quantile_calls l (q : Int) _ HI.out).mono ?_
  rintro e w5 ⟨rfl, b_⟩
  have HI := Aside0.mk (HI.out.below b_)
  have HB := Aside0.mk (below_then HB.out b_)
  clear b_
  by_cases h0 : l.length = 0
  · have e6 : quantE l (p : Int) = 6 := quantE_none (by omega) (by omega) h0
    have e6' : quantE l (q : Int) = 6 := quantE_none (by omega) (by omega) h0
    have n6 : quantN l (p : Int) = 0 := by unfold quantN; rw [e6, if_neg (by decide)]
    have n6' : quantN l (q : Int) = 0 := by unfold quantN; rw [e6', if_neg (by decide)]
    rw [e6, e6', n6, n6', h0]
    clear h0 e6 e6' n6 n6' hmin hcl hle
    go_wp2_with fail
    go_ret
    exact ⟨rfl, HB.out⟩
  · obtain ⟨ex, hx⟩ := quant_rank (l := l) (q := p) (by omega) (by omega) (by omega)
    obtain ⟨ey, hy⟩ := quant_rank (l := l) (q := q) (by omega) (by omega) (by omega)
    have hxy := hx.mono hy hpq
    rw [ex, ey]
    have EX := Aside0.mk ex
    have HX := Aside0.mk hx
    clear ex ey hx hy
    obtain ⟨x, hxe⟩ : ∃ x, x = quantN l (p : Int) := ⟨_, rfl⟩
    have HXE := Aside0.mk hxe
    rw [← hxe] at HX hxy ⊢
    clear hxe
    generalize quantN l (q : Int) = y at *
    have hpos : 0 < l.length := by omega
    have hne : ((l.length : Int) == 0) = false := by rw [beq_eq_false_iff_ne]; omega
    obtain ⟨ab, ao, rfl⟩ := C_plain HI.out.reads hpos
    clear h0
    go_wp2_with fail
    go_loopw [66, 13, 14, 16] (fun v66 v13 v14 v16 W => ∃ j : Nat, j ≤ l.length ∧ v66 = .int .i64 j ∧ v13 = .int .i64 (clt (l.take j) x : Int) ∧ v14 = .int .i64 (cle (l.take j) x : Int) ∧ Aside0 (Below w.heap.size w W) ∧ Aside0 (IsI W (.slice (some ⟨ab, ao, none⟩) l.length c) l)) (fun v66 _ _ _ _ => l.length - (intOf v66).toNat)
    case atStart => exact ⟨0, by omega, rfl, rfl, rfl, HB, HI⟩
    case round =>
      obtain ⟨j, hj, rfl, rfl, rfl, HB, HI⟩ := hrel
      have hx1 : cle (l.take j) x ≤ j := by
        have h1 : cle (l.take j) x ≤ (l.take j).length := List.countP_le_length
        rw [List.length_take] at h1; omega
      have hx2 : clt (l.take j) x ≤ j := by
        have h1 : clt (l.take j) x ≤ (l.take j).length := List.countP_le_length
        rw [List.length_take] at h1; omega
      by_cases hjl : j < l.length
      · have hcell := C_at HI.out.reads hjl
        have T1 := Aside0.mk (take_count l x hjl)
        have T2 := Aside0.mk (take_counts l x hjl)
        have ez : l.getD j 0 = l[j] := by rw [List.getD_eq_getElem?_getD, List.getElem?_eq_getElem hjl]; rfl
        rw [ez] at hcell
        clear ez
        generalize l[j] = z at *
        obtain ⟨u, hu⟩ : ∃ u, u = cle (l.take j) x := ⟨_, rfl⟩
        obtain ⟨r, hr⟩ : ∃ r, r = clt (l.take j) x := ⟨_, rfl⟩
        rw [← hu, ← hr]
        rw [← hu] at hx1 T1
        rw [← hr] at hx2 T2
        clear hu hr
        have hj5 : j ≤ 5000 := by omega
        by_cases z1 : z < x
        · have z2 : z ≤ x := by omega
          rw [if_pos z2] at T1
          rw [if_pos z1] at T2
          go_wp2_with fail
          go_roundw
          case rel => exact ⟨j + 1, by omega, by go_num, by rw [T2.out]; go_num, by rw [T1.out]; go_num, HB, HI⟩
          case measure => simp [intOf]; omega
        · rw [if_neg z1] at T2
          by_cases z2 : z ≤ x
          · rw [if_pos z2] at T1
            go_wp2_with fail
            go_roundw
            case rel => exact ⟨j + 1, by omega, by go_num, by rw [T2.out]; go_num, by rw [T1.out]; go_num, HB, HI⟩
            case measure => simp [intOf]; omega
          · rw [if_neg z2] at T1
            go_wp2_with fail
            go_roundw
            case rel => exact ⟨j + 1, by omega, by go_num, by rw [T2.out]; go_num, by rw [T1.out]; go_num, HB, HI⟩
            case measure => simp [intOf]; omega
      · obtain rfl : j = l.length := by omega
        rw [List.take_length] at hx1 hx2 ⊢
        have HR : Aside0 (quantE l.reverse (p : Int) = 0 ∧ quantN l.reverse (p : Int) = x) := ⟨by
          obtain ⟨h1, h2⟩ := quant_rank (l := l.reverse) (q := p) (by rw [List.length_reverse]; omega) (by rw [List.length_reverse]; omega) (by omega)
          exact ⟨h1, h2.unique (HX.out.perm (List.reverse_perm l).symm)⟩⟩
        have HT : Aside0 (quantE (l ++ l) (p : Int) = 0 ∧ quantN (l ++ l) (p : Int) = x) := ⟨by
          obtain ⟨h1, h2⟩ := quant_rank (l := l ++ l) (q := p) (by rw [List.length_append]; omega) (by rw [List.length_append]; omega) (by omega)
          exact ⟨h1, h2.unique HX.out.twice⟩⟩
        have HR1 := Aside0.mk HR.out.2
        have HR2 := Aside0.mk HR.out.1
        have HT1 := Aside0.mk HT.out.2
        have HT2 := Aside0.mk HT.out.1
        clear HR HT
        obtain ⟨hmem, hmost, hless⟩ := HX.out
        have hcont : l.contains x = true := by simpa using hmem
        obtain ⟨P, hP⟩ : ∃ P, P = p * l.length := ⟨_, rfl⟩
        have hPc : (p : Int) * (l.length : Int) = (P : Int) := by rw [hP, Int.natCast_mul]
        have hPb : P ≤ 50000000 := by rw [hP]; exact Nat.mul_le_mul (show p ≤ 10000 by omega) hm
        rw [← hP] at hmost hless
        generalize cle l x = u at *
        generalize clt l x = r at *
        have hw1 : IntKind.i64.wrap ((p : Int) * (l.length : Int)) = (P : Int) := (congrArg _ hPc).trans (IntWalk.i64_in _ (by omega))
        have d1 : decide ((u : Int) * 10000 < (P : Int)) = false := decide_eq_false (by omega)
        have d2 : 0 < r → decide ((P : Int) ≤ (r : Int) * 10000) = false := fun h => decide_eq_false (by have := hless h; omega)
        have hyx : decide (y < x) = false := decide_eq_false (by omega)
        clear hP hjl hmost hless hj
        have HD2 := Aside0.mk d2
        clear d2
        rcases Nat.eq_zero_or_pos r with hr0 | hr0
        · subst hr0
          go_wp2_with fail
          refine (Contains_calls l x _ HI.out hpos).mono ?_
          rintro e w6 ⟨rfl, rfl⟩
          rw [hcont]
          go_wp2_with fail
          refine (CloneI_some ⟨ab, ao, none⟩ c l _ HI.out.reads (by omega)).mono ?_
          rintro e w7 ⟨v7, rfl, ho, hb⟩
          have HO := Aside0.mk ho
          have HB7 := Aside0.mk hb
          clear ho hb
          go_wp2_with fail
          refine (Reverse_calls l v7 w6 w7 hpos (by omega) HB7.out HO.out).mono ?_
          rintro e w8 ⟨rfl, ho, hb⟩
          have HI8 := Aside0.mk (isI_of_R ho)
          have HL8 := Aside0.mk (HI.out.below hb)
          have HB8 := Aside0.mk (below_then HB.out hb)
          clear ho hb
          go_wp2_with fail
          refine (Quantile_calls l.reverse (p : Int) _ HI8.out).mono ?_
          rw [HR1.out, HR2.out]
          rintro e w9 ⟨rfl, b_⟩
          have HL9 := Aside0.mk (HL8.out.below b_)
          have HB9 := Aside0.mk (below_then HB8.out b_)
          clear b_
          go_wp2_with fail
          refine (CloneI_some ⟨ab, ao, none⟩ c l _ HL9.out.reads (by omega)).mono ?_
          rintro e w10 ⟨v10, rfl, ho, hb⟩
          have HO10 := Aside0.mk ho
          have HB10 := Aside0.mk hb
          have HL10 := Aside0.mk (HL9.out.below hb)
          clear ho hb
          go_wp2_with (first
            | ((with_reducible refine gate_builtin (b := .append) (xs := #[.tmp 130, .tmp 131]) rfl ?_); at_builtin; refine Kd.R_append_rows (Kd.int .i64) (w0 := w9) w9.heap.size rfl (.tmp 130) (.tmp 131) 24 3 (.int .i64 0) 8 rfl Try.underlying24 info3 rfl (by decide) (by omega) v10 l l _ _ _ (fun _ => True) (fun _ => False) rfl rfl ?aO ?aR (fun _ _ h => h) (fun _ h => h.elim) ?aF ?aB ?aS ?aL ?_; (case aR => exact HL10.out.reads); (case aB => exact HB10.out); (case aF => exact (fun _ _ => trivial)); (case aO => exact HO10.out); (case aS => exact HB10.out.size); (case aL => omega); intro v11 w11 ho hb hg hat; have HO11 := Aside0.mk ho; have HB11 := Aside0.mk (below_then HB9.out hb); clear ho hb hg hat))
          refine (Quantile_calls (l ++ l) (p : Int) _ (isI_of_R HO11.out)).mono ?_
          rw [HT1.out, HT2.out]
          rintro e w12 ⟨rfl, b_⟩
          have HB12 := Aside0.mk (below_then HB11.out b_)
          clear b_
          go_wp2_with fail
          go_ret
          exact ⟨rfl, HB12.out⟩
        · have d2 := HD2.out hr0
          go_wp2_with fail
          refine (Contains_calls l x _ HI.out hpos).mono ?_
          rintro e w6 ⟨rfl, rfl⟩
          rw [hcont]
          go_wp2_with fail
          refine (CloneI_some ⟨ab, ao, none⟩ c l _ HI.out.reads (by omega)).mono ?_
          rintro e w7 ⟨v7, rfl, ho, hb⟩
          have HO := Aside0.mk ho
          have HB7 := Aside0.mk hb
          clear ho hb
          go_wp2_with fail
          refine (Reverse_calls l v7 w6 w7 hpos (by omega) HB7.out HO.out).mono ?_
          rintro e w8 ⟨rfl, ho, hb⟩
          have HI8 := Aside0.mk (isI_of_R ho)
          have HL8 := Aside0.mk (HI.out.below hb)
          have HB8 := Aside0.mk (below_then HB.out hb)
          clear ho hb
          go_wp2_with fail
          refine (Quantile_calls l.reverse (p : Int) _ HI8.out).mono ?_
          rw [HR1.out, HR2.out]
          rintro e w9 ⟨rfl, b_⟩
          have HL9 := Aside0.mk (HL8.out.below b_)
          have HB9 := Aside0.mk (below_then HB8.out b_)
          clear b_
          go_wp2_with fail
          refine (CloneI_some ⟨ab, ao, none⟩ c l _ HL9.out.reads (by omega)).mono ?_
          rintro e w10 ⟨v10, rfl, ho, hb⟩
          have HO10 := Aside0.mk ho
          have HB10 := Aside0.mk hb
          have HL10 := Aside0.mk (HL9.out.below hb)
          clear ho hb
          go_wp2_with (first
            | ((with_reducible refine gate_builtin (b := .append) (xs := #[.tmp 130, .tmp 131]) rfl ?_); at_builtin; refine Kd.R_append_rows (Kd.int .i64) (w0 := w9) w9.heap.size rfl (.tmp 130) (.tmp 131) 24 3 (.int .i64 0) 8 rfl Try.underlying24 info3 rfl (by decide) (by omega) v10 l l _ _ _ (fun _ => True) (fun _ => False) rfl rfl ?aO ?aR (fun _ _ h => h) (fun _ h => h.elim) ?aF ?aB ?aS ?aL ?_; (case aR => exact HL10.out.reads); (case aB => exact HB10.out); (case aF => exact (fun _ _ => trivial)); (case aO => exact HO10.out); (case aS => exact HB10.out.size); (case aL => omega); intro v11 w11 ho hb hg hat; have HO11 := Aside0.mk ho; have HB11 := Aside0.mk (below_then HB9.out hb); clear ho hb hg hat))
          refine (Quantile_calls (l ++ l) (p : Int) _ (isI_of_R HO11.out)).mono ?_
          rw [HT1.out, HT2.out]
          rintro e w12 ⟨rfl, b_⟩
          have HB12 := Aside0.mk (below_then HB11.out b_)
          clear b_
          go_wp2_with fail
          go_ret
          exact ⟨rfl, HB12.out⟩

end Go.Proofs.Ytenmlkcjgefmpaa
