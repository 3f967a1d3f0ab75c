/- Contracts by walks: Cmp, slices.Clone of limbs, DivMod by a number of one limb, stats.div. -/
import Derived.Test.YtenmlkcjgefmpaaNat
namespace Go.Proofs.Ytenmlkcjgefmpaa
open Go.RowKit Go.Proofs.YtenmlkcjgefmpaaW.PrintWords Go.Proofs.YtenmlkcjgefmpaaW.PrintLast Go.Proofs.YtenmlkcjgefmpaaW.PrintMore Go.Proofs.Ytenmlkcjgefmpaa.Fn

set_option maxHeartbeats 400000 in
theorem Cmp_calls {va vb : Value} {x y : Nat} (w : World) (ha : IsN w va x) (hb : IsN w vb y) :
    Calls Try.prog 27 #[va, vb] w fun e w' => e = .returned (.tuple #[.int .i64 (cmpI x y), .int .i64 0]) ∧ Drawn0 w w' := by
  go_enter Try.func27, Try.ntmps27
  go_wp2_with fail
  refine (Right_calls _ ha).mono ?_
  rintro e w1 ⟨rfl, ⟨n, rfl⟩⟩
  go_wp2_with fail
  refine (Right_calls _ (hb.drewN n)).mono ?_
  rintro e w1 ⟨rfl, ⟨m, rfl⟩⟩
  go_wp2_with fail
  refine (cmp_calls _ (ha.drewN (n + m)) (hb.drewN (n + m))).mono ?_
  rintro e w1 ⟨rfl, ⟨q, rfl⟩⟩
  go_wp2_with fail
  go_ret2
  exact ⟨rfl, ⟨n + m + q, by simp [World.drewN, Nat.add_assoc]⟩⟩

set_option maxHeartbeats 1000000 in
/-- slices.Clone: the same limbs in a row of the call's own -/
theorem Clone_some (ad : Addr) (c : Nat) (l0 : List Int) (w : World) (hr : Kd.C (Kd.int .u32) w (some ad) l0.length l0) (hl : l0.length ≤ 100000) :
    Calls Try.prog 80 #[.slice (some ad) l0.length c] w fun e w' => ∃ v : Value, e = .returned v ∧ Kd.R (Kd.int .u32) 55 w' w.heap.size (fun _ => True) v l0 ∧ Below w.heap.size w w' := by
  have HR0 := Aside0.mk hr
  have HL := Aside0.mk hl
  have HB := Aside0.mk (Below.refl w.heap.size w)
  clear hr hl
  have hnil := fun W => Lib.run_eql_slice_nil (P := Try.prog) W 28 55 (some ad) l0.length c 0 0 Try.underlying28
  go_enter Try.func80, Try.ntmps80
  go_wp2_with (first
    | ((with_reducible refine gate_dst (N := 5) rfl ?_); refine Kd.R_lit (Kd.int .u32) _ 55 ?hg (N := 5) ?hd (xs := ([] : List Int)) (inner := []) (ok := fun _ => True) (okp := fun _ => True) ?hr ?hp (fun _ hk => hk) trivial (Below.refl _ _) (Nat.le_refl _) (by simp) ?_; (case hd => rfl); (case hg => rfl); (case hr => first | (go_simp; done) | (go_simp; rfl)); (case hp => exact (Reps.none _ _)); intro v453 w3 ho4 hb hg_ hnew_; clear hg_ hnew_; have n0_ := Aside0.mk (Kd.R_lower ho4 (below_size (by repeat (first | (with_reducible first | exact HB.out | apply below_alloc | apply pw_below_drewN | apply below_drew1) | exact HB.out)))); have n1_ := Aside0.mk (below_step (by repeat (first | (with_reducible first | exact HB.out | apply below_alloc | apply pw_below_drewN | apply below_drew1) | exact HB.out)) hb); clear HB; have HO454 := n0_; have HB := n1_; clear n0_ n1_; clear hb ho4)
    | ((with_reducible refine gate_builtin (b := .append) (xs := #[.tmp 5, .tmp 6]) rfl ?_); at_builtin; refine Kd.R_append_rows (Kd.int .u32) (w0 := w) w.heap.size rfl (.tmp 5) (.tmp 6) 28 55 (.int .u32 0) 4 rfl Try.underlying28 info55 rfl (by decide) (by omega) v453 [] l0 _ _ _ (fun _ => True) (fun _ => False) rfl rfl ?aO ?aR (fun _ _ h => h) (fun _ h => h.elim) ?aF ?aB ?aS ?aL ?_; (case aR => exact (Kd.C_below HR0.out HB.out)); (case aB => exact (by repeat (first | (with_reducible first | exact HB.out | apply below_alloc | apply pw_below_drewN | apply below_drew1) | exact HB.out))); (case aF => exact (fun _ _ => trivial)); (case aO => exact HO454.out); (case aS => exact (below_size (by repeat (first | (with_reducible first | exact HB.out | apply below_alloc | apply pw_below_drewN | apply below_drew1) | exact HB.out)))); (case aL => have := HL.out; simp; omega); intro v456 w5 ho hb hg hat; have n0_ := Aside0.mk (hb); have n1_ := Aside0.mk (ho); clear HB; clear HO454; have HB := n0_; have HO457 := n1_; clear n0_ n1_; clear ho hb hg hat))
  go_ret
  exact ⟨_, rfl, HO457.out, HB.out⟩

set_option maxHeartbeats 400000 in
theorem Clone_none (c : Nat) (w : World) :
    Calls Try.prog 80 #[.slice none 0 c] w fun e w' => e = .returned (.slice none 0 0) ∧ w = w' := by
  have hnil := fun W => Lib.run_eql_slice_nil (P := Try.prog) W 28 55 none 0 c 0 0 Try.underlying28
  go_enter Try.func80, Try.ntmps80
  go_wp2_with fail
  go_ret
  exact ⟨rfl, rfl⟩

theorem Clone_any {A : Option Addr} (c : Nat) (l0 : List Int) (w : World) (hr : Kd.C (Kd.int .u32) w A l0.length l0) (hl : l0.length ≤ 100000) :
    Calls Try.prog 80 #[.slice A l0.length c] w fun e w' => ∃ v : Value, e = .returned v ∧ Kd.R (Kd.int .u32) 55 w' w.heap.size (fun _ => True) v l0 ∧ Below w.heap.size w w' := by
  cases A with
  | some ad => exact Clone_some ad c l0 w hr hl
  | none =>
    have h0 : l0.length = 0 := by
      rcases Nat.eq_zero_or_pos l0.length with h | h
      · exact h
      · obtain ⟨ad, e, _⟩ := hr.2.2 h
        cases e
    rw [h0]
    refine (Clone_none c w).mono ?_
    rintro e w' ⟨rfl, rfl⟩
    rw [List.length_eq_zero_iff.1 h0]
    exact ⟨_, rfl, Kd.R_nil _ _ _ _ _, Below.refl _ _⟩

set_option maxHeartbeats 1000000 in
/-- the divisor has one limb; the dividend is not less -/
theorem DivMod_ge {va : Value} {x y : Nat} (B : Addr) (d : Nat) (w : World) (ha : IsN w va x) (hd : 1 ≤ d) (hb : Kd.C (Kd.int .u32) w (some B) 1 [(y : Int)]) (hy0 : 0 < y) (hy : y < 4294967296) (hxy : y ≤ x) :
    Calls Try.prog 74 #[va, .slice (some B) 1 d] w fun e w' => ∃ v r : Value, e = .returned (.tuple #[v, r, .int .i64 0]) ∧ IsN w' v (x / y) ∧ Below w.heap.size w w' := by
  have hn : Num (4294967296 : Int) [(y : Int)] y := ⟨fun e he => by
    rw [List.mem_singleton.1 he]; omega, fun e he => by
    simp at he; omega, by simp [iv]⟩
  have HN : IsN w (.slice (some B) 1 d) y := ⟨[(y : Int)], some B, d, rfl, hd, by simp, hn, hb⟩
  have HY := Aside0.mk hn
  have hc : decide (cmpI x y < 0) = false := by
    unfold cmpI
    rw [if_neg (by omega)]
    split <;> rfl
  clear hn
  obtain ⟨xs, A, c, rfl, h2, h3, h4, h5⟩ := id ha
  obtain ⟨ys, s, k, hl, hdig, hval, hs, hk⟩ := small_num h4 (by omega) hy0 hy
  have hsv : s < 4294967296 := by rw [hs]; exact Nat.lt_trans (Nat.mod_lt _ hy0) hy
  have HK := Aside0.mk hk
  obtain ⟨r1, hr1, hn1, hk1⟩ := trim_num hdig hval (by omega)
  have HK1 := Aside0.mk (hk1 _ (Nat.lt_succ_self _))
  have HN1 := Aside0.mk hn1
  have HL1 := Aside0.mk (show r1.length ≤ 1024 by omega)
  obtain ⟨r2, hr2, hn2, hk2⟩ := trim_num (xs := [(s : Int)]) (x := s) (fun e he => by
    rw [List.mem_singleton.1 he]; omega) (by simp [iv]) (by simp)
  have HK2 := Aside0.mk (hk2 2 (by simp))
  have H5 := Aside0.mk h5
  have HBC := Aside0.mk hb
  clear hl hdig hval hs hk hr1 hn1 hk1 hr2 hn2 hk2 h4 h5 hb
  go_enter Try.func74, Try.ntmps74
  go_wp2_with fail
  refine (Right_calls _ ha).mono ?_
  rintro e w1 ⟨rfl, ⟨n, rfl⟩⟩
  go_wp2_with fail
  refine (Right_calls _ (HN.drewN n)).mono ?_
  rintro e w1 ⟨rfl, ⟨m, rfl⟩⟩
  go_wp2_with fail
  refine (cmp_calls _ (ha.drewN (n + m)) (HN.drewN (n + m))).mono ?_
  rintro e w1 ⟨rfl, ⟨q, rfl⟩⟩
  go_wp2_with fail
  refine (Clone_any c xs _ (Kd.C_below H5.out (pw_below_drewN (Below.refl _ _) _)) (by omega)).mono ?_
  rintro e w2 ⟨v, rfl, hv, hbw⟩
  have HV := Aside0.mk hv
  have HBW := Aside0.mk hbw
  have HB := Aside0.mk (below_step (pw_below_drewN (Below.refl w.heap.size w) (n + m + q)) hbw)
  clear hv hbw
  obtain ⟨ad, e102, hcell⟩ := Kd.at_int (Kd.C_below HBC.out HB.out) 0 (by decide) (by decide)
  cases e102
  have hc0 : w2.cell? B = some (.int .u32 (y : Int)) := hcell
  clear hcell
  go_wp2_with fail
  have hcs := nat_small.calls k (fun _ => True) v xs (y : Int) (s : Int) ys (w.drewN (n + m + q)) w2 HBW.out HV.out HK.out
  refine hcs.mono ?_
  rintro e w3 ⟨rfl, ho3, hb3, hk3⟩
  clear hk3 hc0
  obtain ⟨Aq, cq, rfl⟩ := Kd.R_slice ho3
  have HQ := Aside0.mk ho3
  have HB3 := Aside0.mk hb3
  clear HB HV HBW hb3 ho3
  go_wp2_with fail
  refine (nat_trim.calls _ (fun _ => True) Aq cq ys r1 w3 (Kd.V_mono (Kd.R_V HQ.out) (fun _ _ => trivial)) HK1.out).mono ?_
  rintro e w4 ⟨v4, rfl, hv4, hb4⟩
  have HV4 := Aside0.mk hv4
  have HB := Aside0.mk (below_step (show Below w.heap.size w w3 from below_step (pw_below_drewN (Below.refl w.heap.size w) (n + m + q)) HB3.out) hb4)
  clear hv4 hb4
  go_wp2_with (first
    | ((with_reducible refine gate_dst (N := 43) rfl ?_); refine Kd.R_lit (Kd.int .u32) _ 55 ?hg (N := 43) ?hd (xs := [(s : Int)]) (inner := [.int .u32 (s : Int)]) (ok := fun _ => True) (okp := fun _ => True) ?hr ?hp (fun _ hk => hk) trivial (Below.refl _ _) (Nat.le_refl _) (by simp) ?_; (case hd => rfl); (case hg => rfl); (case hr => first | (go_simp; done) | (go_simp; rfl)); (case hp => exact (Reps.one (show Kd.M (Kd.int .u32) _ _ _ (s : Int) [.int .u32 (s : Int)] from rfl) (Reps.none _ _))); intro v118 w5 ho4 hb5 hg_ hnew_; clear hg_ hnew_; obtain ⟨Al, cl, rfl⟩ := Kd.R_slice ho4; have HL4 := Aside0.mk ho4; have HB5 := Aside0.mk hb5; clear ho4 hb5))
  refine (nat_trim.calls 2 (fun _ => True) Al cl [(s : Int)] r2 w5 (Kd.V_mono (Kd.R_V HL4.out) (fun _ _ => trivial)) HK2.out).mono ?_
  rintro e w6 ⟨v6, rfl, hv6, hb6⟩
  clear hv6
  go_wp2_with fail
  go_ret3
  exact ⟨v4, v6, rfl, (((IsN.of_V HV4.out HN1.out HL1.out).below (below_step (Below.refl _ _) HB5.out)).below hb6), below_step (below_step HB.out HB5.out) hb6⟩

set_option maxHeartbeats 1000000 in
theorem DivMod_lt {va vb : Value} {x y : Nat} (w : World) (ha : IsN w va x) (hb : IsN w vb y) (hxy : x < y) :
    Calls Try.prog 74 #[va, vb] w fun e w' => ∃ v r : Value, e = .returned (.tuple #[v, r, .int .i64 0]) ∧ IsN w' v (x / y) ∧ Below w.heap.size w w' := by
  have hc : decide (cmpI x y < 0) = true := by
    unfold cmpI
    rw [if_pos hxy]; rfl
  have hz := Aside0.mk (show x / y = 0 from Nat.div_eq_of_lt hxy)
  obtain ⟨xs, A, c, rfl, h2, h3, h4, h5⟩ := id ha
  obtain ⟨ys, B, d, rfl, g2, g3, g4, g5⟩ := id hb
  have hy : 0 < ys.length := by
    rcases Nat.eq_zero_or_pos ys.length with h | h
    · have := (g4.nil_iff (by decide)).1 h; omega
    · exact h
  have H5 := Aside0.mk h5
  clear h4 h5 g4 g5
  have hl : ((ys.length : Int) == 0) = false := by rw [beq_eq_false_iff_ne]; omega
  go_enter Try.func74, Try.ntmps74
  go_wp2_with fail
  refine (Right_calls _ ha).mono ?_
  rintro e w1 ⟨rfl, ⟨n, rfl⟩⟩
  go_wp2_with fail
  refine (Right_calls _ (hb.drewN n)).mono ?_
  rintro e w1 ⟨rfl, ⟨m, rfl⟩⟩
  go_wp2_with fail
  refine (cmp_calls _ (ha.drewN (n + m)) (hb.drewN (n + m))).mono ?_
  rintro e w1 ⟨rfl, ⟨q, rfl⟩⟩
  go_wp2_with fail
  refine (Clone_any c xs _ (Kd.C_below H5.out (pw_below_drewN (Below.refl _ _) _)) (by omega)).mono ?_
  rintro e w2 ⟨v, rfl, hv, hbw⟩
  clear hv
  go_wp2_with fail
  go_ret3
  exact ⟨_, _, rfl, by rw [hz.out]; exact IsN.nil _, below_step (pw_below_drewN (Below.refl w.heap.size w) (n + m + q)) hbw⟩

theorem DivMod_calls {va vb : Value} {x y : Nat} (w : World) (ha : IsN w va x) (hb : IsN w vb y) (hy0 : 0 < y) (hy : y < 4294967296) :
    Calls Try.prog 74 #[va, vb] w fun e w' => ∃ v r : Value, e = .returned (.tuple #[v, r, .int .i64 0]) ∧ IsN w' v (x / y) ∧ Below w.heap.size w w' := by
  by_cases hxy : x < y
  · exact DivMod_lt w ha hb hxy
  · obtain ⟨ys, B, d, rfl, g2, g3, g4, g5⟩ := hb
    have hn : Num (4294967296 : Int) [(y : Int)] y := ⟨fun e he => by
      rw [List.mem_singleton.1 he]; omega, fun e he => by
      simp at he; omega, by simp [iv]⟩
    obtain rfl := hn.unique (by decide) g4
    obtain ⟨ad, e, _⟩ := g5.2.2 (by simp)
    subst e
    exact DivMod_ge ad d w ha (by simpa using g2) g5 hy0 hy (by omega)

set_option maxHeartbeats 400000 in
theorem div_calls {va : Value} {x : Nat} (y : Int) (w : World) (ha : IsN w va x) (hy0 : 0 < y) (hy : y < 4294967296) :
    Calls Try.prog 61 #[va, .int .i64 y] w (GivesN w (x / y.toNat)) := by
  go_enter Try.func61, Try.ntmps61
  go_wp2_with fail
  refine (one_calls y _ (by omega) (by omega)).mono ?_
  rintro e w1 ⟨v1, rfl, hv1, hb1⟩
  go_wp2_with fail
  refine (DivMod_calls w1 (ha.below hb1) hv1 (by omega) (by omega)).mono ?_
  rintro e w2 ⟨v2, r2, rfl, hv2, hb2⟩
  go_wp2_with fail
  go_ret
  exact ⟨v2, rfl, hv2, below_step hb1 hb2⟩

end Go.Proofs.Ytenmlkcjgefmpaa
