/- Contracts of the bounds: the closure that asks a share, the search, Least and Greatest. -/
import Derived.Test.YtenmlkcjgefmpaaStat
namespace Go.Proofs.Ytenmlkcjgefmpaa
open Go.RowKit Go.Proofs.YtenmlkcjgefmpaaW.PrintWords Go.Proofs.YtenmlkcjgefmpaaW.PrintLast Go.Proofs.YtenmlkcjgefmpaaW.PrintMore Go.Proofs.Ytenmlkcjgefmpaa.Fn

/-- what the closure has captured: n, k and the limit -/
structure Asks (n k r Bn Bk Bl : Nat) (W : World) : Prop where
  cn : W.cell? ⟨Bn, 0, none⟩ = some (.int .i64 (n : Int))
  ck : W.cell? ⟨Bk, 0, none⟩ = some (.int .i64 (k : Int))
  cl : ∃ A m c, W.cell? ⟨Bl, 0, none⟩ = some (.slice A m c) ∧ IsN W (.slice A m c) (10000 ^ n * r)
  hn : Bn < W.heap.size
  hk : Bk < W.heap.size
  hl : Bl < W.heap.size

theorem Asks.below {n k r Bn Bk Bl : Nat} {W W' : World} (h : Asks n k r Bn Bk Bl W) (hb : Below W.heap.size W W') : Asks n k r Bn Bk Bl W' := by
  obtain ⟨A, m, c, h1, h2⟩ := h.cl
  exact ⟨(hb.cell (p := ⟨Bn, 0, none⟩) h.hn).trans h.cn, (hb.cell (p := ⟨Bk, 0, none⟩) h.hk).trans h.ck, ⟨A, m, c, (hb.cell (p := ⟨Bl, 0, none⟩) h.hl).trans h1, h2.below hb⟩,
    Nat.lt_of_lt_of_le h.hn hb.size, Nat.lt_of_lt_of_le h.hk hb.size, Nat.lt_of_lt_of_le h.hl hb.size⟩

theorem up_half (n k s : Nat) (hn : n ≤ 500) (hs : s ≤ 10000) : Half (up s (10000 - s) n k) := by
  have h1 := up_le_all s (10000 - s) n k
  rw [show s + (10000 - s) = 10000 by omega] at h1
  have h2 := half_pow n 0 hn
  exact h2.le h1

theorem excB_cmp (n k r s : Nat) : decide (0 < cmpI (up s (10000 - s) n k * 10000) (10000 ^ n * r)) = excB n k r s := cmpI_pos _ _

set_option maxHeartbeats 2000000 in
set_option maxRecDepth 100000 in
theorem asks_calls (n k r s Bn Bk Bl : Nat) (w : World) (hn : n ≤ 500) (hk : k ≤ n) (hs : s ≤ 10000) (ha : Asks n k r Bn Bk Bl w) :
    Calls Try.prog 51 #[.int .i64 (s : Int), .pointer (some ⟨Bn, 0, none⟩), .pointer (some ⟨Bk, 0, none⟩), .pointer (some ⟨Bl, 0, none⟩)] w fun e w' => e = .returned (.bool (excB n k r s)) ∧ Below w.heap.size w w' := by
  obtain ⟨A, m, c, hcl, hnl⟩ := ha.cl
  have hcn := ha.cn
  have hck := ha.ck
  have hbn := ha.hn
  have hbk := ha.hk
  have hbl := ha.hl
  have HL := Aside0.mk hnl
  have HU := Aside0.mk (up_half n k s hn hs)
  have HM := Aside0.mk ((up_half n k s hn hs).mul (half_small (show 10000 < 4294967296 by decide)))
  have hE := excB_cmp n k r s
  clear hnl ha
  go_enter Try.func51, Try.ntmps51
  go_upto_region 1 with (fail)
  go_cut [6] (fun v6 wc => v6 = .int .i64 (cmpI (up s (10000 - s) n k * 10000) (10000 ^ n * r)) ∧ Aside0 (Below w.heap.size w wc))
  case first =>
    go_region_held3 (fun W' => W'.cell? ⟨Bn, 0, none⟩ = some (.int .i64 (n : Int)) ∧ W'.cell? ⟨Bk, 0, none⟩ = some (.int .i64 (k : Int)) ∧ W'.cell? ⟨Bl, 0, none⟩ = some (.slice A m c)) (go_keep)
      (first
        | (go_at_call 47; refine (between_calls n s k n _ hn hs hk (Nat.le_refl _)).mono ?_; rintro e w2 ⟨v13, rfl, hv, hb⟩; have c1 : w2.cell? ⟨Bn, 0, none⟩ = some (.int .i64 (n : Int)) := (hb.cell (p := ⟨Bn, 0, none⟩) hbn).trans hcn; have c2 : w2.cell? ⟨Bk, 0, none⟩ = some (.int .i64 (k : Int)) := (hb.cell (p := ⟨Bk, 0, none⟩) hbk).trans hck; have c3 : w2.cell? ⟨Bl, 0, none⟩ = some (.slice A m c) := (hb.cell (p := ⟨Bl, 0, none⟩) hbl).trans hcl; have HV := Aside0.mk (show IsN w2 v13 (up s (10000 - s) n k) by rw [← span_up _ _ _ _ hk]; exact hv); have HB := Aside0.mk (below_step (below_drew (Below.refl w.heap.size w)) hb); clear hv hb)
        | (go_at_call 49; refine (smul_calls 10000 _ HV.out HU.out.fits (by decide) (by decide) HM.out).mono ?_; rintro e w3 ⟨v14, rfl, hv2, hb2⟩; have c4 : w3.cell? ⟨Bn, 0, none⟩ = some (.int .i64 (n : Int)) := (hb2.cell (p := ⟨Bn, 0, none⟩) (Nat.lt_of_lt_of_le hbn HB.out.size)).trans c1; have c5 : w3.cell? ⟨Bk, 0, none⟩ = some (.int .i64 (k : Int)) := (hb2.cell (p := ⟨Bk, 0, none⟩) (Nat.lt_of_lt_of_le hbk HB.out.size)).trans c2; have c6 : w3.cell? ⟨Bl, 0, none⟩ = some (.slice A m c) := (hb2.cell (p := ⟨Bl, 0, none⟩) (Nat.lt_of_lt_of_le hbl HB.out.size)).trans c3; have HV2 := Aside0.mk hv2; have HB2 := Aside0.mk (below_step HB.out hb2); clear hv2 hb2)
        | (go_at_call 27; refine (Cmp_calls _ HV2.out (HL.out.below HB2.out)).mono ?_; rintro e w4 ⟨rfl, hd4⟩; have c7 : w4.cell? ⟨Bn, 0, none⟩ = some (.int .i64 (n : Int)) := ((drawn_below hd4).cell (p := ⟨Bn, 0, none⟩) (Nat.lt_of_lt_of_le hbn HB2.out.size)).trans c4; have c8 : w4.cell? ⟨Bk, 0, none⟩ = some (.int .i64 (k : Int)) := ((drawn_below hd4).cell (p := ⟨Bk, 0, none⟩) (Nat.lt_of_lt_of_le hbk HB2.out.size)).trans c5; have c9 : w4.cell? ⟨Bl, 0, none⟩ = some (.slice A m c) := ((drawn_below hd4).cell (p := ⟨Bl, 0, none⟩) (Nat.lt_of_lt_of_le hbl HB2.out.size)).trans c6; have HB4 := Aside0.mk (below_step HB2.out (drawn_below hd4)); clear hd4))
    go_wp2_with fail
    go_meet
    case rel => exact ⟨rfl, HB4⟩
  case rest =>
    obtain ⟨rfl, HB4⟩ := hcut
    go_wp2_with fail
    go_ret
    exact ⟨rfl, HB4.out⟩

set_option maxHeartbeats 2000000 in
set_option maxRecDepth 100000 in
theorem search_calls (n k r Bn Bk Bl : Nat) (w : World) (hn : n ≤ 500) (hk : k ≤ n) (hr : r < 10000) (ha : Asks n k r Bn Bk Bl w) :
    Calls Try.prog 50 #[.func (.func 51) #[] #[.pointer (some ⟨Bn, 0, none⟩), .pointer (some ⟨Bk, 0, none⟩), .pointer (some ⟨Bl, 0, none⟩)]] w fun e w' => e = .returned (.int .i64 (leastN n k r : Int)) ∧ Below w.heap.size w w' := by
  have HA := Aside0.mk ha
  clear ha
  go_enter Try.func50, Try.ntmps50
  go_wp2_with fail
  go_loopw [3, 4] (fun v3 v4 W => ∃ lo hi : Nat, v3 = .int .i64 lo ∧ v4 = .int .i64 hi ∧ lo ≤ leastN n k r ∧ leastN n k r ≤ hi ∧ hi ≤ 10000 ∧ Aside0 (Below w.heap.size w W)) (fun v3 v4 _ => (intOf v4).toNat - (intOf v3).toNat)
  case atStart => exact ⟨0, 10000, rfl, rfl, Nat.zero_le _, (leastN_spec hk hr).1, Nat.le_refl _, ⟨Below.refl _ _⟩⟩
  case round =>
    obtain ⟨lo, hi, rfl, rfl, h1, h2, h3, HB⟩ := hrel
    by_cases hlt : lo < hi
    · obtain ⟨mid, hmid⟩ : ∃ mid : Nat, mid = (lo + hi) / 2 := ⟨_, rfl⟩
      have hm1 : lo ≤ mid := by omega
      have hm2 : mid < hi := by omega
      have em : ((lo : Int) + (hi : Int)) / 2 = (mid : Int) := by omega
      clear hmid
      have hcon := asks_calls n k r mid Bn Bk Bl wr hn hk (by omega) (HA.out.below HB.out)
      have HC := Aside0.mk hcon
      have HX := Aside0.mk (excB_iff hk hr (show mid ≤ 10000 by omega))
      clear hcon
      go_wp2_with fail
      refine HC.out.mono ?_
      rintro e w3 ⟨rfl, hb3⟩
      have HB3 := Aside0.mk (below_step HB.out hb3)
      clear hb3 HC
      cases hex : excB n k r mid
      · have hlo : mid + 1 ≤ leastN n k r := by
          rcases Nat.lt_or_ge mid (leastN n k r) with h | h
          · exact h
          · rw [HX.out.2 h] at hex; cases hex
        clear hex HX
        go_wp2_with fail
        go_roundw
        case rel => exact ⟨mid + 1, hi, by go_num, rfl, hlo, h2, h3, HB3⟩
        case measure => simp [intOf]; omega
      · have hhi : leastN n k r ≤ mid := HX.out.1 hex
        clear hex HX
        go_wp2_with fail
        go_roundw
        case rel => exact ⟨lo, mid, rfl, rfl, h1, hhi, by omega, HB3⟩
        case measure => simp [intOf]; omega
    · have HE := Aside0.mk (show lo = leastN n k r by omega)
      go_wp2_with fail
      go_ret
      exact ⟨by show Ending.returned (.int .i64 (lo : Int)) = _; rw [HE.out], HB.out⟩

theorem pow_mul_fits (n r : Nat) (hn : n ≤ 500) (hr : r ≤ 10000) : Fits (10000 ^ n * r) := (half_pow n 0 hn).mul (half_small (show r < 4294967296 by omega))

set_option maxHeartbeats 400000 in
theorem Least_err (n k r : Int) (w : World) (h : ¬ wrongE n k r 1 2000 = 0) : Calls Try.prog 21 #[.int .i64 n, .int .i64 k, .int .i64 r] w fun e w' => e = .returned (.tuple #[.int .i64 0, .int .i64 (wrongE n k r 1 2000)]) ∧ Below w.heap.size w w' := by
  have hd : (wrongE n k r 1 2000 != 0) = true := by rw [bne_iff_ne]; exact h
  go_enter Try.func21, Try.ntmps21
  go_wp2_with fail
  refine (wrong_calls _ _ _ _ _ _).mono ?_
  rintro e w1 ⟨rfl, ⟨m, rfl⟩⟩
  go_wp2_with fail
  go_ret2
  exact ⟨rfl, pw_below_drewN (((Below.refl _ w).alloc (Nat.le_refl _) _).alloc (by simp) _) m⟩

set_option maxHeartbeats 2000000 in
set_option maxRecDepth 100000 in
theorem Least_ok (n k r : Nat) (w : World) (hn : n ≤ 500) (hk : k ≤ n) (hr1 : 1 ≤ r) (hr : r ≤ 2000) : Calls Try.prog 21 #[.int .i64 (n : Int), .int .i64 (k : Int), .int .i64 (r : Int)] w fun e w' => e = .returned (.tuple #[.int .i64 (leastN n k r : Int), .int .i64 0]) ∧ Below w.heap.size w w' := by
  have HW := Aside0.mk (wrongE_zero (n := n) (k := k) (x := r) (lo := 1) (hi := 2000) (by omega))
  have HP := Aside0.mk (half_pow n 0 hn)
  have HF := Aside0.mk (pow_mul_fits n r hn (by omega))
  go_enter Try.func21, Try.ntmps21
  go_wp2_with fail
  refine (wrong_calls _ _ _ _ _ _).mono ?_
  rintro e w1 ⟨rfl, ⟨m, rfl⟩⟩
  rw [HW.out]
  go_upto_region 4 with (fail)
  obtain ⟨w0, hw0⟩ : ∃ w0 : World, ((w.alloc (.cells #[.int .i64 (n : Int)] 3)).alloc (.cells #[.int .i64 (k : Int)] 3)).drewN m = w0 := ⟨_, rfl⟩
  rw [hw0]
  have g1 : w0.heap[w.heap.size]? = some (.cells #[.int .i64 (n : Int)] 3 (0, 0)) := by rw [← hw0]; exact heap_two_first _ _ _
  have g2 : w0.heap[w.heap.size + 1]? = some (.cells #[.int .i64 (k : Int)] 3 (0, 0)) := by rw [← hw0]; exact heap_two_second _ _ _
  have HZ := Aside0.mk (show w0.heap.size = w.heap.size + 2 by rw [← hw0]; simp)
  have HB := Aside0.mk (show Below w.heap.size w w0 by rw [← hw0]; exact pw_below_drewN (((Below.refl _ w).alloc (Nat.le_refl _) _).alloc (by simp) _) m)
  have hcn := cell_of_one g1
  have hlt1 := lt_of_block g1
  have hlt2 := lt_of_block g2
  have G2 := Aside0.mk (cell_of_one g2)
  have hd : w0.heap.size ≤ w0.heap.size := Nat.le_refl _
  clear hw0 g1 g2
  go_cut [9] (fun v9 wc => Aside0 (IsN wc v9 (10000 ^ n)) ∧ Aside0 (Below w0.heap.size w0 wc))
  case first =>
    go_region_held3 (fun W' => W'.cell? ⟨w.heap.size, 0, none⟩ = some (.int .i64 (n : Int))) (go_keep)
      (first
        | (go_at_call 48; refine (one_calls 10000 _ (by decide) (by decide)).mono ?_; rintro e w2 ⟨v20, rfl, hv, hb⟩; have c1 : w2.cell? ⟨w.heap.size, 0, none⟩ = some (.int .i64 (n : Int)) := (hb.cell (p := ⟨w.heap.size, 0, none⟩) hlt1).trans hcn; have HV := Aside0.mk hv; have HB2 := Aside0.mk (below_step (below_drew (Below.refl w0.heap.size w0)) hb); clear hv hb)
        | (go_at_call 34; refine (Pow_calls (a := 10000) n _ HV.out (by decide) (by decide) hn HP.out).mono ?_; rintro e w3 ⟨v22, rfl, hv2, hb2⟩; have c2 : w3.cell? ⟨w.heap.size, 0, none⟩ = some (.int .i64 (n : Int)) := (hb2.cell (p := ⟨w.heap.size, 0, none⟩) (Nat.lt_of_lt_of_le hlt1 HB2.out.size)).trans c1; have HV2 := Aside0.mk hv2; have HB3 := Aside0.mk (below_step HB2.out hb2); clear hv2 hb2))
    go_wp2_with fail
    go_meet
    case rel => exact ⟨HV2, HB3⟩
  case rest =>
    obtain ⟨HV, HBC⟩ := hcut
    have HCN := Aside0.mk hcn
    clear hcn
    go_wp2_with fail
    refine (smul_calls (r : Int) _ HV.out HP.out.fits (by omega) (by omega) (by rw [Int.toNat_natCast]; exact HF.out)).mono ?_
    rintro e w5 ⟨v27, rfl, hv, hb⟩
    obtain ⟨ds, A4, c4, rfl, d2, d3, d4, d5⟩ := id hv
    have HV5 := Aside0.mk hv
    have HB5 := Aside0.mk (below_step HBC.out hb)
    clear hv hb d4 d5
    have HA : Asks n k r w.heap.size (w.heap.size + 1) w5.heap.size (w5.alloc (.cells #[.slice A4 ds.length c4] 28)) := by
      have hb6 : Below w5.heap.size w5 (w5.alloc (.cells #[.slice A4 ds.length c4] 28)) := (Below.refl _ _).alloc (Nat.le_refl _) _
      have hs5 := HB5.out.size
      refine ⟨?_, ?_, ⟨A4, ds.length, c4, cell_of_one (heap_alloc_new _ _), ?_⟩, ?_, ?_, ?_⟩
      · exact (hb6.cell (p := ⟨w.heap.size, 0, none⟩) (Nat.lt_of_lt_of_le hlt1 hs5)).trans ((HB5.out.cell (p := ⟨w.heap.size, 0, none⟩) hlt1).trans HCN.out)
      · exact (hb6.cell (p := ⟨w.heap.size + 1, 0, none⟩) (Nat.lt_of_lt_of_le hlt2 hs5)).trans ((HB5.out.cell (p := ⟨w.heap.size + 1, 0, none⟩) hlt2).trans G2.out)
      · have h := HV5.out.below hb6
        rw [Int.toNat_natCast] at h
        exact h
      · simp; omega
      · simp; omega
      · simp
    have HAA := Aside0.mk HA
    clear HA
    go_wp2_with fail
    refine (search_calls n k r _ _ _ _ hn hk (by omega) HAA.out).mono ?_
    rintro e w7 ⟨rfl, hb7⟩
    have HB7 := Aside0.mk (below_step (below_step HB.out HB5.out) (below_step ((Below.refl w5.heap.size w5).alloc (Nat.le_refl _) _) hb7))
    clear hb7
    go_wp2_with fail
    go_ret2
    exact ⟨rfl, HB7.out⟩

theorem wrongE_turn (n k r lo hi : Int) (hn0 : -9223372036854775808 ≤ n) (hn : n ≤ 9223372036854775807) (hk0 : -9223372036854775808 ≤ k) (hk : k ≤ 9223372036854775807) : wrongE n (wrap64 (n - k)) r lo hi = wrongE n k r lo hi := by
  have e : (wrap64 (n - k) < 0 ∨ wrap64 (n - k) > n ∨ r < lo ∨ r > hi) ↔ (k < 0 ∨ k > n ∨ r < lo ∨ r > hi) := by
    unfold wrap64
    omega
  unfold wrongE
  by_cases h : k < 0 ∨ k > n ∨ r < lo ∨ r > hi
  · rw [if_pos h, if_pos (e.2 h)]
  · rw [if_neg h, if_neg (fun h' => h (e.1 h'))]

set_option maxHeartbeats 400000 in
theorem Greatest_err (n k r : Int) (w : World) (hn0 : -9223372036854775808 ≤ n) (hn : n ≤ 9223372036854775807) (hk0 : -9223372036854775808 ≤ k) (hk : k ≤ 9223372036854775807) (h : ¬ wrongE n k r 1 2000 = 0) : Calls Try.prog 22 #[.int .i64 n, .int .i64 k, .int .i64 r] w fun e w' => e = .returned (.tuple #[.int .i64 0, .int .i64 (wrongE n k r 1 2000)]) ∧ Below w.heap.size w w' := by
  have ht := wrongE_turn n k r 1 2000 hn0 hn hk0 hk
  obtain ⟨u, hu⟩ : ∃ u, wrap64 (n - k) = u := ⟨_, rfl⟩
  have hcon := fun W => Least_err n u r W (by rw [← hu, ht]; exact h)
  rw [hu] at ht
  rw [← ht] at h ⊢
  have hd : (wrongE n u r 1 2000 != 0) = true := by rw [bne_iff_ne]; exact h
  have HC := Aside0.mk hcon
  have HU := Aside0.mk hu
  clear h ht hcon hn0 hn hk0 hk hu
  go_enter Try.func22, Try.ntmps22
  go_wp2_with fail
  rw [HU.out]
  refine (HC.out _).mono ?_
  rintro e w1 ⟨rfl, hb⟩
  have HB := Aside0.mk hb
  clear hb
  go_wp2_with fail
  go_ret2
  exact ⟨rfl, HB.out⟩

set_option maxHeartbeats 400000 in
theorem Greatest_ok (n k r : Nat) (w : World) (hn : n ≤ 500) (hk : k ≤ n) (hr1 : 1 ≤ r) (hr : r ≤ 2000) : Calls Try.prog 22 #[.int .i64 (n : Int), .int .i64 (k : Int), .int .i64 (r : Int)] w fun e w' => e = .returned (.tuple #[.int .i64 (10000 - (leastN n (n - k) r : Int)), .int .i64 0]) ∧ Below w.heap.size w w' := by
  have hcon := fun W => Least_ok n (n - k) r W hn (by omega) hr1 hr
  have e1 : ((n - k : Nat) : Int) = (n : Int) - (k : Int) := by omega
  rw [e1] at hcon
  have HC := Aside0.mk hcon
  have hle := (leastN_spec (n := n) (k := n - k) (r := r) (by omega) (by omega)).1
  clear hcon e1
  go_enter Try.func22, Try.ntmps22
  go_wp2_with fail
  refine (HC.out _).mono ?_
  rintro e w1 ⟨rfl, hb⟩
  have HB := Aside0.mk hb
  clear hb
  go_wp2_with fail
  go_ret2
  exact ⟨rfl, HB.out⟩

end Go.Proofs.Ytenmlkcjgefmpaa
