/- Contracts of Chance, Upper, Lower, Least and Greatest. Contracts of the bounds: the closure that asks a share, the search, Least and Greatest. The contract of Quantile. -/
import Derived.Test.YteeacbgaehdodaaGreatBetw
import Derived.Test.YteeacbgaehdodaaGreatMathC
import Derived.Test.YteeacbgaehdodaaGreatShelf
import Derived.Shelf.Sort.Plain
import Derived.Sort.OwnSortedInts
namespace Go.Proofs.YteeacbgaehdodaaGreat
open Go.RowKit Go.Proofs.YteeacbgaehdodaaGreatW.PrintWords Go.Proofs.YteeacbgaehdodaaGreatW.PrintLast Go.Proofs.YteeacbgaehdodaaGreatW.PrintMore Go.Proofs.YteeacbgaehdodaaGreat.Fn

theorem wrong_fn (n k x lo hi : Int) : stats_wrong.f 1 n k x lo hi = some (wrongE n k x lo hi) := by
  unfold stats_wrong.f wrongE
  by_cases h1 : k < 0
  · rw [if_pos h1, if_pos (.inl h1)]; rfl
  · rw [if_neg h1]
    by_cases h2 : k > n
    · rw [if_pos h2, if_pos (.inr (.inl h2))]; rfl
    · rw [if_neg h2]
      by_cases h3 : x < lo
      · rw [if_pos h3, if_pos (.inr (.inr (.inl h3)))]; rfl
      · rw [if_neg h3]
        by_cases h4 : x > hi
        · rw [if_pos (.inr (.inr (.inr h4))), decide_eq_true h4]; rfl
        · rw [if_neg (by omega), decide_eq_false h4]
          simp only [stats_wrong.j0]
          rw [if_neg (by decide)]
          split <;> rfl

theorem wrong_calls (n k x lo hi : Int) (w : World) : Calls Tryz.prog 45 #[.int .i64 n, .int .i64 k, .int .i64 x, .int .i64 lo, .int .i64 hi] w fun e w' => e = .returned (.int .i64 (wrongE n k x lo hi)) ∧ Drawn0 w w' :=
  stats_wrong.calls 1 n k x lo hi _ w (wrong_fn n k x lo hi)

set_option maxHeartbeats 400000 in
theorem Upper_err (n k s : Int) (w : World) (h : ¬ wrongE n k s 0 10000 = 0) : Calls Tryz.prog 28 #[.int .i64 n, .int .i64 k, .int .i64 s] w (GivesNE w 0 (wrongE n k s 0 10000)) := by
  have hd : (wrongE n k s 0 10000 != 0) = true := by rw [bne_iff_ne]; exact h
  go_enter Tryz.func28, Tryz.ntmps28
  go_wp2_with fail
  refine (wrong_calls _ _ _ _ _ _).mono ?_
  rintro e w1 ⟨rfl, ⟨m, rfl⟩⟩
  go_wp2_with fail
  go_ret2
  exact ⟨_, rfl, IsN.nil _, pw_below_drewN (Below.refl _ _) m⟩

set_option maxHeartbeats 400000 in
theorem Upper_ok (n k s : Nat) (w : World) (hn : n ≤ 500) (hk : k ≤ n) (hs : s ≤ 10000) : Calls Tryz.prog 28 #[.int .i64 (n : Int), .int .i64 (k : Int), .int .i64 (s : Int)] w (GivesNE w (up s (10000 - s) n k) 0) := by
  have hw := wrongE_zero (n := n) (k := k) (x := s) (lo := 0) (hi := 10000) (by omega)
  have HW := Aside0.mk hw
  clear hw
  go_enter Tryz.func28, Tryz.ntmps28
  go_wp2_with fail
  refine (wrong_calls _ _ _ _ _ _).mono ?_
  rintro e w1 ⟨rfl, ⟨m, rfl⟩⟩
  rw [HW.out]
  go_wp2_with fail
  refine (between_calls n s k n _ hn hs hk (Nat.le_refl _)).mono ?_
  rintro e w1 ⟨v, rfl, hv, hb⟩
  go_wp2_with fail
  go_ret2
  exact ⟨v, rfl, by rw [← span_up _ _ _ _ hk]; exact hv, below_step (pw_below_drewN (Below.refl w.heap.size w) m) hb⟩

set_option maxHeartbeats 400000 in
theorem Lower_err (n k s : Int) (w : World) (h : ¬ wrongE n k s 0 10000 = 0) : Calls Tryz.prog 29 #[.int .i64 n, .int .i64 k, .int .i64 s] w (GivesNE w 0 (wrongE n k s 0 10000)) := by
  have hd : (wrongE n k s 0 10000 != 0) = true := by rw [bne_iff_ne]; exact h
  go_enter Tryz.func29, Tryz.ntmps29
  go_wp2_with fail
  refine (wrong_calls _ _ _ _ _ _).mono ?_
  rintro e w1 ⟨rfl, ⟨m, rfl⟩⟩
  go_wp2_with fail
  go_ret2
  exact ⟨_, rfl, IsN.nil _, pw_below_drewN (Below.refl _ _) m⟩

set_option maxHeartbeats 400000 in
theorem Lower_ok (n k s : Nat) (w : World) (hn : n ≤ 500) (hk : k ≤ n) (hs : s ≤ 10000) : Calls Tryz.prog 29 #[.int .i64 (n : Int), .int .i64 (k : Int), .int .i64 (s : Int)] w (GivesNE w (low s (10000 - s) n k) 0) := by
  have hw := wrongE_zero (n := n) (k := k) (x := s) (lo := 0) (hi := 10000) (by omega)
  have HW := Aside0.mk hw
  clear hw
  go_enter Tryz.func29, Tryz.ntmps29
  go_wp2_with fail
  refine (wrong_calls _ _ _ _ _ _).mono ?_
  rintro e w1 ⟨rfl, ⟨m, rfl⟩⟩
  rw [HW.out]
  go_wp2_with fail
  refine (between_calls n s 0 k _ hn hs (Nat.zero_le _) hk).mono ?_
  rintro e w1 ⟨v, rfl, hv, hb⟩
  go_wp2_with fail
  go_ret2
  exact ⟨v, rfl, by rw [← span_low_eq _ _ _ _ hk]; exact hv, below_step (pw_below_drewN (Below.refl w.heap.size w) m) hb⟩

end Go.Proofs.YteeacbgaehdodaaGreat

namespace Go.Proofs.YteeacbgaehdodaaGreat
open Go.RowKit Go.Proofs.YteeacbgaehdodaaGreatW.PrintWords Go.Proofs.YteeacbgaehdodaaGreatW.PrintLast Go.Proofs.YteeacbgaehdodaaGreatW.PrintMore Go.Proofs.YteeacbgaehdodaaGreat.Fn

/-- what the closure has captured: n, k and the limit -/
structure Asks (n k r Bn Bk Bl : Nat) (W : World) : Prop where
  cn : W.cell? ⟨Bn, 0, none⟩ = some (.int .i64 (n : Int))
  ck : W.cell? ⟨Bk, 0, none⟩ = some (.int .i64 (k : Int))
  cl : ∃ A m c, W.cell? ⟨Bl, 0, none⟩ = some (.slice A m c) ∧ IsN W (.slice A m c) (10000 ^ n * r)
  hn : Bn < W.heap.size
  hk : Bk < W.heap.size
  hl : Bl < W.heap.size

theorem Asks.below {n k r Bn Bk Bl : Nat} {W W' : World} (h : Asks n k r Bn Bk Bl W) (hb : Below W.heap.size W W') : Asks n k r Bn Bk Bl W' := by
  obtain ⟨A, m, c, h1, h2⟩ := h.cl
  exact ⟨(hb.cell (p := ⟨Bn, 0, none⟩) h.hn).trans h.cn, (hb.cell (p := ⟨Bk, 0, none⟩) h.hk).trans h.ck, ⟨A, m, c, (hb.cell (p := ⟨Bl, 0, none⟩) h.hl).trans h1, h2.below hb⟩,
    Nat.lt_of_lt_of_le h.hn hb.size, Nat.lt_of_lt_of_le h.hk hb.size, Nat.lt_of_lt_of_le h.hl hb.size⟩

theorem up_half (n k s : Nat) (hn : n ≤ 500) (hs : s ≤ 10000) : Half (up s (10000 - s) n k) := by
  have h1 := up_le_all s (10000 - s) n k
  rw [show s + (10000 - s) = 10000 by omega] at h1
  have h2 := half_pow n 0 hn
  exact h2.le h1

theorem excB_cmp (n k r s : Nat) : decide (0 < cmpI (up s (10000 - s) n k * 10000) (10000 ^ n * r)) = excB n k r s := cmpI_pos _ _

set_option maxHeartbeats 2000000 in
set_option maxRecDepth 100000 in
theorem asks_calls (n k r s Bn Bk Bl : Nat) (w : World) (hn : n ≤ 500) (hk : k ≤ n) (hs : s ≤ 10000) (ha : Asks n k r Bn Bk Bl w) :
    Calls Tryz.prog 49 #[.int .i64 (s : Int), .pointer (some ⟨Bn, 0, none⟩), .pointer (some ⟨Bk, 0, none⟩), .pointer (some ⟨Bl, 0, none⟩)] w fun e w' => e = .returned (.bool (excB n k r s)) ∧ Below w.heap.size w w' := by
  obtain ⟨A, m, c, hcl, hnl⟩ := ha.cl
  have hcn := ha.cn
  have hck := ha.ck
  have hbn := ha.hn
  have hbk := ha.hk
  have hbl := ha.hl
  have HL := Aside0.mk hnl
  have HU := Aside0.mk (up_half n k s hn hs)
  have HM := Aside0.mk ((up_half n k s hn hs).mul (half_small (show 10000 < 4294967296 by decide)))
  have hE := excB_cmp n k r s
  clear hnl ha
  go_enter Tryz.func49, Tryz.ntmps49
  go_upto_region 1 with (fail)
  go_cut [6] (fun v6 wc => v6 = .int .i64 (cmpI (up s (10000 - s) n k * 10000) (10000 ^ n * r)) ∧ Aside0 (Below w.heap.size w wc))
  case first =>
    go_region_held3 (fun W' => W'.cell? ⟨Bn, 0, none⟩ = some (.int .i64 (n : Int)) ∧ W'.cell? ⟨Bk, 0, none⟩ = some (.int .i64 (k : Int)) ∧ W'.cell? ⟨Bl, 0, none⟩ = some (.slice A m c)) (go_keep)
      (first
        | (go_at_call 50; refine (between_calls n s k n _ hn hs hk (Nat.le_refl _)).mono ?_; rintro e w2 ⟨v13, rfl, hv, hb⟩; have c1 : w2.cell? ⟨Bn, 0, none⟩ = some (.int .i64 (n : Int)) := (hb.cell (p := ⟨Bn, 0, none⟩) hbn).trans hcn; have c2 : w2.cell? ⟨Bk, 0, none⟩ = some (.int .i64 (k : Int)) := (hb.cell (p := ⟨Bk, 0, none⟩) hbk).trans hck; have c3 : w2.cell? ⟨Bl, 0, none⟩ = some (.slice A m c) := (hb.cell (p := ⟨Bl, 0, none⟩) hbl).trans hcl; have HV := Aside0.mk (show IsN w2 v13 (up s (10000 - s) n k) by rw [← span_up _ _ _ _ hk]; exact hv); have HB := Aside0.mk (below_step (below_drew (Below.refl w.heap.size w)) hb); clear hv hb)
        | (go_at_call 47; refine (smul_calls 10000 _ HV.out HU.out.fits (by decide) (by decide) HM.out).mono ?_; rintro e w3 ⟨v14, rfl, hv2, hb2⟩; have c4 : w3.cell? ⟨Bn, 0, none⟩ = some (.int .i64 (n : Int)) := (hb2.cell (p := ⟨Bn, 0, none⟩) (Nat.lt_of_lt_of_le hbn HB.out.size)).trans c1; have c5 : w3.cell? ⟨Bk, 0, none⟩ = some (.int .i64 (k : Int)) := (hb2.cell (p := ⟨Bk, 0, none⟩) (Nat.lt_of_lt_of_le hbk HB.out.size)).trans c2; have c6 : w3.cell? ⟨Bl, 0, none⟩ = some (.slice A m c) := (hb2.cell (p := ⟨Bl, 0, none⟩) (Nat.lt_of_lt_of_le hbl HB.out.size)).trans c3; have HV2 := Aside0.mk hv2; have HB2 := Aside0.mk (below_step HB.out hb2); clear hv2 hb2)
        | (go_at_call 27; refine (Cmp_calls _ HV2.out (HL.out.below HB2.out)).mono ?_; rintro e w4 ⟨rfl, hd4⟩; have c7 : w4.cell? ⟨Bn, 0, none⟩ = some (.int .i64 (n : Int)) := ((drawn_below hd4).cell (p := ⟨Bn, 0, none⟩) (Nat.lt_of_lt_of_le hbn HB2.out.size)).trans c4; have c8 : w4.cell? ⟨Bk, 0, none⟩ = some (.int .i64 (k : Int)) := ((drawn_below hd4).cell (p := ⟨Bk, 0, none⟩) (Nat.lt_of_lt_of_le hbk HB2.out.size)).trans c5; have c9 : w4.cell? ⟨Bl, 0, none⟩ = some (.slice A m c) := ((drawn_below hd4).cell (p := ⟨Bl, 0, none⟩) (Nat.lt_of_lt_of_le hbl HB2.out.size)).trans c6; have HB4 := Aside0.mk (below_step HB2.out (drawn_below hd4)); clear hd4))
    go_wp2_with fail
    go_meet
    case rel => exact ⟨rfl, HB4⟩
  case rest =>
    obtain ⟨rfl, HB4⟩ := hcut
    go_wp2_with fail
    go_ret
    exact ⟨rfl, HB4.out⟩

set_option maxHeartbeats 2000000 in
set_option maxRecDepth 100000 in
theorem search_calls (n k r Bn Bk Bl : Nat) (w : World) (hn : n ≤ 500) (hk : k ≤ n) (hr : r < 10000) (ha : Asks n k r Bn Bk Bl w) :
    Calls Tryz.prog 48 #[.func (.func 49) #[] #[.pointer (some ⟨Bn, 0, none⟩), .pointer (some ⟨Bk, 0, none⟩), .pointer (some ⟨Bl, 0, none⟩)]] w fun e w' => e = .returned (.int .i64 (leastN n k r : Int)) ∧ Below w.heap.size w w' := by
  have HA := Aside0.mk ha
  clear ha
  go_enter Tryz.func48, Tryz.ntmps48
  go_wp2_with fail
  go_loopw [3, 4] (fun v3 v4 W => ∃ lo hi : Nat, v3 = .int .i64 lo ∧ v4 = .int .i64 hi ∧ lo ≤ leastN n k r ∧ leastN n k r ≤ hi ∧ hi ≤ 10000 ∧ Aside0 (Below w.heap.size w W)) (fun v3 v4 _ => (intOf v4).toNat - (intOf v3).toNat)
  case atStart => exact ⟨0, 10000, rfl, rfl, Nat.zero_le _, (leastN_spec hk hr).1, Nat.le_refl _, ⟨Below.refl _ _⟩⟩
  case round =>
    obtain ⟨lo, hi, rfl, rfl, h1, h2, h3, HB⟩ := hrel
    by_cases hlt : lo < hi
    · obtain ⟨mid, hmid⟩ : ∃ mid : Nat, mid = (lo + hi) / 2 := ⟨_, rfl⟩
      have hm1 : lo ≤ mid := by omega
      have hm2 : mid < hi := by omega
      have em : ((lo : Int) + (hi : Int)) / 2 = (mid : Int) := by omega
      clear hmid
      have hcon := asks_calls n k r mid Bn Bk Bl wr hn hk (by omega) (HA.out.below HB.out)
      have HC := Aside0.mk hcon
      have HX := Aside0.mk (excB_iff hk hr (show mid ≤ 10000 by omega))
      clear hcon
      go_wp2_with fail
      refine HC.out.mono ?_
      rintro e w3 ⟨rfl, hb3⟩
      have HB3 := Aside0.mk (below_step HB.out hb3)
      clear hb3 HC
      cases hex : excB n k r mid
      · have hlo : mid + 1 ≤ leastN n k r := by
          rcases Nat.lt_or_ge mid (leastN n k r) with h | h
          · exact h
          · rw [HX.out.2 h] at hex; cases hex
        clear hex HX
        go_wp2_with fail
        go_roundw
        case rel => exact ⟨mid + 1, hi, by go_num, rfl, hlo, h2, h3, HB3⟩
        case measure => simp [intOf]; omega
      · have hhi : leastN n k r ≤ mid := HX.out.1 hex
        clear hex HX
        go_wp2_with fail
        go_roundw
        case rel => exact ⟨lo, mid, rfl, rfl, h1, hhi, by omega, HB3⟩
        case measure => simp [intOf]; omega
    · have HE := Aside0.mk (show lo = leastN n k r by omega)
      go_wp2_with fail
      go_ret
      exact ⟨by show Ending.returned (.int .i64 (lo : Int)) = _; rw [HE.out], HB.out⟩

theorem pow_mul_fits (n r : Nat) (hn : n ≤ 500) (hr : r ≤ 10000) : Fits (10000 ^ n * r) := (half_pow n 0 hn).mul (half_small (show r < 4294967296 by omega))

set_option maxHeartbeats 400000 in
theorem Least_err (n k r : Int) (w : World) (h : ¬ wrongE n k r 1 2000 = 0) : Calls Tryz.prog 21 #[.int .i64 n, .int .i64 k, .int .i64 r] w fun e w' => e = .returned (.tuple #[.int .i64 0, .int .i64 (wrongE n k r 1 2000)]) ∧ Below w.heap.size w w' := by
  have hd : (wrongE n k r 1 2000 != 0) = true := by rw [bne_iff_ne]; exact h
  go_enter Tryz.func21, Tryz.ntmps21
  go_wp2_with fail
  refine (wrong_calls _ _ _ _ _ _).mono ?_
  rintro e w1 ⟨rfl, ⟨m, rfl⟩⟩
  go_wp2_with fail
  go_ret2
  exact ⟨rfl, pw_below_drewN (((Below.refl _ w).alloc (Nat.le_refl _) _).alloc (by simp) _) m⟩

set_option maxHeartbeats 2000000 in
set_option maxRecDepth 100000 in
theorem Least_ok (n k r : Nat) (w : World) (hn : n ≤ 500) (hk : k ≤ n) (hr1 : 1 ≤ r) (hr : r ≤ 2000) : Calls Tryz.prog 21 #[.int .i64 (n : Int), .int .i64 (k : Int), .int .i64 (r : Int)] w fun e w' => e = .returned (.tuple #[.int .i64 (leastN n k r : Int), .int .i64 0]) ∧ Below w.heap.size w w' := by
  have HW := Aside0.mk (wrongE_zero (n := n) (k := k) (x := r) (lo := 1) (hi := 2000) (by omega))
  have HP := Aside0.mk (half_pow n 0 hn)
  have HF := Aside0.mk (pow_mul_fits n r hn (by omega))
  go_enter Tryz.func21, Tryz.ntmps21
  go_wp2_with fail
  refine (wrong_calls _ _ _ _ _ _).mono ?_
  rintro e w1 ⟨rfl, ⟨m, rfl⟩⟩
  rw [HW.out]
  go_upto_region 4 with (fail)
  obtain ⟨w0, hw0⟩ : ∃ w0 : World, ((w.alloc (.cells #[.int .i64 (n : Int)] 3)).alloc (.cells #[.int .i64 (k : Int)] 3)).drewN m = w0 := ⟨_, rfl⟩
  rw [hw0]
  have g1 : w0.heap[w.heap.size]? = some (.cells #[.int .i64 (n : Int)] 3 (0, 0)) := by rw [← hw0]; exact heap_two_first _ _ _
  have g2 : w0.heap[w.heap.size + 1]? = some (.cells #[.int .i64 (k : Int)] 3 (0, 0)) := by rw [← hw0]; exact heap_two_second _ _ _
  have HZ := Aside0.mk (show w0.heap.size = w.heap.size + 2 by rw [← hw0]; simp)
  have HB := Aside0.mk (show Below w.heap.size w w0 by rw [← hw0]; exact pw_below_drewN (((Below.refl _ w).alloc (Nat.le_refl _) _).alloc (by simp) _) m)
  have hcn := cell_of_one g1
  have hlt1 := lt_of_block g1
  have hlt2 := lt_of_block g2
  have G2 := Aside0.mk (cell_of_one g2)
  have hd : w0.heap.size ≤ w0.heap.size := Nat.le_refl _
  clear hw0 g1 g2
  go_cut [9] (fun v9 wc => Aside0 (IsN wc v9 (10000 ^ n)) ∧ Aside0 (Below w0.heap.size w0 wc))
  case first =>
    go_region_held3 (fun W' => W'.cell? ⟨w.heap.size, 0, none⟩ = some (.int .i64 (n : Int))) (go_keep)
      (first
        | (go_at_call 46; refine (one_calls 10000 _ (by decide) (by decide)).mono ?_; rintro e w2 ⟨v20, rfl, hv, hb⟩; have c1 : w2.cell? ⟨w.heap.size, 0, none⟩ = some (.int .i64 (n : Int)) := (hb.cell (p := ⟨w.heap.size, 0, none⟩) hlt1).trans hcn; have HV := Aside0.mk hv; have HB2 := Aside0.mk (below_step (below_drew (Below.refl w0.heap.size w0)) hb); clear hv hb)
        | (go_at_call 24; refine (Pow_calls (a := 10000) n _ HV.out (by decide) (by decide) hn HP.out).mono ?_; rintro e w3 ⟨v22, rfl, hv2, hb2⟩; have c2 : w3.cell? ⟨w.heap.size, 0, none⟩ = some (.int .i64 (n : Int)) := (hb2.cell (p := ⟨w.heap.size, 0, none⟩) (Nat.lt_of_lt_of_le hlt1 HB2.out.size)).trans c1; have HV2 := Aside0.mk hv2; have HB3 := Aside0.mk (below_step HB2.out hb2); clear hv2 hb2))
    go_wp2_with fail
    go_meet
    case rel => exact ⟨HV2, HB3⟩
  case rest =>
    obtain ⟨HV, HBC⟩ := hcut
    have HCN := Aside0.mk hcn
    clear hcn
    go_wp2_with fail
    refine (smul_calls (r : Int) _ HV.out HP.out.fits (by omega) (by omega) (by rw [Int.toNat_natCast]; exact HF.out)).mono ?_
    rintro e w5 ⟨v27, rfl, hv, hb⟩
    obtain ⟨ds, A4, c4, rfl, d2, d3, d4, d5⟩ := id hv
    have HV5 := Aside0.mk hv
    have HB5 := Aside0.mk (below_step HBC.out hb)
    clear hv hb d4 d5
    have HA : Asks n k r w.heap.size (w.heap.size + 1) w5.heap.size (w5.alloc (.cells #[.slice A4 ds.length c4] 49)) := by
      have hb6 : Below w5.heap.size w5 (w5.alloc (.cells #[.slice A4 ds.length c4] 49)) := (Below.refl _ _).alloc (Nat.le_refl _) _
      have hs5 := HB5.out.size
      refine ⟨?_, ?_, ⟨A4, ds.length, c4, cell_of_one (heap_alloc_new _ _), ?_⟩, ?_, ?_, ?_⟩
      · exact (hb6.cell (p := ⟨w.heap.size, 0, none⟩) (Nat.lt_of_lt_of_le hlt1 hs5)).trans ((HB5.out.cell (p := ⟨w.heap.size, 0, none⟩) hlt1).trans HCN.out)
      · exact (hb6.cell (p := ⟨w.heap.size + 1, 0, none⟩) (Nat.lt_of_lt_of_le hlt2 hs5)).trans ((HB5.out.cell (p := ⟨w.heap.size + 1, 0, none⟩) hlt2).trans G2.out)
      · have h := HV5.out.below hb6
        rw [Int.toNat_natCast] at h
        exact h
      · simp; omega
      · simp; omega
      · simp
    have HAA := Aside0.mk HA
    clear HA
    go_wp2_with fail
    refine (search_calls n k r _ _ _ _ hn hk (by omega) HAA.out).mono ?_
    rintro e w7 ⟨rfl, hb7⟩
    have HB7 := Aside0.mk (below_step (below_step HB.out HB5.out) (below_step ((Below.refl w5.heap.size w5).alloc (Nat.le_refl _) _) hb7))
    clear hb7
    go_wp2_with fail
    go_ret2
    exact ⟨rfl, HB7.out⟩

theorem wrongE_turn (n k r lo hi : Int) (hn0 : -9223372036854775808 ≤ n) (hn : n ≤ 9223372036854775807) (hk0 : -9223372036854775808 ≤ k) (hk : k ≤ 9223372036854775807) : wrongE n (wrap64 (n - k)) r lo hi = wrongE n k r lo hi := by
  have e : (wrap64 (n - k) < 0 ∨ wrap64 (n - k) > n ∨ r < lo ∨ r > hi) ↔ (k < 0 ∨ k > n ∨ r < lo ∨ r > hi) := by
    unfold wrap64
    omega
  unfold wrongE
  by_cases h : k < 0 ∨ k > n ∨ r < lo ∨ r > hi
  · rw [if_pos h, if_pos (e.2 h)]
  · rw [if_neg h, if_neg (fun h' => h (e.1 h'))]

set_option maxHeartbeats 400000 in
theorem Greatest_err (n k r : Int) (w : World) (hn0 : -9223372036854775808 ≤ n) (hn : n ≤ 9223372036854775807) (hk0 : -9223372036854775808 ≤ k) (hk : k ≤ 9223372036854775807) (h : ¬ wrongE n k r 1 2000 = 0) : Calls Tryz.prog 22 #[.int .i64 n, .int .i64 k, .int .i64 r] w fun e w' => e = .returned (.tuple #[.int .i64 0, .int .i64 (wrongE n k r 1 2000)]) ∧ Below w.heap.size w w' := by
  have ht := wrongE_turn n k r 1 2000 hn0 hn hk0 hk
  obtain ⟨u, hu⟩ : ∃ u, wrap64 (n - k) = u := ⟨_, rfl⟩
  have hcon := fun W => Least_err n u r W (by rw [← hu, ht]; exact h)
  rw [hu] at ht
  rw [← ht] at h ⊢
  have hd : (wrongE n u r 1 2000 != 0) = true := by rw [bne_iff_ne]; exact h
  have HC := Aside0.mk hcon
  have HU := Aside0.mk hu
  clear h ht hcon hn0 hn hk0 hk hu
  go_enter Tryz.func22, Tryz.ntmps22
  go_wp2_with fail
  rw [HU.out]
  refine (HC.out _).mono ?_
  rintro e w1 ⟨rfl, hb⟩
  have HB := Aside0.mk hb
  clear hb
  go_wp2_with fail
  go_ret2
  exact ⟨rfl, HB.out⟩

set_option maxHeartbeats 400000 in
theorem Greatest_ok (n k r : Nat) (w : World) (hn : n ≤ 500) (hk : k ≤ n) (hr1 : 1 ≤ r) (hr : r ≤ 2000) : Calls Tryz.prog 22 #[.int .i64 (n : Int), .int .i64 (k : Int), .int .i64 (r : Int)] w fun e w' => e = .returned (.tuple #[.int .i64 (10000 - (leastN n (n - k) r : Int)), .int .i64 0]) ∧ Below w.heap.size w w' := by
  have hcon := fun W => Least_ok n (n - k) r W hn (by omega) hr1 hr
  have e1 : ((n - k : Nat) : Int) = (n : Int) - (k : Int) := by omega
  rw [e1] at hcon
  have HC := Aside0.mk hcon
  have hle := (leastN_spec (n := n) (k := n - k) (r := r) (by omega) (by omega)).1
  clear hcon e1
  go_enter Tryz.func22, Tryz.ntmps22
  go_wp2_with fail
  refine (HC.out _).mono ?_
  rintro e w1 ⟨rfl, hb⟩
  have HB := Aside0.mk hb
  clear hb
  go_wp2_with fail
  go_ret2
  exact ⟨rfl, HB.out⟩

end Go.Proofs.YteeacbgaehdodaaGreat

namespace Go.Proofs.YteeacbgaehdodaaGreat
open Go.RowKit Go.Shelf Go.Sort Go.Proofs.YteeacbgaehdodaaGreatW.PrintWords Go.Proofs.YteeacbgaehdodaaGreatW.PrintLast Go.Proofs.YteeacbgaehdodaaGreatW.PrintMore Go.Proofs.YteeacbgaehdodaaGreat.Fn
attribute [local go_sem] max2_int min2_int max_two min_two max_three min_three max_four min_four

/-- The slice v reads as the list of whole numbers. -/
def IsI (w : World) (v : Value) (l : List Int) : Prop := ∃ (A : Option Addr) (c : Nat), v = .slice A l.length c ∧ l.length ≤ c ∧ Kd.C (Kd.int .i64) w A l.length l

theorem IsI.below {w w' : World} {v : Value} {l : List Int} (h : IsI w v l) (hb : Below w.heap.size w w') : IsI w' v l := by
  obtain ⟨A, c, h1, h2, h3⟩ := h
  exact ⟨A, c, h1, h2, Kd.C_below h3 hb⟩
theorem IsI.len {w : World} {A : Option Addr} {n c : Nat} {l : List Int} (h : IsI w (.slice A n c) l) : n = l.length := by
  obtain ⟨_, _, e, _⟩ := h
  injection e

def sortI (l : List Int) : List Int := l.mergeSort fun x y => decide (x ≤ y)
theorem sortI_length (l : List Int) : (sortI l).length = l.length := List.length_mergeSort l
def rankP (p : Nat) : Nat := if (p + 9999) / 10000 < 1 then 0 else (p + 9999) / 10000 - 1
def rankQ (len q : Nat) : Nat := rankP (q * len)
theorem rankP_lt {p n : Nat} (h : p ≤ 10000 * n) (hn : 0 < n) : rankP p < n := by
  unfold rankP
  split <;> omega
theorem rankP_small {p : Nat} (h : ((p : Int) + 10000 - 1) / 10000 < 1) : rankP p = 0 := by
  unfold rankP
  rw [if_pos (by omega)]
theorem rankP_big {p : Nat} (h : ¬ ((p : Int) + 10000 - 1) / 10000 < 1) : (rankP p : Int) = ((p : Int) + 10000 - 1) / 10000 - 1 := by
  unfold rankP
  rw [if_neg (by omega)]
  omega
def quantE (l : List Int) (q : Int) : Int := if l.length > 10000 then 5 else if q < 0 ∨ q > 10000 then 2 else if l.length = 0 then 6 else 0
def quantN (l : List Int) (q : Int) : Int := if quantE l q = 0 then (sortI l).getD (rankQ l.length q.toNat) 0 else 0

theorem rankQ_lt {len q : Nat} (h : 0 < len) (hq : q ≤ 10000) : rankQ len q < len := by
  exact rankP_lt (Nat.mul_le_mul_right _ hq) h

set_option maxHeartbeats 1000000 in
theorem CloneI_some (ad : Addr) (c : Nat) (l0 : List Int) (w : World) (hr : Kd.C (Kd.int .i64) w (some ad) l0.length l0) (hl : l0.length ≤ 100000) :
    Calls Tryz.prog 82 #[.slice (some ad) l0.length c] w fun e w' => ∃ v : Value, e = .returned v ∧ Kd.R (Kd.int .i64) 3 w' w.heap.size (fun _ => True) v l0 ∧ Below w.heap.size w w' := by
  have HR0 := Aside0.mk hr
  have HL := Aside0.mk hl
  have HB := Aside0.mk (Below.refl w.heap.size w)
  clear hr hl
  have hnil := fun W => Lib.run_eql_slice_nil (P := Tryz.prog) W 67 3 (some ad) l0.length c 0 0 Tryz.underlying67
  go_enter Tryz.func82, Tryz.ntmps82
  go_wp2_with (first
    | ((with_reducible refine gate_dst (N := 5) rfl ?_); refine Kd.R_lit (Kd.int .i64) _ 3 ?hg (N := 5) ?hd (xs := ([] : List Int)) (inner := []) (ok := fun _ => True) (okp := fun _ => True) ?hr ?hp (fun _ hk => hk) trivial (Below.refl _ _) (Nat.le_refl _) (by simp) ?_; (case hd => rfl); (case hg => rfl); (case hr => first | (go_simp; done) | (go_simp; rfl)); (case hp => exact (Reps.none _ _)); intro v453 w3 ho4 hb hg_ hnew_; clear hg_ hnew_; have n0_ := Aside0.mk (Kd.R_lower ho4 (below_size (by repeat (first | (with_reducible first | exact HB.out | apply below_alloc | apply pw_below_drewN | apply below_drew1) | exact HB.out)))); have n1_ := Aside0.mk (below_step (by repeat (first | (with_reducible first | exact HB.out | apply below_alloc | apply pw_below_drewN | apply below_drew1) | exact HB.out)) hb); clear HB; have HO454 := n0_; have HB := n1_; clear n0_ n1_; clear hb ho4)
    | ((with_reducible refine gate_builtin (b := .append) (xs := #[.tmp 5, .tmp 6]) rfl ?_); at_builtin; refine Kd.R_append_rows (Kd.int .i64) (w0 := w) w.heap.size rfl (.tmp 5) (.tmp 6) 67 3 (.int .i64 0) 8 rfl Tryz.underlying67 info3 rfl (by decide) (by omega) v453 [] l0 _ _ _ (fun _ => True) (fun _ => False) rfl rfl ?aO ?aR (fun _ _ h => h) (fun _ h => h.elim) ?aF ?aB ?aS ?aL ?_; (case aR => exact (Kd.C_below HR0.out HB.out)); (case aB => exact (by repeat (first | (with_reducible first | exact HB.out | apply below_alloc | apply pw_below_drewN | apply below_drew1) | exact HB.out))); (case aF => exact (fun _ _ => trivial)); (case aO => exact HO454.out); (case aS => exact (below_size (by repeat (first | (with_reducible first | exact HB.out | apply below_alloc | apply pw_below_drewN | apply below_drew1) | exact HB.out)))); (case aL => have := HL.out; simp; omega); intro v456 w5 ho hb hg hat; have n0_ := Aside0.mk (hb); have n1_ := Aside0.mk (ho); clear HB; clear HO454; have HB := n0_; have HO457 := n1_; clear n0_ n1_; clear ho hb hg hat))
  go_ret
  exact ⟨_, rfl, HO457.out, HB.out⟩

theorem nums_map (l : List Int) : nums .i64 l = l.map (Value.int .i64) := rfl

/-- slices.Sort on a row of the call's own -/
theorem Sort_calls (l : List Int) (v : Value) (w0 w : World) (hl : 0 < l.length) (hle : l.length ≤ 100000) (hb : Below w0.heap.size w0 w) (ho : Kd.R (Kd.int .i64) 3 w w0.heap.size (fun _ => True) v l) :
    Calls Tryz.prog 83 #[v] w fun e w' => e = .returned (.tuple #[]) ∧ Kd.R (Kd.int .i64) 3 w' w0.heap.size (fun _ => True) v (sortI l) ∧ Below w0.heap.size w0 w' := by
  obtain ⟨_, inner, hown, hreps⟩ := ho
  have hin : inner = l.map (Value.int .i64) := by
    apply List.ext_getElem
    · rw [hreps.1, List.length_map]; show l.length * 1 = l.length; omega
    · intro i h1 h2
      have h3 : i < l.length := by simpa using h2
      have h4 : ((inner.drop (i * 1)).take 1) = [.int .i64 l[i]] := hreps.2 i l[i] (List.getElem?_eq_getElem h3)
      rw [Nat.mul_one, List.drop_eq_getElem_cons h1, List.take_succ_cons] at h4
      injection h4 with h5 _
      rw [h5, List.getElem_map]
  subst hin
  rcases hown.2 with ⟨rfl, h0⟩ | ⟨g, cap, cur, rfl, hg, hh, hn, hcap, hcs, ht⟩
  · omega
  · rw [show l.length * (Kd.int .i64).sz = l.length from Nat.mul_one _] at ht
    have hcon := Any.slices_Sort_int shSort g 0 cap l w (holds_of_blockI hh ht) (lt_of_block hh) (by omega)
    refine hcon.mono ?_
    rintro e w' ⟨rfl, n, os, rfl⟩
    have hrow := ownsRow_sortedI (n := n) (os := os) (ss := l) (ts := sortI l) (sortI_length l) hg hh hn hcap hcs
    refine ⟨rfl, ?_, hb.grown (grownBy_sortedI _) hb.size (fun k e => by cases e; exact hg)⟩
    refine R_nums (k := .i64) (xs := sortI l) ?_
    rw [sortI_length, nums_map]
    exact hrow

theorem quantE_many {l : List Int} {q : Int} (h : l.length > 10000) : quantE l q = 5 := if_pos h
theorem quantE_arg {l : List Int} {q : Int} (h : ¬ l.length > 10000) (hq : q < 0 ∨ q > 10000) : quantE l q = 2 := by unfold quantE; rw [if_neg h, if_pos hq]
theorem quantE_none {l : List Int} {q : Int} (h : ¬ l.length > 10000) (hq : ¬ (q < 0 ∨ q > 10000)) (h0 : l.length = 0) : quantE l q = 6 := by unfold quantE; rw [if_neg h, if_neg hq, if_pos h0]
theorem quantE_ok {l : List Int} {q : Int} (h : ¬ l.length > 10000) (hq : ¬ (q < 0 ∨ q > 10000)) (h0 : ¬ l.length = 0) : quantE l q = 0 := by unfold quantE; rw [if_neg h, if_neg hq, if_neg h0]

set_option maxHeartbeats 2000000 in
set_option maxRecDepth 100000 in
theorem Quantile_calls {v : Value} (l : List Int) (q : Int) (w : World) (hv : IsI w v l) :
    Calls Tryz.prog 44 #[v, .int .i64 q] w fun e w' => e = .returned (.tuple #[.int .i64 (quantN l q), .int .i64 (quantE l q)]) ∧ Below w.heap.size w w' := by
  obtain ⟨A, c, rfl, hc, hr⟩ := hv
  have HR := Aside0.mk hr
  have hmax := hr.2.1
  clear hr
  by_cases h1 : l.length > 10000
  · have HQ := Aside0.mk (quantE_many (q := q) h1)
    have HN := Aside0.mk (show quantN l q = 0 by unfold quantN; rw [HQ.out]; rfl)
    have HP := Aside0.mk (show Ending.returned (.tuple #[.int .i64 0, .int .i64 5]) = Ending.returned (.tuple #[.int .i64 (quantN l q), .int .i64 (quantE l q)]) by rw [HN.out, HQ.out])
    have hd : decide (10000 < l.length) = true := decide_eq_true h1
    have hd' : decide (10000 < (l.length : Int)) = true := decide_eq_true (by omega)
    go_enter Tryz.func44, Tryz.ntmps44
    go_wp2_with fail
    go_ret2
    exact ⟨HP.out, Below.refl _ _⟩
  · by_cases hq : q < 0 ∨ q > 10000
    · have HQ := Aside0.mk (quantE_arg h1 hq)
      have HN := Aside0.mk (show quantN l q = 0 by unfold quantN; rw [HQ.out]; rfl)
      have HP := Aside0.mk (show Ending.returned (.tuple #[.int .i64 0, .int .i64 2]) = Ending.returned (.tuple #[.int .i64 (quantN l q), .int .i64 (quantE l q)]) by rw [HN.out, HQ.out])
      have hd' : decide (10000 < (l.length : Int)) = false := decide_eq_false (by omega)
      rcases hq with hq | hq
      · have hd2 : decide (q < 0) = true := decide_eq_true hq
        go_enter Tryz.func44, Tryz.ntmps44
        go_wp2_with fail
        go_ret2
        exact ⟨HP.out, Below.refl _ _⟩
      · have hd2 : decide (q < 0) = false := decide_eq_false (by omega)
        have hd3 : decide (10000 < q) = true := decide_eq_true (by omega)
        go_enter Tryz.func44, Tryz.ntmps44
        go_wp2_with fail
        go_ret2
        exact ⟨HP.out, Below.refl _ _⟩
    · have hd' : decide (10000 < (l.length : Int)) = false := decide_eq_false (by omega)
      have hd2 : decide (q < 0) = false := decide_eq_false (by omega)
      have hd3 : decide (10000 < q) = false := decide_eq_false (by omega)
      by_cases h0 : l.length = 0
      · have HQ := Aside0.mk (quantE_none h1 hq h0)
        have HN := Aside0.mk (show quantN l q = 0 by unfold quantN; rw [HQ.out]; rfl)
        have HP := Aside0.mk (show Ending.returned (.tuple #[.int .i64 0, .int .i64 6]) = Ending.returned (.tuple #[.int .i64 (quantN l q), .int .i64 (quantE l q)]) by rw [HN.out, HQ.out])
        have hd4 : ((l.length : Int) == 0) = true := by rw [beq_iff_eq]; omega
        clear h0
        go_enter Tryz.func44, Tryz.ntmps44
        go_wp2_with fail
        go_ret2
        exact ⟨HP.out, Below.refl _ _⟩
      · have HQ := Aside0.mk (quantE_ok h1 hq h0)
        obtain ⟨q', rfl⟩ := Int.eq_ofNat_of_zero_le (show 0 ≤ q by omega)
        have HN := Aside0.mk (show quantN l (q' : Int) = (sortI l).getD (rankQ l.length q') 0 by unfold quantN; rw [HQ.out, if_pos rfl, Int.toNat_natCast])
        have hd4 : ((l.length : Int) == 0) = false := by rw [beq_eq_false_iff_ne]; omega
        obtain ⟨ad, hA, _⟩ := HR.out.2.2 (show 0 < l.length by omega)
        subst hA
        go_enter Tryz.func44, Tryz.ntmps44
        go_wp2_with fail
        refine (CloneI_some ad c l w HR.out (by omega)).mono ?_
        rintro e w1 ⟨v1, rfl, ho, hb⟩
        have HO := Aside0.mk ho
        have HB := Aside0.mk hb
        clear ho hb
        go_wp2_with fail
        refine (Sort_calls l v1 w w1 (by omega) (by omega) HB.out HO.out).mono ?_
        rintro e w2 ⟨rfl, ho, hb⟩
        obtain ⟨g, cap, rfl, _, _, _⟩ := Kd.R_form ho (by rw [sortI_length]; omega)
        have HO2 := Aside0.mk ho
        have HB2 := Aside0.mk hb
        have hrk := rankQ_lt (len := l.length) (q := q') (by omega) (by omega)
        obtain ⟨p, hp⟩ : ∃ p : Nat, q' * l.length = p := ⟨_, rfl⟩
        have hpb : p ≤ 100000000 := by rw [← hp]; exact Nat.mul_le_mul (show q' ≤ 10000 by omega) (show l.length ≤ 10000 by omega)
        have ep : wrap64 ((q' : Int) * (l.length : Int)) = (p : Int) := by rw [← Int.natCast_mul, hp]; exact w64 (by omega) (by omega)
        have hsl : l.length ≤ (sortI l).length := by rw [sortI_length]; exact Nat.le_refl _
        have HRK := Aside0.mk (show rankQ l.length q' = rankP p by unfold rankQ; rw [hp])
        clear hp ho hb HO HR
        by_cases hm : ((p : Int) + 10000 - 1) / 10000 < 1
        · have HK := Aside0.mk (show rankQ l.length q' = 0 by rw [HRK.out]; exact rankP_small hm)
          obtain ⟨hcell, _⟩ := Kd.R_celln 0 HO2.out 0 (by omega) (by omega)
          have hcell' : w2.cell? ⟨g, 0, none⟩ = some (.int .i64 ((sortI l).getD 0 0)) := hcell
          have HCV := Aside0.mk (show Ending.returned (.tuple #[.int .i64 ((sortI l).getD 0 0), .int .i64 0]) = Ending.returned (.tuple #[.int .i64 (quantN l (q' : Int)), .int .i64 (quantE l (q' : Int))]) by rw [HN.out, HQ.out, HK.out])
          obtain ⟨z, hz⟩ : ∃ z, (sortI l).getD 0 0 = z := ⟨_, rfl⟩
          rw [hz] at hcell' HCV
          clear hcell hz hrk
          go_wp2_with fail
          go_ret2
          exact ⟨HCV.out, HB2.out⟩
        · obtain ⟨r, hr0, hr1⟩ : ∃ r : Nat, rankP p = r ∧ (r : Int) = ((p : Int) + 10000 - 1) / 10000 - 1 := ⟨rankP p, rfl, rankP_big hm⟩
          have HK := Aside0.mk (show rankQ l.length q' = r by rw [HRK.out]; exact hr0)
          have hrl : r < (sortI l).length := by rw [HK.out] at hrk; omega
          obtain ⟨hcell, _⟩ := Kd.R_celln 0 HO2.out (r : Int) (by omega) (by omega)
          have hcell' : w2.cell? ⟨g, r, none⟩ = some (.int .i64 ((sortI l).getD r 0)) := by rw [Int.toNat_natCast] at hcell; exact hcell
          have HCV := Aside0.mk (show Ending.returned (.tuple #[.int .i64 ((sortI l).getD r 0), .int .i64 0]) = Ending.returned (.tuple #[.int .i64 (quantN l (q' : Int)), .int .i64 (quantE l (q' : Int))]) by rw [HN.out, HQ.out, HK.out])
          obtain ⟨z, hz⟩ : ∃ z, (sortI l).getD r 0 = z := ⟨_, rfl⟩
          rw [hz] at hcell' HCV
          have hr2 : ((p : Int) + 10000 - 1) / 10000 - 1 = (r : Int) := hr1.symm
          clear hcell hz hrk hr1 hr0
          go_wp2_with fail
          go_ret2
          exact ⟨HCV.out, HB2.out⟩

end Go.Proofs.YteeacbgaehdodaaGreat
