/- The iterator over the chances of 0, 1 and so on: what it yields. -/
import Derived.Test.YtenmlkcjgefmpaaAdd
import Derived.Test.YtenmlkcjgefmpaaRange
import Derived.Test.YtenmlkcjgefmpaaMathA
import Derived.Shelf.Abstract
import Derived.Shelf.RegionOpen
import Derived.OwnWalkIn
import Derived.TacticsInMore
import Derived.LoopNIn
import Derived.LoopIn
import Derived.Deep.RegionHeld3
import Derived.Deep.DeepCutAuto
namespace Go.Proofs.Ytenmlkcjgefmpaa
open Go.RowKit Go.Shelf Go.Proofs.YtenmlkcjgefmpaaW.PrintWords Go.Proofs.YtenmlkcjgefmpaaW.PrintLast Go.Proofs.YtenmlkcjgefmpaaW.PrintMore Go.Proofs.Ytenmlkcjgefmpaa.Fn
attribute [local go_sem] Oper.semAt_some

theorem chances_calls (n s : Int) (w : World) : Calls Try.prog 70 #[.int .i64 n, .int .i64 s] w fun e w' => e = .returned (.func (.func 79) #[] #[.pointer (some ⟨w.heap.size + 1, 0, none⟩), .pointer (some ⟨w.heap.size, 0, none⟩)]) ∧ w' = (w.alloc (.cells #[.int .i64 n] 3)).alloc (.cells #[.int .i64 s] 3) := by
  go_enter Try.func70, Try.ntmps70
  go_wp2
  go_ret
  exact ⟨rfl, rfl⟩

/-- what a body must keep between two rounds -/
structure KpN (W W' : World) : Prop where
  size : W.heap.size ≤ W'.heap.size
  num : ∀ v x, IsN W v x → IsN W' v x
  int : ∀ a k, W.cell? a = some (.int .i64 k) → W'.cell? a = some (.int .i64 k)

theorem grown_of_below {A B : World} (h : Below A.heap.size A B) : A.grownBy B none := ⟨h.os, h.tape, h.output, h.size, fun k hk _ => h.block k hk⟩

theorem ch_zero_eq (p q n : Nat) : ch p q n 0 = q ^ n := by simp [ch, binom_zero]
theorem ch_step (p q n k : Nat) (hk : k ≤ n) (hq : 0 < q) : ch p q n k * ((n - k) * p) / ((k + 1) * q) = ch p q n (k + 1) := by
  by_cases h : k < n
  · exact ch_next_div p q n k h hq
  · rw [ch_gt p q n (k + 1) (by omega), show n - k = 0 by omega, Nat.zero_mul, Nat.mul_zero, Nat.zero_div]

def SeesN (n s : Nat) (pre : List (Nat × Value)) (x : Nat × Value) (W : World) : Prop := x.1 = pre.length ∧ IsN W x.2 (ch s (10000 - s) n pre.length)

/-- what lies between two rounds of the iterator -/
structure IterAt (n s Bs Bn : Nat) (J : List (Nat × Value) → World → Prop) (k : Nat) (v : Value) (W : World) (pre : List (Nat × Value)) : Prop where
  len : pre.length = k
  num : IsN W v (ch s (10000 - s) n k)
  own : J pre W
  cs : W.cell? ⟨Bs, 0, none⟩ = some (.int .i64 (s : Int))
  cn : W.cell? ⟨Bn, 0, none⟩ = some (.int .i64 (n : Int))

set_option exponentiation.threshold 600 in
theorem pow_500 : 10000 ^ 500 ≤ 4294967296 ^ 250 := by
  rw [show 500 = 2 * 250 from rfl, Nat.pow_mul]
  exact Nat.pow_le_pow_left (by decide) 250

theorem half_250 : Half (4294967296 ^ 250) := by
  unfold Half
  rw [Int.natCast_pow]
  have h3 := pow_le_pow' (B := (4294967296 : Int)) (by decide) (show 250 + 1 ≤ 400 by decide)
  rw [Int.pow_succ] at h3
  have h4 := pow_pos' (B := (4294967296 : Int)) (by decide) 250
  have h5 : ∀ P Q : Int, 0 < P → P * (4294967296 : Int) ≤ Q → P < Q := fun P Q a b => by omega
  exact h5 _ _ h4 h3

set_option exponentiation.threshold 600 in
theorem half_pow (n s : Nat) (hn : n ≤ 500) : Half ((10000 - s) ^ n) :=
  half_250.le (Nat.le_trans (Nat.le_trans (Nat.pow_le_pow_left (by omega) n) (Nat.pow_le_pow_right (by decide) hn)) pow_500)

theorem prod_bound {a b : Int} (a0 : 0 ≤ a) (a1 : a ≤ 500) (b0 : 0 ≤ b) (b1 : b ≤ 5000) : 0 ≤ a * b ∧ a * b ≤ 2500000 := by
  have h1 := Int.mul_nonneg a0 b0
  have h2 := Int.mul_le_mul a1 b1 b0 (show (0 : Int) ≤ 500 by decide)
  omega
theorem prod_bound2 {a b : Int} (a0 : 1 ≤ a) (a1 : a ≤ 501) (b0 : 1 ≤ b) (b1 : b ≤ 10000) : 0 < a * b ∧ a * b < 4294967296 := by
  have h1 := Int.mul_pos (show 0 < a by omega) (show 0 < b by omega)
  have h2 := Int.mul_le_mul a1 b1 (show 0 ≤ b by omega) (show (0 : Int) ≤ 501 by decide)
  omega

theorem ch_fits (n s k : Nat) (hn : n ≤ 500) (hs : s ≤ 5000) (hk : k ≤ n) :
    Fits (ch s (10000 - s) n k) ∧ ((((n : Int) - (k : Int)) * (s : Int)).toNat = (n - k) * s) ∧ Fits (ch s (10000 - s) n k * ((n - k) * s)) ∧
      ch s (10000 - s) n k * ((n - k) * s) / ((((k : Int) + 1) * (10000 - (s : Int))).toNat) = ch s (10000 - s) n (k + 1) := by
  have h1 : ch s (10000 - s) n k ≤ 10000 ^ n := by
    have := ch_le s (10000 - s) n k
    rwa [show s + (10000 - s) = 10000 by omega] at this
  have h2 : Half (ch s (10000 - s) n k) := (half_pow n 0 hn).le h1
  have e1 : ((n : Int) - (k : Int)) * (s : Int) = (((n - k) * s : Nat) : Int) := by rw [Int.natCast_mul, Int.natCast_sub hk]
  have e2 : ((k : Int) + 1) * (10000 - (s : Int)) = (((k + 1) * (10000 - s) : Nat) : Int) := by
    rw [Int.natCast_mul, Int.natCast_sub (by omega)]; rfl
  have h3 : (n - k) * s < 4294967296 := by
    have := Nat.mul_le_mul (show n - k ≤ 500 by omega) hs
    omega
  refine ⟨h2.fits, by rw [e1, Int.toNat_natCast], h2.mul (half_small h3), ?_⟩
  rw [e2, Int.toNat_natCast]
  exact ch_step s (10000 - s) n k hk (by omega)

set_option maxHeartbeats 4000000 in
set_option maxRecDepth 100000 in
theorem chances1_sees (m n s : Nat) (hm : 1 ≤ m) (hn : n ≤ 500) (hs : s ≤ 5000) (Bs Bn : Nat) (w : World) (hbs : Bs < w.heap.size) (hbn : Bn < w.heap.size) (hcs : w.cell? ⟨Bs, 0, none⟩ = some (.int .i64 (s : Int))) (hcn : w.cell? ⟨Bn, 0, none⟩ = some (.int .i64 (n : Int))) :
    SeqSees Fence.wide m Try.prog 79 #[.pointer (some ⟨Bs, 0, none⟩), .pointer (some ⟨Bn, 0, none⟩)] (fun x : Nat × Value => #[.int .i64 (x.1 : Int), x.2]) (SeesN n s) KpN (fun xs => xs.length = n + 1) (fun _ => True) (n + 1) w := by
  intro l J Jx W hW hJ hJx hY h0
  have HJ := Aside0.mk hJ
  have HJX := Aside0.mk hJx
  have HY := Aside0.mk hY
  have H0 := Aside0.mk h0
  have hcs' : W.cell? ⟨Bs, 0, none⟩ = some (.int .i64 (s : Int)) := (hW.cell (p := ⟨Bs, 0, none⟩) hbs).trans hcs
  have hcn' : W.cell? ⟨Bn, 0, none⟩ = some (.int .i64 (n : Int)) := (hW.cell (p := ⟨Bn, 0, none⟩) hbn).trans hcn
  have hbs' : Bs < W.heap.size := Nat.lt_of_lt_of_le hbs hW.size
  have hbn' : Bn < W.heap.size := Nat.lt_of_lt_of_le hbn hW.size
  clear hJ hJx hY h0 hcs hcn hbs hbn
  refine callsIn_wide.2 ?_
  simp only [List.append_toArray, List.nil_append, List.cons_append]
  have e1 : IntKind.i64.wrap (10000 - (s : Int)) = 10000 - (s : Int) := IntWalk.i64_in _ (by omega)
  have b1 : 0 ≤ 10000 - (s : Int) := by omega
  have b2 : 10000 - (s : Int) < 9223372036854775808 := by omega
  have HQ := Aside0.mk (half_pow n s hn)
  have HT := Aside0.mk (show (10000 - (s : Int)).toNat = 10000 - s by omega)
  go_enter Try.func79, Try.ntmps79
  go_upto_region 0 with (fail)
  go_cut [4] (fun v4 wc => Aside0 (IsN wc v4 ((10000 - s) ^ n)) ∧ Aside0 (Below W.heap.size W wc))
  case first =>
    go_region_held3 (fun W' => W'.cell? ⟨Bs, 0, none⟩ = some (.int .i64 (s : Int)) ∧ W'.cell? ⟨Bn, 0, none⟩ = some (.int .i64 (n : Int))) (go_keep)
      (first
        | (go_at_call 48; refine (one_calls (10000 - (s : Int)) _ b1 b2).mono ?_; rintro e w' ⟨v10, rfl, hv, hb⟩; have c1 : w'.cell? ⟨Bs, 0, none⟩ = some (.int .i64 (s : Int)) := (hb.cell (p := ⟨Bs, 0, none⟩) hbs').trans hcs'; have c2 : w'.cell? ⟨Bn, 0, none⟩ = some (.int .i64 (n : Int)) := (hb.cell (p := ⟨Bn, 0, none⟩) hbn').trans hcn'; have HV := Aside0.mk hv; have HB := Aside0.mk (below_step (below_drew (Below.refl W.heap.size W)) hb); clear hv hb)
        | (go_at_call 34; refine (Pow_calls (a := 10000 - s) n _ (by rw [HT.out] at HV; exact HV.out) (by omega) (by omega) hn HQ.out).mono ?_; rintro e w2 ⟨v12, rfl, hv2, hb2⟩; have c3 : w2.cell? ⟨Bs, 0, none⟩ = some (.int .i64 (s : Int)) := (hb2.cell (p := ⟨Bs, 0, none⟩) (Nat.lt_of_lt_of_le hbs' HB.out.size)).trans c1; have c4 : w2.cell? ⟨Bn, 0, none⟩ = some (.int .i64 (n : Int)) := (hb2.cell (p := ⟨Bn, 0, none⟩) (Nat.lt_of_lt_of_le hbn' HB.out.size)).trans c2; have HV2 := Aside0.mk hv2; have HB2 := Aside0.mk (below_step HB.out hb2); clear hv2 hb2))
    go_wp2_with fail
    go_meet
    case rel => exact ⟨HV2, HB2⟩
  case rest =>
    obtain ⟨HV4, HB4⟩ := hcut
    have hcs4 : wc.cell? ⟨Bs, 0, none⟩ = some (.int .i64 (s : Int)) := (HB4.out.cell (p := ⟨Bs, 0, none⟩) hbs').trans hcs'
    have hcn4 : wc.cell? ⟨Bn, 0, none⟩ = some (.int .i64 (n : Int)) := (HB4.out.cell (p := ⟨Bn, 0, none⟩) hbn').trans hcn'
    clear hcs' hcn'
    go_wp2_with fail
    refine (wpIn_wide (n := m)).1 ?_
    gi_loopw [4, 6] (fun v4 v6 wr => ∃ (k : Nat) (pre : List (Nat × Value)), v6 = .int .i64 k ∧ k ≤ n + 1 ∧ Aside0 (IterAt n s Bs Bn J k v4 wr pre) ∧ Aside0 (W.heap.size ≤ wr.heap.size)) (fun _ v6 _ => n + 1 - (intOf v6).toNat)
    case atStart => exact ⟨0, [], rfl, by omega, ⟨rfl, by rw [ch_zero_eq]; exact HV4.out, HJ.out _ _ _ none H0.out (grown_of_below HB4.out) (fun r e => by cases e), hcs4, hcn4⟩, ⟨HB4.out.size⟩⟩
    case round =>
      clear HV4 HB4 hcs4 hcn4
      obtain ⟨k, pre, rfl, hk, HI, HB⟩ := hrel
      have hcs5 := HI.out.cs
      have hcn5 := HI.out.cn
      by_cases hk1 : k ≤ n
      · obtain ⟨fn, tmps, assign, body, hy, hR⟩ := HY.out pre (k, u4) wr HI.out.own ⟨HI.out.len.symm, by rw [HI.out.len]; exact HI.out.num⟩ (by have := HI.out.len; omega)
        dsimp only at hy
        have HI' := HI
        clear HY
        gi_wp2
        refine hR.mono ?_
        rintro e W3 (⟨rfl, hJ3, hk3⟩ | ⟨rfl, hJx3⟩)
        · have hcs3 := hk3.int _ _ hcs5
          have hcn3 := hk3.int _ _ hcn5
          have HV3 := Aside0.mk (hk3.num _ _ HI.out.num)
          have HJ3 := Aside0.mk hJ3
          have HS3 := Aside0.mk (Nat.le_trans HB.out hk3.size)
          clear hJ3 hk3 hcs5 hcn5 HB hR hy
          gi_wp2
          refine wpIn_wide.2 ?_
          have b3 : (0 : Int) ≤ (n : Int) - (k : Int) := by omega
          have e3 : IntKind.i64.wrap ((n : Int) - (k : Int)) = (n : Int) - (k : Int) := IntWalk.i64_in _ (by omega)
          have hp : (0 : Int) ≤ ((n : Int) - (k : Int)) * (s : Int) ∧ ((n : Int) - (k : Int)) * (s : Int) ≤ 2500000 := prod_bound (by omega) (by omega) (by omega) (by omega)
          have e4 : IntKind.i64.wrap (((n : Int) - (k : Int)) * (s : Int)) = ((n : Int) - (k : Int)) * (s : Int) := IntWalk.i64_in _ (by omega)
          have hq : (0 : Int) < ((k : Int) + 1) * (10000 - (s : Int)) ∧ ((k : Int) + 1) * (10000 - (s : Int)) < 4294967296 := prod_bound2 (by omega) (by omega) (by omega) (by omega)
          have e5 : IntKind.i64.wrap ((k : Int) + 1) = (k : Int) + 1 := IntWalk.i64_in _ (by omega)
          have e6 : IntKind.i64.wrap (((k : Int) + 1) * (10000 - (s : Int))) = ((k : Int) + 1) * (10000 - (s : Int)) := IntWalk.i64_in _ (by omega)
          have hbs3 : Bs < W3.heap.size := Nat.lt_of_lt_of_le hbs' HS3.out
          have hbn3 : Bn < W3.heap.size := Nat.lt_of_lt_of_le hbn' HS3.out
          have HM := Aside0.mk (ch_fits n s k (by omega) hs hk1)
          go_region_held3 (fun W' => W'.cell? ⟨Bs, 0, none⟩ = some (.int .i64 (s : Int)) ∧ W'.cell? ⟨Bn, 0, none⟩ = some (.int .i64 (n : Int))) (go_keep)
            (first
              | (go_at_call 49; refine (smul_calls (((n : Int) - (k : Int)) * (s : Int)) _ (HV3.out.drew) HM.out.1 hp.1 (by omega) (by rw [HM.out.2.1]; exact HM.out.2.2.1)).mono ?_; rintro e w' ⟨v31, rfl, hv, hb⟩; have c1 : w'.cell? ⟨Bs, 0, none⟩ = some (.int .i64 (s : Int)) := (hb.cell (p := ⟨Bs, 0, none⟩) hbs3).trans hcs3; have c2 : w'.cell? ⟨Bn, 0, none⟩ = some (.int .i64 (n : Int)) := (hb.cell (p := ⟨Bn, 0, none⟩) hbn3).trans hcn3; have HV := Aside0.mk hv; have HB' := Aside0.mk (below_step (below_drew (Below.refl W3.heap.size W3)) hb); clear hv hb)
              | (go_at_call 61; refine (div_calls (((k : Int) + 1) * (10000 - (s : Int))) _ HV.out hq.1 hq.2).mono ?_; rintro e w2 ⟨v37, rfl, hv2, hb2⟩; have c3 : w2.cell? ⟨Bs, 0, none⟩ = some (.int .i64 (s : Int)) := (hb2.cell (p := ⟨Bs, 0, none⟩) (Nat.lt_of_lt_of_le hbs3 HB'.out.size)).trans c1; have c4 : w2.cell? ⟨Bn, 0, none⟩ = some (.int .i64 (n : Int)) := (hb2.cell (p := ⟨Bn, 0, none⟩) (Nat.lt_of_lt_of_le hbn3 HB'.out.size)).trans c2; have HV2 := Aside0.mk hv2; have HB2 := Aside0.mk (below_step HB'.out hb2); clear hv2 hb2))
          have HI2 : Aside0 (IterAt n s Bs Bn J (k + 1) v37 w2 (pre ++ [(k, u4)])) := ⟨by simp [HI.out.len], by have h := HV2.out; rw [HM.out.2.1, HM.out.2.2.2] at h; exact h, HJ.out _ _ _ none HJ3.out (grown_of_below HB2.out) (fun r e => by cases e), c3, c4⟩
          have HS2 := Aside0.mk (Nat.le_trans HS3.out HB2.out.size)
          clear hcs3 hcn3 c1 c2 c3 c4 e3 e4 e5 e6
          gi_wp2
          go_roundw
          case rel => exact ⟨k + 1, _, by go_num, by omega, HI2, HS2⟩
          case measure => simp [intOf]; omega
        · have HX3 := Aside0.mk hJx3
          clear hJx3 hR hy
          gi_wp2
          refine bodyPost_ret (results_none rfl _ _ _) rfl ?_
          exact ⟨⟨_, rfl⟩, .inr ⟨_, trivial, HX3.out⟩⟩
      · obtain rfl : k = n + 1 := by omega
        gi_wp2
        go_end0
        exact ⟨⟨_, rfl⟩, .inl ⟨pre, HI.out.len, HI.out.own⟩⟩

end Go.Proofs.Ytenmlkcjgefmpaa
