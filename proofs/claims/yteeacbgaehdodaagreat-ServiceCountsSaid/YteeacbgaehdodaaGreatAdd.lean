/- The contract of Add: a closure keeps what is carried. -/
import Derived.Test.YteeacbgaehdodaaGreatPow
namespace Go.Proofs.YteeacbgaehdodaaGreat
open Go.RowKit Go.Proofs.YteeacbgaehdodaaGreatW.PrintWords Go.Proofs.YteeacbgaehdodaaGreatW.PrintLast Go.Proofs.YteeacbgaehdodaaGreatW.PrintMore Go.Proofs.YteeacbgaehdodaaGreat.Fn

theorem carries_calls (w : World) : Calls Tryz.prog 111 #[] w fun e w' => e = .returned (.func (.func 151) #[] #[.pointer (some ⟨w.heap.size, 0, none⟩)]) ∧ w' = w.alloc (.cells #[.int .u64 0] 53) := by
  go_enter Tryz.func111, Tryz.ntmps111
  go_wp2
  go_ret
  exact ⟨rfl, rfl⟩

theorem next_calls (x c : Int) (B : Nat) (w : World) (hx : 0 ≤ x) (hc : 0 ≤ c) (hxc : c + x < 18446744073709551616) (hcell : w.cell? ⟨B, 0, none⟩ = some (.int .u64 c)) (hf : w.frozen? ⟨B, 0, none⟩ = false) :
    Calls Tryz.prog 151 #[.int .u64 x, .pointer (some ⟨B, 0, none⟩)] w fun e w' => e = .returned (.int .u32 ((c + x) % 4294967296)) ∧ w' = (w.setCell ⟨B, 0, none⟩ (.int .u64 (c + x))).setCell ⟨B, 0, none⟩ (.int .u64 ((c + x) / 4294967296)) := by
  have e1 : IntKind.u64.wrap (c + x) = c + x := wu64 (by omega) hxc
  go_enter Tryz.func151, Tryz.ntmps151
  go_wp2
  go_ret
  exact ⟨rfl, rfl⟩

theorem iv_take_next (B : Int) (xs : List Int) (k : Nat) : iv B (xs.take (k + 1)) = iv B (xs.take k) + B ^ k * dat xs k := by
  rcases Nat.lt_or_ge k xs.length with h | h
  · exact iv_take_succ B h
  · rw [List.take_of_length_le (by omega), List.take_of_length_le h, dat_of_ge h, Int.mul_zero, Int.add_zero]

/-- behind k places of a sum: what is written, and what is carried -/
structure AddAt (xs ys : List Int) (k : Nat) (os : List Int) (cr : Int) : Prop where
  len : os.length = xs.length + 1
  dig : Dig (4294967296 : Int) os
  c0 : 0 ≤ cr
  c1 : cr ≤ 1
  val : iv (4294967296 : Int) (os.take k) + (4294967296 : Int) ^ k * cr = iv (4294967296 : Int) (xs.take k) + iv (4294967296 : Int) (ys.take k)

theorem AddAt.start (xs ys : List Int) : AddAt xs ys 0 (List.replicate (xs.length + 1) 0) 0 := ⟨by simp, Dig.replicate (by decide) _, by decide, by decide, by simp [iv]⟩

theorem AddAt.step {xs ys : List Int} {k : Nat} {os : List Int} {cr : Int} (h : AddAt xs ys k os cr) (hx : Dig (4294967296 : Int) xs) (hy : Dig (4294967296 : Int) ys) (hk : k ≤ xs.length) :
    AddAt xs ys (k + 1) (os.set k ((cr + (dat xs k + dat ys k)) % 4294967296)) ((cr + (dat xs k + dat ys k)) / 4294967296) := by
  have a1 := dat_dig hx (by decide) k
  have a2 := dat_dig hy (by decide) k
  have c0 := h.c0
  have c1 := h.c1
  have hl := h.len
  refine ⟨by rw [List.length_set, h.len], h.dig.set _ (by omega) (by omega), by omega, by omega, ?_⟩
  rw [iv_take_next, iv_take_next, iv_take_next, dat_set_self (by omega), List.take_set_of_le (Nat.le_refl _), Int.pow_succ]
  have hv := h.val
  generalize hs : cr + (dat xs k + dat ys k) = s
  have e2 : s = 4294967296 * (s / 4294967296) + s % 4294967296 := by omega
  generalize s / 4294967296 = q at e2 ⊢
  generalize s % 4294967296 = r at e2 ⊢
  generalize (4294967296 : Int) ^ k = P at hv ⊢
  have e3 : P * 4294967296 * q = P * (4294967296 * q) := Int.mul_assoc _ _ _
  have e4 := congrArg (P * ·) (hs.trans e2)
  simp only [Int.mul_add] at e4
  rw [e3]
  omega

theorem AddAt.done {xs ys os : List Int} {cr : Int} {x y : Nat} (h : AddAt xs ys (xs.length + 1) os cr) (hx : Num (4294967296 : Int) xs x) (hy : Num (4294967296 : Int) ys y) (hl : ys.length ≤ xs.length) : iv (4294967296 : Int) os = ((x + y : Nat) : Int) := by
  have hv := h.val
  rw [List.take_of_length_le (by rw [h.len]; omega), List.take_of_length_le (by omega), List.take_of_length_le (by omega), hx.val, hy.val] at hv
  have h0 := iv_nonneg (by decide) h.dig
  have h1 := hx.lt (by decide)
  have h2 := hy.lt (by decide)
  have h3 := pow_le_pow' (B := (4294967296 : Int)) (by decide) hl
  rw [Int.pow_succ] at hv
  have c0 := h.c0
  have c1 := h.c1
  have hcr : cr = 0 := by
    rcases (show cr = 0 ∨ cr = 1 by omega) with e | e
    · exact e
    · rw [e] at hv; omega
  rw [hcr] at hv
  rw [Int.natCast_add]
  omega

theorem R_nums {W : World} {base e : Nat} {k : IntKind} {v : Value} {xs : List Int} (h : W.ownsRow base e 1 v xs.length (nums k xs)) : Kd.R (Kd.int k) e W base (fun _ => True) v xs := by
  refine ⟨fun _ _ => trivial, nums k xs, h, by show (nums k xs).length = xs.length * 1; simp [nums], fun j p hj => ?_⟩
  show ((nums k xs).drop (j * 1)).take 1 = [.int k p]
  obtain ⟨hl, hp⟩ := List.getElem?_eq_some_iff.1 hj
  rw [Nat.mul_one, List.drop_eq_getElem_cons (by simpa [nums] using hl)]
  simp [nums, hp]

/-- what lies in memory behind k rounds -/
structure AddMem (w W : World) (g B cap n : Nat) (os : List Int) (cr : Int) : Prop where
  row : Kd.R (Kd.int .u32) 87 W w.heap.size (fun _ => True) (.slice (some ⟨g, 0, none⟩) n cap) os
  box : W.heap[B]? = some (.cells #[.int .u64 cr] 53 (0, 0))
  low : w.heap.size ≤ B
  below : Below w.heap.size w W

theorem AddMem.first {w W : World} (hb : Below w.heap.size w W) (n : Nat) (hn : n ≤ 1000000) :
    AddMem w ((W.alloc (.cells (madeCells #[.int .u32 0] n) 87)).alloc (.cells #[.int .u64 0] 53)) W.heap.size (W.heap.size + 1) n n (List.replicate n 0) 0 := by
  refine ⟨Kd.R_alloc (R_nums (own_made' W w.heap.size 87 .u32 n hb.size (by omega))) _, ?_, ?_, below_alloc (below_alloc hb _) _⟩
  · have h := heap_alloc_new (W.alloc (.cells (madeCells #[.int .u32 0] n) 87)) (.cells #[.int .u64 0] 53)
    simpa using h
  · have := hb.size; omega
theorem AddMem.second {w W : World} (hb : Below w.heap.size w W) (n : Nat) (hn : n ≤ 1000000) :
    AddMem w ((W.alloc (.cells #[.int .u64 0] 53)).alloc (.cells (madeCells #[.int .u32 0] n) 87)) (W.heap.size + 1) W.heap.size n n (List.replicate n 0) 0 := by
  refine ⟨?_, ?_, hb.size, below_alloc (below_alloc hb _) _⟩
  · have h := R_nums (own_made' (W.alloc (.cells #[.int .u64 0] 53)) w.heap.size 87 .u32 n (by have := hb.size; simp; omega) (by omega))
    simpa using h
  · have h := heap_alloc_new W (.cells #[.int .u64 0] 53)
    exact (Below.heap_alloc _ _ _ (by simp)).trans h

theorem AddMem.next {w W : World} {g B cap n : Nat} {os : List Int} {cr : Int} (h : AddMem w W g B cap n os cr) (a c : Int) : AddMem w ((W.setCell ⟨B, 0, none⟩ (.int .u64 a)).setCell ⟨B, 0, none⟩ (.int .u64 c)) g B cap n os c := by
  have hb1 := one_setCell (u := .int .u64 a) h.box
  exact ⟨Kd.R_set (Kd.R_set h.row h.box (fun q hq => by simp [Kd.int, Kd.scalar] at hq; omega) 0 _) hb1 (fun q hq => by simp [Kd.int, Kd.scalar] at hq; omega) 0 _, one_setCell hb1, h.low, below_set (below_set h.below h.low) h.low⟩

theorem AddMem.ne {w W : World} {g B cap n : Nat} {os : List Int} {cr : Int} (h : AddMem w W g B cap n os cr) (hp : 0 < os.length) : g ≠ B ∧ w.heap.size ≤ g := by
  obtain ⟨g', cap', he, hb, _, cells, hc⟩ := Kd.R_form h.row hp
  injection he with he _ _
  injection he with he
  injection he with he
  subst he
  refine ⟨fun e => ?_, hb⟩
  subst e
  rw [h.box] at hc
  injection hc with hc
  injection hc with _ hc _
  exact absurd hc (by decide)

theorem AddMem.put {w W : World} {g B cap n : Nat} {os : List Int} {cr : Int} (h : AddMem w W g B cap n os cr) (hp : 0 < os.length) (k : Nat) (d : Int) : AddMem w (W.setCell ⟨g, k, none⟩ (.int .u32 d)) g B cap n (os.set k d) cr := by
  obtain ⟨hne, hg⟩ := h.ne hp
  have h1 := Kd.R_putn h.row (k : Int) d
  rw [Int.toNat_natCast] at h1
  exact ⟨h1, (Below.heap_setCell W ⟨g, k, none⟩ _ B (fun e => hne e.symm)).trans h.box, h.low, below_set h.below hg⟩

theorem AddMem.cell {w W : World} {g B cap n : Nat} {os : List Int} {cr : Int} (h : AddMem w W g B cap n os cr) (k : Nat) (hk : k < n) : W.cell? ⟨g, k, none⟩ = some (.int .u32 (rdOf 0 os k)) ∧ W.frozen? ⟨g, k, none⟩ = false := by
  have h1 := Kd.R_celln 0 h.row (k : Int) (by omega) (by omega)
  rw [Int.toNat_natCast] at h1
  exact h1

set_option maxHeartbeats 4000000 in
set_option maxRecDepth 100000 in
theorem Add_core (sw : Bool) {A A' : Option Addr} {c c' : Nat} {xs ys : List Int} {x y : Nat} (w : World) (hx : Num (4294967296 : Int) xs x) (hy : Num (4294967296 : Int) ys y) (hr : Kd.C (Kd.int .u32) w A xs.length xs) (hr' : Kd.C (Kd.int .u32) w A' ys.length ys) (hc : xs.length ≤ c) (hc' : ys.length ≤ c')
    (hl : ys.length ≤ xs.length) (hl' : sw = true → ys.length < xs.length) (h9 : xs.length ≤ 900) (hf : Fits (x + y)) :
    Calls Tryz.prog 85 (if sw = true then #[.slice A' ys.length c', .slice A xs.length c] else #[.slice A xs.length c, .slice A' ys.length c']) w (GivesNE w (x + y) 0) := by
  have hn1 : IsN w (.slice A xs.length c) x := ⟨xs, A, c, rfl, hc, by omega, hx, hr⟩
  have hn2 : IsN w (.slice A' ys.length c') y := ⟨ys, A', c', rfl, hc', by omega, hy, hr'⟩
  have HX := Aside0.mk hx
  have HY := Aside0.mk hy
  have HR := Aside0.mk hr
  have HR' := Aside0.mk hr'
  have HF := Aside0.mk hf
  have hmk := fun W : World => print_make (P := Tryz.prog) 49 87 .u32 4 Tryz.underlying49 info87 (by decide) (xs.length + 1) (by omega) W
  have e1 : ((xs.length + 1 : Nat) : Int) = (xs.length : Int) + 1 := by omega
  simp only [e1] at hmk
  have e2 : IntKind.i64.wrap ((xs.length : Int) + 1) = (xs.length : Int) + 1 := IntWalk.i64_in _ (by omega)
  clear hx hy hr hr' hf e1
  have hsz : w.heap.size ≤ w.heap.size := Nat.le_refl _
  cases sw
  · have hd1 : decide (xs.length < ys.length) = false := decide_eq_false (by omega)
    simp only [Bool.false_eq_true, if_false]
    go_enter Tryz.func85, Tryz.ntmps85
    go_wp2_with fail
    refine (Right_calls _ hn1).mono ?_
    rintro e w1 ⟨rfl, ⟨n, rfl⟩⟩
    go_wp2_with fail
    refine (Right_calls _ (hn2.drewN n)).mono ?_
    rintro e w1 ⟨rfl, ⟨m, rfl⟩⟩
    go_upto_region 5 with (fail)
    go_cut [6, 7] (fun v6 v7 wc => ∃ (g B cap : Nat), v6 = .slice (some ⟨g, 0, none⟩) (xs.length + 1) cap ∧ v7 = .func (.func 151) #[] #[.pointer (some ⟨B, 0, none⟩)] ∧ Aside0 (AddMem w wc g B cap (xs.length + 1) (List.replicate (xs.length + 1) 0) 0))
    case first =>
      go_region_with (go_at_call 111; refine (carries_calls _).mono ?_; rintro e w' ⟨rfl, rfl⟩)
      · go_wp2_with fail
        go_meet
        case rel => exact ⟨_, _, _, rfl, rfl, ⟨AddMem.first (pw_below_drewN (Below.refl w.heap.size w) _) (xs.length + 1) (by omega)⟩⟩
      · go_wp2_with fail
        go_meet
        case rel => exact ⟨_, _, _, rfl, rfl, ⟨AddMem.second (pw_below_drewN (Below.refl w.heap.size w) _) (xs.length + 1) (by omega)⟩⟩
    case rest =>
      clear hmk e2
      obtain ⟨g, B, cap, rfl, rfl, HM⟩ := hcut
      go_wp2_with fail
      go_loopw [32] (fun v32 W => ∃ (k : Nat) (os : List Int) (cr : Int), v32 = .int .i64 k ∧ k ≤ xs.length + 1 ∧ Aside0 (AddMem w W g B cap (xs.length + 1) os cr) ∧ Aside0 (AddAt xs ys k os cr)) (fun v32 _ => xs.length + 1 - (intOf v32).toNat)
      case atStart => exact ⟨0, _, _, rfl, by omega, HM, ⟨AddAt.start xs ys⟩⟩
      case round =>
        clear HM
        obtain ⟨k, os, cr, rfl, hk, HM, HA⟩ := hrel
        by_cases hk1 : k < xs.length + 1
        · have ha := dat_dig HX.out.dig (by decide) k
          have hb := dat_dig HY.out.dig (by decide) k
          have hcr := HA.out.c0
          have hcr1 := HA.out.c1
          have hbox := cell_of_one HM.out.box
          have hfree := free_of_one HM.out.box
          by_cases hk2 : k < xs.length
          · obtain ⟨ad, e102, hcx⟩ := Kd.at_int (Kd.C_below HR.out HM.out.below) (k : Int) (by omega) (by omega)
            cases e102
            rw [rd_dat, Int.toNat_natCast] at hcx
            by_cases hk3 : k < ys.length
            · obtain ⟨ad', e103, hcy⟩ := Kd.at_int (Kd.C_below HR'.out HM.out.below) (k : Int) (by omega) (by omega)
              cases e103
              rw [rd_dat, Int.toNat_natCast] at hcy
              go_wp2_with fail
              refine (next_calls (dat xs k + dat ys k) cr B wr (by omega) hcr (by omega) hbox hfree).mono ?_
              rintro e w2 ⟨rfl, hw2⟩
              have HM2 : Aside0 (AddMem w w2 g B cap (xs.length + 1) os ((cr + (dat xs k + dat ys k)) / 4294967296)) := ⟨by rw [hw2]; exact HM.out.next _ _⟩
              clear hw2 hbox hfree HM
              obtain ⟨hc2, hf2⟩ := HM2.out.cell k hk1
              go_wp2_with fail
              clear hc2 hf2
              have HS := Aside0.mk (HA.out.step HX.out.dig HY.out.dig (by omega))
              go_roundw
              case rel => exact ⟨k + 1, _, _, by go_num, by omega, ⟨HM2.out.put (by have := HA.out.len; omega) k _⟩, HS⟩
              case measure => simp [intOf]; omega
            · go_wp2_with fail
              refine (next_calls (dat xs k) cr B wr (by omega) hcr (by omega) hbox hfree).mono ?_
              rintro e w2 ⟨rfl, hw2⟩
              have HM2 : Aside0 (AddMem w w2 g B cap (xs.length + 1) os ((cr + (dat xs k)) / 4294967296)) := ⟨by rw [hw2]; exact HM.out.next _ _⟩
              clear hw2 hbox hfree HM
              obtain ⟨hc2, hf2⟩ := HM2.out.cell k hk1
              go_wp2_with fail
              clear hc2 hf2
              have HS := Aside0.mk (HA.out.step HX.out.dig HY.out.dig (by omega))
              rw [dat_of_ge (xs := ys) (by omega)] at HS
              rw [Int.add_zero] at HS
              go_roundw
              case rel => exact ⟨k + 1, _, _, by go_num, by omega, ⟨HM2.out.put (by have := HA.out.len; omega) k _⟩, HS⟩
              case measure => simp [intOf]; omega
          · have hk3 : ¬ k < ys.length := by omega
            go_wp2_with fail
            refine (next_calls (0) cr B wr (by omega) hcr (by omega) hbox hfree).mono ?_
            rintro e w2 ⟨rfl, hw2⟩
            have HM2 : Aside0 (AddMem w w2 g B cap (xs.length + 1) os ((cr + (0)) / 4294967296)) := ⟨by rw [hw2]; exact HM.out.next _ _⟩
            clear hw2 hbox hfree HM
            obtain ⟨hc2, hf2⟩ := HM2.out.cell k hk1
            go_wp2_with fail
            clear hc2 hf2
            have HS := Aside0.mk (HA.out.step HX.out.dig HY.out.dig (by omega))
            rw [dat_of_ge (xs := xs) (by omega)] at HS
            rw [dat_of_ge (xs := ys) (by omega)] at HS
            simp only [Int.add_zero] at HS HM2
            go_roundw
            case rel => exact ⟨k + 1, _, _, by go_num, by omega, ⟨HM2.out.put (by have := HA.out.len; omega) k _⟩, HS⟩
            case measure => simp [intOf]; omega
        · obtain rfl : k = xs.length + 1 := by omega
          have HD := Aside0.mk (HA.out.done HX.out HY.out hl)
          have HDIG := Aside0.mk HA.out.dig
          have HLEN := Aside0.mk HA.out.len
          obtain ⟨r, hr1, hr2, hr3⟩ := fit_num HDIG.out HD.out (by rw [HLEN.out]; omega) (fits_1024 HF.out)
          have HN := Aside0.mk (And.intro hr1 (And.intro hr2 (hr3 _ (Nat.lt_succ_self _))))
          clear hr1 hr2 hr3
          go_wp2_with fail
          have hfit := nat_fit.calls _ (fun _ => True) (some ⟨g, 0, none⟩) cap os r 0 wr (by rw [HLEN.out]; exact Kd.V_mono (Kd.R_V HM.out.row) (fun _ _ => trivial)) HN.out.2.2
          rw [HLEN.out] at hfit
          refine hfit.mono ?_
          rintro e w3 ⟨v3, rfl, hv3, hb3⟩
          go_wp2_with fail
          go_ret2
          exact ⟨v3, rfl, IsN.of_V hv3 HN.out.1 HN.out.2.1, below_step HM.out.below hb3⟩
  · have hd1 : decide (ys.length < xs.length) = true := decide_eq_true (hl' rfl)
    simp only [if_true]
    go_enter Tryz.func85, Tryz.ntmps85
    go_wp2_with fail
    refine (Right_calls _ hn2).mono ?_
    rintro e w1 ⟨rfl, ⟨n, rfl⟩⟩
    go_wp2_with fail
    refine (Right_calls _ (hn1.drewN n)).mono ?_
    rintro e w1 ⟨rfl, ⟨m, rfl⟩⟩
    go_upto_region 5 with (fail)
    go_cut [6, 7] (fun v6 v7 wc => ∃ (g B cap : Nat), v6 = .slice (some ⟨g, 0, none⟩) (xs.length + 1) cap ∧ v7 = .func (.func 151) #[] #[.pointer (some ⟨B, 0, none⟩)] ∧ Aside0 (AddMem w wc g B cap (xs.length + 1) (List.replicate (xs.length + 1) 0) 0))
    case first =>
      go_region_with (go_at_call 111; refine (carries_calls _).mono ?_; rintro e w' ⟨rfl, rfl⟩)
      · go_wp2_with fail
        go_meet
        case rel => exact ⟨_, _, _, rfl, rfl, ⟨AddMem.first (pw_below_drewN (Below.refl w.heap.size w) _) (xs.length + 1) (by omega)⟩⟩
      · go_wp2_with fail
        go_meet
        case rel => exact ⟨_, _, _, rfl, rfl, ⟨AddMem.second (pw_below_drewN (Below.refl w.heap.size w) _) (xs.length + 1) (by omega)⟩⟩
    case rest =>
      clear hmk e2
      obtain ⟨g, B, cap, rfl, rfl, HM⟩ := hcut
      go_wp2_with fail
      go_loopw [32] (fun v32 W => ∃ (k : Nat) (os : List Int) (cr : Int), v32 = .int .i64 k ∧ k ≤ xs.length + 1 ∧ Aside0 (AddMem w W g B cap (xs.length + 1) os cr) ∧ Aside0 (AddAt xs ys k os cr)) (fun v32 _ => xs.length + 1 - (intOf v32).toNat)
      case atStart => exact ⟨0, _, _, rfl, by omega, HM, ⟨AddAt.start xs ys⟩⟩
      case round =>
        clear HM
        obtain ⟨k, os, cr, rfl, hk, HM, HA⟩ := hrel
        by_cases hk1 : k < xs.length + 1
        · have ha := dat_dig HX.out.dig (by decide) k
          have hb := dat_dig HY.out.dig (by decide) k
          have hcr := HA.out.c0
          have hcr1 := HA.out.c1
          have hbox := cell_of_one HM.out.box
          have hfree := free_of_one HM.out.box
          by_cases hk2 : k < xs.length
          · obtain ⟨ad, e102, hcx⟩ := Kd.at_int (Kd.C_below HR.out HM.out.below) (k : Int) (by omega) (by omega)
            cases e102
            rw [rd_dat, Int.toNat_natCast] at hcx
            by_cases hk3 : k < ys.length
            · obtain ⟨ad', e103, hcy⟩ := Kd.at_int (Kd.C_below HR'.out HM.out.below) (k : Int) (by omega) (by omega)
              cases e103
              rw [rd_dat, Int.toNat_natCast] at hcy
              go_wp2_with fail
              refine (next_calls (dat xs k + dat ys k) cr B wr (by omega) hcr (by omega) hbox hfree).mono ?_
              rintro e w2 ⟨rfl, hw2⟩
              have HM2 : Aside0 (AddMem w w2 g B cap (xs.length + 1) os ((cr + (dat xs k + dat ys k)) / 4294967296)) := ⟨by rw [hw2]; exact HM.out.next _ _⟩
              clear hw2 hbox hfree HM
              obtain ⟨hc2, hf2⟩ := HM2.out.cell k hk1
              go_wp2_with fail
              clear hc2 hf2
              have HS := Aside0.mk (HA.out.step HX.out.dig HY.out.dig (by omega))
              go_roundw
              case rel => exact ⟨k + 1, _, _, by go_num, by omega, ⟨HM2.out.put (by have := HA.out.len; omega) k _⟩, HS⟩
              case measure => simp [intOf]; omega
            · go_wp2_with fail
              refine (next_calls (dat xs k) cr B wr (by omega) hcr (by omega) hbox hfree).mono ?_
              rintro e w2 ⟨rfl, hw2⟩
              have HM2 : Aside0 (AddMem w w2 g B cap (xs.length + 1) os ((cr + (dat xs k)) / 4294967296)) := ⟨by rw [hw2]; exact HM.out.next _ _⟩
              clear hw2 hbox hfree HM
              obtain ⟨hc2, hf2⟩ := HM2.out.cell k hk1
              go_wp2_with fail
              clear hc2 hf2
              have HS := Aside0.mk (HA.out.step HX.out.dig HY.out.dig (by omega))
              rw [dat_of_ge (xs := ys) (by omega)] at HS
              rw [Int.add_zero] at HS
              go_roundw
              case rel => exact ⟨k + 1, _, _, by go_num, by omega, ⟨HM2.out.put (by have := HA.out.len; omega) k _⟩, HS⟩
              case measure => simp [intOf]; omega
          · have hk3 : ¬ k < ys.length := by omega
            go_wp2_with fail
            refine (next_calls (0) cr B wr (by omega) hcr (by omega) hbox hfree).mono ?_
            rintro e w2 ⟨rfl, hw2⟩
            have HM2 : Aside0 (AddMem w w2 g B cap (xs.length + 1) os ((cr + (0)) / 4294967296)) := ⟨by rw [hw2]; exact HM.out.next _ _⟩
            clear hw2 hbox hfree HM
            obtain ⟨hc2, hf2⟩ := HM2.out.cell k hk1
            go_wp2_with fail
            clear hc2 hf2
            have HS := Aside0.mk (HA.out.step HX.out.dig HY.out.dig (by omega))
            rw [dat_of_ge (xs := xs) (by omega)] at HS
            rw [dat_of_ge (xs := ys) (by omega)] at HS
            simp only [Int.add_zero] at HS HM2
            go_roundw
            case rel => exact ⟨k + 1, _, _, by go_num, by omega, ⟨HM2.out.put (by have := HA.out.len; omega) k _⟩, HS⟩
            case measure => simp [intOf]; omega
        · obtain rfl : k = xs.length + 1 := by omega
          have HD := Aside0.mk (HA.out.done HX.out HY.out hl)
          have HDIG := Aside0.mk HA.out.dig
          have HLEN := Aside0.mk HA.out.len
          obtain ⟨r, hr1, hr2, hr3⟩ := fit_num HDIG.out HD.out (by rw [HLEN.out]; omega) (fits_1024 HF.out)
          have HN := Aside0.mk (And.intro hr1 (And.intro hr2 (hr3 _ (Nat.lt_succ_self _))))
          clear hr1 hr2 hr3
          go_wp2_with fail
          have hfit := nat_fit.calls _ (fun _ => True) (some ⟨g, 0, none⟩) cap os r 0 wr (by rw [HLEN.out]; exact Kd.V_mono (Kd.R_V HM.out.row) (fun _ _ => trivial)) HN.out.2.2
          rw [HLEN.out] at hfit
          refine hfit.mono ?_
          rintro e w3 ⟨v3, rfl, hv3, hb3⟩
          go_wp2_with fail
          go_ret2
          exact ⟨v3, rfl, IsN.of_V hv3 HN.out.1 HN.out.2.1, below_step HM.out.below hb3⟩

theorem Add_calls {va vb : Value} {x y : Nat} (w : World) (ha : IsN w va x) (hb : IsN w vb y) (hx : Fits x) (hy : Fits y) (hf : Fits (x + y)) :
    Calls Tryz.prog 85 #[va, vb] w (GivesNE w (x + y) 0) := by
  obtain ⟨xs, A, c, rfl, h2, h3, h4, h5⟩ := ha
  obtain ⟨ys, B, d, rfl, g2, g3, g4, g5⟩ := hb
  by_cases hl : ys.length ≤ xs.length
  · exact Add_core false w h4 g4 h5 g5 h2 g2 hl (fun h => by cases h) (fits_len h4 hx) hf
  · have h := Add_core true w g4 h4 g5 h5 g2 h2 (by omega) (fun _ => by omega) (fits_len g4 hy) (by rw [Nat.add_comm]; exact hf)
    rw [Nat.add_comm] at h
    exact h

end Go.Proofs.YteeacbgaehdodaaGreat
