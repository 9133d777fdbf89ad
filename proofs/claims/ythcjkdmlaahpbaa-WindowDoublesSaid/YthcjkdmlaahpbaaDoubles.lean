/- The walk of WindowDoubles, and the law. -/
import Derived.Test.YthcjkdmlaahpbaaDoubles0
namespace Go.Proofs.Ythcjkdmlaahpbaa.Moves
open Go.RowKit Go.Proofs.Ythcjkdmlaahpbaa.Aid Go.Proofs.Ythcjkdmlaahpbaa.Fl Go.Proofs.Ythcjkdmlaahpbaa.Mem Go.Proofs.Ythcjkdmlaahpbaa.Keep Go.Proofs.Ythcjkdmlaahpbaa.Round Go.Proofs.Ythcjkdmlaahpbaa.Smooth Go.Proofs.Ythcjkdmlaahpbaa.Added Go.Proofs.Ythcjkdmlaahpbaa.Smooths Go.Proofs.Ythcjkdmlaahpbaa.AliveN
open Go.Proofs.Ythcjkdmlaahpbaa.Win (AP ap_eq)
open Ieee (double Toward Format)
set_option linter.unusedSimpArgs false
set_option linter.unusedVariables false
set_option maxRecDepth 100000
attribute [local go_sem ↓] ap_eq
theorem share_tests {sh : Nat} (hsx : sh < 18446744073709551616) (g0 : (FloatKind.f64.format.order sh 4517329193108106637 == some .gt) = true) :
    (shareB sh = false → (FloatKind.f64.format.order sh 4607182418800017408 == some .lt || FloatKind.f64.format.order sh 4607182418800017408 == some .eq) = false) ∧
    (shareB sh = true → (FloatKind.f64.format.order sh 4607182418800017408 == some .lt || FloatKind.f64.format.order sh 4607182418800017408 == some .eq) = true ∧ ∃ rs, sh = double.word false rs ∧ 0 < rs ∧ rs < 9218868437227405312 ∧ V rs ≤ U ∧ P2 1054 ≤ V rs) := by
  obtain ⟨g, q, rfl, hq⟩ := nan_ord hsx g0
  have w0 : (0 : Nat) = double.word false 0 := (word_f 0).symm
  have w1 : (4517329193108106637 : Nat) = double.word false 4517329193108106637 := (word_f _).symm
  have w2 : (4607182418800017408 : Nat) = double.word false 4607182418800017408 := (word_f _).symm
  rw [w1, c_gt hq (by decide)] at g0
  have g0 := of_decide_eq_true g0
  rw [sv_f] at g0
  obtain ⟨rfl, hp⟩ := sv_pos_of g0
  have e0 : (FloatKind.f64.format.order (double.word false q) 0 == some .gt) = true := by
    rw [← word_f 0, c_gt hq (by decide)]
    refine decide_eq_true ?_
    rw [sv_f, sv_f]
    have := V_lt (Nat.lt_of_le_of_lt (Nat.zero_le _) hp)
    omega
  have hL : (FloatKind.f64.format.order (double.word false q) 4607182418800017408 == some .lt || FloatKind.f64.format.order (double.word false q) 4607182418800017408 == some .eq) = decide (V q ≤ U) := by
    conv => lhs; rw [w2]
    rw [c_le hq (by decide), sv_f, sv_f, K7, decide_eq_decide]
    omega
  unfold shareB
  rw [e0, Bool.true_and, hL]
  refine ⟨fun h => h, fun h => ⟨h, q, rfl, by omega, ?_, of_decide_eq_true h, Nat.le_trans K9 (V_le (Nat.le_of_lt hp))⟩⟩
  have h2 := of_decide_eq_true h
  rw [← K7] at h2
  have : q ≤ 4607182418800017408 := Nat.le_of_not_lt fun hh => by have := V_lt hh; omega
  omega
theorem r_true {r : Bool} {p : Prop} (h : r = false → p) (hn : ¬ p) : r = true := by
  cases r
  · exact absurd (h rfl) hn
  · rfl
theorem far_v (sh : Nat) (xs : List Nat) (A : Option Addr) (n c : Nat) (W : World) (hsx : sh < 18446744073709551616) (hs : shareB sh = true) (h : Flts W A n xs) (hxs : ∀ x ∈ xs, x < 18446744073709551616) (hn : n ≤ 140737488351232) :
    Calls Try.prog 24 #[.float .f64 sh, .slice A n c] W fun e w' => ∃ r : Bool, e = .returned (.bool r) ∧ Below W.heap.size W w' ∧ (r = false → FT sh xs xs.length) := by
  refine (far_c sh xs A n c W hsx hs h hxs hn).mono fun e w' ⟨hb, hh⟩ => ?_
  rcases hh with rfl | ⟨rfl, hf⟩
  · exact ⟨true, rfl, hb, fun h => by cases h⟩
  · exact ⟨false, rfl, hb, fun _ => hf⟩
theorem both_end {mn mn2 : Nat} (h : Both mn mn2 true) : ∃ mn', double.mul 4611686018427387904 mn = some mn' ∧ (FloatKind.f64.format.order mn2 mn' == some .eq) = true := by
  obtain ⟨g, q, g', q', rfl, rfl, hq, hq', e, hB, _⟩ := h.2.2 rfl
  have hr : q ≤ 6106881094714392576 := Nat.le_of_not_lt fun hh => by
    have h1 : BB < V q := V_lt hh
    omega
  have hu := up_lt (q := q) (by omega)
  refine ⟨_, mul_two (by omega), ?_⟩
  rw [c_eq (by omega) (by omega), sv_up, e]
  exact decide_eq_true rfl
theorem whole_end {sh : Nat} {xs : List Nat} (hsx : sh < 18446744073709551616) (hs : shareB sh = true) (h1 : oE sh 4607182418800017408 = true) (hx : ∀ x ∈ xs, Whole x) {mn xl : Nat} (hb : beF sh xs = some (mn, true)) (hl : xs[xs.length - 1]? = some xl) (h0 : 0 < xs.length) : (FloatKind.f64.format.order mn xl == some .eq) = true := by
  have hb' : beF sh (xs.take xs.length) = some (mn, true) := by rw [List.take_length]; exact hb
  obtain ⟨_, x, g, q, gm, qm, hx2, ex, em, hq, hqm, e⟩ := whole_run hsx hs h1 hx xs.length h0 (Nat.le_refl _) mn true hb'
  rw [hl] at hx2
  obtain rfl := Option.some.inj hx2
  rw [em, ex, c_eq (by omega) (by omega)]
  exact decide_eq_true e
theorem doubles_0 (sh : Nat) (A : Option Addr) (n c : Nat) (w : World) (g0 : (FloatKind.f64.format.order sh 4517329193108106637 == some .gt) = false) :
    Calls Try.prog 6 #[.float .f64 sh, .slice A n c] w fun e w' => e = .returned (.bool true) ∧ Below w.heap.size w w' := by
  go_enter Try.func6, Try.ntmps6
  go_wp2_with (first | (go_at_call 13; with_reducible refine (alive_c _).mono ?_; rintro e w9 ⟨rfl, hb9⟩; have HB9 := Lib.hid hb9; clear hb9))
  go_ret
  exact ⟨rfl, HB9.out⟩
set_option maxHeartbeats 16000000 in
theorem doubles_1 (sh : Nat) (xs : List Nat) (A : Option Addr) (n c : Nat) (w : World) (hsx : sh < 18446744073709551616) (h : Flts w A n xs) (hxs : ∀ z ∈ xs, z < 18446744073709551616) (hn : n ≤ 17592186043904) (g0 : (FloatKind.f64.format.order sh 4517329193108106637 == some .gt) = true) (b0 : Bool) (s0 : (FloatKind.f64.format.order sh 4607182418800017408 == some .eq) = b0) :
    Calls Try.prog 6 #[.float .f64 sh, .slice A n c] w fun e w' => e = .returned (.bool true) ∧ Below w.heap.size w w' := by
  have H := Lib.hid h
  have HX := Lib.hid hxs
  have hlen := h.1
  clear h hxs
  go_enter Try.func6, Try.ntmps6
  go_wp2
  go_loopw [5, 6, 7] (fun tw wh i wr => ∃ (j : Nat) (ys : List Nat) (b : Bool) (V' : Value), j ≤ n ∧ i = .int .i64 j ∧ wh = .bool b ∧ V' = tw ∧ Own wr w.heap.size 32 1 V' j (ys.map (Value.float .f64)) ∧ Hid (Bld sh xs ys j b) ∧ Below w.heap.size w wr) (fun _ _ i _ => n - (intOf i).toNat)
  case atStart => exact ⟨0, [], b0, _, Nat.zero_le _, rfl, by first | rfl | rw [s0], rfl, Own.nil _ _ _ _, Lib.hid ⟨rfl, (fun i x y _ h => by cases h), (fun y hy => by cases hy), fun e => ⟨s0.trans e, fun i hi => absurd hi (by omega)⟩⟩, Below.refl _ _⟩
  case round =>
    obtain ⟨j, ys, b, V', hj, rfl, rfl, rfl, hO, HB, hbel⟩ := hrel
    by_cases hlt : j < n
    · obtain ⟨ad, x, rfl, hx0, hc0⟩ := H.out.at_ hlt
      have kc : wr.cell? (ad.add j) = some (.float .f64 x) := (hbel.cell (World.block_lt_of_cell? w _ hc0)).trans hc0
      have KC := Lib.hid (fun (W : World) (hb : Below w.heap.size w W) => show W.cell? (ad.add j) = some (.float .f64 x) from (hb.cell (World.block_lt_of_cell? w _ hc0)).trans hc0)
      have hx := HX.out x (List.mem_of_getElem? hx0)
      have HP := Lib.hid hx0
      clear hx0 hc0
      cases hcb : calmB x
      · have HCB := Lib.hid hcb
        have HBEL := Lib.hid hbel
        clear hcb hO hbel
        go_wp2_with (first | (go_at_call 23; (with_reducible refine (calm_v x false _ HCB).mono ?_); rintro e w' ⟨rfl, rfl⟩) | (go_at_call 13; with_reducible refine (alive_c _).mono ?_; rintro e w9 ⟨rfl, hb9⟩; have HB9 := Lib.hid (kbt HBEL.out hb9); clear hb9))
        go_ret
        exact ⟨rfl, HB9.out⟩
      · have HCB := Lib.hid hcb
        have hcalm := calm_of hx hcb
        obtain ⟨y, hmul0, hd, hy⟩ := dbl_of hcalm
        have hmul : ∀ t w, (binOp .mul t (.float .f64 4611686018427387904) (.float .f64 x)).run Try.prog w = .ok (.float .f64 y) w := fun t w => run_float_arith w .mul t .f64 _ _ _ hmul0
        obtain ⟨A7, c7, w7, hap, hO7, hB7⟩ := app_flt (W := wr) (G := wr.heap.size) rfl hO hbel.size (by omega) y
        have HO7 := Lib.hid hO7
        have HB7 := Lib.hid (hbel.trans hB7)
        have kc7 := KC.out w7 HB7.out
        have HM := Lib.hid (fun (b' : Bool) (hb : b' = true → b = true ∧ Whole x) => HB.out.more HP.out hcalm hd hy hb)
        have HCL := Lib.hid hcalm
        have hlt' : (j : Int) < (n : Int) := by omega
        clear hcb hmul0 hO hO7 hB7 hbel hd hcalm
        cases b
        · go_wp2_with (first | (go_at_call 23; (with_reducible refine (calm_v x true _ HCB).mono ?_); rintro e w' ⟨rfl, rfl⟩))
          go_quiet (fail)
          go_wp2
          go_roundw
          case rel => exact ⟨j + 1, ys ++ [y], false, _, by omega, by go_num, rfl, rfl, Own.drewN HO7.out nq, HM.out false (fun e => by cases e) |> Lib.hid, below_drewN HB7.out nq⟩
          case measure => simp [intOf]; omega
        · cases t1 : oG x 14054727237768577024
          · have t1' : (FloatKind.f64.format.order x 14054727237768577024 == some .gt) = false := t1
            clear t1
            go_wp2_with (first | (go_at_call 23; (with_reducible refine (calm_v x true _ HCB).mono ?_); rintro e w' ⟨rfl, rfl⟩))
            go_quiet (fail)
            go_wp2
            go_roundw
            case rel => exact ⟨j + 1, ys ++ [y], false, _, by omega, by go_num, rfl, rfl, Own.drewN HO7.out nq, HM.out false (fun e => by cases e) |> Lib.hid, below_drewN HB7.out nq⟩
            case measure => simp [intOf]; omega
          · have t1' : (FloatKind.f64.format.order x 14054727237768577024 == some .gt) = true := t1
            cases t2 : oL x 4831355200913801216
            · have t2' : (FloatKind.f64.format.order x 4831355200913801216 == some .lt) = false := t2
              clear t1 t2
              go_wp2_with (first | (go_at_call 23; (with_reducible refine (calm_v x true _ HCB).mono ?_); rintro e w' ⟨rfl, rfl⟩))
              go_quiet (fail)
              go_wp2
              go_roundw
              case rel => exact ⟨j + 1, ys ++ [y], false, _, by omega, by go_num, rfl, rfl, Own.drewN HO7.out nq, HM.out false (fun e => by cases e) |> Lib.hid, below_drewN HB7.out nq⟩
              case measure => simp [intOf]; omega
            · have t2' : (FloatKind.f64.format.order x 4831355200913801216 == some .lt) = true := t2
              obtain ⟨z, hz, hw⟩ := whole_test HCL.out t1 t2
              have hcv : ∀ w, (convert 32 2 (.float .f64 x)).run Try.prog w = .ok (.int .i64 z) w := fun w => run_convert_float_int w _ _ .f64 .i64 _ _ (by rw [Try.underlying32]; rfl) Try.underlying2 hz
              have HW := Lib.hid hw
              clear t1 t2 hz hw
              cases t3 : oE x (floatOfInt .f64 z)
              all_goals
                have t3' : (FloatKind.f64.format.order x (floatOfInt .f64 z) == some .eq) = _ := t3
                have HT3 := Lib.hid t3
                clear t3
                go_wp2_with (first | (go_at_call 23; (with_reducible refine (calm_v x true _ HCB).mono ?_); rintro e w' ⟨rfl, rfl⟩))
                go_quiet (fail)
                go_wp2
                go_roundw
                case rel => exact ⟨j + 1, ys ++ [y], _, _, by omega, by go_num, rfl, rfl, Own.drewN HO7.out nq, Lib.hid (HM.out _ (fun e => by have hww := HW.out (HT3.out.trans e); first | exact ⟨rfl, hww⟩ | exact ⟨trivial, hww⟩ | exact hww)), below_drewN HB7.out nq⟩
                case measure => simp [intOf]; omega
    · obtain rfl : n = j := by omega
      clear s0
      obtain ⟨A2, c2, rfl, hY⟩ := flts_own hO
      have HY := Lib.hid hY
      have HXS := Lib.hid (flts_below H.out hbel)
      have HBEL := Lib.hid hbel
      have hyl := HB.out.len
      have HYL := Lib.hid HB.out.lt
      have hn' : n ≤ 140737488351232 := by omega
      have W3 := Lib.hid (fun (W : World) (hb : Below w.heap.size w W) => flts_below H.out hb)
      clear hO hY hbel
      obtain ⟨q1, q2⟩ := share_tests hsx g0
      cases hs : shareB sh
      · have HS := Lib.hid (show shareB sh = false ∨ beF sh xs = none from .inl hs)
        have HS2 := Lib.hid (show shareB sh = false ∨ beF sh ys = none from .inl hs)
        have HS3 := Lib.hid hs
        have hle := q1 hs
        clear hs q1 q2
        go_wp2_with (first | (go_at_call 24; (with_reducible refine (far_no sh A n c _ HS3.out).mono ?_); rintro e w1 ⟨rfl, hb⟩; have L1 := Lib.hid (kbt HBEL.out hb); have X1 := Lib.hid (flts_below HXS.out hb); have Y1 := Lib.hid (flts_below HY.out hb); clear hb) | (go_at_call 19; (with_reducible refine (behind_none sh xs A n c w1 hsx X1.out HX.out hn' HS.out).mono ?_); rintro e w2 ⟨rfl, hb⟩; have L2 := Lib.hid (kbt L1.out hb); have Y2 := Lib.hid (flts_below Y1.out hb); clear hb) | (go_at_call 19; (with_reducible refine (behind_none sh ys A2 n c2 w2 hsx Y2.out HYL.out hn' HS2.out).mono ?_); rintro e w3 ⟨rfl, hb⟩; have L3 := Lib.hid (kbt L2.out hb); clear hb) | (go_at_call 13; with_reducible refine (alive_c _).mono ?_; rintro e w9 ⟨rfl, hb9⟩; have HB9 := Lib.hid (kbt L3.out hb9); clear hb9))
        go_ret
        exact ⟨rfl, HB9.out⟩
      · obtain ⟨hle, rs, es, r0, r1, v1, v2⟩ := q2 hs
        have HS3 := Lib.hid hs
        clear q1 q2 hs
        by_cases hFT : FT sh xs xs.length
        case neg =>
          have HNF := Lib.hid hFT
          clear hFT es
          go_wp2_with (first | (go_at_call 24; (with_reducible refine (far_v sh xs A n c _ hsx HS3.out HXS.out HX.out hn').mono ?_); rintro e w1 ⟨r, rfl, hb, hr⟩; obtain rfl := r_true hr HNF.out; clear hr; have L1 := Lib.hid (kbt HBEL.out hb); have X1 := Lib.hid (flts_below HXS.out hb); have Y1 := Lib.hid (flts_below HY.out hb); clear hb) | (go_at_call 13; with_reducible refine (alive_c _).mono ?_; rintro e w9 ⟨rfl, hb9⟩; have HB9 := Lib.hid (kbt L1.out hb9); clear hb9))
          go_ret
          exact ⟨rfl, HB9.out⟩
        case pos =>
          have hft := hFT
          obtain ⟨mn, mn2, b1, b2, hB⟩ := run_two es r0 r1 v1 v2 (hlen.trans hyl.symm) HB.out.pair hft n (by omega)
          rw [List.take_of_length_le (by omega)] at b1 b2
          have HR1 := Lib.hid b1
          have HR2 := Lib.hid b2
          have HBB := Lib.hid hB
          clear b1 b2 hB hft hFT es
          by_cases hn0 : n = 0
          · have hd0 : decide (0 < n) = false := decide_eq_false (by omega)
            have hn0' : ((n : Int) == 0) = true := by rw [hn0]; rfl
            clear hn0
            go_wp2_with (first | (go_at_call 24; (with_reducible refine (far_v sh xs _ n c _ hsx HS3.out HXS.out HX.out hn').mono ?_); rintro e w1 ⟨r, rfl, hb, hr⟩; clear hr; have L1 := Lib.hid (kbt HBEL.out hb); have X1 := Lib.hid (flts_below HXS.out hb); have Y1 := Lib.hid (flts_below HY.out hb); clear hb) | (go_at_call 13; with_reducible refine (alive_c _).mono ?_; rintro e w9 ⟨rfl, hb9⟩; have HB9 := Lib.hid (kbt L1.out hb9); clear hb9) | (go_at_call 19; (with_reducible refine (behind_some sh xs A n c w1 hsx HS3.out X1.out HX.out hn' mn (decide (0 < n)) HR1.out).mono ?_); rintro e w2 ⟨rfl, hs1, _, hb, _⟩; have S1 := Lib.hid hs1; have L2 := Lib.hid (kbt L1.out hb); have Y2 := Lib.hid (flts_below Y1.out hb); clear hb hs1) | (go_at_call 19; (with_reducible refine (behind_some sh ys A2 n c2 w2 hsx HS3.out Y2.out HYL.out hn' mn2 (decide (0 < n)) HR2.out).mono ?_); rintro e w3 ⟨rfl, hs2, _, hb, _⟩; have T2 := Lib.hid hs2; have S2 := Lib.hid (show Smo w3 w1.heap.size sh mn (decide (0 < n)) from Blk.keep S1.out hb); have L3 := Lib.hid (kbt L2.out hb); clear hb hs2) | (go_at_call 13; with_reducible refine (alive_c _).mono ?_; rintro e w9 ⟨rfl, hb9⟩; have HB9 := Lib.hid (kbt L3.out hb9); clear hb9))
            all_goals (go_ret; exact ⟨rfl, HB9.out⟩)
          · have hd0 : decide (0 < n) = true := decide_eq_true (by omega)
            obtain ⟨k, hk⟩ : ∃ k, k + 1 = n := ⟨n - 1, by omega⟩
            obtain ⟨ad, xl, rfl, hxl, hcl⟩ := H.out.at_ (show k < n by omega)
            have KC := Lib.hid (fun (W : World) (hb : Below w.heap.size w W) => show W.cell? (ad.add k) = some (.float .f64 xl) from (hb.cell (World.block_lt_of_cell? w _ hcl)).trans hcl)
            have hidx : (n : Int) - 1 = (k : Int) := by omega
            have hkn : (k : Int) < (n : Int) := by omega
            have hn0' : ((n : Int) == 0) = false := beq_eq_false_iff_ne.2 (by omega)
            have HB2 := HBB.out
            rw [hd0] at HB2 HR1 HR2
            obtain ⟨mn', hmul0, heq⟩ := both_end HB2
            have hmul : ∀ t w, (binOp .mul t (.float .f64 4611686018427387904) (.float .f64 mn)).run Try.prog w = .ok (.float .f64 mn') w := fun t w => run_float_arith w .mul t .f64 _ _ _ hmul0
            have HO1 := Lib.hid HB2.1
            have HO2 := Lib.hid HB2.2.1
            cases b
            · clear hmul0 HB2 hxl hcl hn0 hk
              go_wp2_with (first | (go_at_call 24; (with_reducible refine (far_v sh xs _ n c _ hsx HS3.out HXS.out HX.out hn').mono ?_); rintro e w1 ⟨r, rfl, hb, hr⟩; clear hr; have L1 := Lib.hid (kbt HBEL.out hb); have X1 := Lib.hid (flts_below HXS.out hb); have Y1 := Lib.hid (flts_below HY.out hb); clear hb) | (go_at_call 13; with_reducible refine (alive_c _).mono ?_; rintro e w9 ⟨rfl, hb9⟩; have HB9 := Lib.hid (kbt L1.out hb9); clear hb9) | (go_at_call 19; (with_reducible refine (behind_some sh xs _ n c w1 hsx HS3.out X1.out HX.out hn' mn true HR1.out).mono ?_); rintro e w2 ⟨rfl, hs1, _, hb, _⟩; have S1 := Lib.hid hs1; have L2 := Lib.hid (kbt L1.out hb); have Y2 := Lib.hid (flts_below Y1.out hb); clear hb hs1) | (go_at_call 19; (with_reducible refine (behind_some sh ys A2 n c2 w2 hsx HS3.out Y2.out HYL.out hn' mn2 true HR2.out).mono ?_); rintro e w3 ⟨rfl, hs2, _, hb, _⟩; have T2 := Lib.hid hs2; have S2 := Lib.hid (show Smo w3 w1.heap.size sh mn true from Blk.keep S1.out hb); have L3 := Lib.hid (kbt L2.out hb); have kl := KC.out w3 L3.out; clear hb hs2) | (go_at_call 20; (with_reducible refine (mean_v w3 w1.heap.size sh mn true S2.out HO1.out).mono ?_); rintro e w' ⟨rfl, rfl⟩) | (go_at_call 20; (with_reducible refine (mean_v w3 w2.heap.size sh mn2 true T2.out HO2.out).mono ?_); rintro e w' ⟨rfl, rfl⟩) | (go_at_call 13; with_reducible refine (alive_c _).mono ?_; rintro e w9 ⟨rfl, hb9⟩; have HB9 := Lib.hid (kbt L3.out hb9); clear hb9))
              all_goals (go_ret; exact ⟨rfl, HB9.out⟩)
            · have hlast : (FloatKind.f64.format.order mn xl == some .eq) = true := whole_end hsx HS3.out (HB.out.wh rfl).1 (fun z hz => by
                obtain ⟨i, hi, e⟩ := List.getElem_of_mem hz
                exact (HB.out.wh rfl).2 i (by omega) z (by rw [List.getElem?_eq_getElem hi, e])) HR1.out (by rw [hlen, show n - 1 = k by omega]; exact hxl) (by omega)
              clear hmul0 HB2 hxl hcl hn0 hk
              go_wp2_with (first | (go_at_call 24; (with_reducible refine (far_v sh xs _ n c _ hsx HS3.out HXS.out HX.out hn').mono ?_); rintro e w1 ⟨r, rfl, hb, hr⟩; clear hr; have L1 := Lib.hid (kbt HBEL.out hb); have X1 := Lib.hid (flts_below HXS.out hb); have Y1 := Lib.hid (flts_below HY.out hb); clear hb) | (go_at_call 13; with_reducible refine (alive_c _).mono ?_; rintro e w9 ⟨rfl, hb9⟩; have HB9 := Lib.hid (kbt L1.out hb9); clear hb9) | (go_at_call 19; (with_reducible refine (behind_some sh xs _ n c w1 hsx HS3.out X1.out HX.out hn' mn true HR1.out).mono ?_); rintro e w2 ⟨rfl, hs1, _, hb, _⟩; have S1 := Lib.hid hs1; have L2 := Lib.hid (kbt L1.out hb); have Y2 := Lib.hid (flts_below Y1.out hb); clear hb hs1) | (go_at_call 19; (with_reducible refine (behind_some sh ys A2 n c2 w2 hsx HS3.out Y2.out HYL.out hn' mn2 true HR2.out).mono ?_); rintro e w3 ⟨rfl, hs2, _, hb, _⟩; have T2 := Lib.hid hs2; have S2 := Lib.hid (show Smo w3 w1.heap.size sh mn true from Blk.keep S1.out hb); have L3 := Lib.hid (kbt L2.out hb); have kl := KC.out w3 L3.out; clear hb hs2) | (go_at_call 20; (with_reducible refine (mean_v w3 w1.heap.size sh mn true S2.out HO1.out).mono ?_); rintro e w' ⟨rfl, rfl⟩) | (go_at_call 20; (with_reducible refine (mean_v w3 w2.heap.size sh mn2 true T2.out HO2.out).mono ?_); rintro e w' ⟨rfl, rfl⟩) | (go_at_call 13; with_reducible refine (alive_c _).mono ?_; rintro e w9 ⟨rfl, hb9⟩; have HB9 := Lib.hid (kbt L3.out hb9); clear hb9))
              all_goals (go_ret; exact ⟨rfl, HB9.out⟩)
/-- The law. -/
theorem doubles (sh : Nat) (xs : List Nat) (A : Option Addr) (n c : Nat) (w : World) (h1 : (Lit.float .f64 sh).wf = true) (h : Flts w A n xs) (hxs : ∀ x ∈ xs, (Lit.float .f64 x).wf = true) (hc : n ≤ c) (hn : n ≤ 17592186043904) :
    Calls Try.prog 6 #[.float .f64 sh, .slice A n c] w fun e w' => e = .returned (.bool true) ∧ Below w.heap.size w w' := by
  cases g0 : (FloatKind.f64.format.order sh 4517329193108106637 == some .gt)
  · exact doubles_0 sh A n c w g0
  · exact doubles_1 sh xs A n c w (wf_lt h1) h (fun z hz => wf_lt (hxs z hz)) hn g0 _ rfl
end Go.Proofs.Ythcjkdmlaahpbaa.Moves
