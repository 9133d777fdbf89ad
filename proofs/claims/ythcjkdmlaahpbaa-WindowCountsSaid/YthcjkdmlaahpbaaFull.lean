/- The walk of WindowFull, and the law. -/
import Derived.Test.YthcjkdmlaahpbaaAliveN
namespace Go.Proofs.Ythcjkdmlaahpbaa.Full
open Go.RowKit Go.Proofs.Ythcjkdmlaahpbaa.Aid Go.Proofs.Ythcjkdmlaahpbaa.Fl Go.Proofs.Ythcjkdmlaahpbaa.Mem Go.Proofs.Ythcjkdmlaahpbaa.Keep Go.Proofs.Ythcjkdmlaahpbaa.Round Go.Proofs.Ythcjkdmlaahpbaa.Win Go.Proofs.Ythcjkdmlaahpbaa.Smooth Go.Proofs.Ythcjkdmlaahpbaa.AliveN
set_option linter.unusedSimpArgs false
set_option linter.unusedVariables false
set_option maxRecDepth 100000
/-- A width that may be. -/
def widthV (n : Int) : Int := if n.tmod 1048576 < 1 then n.tmod 1048576 + 1048576 else n.tmod 1048576
theorem width_in (n : Int) : 1 ≤ widthV n ∧ widthV n ≤ 1048576 := by
  have h1 := Int.tmod_lt_of_pos n (show (0 : Int) < 1048576 by decide)
  have h2 : -1048576 < n.tmod 1048576 := by
    have h3 := Int.tmod_lt_of_pos (-n) (show (0 : Int) < 1048576 by decide)
    rw [Int.neg_tmod] at h3
    omega
  unfold widthV
  split <;> omega
theorem width_c (n : Int) (w : World) (hn : -9223372036854775808 ≤ n ∧ n ≤ 9223372036854775807) : Calls Try.prog 10 #[.int .i64 n] w fun e w' => e = .returned (.int .i64 (widthV n)) ∧ w = w' := by
  have hin := width_in n
  have h1 := Int.tmod_lt_of_pos n (show (0 : Int) < 1048576 by decide)
  have h2 : -1048576 < n.tmod 1048576 := by
    have h3 := Int.tmod_lt_of_pos (-n) (show (0 : Int) < 1048576 by decide)
    rw [Int.neg_tmod] at h3
    omega
  unfold widthV at hin ⊢
  obtain ⟨T, eT⟩ : ∃ T, n.tmod 1048576 = T := ⟨_, rfl⟩
  rw [eT] at hin h1 h2 ⊢
  have hw : IntKind.i64.wrap T = T := (IntKind.wrap_i64 _).trans (by omega)
  obtain ⟨n0, n1⟩ := hn
  by_cases h : T < 1
  · rw [if_pos h] at hin ⊢
    obtain ⟨i0, i1⟩ := hin
    go_enter Try.func10, Try.ntmps10
    go_wp2
    go_ret
    exact ⟨rfl, rfl⟩
  · rw [if_neg h] at hin ⊢
    go_enter Try.func10, Try.ntmps10
    go_wp2
    go_ret
    exact ⟨rfl, rfl⟩
theorem width_v (n k : Int) (w : World) (hn : -9223372036854775808 ≤ n ∧ n ≤ 9223372036854775807) (hk : Hid (widthV n = k)) : Calls Try.prog 10 #[.int .i64 n] w fun e w' => e = .returned (.int .i64 k) ∧ w = w' := by
  obtain rfl := hk.out
  exact width_c n w hn
theorem chg_of_below {g : Nat} {W W' : World} (h : Below W.heap.size W W') : Chg g W W' := ⟨h.size, fun b hb _ => h.block b hb, h.os, h.tape, h.output⟩
set_option maxHeartbeats 4000000 in
theorem bad_n1 (wide n m : Int) (w : World) (hwide : -9223372036854775808 ≤ wide ∧ wide ≤ 9223372036854775807) (k : Int) (HK : Hid (widthV wide = k)) (k1 : 1 ≤ k) (k2 : k ≤ 1048576) (hn : n < 0) :
    Calls Try.prog 3 #[.int .i64 wide, .int .i64 n, .int .i64 m] w fun e w' => e = .returned (.bool true) ∧ Below w.heap.size w w' := by
  have HX : n < 0 ∨ 4611686018427387903 < n := .inl hn
  have HX := Lib.hid HX
  go_enter Try.func3, Try.ntmps3
  go_wp2_with (first | (go_at_call 10; (with_reducible refine (width_v wide k _ hwide HK).mono ?_); rintro e w0 ⟨rfl, rfl⟩) | (go_at_call 11; (refine (Win.new_ok k _ k1 k2).mono ?_); rintro e w1 ⟨rfl, hw, hz, hb⟩; have HW1 := Lib.hid (hw (w.heap.size + 1)); have HZ1 := Lib.hid (Nat.le_of_eq hz.symm); have HB1 := Lib.hid hb; clear hw hz hb) | (go_at_call 12; (with_reducible refine (add_bad w1 w.heap.size (w.heap.size + 1) k 0 0 [] 0 n HW1.out (Int.lt_of_lt_of_le (by decide) k1) HX.out).mono ?_); rintro e w2 ⟨rfl, rfl⟩) | (go_at_call 13; with_reducible refine (alive_c _).mono ?_; rintro e w9 ⟨rfl, hb⟩; have HB9 := Lib.hid (kbt (HB1).out hb); clear hb))
  go_ret
  exact ⟨rfl, HB9.out⟩
set_option maxHeartbeats 4000000 in
theorem bad_n2 (wide n m : Int) (w : World) (hwide : -9223372036854775808 ≤ wide ∧ wide ≤ 9223372036854775807) (k : Int) (HK : Hid (widthV wide = k)) (k1 : 1 ≤ k) (k2 : k ≤ 1048576) (hn0 : 0 ≤ n) (hn : 4611686018427387903 < n) :
    Calls Try.prog 3 #[.int .i64 wide, .int .i64 n, .int .i64 m] w fun e w' => e = .returned (.bool true) ∧ Below w.heap.size w w' := by
  have HX : n < 0 ∨ 4611686018427387903 < n := .inr hn
  have HX := Lib.hid HX
  go_enter Try.func3, Try.ntmps3
  go_wp2_with (first | (go_at_call 10; (with_reducible refine (width_v wide k _ hwide HK).mono ?_); rintro e w0 ⟨rfl, rfl⟩) | (go_at_call 11; (refine (Win.new_ok k _ k1 k2).mono ?_); rintro e w1 ⟨rfl, hw, hz, hb⟩; have HW1 := Lib.hid (hw (w.heap.size + 1)); have HZ1 := Lib.hid (Nat.le_of_eq hz.symm); have HB1 := Lib.hid hb; clear hw hz hb) | (go_at_call 12; (with_reducible refine (add_bad w1 w.heap.size (w.heap.size + 1) k 0 0 [] 0 n HW1.out (Int.lt_of_lt_of_le (by decide) k1) HX.out).mono ?_); rintro e w2 ⟨rfl, rfl⟩) | (go_at_call 13; with_reducible refine (alive_c _).mono ?_; rintro e w9 ⟨rfl, hb⟩; have HB9 := Lib.hid (kbt (HB1).out hb); clear hb))
  go_ret
  exact ⟨rfl, HB9.out⟩
set_option maxHeartbeats 4000000 in
theorem bad_m1 (wide n m : Int) (w : World) (hwide : -9223372036854775808 ≤ wide ∧ wide ≤ 9223372036854775807) (k : Int) (HK : Hid (widthV wide = k)) (k1 : 1 ≤ k) (k2 : k ≤ 1048576) (n0 : 0 ≤ n) (n1 : n ≤ 4611686018427387903) (hm : m < 0) :
    Calls Try.prog 3 #[.int .i64 wide, .int .i64 n, .int .i64 m] w fun e w' => e = .returned (.bool true) ∧ Below w.heap.size w w' := by
  have HX : m < 0 ∨ 4611686018427387903 < m := .inl hm
  have HX := Lib.hid HX
  go_enter Try.func3, Try.ntmps3
  go_wp2_with (first | (go_at_call 10; (with_reducible refine (width_v wide k _ hwide HK).mono ?_); rintro e w0 ⟨rfl, rfl⟩) | (go_at_call 11; (refine (Win.new_ok k _ k1 k2).mono ?_); rintro e w1 ⟨rfl, hw, hz, hb⟩; have HW1 := Lib.hid (hw (w.heap.size + 1)); have HZ1 := Lib.hid (Nat.le_of_eq hz.symm); have HB1 := Lib.hid hb; clear hw hz hb) | (go_at_call 12; (with_reducible refine (add_bad w1 w.heap.size (w.heap.size + 1) k 0 0 [] 0 m HW1.out (Int.lt_of_lt_of_le (by decide) k1) HX.out).mono ?_); rintro e w2 ⟨rfl, rfl⟩) | (go_at_call 13; with_reducible refine (alive_c _).mono ?_; rintro e w9 ⟨rfl, hb⟩; have HB9 := Lib.hid (kbt (HB1).out hb); clear hb))
  go_ret
  exact ⟨rfl, HB9.out⟩
set_option maxHeartbeats 4000000 in
theorem bad_m2 (wide n m : Int) (w : World) (hwide : -9223372036854775808 ≤ wide ∧ wide ≤ 9223372036854775807) (k : Int) (HK : Hid (widthV wide = k)) (k1 : 1 ≤ k) (k2 : k ≤ 1048576) (n0 : 0 ≤ n) (n1 : n ≤ 4611686018427387903) (hm0 : 0 ≤ m) (hm : 4611686018427387903 < m) :
    Calls Try.prog 3 #[.int .i64 wide, .int .i64 n, .int .i64 m] w fun e w' => e = .returned (.bool true) ∧ Below w.heap.size w w' := by
  have HX : m < 0 ∨ 4611686018427387903 < m := .inr hm
  have HX := Lib.hid HX
  go_enter Try.func3, Try.ntmps3
  go_wp2_with (first | (go_at_call 10; (with_reducible refine (width_v wide k _ hwide HK).mono ?_); rintro e w0 ⟨rfl, rfl⟩) | (go_at_call 11; (refine (Win.new_ok k _ k1 k2).mono ?_); rintro e w1 ⟨rfl, hw, hz, hb⟩; have HW1 := Lib.hid (hw (w.heap.size + 1)); have HZ1 := Lib.hid (Nat.le_of_eq hz.symm); have HB1 := Lib.hid hb; clear hw hz hb) | (go_at_call 12; (with_reducible refine (add_bad w1 w.heap.size (w.heap.size + 1) k 0 0 [] 0 m HW1.out (Int.lt_of_lt_of_le (by decide) k1) HX.out).mono ?_); rintro e w2 ⟨rfl, rfl⟩) | (go_at_call 13; with_reducible refine (alive_c _).mono ?_; rintro e w9 ⟨rfl, hb⟩; have HB9 := Lib.hid (kbt (HB1).out hb); clear hb))
  go_ret
  exact ⟨rfl, HB9.out⟩
/-- A window with one amount in it. -/
theorem ask_of {W : World} {g : Nat} {k ck sm : Int} {l : List (Int × Int)} {tick : Int} (hw : Win W g (g + 1) k ck sm l) (hz : g + 1 ≤ W.heap.size) (k1 : 1 ≤ k) (k2 : k ≤ 1048576) (hl : Lok l) (hn : l.length ≤ 4) (hs : sm = sumA l) (t0 : 0 ≤ tick) (t1 : tick ≤ 1099511627776) (hc : ck ≤ tick) : Win.Ask W g (g + 1) k ck sm l tick :=
  ⟨hw, Nat.lt_succ_self g, hz, hl, by omega, hs, t0, t1, by omega, k2, hc⟩
theorem lok1 {t n : Int} (t0 : 0 ≤ t) (t1 : t ≤ 1099511627776) (n0 : 0 ≤ n) (n1 : n ≤ 4611686018427387903) : Lok [(t, n)] :=
  ⟨fun p hp => by simp at hp; subst hp; exact ⟨t0, t1⟩, fun p hp => by simp at hp; subst hp; exact n0, by simp [sumA, tot]; exact n1⟩
theorem sum1 (t n : Int) : sumA [(t, n)] = n := by simp [sumA, tot]
theorem lead1 {t n x : Int} (h : t ≤ x) : lead x [(t, n)] = 1 := by simp [lead, h]
theorem lead0 {t n x : Int} (l : List (Int × Int)) (h : ¬ t ≤ x) : lead x ((t, n) :: l) = 0 := by simp [lead, h]
theorem full_add (W : World) (g : Nat) (k ck sm : Int) (l : List (Int × Int)) (tick x : Int) (h : Win.Ask W g (g + 1) k ck sm l tick) (x0 : 0 ≤ x) (x1 : x ≤ 4611686018427387903) (l2 : List (Int × Int)) (s2 : Int) (hl2 : push (l.drop (lead (tick - k) l)) tick x = l2) (hs2 : sumA (l.drop (lead (tick - k) l)) + x = s2) (hf : s2 ≤ 4611686018427387903) :
    Calls Try.prog 12 #[.pointer (some ⟨g, 0, none⟩), .int .i64 tick, .int .i64 x] W fun e w' => e = .returned (.int .i64 0) ∧ Win w' g W.heap.size k tick s2 l2 ∧ Chg g W w' := by
  subst hl2 hs2
  exact add_ok W g (g + 1) k ck sm l tick x h x0 x1 hf
set_option maxHeartbeats 4000000 in
theorem full_over (wide n m : Int) (w : World) (hwide : -9223372036854775808 ≤ wide ∧ wide ≤ 9223372036854775807) (k : Int) (HK : Hid (widthV wide = k)) (k1 : 1 ≤ k) (k2 : k ≤ 1048576) (n0 : 0 ≤ n) (n1 : n ≤ 4611686018427387903) (m0 : 0 ≤ m) (m1 : m ≤ 4611686018427387903) (hf : 4611686018427387903 - m < n) :
    Calls Try.prog 3 #[.int .i64 wide, .int .i64 n, .int .i64 m] w fun e w' => e = .returned (.bool true) ∧ Below w.heap.size w w' := by
  have nn : (n != n) = false := by simp
  have mm : (m == m) = true := by simp
  go_enter Try.func3, Try.ntmps3
  go_wp2_with (first | (go_at_call 10; (with_reducible refine (width_v wide k _ hwide HK).mono ?_); rintro e w0 ⟨rfl, rfl⟩) | (go_at_call 11; (refine (Win.new_ok k _ k1 k2).mono ?_); rintro e w1 ⟨rfl, hw, hz, hb⟩; have HW1 := Lib.hid (hw (w.heap.size + 1)); have HZ1 := Lib.hid (Nat.le_of_eq hz.symm); have HB1 := Lib.hid hb; clear hw hz hb) | (go_at_call 12; (with_reducible show Calls Try.prog 12 #[.pointer (some ⟨w.heap.size, 0, none⟩), .int .i64 (5 + k), .int .i64 m] _ _); (refine (full_add w4 w.heap.size k 5 n [(5, n)] (5 + k) m (ask_of HW4.out HZ4.out k1 k2 (lok1 (by decide) (by decide) n0 n1) (by simp) (sum1 _ _).symm (by omega) (by omega) (by omega)) m0 m1 [(5 + k, m)] m (by rw [lead1 (by omega)]; rfl) (by rw [lead1 (by omega)]; simp [sumA, tot]) m1).mono ?_); rintro e w5 ⟨rfl, hw, hc⟩; have HW5 := Lib.hid (hw.mono HZ4.out); have HB5 := Lib.hid (hc.below HB4.out (Nat.le_refl _) (by have := HZ4.out; omega)); have HZ5 := Lib.hid (Nat.le_trans HZ4.out hc.size); clear hw hc) | (go_at_call 12; (with_reducible show Calls Try.prog 12 #[.pointer (some ⟨w.heap.size, 0, none⟩), .int .i64 (5 + k - 1), .int .i64 m] _ _); (refine (add_full w2 w.heap.size (w.heap.size + 1) k 5 n [(5, n)] (5 + k - 1) m (ask_of HW2.out HZ2.out k1 k2 (lok1 (by decide) (by decide) n0 n1) (by simp) (sum1 _ _).symm (by omega) (by omega) (by omega)) m0 m1 [(5, n)] n (Lib.hid (by rw [lead0 _ (by omega)]; rfl)) (Lib.hid (sum1 _ _)) (by omega)).mono ?_); rintro e w3 ⟨rfl, hd⟩; have hc : Chg w.heap.size w2 w3 := Chg.of_dr hd; have HW3 : Hid (Win w3 w.heap.size (w.heap.size + 1) _ _ _ _) := Lib.hid (by obtain ⟨nn, rfl⟩ := hd; exact HW2.out.drewN nn); have HB3 := Lib.hid (hc.below HB2.out (Nat.le_refl _) (by have := HZ2.out; omega)); have HZ3 := Lib.hid (Nat.le_trans HZ2.out hc.size); clear hd hc) | (go_at_call 12; (with_reducible show Calls Try.prog 12 #[.pointer (some ⟨w.heap.size, 0, none⟩), .int .i64 5, .int .i64 n] _ _); (refine (full_add w1 w.heap.size k 0 0 [] 5 n (ask_of HW1.out HZ1.out k1 k2 ⟨by simp, by simp, by decide⟩ (by decide) (by decide) (by decide) (by decide) (by decide)) n0 n1 [(5, n)] n rfl (by simp [sumA, tot, lead]) n1).mono ?_); rintro e w2 ⟨rfl, hw, hc⟩; have HW2 := Lib.hid (hw.mono HZ1.out); have HB2 := Lib.hid (hc.below HB1.out (Nat.le_refl _) (by have := HZ1.out; omega)); have HZ2 := Lib.hid (Nat.le_trans HZ1.out hc.size); clear hw hc) | (go_at_call 14; (with_reducible show Calls Try.prog 14 #[.pointer (some ⟨w.heap.size, 0, none⟩), .int .i64 5] _ _); (refine (sum_ok w3 w.heap.size (w.heap.size + 1) k 5 n [(5, n)] 5 (ask_of HW3.out HZ3.out k1 k2 (lok1 (by decide) (by decide) n0 n1) (by simp) (sum1 _ _).symm (by decide) (by decide) (by decide)) [(5, n)] n (Lib.hid (by rw [lead0 _ (by omega)]; rfl)) (Lib.hid (sum1 _ _))).mono ?_); rintro e w4 ⟨rfl, hw, hc⟩; have HW4 := Lib.hid (hw.mono HZ3.out); have HB4 := Lib.hid (hc.below HB3.out (Nat.le_refl _) (by have := HZ3.out; omega)); have HZ4 := Lib.hid (Nat.le_trans HZ3.out hc.size); clear hw hc) | (go_at_call 14; (with_reducible show Calls Try.prog 14 #[.pointer (some ⟨w.heap.size, 0, none⟩), .int .i64 (5 + k)] _ _); (refine (sum_ok w5 w.heap.size (w.heap.size + 1) k (5 + k) m [(5 + k, m)] (5 + k) (ask_of HW5.out HZ5.out k1 k2 (lok1 (by omega) (by omega) m0 m1) (by simp) (sum1 _ _).symm (by omega) (by omega) (by omega)) [(5 + k, m)] m (Lib.hid (by rw [lead0 _ (by omega)]; rfl)) (Lib.hid (sum1 _ _))).mono ?_); rintro e w6 ⟨rfl, hw, hc⟩; have HW6 := Lib.hid (hw.mono HZ5.out); have HB6 := Lib.hid (hc.below HB5.out (Nat.le_refl _) (by have := HZ5.out; omega)); have HZ6 := Lib.hid (Nat.le_trans HZ5.out hc.size); clear hw hc) | (go_at_call 13; with_reducible refine (alive_c _).mono ?_; rintro e w9 ⟨rfl, hb⟩; have HB9 := Lib.hid (kbt (HB6).out hb); clear hb))
  go_ret
  exact ⟨rfl, HB9.out⟩
theorem lead2 {t u n m x : Int} (h : t ≤ x) (h2 : ¬ u ≤ x) : lead x [(t, n), (u, m)] = 1 := by simp [lead, h, h2]
theorem lok2 {t u n m : Int} (t0 : 0 ≤ t) (t1 : t ≤ 1099511627776) (u0 : 0 ≤ u) (u1 : u ≤ 1099511627776) (n0 : 0 ≤ n) (m0 : 0 ≤ m) (h : n + m ≤ 4611686018427387903) : Lok [(t, n), (u, m)] :=
  ⟨fun p hp => by simp at hp; rcases hp with rfl | rfl <;> constructor <;> assumption, fun p hp => by simp at hp; rcases hp with rfl | rfl <;> assumption, by simp [sumA, tot]; exact h⟩
theorem sum2 (t u n m : Int) : sumA [(t, n), (u, m)] = n + m := by simp [sumA, tot]
set_option maxHeartbeats 4000000 in
theorem full_wide (wide n m : Int) (w : World) (hwide : -9223372036854775808 ≤ wide ∧ wide ≤ 9223372036854775807) (k : Int) (HK : Hid (widthV wide = k)) (k1 : 1 ≤ k) (k2 : k ≤ 1048576) (n0 : 0 ≤ n) (n1 : n ≤ 4611686018427387903) (m0 : 0 ≤ m) (m1 : m ≤ 4611686018427387903) (hf : n + m ≤ 4611686018427387903) (hk : 1 < k) :
    Calls Try.prog 3 #[.int .i64 wide, .int .i64 n, .int .i64 m] w fun e w' => e = .returned (.bool true) ∧ Below w.heap.size w w' := by
  have kk : (k == 1) = false := by simp; omega
  have hle : n ≤ 4611686018427387903 - m := by omega
  have HAT : Hid (atE k (5 + k - 1) 5 = 4) := Lib.hid (by unfold atE; rw [if_neg (by omega), if_neg (by decide), if_pos (by omega)])
  have eqs : (n + m == n + m) = true := by simp
  have eqm : (m == m) = true := by simp
  go_enter Try.func3, Try.ntmps3
  go_wp2_with (first | (go_at_call 10; (with_reducible refine (width_v wide k _ hwide HK).mono ?_); rintro e w0 ⟨rfl, rfl⟩) | (go_at_call 11; (refine (Win.new_ok k _ k1 k2).mono ?_); rintro e w1 ⟨rfl, hw, hz, hb⟩; have HW1 := Lib.hid (hw (w.heap.size + 1)); have HZ1 := Lib.hid (Nat.le_of_eq hz.symm); have HB1 := Lib.hid hb; clear hw hz hb) | (go_at_call 12; (with_reducible show Calls Try.prog 12 #[.pointer (some ⟨w.heap.size, 0, none⟩), .int .i64 (5 + k - 1), .int .i64 m] _ _); (refine (full_add w2 w.heap.size k 5 n [(5, n)] (5 + k - 1) m (ask_of HW2.out HZ2.out k1 k2 (lok1 (by decide) (by decide) n0 n1) (by simp) (sum1 _ _).symm (by omega) (by omega) (by omega)) m0 m1 [(5, n), (5 + k - 1, m)] (n + m) (by rw [lead0 _ (by omega)]; exact push_other [] 5 (5 + k - 1) n m (by omega)) (by rw [lead0 _ (by omega)]; simp [sumA, tot]) hf).mono ?_); rintro e w3 ⟨rfl, hw, hc⟩; have HW3 := Lib.hid (hw.mono HZ2.out); have HB3 := Lib.hid (hc.below HB2.out (Nat.le_refl _) (by have := HZ2.out; omega)); have HZ3 := Lib.hid (Nat.le_trans HZ2.out hc.size); clear hw hc) | (go_at_call 12; (with_reducible show Calls Try.prog 12 #[.pointer (some ⟨w.heap.size, 0, none⟩), .int .i64 5, .int .i64 n] _ _); (refine (full_add w1 w.heap.size k 0 0 [] 5 n (ask_of HW1.out HZ1.out k1 k2 ⟨by simp, by simp, by decide⟩ (by decide) (by decide) (by decide) (by decide) (by decide)) n0 n1 [(5, n)] n rfl (by simp [sumA, tot, lead]) n1).mono ?_); rintro e w2 ⟨rfl, hw, hc⟩; have HW2 := Lib.hid (hw.mono HZ1.out); have HB2 := Lib.hid (hc.below HB1.out (Nat.le_refl _) (by have := HZ1.out; omega)); have HZ2 := Lib.hid (Nat.le_trans HZ1.out hc.size); clear hw hc) | (go_at_call 14; (with_reducible show Calls Try.prog 14 #[.pointer (some ⟨w.heap.size, 0, none⟩), .int .i64 5] _ _); (refine (sum_e w3 w.heap.size (w.heap.size + 1) k (5 + k - 1) (n + m) [(5, n), (5 + k - 1, m)] 5 4 HW3.out HAT rfl).mono ?_); rintro e w4 ⟨rfl, rfl⟩) | (go_at_call 14; (with_reducible show Calls Try.prog 14 #[.pointer (some ⟨w.heap.size, 0, none⟩), .int .i64 (5 + k - 1)] _ _); (refine (sum_ok w3 w.heap.size (w.heap.size + 1) k (5 + k - 1) (n + m) [(5, n), (5 + k - 1, m)] (5 + k - 1) (ask_of HW3.out HZ3.out k1 k2 (lok2 (by decide) (by decide) (by omega) (by omega) n0 m0 hf) (by simp) (sum2 _ _ _ _).symm (by omega) (by omega) (by omega)) [(5, n), (5 + k - 1, m)] (n + m) (Lib.hid (by rw [lead0 _ (by omega)]; rfl)) (Lib.hid (sum2 _ _ _ _))).mono ?_); rintro e w4 ⟨rfl, hw, hc⟩; have HW4 := Lib.hid (hw.mono HZ3.out); have HB4 := Lib.hid (hc.below HB3.out (Nat.le_refl _) (by have := HZ3.out; omega)); have HZ4 := Lib.hid (Nat.le_trans HZ3.out hc.size); clear hw hc) | (go_at_call 14; (with_reducible show Calls Try.prog 14 #[.pointer (some ⟨w.heap.size, 0, none⟩), .int .i64 (5 + k)] _ _); (refine (sum_ok w4 w.heap.size (w.heap.size + 1) k (5 + k - 1) (n + m) [(5, n), (5 + k - 1, m)] (5 + k) (ask_of HW4.out HZ4.out k1 k2 (lok2 (by decide) (by decide) (by omega) (by omega) n0 m0 hf) (by simp) (sum2 _ _ _ _).symm (by omega) (by omega) (by omega)) [(5 + k - 1, m)] m (Lib.hid (by rw [lead2 (by omega) (by omega)]; rfl)) (Lib.hid (sum1 _ _))).mono ?_); rintro e w5 ⟨rfl, hw, hc⟩; have HW5 := Lib.hid (hw.mono HZ4.out); have HB5 := Lib.hid (hc.below HB4.out (Nat.le_refl _) (by have := HZ4.out; omega)); have HZ5 := Lib.hid (Nat.le_trans HZ4.out hc.size); clear hw hc) | (go_at_call 13; with_reducible refine (alive_c _).mono ?_; rintro e w9 ⟨rfl, hb⟩; have HB9 := Lib.hid (kbt (HB5).out hb); clear hb))
  go_ret
  exact ⟨rfl, HB9.out⟩
set_option maxHeartbeats 4000000 in
theorem full_one (wide n m : Int) (w : World) (hwide : -9223372036854775808 ≤ wide ∧ wide ≤ 9223372036854775807) (HK : Hid (widthV wide = 1)) (n0 : 0 ≤ n) (n1 : n ≤ 4611686018427387903) (m0 : 0 ≤ m) (m1 : m ≤ 4611686018427387903) (hf : n + m ≤ 4611686018427387903) :
    Calls Try.prog 3 #[.int .i64 wide, .int .i64 n, .int .i64 m] w fun e w' => e = .returned (.bool true) ∧ Below w.heap.size w w' := by
  have hle : n ≤ 4611686018427387903 - m := by omega
  have eqs : (n + m == n + m) = true := by simp
  go_enter Try.func3, Try.ntmps3
  go_wp2_with (first | (go_at_call 10; (with_reducible refine (width_v wide 1 _ hwide HK).mono ?_); rintro e w0 ⟨rfl, rfl⟩) | (go_at_call 11; (refine (Win.new_ok 1 _ (by decide) (by decide)).mono ?_); rintro e w1 ⟨rfl, hw, hz, hb⟩; have HW1 := Lib.hid (hw (w.heap.size + 1)); have HZ1 := Lib.hid (Nat.le_of_eq hz.symm); have HB1 := Lib.hid hb; clear hw hz hb) | (go_at_call 12; (with_reducible show Calls Try.prog 12 #[.pointer (some ⟨w.heap.size, 0, none⟩), .int .i64 5, .int .i64 m] _ _); (refine (full_add w2 w.heap.size 1 5 n [(5, n)] 5 m (ask_of HW2.out HZ2.out (by decide) (by decide) (lok1 (by decide) (by decide) n0 n1) (by simp) (sum1 _ _).symm (by decide) (by decide) (by decide)) m0 m1 [(5, n + m)] (n + m) (by rw [lead0 _ (by decide)]; exact push_same [] 5 n m) (by rw [lead0 _ (by decide)]; simp [sumA, tot]) hf).mono ?_); rintro e w3 ⟨rfl, hw, hc⟩; have HW3 := Lib.hid (hw.mono HZ2.out); have HB3 := Lib.hid (hc.below HB2.out (Nat.le_refl _) (by have := HZ2.out; omega)); have HZ3 := Lib.hid (Nat.le_trans HZ2.out hc.size); clear hw hc) | (go_at_call 12; (with_reducible show Calls Try.prog 12 #[.pointer (some ⟨w.heap.size, 0, none⟩), .int .i64 5, .int .i64 n] _ _); (refine (full_add w1 w.heap.size 1 0 0 [] 5 n (ask_of HW1.out HZ1.out (by decide) (by decide) ⟨by simp, by simp, by decide⟩ (by decide) (by decide) (by decide) (by decide) (by decide)) n0 n1 [(5, n)] n rfl (by simp [sumA, tot, lead]) n1).mono ?_); rintro e w2 ⟨rfl, hw, hc⟩; have HW2 := Lib.hid (hw.mono HZ1.out); have HB2 := Lib.hid (hc.below HB1.out (Nat.le_refl _) (by have := HZ1.out; omega)); have HZ2 := Lib.hid (Nat.le_trans HZ1.out hc.size); clear hw hc) | (go_at_call 14; (with_reducible show Calls Try.prog 14 #[.pointer (some ⟨w.heap.size, 0, none⟩), .int .i64 5] _ _); (refine (sum_ok w4 w.heap.size (w.heap.size + 1) 1 5 (n + m) [(5, n + m)] 5 (ask_of HW4.out HZ4.out (by decide) (by decide) (lok1 (by decide) (by decide) (by omega) hf) (by simp) (sum1 _ _).symm (by decide) (by decide) (by decide)) [(5, n + m)] (n + m) (Lib.hid (by rw [lead0 _ (by decide)]; rfl)) (Lib.hid (sum1 _ _))).mono ?_); rintro e w5 ⟨rfl, hw, hc⟩; have HW5 := Lib.hid (hw.mono HZ4.out); have HB5 := Lib.hid (hc.below HB4.out (Nat.le_refl _) (by have := HZ4.out; omega)); have HZ5 := Lib.hid (Nat.le_trans HZ4.out hc.size); clear hw hc) | (go_at_call 14; (with_reducible show Calls Try.prog 14 #[.pointer (some ⟨w.heap.size, 0, none⟩), .int .i64 5] _ _); (refine (sum_ok w3 w.heap.size (w.heap.size + 1) 1 5 (n + m) [(5, n + m)] 5 (ask_of HW3.out HZ3.out (by decide) (by decide) (lok1 (by decide) (by decide) (by omega) hf) (by simp) (sum1 _ _).symm (by decide) (by decide) (by decide)) [(5, n + m)] (n + m) (Lib.hid (by rw [lead0 _ (by decide)]; rfl)) (Lib.hid (sum1 _ _))).mono ?_); rintro e w4 ⟨rfl, hw, hc⟩; have HW4 := Lib.hid (hw.mono HZ3.out); have HB4 := Lib.hid (hc.below HB3.out (Nat.le_refl _) (by have := HZ3.out; omega)); have HZ4 := Lib.hid (Nat.le_trans HZ3.out hc.size); clear hw hc) | (go_at_call 14; (with_reducible show Calls Try.prog 14 #[.pointer (some ⟨w.heap.size, 0, none⟩), .int .i64 6] _ _); (refine (sum_ok w5 w.heap.size (w.heap.size + 1) 1 5 (n + m) [(5, n + m)] 6 (ask_of HW5.out HZ5.out (by decide) (by decide) (lok1 (by decide) (by decide) (by omega) hf) (by simp) (sum1 _ _).symm (by decide) (by decide) (by decide)) [] 0 (Lib.hid (by rw [lead1 (by decide)]; rfl)) (Lib.hid (by decide))).mono ?_); rintro e w6 ⟨rfl, hw, hc⟩; have HW6 := Lib.hid (hw.mono HZ5.out); have HB6 := Lib.hid (hc.below HB5.out (Nat.le_refl _) (by have := HZ5.out; omega)); have HZ6 := Lib.hid (Nat.le_trans HZ5.out hc.size); clear hw hc) | (go_at_call 13; with_reducible refine (alive_c _).mono ?_; rintro e w9 ⟨rfl, hb⟩; have HB9 := Lib.hid (kbt (HB6).out hb); clear hb))
  go_ret
  exact ⟨rfl, HB9.out⟩
theorem wf64 {k : Int} (h : (Lit.int .i64 k).wf = true) : -9223372036854775808 ≤ k ∧ k ≤ 9223372036854775807 := by
  simp only [Lit.wf, IntKind.min, IntKind.max, IntKind.signed, IntKind.bits, Bool.and_eq_true, decide_eq_true_eq, if_true] at h
  omega
/-- The law. -/
theorem fulls (wide n m : Int) (w : World) (h1 : (Lit.int .i64 wide).wf = true) (_ : (Lit.int .i64 n).wf = true) (_ : (Lit.int .i64 m).wf = true) : Calls Try.prog 3 #[.int .i64 wide, .int .i64 n, .int .i64 m] w fun e w' => e = .returned (.bool true) ∧ Below w.heap.size w w' := by
  have hw := wf64 h1
  obtain ⟨k1, k2⟩ := width_in wide
  by_cases a : n < 0
  · exact bad_n1 wide n m w hw _ (Lib.hid rfl) k1 k2 a
  by_cases b : 4611686018427387903 < n
  · exact bad_n2 wide n m w hw _ (Lib.hid rfl) k1 k2 (by omega) b
  by_cases c : m < 0
  · exact bad_m1 wide n m w hw _ (Lib.hid rfl) k1 k2 (by omega) (by omega) c
  by_cases d : 4611686018427387903 < m
  · exact bad_m2 wide n m w hw _ (Lib.hid rfl) k1 k2 (by omega) (by omega) (by omega) d
  by_cases e : 4611686018427387903 - m < n
  · exact full_over wide n m w hw _ (Lib.hid rfl) k1 k2 (by omega) (by omega) (by omega) (by omega) e
  by_cases f : 1 < widthV wide
  · exact full_wide wide n m w hw _ (Lib.hid rfl) k1 k2 (by omega) (by omega) (by omega) (by omega) (by omega) f
  · exact full_one wide n m w hw (Lib.hid (by omega)) (by omega) (by omega) (by omega) (by omega) (by omega)
end Go.Proofs.Ythcjkdmlaahpbaa.Full
