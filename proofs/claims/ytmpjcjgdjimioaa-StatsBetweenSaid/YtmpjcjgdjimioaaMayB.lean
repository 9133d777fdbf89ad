/- may and May of any summary. Written by wip/tpls/genmay.py. -/
import Derived.Test.YtmpjcjgdjimioaaMay
namespace Go.Proofs.Ytmpjcjgdjimioaa.May
open Ieee Go.RowKit Go.Proofs.Ytmpjcjgdjimioaa.Aid Go.Proofs.Ytmpjcjgdjimioaa.Mem Go.Proofs.Ytmpjcjgdjimioaa.Nums Go.Proofs.Ytmpjcjgdjimioaa.Keep Go.Proofs.Ytmpjcjgdjimioaa.Has Go.Proofs.Ytmpjcjgdjimioaa.Recs Go.Proofs.Ytmpjcjgdjimioaa.Of Go.Proofs.Ytmpjcjgdjimioaa.Fl Go.Proofs.Ytmpjcjgdjimioaa.Fin Go.Proofs.Ytmpjcjgdjimioaa.RefOf Go.Proofs.Ytmpjcjgdjimioaa.SOf Go.Proofs.Ytmpjcjgdjimioaa.Quant Go.Proofs.Ytmpjcjgdjimioaa.Round
set_option linter.unusedSimpArgs false
set_option linter.unusedVariables false
set_option maxRecDepth 100000
attribute [local go_sem] feq_run
attribute [local go_sem ↓] store_sum load_sum
set_option maxHeartbeats 4000000 in
theorem may_0 (s : Su) (w : World) (hw : Su.wf s) (hc : s.c ≠ 0) (h0 : s.c < 0) : Calls Try.prog 46 #[.agg #[.int .i64 s.c, .float .f64 s.m, .float .f64 s.v, .int .i64 s.l, .int .i64 s.o]] w fun e w' => e = .returned (.bool false) ∧ Below w.heap.size w w' := by
  have hc0 : (s.c == 0) = false := by simp [hc]
  have WM : Hid (s.m < 18446744073709551616) := Lib.hid hw.m
  have WV : Hid (s.v < 18446744073709551616) := Lib.hid hw.v
  clear hc hw
  go_enter Try.func46, Try.ntmps46
  go_wp2_with (first | fail)
  go_ret
  exact ⟨rfl, kba (Below.refl _ _) _⟩
set_option maxHeartbeats 4000000 in
theorem may_1 (s : Su) (w : World) (hw : Su.wf s) (hc : s.c ≠ 0) (h0 : 0 < s.c) (h1 : isN s.c = false) : Calls Try.prog 46 #[.agg #[.int .i64 s.c, .float .f64 s.m, .float .f64 s.v, .int .i64 s.l, .int .i64 s.o]] w fun e w' => e = .returned (.bool false) ∧ Below w.heap.size w w' := by
  have hc0 : (s.c == 0) = false := by simp [hc]
  have WM : Hid (s.m < 18446744073709551616) := Lib.hid hw.m
  have WV : Hid (s.v < 18446744073709551616) := Lib.hid hw.v
  have HN1 := Lib.hid h1
  clear hc hw h1
  go_enter Try.func46, Try.ntmps46
  go_wp2_with (first | (go_at_call 29; (with_reducible refine (num_b s.c _ false HN1.out).mono ?_); rintro e w' ⟨rfl, rfl⟩))
  go_ret
  exact ⟨rfl, kba (Below.refl _ _) _⟩
set_option maxHeartbeats 4000000 in
theorem may_2 (s : Su) (w : World) (hw : Su.wf s) (hc : s.c ≠ 0) (h0 : 0 < s.c) (h1 : isN s.c = true) (h2 : isN s.l = false) : Calls Try.prog 46 #[.agg #[.int .i64 s.c, .float .f64 s.m, .float .f64 s.v, .int .i64 s.l, .int .i64 s.o]] w fun e w' => e = .returned (.bool false) ∧ Below w.heap.size w w' := by
  have hc0 : (s.c == 0) = false := by simp [hc]
  have WM : Hid (s.m < 18446744073709551616) := Lib.hid hw.m
  have WV : Hid (s.v < 18446744073709551616) := Lib.hid hw.v
  have HN1 := Lib.hid h1
  have HN2 := Lib.hid h2
  clear hc hw h1 h2
  go_enter Try.func46, Try.ntmps46
  go_wp2_with (first | (go_at_call 29; (with_reducible refine (num_b s.c _ true HN1.out).mono ?_); rintro e w' ⟨rfl, rfl⟩) | (go_at_call 29; (with_reducible refine (num_b s.l _ false HN2.out).mono ?_); rintro e w' ⟨rfl, rfl⟩))
  go_ret
  exact ⟨rfl, kba (Below.refl _ _) _⟩
set_option maxHeartbeats 4000000 in
theorem may_3 (s : Su) (w : World) (hw : Su.wf s) (hc : s.c ≠ 0) (h0 : 0 < s.c) (h1 : isN s.c = true) (h2 : isN s.l = true) (h3 : isN s.o = false) : Calls Try.prog 46 #[.agg #[.int .i64 s.c, .float .f64 s.m, .float .f64 s.v, .int .i64 s.l, .int .i64 s.o]] w fun e w' => e = .returned (.bool false) ∧ Below w.heap.size w w' := by
  have hc0 : (s.c == 0) = false := by simp [hc]
  have WM : Hid (s.m < 18446744073709551616) := Lib.hid hw.m
  have WV : Hid (s.v < 18446744073709551616) := Lib.hid hw.v
  have HN1 := Lib.hid h1
  have HN2 := Lib.hid h2
  have HN3 := Lib.hid h3
  clear hc hw h1 h2 h3
  go_enter Try.func46, Try.ntmps46
  go_wp2_with (first | (go_at_call 29; (with_reducible refine (num_b s.c _ true HN1.out).mono ?_); rintro e w' ⟨rfl, rfl⟩) | (go_at_call 29; (with_reducible refine (num_b s.l _ true HN2.out).mono ?_); rintro e w' ⟨rfl, rfl⟩) | (go_at_call 29; (with_reducible refine (num_b s.o _ false HN3.out).mono ?_); rintro e w' ⟨rfl, rfl⟩))
  go_ret
  exact ⟨rfl, kba (Below.refl _ _) _⟩
set_option maxHeartbeats 4000000 in
theorem may_4 (s : Su) (w : World) (hw : Su.wf s) (hc : s.c ≠ 0) (h0 : 0 < s.c) (h1 : isN s.c = true) (h2 : isN s.l = true) (h3 : isN s.o = true) (h4 : s.o < s.l) : Calls Try.prog 46 #[.agg #[.int .i64 s.c, .float .f64 s.m, .float .f64 s.v, .int .i64 s.l, .int .i64 s.o]] w fun e w' => e = .returned (.bool false) ∧ Below w.heap.size w w' := by
  have hc0 : (s.c == 0) = false := by simp [hc]
  have WM : Hid (s.m < 18446744073709551616) := Lib.hid hw.m
  have WV : Hid (s.v < 18446744073709551616) := Lib.hid hw.v
  have HN1 := Lib.hid h1
  have HN2 := Lib.hid h2
  have HN3 := Lib.hid h3
  clear hc hw h1 h2 h3
  go_enter Try.func46, Try.ntmps46
  go_wp2_with (first | (go_at_call 29; (with_reducible refine (num_b s.c _ true HN1.out).mono ?_); rintro e w' ⟨rfl, rfl⟩) | (go_at_call 29; (with_reducible refine (num_b s.l _ true HN2.out).mono ?_); rintro e w' ⟨rfl, rfl⟩) | (go_at_call 29; (with_reducible refine (num_b s.o _ true HN3.out).mono ?_); rintro e w' ⟨rfl, rfl⟩))
  go_ret
  exact ⟨rfl, kba (Below.refl _ _) _⟩
set_option maxHeartbeats 4000000 in
theorem may_5 (s : Su) (w : World) (hw : Su.wf s) (hc : s.c ≠ 0) (h0 : 0 < s.c) (h1 : isN s.c = true) (h2 : isN s.l = true) (h3 : isN s.o = true) (h4 : s.l ≤ s.o) (h5 : finB s.m = false) : Calls Try.prog 46 #[.agg #[.int .i64 s.c, .float .f64 s.m, .float .f64 s.v, .int .i64 s.l, .int .i64 s.o]] w fun e w' => e = .returned (.bool false) ∧ Below w.heap.size w w' := by
  have hc0 : (s.c == 0) = false := by simp [hc]
  have WM : Hid (s.m < 18446744073709551616) := Lib.hid hw.m
  have WV : Hid (s.v < 18446744073709551616) := Lib.hid hw.v
  have HN1 := Lib.hid h1
  have HN2 := Lib.hid h2
  have HN3 := Lib.hid h3
  have HN5 := Lib.hid h5
  clear hc hw h1 h2 h3 h5
  go_enter Try.func46, Try.ntmps46
  go_wp2_with (first | (go_at_call 29; (with_reducible refine (num_b s.c _ true HN1.out).mono ?_); rintro e w' ⟨rfl, rfl⟩) | (go_at_call 29; (with_reducible refine (num_b s.l _ true HN2.out).mono ?_); rintro e w' ⟨rfl, rfl⟩) | (go_at_call 29; (with_reducible refine (num_b s.o _ true HN3.out).mono ?_); rintro e w' ⟨rfl, rfl⟩) | (go_at_call 47; (with_reducible refine (fin_b s.m _ WM.out false HN5.out).mono ?_); rintro e w' ⟨rfl, rfl⟩))
  go_ret
  exact ⟨rfl, kba (Below.refl _ _) _⟩
set_option maxHeartbeats 4000000 in
theorem may_6 (s : Su) (w : World) (hw : Su.wf s) (hc : s.c ≠ 0) (h0 : 0 < s.c) (h1 : isN s.c = true) (h2 : isN s.l = true) (h3 : isN s.o = true) (h4 : s.l ≤ s.o) (h5 : finB s.m = true) (h6 : finB s.v = false) : Calls Try.prog 46 #[.agg #[.int .i64 s.c, .float .f64 s.m, .float .f64 s.v, .int .i64 s.l, .int .i64 s.o]] w fun e w' => e = .returned (.bool false) ∧ Below w.heap.size w w' := by
  have hc0 : (s.c == 0) = false := by simp [hc]
  have WM : Hid (s.m < 18446744073709551616) := Lib.hid hw.m
  have WV : Hid (s.v < 18446744073709551616) := Lib.hid hw.v
  have HN1 := Lib.hid h1
  have HN2 := Lib.hid h2
  have HN3 := Lib.hid h3
  have HN5 := Lib.hid h5
  have HN6 := Lib.hid h6
  clear hc hw h1 h2 h3 h5 h6
  go_enter Try.func46, Try.ntmps46
  go_wp2_with (first | (go_at_call 29; (with_reducible refine (num_b s.c _ true HN1.out).mono ?_); rintro e w' ⟨rfl, rfl⟩) | (go_at_call 29; (with_reducible refine (num_b s.l _ true HN2.out).mono ?_); rintro e w' ⟨rfl, rfl⟩) | (go_at_call 29; (with_reducible refine (num_b s.o _ true HN3.out).mono ?_); rintro e w' ⟨rfl, rfl⟩) | (go_at_call 47; (with_reducible refine (fin_b s.m _ WM.out true HN5.out).mono ?_); rintro e w' ⟨rfl, rfl⟩) | (go_at_call 47; (with_reducible refine (fin_b s.v _ WV.out false HN6.out).mono ?_); rintro e w' ⟨rfl, rfl⟩))
  go_ret
  exact ⟨rfl, kba (Below.refl _ _) _⟩
set_option maxHeartbeats 4000000 in
theorem may_7 (s : Su) (w : World) (hw : Su.wf s) (hc : s.c ≠ 0) (h0 : 0 < s.c) (h1 : isN s.c = true) (h2 : isN s.l = true) (h3 : isN s.o = true) (h4 : s.l ≤ s.o) (h5 : finB s.m = true) (h6 : finB s.v = true) (h7 : geF s.v 0 = false) : Calls Try.prog 46 #[.agg #[.int .i64 s.c, .float .f64 s.m, .float .f64 s.v, .int .i64 s.l, .int .i64 s.o]] w fun e w' => e = .returned (.bool false) ∧ Below w.heap.size w w' := by
  have hc0 : (s.c == 0) = false := by simp [hc]
  have WM : Hid (s.m < 18446744073709551616) := Lib.hid hw.m
  have WV : Hid (s.v < 18446744073709551616) := Lib.hid hw.v
  have HN1 := Lib.hid h1
  have HN2 := Lib.hid h2
  have HN3 := Lib.hid h3
  have HN5 := Lib.hid h5
  have HN6 := Lib.hid h6
  unfold geF at h7
  clear hc hw h1 h2 h3 h5 h6
  go_enter Try.func46, Try.ntmps46
  go_wp2_with (first | (go_at_call 29; (with_reducible refine (num_b s.c _ true HN1.out).mono ?_); rintro e w' ⟨rfl, rfl⟩) | (go_at_call 29; (with_reducible refine (num_b s.l _ true HN2.out).mono ?_); rintro e w' ⟨rfl, rfl⟩) | (go_at_call 29; (with_reducible refine (num_b s.o _ true HN3.out).mono ?_); rintro e w' ⟨rfl, rfl⟩) | (go_at_call 47; (with_reducible refine (fin_b s.m _ WM.out true HN5.out).mono ?_); rintro e w' ⟨rfl, rfl⟩) | (go_at_call 47; (with_reducible refine (fin_b s.v _ WV.out true HN6.out).mono ?_); rintro e w' ⟨rfl, rfl⟩))
  go_ret
  exact ⟨rfl, kba (Below.refl _ _) _⟩
set_option maxHeartbeats 4000000 in
theorem may_8 (s : Su) (w : World) (hw : Su.wf s) (hc : s.c ≠ 0) (h0 : 0 < s.c) (h1 : isN s.c = true) (h2 : isN s.l = true) (h3 : isN s.o = true) (h4 : s.l ≤ s.o) (h5 : finB s.m = true) (h6 : finB s.v = true) (h7 : geF s.v 0 = true) : Calls Try.prog 46 #[.agg #[.int .i64 s.c, .float .f64 s.m, .float .f64 s.v, .int .i64 s.l, .int .i64 s.o]] w fun e w' => e = .returned (.bool true) ∧ Below w.heap.size w w' := by
  have hc0 : (s.c == 0) = false := by simp [hc]
  have WM : Hid (s.m < 18446744073709551616) := Lib.hid hw.m
  have WV : Hid (s.v < 18446744073709551616) := Lib.hid hw.v
  have HN1 := Lib.hid h1
  have HN2 := Lib.hid h2
  have HN3 := Lib.hid h3
  have HN5 := Lib.hid h5
  have HN6 := Lib.hid h6
  unfold geF at h7
  clear hc hw h1 h2 h3 h5 h6
  go_enter Try.func46, Try.ntmps46
  go_wp2_with (first | (go_at_call 29; (with_reducible refine (num_b s.c _ true HN1.out).mono ?_); rintro e w' ⟨rfl, rfl⟩) | (go_at_call 29; (with_reducible refine (num_b s.l _ true HN2.out).mono ?_); rintro e w' ⟨rfl, rfl⟩) | (go_at_call 29; (with_reducible refine (num_b s.o _ true HN3.out).mono ?_); rintro e w' ⟨rfl, rfl⟩) | (go_at_call 47; (with_reducible refine (fin_b s.m _ WM.out true HN5.out).mono ?_); rintro e w' ⟨rfl, rfl⟩) | (go_at_call 47; (with_reducible refine (fin_b s.v _ WV.out true HN6.out).mono ?_); rintro e w' ⟨rfl, rfl⟩))
  go_ret
  exact ⟨rfl, kba (Below.refl _ _) _⟩
theorem may_c (s : Su) (w : World) (hw : Su.wf s) : Calls Try.prog 46 #[.agg #[.int .i64 s.c, .float .f64 s.m, .float .f64 s.v, .int .i64 s.l, .int .i64 s.o]] w fun e w' => e = .returned (.bool (mayB s)) ∧ Below w.heap.size w w' := by
  by_cases hc : s.c = 0
  · exact may_z s w hc
  have hB : mayB s = (decide (0 < s.c) && (isN s.c && (isN s.l && (isN s.o && (decide (s.l ≤ s.o) && (finB s.m && (finB s.v && geF s.v 0))))))) := by unfold mayB; rw [if_neg hc]
  rw [hB]
  by_cases h0' : ¬ 0 < s.c
  · rw [decide_eq_false h0']; exact may_0 s w hw hc (by omega)
  have h0 : 0 < s.c := by omega
  rw [decide_eq_true h0, Bool.true_and]
  cases h1 : isN s.c
  · exact may_1 s w hw hc h0 h1
  rw [Bool.true_and]
  cases h2 : isN s.l
  · exact may_2 s w hw hc h0 h1 h2
  rw [Bool.true_and]
  cases h3 : isN s.o
  · exact may_3 s w hw hc h0 h1 h2 h3
  rw [Bool.true_and]
  by_cases h4' : ¬ s.l ≤ s.o
  · rw [decide_eq_false h4']; exact may_4 s w hw hc h0 h1 h2 h3 (by omega)
  have h4 : s.l ≤ s.o := by omega
  rw [decide_eq_true h4, Bool.true_and]
  cases h5 : finB s.m
  · exact may_5 s w hw hc h0 h1 h2 h3 h4 h5
  rw [Bool.true_and]
  cases h6 : finB s.v
  · exact may_6 s w hw hc h0 h1 h2 h3 h4 h5 h6
  rw [Bool.true_and]
  cases h7 : geF s.v 0
  · exact may_7 s w hw hc h0 h1 h2 h3 h4 h5 h6 h7
  · exact may_8 s w hw hc h0 h1 h2 h3 h4 h5 h6 h7
set_option maxHeartbeats 4000000 in
theorem rmay_z (s : Su) (w : World) (h0 : s.c = 0) : Calls Try.prog 48 #[.agg #[.int .i64 s.c, .float .f64 s.m, .float .f64 s.v, .int .i64 s.l, .int .i64 s.o]] w fun e w' => e = .returned (.bool (mayB s)) ∧ Below w.heap.size w w' := by
  have HB : Hid (mayB s = (FloatKind.f64.format.order s.m 0 == some .eq && (FloatKind.f64.format.order s.v 0 == some .eq && (s.l == 0 && s.o == 0)))) := Lib.hid (by unfold mayB; rw [if_pos h0])
  have hc : (s.c == 0) = true := by simp [h0]
  clear h0
  rw [HB.out]
  cases b1 : (FloatKind.f64.format.order s.m 0 == some .eq) <;> cases b2 : (FloatKind.f64.format.order s.v 0 == some .eq) <;> cases b3 : (s.l == 0) <;> cases b4 : (s.o == 0)
  all_goals
    go_enter Try.func48, Try.ntmps48
    go_wp2
    go_ret
    exact ⟨rfl, kba (Below.refl _ _) _⟩
set_option maxHeartbeats 4000000 in
theorem rmay_0 (s : Su) (w : World) (hw : Su.wf s) (hc : s.c ≠ 0) (h0 : s.c < 0) : Calls Try.prog 48 #[.agg #[.int .i64 s.c, .float .f64 s.m, .float .f64 s.v, .int .i64 s.l, .int .i64 s.o]] w fun e w' => e = .returned (.bool false) ∧ Below w.heap.size w w' := by
  have hc0 : (s.c == 0) = false := by simp [hc]
  have WM : Hid (s.m < 18446744073709551616) := Lib.hid hw.m
  have WV : Hid (s.v < 18446744073709551616) := Lib.hid hw.v
  clear hc hw
  go_enter Try.func48, Try.ntmps48
  go_wp2_with (first | fail)
  go_ret
  exact ⟨rfl, (by repeat (first | exact kba (Below.refl _ _) _ | apply below_drewN))⟩
set_option maxHeartbeats 4000000 in
theorem rmay_1 (s : Su) (w : World) (hw : Su.wf s) (hc : s.c ≠ 0) (h0 : 0 < s.c) (h1 : isN s.c = false) : Calls Try.prog 48 #[.agg #[.int .i64 s.c, .float .f64 s.m, .float .f64 s.v, .int .i64 s.l, .int .i64 s.o]] w fun e w' => e = .returned (.bool false) ∧ Below w.heap.size w w' := by
  have hc0 : (s.c == 0) = false := by simp [hc]
  have WM : Hid (s.m < 18446744073709551616) := Lib.hid hw.m
  have WV : Hid (s.v < 18446744073709551616) := Lib.hid hw.v
  have h1' : 4611686018427387903 < s.c := by have := isN_not h1; omega
  clear hc hw h1
  go_enter Try.func48, Try.ntmps48
  go_wp2_with (first | fail)
  go_ret
  exact ⟨rfl, (by repeat (first | exact kba (Below.refl _ _) _ | apply below_drewN))⟩
set_option maxHeartbeats 4000000 in
theorem rmay_2 (s : Su) (w : World) (hw : Su.wf s) (hc : s.c ≠ 0) (h0 : 0 < s.c) (h1 : isN s.c = true) (h2 : isN s.l = false) : Calls Try.prog 48 #[.agg #[.int .i64 s.c, .float .f64 s.m, .float .f64 s.v, .int .i64 s.l, .int .i64 s.o]] w fun e w' => e = .returned (.bool false) ∧ Below w.heap.size w w' := by
  have hc0 : (s.c == 0) = false := by simp [hc]
  have WM : Hid (s.m < 18446744073709551616) := Lib.hid hw.m
  have WV : Hid (s.v < 18446744073709551616) := Lib.hid hw.v
  have h1' : s.c ≤ 4611686018427387903 := (isN_of h1).2
  have HN2 := Lib.hid h2
  clear hc hw h1 h2
  go_enter Try.func48, Try.ntmps48
  go_wp2_with (first | (go_at_call 35; (with_reducible refine (num_r s.l _ false HN2.out).mono ?_); rintro e w' ⟨rfl, rfl⟩))
  go_ret
  exact ⟨rfl, (by repeat (first | exact kba (Below.refl _ _) _ | apply below_drewN))⟩
set_option maxHeartbeats 4000000 in
theorem rmay_3 (s : Su) (w : World) (hw : Su.wf s) (hc : s.c ≠ 0) (h0 : 0 < s.c) (h1 : isN s.c = true) (h2 : isN s.l = true) (h3 : isN s.o = false) : Calls Try.prog 48 #[.agg #[.int .i64 s.c, .float .f64 s.m, .float .f64 s.v, .int .i64 s.l, .int .i64 s.o]] w fun e w' => e = .returned (.bool false) ∧ Below w.heap.size w w' := by
  have hc0 : (s.c == 0) = false := by simp [hc]
  have WM : Hid (s.m < 18446744073709551616) := Lib.hid hw.m
  have WV : Hid (s.v < 18446744073709551616) := Lib.hid hw.v
  have h1' : s.c ≤ 4611686018427387903 := (isN_of h1).2
  have HN2 := Lib.hid h2
  have HN3 := Lib.hid h3
  clear hc hw h1 h2 h3
  go_enter Try.func48, Try.ntmps48
  go_wp2_with (first | (go_at_call 35; (with_reducible refine (num_r s.l _ true HN2.out).mono ?_); rintro e w' ⟨rfl, rfl⟩) | (go_at_call 35; (with_reducible refine (num_r s.o _ false HN3.out).mono ?_); rintro e w' ⟨rfl, rfl⟩))
  go_ret
  exact ⟨rfl, (by repeat (first | exact kba (Below.refl _ _) _ | apply below_drewN))⟩
set_option maxHeartbeats 4000000 in
theorem rmay_4 (s : Su) (w : World) (hw : Su.wf s) (hc : s.c ≠ 0) (h0 : 0 < s.c) (h1 : isN s.c = true) (h2 : isN s.l = true) (h3 : isN s.o = true) (h4 : s.o < s.l) : Calls Try.prog 48 #[.agg #[.int .i64 s.c, .float .f64 s.m, .float .f64 s.v, .int .i64 s.l, .int .i64 s.o]] w fun e w' => e = .returned (.bool false) ∧ Below w.heap.size w w' := by
  have hc0 : (s.c == 0) = false := by simp [hc]
  have WM : Hid (s.m < 18446744073709551616) := Lib.hid hw.m
  have WV : Hid (s.v < 18446744073709551616) := Lib.hid hw.v
  have h1' : s.c ≤ 4611686018427387903 := (isN_of h1).2
  have HN2 := Lib.hid h2
  have HN3 := Lib.hid h3
  clear hc hw h1 h2 h3
  go_enter Try.func48, Try.ntmps48
  go_wp2_with (first | (go_at_call 35; (with_reducible refine (num_r s.l _ true HN2.out).mono ?_); rintro e w' ⟨rfl, rfl⟩) | (go_at_call 35; (with_reducible refine (num_r s.o _ true HN3.out).mono ?_); rintro e w' ⟨rfl, rfl⟩))
  go_ret
  exact ⟨rfl, (by repeat (first | exact kba (Below.refl _ _) _ | apply below_drewN))⟩
set_option maxHeartbeats 4000000 in
theorem rmay_5 (s : Su) (w : World) (hw : Su.wf s) (hc : s.c ≠ 0) (h0 : 0 < s.c) (h1 : isN s.c = true) (h2 : isN s.l = true) (h3 : isN s.o = true) (h4 : s.l ≤ s.o) (h5 : finB s.m = false) : Calls Try.prog 48 #[.agg #[.int .i64 s.c, .float .f64 s.m, .float .f64 s.v, .int .i64 s.l, .int .i64 s.o]] w fun e w' => e = .returned (.bool false) ∧ Below w.heap.size w w' := by
  have hc0 : (s.c == 0) = false := by simp [hc]
  have WM : Hid (s.m < 18446744073709551616) := Lib.hid hw.m
  have WV : Hid (s.v < 18446744073709551616) := Lib.hid hw.v
  have h1' : s.c ≤ 4611686018427387903 := (isN_of h1).2
  have HN2 := Lib.hid h2
  have HN3 := Lib.hid h3
  have HN5 := Lib.hid h5
  clear hc hw h1 h2 h3 h5
  go_enter Try.func48, Try.ntmps48
  go_wp2_with (first | (go_at_call 35; (with_reducible refine (num_r s.l _ true HN2.out).mono ?_); rintro e w' ⟨rfl, rfl⟩) | (go_at_call 35; (with_reducible refine (num_r s.o _ true HN3.out).mono ?_); rintro e w' ⟨rfl, rfl⟩) | (go_at_call 49; (with_reducible refine (rfin_b s.m _ WM.out false HN5.out).mono ?_); (rintro e w' ⟨rfl, nd5, rfl⟩)))
  go_ret
  exact ⟨rfl, (by repeat (first | exact kba (Below.refl _ _) _ | apply below_drewN))⟩
set_option maxHeartbeats 4000000 in
theorem rmay_6 (s : Su) (w : World) (hw : Su.wf s) (hc : s.c ≠ 0) (h0 : 0 < s.c) (h1 : isN s.c = true) (h2 : isN s.l = true) (h3 : isN s.o = true) (h4 : s.l ≤ s.o) (h5 : finB s.m = true) (h6 : finB s.v = false) : Calls Try.prog 48 #[.agg #[.int .i64 s.c, .float .f64 s.m, .float .f64 s.v, .int .i64 s.l, .int .i64 s.o]] w fun e w' => e = .returned (.bool false) ∧ Below w.heap.size w w' := by
  have hc0 : (s.c == 0) = false := by simp [hc]
  have WM : Hid (s.m < 18446744073709551616) := Lib.hid hw.m
  have WV : Hid (s.v < 18446744073709551616) := Lib.hid hw.v
  have h1' : s.c ≤ 4611686018427387903 := (isN_of h1).2
  have HN2 := Lib.hid h2
  have HN3 := Lib.hid h3
  have HN5 := Lib.hid h5
  have HN6 := Lib.hid h6
  clear hc hw h1 h2 h3 h5 h6
  go_enter Try.func48, Try.ntmps48
  go_wp2_with (first | (go_at_call 35; (with_reducible refine (num_r s.l _ true HN2.out).mono ?_); rintro e w' ⟨rfl, rfl⟩) | (go_at_call 35; (with_reducible refine (num_r s.o _ true HN3.out).mono ?_); rintro e w' ⟨rfl, rfl⟩) | (go_at_call 49; (with_reducible refine (rfin_b s.m _ WM.out true HN5.out).mono ?_); (rintro e w' ⟨rfl, nd5, rfl⟩)) | (go_at_call 49; (with_reducible refine (rfin_b s.v _ WV.out false HN6.out).mono ?_); (rintro e w' ⟨rfl, nd6, rfl⟩)))
  go_ret
  exact ⟨rfl, (by repeat (first | exact kba (Below.refl _ _) _ | apply below_drewN))⟩
set_option maxHeartbeats 4000000 in
theorem rmay_7 (s : Su) (w : World) (hw : Su.wf s) (hc : s.c ≠ 0) (h0 : 0 < s.c) (h1 : isN s.c = true) (h2 : isN s.l = true) (h3 : isN s.o = true) (h4 : s.l ≤ s.o) (h5 : finB s.m = true) (h6 : finB s.v = true) (h7 : geF s.v 0 = false) : Calls Try.prog 48 #[.agg #[.int .i64 s.c, .float .f64 s.m, .float .f64 s.v, .int .i64 s.l, .int .i64 s.o]] w fun e w' => e = .returned (.bool false) ∧ Below w.heap.size w w' := by
  have hc0 : (s.c == 0) = false := by simp [hc]
  have WM : Hid (s.m < 18446744073709551616) := Lib.hid hw.m
  have WV : Hid (s.v < 18446744073709551616) := Lib.hid hw.v
  have h1' : s.c ≤ 4611686018427387903 := (isN_of h1).2
  have HN2 := Lib.hid h2
  have HN3 := Lib.hid h3
  have HN5 := Lib.hid h5
  have HN6 := Lib.hid h6
  unfold geF at h7
  clear hc hw h1 h2 h3 h5 h6
  go_enter Try.func48, Try.ntmps48
  go_wp2_with (first | (go_at_call 35; (with_reducible refine (num_r s.l _ true HN2.out).mono ?_); rintro e w' ⟨rfl, rfl⟩) | (go_at_call 35; (with_reducible refine (num_r s.o _ true HN3.out).mono ?_); rintro e w' ⟨rfl, rfl⟩) | (go_at_call 49; (with_reducible refine (rfin_b s.m _ WM.out true HN5.out).mono ?_); (rintro e w' ⟨rfl, nd5, rfl⟩)) | (go_at_call 49; (with_reducible refine (rfin_b s.v _ WV.out true HN6.out).mono ?_); (rintro e w' ⟨rfl, nd6, rfl⟩)))
  go_ret
  exact ⟨rfl, (by repeat (first | exact kba (Below.refl _ _) _ | apply below_drewN))⟩
set_option maxHeartbeats 4000000 in
theorem rmay_8 (s : Su) (w : World) (hw : Su.wf s) (hc : s.c ≠ 0) (h0 : 0 < s.c) (h1 : isN s.c = true) (h2 : isN s.l = true) (h3 : isN s.o = true) (h4 : s.l ≤ s.o) (h5 : finB s.m = true) (h6 : finB s.v = true) (h7 : geF s.v 0 = true) : Calls Try.prog 48 #[.agg #[.int .i64 s.c, .float .f64 s.m, .float .f64 s.v, .int .i64 s.l, .int .i64 s.o]] w fun e w' => e = .returned (.bool true) ∧ Below w.heap.size w w' := by
  have hc0 : (s.c == 0) = false := by simp [hc]
  have WM : Hid (s.m < 18446744073709551616) := Lib.hid hw.m
  have WV : Hid (s.v < 18446744073709551616) := Lib.hid hw.v
  have h1' : s.c ≤ 4611686018427387903 := (isN_of h1).2
  have HN2 := Lib.hid h2
  have HN3 := Lib.hid h3
  have HN5 := Lib.hid h5
  have HN6 := Lib.hid h6
  unfold geF at h7
  clear hc hw h1 h2 h3 h5 h6
  go_enter Try.func48, Try.ntmps48
  go_wp2_with (first | (go_at_call 35; (with_reducible refine (num_r s.l _ true HN2.out).mono ?_); rintro e w' ⟨rfl, rfl⟩) | (go_at_call 35; (with_reducible refine (num_r s.o _ true HN3.out).mono ?_); rintro e w' ⟨rfl, rfl⟩) | (go_at_call 49; (with_reducible refine (rfin_b s.m _ WM.out true HN5.out).mono ?_); (rintro e w' ⟨rfl, nd5, rfl⟩)) | (go_at_call 49; (with_reducible refine (rfin_b s.v _ WV.out true HN6.out).mono ?_); (rintro e w' ⟨rfl, nd6, rfl⟩)))
  go_ret
  exact ⟨rfl, (by repeat (first | exact kba (Below.refl _ _) _ | apply below_drewN))⟩
theorem rmay_c (s : Su) (w : World) (hw : Su.wf s) : Calls Try.prog 48 #[.agg #[.int .i64 s.c, .float .f64 s.m, .float .f64 s.v, .int .i64 s.l, .int .i64 s.o]] w fun e w' => e = .returned (.bool (mayB s)) ∧ Below w.heap.size w w' := by
  by_cases hc : s.c = 0
  · exact rmay_z s w hc
  have hB : mayB s = (decide (0 < s.c) && (isN s.c && (isN s.l && (isN s.o && (decide (s.l ≤ s.o) && (finB s.m && (finB s.v && geF s.v 0))))))) := by unfold mayB; rw [if_neg hc]
  rw [hB]
  by_cases h0' : ¬ 0 < s.c
  · rw [decide_eq_false h0']; exact rmay_0 s w hw hc (by omega)
  have h0 : 0 < s.c := by omega
  rw [decide_eq_true h0, Bool.true_and]
  cases h1 : isN s.c
  · exact rmay_1 s w hw hc h0 h1
  rw [Bool.true_and]
  cases h2 : isN s.l
  · exact rmay_2 s w hw hc h0 h1 h2
  rw [Bool.true_and]
  cases h3 : isN s.o
  · exact rmay_3 s w hw hc h0 h1 h2 h3
  rw [Bool.true_and]
  by_cases h4' : ¬ s.l ≤ s.o
  · rw [decide_eq_false h4']; exact rmay_4 s w hw hc h0 h1 h2 h3 (by omega)
  have h4 : s.l ≤ s.o := by omega
  rw [decide_eq_true h4, Bool.true_and]
  cases h5 : finB s.m
  · exact rmay_5 s w hw hc h0 h1 h2 h3 h4 h5
  rw [Bool.true_and]
  cases h6 : finB s.v
  · exact rmay_6 s w hw hc h0 h1 h2 h3 h4 h5 h6
  rw [Bool.true_and]
  cases h7 : geF s.v 0
  · exact rmay_7 s w hw hc h0 h1 h2 h3 h4 h5 h6 h7
  · exact rmay_8 s w hw hc h0 h1 h2 h3 h4 h5 h6 h7
end Go.Proofs.Ytmpjcjgdjimioaa.May
