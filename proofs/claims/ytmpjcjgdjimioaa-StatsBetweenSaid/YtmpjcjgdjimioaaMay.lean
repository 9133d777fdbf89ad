/- Contracts of finite and may, of the program and of the document. -/
import Derived.Test.YtmpjcjgdjimioaaNanF
import Derived.Test.YtmpjcjgdjimioaaSOf
import Derived.Test.YtmpjcjgdjimioaaQuant
namespace Go.Proofs.Ytmpjcjgdjimioaa.May
open Ieee Go.RowKit Go.Proofs.Ytmpjcjgdjimioaa.Aid Go.Proofs.Ytmpjcjgdjimioaa.Mem Go.Proofs.Ytmpjcjgdjimioaa.Nums Go.Proofs.Ytmpjcjgdjimioaa.Keep Go.Proofs.Ytmpjcjgdjimioaa.Has Go.Proofs.Ytmpjcjgdjimioaa.Recs Go.Proofs.Ytmpjcjgdjimioaa.Of Go.Proofs.Ytmpjcjgdjimioaa.Fl Go.Proofs.Ytmpjcjgdjimioaa.Fin Go.Proofs.Ytmpjcjgdjimioaa.RefOf Go.Proofs.Ytmpjcjgdjimioaa.SOf Go.Proofs.Ytmpjcjgdjimioaa.Quant Go.Proofs.Ytmpjcjgdjimioaa.Round
set_option linter.unusedSimpArgs false
set_option linter.unusedVariables false
set_option maxRecDepth 100000
/-- Is it a number, and not infinite? -/
def finB (x : Nat) : Bool := decide (x % 9223372036854775808 < 9218868437227405312)
theorem finB_word (s : Bool) (r : Nat) (hr : r < 9223372036854775808) : finB (double.word s r) = decide (r < 9218868437227405312) := by
  unfold finB
  have : double.word s r % 9223372036854775808 = r := by
    cases s
    · rw [word_f]; omega
    · rw [word_t]; omega
  rw [this]
theorem fin_v (s : Bool) (r : Nat) (w : World) (hr : r < 9223372036854775808) : Calls Try.prog 47 #[.float .f64 (double.word s r)] w fun e w' => e = .returned (.bool (decide (r < 9218868437227405312))) ∧ w = w' := by
  by_cases h1 : 9218868437227405312 < r
  · have H := Lib.hid (decide_eq_true h1)
    have e : decide (r < 9218868437227405312) = false := decide_eq_false (by omega)
    rw [e]
    clear h1 e
    go_enter Try.func47, Try.ntmps47
    go_wp2_with (first | (go_at_call 44; (with_reducible refine (isnan_v s r _ hr true H.out).mono ?_); rintro e w' ⟨rfl, rfl⟩))
    go_ret
    exact ⟨rfl, rfl⟩
  · by_cases h2 : r < 9218868437227405312
    · have H := Lib.hid (decide_eq_false h1)
      have H2 : Hid (decide (9218868437227405312 ≤ r) = false) := Lib.hid (decide_eq_false (by omega))
      have H3 : Hid (r ≤ 9218868437227405312) := Lib.hid (by omega)
      have e : decide (r < 9218868437227405312) = true := decide_eq_true h2
      rw [e]
      clear h1 h2 e
      go_enter Try.func47, Try.ntmps47
      go_wp2_with (first | (go_at_call 44; (with_reducible refine (isnan_v s r _ hr false H.out).mono ?_); rintro e w' ⟨rfl, rfl⟩) | (go_at_call 53; (with_reducible refine (isinf_v s r _ H3.out false H2.out).mono ?_); rintro e w' ⟨rfl, rfl⟩))
      go_ret
      exact ⟨rfl, rfl⟩
    · have H := Lib.hid (decide_eq_false h1)
      have H2 : Hid (decide (9218868437227405312 ≤ r) = true) := Lib.hid (decide_eq_true (by omega))
      have H3 : Hid (r ≤ 9218868437227405312) := Lib.hid (by omega)
      have e : decide (r < 9218868437227405312) = false := decide_eq_false h2
      rw [e]
      clear h1 h2 e
      go_enter Try.func47, Try.ntmps47
      go_wp2_with (first | (go_at_call 44; (with_reducible refine (isnan_v s r _ hr false H.out).mono ?_); rintro e w' ⟨rfl, rfl⟩) | (go_at_call 53; (with_reducible refine (isinf_v s r _ H3.out true H2.out).mono ?_); rintro e w' ⟨rfl, rfl⟩))
      go_ret
      exact ⟨rfl, rfl⟩
theorem finite_c (x : Nat) (w : World) (hx : x < 18446744073709551616) : Calls Try.prog 47 #[.float .f64 x] w fun e w' => e = .returned (.bool (finB x)) ∧ w = w' := by
  obtain ⟨s, r, rfl, hr⟩ := word_of x hx
  rw [finB_word s r hr]
  exact fin_v s r w hr
theorem sub_nan (s : Bool) (r : Nat) (h : 9218868437227405312 < r) (hr : r < 9223372036854775808) : double.sub (double.word s r) (double.word s r) = none := by
  unfold Format.sub
  rw [read_nan s r h hr]
  rfl
theorem ref_fin_v (s : Bool) (r : Nat) (w : World) (hr : r < 9223372036854775808) : Calls Try.prog 49 #[.float .f64 (double.word s r)] w fun e w' => e = .returned (.bool (decide (r < 9218868437227405312))) ∧ Dr w w' := by
  by_cases h2 : r < 9218868437227405312
  · obtain ⟨g, hg⟩ := sub_self s r h2
    have fs := fun t W => run_float_arith (P := Try.prog) W .sub t .f64 _ _ _ (show floatBits .sub .f64 (double.word s r) (double.word s r) = some (double.word g 0) from hg)
    have z : (FloatKind.f64.format.order (double.word g 0) 0 == some .eq) = true := by cases g <;> decide +kernel
    rw [decide_eq_true h2]
    clear hg h2
    go_enter Try.func49, Try.ntmps49
    go_wp2
    go_ret
    exact ⟨rfl, 0, rfl⟩
  · have hn : double.sub (double.word s r) (double.word s r) = none := by
      rcases Nat.lt_or_ge 9218868437227405312 r with h | h
      · exact sub_nan s r h hr
      · obtain rfl : r = 9218868437227405312 := by omega
        exact sub_inf s
    have fs := fun t W => sub_ask (P := Try.prog) t _ _ hn W
    have z : ∀ W x y, (FloatKind.f64.format.order (nb W x y) 0 == some .eq) = false := fun W x y => by
      have := nb_neq W x y 0
      cases h : FloatKind.f64.format.order (nb W x y) 0 == some .eq
      · rfl
      · simp [bne, h] at this
    rw [decide_eq_false h2]
    clear hn h2
    go_enter Try.func49, Try.ntmps49
    go_wp2
    go_ret
    exact ⟨rfl, 1, rfl⟩
theorem ref_finite_c (x : Nat) (w : World) (hx : x < 18446744073709551616) : Calls Try.prog 49 #[.float .f64 x] w fun e w' => e = .returned (.bool (finB x)) ∧ Dr w w' := by
  obtain ⟨s, r, rfl, hr⟩ := word_of x hx
  rw [finB_word s r hr]
  exact ref_fin_v s r w hr
/-- May it be? -/
def mayB (s : Su) : Bool := if s.c = 0 then (FloatKind.f64.format.order s.m 0 == some .eq && (FloatKind.f64.format.order s.v 0 == some .eq && (s.l == 0 && s.o == 0))) else (decide (0 < s.c) && (isN s.c && (isN s.l && (isN s.o && (decide (s.l ≤ s.o) && (finB s.m && (finB s.v && geF s.v 0)))))))
structure Su.wf (s : Su) : Prop where
  m : s.m < 18446744073709551616
  v : s.v < 18446744073709551616
theorem num_b (x : Int) (w : World) (b : Bool) (h : isN x = b) : Calls Try.prog 29 #[.int .i64 x] w fun e w' => e = .returned (.bool b) ∧ w = w' := by
  have := MinMax.number_c x w
  rwa [show decide (-4611686018427387903 ≤ x ∧ x ≤ 4611686018427387903) = b from h] at this
theorem fin_b (x : Nat) (w : World) (hx : x < 18446744073709551616) (b : Bool) (h : finB x = b) : Calls Try.prog 47 #[.float .f64 x] w fun e w' => e = .returned (.bool b) ∧ w = w' := by
  have := finite_c x w hx
  rwa [h] at this
theorem rfin_b (x : Nat) (w : World) (hx : x < 18446744073709551616) (b : Bool) (h : finB x = b) : Calls Try.prog 49 #[.float .f64 x] w fun e w' => e = .returned (.bool b) ∧ Dr w w' := by
  have := ref_finite_c x w hx
  rwa [h] at this
theorem feq_d (w : World) (d : Nat) (a b : Nat) : (Op.equalIn (d + 1) 23 (.float .f64 a) (.float .f64 b)).run Try.prog w = .ok (FloatKind.f64.format.order a b == some .eq) w := by
  have hu := Try.underlying23
  simp [Op.equalIn, Sem.run_bind, run_underlying hu, Op.floatEq]
theorem feq_run (w : World) (a b : Nat) : (Op.equalIn 9999 23 (.float .f64 a) (.float .f64 b)).run Try.prog w = .ok (FloatKind.f64.format.order a b == some .eq) w := feq_d w 9998 a b
attribute [local go_sem] feq_run
attribute [local go_sem ↓] store_sum load_sum
theorem la_new (w : World) (s : Su) : (LA 25 (.pointer (some ⟨w.heap.size, 0, none⟩))).run Try.prog (w.alloc (.cells #[.int .i64 s.c, .float .f64 s.m, .float .f64 s.v, .int .i64 s.l, .int .i64 s.o] 25)) = .ok (.agg #[.int .i64 s.c, .float .f64 s.m, .float .f64 s.v, .int .i64 s.l, .int .i64 s.o]) (w.alloc (.cells #[.int .i64 s.c, .float .f64 s.m, .float .f64 s.v, .int .i64 s.l, .int .i64 s.o] 25)) :=
  loads_box Try.underlying25 rfl (by show _ = some 5; kernel_rfl) (fun i => World.cell?_alloc_new w _ _ i)
set_option maxHeartbeats 4000000 in
theorem may_z (s : Su) (w : World) (h0 : s.c = 0) : Calls Try.prog 46 #[.agg #[.int .i64 s.c, .float .f64 s.m, .float .f64 s.v, .int .i64 s.l, .int .i64 s.o]] w fun e w' => e = .returned (.bool (mayB s)) ∧ Below w.heap.size w w' := by
  have hl := la_new w s
  have HB : Hid (mayB s = (FloatKind.f64.format.order s.m 0 == some .eq && (FloatKind.f64.format.order s.v 0 == some .eq && (s.l == 0 && s.o == 0)))) := Lib.hid (by unfold mayB; rw [if_pos h0])
  have hc : (s.c == 0) = true := by simp [h0]
  clear h0
  go_enter Try.func46, Try.ntmps46
  go_wp2
  all_goals go_ret
  all_goals refine ⟨?_, kba (Below.refl _ _) _⟩
  all_goals rw [HB.out]
  all_goals simp_all
end Go.Proofs.Ytmpjcjgdjimioaa.May
