/- What 'alive' of windows and means asks. -/
import Derived.Test.YthcjkdmlaahpbaaWinD
import Derived.Test.YthcjkdmlaahpbaaSmooth
namespace Go.Proofs.Ythcjkdmlaahpbaa.AliveN
open Go.RowKit Go.Proofs.Ythcjkdmlaahpbaa.Aid Go.Proofs.Ythcjkdmlaahpbaa.Fl Go.Proofs.Ythcjkdmlaahpbaa.Mem Go.Proofs.Ythcjkdmlaahpbaa.Keep Go.Proofs.Ythcjkdmlaahpbaa.Round Go.Proofs.Ythcjkdmlaahpbaa.Win Go.Proofs.Ythcjkdmlaahpbaa.Smooth
open Ieee (double Toward Format)
set_option linter.unusedSimpArgs false
set_option linter.unusedVariables false
set_option maxRecDepth 100000
theorem win_to {W : World} {g B B' : Nat} {wd ck sm sm' : Int} {l l' : List (Int × Int)} (h : Win W g B wd ck sm l) (hb : B' ≤ B) (e1 : sm = sm') (e2 : l = l') : Win W g B' wd ck sm' l' := by
  subst e1 e2
  exact h.mono hb
theorem lok_of {l : List (Int × Int)} (h : l.all (fun p => decide (0 ≤ p.1 ∧ p.1 ≤ 1099511627776) && decide (0 ≤ p.2)) = true) (hs : sumA l ≤ 4611686018427387903) : Lok l := by
  rw [List.all_eq_true] at h
  refine ⟨fun p hp => ?_, fun p hp => ?_, hs⟩
  · have := h p hp
    simp only [Bool.and_eq_true, decide_eq_true_eq] at this
    exact this.1
  · have := h p hp
    simp only [Bool.and_eq_true, decide_eq_true_eq] at this
    exact this.2
section
variable (W : World) (g B : Nat) (gB : g < B) (BW : B ≤ W.heap.size)
include gB BW
theorem a1 (h : Win W g B 3 0 0 []) : Calls Try.prog 12 #[.pointer (some ⟨g, 0, none⟩), .int .i64 1, .int .i64 5] W fun e w' => e = .returned (.int .i64 0) ∧ Win w' g B 3 1 5 [(1, 5)] ∧ Chg g W w' :=
  (add_ok W g B 3 0 0 [] 1 5 ⟨h, gB, BW, lok_of (by decide) (by decide), by decide, by decide, by decide, by decide, by decide, by decide, by decide⟩ (by decide) (by decide) (by decide)).mono fun e w' ⟨he, hw, hc⟩ => ⟨he, win_to hw BW (by decide) (by decide), hc⟩
theorem a2 (h : Win W g B 3 1 5 [(1, 5)]) : Calls Try.prog 12 #[.pointer (some ⟨g, 0, none⟩), .int .i64 3, .int .i64 10] W fun e w' => e = .returned (.int .i64 0) ∧ Win w' g B 3 3 15 [(1, 5), (3, 10)] ∧ Chg g W w' :=
  (add_ok W g B 3 1 5 [(1, 5)] 3 10 ⟨h, gB, BW, lok_of (by decide) (by decide), by decide, by decide, by decide, by decide, by decide, by decide, by decide⟩ (by decide) (by decide) (by decide)).mono fun e w' ⟨he, hw, hc⟩ => ⟨he, win_to hw BW (by decide) (by decide), hc⟩
theorem a3 (h : Win W g B 3 3 15 [(1, 5), (3, 10)]) : Calls Try.prog 14 #[.pointer (some ⟨g, 0, none⟩), .int .i64 3] W fun e w' => e = .returned (.tuple #[.int .i64 15, .int .i64 0]) ∧ Win w' g B 3 3 15 [(1, 5), (3, 10)] ∧ Chg g W w' :=
  (sum_ok W g B 3 3 15 [(1, 5), (3, 10)] 3 ⟨h, gB, BW, lok_of (by decide) (by decide), by decide, by decide, by decide, by decide, by decide, by decide, by decide⟩ [(1, 5), (3, 10)] 15 (Lib.hid (by decide)) (Lib.hid (by decide))).mono fun e w' ⟨he, hw, hc⟩ => ⟨he, hw.mono BW, hc⟩
theorem a4 (h : Win W g B 3 3 15 [(1, 5), (3, 10)]) : Calls Try.prog 14 #[.pointer (some ⟨g, 0, none⟩), .int .i64 4] W fun e w' => e = .returned (.tuple #[.int .i64 10, .int .i64 0]) ∧ Win w' g B 3 4 10 [(3, 10)] ∧ Chg g W w' :=
  (sum_ok W g B 3 3 15 [(1, 5), (3, 10)] 4 ⟨h, gB, BW, lok_of (by decide) (by decide), by decide, by decide, by decide, by decide, by decide, by decide, by decide⟩ [(3, 10)] 10 (Lib.hid (by decide)) (Lib.hid (by decide))).mono fun e w' ⟨he, hw, hc⟩ => ⟨he, hw.mono BW, hc⟩
end
theorem chg_put {W : World} {s : Nat} (n : Nat) (x y : Value) : Chg s W (((W.drewN n).setCell ⟨s, 1, none⟩ x).setCell ⟨s, 2, none⟩ y) :=
  ((((Chg.refl s W).drewN n).set ⟨s, 1, none⟩ x (.inl rfl)).set ⟨s, 2, none⟩ y (.inl rfl))
theorem s1 (W : World) (s : Nat) (h : Smo W s 4602678819172646912 0 false) : Calls Try.prog 21 #[.pointer (some ⟨s, 0, none⟩), .float .f64 4620693217682128896] W fun e w' => e = .returned (.tuple #[.float .f64 4620693217682128896, .int .i64 0]) ∧ Smo w' s 4602678819172646912 4620693217682128896 true ∧ Chg s W w' := by
  have k := sadd_first false 4620693217682128896 (by decide) W s _ _ h (by decide +kernel)
  rw [word_f] at k
  refine k.mono fun e w' ⟨he, hw⟩ => ⟨he, ?_, ?_⟩
  · rw [hw]; exact h.put _
  · rw [hw]; exact chg_put 0 _ _
theorem s2 (W : World) (s : Nat) (h : Smo W s 4602678819172646912 4620693217682128896 true) : Calls Try.prog 21 #[.pointer (some ⟨s, 0, none⟩), .float .f64 4616189618054758400] W fun e w' => e = .returned (.tuple #[.float .f64 4618441417868443648, .int .i64 0]) ∧ Chg s W w' := by
  have k := sadd_next false 4616189618054758400 (by decide) W s _ _ 13839561654909534208 13835058055282163712 false 4618441417868443648 (by decide) h (by decide +kernel) ⟨by decide +kernel, by decide +kernel, by decide +kernel⟩
  rw [word_f, word_f] at k
  refine k.mono fun e w' ⟨he, n, hw⟩ => ⟨he, ?_⟩
  rw [hw]; exact chg_put n _ _
theorem sh_half : shareB 4602678819172646912 = true := by decide +kernel
set_option maxHeartbeats 2000000 in
theorem alive_c (w : World) : Calls Try.prog 13 #[] w fun e w' => e = .returned (.bool true) ∧ Below w.heap.size w w' := by
  have q1 : (FloatKind.f64.format.order 4620693217682128896 4620693217682128896 == some .eq) = true := by decide +kernel
  have q2 : (FloatKind.f64.format.order 4618441417868443648 4618441417868443648 == some .eq) = true := by decide +kernel
  go_enter Try.func13, Try.ntmps13
  go_wp2_with (first | (go_at_call 11; (refine (Win.new_ok 3 _ (by decide) (by decide)).mono ?_); rintro e w1 ⟨rfl, hw, hz, hb⟩; have HW1 := Lib.hid (hw (w.heap.size + 2)); have HZ1 := Lib.hid hz; have HB1 := Lib.hid hb; clear hw hz hb) | (go_at_call 15; (refine (Smooth.new_ok 4602678819172646912 _ sh_half).mono ?_); rintro e w2 ⟨rfl, hs, hz, hb⟩; have HS2 := Lib.hid hs; have HB2 := Lib.hid (kbt HB1.out hb); have HZ2 := Lib.hid (show w2.heap.size = w.heap.size + 2 by rw [hz, HZ1.out]); have HSE := Lib.hid HZ1.out; have HW2 := Lib.hid (show Win w2 w.heap.size (w.heap.size + 2) 3 0 0 [] from (Chg.win (g := w1.heap.size) ⟨hb.size, fun b h _ => hb.block b h, hb.os, hb.tape, hb.output⟩ HW1.out (by rw [HZ1.out]; omega) (by rw [HZ1.out]; omega))); clear hs hz hb) | (go_at_call 12; (refine (a1 _ w.heap.size (w.heap.size + 2) (by omega) (by rw [HZ2.out]; omega) HW2.out).mono ?_); rintro e w3 ⟨rfl, hw, hc⟩; have HW3 := Lib.hid hw; have HC3 := Lib.hid hc; have HB3 := Lib.hid (hc.below HB2.out (Nat.le_refl _) (by rw [HZ2.out]; omega)); have HS3 := Lib.hid (hc.blk HS2.out (by rw [HZ1.out]; omega)); have HZ3 := Lib.hid (show w.heap.size + 2 ≤ w3.heap.size by have := hc.size; rw [HZ2.out] at this; exact this); clear hw hc HW2) | (go_at_call 12; (refine (a2 _ w.heap.size (w.heap.size + 2) (by omega) HZ3.out HW3.out).mono ?_); rintro e w4 ⟨rfl, hw, hc⟩; have HW4 := Lib.hid hw; have HB4 := Lib.hid (hc.below HB3.out (Nat.le_refl _) (by have := HZ3.out; omega)); have HS4 := Lib.hid (hc.blk HS3.out (by rw [HZ1.out]; omega)); have HZ4 := Lib.hid (Nat.le_trans HZ3.out hc.size); clear hw hc HW3) | (go_at_call 14; (refine (a3 _ w.heap.size (w.heap.size + 2) (by omega) HZ4.out HW4.out).mono ?_); rintro e w5 ⟨rfl, hw, hc⟩; have HW5 := Lib.hid hw; have HB5 := Lib.hid (hc.below HB4.out (Nat.le_refl _) (by have := HZ4.out; omega)); have HS5 := Lib.hid (hc.blk HS4.out (by rw [HZ1.out]; omega)); have HZ5 := Lib.hid (Nat.le_trans HZ4.out hc.size); clear hw hc HW4) | (go_at_call 14; (refine (a4 _ w.heap.size (w.heap.size + 2) (by omega) HZ5.out HW5.out).mono ?_); rintro e w6 ⟨rfl, hw, hc⟩; have HB6 := Lib.hid (hc.below HB5.out (Nat.le_refl _) (by have := HZ5.out; omega)); have HS6 := Lib.hid (hc.blk HS5.out (by rw [HZ1.out]; omega)); have HZ6 := Lib.hid (Nat.le_trans HZ5.out hc.size); clear hw hc HW5) | (go_at_call 21; (refine (s1 _ w1.heap.size HS6.out).mono ?_); rintro e w7 ⟨rfl, hs, hc⟩; have HS7 := Lib.hid hs; have HB7 := Lib.hid (hc.below HB6.out (by rw [HZ1.out]; omega) (by have := HZ6.out; omega)); have HZ7 := Lib.hid (Nat.le_trans HZ6.out hc.size); clear hs hc HS6) | (go_at_call 21; (refine (s2 _ w1.heap.size HS7.out).mono ?_); rintro e w8 ⟨rfl, hc⟩; have HB8 := Lib.hid (hc.below HB7.out (by rw [HZ1.out]; omega) (by have := HZ7.out; omega)); clear hc HS7))
  go_ret
  exact ⟨rfl, HB8.out⟩
end Go.Proofs.Ythcjkdmlaahpbaa.AliveN
