/- The law StatsSteps: a greater share has no lesser quantile; of 0 it is the least element, of 1 the greatest; it is an element; enough are not above it, those below it are too few. Written by wip/tpls/genssteps.py. -/
import Derived.Test.YtmpjcjgdjimioaaStepsP
import Derived.Test.YtmpjcjgdjimioaaRefQ
import Derived.Test.YtmpjcjgdjimioaaSQuant
namespace Go.Proofs.Ytmpjcjgdjimioaa.SSteps
open Ieee Go.RowKit Go.Proofs.Ytmpjcjgdjimioaa.Aid Go.Proofs.Ytmpjcjgdjimioaa.Mem Go.Proofs.Ytmpjcjgdjimioaa.Keep Go.Proofs.Ytmpjcjgdjimioaa.Of Go.Proofs.Ytmpjcjgdjimioaa.Fin Go.Proofs.Ytmpjcjgdjimioaa.Sorts Go.Proofs.Ytmpjcjgdjimioaa.Search Go.Proofs.Ytmpjcjgdjimioaa.Quant Go.Proofs.Ytmpjcjgdjimioaa.QuantP Go.Proofs.Ytmpjcjgdjimioaa.RefQ Go.Proofs.Ytmpjcjgdjimioaa.HistP Go.Proofs.Ytmpjcjgdjimioaa.StepsP Go.Proofs.Ytmpjcjgdjimioaa.Twin Go.Proofs.Ytmpjcjgdjimioaa.Lives Go.Proofs.Ytmpjcjgdjimioaa.SQuant
set_option linter.unusedSimpArgs false
set_option linter.unusedVariables false
set_option maxRecDepth 100000
theorem share_cases (s : Nat) : ((FloatKind.f64.format.order s 0 == some Ordering.gt || FloatKind.f64.format.order s 0 == some Ordering.eq) = true ∧ (FloatKind.f64.format.order s 4607182418800017408 == some Ordering.lt || FloatKind.f64.format.order s 4607182418800017408 == some Ordering.eq) = true ∧ qbad s = false) ∨
    ((FloatKind.f64.format.order s 0 == some Ordering.gt || FloatKind.f64.format.order s 0 == some Ordering.eq) = false ∧ qbad s = true) ∨
    ((FloatKind.f64.format.order s 0 == some Ordering.gt || FloatKind.f64.format.order s 0 == some Ordering.eq) = true ∧ (FloatKind.f64.format.order s 4607182418800017408 == some Ordering.lt || FloatKind.f64.format.order s 4607182418800017408 == some Ordering.eq) = false ∧ qbad s = true) := by
  unfold qbad
  cases FloatKind.f64.format.order s 0 == some Ordering.gt <;> cases FloatKind.f64.format.order s 0 == some Ordering.eq <;> cases FloatKind.f64.format.order s 4607182418800017408 == some Ordering.lt <;> cases FloatKind.f64.format.order s 4607182418800017408 == some Ordering.eq <;> simp
/-- A quantile, by its place. -/
theorem quant_x (s : Nat) (xs : List Int) (A : Option Addr) (n c : Nat) (w : World) (h : Ints w .i64 A n xs) (hp : 0 < n) (hn : n ≤ 17592186044416) (hs : s < 18446744073709551616) (hq : qbad s = false) :
    Calls Try.prog 19 #[.float .f64 s, .slice A n c] w fun e w' => (∃ (X : Int) (k : Nat), From (enough (want s n)) (n - 1) k ∧ X = (srt xs)[k]?.getD 0 ∧ e = .returned (.tuple #[.int .i64 X, .int .i64 0])) ∧ Below w.heap.size w w' := by
  refine (quant_ok s xs A n c w h hp hn hs hq).mono ?_
  rintro e w' ⟨⟨k, hk, rfl⟩, hb⟩
  exact ⟨⟨_, k, hk, rfl, rfl⟩, hb⟩
theorem q0 : qbad 0 = false := by decide +kernel
theorem q1 : qbad 4607182418800017408 = false := by decide +kernel
set_option maxHeartbeats 4000000 in
theorem steps_0 (s t : Nat) (xs : List Int) (A : Option Addr) (n c : Nat) (w : World) (hs : s < 18446744073709551616) (ht : t < 18446744073709551616) (h : Ints w .i64 A n xs) (hb : n ≤ 17592186044416) (hn : n ≤ 0) :
    Calls Try.prog 6 #[.int .u64 (s : Int), .int .u64 (t : Int), .slice A n c] w fun e w' => e = .returned (.bool true) ∧ Below w.heap.size w w' := by
  have frs := from_run s
  have frt := from_run t
  have H := Lib.hid h
  have HN := Lib.hid hb
  have HS := Lib.hid hs
  have HT := Lib.hid ht
  clear h hs ht
  obtain rfl : n = 0 := by omega
  have HBs : Hid ((qbad s || ((0 : Nat) : Int) == 0) = true) := Lib.hid (by simp)
  have HBt : Hid ((qbad t || ((0 : Nat) : Int) == 0) = true) := Lib.hid (by simp)
  have HL := Lib.hid (Below.refl w.heap.size w)
  go_enter Try.func6, Try.ntmps6
  go_wp2_with (first | (go_at_call 19; (with_reducible refine (quant_bad s _ 0 _ _ HBs.out).mono ?_); rintro e w' ⟨rfl, rfl⟩) | (go_at_call 19; (with_reducible refine (quant_bad t _ 0 _ _ HBt.out).mono ?_); rintro e w' ⟨rfl, rfl⟩) | (go_at_call 12; (with_reducible refine (lives_c _).mono ?_); (rintro e w9 ⟨rfl, hL⟩; have HL9 := Lib.hid (kbt HL.out hL); clear hL)))
  go_ret
  exact ⟨rfl, HL9.out⟩
set_option maxHeartbeats 4000000 in
theorem steps_okb0 (s t : Nat) (xs : List Int) (A : Option Addr) (n c : Nat) (w : World) (hs : s < 18446744073709551616) (ht : t < 18446744073709551616) (h : Ints w .i64 A n xs) (hb : n ≤ 17592186044416) (hp : 0 < n) (s1 : (FloatKind.f64.format.order s 0 == some Ordering.gt || FloatKind.f64.format.order s 0 == some Ordering.eq) = true) (s2 : (FloatKind.f64.format.order s 4607182418800017408 == some Ordering.lt || FloatKind.f64.format.order s 4607182418800017408 == some Ordering.eq) = true) (sq : qbad s = false) (t1 : (FloatKind.f64.format.order t 0 == some Ordering.gt || FloatKind.f64.format.order t 0 == some Ordering.eq) = false) (tq : qbad t = true) :
    Calls Try.prog 6 #[.int .u64 (s : Int), .int .u64 (t : Int), .slice A n c] w fun e w' => e = .returned (.bool true) ∧ Below w.heap.size w w' := by
  have frs := from_run s
  have frt := from_run t
  have H := Lib.hid h
  have HN := Lib.hid hb
  have HS := Lib.hid hs
  have HT := Lib.hid ht
  clear h hs ht
  have HP := Lib.hid hp
  have hn0 : ((n : Int) == 0) = false := by simp; omega
  have HQs := Lib.hid sq
  have HBt : Hid ((qbad t || (n : Int) == 0) = true) := Lib.hid (by rw [tq]; rfl)
  have HL := Lib.hid (Below.refl w.heap.size w)
  clear sq tq
  go_enter Try.func6, Try.ntmps6
  go_wp2_with (first | (go_at_call 19; (with_reducible refine (quant_x s xs A n c _ (H.out.keep HL.out) HP.out HN.out HS.out HQs.out).mono ?_); (rintro e w3 ⟨⟨X, k, hF, hX, rfl⟩, hL⟩; have HL := Lib.hid (kbt HL.out hL); clear hL)) | (go_at_call 19; (with_reducible refine (quant_bad t _ n _ _ HBt.out).mono ?_); rintro e w' ⟨rfl, rfl⟩) | (go_at_call 12; (with_reducible refine (lives_c _).mono ?_); (rintro e w9 ⟨rfl, hL⟩; have HL9 := Lib.hid (kbt HL.out hL); clear hL)))
  go_ret
  exact ⟨rfl, HL9.out⟩
set_option maxHeartbeats 4000000 in
theorem steps_okb1 (s t : Nat) (xs : List Int) (A : Option Addr) (n c : Nat) (w : World) (hs : s < 18446744073709551616) (ht : t < 18446744073709551616) (h : Ints w .i64 A n xs) (hb : n ≤ 17592186044416) (hp : 0 < n) (s1 : (FloatKind.f64.format.order s 0 == some Ordering.gt || FloatKind.f64.format.order s 0 == some Ordering.eq) = true) (s2 : (FloatKind.f64.format.order s 4607182418800017408 == some Ordering.lt || FloatKind.f64.format.order s 4607182418800017408 == some Ordering.eq) = true) (sq : qbad s = false) (t1 : (FloatKind.f64.format.order t 0 == some Ordering.gt || FloatKind.f64.format.order t 0 == some Ordering.eq) = true) (t2 : (FloatKind.f64.format.order t 4607182418800017408 == some Ordering.lt || FloatKind.f64.format.order t 4607182418800017408 == some Ordering.eq) = false) (tq : qbad t = true) :
    Calls Try.prog 6 #[.int .u64 (s : Int), .int .u64 (t : Int), .slice A n c] w fun e w' => e = .returned (.bool true) ∧ Below w.heap.size w w' := by
  have frs := from_run s
  have frt := from_run t
  have H := Lib.hid h
  have HN := Lib.hid hb
  have HS := Lib.hid hs
  have HT := Lib.hid ht
  clear h hs ht
  have HP := Lib.hid hp
  have hn0 : ((n : Int) == 0) = false := by simp; omega
  have HQs := Lib.hid sq
  have HBt : Hid ((qbad t || (n : Int) == 0) = true) := Lib.hid (by rw [tq]; rfl)
  have HL := Lib.hid (Below.refl w.heap.size w)
  clear sq tq
  go_enter Try.func6, Try.ntmps6
  go_wp2_with (first | (go_at_call 19; (with_reducible refine (quant_x s xs A n c _ (H.out.keep HL.out) HP.out HN.out HS.out HQs.out).mono ?_); (rintro e w3 ⟨⟨X, k, hF, hX, rfl⟩, hL⟩; have HL := Lib.hid (kbt HL.out hL); clear hL)) | (go_at_call 19; (with_reducible refine (quant_bad t _ n _ _ HBt.out).mono ?_); rintro e w' ⟨rfl, rfl⟩) | (go_at_call 12; (with_reducible refine (lives_c _).mono ?_); (rintro e w9 ⟨rfl, hL⟩; have HL9 := Lib.hid (kbt HL.out hL); clear hL)))
  go_ret
  exact ⟨rfl, HL9.out⟩
set_option maxHeartbeats 4000000 in
theorem steps_b0ok (s t : Nat) (xs : List Int) (A : Option Addr) (n c : Nat) (w : World) (hs : s < 18446744073709551616) (ht : t < 18446744073709551616) (h : Ints w .i64 A n xs) (hb : n ≤ 17592186044416) (hp : 0 < n) (s1 : (FloatKind.f64.format.order s 0 == some Ordering.gt || FloatKind.f64.format.order s 0 == some Ordering.eq) = false) (sq : qbad s = true) (t1 : (FloatKind.f64.format.order t 0 == some Ordering.gt || FloatKind.f64.format.order t 0 == some Ordering.eq) = true) (t2 : (FloatKind.f64.format.order t 4607182418800017408 == some Ordering.lt || FloatKind.f64.format.order t 4607182418800017408 == some Ordering.eq) = true) (tq : qbad t = false) :
    Calls Try.prog 6 #[.int .u64 (s : Int), .int .u64 (t : Int), .slice A n c] w fun e w' => e = .returned (.bool true) ∧ Below w.heap.size w w' := by
  have frs := from_run s
  have frt := from_run t
  have H := Lib.hid h
  have HN := Lib.hid hb
  have HS := Lib.hid hs
  have HT := Lib.hid ht
  clear h hs ht
  have HP := Lib.hid hp
  have hn0 : ((n : Int) == 0) = false := by simp; omega
  have HBs : Hid ((qbad s || (n : Int) == 0) = true) := Lib.hid (by rw [sq]; rfl)
  have HQt := Lib.hid tq
  have HL := Lib.hid (Below.refl w.heap.size w)
  clear sq tq
  go_enter Try.func6, Try.ntmps6
  go_wp2_with (first | (go_at_call 19; (with_reducible refine (quant_bad s _ n _ _ HBs.out).mono ?_); rintro e w' ⟨rfl, rfl⟩) | (go_at_call 19; (with_reducible refine (quant_x t xs A n c _ (H.out.keep HL.out) HP.out HN.out HT.out HQt.out).mono ?_); (rintro e w4 ⟨⟨X', k', hF', hX', rfl⟩, hL⟩; have HL := Lib.hid (kbt HL.out hL); clear hL)) | (go_at_call 12; (with_reducible refine (lives_c _).mono ?_); (rintro e w9 ⟨rfl, hL⟩; have HL9 := Lib.hid (kbt HL.out hL); clear hL)))
  go_ret
  exact ⟨rfl, HL9.out⟩
set_option maxHeartbeats 4000000 in
theorem steps_b0b0 (s t : Nat) (xs : List Int) (A : Option Addr) (n c : Nat) (w : World) (hs : s < 18446744073709551616) (ht : t < 18446744073709551616) (h : Ints w .i64 A n xs) (hb : n ≤ 17592186044416) (hp : 0 < n) (s1 : (FloatKind.f64.format.order s 0 == some Ordering.gt || FloatKind.f64.format.order s 0 == some Ordering.eq) = false) (sq : qbad s = true) (t1 : (FloatKind.f64.format.order t 0 == some Ordering.gt || FloatKind.f64.format.order t 0 == some Ordering.eq) = false) (tq : qbad t = true) :
    Calls Try.prog 6 #[.int .u64 (s : Int), .int .u64 (t : Int), .slice A n c] w fun e w' => e = .returned (.bool true) ∧ Below w.heap.size w w' := by
  have frs := from_run s
  have frt := from_run t
  have H := Lib.hid h
  have HN := Lib.hid hb
  have HS := Lib.hid hs
  have HT := Lib.hid ht
  clear h hs ht
  have HP := Lib.hid hp
  have hn0 : ((n : Int) == 0) = false := by simp; omega
  have HBs : Hid ((qbad s || (n : Int) == 0) = true) := Lib.hid (by rw [sq]; rfl)
  have HBt : Hid ((qbad t || (n : Int) == 0) = true) := Lib.hid (by rw [tq]; rfl)
  have HL := Lib.hid (Below.refl w.heap.size w)
  clear sq tq
  go_enter Try.func6, Try.ntmps6
  go_wp2_with (first | (go_at_call 19; (with_reducible refine (quant_bad s _ n _ _ HBs.out).mono ?_); rintro e w' ⟨rfl, rfl⟩) | (go_at_call 19; (with_reducible refine (quant_bad t _ n _ _ HBt.out).mono ?_); rintro e w' ⟨rfl, rfl⟩) | (go_at_call 12; (with_reducible refine (lives_c _).mono ?_); (rintro e w9 ⟨rfl, hL⟩; have HL9 := Lib.hid (kbt HL.out hL); clear hL)))
  go_ret
  exact ⟨rfl, HL9.out⟩
set_option maxHeartbeats 4000000 in
theorem steps_b0b1 (s t : Nat) (xs : List Int) (A : Option Addr) (n c : Nat) (w : World) (hs : s < 18446744073709551616) (ht : t < 18446744073709551616) (h : Ints w .i64 A n xs) (hb : n ≤ 17592186044416) (hp : 0 < n) (s1 : (FloatKind.f64.format.order s 0 == some Ordering.gt || FloatKind.f64.format.order s 0 == some Ordering.eq) = false) (sq : qbad s = true) (t1 : (FloatKind.f64.format.order t 0 == some Ordering.gt || FloatKind.f64.format.order t 0 == some Ordering.eq) = true) (t2 : (FloatKind.f64.format.order t 4607182418800017408 == some Ordering.lt || FloatKind.f64.format.order t 4607182418800017408 == some Ordering.eq) = false) (tq : qbad t = true) :
    Calls Try.prog 6 #[.int .u64 (s : Int), .int .u64 (t : Int), .slice A n c] w fun e w' => e = .returned (.bool true) ∧ Below w.heap.size w w' := by
  have frs := from_run s
  have frt := from_run t
  have H := Lib.hid h
  have HN := Lib.hid hb
  have HS := Lib.hid hs
  have HT := Lib.hid ht
  clear h hs ht
  have HP := Lib.hid hp
  have hn0 : ((n : Int) == 0) = false := by simp; omega
  have HBs : Hid ((qbad s || (n : Int) == 0) = true) := Lib.hid (by rw [sq]; rfl)
  have HBt : Hid ((qbad t || (n : Int) == 0) = true) := Lib.hid (by rw [tq]; rfl)
  have HL := Lib.hid (Below.refl w.heap.size w)
  clear sq tq
  go_enter Try.func6, Try.ntmps6
  go_wp2_with (first | (go_at_call 19; (with_reducible refine (quant_bad s _ n _ _ HBs.out).mono ?_); rintro e w' ⟨rfl, rfl⟩) | (go_at_call 19; (with_reducible refine (quant_bad t _ n _ _ HBt.out).mono ?_); rintro e w' ⟨rfl, rfl⟩) | (go_at_call 12; (with_reducible refine (lives_c _).mono ?_); (rintro e w9 ⟨rfl, hL⟩; have HL9 := Lib.hid (kbt HL.out hL); clear hL)))
  go_ret
  exact ⟨rfl, HL9.out⟩
set_option maxHeartbeats 4000000 in
theorem steps_b1ok (s t : Nat) (xs : List Int) (A : Option Addr) (n c : Nat) (w : World) (hs : s < 18446744073709551616) (ht : t < 18446744073709551616) (h : Ints w .i64 A n xs) (hb : n ≤ 17592186044416) (hp : 0 < n) (s1 : (FloatKind.f64.format.order s 0 == some Ordering.gt || FloatKind.f64.format.order s 0 == some Ordering.eq) = true) (s2 : (FloatKind.f64.format.order s 4607182418800017408 == some Ordering.lt || FloatKind.f64.format.order s 4607182418800017408 == some Ordering.eq) = false) (sq : qbad s = true) (t1 : (FloatKind.f64.format.order t 0 == some Ordering.gt || FloatKind.f64.format.order t 0 == some Ordering.eq) = true) (t2 : (FloatKind.f64.format.order t 4607182418800017408 == some Ordering.lt || FloatKind.f64.format.order t 4607182418800017408 == some Ordering.eq) = true) (tq : qbad t = false) :
    Calls Try.prog 6 #[.int .u64 (s : Int), .int .u64 (t : Int), .slice A n c] w fun e w' => e = .returned (.bool true) ∧ Below w.heap.size w w' := by
  have frs := from_run s
  have frt := from_run t
  have H := Lib.hid h
  have HN := Lib.hid hb
  have HS := Lib.hid hs
  have HT := Lib.hid ht
  clear h hs ht
  have HP := Lib.hid hp
  have hn0 : ((n : Int) == 0) = false := by simp; omega
  have HBs : Hid ((qbad s || (n : Int) == 0) = true) := Lib.hid (by rw [sq]; rfl)
  have HQt := Lib.hid tq
  have HL := Lib.hid (Below.refl w.heap.size w)
  clear sq tq
  go_enter Try.func6, Try.ntmps6
  go_wp2_with (first | (go_at_call 19; (with_reducible refine (quant_bad s _ n _ _ HBs.out).mono ?_); rintro e w' ⟨rfl, rfl⟩) | (go_at_call 19; (with_reducible refine (quant_x t xs A n c _ (H.out.keep HL.out) HP.out HN.out HT.out HQt.out).mono ?_); (rintro e w4 ⟨⟨X', k', hF', hX', rfl⟩, hL⟩; have HL := Lib.hid (kbt HL.out hL); clear hL)) | (go_at_call 12; (with_reducible refine (lives_c _).mono ?_); (rintro e w9 ⟨rfl, hL⟩; have HL9 := Lib.hid (kbt HL.out hL); clear hL)))
  go_ret
  exact ⟨rfl, HL9.out⟩
set_option maxHeartbeats 4000000 in
theorem steps_b1b0 (s t : Nat) (xs : List Int) (A : Option Addr) (n c : Nat) (w : World) (hs : s < 18446744073709551616) (ht : t < 18446744073709551616) (h : Ints w .i64 A n xs) (hb : n ≤ 17592186044416) (hp : 0 < n) (s1 : (FloatKind.f64.format.order s 0 == some Ordering.gt || FloatKind.f64.format.order s 0 == some Ordering.eq) = true) (s2 : (FloatKind.f64.format.order s 4607182418800017408 == some Ordering.lt || FloatKind.f64.format.order s 4607182418800017408 == some Ordering.eq) = false) (sq : qbad s = true) (t1 : (FloatKind.f64.format.order t 0 == some Ordering.gt || FloatKind.f64.format.order t 0 == some Ordering.eq) = false) (tq : qbad t = true) :
    Calls Try.prog 6 #[.int .u64 (s : Int), .int .u64 (t : Int), .slice A n c] w fun e w' => e = .returned (.bool true) ∧ Below w.heap.size w w' := by
  have frs := from_run s
  have frt := from_run t
  have H := Lib.hid h
  have HN := Lib.hid hb
  have HS := Lib.hid hs
  have HT := Lib.hid ht
  clear h hs ht
  have HP := Lib.hid hp
  have hn0 : ((n : Int) == 0) = false := by simp; omega
  have HBs : Hid ((qbad s || (n : Int) == 0) = true) := Lib.hid (by rw [sq]; rfl)
  have HBt : Hid ((qbad t || (n : Int) == 0) = true) := Lib.hid (by rw [tq]; rfl)
  have HL := Lib.hid (Below.refl w.heap.size w)
  clear sq tq
  go_enter Try.func6, Try.ntmps6
  go_wp2_with (first | (go_at_call 19; (with_reducible refine (quant_bad s _ n _ _ HBs.out).mono ?_); rintro e w' ⟨rfl, rfl⟩) | (go_at_call 19; (with_reducible refine (quant_bad t _ n _ _ HBt.out).mono ?_); rintro e w' ⟨rfl, rfl⟩) | (go_at_call 12; (with_reducible refine (lives_c _).mono ?_); (rintro e w9 ⟨rfl, hL⟩; have HL9 := Lib.hid (kbt HL.out hL); clear hL)))
  go_ret
  exact ⟨rfl, HL9.out⟩
set_option maxHeartbeats 4000000 in
theorem steps_b1b1 (s t : Nat) (xs : List Int) (A : Option Addr) (n c : Nat) (w : World) (hs : s < 18446744073709551616) (ht : t < 18446744073709551616) (h : Ints w .i64 A n xs) (hb : n ≤ 17592186044416) (hp : 0 < n) (s1 : (FloatKind.f64.format.order s 0 == some Ordering.gt || FloatKind.f64.format.order s 0 == some Ordering.eq) = true) (s2 : (FloatKind.f64.format.order s 4607182418800017408 == some Ordering.lt || FloatKind.f64.format.order s 4607182418800017408 == some Ordering.eq) = false) (sq : qbad s = true) (t1 : (FloatKind.f64.format.order t 0 == some Ordering.gt || FloatKind.f64.format.order t 0 == some Ordering.eq) = true) (t2 : (FloatKind.f64.format.order t 4607182418800017408 == some Ordering.lt || FloatKind.f64.format.order t 4607182418800017408 == some Ordering.eq) = false) (tq : qbad t = true) :
    Calls Try.prog 6 #[.int .u64 (s : Int), .int .u64 (t : Int), .slice A n c] w fun e w' => e = .returned (.bool true) ∧ Below w.heap.size w w' := by
  have frs := from_run s
  have frt := from_run t
  have H := Lib.hid h
  have HN := Lib.hid hb
  have HS := Lib.hid hs
  have HT := Lib.hid ht
  clear h hs ht
  have HP := Lib.hid hp
  have hn0 : ((n : Int) == 0) = false := by simp; omega
  have HBs : Hid ((qbad s || (n : Int) == 0) = true) := Lib.hid (by rw [sq]; rfl)
  have HBt : Hid ((qbad t || (n : Int) == 0) = true) := Lib.hid (by rw [tq]; rfl)
  have HL := Lib.hid (Below.refl w.heap.size w)
  clear sq tq
  go_enter Try.func6, Try.ntmps6
  go_wp2_with (first | (go_at_call 19; (with_reducible refine (quant_bad s _ n _ _ HBs.out).mono ?_); rintro e w' ⟨rfl, rfl⟩) | (go_at_call 19; (with_reducible refine (quant_bad t _ n _ _ HBt.out).mono ?_); rintro e w' ⟨rfl, rfl⟩) | (go_at_call 12; (with_reducible refine (lives_c _).mono ?_); (rintro e w9 ⟨rfl, hL⟩; have HL9 := Lib.hid (kbt HL.out hL); clear hL)))
  go_ret
  exact ⟨rfl, HL9.out⟩
set_option maxHeartbeats 8000000 in
theorem steps_ok_tt (s t : Nat) (xs : List Int) (A : Option Addr) (n c : Nat) (w : World) (hs : s < 18446744073709551616) (ht : t < 18446744073709551616) (h : Ints w .i64 A n xs) (hb : n ≤ 17592186044416) (hp : 0 < n) (s1 : (FloatKind.f64.format.order s 0 == some Ordering.gt || FloatKind.f64.format.order s 0 == some Ordering.eq) = true) (s2 : (FloatKind.f64.format.order s 4607182418800017408 == some Ordering.lt || FloatKind.f64.format.order s 4607182418800017408 == some Ordering.eq) = true) (sq : qbad s = false) (t1 : (FloatKind.f64.format.order t 0 == some Ordering.gt || FloatKind.f64.format.order t 0 == some Ordering.eq) = true) (t2 : (FloatKind.f64.format.order t 4607182418800017408 == some Ordering.lt || FloatKind.f64.format.order t 4607182418800017408 == some Ordering.eq) = true) (tq : qbad t = false) (d1 : (FloatKind.f64.format.order s t == some .lt || FloatKind.f64.format.order s t == some .eq) = true) (d2 : (FloatKind.f64.format.order t s == some .lt || FloatKind.f64.format.order t s == some .eq) = true) :
    Calls Try.prog 6 #[.int .u64 (s : Int), .int .u64 (t : Int), .slice A n c] w fun e w' => e = .returned (.bool true) ∧ Below w.heap.size w w' := by
  have frs := from_run s
  have frt := from_run t
  have H := Lib.hid h
  have HN := Lib.hid hb
  have HS := Lib.hid hs
  have HT := Lib.hid ht
  clear h hs ht
  have HP := Lib.hid hp
  have HLn : Hid (xs.length = n) := Lib.hid H.out.1
  have hn0 : ((n : Int) == 0) = false := by simp; omega
  have HQs := Lib.hid sq
  have HQt := Lib.hid tq
  have HQ0 := Lib.hid q0
  have HQ1 := Lib.hid q1
  have HD1 : Hid (leF s t = true) := Lib.hid d1
  have HD2 : Hid (leF t s = true) := Lib.hid d2
  have H0 : Hid ((0 : Nat) < 18446744073709551616) := Lib.hid (by decide)
  have H1 : Hid ((4607182418800017408 : Nat) < 18446744073709551616) := Lib.hid (by decide)
  have HL := Lib.hid (Below.refl w.heap.size w)
  obtain ⟨ws, _⟩ := want_word (n := n) (share_word HS.out sq) (by omega)
  have fm : ∀ t W, (binOp .mul t (.float .f64 s) (.float .f64 (floatOfInt .f64 (n : Int)))).run Try.prog W = .ok (.float .f64 (want s n)) W := fo_run ws
  clear sq tq ws
  go_enter Try.func6, Try.ntmps6
  go_wp2_with (first
    | (go_at_call 19; (with_reducible refine (quant_x s xs A n c _ (H.out.keep HL.out) HP.out HN.out HS.out HQs.out).mono ?_); (rintro e w1 ⟨⟨X, k, hF, hX, rfl⟩, hL⟩; have HL1 := Lib.hid (kbt HL.out hL); have HF := Lib.hid hF; have HX := Lib.hid hX; clear hL hX hF))
    | (go_at_call 19; (with_reducible refine (quant_x t xs A n c _ (H.out.keep HL1.out) HP.out HN.out HT.out HQt.out).mono ?_); (rintro e w2 ⟨⟨Y, j, hG, hY, rfl⟩, hL⟩; have HL2 := Lib.hid (kbt HL1.out hL); have hX := HX.out; have hF := HF.out; have hxy : X ≤ Y := (by rw [hX, hY]; exact srt_mono HLn.out (from_mono HP.out HN.out HS.out HT.out HQs.out HQt.out HD1.out hF hG) (by have := hG.1; have := HP.out; omega)); have hyx : Y ≤ X := (by rw [hX, hY]; exact srt_mono HLn.out (from_mono HP.out HN.out HT.out HS.out HQt.out HQs.out HD2.out hG hF) (by have := hF.1; have := HP.out; omega)); clear hL hX hF hY hG))
    | (go_at_call 19; (with_reducible refine (quant_x 0 xs A n c _ (H.out.keep HL2.out) HP.out HN.out H0.out HQ0.out).mono ?_); (rintro e w3 ⟨⟨Lo, k0, hF0, hX0, rfl⟩, hL⟩; have HL3 := Lib.hid (kbt HL2.out hL); have HLo : Hid (Lo = (srt xs)[0]?.getD 0) := Lib.hid (by rw [hX0, from_zero HP.out HN.out hF0]); clear hL hX0 hF0))
    | (go_at_call 19; (with_reducible refine (quant_x 4607182418800017408 xs A n c _ (H.out.keep HL3.out) HP.out HN.out H1.out HQ1.out).mono ?_); (rintro e w4 ⟨⟨Hi, k1, hF1, hX1, rfl⟩, hL⟩; have HL4 := Lib.hid (kbt HL3.out hL); have HHi : Hid (Hi = (srt xs)[n - 1]?.getD 0) := Lib.hid (by rw [hX1, from_one HP.out HN.out hF1]); clear hL hX1 hF1)))
  go_loop [18, 19, 20, 21] (fun up be is i => ∃ i' : Nat, i' ≤ n ∧ i = .int .i64 i' ∧ up = .int .i64 (cnt (xs.take i') X : Int) ∧ be = .int .i64 (cnt (xs.take i') (X - 1) : Int) ∧ is = .bool ((xs.take i').any (· == X)) ∧ cnt (xs.take i') X ≤ i' ∧ cnt (xs.take i') (X - 1) ≤ i') (fun _ _ _ i => n - (intOf i).toNat)
  case atStart => exact ⟨0, Nat.zero_le _, rfl, by simp [cnt], by simp [cnt], by simp, by simp [cnt], by simp [cnt]⟩
  case round =>
    obtain ⟨i, hi, rfl, rfl, rfl, rfl, hc1, hc2⟩ := hrel
    by_cases hlt : i < n
    · obtain ⟨ad, x, rfl, hx, hc⟩ := (H.out.keep HL4.out).at_ hlt
      have hends := srt_ends HLn.out hx
      rw [← HLo.out, ← HHi.out] at hends
      obtain ⟨en1, en2⟩ := hends
      have HC1 := Lib.hid (cnt_snoc X hx)
      have HC2 := Lib.hid (cnt_snoc (X - 1) hx)
      have HAN : Hid ((xs.take (i + 1)).any (· == X) = ((xs.take i).any (· == X) || x == X)) := Lib.hid (by rw [take_snoc xs i x hx, List.any_append]; simp)
      clear hx
      obtain ⟨b, hbb⟩ : ∃ b, b = (xs.take i).any (· == X) := ⟨_, rfl⟩
      rw [← hbb] at HAN
      rw [← hbb]
      obtain ⟨m1, hm1⟩ : ∃ m, m = cnt (xs.take i) X := ⟨_, rfl⟩
      obtain ⟨m2, hm2⟩ : ∃ m, m = cnt (xs.take i) (X - 1) := ⟨_, rfl⟩
      rw [← hm1] at HC1 hc1 ⊢
      rw [← hm2] at HC2 hc2 ⊢
      clear hbb hm1 hm2
      rcases Int.lt_trichotomy x X with hc3 | hc3 | hc3
      · have he : (x == X) = false := by simp; omega
        rw [if_pos (by omega)] at HC1 HC2
        rw [he, Bool.or_false] at HAN
        cases b <;>
        · go_wp2
          go_round
          case rel => exact ⟨i + 1, by omega, by go_num, by rw [HC1.out]; go_num, by rw [HC2.out]; go_num, by rw [HAN.out], by rw [HC1.out]; omega, by rw [HC2.out]; omega⟩
          case measure => simp [intOf]; omega
      · subst hc3
        rw [if_pos (by omega)] at HC1
        rw [if_neg (by omega)] at HC2
        have he : (x == x) = true := by simp
        rw [he, Bool.or_true] at HAN
        cases b <;>
        · go_wp2
          go_round
          case rel => exact ⟨i + 1, by omega, by go_num, by rw [HC1.out]; go_num, by rw [HC2.out]; go_num, by rw [HAN.out], by rw [HC1.out]; omega, by rw [HC2.out]; omega⟩
          case measure => simp [intOf]; omega
      · have he : (x == X) = false := by simp; omega
        rw [if_neg (by omega)] at HC1 HC2
        rw [he, Bool.or_false] at HAN
        cases b <;>
        · go_wp2
          go_round
          case rel => exact ⟨i + 1, by omega, by go_num, by rw [HC1.out]; go_num, by rw [HC2.out]; go_num, by rw [HAN.out], by rw [HC1.out]; omega, by rw [HC2.out]; omega⟩
          case measure => simp [intOf]; omega
    · obtain rfl : i = n := by omega
      have ht : xs.take i = xs := List.take_of_length_le (by have := HLn.out; omega)
      rw [ht] at hc1 hc2 ⊢
      have qi := quant_is HLn.out HP.out HN.out HS.out HQs.out HF.out
      have bf := below_few HLn.out HP.out HN.out HS.out HQs.out HF.out
      rw [← HX.out] at qi bf
      have hany : xs.any (· == X) = true := List.any_eq_true.2 ⟨X, qi.1, by simp⟩
      rw [hany]
      have hgd : (FloatKind.f64.format.order (floatOfInt .f64 (cnt xs X : Int)) (want s i) == some .gt || FloatKind.f64.format.order (floatOfInt .f64 (cnt xs X : Int)) (want s i) == some .eq) = true := by
        have := qi.2.1
        unfold good geF at this
        rw [HLn.out] at this
        exact this
      obtain ⟨m1, hm1⟩ : ∃ m, m = cnt xs X := ⟨_, rfl⟩
      obtain ⟨m2, hm2⟩ : ∃ m, m = cnt xs (X - 1) := ⟨_, rfl⟩
      rw [← hm1] at hgd hc1 ⊢
      rw [← hm2] at bf hc2 ⊢
      clear hm1 hm2 hany qi ht hlt
      by_cases hz : m2 = 0
      · subst hz
        clear bf
        go_wp2_with (first | (go_at_call 12; (with_reducible refine (lives_c _).mono ?_); (rintro e w9 ⟨rfl, hL⟩; have HL9 := Lib.hid (kbt HL4.out hL); clear hL)))
        go_ret
        exact ⟨rfl, HL9.out⟩
      · have hz2 : ((m2 : Int) == 0) = false := by simp; omega
        have hlt2 : (FloatKind.f64.format.order (floatOfInt .f64 (m2 : Int)) (want s i) == some .lt) = true := bf (by omega)
        clear bf hz
        go_wp2_with (first | (go_at_call 12; (with_reducible refine (lives_c _).mono ?_); (rintro e w9 ⟨rfl, hL⟩; have HL9 := Lib.hid (kbt HL4.out hL); clear hL)))
        go_ret
        exact ⟨rfl, HL9.out⟩
set_option maxHeartbeats 8000000 in
theorem steps_ok_tf (s t : Nat) (xs : List Int) (A : Option Addr) (n c : Nat) (w : World) (hs : s < 18446744073709551616) (ht : t < 18446744073709551616) (h : Ints w .i64 A n xs) (hb : n ≤ 17592186044416) (hp : 0 < n) (s1 : (FloatKind.f64.format.order s 0 == some Ordering.gt || FloatKind.f64.format.order s 0 == some Ordering.eq) = true) (s2 : (FloatKind.f64.format.order s 4607182418800017408 == some Ordering.lt || FloatKind.f64.format.order s 4607182418800017408 == some Ordering.eq) = true) (sq : qbad s = false) (t1 : (FloatKind.f64.format.order t 0 == some Ordering.gt || FloatKind.f64.format.order t 0 == some Ordering.eq) = true) (t2 : (FloatKind.f64.format.order t 4607182418800017408 == some Ordering.lt || FloatKind.f64.format.order t 4607182418800017408 == some Ordering.eq) = true) (tq : qbad t = false) (d1 : (FloatKind.f64.format.order s t == some .lt || FloatKind.f64.format.order s t == some .eq) = true) (d2 : (FloatKind.f64.format.order t s == some .lt || FloatKind.f64.format.order t s == some .eq) = false) :
    Calls Try.prog 6 #[.int .u64 (s : Int), .int .u64 (t : Int), .slice A n c] w fun e w' => e = .returned (.bool true) ∧ Below w.heap.size w w' := by
  have frs := from_run s
  have frt := from_run t
  have H := Lib.hid h
  have HN := Lib.hid hb
  have HS := Lib.hid hs
  have HT := Lib.hid ht
  clear h hs ht
  have HP := Lib.hid hp
  have HLn : Hid (xs.length = n) := Lib.hid H.out.1
  have hn0 : ((n : Int) == 0) = false := by simp; omega
  have HQs := Lib.hid sq
  have HQt := Lib.hid tq
  have HQ0 := Lib.hid q0
  have HQ1 := Lib.hid q1
  have HD1 : Hid (leF s t = true) := Lib.hid d1
  have HD2 : Hid (leF t s = false) := Lib.hid d2
  have H0 : Hid ((0 : Nat) < 18446744073709551616) := Lib.hid (by decide)
  have H1 : Hid ((4607182418800017408 : Nat) < 18446744073709551616) := Lib.hid (by decide)
  have HL := Lib.hid (Below.refl w.heap.size w)
  obtain ⟨ws, _⟩ := want_word (n := n) (share_word HS.out sq) (by omega)
  have fm : ∀ t W, (binOp .mul t (.float .f64 s) (.float .f64 (floatOfInt .f64 (n : Int)))).run Try.prog W = .ok (.float .f64 (want s n)) W := fo_run ws
  clear sq tq ws
  go_enter Try.func6, Try.ntmps6
  go_wp2_with (first
    | (go_at_call 19; (with_reducible refine (quant_x s xs A n c _ (H.out.keep HL.out) HP.out HN.out HS.out HQs.out).mono ?_); (rintro e w1 ⟨⟨X, k, hF, hX, rfl⟩, hL⟩; have HL1 := Lib.hid (kbt HL.out hL); have HF := Lib.hid hF; have HX := Lib.hid hX; clear hL hX hF))
    | (go_at_call 19; (with_reducible refine (quant_x t xs A n c _ (H.out.keep HL1.out) HP.out HN.out HT.out HQt.out).mono ?_); (rintro e w2 ⟨⟨Y, j, hG, hY, rfl⟩, hL⟩; have HL2 := Lib.hid (kbt HL1.out hL); have hX := HX.out; have hF := HF.out; have hxy : X ≤ Y := (by rw [hX, hY]; exact srt_mono HLn.out (from_mono HP.out HN.out HS.out HT.out HQs.out HQt.out HD1.out hF hG) (by have := hG.1; have := HP.out; omega)); clear hL hX hF hY hG))
    | (go_at_call 19; (with_reducible refine (quant_x 0 xs A n c _ (H.out.keep HL2.out) HP.out HN.out H0.out HQ0.out).mono ?_); (rintro e w3 ⟨⟨Lo, k0, hF0, hX0, rfl⟩, hL⟩; have HL3 := Lib.hid (kbt HL2.out hL); have HLo : Hid (Lo = (srt xs)[0]?.getD 0) := Lib.hid (by rw [hX0, from_zero HP.out HN.out hF0]); clear hL hX0 hF0))
    | (go_at_call 19; (with_reducible refine (quant_x 4607182418800017408 xs A n c _ (H.out.keep HL3.out) HP.out HN.out H1.out HQ1.out).mono ?_); (rintro e w4 ⟨⟨Hi, k1, hF1, hX1, rfl⟩, hL⟩; have HL4 := Lib.hid (kbt HL3.out hL); have HHi : Hid (Hi = (srt xs)[n - 1]?.getD 0) := Lib.hid (by rw [hX1, from_one HP.out HN.out hF1]); clear hL hX1 hF1)))
  go_loop [18, 19, 20, 21] (fun up be is i => ∃ i' : Nat, i' ≤ n ∧ i = .int .i64 i' ∧ up = .int .i64 (cnt (xs.take i') X : Int) ∧ be = .int .i64 (cnt (xs.take i') (X - 1) : Int) ∧ is = .bool ((xs.take i').any (· == X)) ∧ cnt (xs.take i') X ≤ i' ∧ cnt (xs.take i') (X - 1) ≤ i') (fun _ _ _ i => n - (intOf i).toNat)
  case atStart => exact ⟨0, Nat.zero_le _, rfl, by simp [cnt], by simp [cnt], by simp, by simp [cnt], by simp [cnt]⟩
  case round =>
    obtain ⟨i, hi, rfl, rfl, rfl, rfl, hc1, hc2⟩ := hrel
    by_cases hlt : i < n
    · obtain ⟨ad, x, rfl, hx, hc⟩ := (H.out.keep HL4.out).at_ hlt
      have hends := srt_ends HLn.out hx
      rw [← HLo.out, ← HHi.out] at hends
      obtain ⟨en1, en2⟩ := hends
      have HC1 := Lib.hid (cnt_snoc X hx)
      have HC2 := Lib.hid (cnt_snoc (X - 1) hx)
      have HAN : Hid ((xs.take (i + 1)).any (· == X) = ((xs.take i).any (· == X) || x == X)) := Lib.hid (by rw [take_snoc xs i x hx, List.any_append]; simp)
      clear hx
      obtain ⟨b, hbb⟩ : ∃ b, b = (xs.take i).any (· == X) := ⟨_, rfl⟩
      rw [← hbb] at HAN
      rw [← hbb]
      obtain ⟨m1, hm1⟩ : ∃ m, m = cnt (xs.take i) X := ⟨_, rfl⟩
      obtain ⟨m2, hm2⟩ : ∃ m, m = cnt (xs.take i) (X - 1) := ⟨_, rfl⟩
      rw [← hm1] at HC1 hc1 ⊢
      rw [← hm2] at HC2 hc2 ⊢
      clear hbb hm1 hm2
      rcases Int.lt_trichotomy x X with hc3 | hc3 | hc3
      · have he : (x == X) = false := by simp; omega
        rw [if_pos (by omega)] at HC1 HC2
        rw [he, Bool.or_false] at HAN
        cases b <;>
        · go_wp2
          go_round
          case rel => exact ⟨i + 1, by omega, by go_num, by rw [HC1.out]; go_num, by rw [HC2.out]; go_num, by rw [HAN.out], by rw [HC1.out]; omega, by rw [HC2.out]; omega⟩
          case measure => simp [intOf]; omega
      · subst hc3
        rw [if_pos (by omega)] at HC1
        rw [if_neg (by omega)] at HC2
        have he : (x == x) = true := by simp
        rw [he, Bool.or_true] at HAN
        cases b <;>
        · go_wp2
          go_round
          case rel => exact ⟨i + 1, by omega, by go_num, by rw [HC1.out]; go_num, by rw [HC2.out]; go_num, by rw [HAN.out], by rw [HC1.out]; omega, by rw [HC2.out]; omega⟩
          case measure => simp [intOf]; omega
      · have he : (x == X) = false := by simp; omega
        rw [if_neg (by omega)] at HC1 HC2
        rw [he, Bool.or_false] at HAN
        cases b <;>
        · go_wp2
          go_round
          case rel => exact ⟨i + 1, by omega, by go_num, by rw [HC1.out]; go_num, by rw [HC2.out]; go_num, by rw [HAN.out], by rw [HC1.out]; omega, by rw [HC2.out]; omega⟩
          case measure => simp [intOf]; omega
    · obtain rfl : i = n := by omega
      have ht : xs.take i = xs := List.take_of_length_le (by have := HLn.out; omega)
      rw [ht] at hc1 hc2 ⊢
      have qi := quant_is HLn.out HP.out HN.out HS.out HQs.out HF.out
      have bf := below_few HLn.out HP.out HN.out HS.out HQs.out HF.out
      rw [← HX.out] at qi bf
      have hany : xs.any (· == X) = true := List.any_eq_true.2 ⟨X, qi.1, by simp⟩
      rw [hany]
      have hgd : (FloatKind.f64.format.order (floatOfInt .f64 (cnt xs X : Int)) (want s i) == some .gt || FloatKind.f64.format.order (floatOfInt .f64 (cnt xs X : Int)) (want s i) == some .eq) = true := by
        have := qi.2.1
        unfold good geF at this
        rw [HLn.out] at this
        exact this
      obtain ⟨m1, hm1⟩ : ∃ m, m = cnt xs X := ⟨_, rfl⟩
      obtain ⟨m2, hm2⟩ : ∃ m, m = cnt xs (X - 1) := ⟨_, rfl⟩
      rw [← hm1] at hgd hc1 ⊢
      rw [← hm2] at bf hc2 ⊢
      clear hm1 hm2 hany qi ht hlt
      by_cases hz : m2 = 0
      · subst hz
        clear bf
        go_wp2_with (first | (go_at_call 12; (with_reducible refine (lives_c _).mono ?_); (rintro e w9 ⟨rfl, hL⟩; have HL9 := Lib.hid (kbt HL4.out hL); clear hL)))
        go_ret
        exact ⟨rfl, HL9.out⟩
      · have hz2 : ((m2 : Int) == 0) = false := by simp; omega
        have hlt2 : (FloatKind.f64.format.order (floatOfInt .f64 (m2 : Int)) (want s i) == some .lt) = true := bf (by omega)
        clear bf hz
        go_wp2_with (first | (go_at_call 12; (with_reducible refine (lives_c _).mono ?_); (rintro e w9 ⟨rfl, hL⟩; have HL9 := Lib.hid (kbt HL4.out hL); clear hL)))
        go_ret
        exact ⟨rfl, HL9.out⟩
set_option maxHeartbeats 8000000 in
theorem steps_ok_ft (s t : Nat) (xs : List Int) (A : Option Addr) (n c : Nat) (w : World) (hs : s < 18446744073709551616) (ht : t < 18446744073709551616) (h : Ints w .i64 A n xs) (hb : n ≤ 17592186044416) (hp : 0 < n) (s1 : (FloatKind.f64.format.order s 0 == some Ordering.gt || FloatKind.f64.format.order s 0 == some Ordering.eq) = true) (s2 : (FloatKind.f64.format.order s 4607182418800017408 == some Ordering.lt || FloatKind.f64.format.order s 4607182418800017408 == some Ordering.eq) = true) (sq : qbad s = false) (t1 : (FloatKind.f64.format.order t 0 == some Ordering.gt || FloatKind.f64.format.order t 0 == some Ordering.eq) = true) (t2 : (FloatKind.f64.format.order t 4607182418800017408 == some Ordering.lt || FloatKind.f64.format.order t 4607182418800017408 == some Ordering.eq) = true) (tq : qbad t = false) (d1 : (FloatKind.f64.format.order s t == some .lt || FloatKind.f64.format.order s t == some .eq) = false) (d2 : (FloatKind.f64.format.order t s == some .lt || FloatKind.f64.format.order t s == some .eq) = true) :
    Calls Try.prog 6 #[.int .u64 (s : Int), .int .u64 (t : Int), .slice A n c] w fun e w' => e = .returned (.bool true) ∧ Below w.heap.size w w' := by
  have frs := from_run s
  have frt := from_run t
  have H := Lib.hid h
  have HN := Lib.hid hb
  have HS := Lib.hid hs
  have HT := Lib.hid ht
  clear h hs ht
  have HP := Lib.hid hp
  have HLn : Hid (xs.length = n) := Lib.hid H.out.1
  have hn0 : ((n : Int) == 0) = false := by simp; omega
  have HQs := Lib.hid sq
  have HQt := Lib.hid tq
  have HQ0 := Lib.hid q0
  have HQ1 := Lib.hid q1
  have HD1 : Hid (leF s t = false) := Lib.hid d1
  have HD2 : Hid (leF t s = true) := Lib.hid d2
  have H0 : Hid ((0 : Nat) < 18446744073709551616) := Lib.hid (by decide)
  have H1 : Hid ((4607182418800017408 : Nat) < 18446744073709551616) := Lib.hid (by decide)
  have HL := Lib.hid (Below.refl w.heap.size w)
  obtain ⟨ws, _⟩ := want_word (n := n) (share_word HS.out sq) (by omega)
  have fm : ∀ t W, (binOp .mul t (.float .f64 s) (.float .f64 (floatOfInt .f64 (n : Int)))).run Try.prog W = .ok (.float .f64 (want s n)) W := fo_run ws
  clear sq tq ws
  go_enter Try.func6, Try.ntmps6
  go_wp2_with (first
    | (go_at_call 19; (with_reducible refine (quant_x s xs A n c _ (H.out.keep HL.out) HP.out HN.out HS.out HQs.out).mono ?_); (rintro e w1 ⟨⟨X, k, hF, hX, rfl⟩, hL⟩; have HL1 := Lib.hid (kbt HL.out hL); have HF := Lib.hid hF; have HX := Lib.hid hX; clear hL hX hF))
    | (go_at_call 19; (with_reducible refine (quant_x t xs A n c _ (H.out.keep HL1.out) HP.out HN.out HT.out HQt.out).mono ?_); (rintro e w2 ⟨⟨Y, j, hG, hY, rfl⟩, hL⟩; have HL2 := Lib.hid (kbt HL1.out hL); have hX := HX.out; have hF := HF.out; have hyx : Y ≤ X := (by rw [hX, hY]; exact srt_mono HLn.out (from_mono HP.out HN.out HT.out HS.out HQt.out HQs.out HD2.out hG hF) (by have := hF.1; have := HP.out; omega)); clear hL hX hF hY hG))
    | (go_at_call 19; (with_reducible refine (quant_x 0 xs A n c _ (H.out.keep HL2.out) HP.out HN.out H0.out HQ0.out).mono ?_); (rintro e w3 ⟨⟨Lo, k0, hF0, hX0, rfl⟩, hL⟩; have HL3 := Lib.hid (kbt HL2.out hL); have HLo : Hid (Lo = (srt xs)[0]?.getD 0) := Lib.hid (by rw [hX0, from_zero HP.out HN.out hF0]); clear hL hX0 hF0))
    | (go_at_call 19; (with_reducible refine (quant_x 4607182418800017408 xs A n c _ (H.out.keep HL3.out) HP.out HN.out H1.out HQ1.out).mono ?_); (rintro e w4 ⟨⟨Hi, k1, hF1, hX1, rfl⟩, hL⟩; have HL4 := Lib.hid (kbt HL3.out hL); have HHi : Hid (Hi = (srt xs)[n - 1]?.getD 0) := Lib.hid (by rw [hX1, from_one HP.out HN.out hF1]); clear hL hX1 hF1)))
  go_loop [18, 19, 20, 21] (fun up be is i => ∃ i' : Nat, i' ≤ n ∧ i = .int .i64 i' ∧ up = .int .i64 (cnt (xs.take i') X : Int) ∧ be = .int .i64 (cnt (xs.take i') (X - 1) : Int) ∧ is = .bool ((xs.take i').any (· == X)) ∧ cnt (xs.take i') X ≤ i' ∧ cnt (xs.take i') (X - 1) ≤ i') (fun _ _ _ i => n - (intOf i).toNat)
  case atStart => exact ⟨0, Nat.zero_le _, rfl, by simp [cnt], by simp [cnt], by simp, by simp [cnt], by simp [cnt]⟩
  case round =>
    obtain ⟨i, hi, rfl, rfl, rfl, rfl, hc1, hc2⟩ := hrel
    by_cases hlt : i < n
    · obtain ⟨ad, x, rfl, hx, hc⟩ := (H.out.keep HL4.out).at_ hlt
      have hends := srt_ends HLn.out hx
      rw [← HLo.out, ← HHi.out] at hends
      obtain ⟨en1, en2⟩ := hends
      have HC1 := Lib.hid (cnt_snoc X hx)
      have HC2 := Lib.hid (cnt_snoc (X - 1) hx)
      have HAN : Hid ((xs.take (i + 1)).any (· == X) = ((xs.take i).any (· == X) || x == X)) := Lib.hid (by rw [take_snoc xs i x hx, List.any_append]; simp)
      clear hx
      obtain ⟨b, hbb⟩ : ∃ b, b = (xs.take i).any (· == X) := ⟨_, rfl⟩
      rw [← hbb] at HAN
      rw [← hbb]
      obtain ⟨m1, hm1⟩ : ∃ m, m = cnt (xs.take i) X := ⟨_, rfl⟩
      obtain ⟨m2, hm2⟩ : ∃ m, m = cnt (xs.take i) (X - 1) := ⟨_, rfl⟩
      rw [← hm1] at HC1 hc1 ⊢
      rw [← hm2] at HC2 hc2 ⊢
      clear hbb hm1 hm2
      rcases Int.lt_trichotomy x X with hc3 | hc3 | hc3
      · have he : (x == X) = false := by simp; omega
        rw [if_pos (by omega)] at HC1 HC2
        rw [he, Bool.or_false] at HAN
        cases b <;>
        · go_wp2
          go_round
          case rel => exact ⟨i + 1, by omega, by go_num, by rw [HC1.out]; go_num, by rw [HC2.out]; go_num, by rw [HAN.out], by rw [HC1.out]; omega, by rw [HC2.out]; omega⟩
          case measure => simp [intOf]; omega
      · subst hc3
        rw [if_pos (by omega)] at HC1
        rw [if_neg (by omega)] at HC2
        have he : (x == x) = true := by simp
        rw [he, Bool.or_true] at HAN
        cases b <;>
        · go_wp2
          go_round
          case rel => exact ⟨i + 1, by omega, by go_num, by rw [HC1.out]; go_num, by rw [HC2.out]; go_num, by rw [HAN.out], by rw [HC1.out]; omega, by rw [HC2.out]; omega⟩
          case measure => simp [intOf]; omega
      · have he : (x == X) = false := by simp; omega
        rw [if_neg (by omega)] at HC1 HC2
        rw [he, Bool.or_false] at HAN
        cases b <;>
        · go_wp2
          go_round
          case rel => exact ⟨i + 1, by omega, by go_num, by rw [HC1.out]; go_num, by rw [HC2.out]; go_num, by rw [HAN.out], by rw [HC1.out]; omega, by rw [HC2.out]; omega⟩
          case measure => simp [intOf]; omega
    · obtain rfl : i = n := by omega
      have ht : xs.take i = xs := List.take_of_length_le (by have := HLn.out; omega)
      rw [ht] at hc1 hc2 ⊢
      have qi := quant_is HLn.out HP.out HN.out HS.out HQs.out HF.out
      have bf := below_few HLn.out HP.out HN.out HS.out HQs.out HF.out
      rw [← HX.out] at qi bf
      have hany : xs.any (· == X) = true := List.any_eq_true.2 ⟨X, qi.1, by simp⟩
      rw [hany]
      have hgd : (FloatKind.f64.format.order (floatOfInt .f64 (cnt xs X : Int)) (want s i) == some .gt || FloatKind.f64.format.order (floatOfInt .f64 (cnt xs X : Int)) (want s i) == some .eq) = true := by
        have := qi.2.1
        unfold good geF at this
        rw [HLn.out] at this
        exact this
      obtain ⟨m1, hm1⟩ : ∃ m, m = cnt xs X := ⟨_, rfl⟩
      obtain ⟨m2, hm2⟩ : ∃ m, m = cnt xs (X - 1) := ⟨_, rfl⟩
      rw [← hm1] at hgd hc1 ⊢
      rw [← hm2] at bf hc2 ⊢
      clear hm1 hm2 hany qi ht hlt
      by_cases hz : m2 = 0
      · subst hz
        clear bf
        go_wp2_with (first | (go_at_call 12; (with_reducible refine (lives_c _).mono ?_); (rintro e w9 ⟨rfl, hL⟩; have HL9 := Lib.hid (kbt HL4.out hL); clear hL)))
        go_ret
        exact ⟨rfl, HL9.out⟩
      · have hz2 : ((m2 : Int) == 0) = false := by simp; omega
        have hlt2 : (FloatKind.f64.format.order (floatOfInt .f64 (m2 : Int)) (want s i) == some .lt) = true := bf (by omega)
        clear bf hz
        go_wp2_with (first | (go_at_call 12; (with_reducible refine (lives_c _).mono ?_); (rintro e w9 ⟨rfl, hL⟩; have HL9 := Lib.hid (kbt HL4.out hL); clear hL)))
        go_ret
        exact ⟨rfl, HL9.out⟩
set_option maxHeartbeats 8000000 in
theorem steps_ok_ff (s t : Nat) (xs : List Int) (A : Option Addr) (n c : Nat) (w : World) (hs : s < 18446744073709551616) (ht : t < 18446744073709551616) (h : Ints w .i64 A n xs) (hb : n ≤ 17592186044416) (hp : 0 < n) (s1 : (FloatKind.f64.format.order s 0 == some Ordering.gt || FloatKind.f64.format.order s 0 == some Ordering.eq) = true) (s2 : (FloatKind.f64.format.order s 4607182418800017408 == some Ordering.lt || FloatKind.f64.format.order s 4607182418800017408 == some Ordering.eq) = true) (sq : qbad s = false) (t1 : (FloatKind.f64.format.order t 0 == some Ordering.gt || FloatKind.f64.format.order t 0 == some Ordering.eq) = true) (t2 : (FloatKind.f64.format.order t 4607182418800017408 == some Ordering.lt || FloatKind.f64.format.order t 4607182418800017408 == some Ordering.eq) = true) (tq : qbad t = false) (d1 : (FloatKind.f64.format.order s t == some .lt || FloatKind.f64.format.order s t == some .eq) = false) (d2 : (FloatKind.f64.format.order t s == some .lt || FloatKind.f64.format.order t s == some .eq) = false) :
    Calls Try.prog 6 #[.int .u64 (s : Int), .int .u64 (t : Int), .slice A n c] w fun e w' => e = .returned (.bool true) ∧ Below w.heap.size w w' := by
  have frs := from_run s
  have frt := from_run t
  have H := Lib.hid h
  have HN := Lib.hid hb
  have HS := Lib.hid hs
  have HT := Lib.hid ht
  clear h hs ht
  have HP := Lib.hid hp
  have HLn : Hid (xs.length = n) := Lib.hid H.out.1
  have hn0 : ((n : Int) == 0) = false := by simp; omega
  have HQs := Lib.hid sq
  have HQt := Lib.hid tq
  have HQ0 := Lib.hid q0
  have HQ1 := Lib.hid q1
  have HD1 : Hid (leF s t = false) := Lib.hid d1
  have HD2 : Hid (leF t s = false) := Lib.hid d2
  have H0 : Hid ((0 : Nat) < 18446744073709551616) := Lib.hid (by decide)
  have H1 : Hid ((4607182418800017408 : Nat) < 18446744073709551616) := Lib.hid (by decide)
  have HL := Lib.hid (Below.refl w.heap.size w)
  obtain ⟨ws, _⟩ := want_word (n := n) (share_word HS.out sq) (by omega)
  have fm : ∀ t W, (binOp .mul t (.float .f64 s) (.float .f64 (floatOfInt .f64 (n : Int)))).run Try.prog W = .ok (.float .f64 (want s n)) W := fo_run ws
  clear sq tq ws
  go_enter Try.func6, Try.ntmps6
  go_wp2_with (first
    | (go_at_call 19; (with_reducible refine (quant_x s xs A n c _ (H.out.keep HL.out) HP.out HN.out HS.out HQs.out).mono ?_); (rintro e w1 ⟨⟨X, k, hF, hX, rfl⟩, hL⟩; have HL1 := Lib.hid (kbt HL.out hL); have HF := Lib.hid hF; have HX := Lib.hid hX; clear hL hX hF))
    | (go_at_call 19; (with_reducible refine (quant_x t xs A n c _ (H.out.keep HL1.out) HP.out HN.out HT.out HQt.out).mono ?_); (rintro e w2 ⟨⟨Y, j, hG, hY, rfl⟩, hL⟩; have HL2 := Lib.hid (kbt HL1.out hL); have hX := HX.out; have hF := HF.out; clear hL hX hF hY hG))
    | (go_at_call 19; (with_reducible refine (quant_x 0 xs A n c _ (H.out.keep HL2.out) HP.out HN.out H0.out HQ0.out).mono ?_); (rintro e w3 ⟨⟨Lo, k0, hF0, hX0, rfl⟩, hL⟩; have HL3 := Lib.hid (kbt HL2.out hL); have HLo : Hid (Lo = (srt xs)[0]?.getD 0) := Lib.hid (by rw [hX0, from_zero HP.out HN.out hF0]); clear hL hX0 hF0))
    | (go_at_call 19; (with_reducible refine (quant_x 4607182418800017408 xs A n c _ (H.out.keep HL3.out) HP.out HN.out H1.out HQ1.out).mono ?_); (rintro e w4 ⟨⟨Hi, k1, hF1, hX1, rfl⟩, hL⟩; have HL4 := Lib.hid (kbt HL3.out hL); have HHi : Hid (Hi = (srt xs)[n - 1]?.getD 0) := Lib.hid (by rw [hX1, from_one HP.out HN.out hF1]); clear hL hX1 hF1)))
  go_loop [18, 19, 20, 21] (fun up be is i => ∃ i' : Nat, i' ≤ n ∧ i = .int .i64 i' ∧ up = .int .i64 (cnt (xs.take i') X : Int) ∧ be = .int .i64 (cnt (xs.take i') (X - 1) : Int) ∧ is = .bool ((xs.take i').any (· == X)) ∧ cnt (xs.take i') X ≤ i' ∧ cnt (xs.take i') (X - 1) ≤ i') (fun _ _ _ i => n - (intOf i).toNat)
  case atStart => exact ⟨0, Nat.zero_le _, rfl, by simp [cnt], by simp [cnt], by simp, by simp [cnt], by simp [cnt]⟩
  case round =>
    obtain ⟨i, hi, rfl, rfl, rfl, rfl, hc1, hc2⟩ := hrel
    by_cases hlt : i < n
    · obtain ⟨ad, x, rfl, hx, hc⟩ := (H.out.keep HL4.out).at_ hlt
      have hends := srt_ends HLn.out hx
      rw [← HLo.out, ← HHi.out] at hends
      obtain ⟨en1, en2⟩ := hends
      have HC1 := Lib.hid (cnt_snoc X hx)
      have HC2 := Lib.hid (cnt_snoc (X - 1) hx)
      have HAN : Hid ((xs.take (i + 1)).any (· == X) = ((xs.take i).any (· == X) || x == X)) := Lib.hid (by rw [take_snoc xs i x hx, List.any_append]; simp)
      clear hx
      obtain ⟨b, hbb⟩ : ∃ b, b = (xs.take i).any (· == X) := ⟨_, rfl⟩
      rw [← hbb] at HAN
      rw [← hbb]
      obtain ⟨m1, hm1⟩ : ∃ m, m = cnt (xs.take i) X := ⟨_, rfl⟩
      obtain ⟨m2, hm2⟩ : ∃ m, m = cnt (xs.take i) (X - 1) := ⟨_, rfl⟩
      rw [← hm1] at HC1 hc1 ⊢
      rw [← hm2] at HC2 hc2 ⊢
      clear hbb hm1 hm2
      rcases Int.lt_trichotomy x X with hc3 | hc3 | hc3
      · have he : (x == X) = false := by simp; omega
        rw [if_pos (by omega)] at HC1 HC2
        rw [he, Bool.or_false] at HAN
        cases b <;>
        · go_wp2
          go_round
          case rel => exact ⟨i + 1, by omega, by go_num, by rw [HC1.out]; go_num, by rw [HC2.out]; go_num, by rw [HAN.out], by rw [HC1.out]; omega, by rw [HC2.out]; omega⟩
          case measure => simp [intOf]; omega
      · subst hc3
        rw [if_pos (by omega)] at HC1
        rw [if_neg (by omega)] at HC2
        have he : (x == x) = true := by simp
        rw [he, Bool.or_true] at HAN
        cases b <;>
        · go_wp2
          go_round
          case rel => exact ⟨i + 1, by omega, by go_num, by rw [HC1.out]; go_num, by rw [HC2.out]; go_num, by rw [HAN.out], by rw [HC1.out]; omega, by rw [HC2.out]; omega⟩
          case measure => simp [intOf]; omega
      · have he : (x == X) = false := by simp; omega
        rw [if_neg (by omega)] at HC1 HC2
        rw [he, Bool.or_false] at HAN
        cases b <;>
        · go_wp2
          go_round
          case rel => exact ⟨i + 1, by omega, by go_num, by rw [HC1.out]; go_num, by rw [HC2.out]; go_num, by rw [HAN.out], by rw [HC1.out]; omega, by rw [HC2.out]; omega⟩
          case measure => simp [intOf]; omega
    · obtain rfl : i = n := by omega
      have ht : xs.take i = xs := List.take_of_length_le (by have := HLn.out; omega)
      rw [ht] at hc1 hc2 ⊢
      have qi := quant_is HLn.out HP.out HN.out HS.out HQs.out HF.out
      have bf := below_few HLn.out HP.out HN.out HS.out HQs.out HF.out
      rw [← HX.out] at qi bf
      have hany : xs.any (· == X) = true := List.any_eq_true.2 ⟨X, qi.1, by simp⟩
      rw [hany]
      have hgd : (FloatKind.f64.format.order (floatOfInt .f64 (cnt xs X : Int)) (want s i) == some .gt || FloatKind.f64.format.order (floatOfInt .f64 (cnt xs X : Int)) (want s i) == some .eq) = true := by
        have := qi.2.1
        unfold good geF at this
        rw [HLn.out] at this
        exact this
      obtain ⟨m1, hm1⟩ : ∃ m, m = cnt xs X := ⟨_, rfl⟩
      obtain ⟨m2, hm2⟩ : ∃ m, m = cnt xs (X - 1) := ⟨_, rfl⟩
      rw [← hm1] at hgd hc1 ⊢
      rw [← hm2] at bf hc2 ⊢
      clear hm1 hm2 hany qi ht hlt
      by_cases hz : m2 = 0
      · subst hz
        clear bf
        go_wp2_with (first | (go_at_call 12; (with_reducible refine (lives_c _).mono ?_); (rintro e w9 ⟨rfl, hL⟩; have HL9 := Lib.hid (kbt HL4.out hL); clear hL)))
        go_ret
        exact ⟨rfl, HL9.out⟩
      · have hz2 : ((m2 : Int) == 0) = false := by simp; omega
        have hlt2 : (FloatKind.f64.format.order (floatOfInt .f64 (m2 : Int)) (want s i) == some .lt) = true := bf (by omega)
        clear bf hz
        go_wp2_with (first | (go_at_call 12; (with_reducible refine (lives_c _).mono ?_); (rintro e w9 ⟨rfl, hL⟩; have HL9 := Lib.hid (kbt HL4.out hL); clear hL)))
        go_ret
        exact ⟨rfl, HL9.out⟩
theorem walk (sI tI : Int) (xs : List Int) (A : Option Addr) (n c : Nat) (w : World) (ws : (Lit.int .u64 sI).wf = true) (wt : (Lit.int .u64 tI).wf = true) (h : Ints w .i64 A n xs) (hcap : n ≤ c) (hb : n ≤ 17592186044416) :
    Calls Try.prog 6 #[.int .u64 sI, .int .u64 tI, .slice A n c] w fun e w' => e = .returned (.bool true) ∧ Below w.heap.size w w' := by
  obtain ⟨s, rfl, hs⟩ := u64_nat ws
  obtain ⟨t, rfl, ht⟩ := u64_nat wt
  rcases Nat.eq_zero_or_pos n with hn | hp
  · exact steps_0 s t xs A n c w hs ht h hb (by omega)
  · rcases share_cases s with ⟨s1, s2, sq⟩ | ⟨s1, sq⟩ | ⟨s1, s2, sq⟩ <;> rcases share_cases t with ⟨t1, t2, tq⟩ | ⟨t1, tq⟩ | ⟨t1, t2, tq⟩
    · exact (by
      cases d1 : (FloatKind.f64.format.order s t == some .lt || FloatKind.f64.format.order s t == some .eq) <;> cases d2 : (FloatKind.f64.format.order t s == some .lt || FloatKind.f64.format.order t s == some .eq)
      · exact steps_ok_ff s t xs A n c w hs ht h hb hp s1 s2 sq t1 t2 tq d1 d2
      · exact steps_ok_ft s t xs A n c w hs ht h hb hp s1 s2 sq t1 t2 tq d1 d2
      · exact steps_ok_tf s t xs A n c w hs ht h hb hp s1 s2 sq t1 t2 tq d1 d2
      · exact steps_ok_tt s t xs A n c w hs ht h hb hp s1 s2 sq t1 t2 tq d1 d2)
    · exact steps_okb0 s t xs A n c w hs ht h hb hp s1 s2 sq t1 tq
    · exact steps_okb1 s t xs A n c w hs ht h hb hp s1 s2 sq t1 t2 tq
    · exact steps_b0ok s t xs A n c w hs ht h hb hp s1 sq t1 t2 tq
    · exact steps_b0b0 s t xs A n c w hs ht h hb hp s1 sq t1 tq
    · exact steps_b0b1 s t xs A n c w hs ht h hb hp s1 sq t1 t2 tq
    · exact steps_b1ok s t xs A n c w hs ht h hb hp s1 s2 sq t1 t2 tq
    · exact steps_b1b0 s t xs A n c w hs ht h hb hp s1 s2 sq t1 tq
    · exact steps_b1b1 s t xs A n c w hs ht h hb hp s1 s2 sq t1 t2 tq
end Go.Proofs.Ytmpjcjgdjimioaa.SSteps
