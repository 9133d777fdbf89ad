/- Contracts of Price and of the document's Price; the law FarePrices. -/
import Derived.Test.YtfehdajjnbehdaaMulW
import Derived.Test.YtfehdajjnbehdaaRound
import Derived.Test.YtfehdajjnbehdaaDist
import Derived.Test.YtfehdajjnbehdaaSums
import Derived.Test.YtfehdajjnbehdaaKeep
import Derived.Test.YtfehdajjnbehdaaTypes
import Derived.Deep.RegionHeld3
namespace Go.Proofs.Ytfehdajjnbehdaa.Price
open Go.RowKit Go.Proofs.Ytfehdajjnbehdaa.Aid Go.Proofs.Ytfehdajjnbehdaa.Fl Go.Proofs.Ytfehdajjnbehdaa.Mem Go.Proofs.Ytfehdajjnbehdaa.Round Go.Proofs.Ytfehdajjnbehdaa.Dist Go.Proofs.Ytfehdajjnbehdaa.Sums Go.Proofs.Ytfehdajjnbehdaa.Nums Go.Proofs.Ytfehdajjnbehdaa.Keep Go.Proofs.Ytfehdajjnbehdaa.Types
open Ieee (double Toward Format)
set_option linter.unusedSimpArgs false
set_option linter.unusedVariables false
/-- What a ride costs at the surge 1. -/
def baseN (r : Req) : Int := 250 + 10 * dst r.fx r.fy r.tx r.ty + 100 * (r.seats - 1)
def Good (r : Req) (s : Bool) (k : Nat) : Prop := 0 < r.seats ∧ s = false ∧ 4607182418800017408 ≤ k ∧ k ≤ 4613937818241073152
/-- What Price tells. -/
def Pr (r : Req) (s : Bool) (k : Nat) (v e : Int) : Prop := (¬ Good r s k ∧ v = 0 ∧ e = 1) ∨ (Good r s k ∧ ∃ p, double.mul (floatOfInt .f64 (baseN r)) (double.word false k) = some (double.word false p) ∧ p ≤ 9218868437227405312 ∧ v = rdV false p ∧ e = rdE p)
structure Rq (r : Req) : Prop where
  fx : S16 r.fx
  fy : S16 r.fy
  tx : S16 r.tx
  ty : S16 r.ty
  seats : 0 ≤ r.seats ∧ r.seats ≤ 255
theorem wf16 {a : Int} (h : (Lit.int .i16 a).wf = true) : S16 a := by
  simp only [Lit.wf, IntKind.min, IntKind.max, IntKind.signed, IntKind.bits, Bool.and_eq_true, decide_eq_true_eq, if_true] at h
  unfold S16; omega
theorem wf8 {a : Int} (h : (Lit.int .u8 a).wf = true) : 0 ≤ a ∧ a ≤ 255 := by
  simp only [Lit.wf, IntKind.min, IntKind.max, IntKind.signed, IntKind.bits, Bool.and_eq_true, decide_eq_true_eq] at h
  simpa using h
theorem Rq.of {r : Req} (h : r.wf) : Rq r := ⟨wf16 h.fx, wf16 h.fy, wf16 h.tx, wf16 h.ty, wf8 h.seats⟩
theorem dst_bound {a b c d : Int} (ha : S16 a) (hb : S16 b) (hc : S16 c) (hd : S16 d) : 0 ≤ dst a b c d ∧ dst a b c d ≤ 131070 := by
  unfold S16 at *; unfold dst; omega
theorem base_bound {r : Req} (h : Rq r) (h0 : 0 < r.seats) : 250 ≤ baseN r ∧ baseN r ≤ 1336350 := by
  have := dst_bound h.fx h.fy h.tx h.ty
  have := h.seats
  unfold baseN; omega
theorem pr_any (r : Req) (s : Bool) (k : Nat) (h : Rq r) : ∃ v e, Pr r s k v e := by
  by_cases hg : Good r s k
  · obtain ⟨h0, _, h1, h2⟩ := id hg
    obtain ⟨b1, b2⟩ := base_bound h h0
    obtain ⟨q, e1, e2⟩ := int_isN (baseN r)
    obtain ⟨hq, _⟩ := int_rung e2 (by omega)
    rw [decide_eq_false (by omega)] at e1
    obtain ⟨p, e3, e4⟩ := mul_word false false q k (by omega) (by omega)
    exact ⟨_, _, .inr ⟨hg, p, by rw [e1]; exact e3, e4.le, rfl, rfl⟩⟩
  · exact ⟨0, 1, .inl ⟨hg, rfl, rfl⟩⟩
theorem sum_good {x y z : Int} (hx : 0 ≤ x ∧ x ≤ 1152921504606846976) (hy : 0 ≤ y ∧ y ≤ 1152921504606846976) (hz : 0 ≤ z ∧ z ≤ 1152921504606846976) : sumB [x, y, z] = true ∧ sumV [x, y, z] = x + y + z := by
  have ht : tot [x, y, z] = x + y + z := by simp [tot] <;> omega
  have h1 : sumB [x, y, z] = true := by
    unfold sumB
    rw [ht, isN_t (by omega)]
    simp [isN_t (show -4611686018427387903 ≤ x ∧ x ≤ 4611686018427387903 by omega), isN_t (show -4611686018427387903 ≤ y ∧ y ≤ 4611686018427387903 by omega), isN_t (show -4611686018427387903 ≤ z ∧ z ≤ 4611686018427387903 by omega)]
  exact ⟨h1, by unfold sumV; rw [if_pos h1, ht]⟩
theorem ints3 (w : World) (x y z : Int) : Ints (w.alloc (.cells #[.int .i64 x, .int .i64 y, .int .i64 z] 3)) .i64 (some ⟨w.heap.size, 0, none⟩) 3 [x, y, z] :=
  Ints.of_blk (Blk.new w 3 [.int .i64 x, .int .i64 y, .int .i64 z]) (by intro j u hu; match j with | 0 => simpa using hu | 1 => simpa using hu | 2 => simpa using hu | j + 3 => simp at hu)
theorem i64_in {n : Int} (h : -9223372036854775808 ≤ n) (h' : n ≤ 9223372036854775807) : IntKind.i64.wrap n = n := by
  have e : IntKind.i64.wrap n = if n % 18446744073709551616 ≥ 9223372036854775808 then n % 18446744073709551616 - 18446744073709551616 else n % 18446744073709551616 := by simp [IntKind.wrap, IntKind.signed, IntKind.bits]
  rw [e]
  split <;> omega
theorem ints3g (w : World) (G : Nat) (hG : w.heap.size = G) (x y z : Int) : Ints (w.alloc (.cells #[.int .i64 x, .int .i64 y, .int .i64 z] 3)) .i64 (some ⟨G, 0, none⟩) 3 [x, y, z] := by
  subst hG; exact ints3 w x y z
theorem sum_v (x y z v : Int) (A : Option Addr) (n : Nat) (w : World) (h : Ints w .i64 A 3 [x, y, z]) (hv : Hid (sumB [x, y, z] = true ∧ sumV [x, y, z] = v)) : Calls Try.prog 28 #[.slice A 3 n] w fun e w' => e = .returned (.tuple #[.int .i64 v, .bool true]) ∧ w = w' := by
  obtain ⟨h1, h2⟩ := hv.out
  have := sum_c [x, y, z] A 3 n w h (by decide)
  rwa [h1, h2] at this
theorem dist_v (a b c d D : Int) (w : World) (ha : S16 a) (hb : S16 b) (hc : S16 c) (hd : S16 d) (h : Hid (dst a b c d = D)) : Calls Try.prog 29 #[.agg #[.int .i16 a, .int .i16 b], .agg #[.int .i16 c, .int .i16 d]] w fun e w' => e = .returned (.int .i64 D) ∧ ∃ o1 o2 n, w' = ((w.alloc o1).alloc o2).drewN n := by
  obtain rfl := h.out
  exact dist_c a b c d w ha hb hc hd
theorem refdist_v (a b c d D : Int) (w : World) (ha : S16 a) (hb : S16 b) (hc : S16 c) (hd : S16 d) (h : Hid (dst a b c d = D)) : Calls Try.prog 30 #[.agg #[.int .i16 a, .int .i16 b], .agg #[.int .i16 c, .int .i16 d]] w fun e w' => e = .returned (.int .i64 D) ∧ ∃ o1 o2 n, w' = ((w.alloc o1).alloc o2).drewN n := by
  obtain rfl := h.out
  exact refDist_c a b c d w ha hb hc hd
/-- The tests on the surge. -/
theorem surge_tests (s : Bool) (k : Nat) (hk : k ≤ 9218868437227405312) :
    ((FloatKind.f64.format.order (double.word s k) 4607182418800017408 == some .lt) = !decide (s = false ∧ 4607182418800017408 ≤ k)) ∧
    ((FloatKind.f64.format.order (double.word s k) 4613937818241073152 == some .gt) = decide (s = false ∧ 4613937818241073152 < k)) ∧
    ((FloatKind.f64.format.order (double.word s k) 4607182418800017408 == some .gt || FloatKind.f64.format.order (double.word s k) 4607182418800017408 == some .eq) = decide (s = false ∧ 4607182418800017408 ≤ k)) ∧
    ((FloatKind.f64.format.order (double.word s k) 4613937818241073152 == some .lt || FloatKind.f64.format.order (double.word s k) 4613937818241073152 == some .eq) = !decide (s = false ∧ 4613937818241073152 < k)) := by
  have o1 := ordc s k 4607182418800017408 hk (by decide)
  have o2 := ordc s k 4613937818241073152 hk (by decide)
  have v1 : V 4607182418800017408 ≤ V k ↔ 4607182418800017408 ≤ k := ⟨fun h => Nat.le_of_not_lt fun h' => by have := V_lt h'; omega, V_le⟩
  have v2 : V 4613937818241073152 < V k ↔ 4613937818241073152 < k := V_lt_iff
  have p1 : 0 < V 4607182418800017408 := V_pos (by decide)
  have p2 : 0 < V 4613937818241073152 := V_pos (by decide)
  rw [o1, o2]
  clear o1 o2
  generalize V 4607182418800017408 = A at *
  generalize V 4613937818241073152 = B at *
  cases s
  · rw [sv_f]
    by_cases h1 : 4607182418800017408 ≤ k <;> by_cases h2 : 4613937818241073152 < k <;> simp only [h1, h2, and_self, and_true, true_and, decide_true, decide_false, Bool.not_true, Bool.not_false, and_false] <;> refine ⟨?_, ?_, ?_, ?_⟩ <;> (repeat' split) <;> first | rfl | omega
  · rw [sv_t]
    simp only [Bool.true_eq_false, false_and, decide_false, Bool.not_false]
    refine ⟨?_, ?_, ?_, ?_⟩ <;> (repeat' split) <;> first | rfl | omega
theorem refl_eq (s : Bool) (k : Nat) (hk : k ≤ 9218868437227405312) : FloatKind.f64.format.order (double.word s k) (double.word s k) = some .eq := by
  have := ord s s k k hk hk
  rw [if_neg (by omega), if_pos rfl] at this
  exact this
attribute [local go_sem ↓] Keep.load_req
set_option maxHeartbeats 40000000 in
set_option maxRecDepth 100000 in
theorem price_c (r : Req) (s : Bool) (k : Nat) (v e : Int) (w : World) (hr : Rq r) (hk : k < 9223372036854775808) (h : Pr r s k v e) : Calls Try.prog 14 #[r.val, .float .f64 (double.word s k)] w fun x w' => x = .returned (.tuple #[.int .i64 v, .int .i64 e]) ∧ Below w.heap.size w w' := by
  obtain ⟨t1, t2⟩ := hr.seats
  rcases h with ⟨hg, rfl, rfl⟩ | ⟨⟨hg1, rfl, hg2, hg3⟩, p, hm, hp, rfl, rfl⟩
  · unfold Good at hg
    by_cases h0 : r.seats ≤ 0
    · clear hg
      go_enter Try.func14, Try.ntmps14
      go_wp2
      go_ret2
      exact ⟨rfl, alloc_below _ _⟩
    · have h0' : 0 < r.seats := by omega
      by_cases hn : 9218868437227405312 < k
      · clear hg
        go_enter Try.func14, Try.ntmps14
        go_wp2_with (first | (go_at_call 23; (with_reducible refine (isnan_v s k _ hk true (decide_eq_true hn)).mono ?_); rintro e w' ⟨rfl, rfl⟩))
        go_ret2
        exact ⟨rfl, alloc_below _ _⟩
      · obtain ⟨c1, c2, _, _⟩ := surge_tests s k (by omega)
        by_cases h1 : s = false ∧ 4607182418800017408 ≤ k
        · have h2 : s = false ∧ 4613937818241073152 < k := ⟨h1.1, Nat.lt_of_not_le fun h => hg ⟨h0', h1.1, h1.2, h⟩⟩
          rw [decide_eq_true h1] at c1
          rw [decide_eq_true h2] at c2
          simp only [Bool.not_true] at c1
          clear hg h1 h2
          go_enter Try.func14, Try.ntmps14
          go_wp2_with (first | (go_at_call 23; (with_reducible refine (isnan_v s k _ hk false (decide_eq_false hn)).mono ?_); rintro e w' ⟨rfl, rfl⟩))
          go_ret2
          exact ⟨rfl, alloc_below _ _⟩
        · rw [decide_eq_false h1] at c1
          simp only [Bool.not_false] at c1
          clear hg h1 c2
          go_enter Try.func14, Try.ntmps14
          go_wp2_with (first | (go_at_call 23; (with_reducible refine (isnan_v s k _ hk false (decide_eq_false hn)).mono ?_); rintro e w' ⟨rfl, rfl⟩))
          go_ret2
          exact ⟨rfl, alloc_below _ _⟩
  · have hn : ¬ 9218868437227405312 < k := by omega
    obtain ⟨c1, c2, _, _⟩ := surge_tests false k (by omega)
    rw [decide_eq_true ⟨rfl, hg2⟩] at c1
    rw [decide_eq_false (fun h => by omega)] at c2
    simp only [Bool.not_true] at c1
    obtain ⟨D, hD⟩ : ∃ D, dst r.fx r.fy r.tx r.ty = D := ⟨_, rfl⟩
    have hDb := dst_bound hr.fx hr.fy hr.tx hr.ty
    have hS := sum_good (x := 250) (y := 10 * D) (z := 100 * (r.seats - 1)) (by omega) (by rw [hD] at hDb; omega) (by omega)
    have hbN : baseN r = 250 + 10 * D + 100 * (r.seats - 1) := by unfold baseN; rw [hD]
    rw [← hbN] at hS
    have g0 : IntKind.i64.wrap r.seats = r.seats := i64_in (by omega) (by omega)
    have g1 : IntKind.i64.wrap (r.seats - 1) = r.seats - 1 := i64_in (by omega) (by omega)
    have g2 : IntKind.i64.wrap (100 * (r.seats - 1)) = 100 * (r.seats - 1) := i64_in (by omega) (by omega)
    have g3 : IntKind.i64.wrap (10 * D) = 10 * D := i64_in (by rw [hD] at hDb; omega) (by rw [hD] at hDb; omega)
    have hS2 : sumB [250, IntKind.i64.wrap (10 * D), IntKind.i64.wrap (100 * IntKind.i64.wrap (IntKind.i64.wrap r.seats - 1))] = true ∧ sumV [250, IntKind.i64.wrap (10 * D), IntKind.i64.wrap (100 * IntKind.i64.wrap (IntKind.i64.wrap r.seats - 1))] = baseN r := by
      rw [g0, g1, g2, g3]; exact hS
    rw [hD] at hDb
    obtain ⟨d1, d2⟩ := hDb
    have HD := Lib.hid hD
    have HS := Lib.hid hS2
    have hmul : ∀ t w, (binOp .mul t (.float .f64 (floatOfInt .f64 (baseN r))) (.float .f64 (double.word false k))).run Try.prog w = .ok (.float .f64 (double.word false p)) w := fun t w => run_float_arith w .mul t .f64 _ _ _ hm
    have f1 := hr.fx
    have f2 := hr.fy
    have f3 := hr.tx
    have f4 := hr.ty
    clear hD hS hS2 g0 g1 g2 g3 hbN hm hg2 hg3
    go_enter Try.func14, Try.ntmps14
    go_wp2_with (first | (go_at_call 23; (with_reducible refine (isnan_v false k _ hk false (decide_eq_false hn)).mono ?_); rintro e w' ⟨rfl, rfl⟩))
    go_region_held3 (fun w' => w'.cell? ⟨w.heap.size, 8, none⟩ = some (.int .i16 r.fx) ∧ w'.cell? ⟨w.heap.size, 9, none⟩ = some (.int .i16 r.fy) ∧ w'.cell? ⟨w.heap.size, 10, none⟩ = some (.int .i16 r.tx) ∧ w'.cell? ⟨w.heap.size, 11, none⟩ = some (.int .i16 r.ty) ∧ w'.cell? ⟨w.heap.size, 12, none⟩ = some (.int .u8 r.seats)) (simp [go_sem, World.cell?_alloc_past]) (first | (go_at_call 29; with_reducible refine (dist_v _ _ _ _ D _ f1 f2 f3 f4 HD).mono ?_; rintro e w' ⟨rfl, o1, o2, n, rfl⟩) | (go_at_call 28; with_reducible refine (sum_v _ _ _ _ _ _ _ (ints3g _ _ (by simp) _ _ _) HS).mono ?_; rintro e w' ⟨rfl, rfl⟩))
    go_wp2_with (first | (go_at_call 12; (with_reducible refine (round_c false p _ (by omega)).mono ?_); rintro e w' ⟨rfl, rfl⟩))
    go_ret2
    exact ⟨rfl, (below_drewN (((alloc_below _ _).alloc (by simp) _).alloc (by simp; omega) _) _).alloc (by simp; omega) _⟩
set_option maxHeartbeats 40000000 in
set_option maxRecDepth 100000 in
theorem refprice_c (r : Req) (s : Bool) (k : Nat) (v e : Int) (w : World) (hr : Rq r) (hk : k < 9223372036854775808) (h : Pr r s k v e) : Calls Try.prog 15 #[r.val, .float .f64 (double.word s k)] w fun x w' => x = .returned (.tuple #[.int .i64 v, .int .i64 e]) ∧ Below w.heap.size w w' := by
  obtain ⟨t1, t2⟩ := hr.seats
  rcases h with ⟨hg, rfl, rfl⟩ | ⟨⟨hg1, rfl, hg2, hg3⟩, p, hm, hp, rfl, rfl⟩
  · unfold Good at hg
    by_cases h0 : r.seats ≤ 0
    · clear hg
      go_enter Try.func15, Try.ntmps15
      go_wp2
      go_ret2
      exact ⟨rfl, alloc_below _ _⟩
    · have h0' : 0 < r.seats := by omega
      by_cases hn : 9218868437227405312 < k
      · have o1 : FloatKind.f64.format.order (double.word s k) 4607182418800017408 = none := ord_nan s k _ hn hk
        have c1 : (FloatKind.f64.format.order (double.word s k) 4607182418800017408 == some .gt || FloatKind.f64.format.order (double.word s k) 4607182418800017408 == some .eq) = false := by rw [o1]; rfl
        clear hg o1
        go_enter Try.func15, Try.ntmps15
        go_wp2
        go_ret2
        exact ⟨rfl, alloc_below _ _⟩
      · obtain ⟨_, _, c1, c2⟩ := surge_tests s k (by omega)
        by_cases h1 : s = false ∧ 4607182418800017408 ≤ k
        · have h2 : s = false ∧ 4613937818241073152 < k := ⟨h1.1, Nat.lt_of_not_le fun h => hg ⟨h0', h1.1, h1.2, h⟩⟩
          rw [decide_eq_true h1] at c1
          rw [decide_eq_true h2] at c2
          simp only [Bool.not_true] at c2
          clear hg h1 h2
          go_enter Try.func15, Try.ntmps15
          go_wp2
          go_ret2
          exact ⟨rfl, alloc_below _ _⟩
        · rw [decide_eq_false h1] at c1
          clear hg h1 c2
          go_enter Try.func15, Try.ntmps15
          go_wp2
          go_ret2
          exact ⟨rfl, alloc_below _ _⟩
  · obtain ⟨_, _, c1, c2⟩ := surge_tests false k (by omega)
    rw [decide_eq_true ⟨rfl, hg2⟩] at c1
    rw [decide_eq_false (fun h => by omega)] at c2
    simp only [Bool.not_false] at c2
    obtain ⟨D, hD⟩ : ∃ D, dst r.fx r.fy r.tx r.ty = D := ⟨_, rfl⟩
    have hDb := dst_bound hr.fx hr.fy hr.tx hr.ty
    rw [hD] at hDb
    obtain ⟨d1, d2⟩ := hDb
    have hbN : 250 + 10 * D + 100 * (r.seats - 1) = baseN r := by unfold baseN; rw [hD]
    have HD := Lib.hid hD
    have HN := Lib.hid hbN
    have hmul : ∀ t w, (binOp .mul t (.float .f64 (floatOfInt .f64 (250 + 10 * D + 100 * (r.seats - 1)))) (.float .f64 (double.word false k))).run Try.prog w = .ok (.float .f64 (double.word false p)) w := fun t w => run_float_arith w .mul t .f64 _ _ _ (by rw [hbN]; exact hm)
    have f1 := hr.fx
    have f2 := hr.fy
    have f3 := hr.tx
    have f4 := hr.ty
    clear hD hbN hm hg2 hg3
    go_enter Try.func15, Try.ntmps15
    go_wp2
    go_region_held3 (fun w' => w'.cell? ⟨w.heap.size, 8, none⟩ = some (.int .i16 r.fx) ∧ w'.cell? ⟨w.heap.size, 9, none⟩ = some (.int .i16 r.fy) ∧ w'.cell? ⟨w.heap.size, 10, none⟩ = some (.int .i16 r.tx) ∧ w'.cell? ⟨w.heap.size, 11, none⟩ = some (.int .i16 r.ty) ∧ w'.cell? ⟨w.heap.size, 12, none⟩ = some (.int .u8 r.seats)) (simp [go_sem, World.cell?_alloc_past]) (first | (go_at_call 30; with_reducible refine (refdist_v _ _ _ _ D _ f1 f2 f3 f4 HD).mono ?_; rintro e w' ⟨rfl, o1, o2, n, rfl⟩))
    go_wp2_with (first | (go_at_call 13; (with_reducible refine (refround_c false p _ (by omega)).mono ?_); rintro e w' ⟨rfl, nd, rfl⟩))
    go_ret2
    exact ⟨rfl, below_drewN (((alloc_below _ _).alloc (by simp) _).alloc (by simp; omega) _) _⟩
theorem lr_blk (r : Req) {W : World} {b : Nat} (h : Blk W b 36 [.int .u8 r.i0, .int .u8 r.i1, .int .u8 r.i2, .int .u8 r.i3, .int .u8 r.i4, .int .u8 r.i5, .int .u8 r.i6, .int .u8 r.i7, .int .i16 r.fx, .int .i16 r.fy, .int .i16 r.tx, .int .i16 r.ty, .int .u8 r.seats, .int .u8 r.classes, .int .i64 r.base, .int .i64 r.ttl]) : (LA 36 (.pointer (some ⟨b, 0, none⟩))).run Try.prog W = .ok r.val W :=
  loads_box Try.underlying36 rfl (by show _ = some 16; kernel_rfl) (fun i => by rw [h.cell]; simp)
theorem prices (r : Req) (x : Nat) (w : World) (wr : r.wf) (hx : (Lit.float .f64 x).wf = true) : Calls Try.prog 5 #[r.val, .float .f64 x] w fun e w' => e = .returned (.bool true) ∧ Below w.heap.size w w' := by
  obtain ⟨s, k, rfl, hk⟩ := word_of x (wf_lt hx)
  have hr := Rq.of wr
  obtain ⟨v, e, h⟩ := pr_any r s k hr
  have H := Lib.hid h
  have b := Blk.new w 36 [.int .u8 r.i0, .int .u8 r.i1, .int .u8 r.i2, .int .u8 r.i3, .int .u8 r.i4, .int .u8 r.i5, .int .u8 r.i6, .int .u8 r.i7, .int .i16 r.fx, .int .i16 r.fy, .int .i16 r.tx, .int .i16 r.ty, .int .u8 r.seats, .int .u8 r.classes, .int .i64 r.base, .int .i64 r.ttl]
  have lr := lr_blk r b
  have HB := Lib.hid b
  clear h b
  go_enter Try.func5, Try.ntmps5
  go_wp2_with (first | (go_at_call 14; (with_reducible refine (price_c r s k v e _ hr hk H.out).mono ?_); rintro e1 w1 ⟨rfl, hb⟩; replace lr := lr_blk r (HB.out.keep hb); have HB1 := Lib.hid (kbt (alloc_below _ _) hb); clear hb) | (go_at_call 15; (with_reducible refine (refprice_c r s k v e _ hr hk H.out).mono ?_); rintro e2 w2 ⟨rfl, hb⟩; have HB2 := Lib.hid (kbt HB1.out hb); clear hb))
  go_ret
  exact ⟨by simp, HB2.out⟩
end Go.Proofs.Ytfehdajjnbehdaa.Price
