/- The steps of a mean always come to a float that is no NaN; the document's mean: its contracts. -/
import Derived.Test.YthcjkdmlaahpbaaSmooth
import Derived.Test.YthcjkdmlaahpbaaMulW
namespace Go.Proofs.Ythcjkdmlaahpbaa.Smooth
open Go.RowKit Go.Proofs.Ythcjkdmlaahpbaa.Aid Go.Proofs.Ythcjkdmlaahpbaa.Fl Go.Proofs.Ythcjkdmlaahpbaa.Mem Go.Proofs.Ythcjkdmlaahpbaa.Keep Go.Proofs.Ythcjkdmlaahpbaa.Round
open Ieee (double Toward Format)
set_option linter.unusedSimpArgs false
set_option linter.unusedVariables false
set_option maxRecDepth 100000
attribute [local go_sem] run_store_float
theorem write_inf (g : Bool) : double.write (.infinity g) = double.word g 9218868437227405312 := by cases g <;> decide +kernel
theorem add_inf (s g : Bool) (r : Nat) (hr : r < 9218868437227405312) : double.add (double.word s r) (double.word g 9218868437227405312) = some (double.word g 9218868437227405312) := by
  obtain ⟨m, L, e1, _⟩ := read_num s r hr
  unfold Format.add
  rw [e1, read_inf]
  exact congrArg some (write_inf g)
theorem mul_inf (g : Bool) (r : Nat) (h0 : 0 < r) (hr : r < 9218868437227405312) : double.mul (double.word false r) (double.word g 9218868437227405312) = some (double.word g 9218868437227405312) := by
  obtain ⟨m, L, e1, e2⟩ := read_num false r hr
  have hm : m ≠ 0 := fun h => by
    rw [h, Nat.zero_mul] at e2
    have := V_pos h0
    omega
  unfold Format.mul
  rw [e1, read_inf]
  show Option.map double.write (if m = 0 then none else some (.infinity (g ^^ false))) = _
  rw [if_neg hm, Bool.xor_false]
  exact congrArg some (write_inf g)
/-- The steps exist, and come to no NaN. -/
theorem steps_any (rs : Nat) (gm : Bool) (rm : Nat) (g : Bool) (r : Nat) (h0 : 0 < rs) (h1 : rs < 9218868437227405312) (hm : rm < 9218868437227405312) (hr : r < 9218868437227405312) :
    ∃ d p gn rn, Steps (double.word false rs) (double.word gm rm) (double.word g r) d p (double.word gn rn) ∧ rn ≤ 9218868437227405312 := by
  obtain ⟨gd, rd, a1, a2, _⟩ := sub_word g gm r rm hr hm
  rcases Nat.lt_or_ge rd 9218868437227405312 with hd | hd
  · obtain ⟨rp, b1, b2⟩ := mul_word false gd rs rd h1 hd
    rcases Nat.lt_or_ge rp 9218868437227405312 with hp | hp
    · obtain ⟨gn, rn, c1, c2, _⟩ := add_word gm (false ^^ gd) rm rp hm hp
      exact ⟨_, _, gn, rn, ⟨a1, b1, c1⟩, c2.le⟩
    · obtain rfl : rp = 9218868437227405312 := Nat.le_antisymm b2.le hp
      exact ⟨_, _, _, _, ⟨a1, b1, add_inf gm _ rm hm⟩, Nat.le_refl _⟩
  · obtain rfl : rd = 9218868437227405312 := Nat.le_antisymm a2.le hd
    exact ⟨_, _, _, _, ⟨a1, mul_inf gd rs h0 h1, add_inf gm gd rm hm⟩, Nat.le_refl _⟩
/-- A share that may be, as a word. -/
theorem share_word (x : Nat) (hx : x < 18446744073709551616) (h : shareB x = true) : ∃ rs, x = double.word false rs ∧ 0 < rs ∧ rs < 9218868437227405312 ∧ (FloatKind.f64.format.order x 0 == some .eq) = false := by
  obtain ⟨s, r, rfl, hr⟩ := word_of x hx
  unfold shareB at h
  rw [Bool.and_eq_true] at h
  obtain ⟨h1, h2⟩ := h
  by_cases hn : 9218868437227405312 < r
  · rw [show FloatKind.f64.format.order (double.word s r) 0 = none from ord_nan s r 0 hn hr] at h1
    exact absurd h1 (by decide)
  · have o := ordc s r 0 (by omega) (by decide)
    rw [V_zero] at o
    rw [o] at h1 ⊢
    have hp : (0 : Int) < sv s r := by
      refine Int.not_le.1 fun hc => ?_
      rcases (show sv s r < ((0 : Nat) : Int) ∨ sv s r = ((0 : Nat) : Int) by omega) with h | h
      · rw [if_pos h] at h1; exact absurd h1 (by decide)
      · rw [if_neg (by omega), if_pos h] at h1; exact absurd h1 (by decide)
    have hs : s = false := by
      cases s
      · rfl
      · rw [sv_t] at hp; omega
    subst hs
    rw [sv_f] at hp
    have h0 : 0 < r := by
      rcases Nat.eq_zero_or_pos r with h | h
      · subst h; rw [V_zero] at hp; omega
      · exact h
    refine ⟨r, rfl, h0, ?_, ?_⟩
    · refine Nat.lt_of_not_le fun hc => ?_
      obtain rfl : r = 9218868437227405312 := by omega
      have o1 := ordc false 9218868437227405312 4607182418800017408 (by decide) (by decide)
      have : V 4607182418800017408 < V 9218868437227405312 := V_lt (by decide)
      rw [o1, sv_f, if_neg (by omega), if_neg (by omega)] at h2
      exact absurd h2 (by decide)
    · rw [sv_f, if_neg (by omega), if_neg (by omega)]; rfl
theorem eq_self (g : Bool) (r : Nat) (hr : r ≤ 9218868437227405312) : (FloatKind.f64.format.order (double.word g r) (double.word g r) == some .eq) = true := by
  have := ord g g r r hr hr
  rw [if_neg (by omega), if_pos rfl] at this
  rw [show FloatKind.f64.format.order (double.word g r) (double.word g r) = some .eq from this]; rfl
/-! The document's -/
def SmR (W : World) (s : Nat) (sh mn : Nat) (any : Bool) : Prop := Blk W s 85 [.float .f64 sh, .float .f64 mn, .bool any]
section
variable {W : World} {s sh mn : Nat} {any : Bool}
theorem SmR.c0 (h : SmR W s sh mn any) : W.cell? ⟨s, 0, none⟩ = some (.float .f64 sh) := Blk.cellv h rfl
theorem SmR.c1 (h : SmR W s sh mn any) : W.cell? ⟨s, 1, none⟩ = some (.float .f64 mn) := Blk.cellv h rfl
theorem SmR.c2 (h : SmR W s sh mn any) : W.cell? ⟨s, 2, none⟩ = some (.bool any) := Blk.cellv h rfl
theorem SmR.f (h : SmR W s sh mn any) (i : Nat) : W.frozen? ⟨s, i, none⟩ = false := Blk.free h i
theorem SmR.put (h : SmR W s sh mn any) (x : Nat) : SmR ((W.setCell ⟨s, 1, none⟩ (.float .f64 x)).setCell ⟨s, 2, none⟩ (.bool true)) s sh x true := (Blk.put h 1 (.float .f64 x)).put 2 (.bool true)
end
theorem rnew_no (x : Nat) (W : World) (h : shareB x = false) : Calls Try.prog 16 #[.float .f64 x] W fun e w' => e = .returned (.tuple #[.pointer none, .int .i64 1]) ∧ W = w' := by
  unfold shareB at h
  by_cases h1 : (FloatKind.f64.format.order x 0 == some .gt) = true
  · rw [h1, Bool.true_and] at h
    go_enter Try.func16, Try.ntmps16
    go_wp2
    go_ret2
    exact ⟨rfl, rfl⟩
  · have h1 : (FloatKind.f64.format.order x 0 == some .gt) = false := by simpa using h1
    clear h
    go_enter Try.func16, Try.ntmps16
    go_wp2
    go_ret2
    exact ⟨rfl, rfl⟩
theorem rnew_ok (x : Nat) (W : World) (h : shareB x = true) : Calls Try.prog 16 #[.float .f64 x] W fun e w' => e = .returned (.tuple #[.pointer (some ⟨W.heap.size, 0, none⟩), .int .i64 0]) ∧ SmR w' W.heap.size x 0 false ∧ w'.heap.size = W.heap.size + 1 ∧ Below W.heap.size W w' := by
  unfold shareB at h
  obtain ⟨h1, h2⟩ := Bool.and_eq_true_iff.1 h
  have hB := Lib.hid (Blk.new W 85 [.float .f64 x, .float .f64 0, .bool false])
  clear h
  go_enter Try.func16, Try.ntmps16
  go_wp2
  go_ret2
  exact ⟨rfl, hB.out, by simp, alloc_below _ _⟩
theorem sub_nan (g : Bool) (r : Nat) (h : 9218868437227405312 < r) (hr : r < 9223372036854775808) : double.sub (double.word g r) (double.word g r) = none := by
  unfold Format.sub
  rw [read_nan g r h hr]
  rfl
theorem ends_t (g : Bool) (r : Nat) (W : World) (hr : r < 9218868437227405312) : Calls Try.prog 42 #[.float .f64 (double.word g r)] W fun e w' => e = .returned (.bool true) ∧ W = w' := by
  obtain ⟨g0, e0⟩ := sub_self g r hr
  have hsub : ∀ t w, (binOp .sub t (.float .f64 (double.word g r)) (.float .f64 (double.word g r))).run Try.prog w = .ok (.float .f64 (double.word g0 0)) w := fun t w => run_float_arith w .sub t .f64 _ _ _ e0
  have hz : (FloatKind.f64.format.order (double.word g0 0) 0 == some .eq) = true := by cases g0 <;> decide +kernel
  go_enter Try.func42, Try.ntmps42
  go_wp2
  go_ret
  exact ⟨rfl, rfl⟩
theorem ends_f (g : Bool) (r : Nat) (W : World) (h : 9218868437227405312 ≤ r) (hr : r < 9223372036854775808) : Calls Try.prog 42 #[.float .f64 (double.word g r)] W fun e w' => e = .returned (.bool false) ∧ Dr W w' := by
  have e0 : double.sub (double.word g r) (double.word g r) = none := by
    rcases Nat.lt_or_ge 9218868437227405312 r with h1 | h1
    · exact sub_nan g r h1 hr
    · obtain rfl : r = 9218868437227405312 := by omega
      exact sub_inf g
  have hsub : ∀ t w, (binOp .sub t (.float .f64 (double.word g r)) (.float .f64 (double.word g r))).run Try.prog w = .ok (.float .f64 (nb w (double.word g r) (double.word g r))) w.drew := fun t w => sub_ask t _ _ e0 w
  have hne := nb_neq W (double.word g r) (double.word g r) 0
  have hne' : (FloatKind.f64.format.order (nb W (double.word g r) (double.word g r)) 0 == some .eq) = false := by
    rw [bne_iff_ne] at hne
    simpa using hne
  clear e0 hne
  go_enter Try.func42, Try.ntmps42
  go_wp2
  go_ret
  exact ⟨rfl, Dr.one _⟩
theorem radd_bad (g : Bool) (r : Nat) (h : 9218868437227405312 ≤ r) (hr : r < 9223372036854775808) (W : World) (s : Nat) : Calls Try.prog 35 #[.pointer (some ⟨s, 0, none⟩), .float .f64 (double.word g r)] W fun e w' => e = .returned (.tuple #[.float .f64 0, .int .i64 1]) ∧ Dr W w' := by
  go_enter Try.func35, Try.ntmps35
  go_wp2_with (first | (go_at_call 42; (with_reducible refine (ends_f g r _ h hr).mono ?_); rintro e w' ⟨rfl, nd, rfl⟩))
  go_ret2
  exact ⟨rfl, _, rfl⟩
theorem radd_first (g : Bool) (r : Nat) (hr : r < 9218868437227405312) (W : World) (s sh mn : Nat) (h : SmR W s sh mn false) : Calls Try.prog 35 #[.pointer (some ⟨s, 0, none⟩), .float .f64 (double.word g r)] W fun e w' => e = .returned (.tuple #[.float .f64 (double.word g r), .int .i64 0]) ∧ w' = (W.setCell ⟨s, 1, none⟩ (.float .f64 (double.word g r))).setCell ⟨s, 2, none⟩ (.bool true) := by
  have c0 := h.c0
  have c2 := h.c2
  have c1 := h.c1
  have f1 := h.f 1
  have b2 := Blk.put h 1 (.float .f64 (double.word g r))
  have c3 := b2.cellv (i := 2) rfl
  have f3 := b2.free 2
  clear b2
  go_enter Try.func35, Try.ntmps35
  go_wp2_with (first | (go_at_call 42; (with_reducible refine (ends_t g r _ hr).mono ?_); rintro e w' ⟨rfl, rfl⟩))
  go_ret2
  exact ⟨rfl, rfl⟩
theorem radd_next (g : Bool) (r : Nat) (hr : r < 9218868437227405312) (W : World) (s sh mn d p : Nat) (gm : Bool) (rm : Nat) (hm : rm < 9218868437227405312) (h : SmR W s sh mn true) (hs : Steps sh mn (double.word g r) d p (double.word gm rm)) : Calls Try.prog 35 #[.pointer (some ⟨s, 0, none⟩), .float .f64 (double.word g r)] W fun e w' => e = .returned (.tuple #[.float .f64 (double.word gm rm), .int .i64 0]) ∧ w' = (W.setCell ⟨s, 1, none⟩ (.float .f64 (double.word gm rm))).setCell ⟨s, 2, none⟩ (.bool true) := by
  have c0 := h.c0
  have c2 := h.c2
  have c1 := h.c1
  have f1 := h.f 1
  have b2 := Blk.put h 1 (.float .f64 (double.word gm rm))
  have c3 := b2.cellv (i := 2) rfl
  have f3 := b2.free 2
  have e1 : ∀ t w, (binOp .sub t (.float .f64 (double.word g r)) (.float .f64 mn)).run Try.prog w = .ok (.float .f64 d) w := fun t w => run_float_arith w .sub t .f64 _ _ _ hs.sub
  have e2 : ∀ t w, (binOp .mul t (.float .f64 sh) (.float .f64 d)).run Try.prog w = .ok (.float .f64 p) w := fun t w => run_float_arith w .mul t .f64 _ _ _ hs.mul
  have e3 : ∀ t w, (binOp .add t (.float .f64 mn) (.float .f64 p)).run Try.prog w = .ok (.float .f64 (double.word gm rm)) w := fun t w => run_float_arith w .add t .f64 _ _ _ hs.add
  clear b2
  go_enter Try.func35, Try.ntmps35
  go_wp2_with (first | (go_at_call 42; (with_reducible refine (ends_t g r _ hr).mono ?_); rintro e w' ⟨rfl, rfl⟩) | (go_at_call 42; (with_reducible refine (ends_t gm rm _ hm).mono ?_); rintro e w' ⟨rfl, rfl⟩))
  go_ret2
  exact ⟨rfl, rfl⟩
theorem radd_big (g : Bool) (r : Nat) (hr : r < 9218868437227405312) (W : World) (s sh mn d p : Nat) (gm : Bool) (h : SmR W s sh mn true) (hs : Steps sh mn (double.word g r) d p (double.word gm 9218868437227405312)) : Calls Try.prog 35 #[.pointer (some ⟨s, 0, none⟩), .float .f64 (double.word g r)] W fun e w' => e = .returned (.tuple #[.float .f64 0, .int .i64 3]) ∧ Dr W w' := by
  have c0 := h.c0
  have c2 := h.c2
  have c1 := h.c1
  have e1 : ∀ t w, (binOp .sub t (.float .f64 (double.word g r)) (.float .f64 mn)).run Try.prog w = .ok (.float .f64 d) w := fun t w => run_float_arith w .sub t .f64 _ _ _ hs.sub
  have e2 : ∀ t w, (binOp .mul t (.float .f64 sh) (.float .f64 d)).run Try.prog w = .ok (.float .f64 p) w := fun t w => run_float_arith w .mul t .f64 _ _ _ hs.mul
  have e3 : ∀ t w, (binOp .add t (.float .f64 mn) (.float .f64 p)).run Try.prog w = .ok (.float .f64 (double.word gm 9218868437227405312)) w := fun t w => run_float_arith w .add t .f64 _ _ _ hs.add
  go_enter Try.func35, Try.ntmps35
  go_wp2_with (first | (go_at_call 42; (with_reducible refine (ends_t g r _ hr).mono ?_); rintro e w' ⟨rfl, rfl⟩) | (go_at_call 42; (with_reducible refine (ends_f gm 9218868437227405312 _ (Nat.le_refl _) (by decide)).mono ?_); rintro e w' ⟨rfl, nd, rfl⟩))
  go_ret2
  exact ⟨rfl, _, rfl⟩
end Go.Proofs.Ythcjkdmlaahpbaa.Smooth
