/- Contracts of the mean's NewSmooth, Add, Mean. -/
import Derived.Test.YthcjkdmlaahpbaaNanF
import Derived.Test.YthcjkdmlaahpbaaKeep
import Derived.WalkSpells
import Derived.Deep.QuietTactic
import Derived.BigQuiet
namespace Go.Proofs.Ythcjkdmlaahpbaa.Smooth
open Go.RowKit Go.Proofs.Ythcjkdmlaahpbaa.Aid Go.Proofs.Ythcjkdmlaahpbaa.Fl Go.Proofs.Ythcjkdmlaahpbaa.Mem Go.Proofs.Ythcjkdmlaahpbaa.Keep Go.Proofs.Ythcjkdmlaahpbaa.Round
open Ieee (double Toward Format)
set_option linter.unusedSimpArgs false
set_option linter.unusedVariables false
set_option maxRecDepth 100000
theorem run_store_float (P : Program) (w : World) (a : Addr) (m : Mode) (k : FloatKind) (x : Nat) : (store a (.float k x) m).run P w = stored P w a (.float k x) m := run_store P w a _ m rfl
attribute [local go_sem] run_store_float
/-- A mean in memory. -/
def Smo (W : World) (s : Nat) (sh mn : Nat) (any : Bool) : Prop := Blk W s 73 [.float .f64 sh, .float .f64 mn, .bool any]
/-- May a share be? -/
def shareB (x : Nat) : Bool := (FloatKind.f64.format.order x 0 == some .gt) && (FloatKind.f64.format.order x 4607182418800017408 == some .lt || FloatKind.f64.format.order x 4607182418800017408 == some .eq)
theorem new_no (x : Nat) (W : World) (h : shareB x = false) : Calls Try.prog 15 #[.float .f64 x] W fun e w' => e = .returned (.tuple #[.pointer none, .int .i64 1]) ∧ W = w' := by
  unfold shareB at h
  by_cases h1 : (FloatKind.f64.format.order x 0 == some .gt) = true
  · rw [h1, Bool.true_and] at h
    go_enter Try.func15, Try.ntmps15
    go_wp2
    go_ret2
    exact ⟨rfl, rfl⟩
  · have h1 : (FloatKind.f64.format.order x 0 == some .gt) = false := by simpa using h1
    clear h
    go_enter Try.func15, Try.ntmps15
    go_wp2
    go_ret2
    exact ⟨rfl, rfl⟩
theorem new_ok (x : Nat) (W : World) (h : shareB x = true) : Calls Try.prog 15 #[.float .f64 x] W fun e w' => e = .returned (.tuple #[.pointer (some ⟨W.heap.size, 0, none⟩), .int .i64 0]) ∧ Smo w' W.heap.size x 0 false ∧ w'.heap.size = W.heap.size + 1 ∧ Below W.heap.size W w' := by
  unfold shareB at h
  obtain ⟨h1, h2⟩ := Bool.and_eq_true_iff.1 h
  have hB := Lib.hid (Blk.new W 73 [.float .f64 x, .float .f64 0, .bool false])
  clear h
  go_enter Try.func15, Try.ntmps15
  go_wp2
  go_ret2
  exact ⟨rfl, hB.out, by simp, alloc_below _ _⟩
section
variable {W : World} {s sh mn : Nat} {any : Bool}
theorem Smo.c0 (h : Smo W s sh mn any) : W.cell? ⟨s, 0, none⟩ = some (.float .f64 sh) := Blk.cellv h rfl
theorem Smo.c1 (h : Smo W s sh mn any) : W.cell? ⟨s, 1, none⟩ = some (.float .f64 mn) := Blk.cellv h rfl
theorem Smo.c2 (h : Smo W s sh mn any) : W.cell? ⟨s, 2, none⟩ = some (.bool any) := Blk.cellv h rfl
theorem Smo.f (h : Smo W s sh mn any) (i : Nat) : W.frozen? ⟨s, i, none⟩ = false := Blk.free h i
theorem Smo.put (h : Smo W s sh mn any) (x : Nat) : Smo ((W.setCell ⟨s, 1, none⟩ (.float .f64 x)).setCell ⟨s, 2, none⟩ (.bool true)) s sh x true := (Blk.put h 1 (.float .f64 x)).put 2 (.bool true)
end
theorem mean_nil (W : World) : Calls Try.prog 20 #[.pointer none] W fun e w' => e = .returned (.tuple #[.float .f64 0, .bool false]) ∧ W = w' := by
  go_enter Try.func20, Try.ntmps20
  go_wp2
  go_ret2
  exact ⟨rfl, rfl⟩
theorem mean_f (W : World) (s sh mn : Nat) (h : Smo W s sh mn false) : Calls Try.prog 20 #[.pointer (some ⟨s, 0, none⟩)] W fun e w' => e = .returned (.tuple #[.float .f64 0, .bool false]) ∧ W = w' := by
  have c2 := h.c2
  go_enter Try.func20, Try.ntmps20
  go_wp2
  go_ret2
  exact ⟨rfl, rfl⟩
theorem mean_t (W : World) (s sh mn : Nat) (h : Smo W s sh mn true) : Calls Try.prog 20 #[.pointer (some ⟨s, 0, none⟩)] W fun e w' => e = .returned (.tuple #[.float .f64 mn, .bool true]) ∧ W = w' := by
  have c2 := h.c2
  have c1 := h.c1
  go_enter Try.func20, Try.ntmps20
  go_wp2
  go_ret2
  exact ⟨rfl, rfl⟩
theorem sadd_nil (x : Nat) (W : World) : Calls Try.prog 21 #[.pointer none, .float .f64 x] W fun e w' => e = .returned (.tuple #[.float .f64 0, .int .i64 2]) ∧ W = w' := by
  go_enter Try.func21, Try.ntmps21
  go_wp2
  go_ret2
  exact ⟨rfl, rfl⟩
theorem sadd_zero (x : Nat) (W : World) (s sh mn : Nat) (any : Bool) (h : Smo W s sh mn any) (h0 : (FloatKind.f64.format.order sh 0 == some .eq) = true) : Calls Try.prog 21 #[.pointer (some ⟨s, 0, none⟩), .float .f64 x] W fun e w' => e = .returned (.tuple #[.float .f64 0, .int .i64 2]) ∧ W = w' := by
  have c0 := h.c0
  go_enter Try.func21, Try.ntmps21
  go_wp2
  go_ret2
  exact ⟨rfl, rfl⟩
theorem sadd_nan (g : Bool) (r : Nat) (hr : r < 9223372036854775808) (hx : 9218868437227405312 < r) (W : World) (s sh mn : Nat) (any : Bool) (h : Smo W s sh mn any) (h0 : (FloatKind.f64.format.order sh 0 == some .eq) = false) : Calls Try.prog 21 #[.pointer (some ⟨s, 0, none⟩), .float .f64 (double.word g r)] W fun e w' => e = .returned (.tuple #[.float .f64 0, .int .i64 1]) ∧ W = w' := by
  have c0 := h.c0
  go_enter Try.func21, Try.ntmps21
  go_wp2_with (first | (go_at_call 36; (with_reducible refine (isnan_v g r _ hr true (decide_eq_true hx)).mono ?_); rintro e w' ⟨rfl, rfl⟩))
  go_ret2
  exact ⟨rfl, rfl⟩
theorem sadd_inf (g : Bool) (W : World) (s sh mn : Nat) (any : Bool) (h : Smo W s sh mn any) (h0 : (FloatKind.f64.format.order sh 0 == some .eq) = false) : Calls Try.prog 21 #[.pointer (some ⟨s, 0, none⟩), .float .f64 (double.word g 9218868437227405312)] W fun e w' => e = .returned (.tuple #[.float .f64 0, .int .i64 1]) ∧ W = w' := by
  have c0 := h.c0
  go_enter Try.func21, Try.ntmps21
  go_wp2_with (first | (go_at_call 36; (with_reducible refine (isnan_v g _ _ (by decide) false (by decide)).mono ?_); rintro e w' ⟨rfl, rfl⟩) | (go_at_call 37; (with_reducible refine (isinf_v g _ _ (by decide) true (by decide)).mono ?_); rintro e w' ⟨rfl, rfl⟩))
  go_ret2
  exact ⟨rfl, rfl⟩
theorem sadd_first (g : Bool) (r : Nat) (hr : r < 9218868437227405312) (W : World) (s sh mn : Nat) (h : Smo W s sh mn false) (h0 : (FloatKind.f64.format.order sh 0 == some .eq) = false) : Calls Try.prog 21 #[.pointer (some ⟨s, 0, none⟩), .float .f64 (double.word g r)] W fun e w' => e = .returned (.tuple #[.float .f64 (double.word g r), .int .i64 0]) ∧ w' = (W.setCell ⟨s, 1, none⟩ (.float .f64 (double.word g r))).setCell ⟨s, 2, none⟩ (.bool true) := by
  have c0 := h.c0
  have c2 := h.c2
  have c1 := h.c1
  have f1 := h.f 1
  have f2 := h.f 2
  have b2 := Blk.put h 1 (.float .f64 (double.word g r))
  have c3 := b2.cellv (i := 2) rfl
  have f3 := b2.free 2
  clear b2
  go_enter Try.func21, Try.ntmps21
  go_wp2_with (first | (go_at_call 36; (with_reducible refine (isnan_v g r _ (by omega) false (decide_eq_false (by omega))).mono ?_); rintro e w' ⟨rfl, rfl⟩) | (go_at_call 37; (with_reducible refine (isinf_v g r _ (by omega) false (decide_eq_false (by omega))).mono ?_); rintro e w' ⟨rfl, rfl⟩))
  go_ret2
  exact ⟨rfl, rfl⟩
/-- What Add reckons. -/
structure Steps (sh mn x d p m : Nat) : Prop where
  sub : double.sub x mn = some d
  mul : double.mul sh d = some p
  add : double.add mn p = some m
theorem sadd_next (g : Bool) (r : Nat) (hr : r < 9218868437227405312) (W : World) (s sh mn d p : Nat) (gm : Bool) (rm : Nat) (hm : rm < 9218868437227405312) (h : Smo W s sh mn true) (h0 : (FloatKind.f64.format.order sh 0 == some .eq) = false) (hs : Steps sh mn (double.word g r) d p (double.word gm rm)) : Calls Try.prog 21 #[.pointer (some ⟨s, 0, none⟩), .float .f64 (double.word g r)] W fun e w' => e = .returned (.tuple #[.float .f64 (double.word gm rm), .int .i64 0]) ∧ ∃ n, w' = ((W.drewN n).setCell ⟨s, 1, none⟩ (.float .f64 (double.word gm rm))).setCell ⟨s, 2, none⟩ (.bool true) := by
  have c0 := h.c0
  have c2 := h.c2
  have c1 := h.c1
  have f1 := h.f 1
  have c3 := fun n => (Blk.put (Blk.drewN h n) 1 (.float .f64 (double.word gm rm))).cellv (i := 2) rfl
  have f3 := fun n => (Blk.put (Blk.drewN h n) 1 (.float .f64 (double.word gm rm))).free 2
  have e1 : ∀ t w, (binOp .sub t (.float .f64 (double.word g r)) (.float .f64 mn)).run Try.prog w = .ok (.float .f64 d) w := fun t w => run_float_arith w .sub t .f64 _ _ _ hs.sub
  have e2 : ∀ t w, (binOp .mul t (.float .f64 sh) (.float .f64 d)).run Try.prog w = .ok (.float .f64 p) w := fun t w => run_float_arith w .mul t .f64 _ _ _ hs.mul
  have e3 : ∀ t w, (binOp .add t (.float .f64 mn) (.float .f64 p)).run Try.prog w = .ok (.float .f64 (double.word gm rm)) w := fun t w => run_float_arith w .add t .f64 _ _ _ hs.add
  go_enter Try.func21, Try.ntmps21
  go_wp2_with (first | (go_at_call 36; (with_reducible refine (isnan_v g r _ (by omega) false (decide_eq_false (by omega))).mono ?_); rintro e w' ⟨rfl, rfl⟩) | (go_at_call 37; (with_reducible refine (isinf_v g r _ (by omega) false (decide_eq_false (by omega))).mono ?_); rintro e w' ⟨rfl, rfl⟩))
  go_quiet (fail)
  go_wp2_with (first | (go_at_call 36; (with_reducible refine (isnan_v gm rm _ (by omega) false (decide_eq_false (by omega))).mono ?_); rintro e w' ⟨rfl, rfl⟩) | (go_at_call 37; (with_reducible refine (isinf_v gm rm _ (by omega) false (decide_eq_false (by omega))).mono ?_); rintro e w' ⟨rfl, rfl⟩))
  go_ret2
  exact ⟨rfl, _, rfl⟩
theorem sadd_big (g : Bool) (r : Nat) (hr : r < 9218868437227405312) (W : World) (s sh mn d p : Nat) (gm : Bool) (h : Smo W s sh mn true) (h0 : (FloatKind.f64.format.order sh 0 == some .eq) = false) (hs : Steps sh mn (double.word g r) d p (double.word gm 9218868437227405312)) : Calls Try.prog 21 #[.pointer (some ⟨s, 0, none⟩), .float .f64 (double.word g r)] W fun e w' => e = .returned (.tuple #[.float .f64 0, .int .i64 3]) ∧ Dr W w' := by
  have c0 := h.c0
  have c2 := h.c2
  have c1 := h.c1
  have e1 : ∀ t w, (binOp .sub t (.float .f64 (double.word g r)) (.float .f64 mn)).run Try.prog w = .ok (.float .f64 d) w := fun t w => run_float_arith w .sub t .f64 _ _ _ hs.sub
  have e2 : ∀ t w, (binOp .mul t (.float .f64 sh) (.float .f64 d)).run Try.prog w = .ok (.float .f64 p) w := fun t w => run_float_arith w .mul t .f64 _ _ _ hs.mul
  have e3 : ∀ t w, (binOp .add t (.float .f64 mn) (.float .f64 p)).run Try.prog w = .ok (.float .f64 (double.word gm 9218868437227405312)) w := fun t w => run_float_arith w .add t .f64 _ _ _ hs.add
  go_enter Try.func21, Try.ntmps21
  go_wp2_with (first | (go_at_call 36; (with_reducible refine (isnan_v g r _ (by omega) false (decide_eq_false (by omega))).mono ?_); rintro e w' ⟨rfl, rfl⟩) | (go_at_call 37; (with_reducible refine (isinf_v g r _ (by omega) false (decide_eq_false (by omega))).mono ?_); rintro e w' ⟨rfl, rfl⟩))
  go_quiet (fail)
  go_wp2_with (first | (go_at_call 36; (with_reducible refine (isnan_v gm _ _ (by decide) false (by decide)).mono ?_); rintro e w' ⟨rfl, rfl⟩) | (go_at_call 37; (with_reducible refine (isinf_v gm _ _ (by decide) true (by decide)).mono ?_); rintro e w' ⟨rfl, rfl⟩))
  go_ret2
  exact ⟨rfl, _, rfl⟩
end Go.Proofs.Ythcjkdmlaahpbaa.Smooth
