/- What WindowSmooths asks: means, added. -/
import Derived.Test.YthcjkdmlaahpbaaSteps
import Derived.Test.YthcjkdmlaahpbaaAliveN
namespace Go.Proofs.Ythcjkdmlaahpbaa.Added
open Go.RowKit Go.Proofs.Ythcjkdmlaahpbaa.Aid Go.Proofs.Ythcjkdmlaahpbaa.Fl Go.Proofs.Ythcjkdmlaahpbaa.Mem Go.Proofs.Ythcjkdmlaahpbaa.Keep Go.Proofs.Ythcjkdmlaahpbaa.Round Go.Proofs.Ythcjkdmlaahpbaa.Smooth
open Ieee (double Toward Format)
set_option linter.unusedSimpArgs false
set_option linter.unusedVariables false
set_option linter.unusedSectionVars false
set_option maxRecDepth 100000
/-- A mean and the document's, alike. -/
def Two (W : World) (a r sh mn : Nat) (any : Bool) : Prop := Smo W a sh mn any ∧ SmR W r sh mn any
/-- What a mean may be. -/
def OkM (mn : Nat) (any : Bool) : Prop := (any = false ∧ mn = 0) ∨ (any = true ∧ ∃ g q, mn = double.word g q ∧ q < 9218868437227405312)
/-- No block of old but these two is another one. -/
structure Chg2 (a r : Nat) (W W' : World) : Prop where
  size : W.heap.size ≤ W'.heap.size
  keep : ∀ b, b < W.heap.size → b ≠ a → b ≠ r → W'.heap[b]? = W.heap[b]?
  os : W'.os = W.os
  tape : W'.tape = W.tape
  output : W'.output = W.output
theorem Chg2.refl (a r : Nat) (W : World) : Chg2 a r W W := ⟨Nat.le_refl _, fun _ _ _ _ => rfl, rfl, rfl, rfl⟩
theorem Chg2.drewN {a r : Nat} {W W' : World} (h : Chg2 a r W W') (n : Nat) : Chg2 a r W (W'.drewN n) := ⟨h.size, h.keep, h.os, h.tape, h.output⟩
theorem Chg2.set {a r : Nat} {W W' : World} (h : Chg2 a r W W') (p : Addr) (u : Value) (hp : p.block = a ∨ p.block = r) : Chg2 a r W (W'.setCell p u) :=
  ⟨by rw [Win.size_set]; exact h.size, fun b hb h1 h2 => (Below.heap_setCell W' p u b (by rcases hp with e | e <;> omega)).trans (h.keep b hb h1 h2), h.os, h.tape, h.output⟩
theorem Chg2.blk {a r b : Nat} {W W' : World} {t : TypeId} {l : List Value} (h : Chg2 a r W W') (hb : Blk W b t l) (h1 : b ≠ a) (h2 : b ≠ r) : Blk W' b t l := (h.keep b hb.lt h1 h2).trans hb
theorem Chg2.below {B a r : Nat} {W0 W W' : World} (hb : Below B W0 W) (h : Chg2 a r W W') (ha : B ≤ a) (hr : B ≤ r) (hB : B ≤ W.heap.size) : Below B W0 W' :=
  ⟨h.os.trans hb.os, h.tape.trans hb.tape, h.output.trans hb.output, Nat.le_trans hb.size h.size, fun b hlt => (h.keep b (by omega) (by omega) (by omega)).trans (hb.block b hlt)⟩
theorem means_f (W : World) (a r sh : Nat) (h : Two W a r sh 0 false) : Calls Try.prog 18 #[.pointer (some ⟨a, 0, none⟩), .pointer (some ⟨r, 0, none⟩)] W fun e w' => e = .returned (.bool true) ∧ W = w' := by
  have q0 : (FloatKind.f64.format.order 0 0 == some .eq) = true := by decide +kernel
  obtain ⟨h1, h2⟩ := h
  have c1 := h2.c1
  have c2 := h2.c2
  go_enter Try.func18, Try.ntmps18
  go_wp2_with (first | (go_at_call 20; (with_reducible refine (mean_f W a sh 0 h1).mono ?_); rintro e w' ⟨rfl, rfl⟩))
  go_ret
  exact ⟨rfl, rfl⟩
theorem means_t (W : World) (a r sh : Nat) (g : Bool) (q : Nat) (hq : q < 9218868437227405312) (h : Two W a r sh (double.word g q) true) : Calls Try.prog 18 #[.pointer (some ⟨a, 0, none⟩), .pointer (some ⟨r, 0, none⟩)] W fun e w' => e = .returned (.bool true) ∧ W = w' := by
  have q0 := eq_self g q (by omega)
  obtain ⟨h1, h2⟩ := h
  have c1 := h2.c1
  have c2 := h2.c2
  go_enter Try.func18, Try.ntmps18
  go_wp2_with (first | (go_at_call 20; (with_reducible refine (mean_t W a sh _ h1).mono ?_); rintro e w' ⟨rfl, rfl⟩))
  go_ret
  exact ⟨rfl, rfl⟩
theorem means_c (W : World) (a r sh mn : Nat) (any : Bool) (h : Two W a r sh mn any) (ho : OkM mn any) : Calls Try.prog 18 #[.pointer (some ⟨a, 0, none⟩), .pointer (some ⟨r, 0, none⟩)] W fun e w' => e = .returned (.bool true) ∧ W = w' := by
  rcases ho with ⟨rfl, rfl⟩ | ⟨rfl, g, q, rfl, hq⟩
  · exact means_f W a r sh h
  · exact means_t W a r sh g q hq h
theorem Two.drewN {W : World} {a r sh mn : Nat} {any : Bool} (h : Two W a r sh mn any) (n : Nat) : Two (W.drewN n) a r sh mn any := ⟨Blk.drewN h.1 n, Blk.drewN h.2 n⟩
/-- Both take the same number. -/
theorem Two.put {W : World} {a r sh mn : Nat} {any : Bool} (h : Two W a r sh mn any) (hne : a ≠ r) (x : Nat) : SmR ((W.setCell ⟨a, 1, none⟩ (.float .f64 x)).setCell ⟨a, 2, none⟩ (.bool true)) r sh mn any ∧ Two (((((W.setCell ⟨a, 1, none⟩ (.float .f64 x)).setCell ⟨a, 2, none⟩ (.bool true)).setCell ⟨r, 1, none⟩ (.float .f64 x)).setCell ⟨r, 2, none⟩ (.bool true))) a r sh x true :=
  have h2 : SmR ((W.setCell ⟨a, 1, none⟩ (.float .f64 x)).setCell ⟨a, 2, none⟩ (.bool true)) r sh mn any := (Blk.far h.2 (p := ⟨a, 1, none⟩) hne.symm _).far (p := ⟨a, 2, none⟩) hne.symm _
  ⟨h2, (Blk.far (h.1.put x) (p := ⟨r, 1, none⟩) hne _).far (p := ⟨r, 2, none⟩) hne _, h2.put x⟩
theorem chg_put2 {W : World} {a r : Nat} (x y u v : Value) : Chg2 a r W ((((W.setCell ⟨a, 1, none⟩ x).setCell ⟨a, 2, none⟩ y).setCell ⟨r, 1, none⟩ u).setCell ⟨r, 2, none⟩ v) :=
  ((((Chg2.refl a r W).set ⟨a, 1, none⟩ x (.inl rfl)).set ⟨a, 2, none⟩ y (.inl rfl)).set ⟨r, 1, none⟩ u (.inr rfl)).set ⟨r, 2, none⟩ v (.inr rfl)
/-- What added leaves. -/
def After (W : World) (a r sh : Nat) (e : Ending) (w' : World) : Prop := e = .returned (.bool true) ∧ (∃ mn' any', Two w' a r sh mn' any' ∧ OkM mn' any') ∧ Chg2 a r W w'
section
variable (W : World) (a r sh : Nat) (hne : a ≠ r) (h0 : (FloatKind.f64.format.order sh 0 == some .eq) = false)
include hne h0
set_option maxHeartbeats 1000000 in
theorem added_nan (mn : Nat) (any : Bool) (h : Two W a r sh mn any) (ho : OkM mn any) (g : Bool) (q : Nat) (hq : q < 9223372036854775808) (hx : 9218868437227405312 < q) : Calls Try.prog 17 #[.pointer (some ⟨a, 0, none⟩), .pointer (some ⟨r, 0, none⟩), .float .f64 (double.word g q)] W (After W a r sh) := by
  have q0 : (FloatKind.f64.format.order 0 0 == some .eq) = true := by decide +kernel
  have m0 := means_c W a r sh mn any h ho
  have H := Lib.hid h
  have HO := Lib.hid ho
  have s0 := sadd_nan g q hq hx W a sh mn any h.1 h0
  have r0 := radd_bad g q (by omega) hq W r
  clear h ho
  go_enter Try.func17, Try.ntmps17
  go_wp2_with (first | (go_at_call 18; (with_reducible refine (m0).mono ?_); rintro e w' ⟨rfl, rfl⟩) | (go_at_call 18; (with_reducible refine (means_c (W.drewN nd) a r sh mn any (H.out.drewN nd) HO.out).mono ?_); rintro e w' ⟨rfl, rfl⟩) | (go_at_call 21; (with_reducible refine (s0).mono ?_); rintro e w' ⟨rfl, rfl⟩) | (go_at_call 35; (with_reducible refine (r0).mono ?_); rintro e w' ⟨rfl, nd, rfl⟩))
  go_ret
  exact ⟨rfl, ⟨mn, any, H.out.drewN nd, HO.out⟩, (Chg2.refl a r W).drewN nd⟩
set_option maxHeartbeats 1000000 in
theorem added_inf (mn : Nat) (any : Bool) (h : Two W a r sh mn any) (ho : OkM mn any) (g : Bool) : Calls Try.prog 17 #[.pointer (some ⟨a, 0, none⟩), .pointer (some ⟨r, 0, none⟩), .float .f64 (double.word g 9218868437227405312)] W (After W a r sh) := by
  have q0 : (FloatKind.f64.format.order 0 0 == some .eq) = true := by decide +kernel
  have m0 := means_c W a r sh mn any h ho
  have H := Lib.hid h
  have HO := Lib.hid ho
  have s0 := sadd_inf g W a sh mn any h.1 h0
  have r0 := radd_bad g 9218868437227405312 (Nat.le_refl _) (by decide) W r
  clear h ho
  go_enter Try.func17, Try.ntmps17
  go_wp2_with (first | (go_at_call 18; (with_reducible refine (m0).mono ?_); rintro e w' ⟨rfl, rfl⟩) | (go_at_call 18; (with_reducible refine (means_c (W.drewN nd) a r sh mn any (H.out.drewN nd) HO.out).mono ?_); rintro e w' ⟨rfl, rfl⟩) | (go_at_call 21; (with_reducible refine (s0).mono ?_); rintro e w' ⟨rfl, rfl⟩) | (go_at_call 35; (with_reducible refine (r0).mono ?_); rintro e w' ⟨rfl, nd, rfl⟩))
  go_ret
  exact ⟨rfl, ⟨mn, any, H.out.drewN nd, HO.out⟩, (Chg2.refl a r W).drewN nd⟩
set_option maxHeartbeats 1000000 in
theorem added_first (h : Two W a r sh 0 false) (g : Bool) (q : Nat) (hq : q < 9218868437227405312) : Calls Try.prog 17 #[.pointer (some ⟨a, 0, none⟩), .pointer (some ⟨r, 0, none⟩), .float .f64 (double.word g q)] W (After W a r sh) := by
  have q0 := eq_self g q (by omega)
  have m0 := means_f W a r sh h
  have s0 := sadd_first g q hq W a sh 0 h.1 h0
  obtain ⟨p1, p2⟩ := h.put hne (double.word g q)
  have r0 := radd_first g q hq _ r sh 0 p1
  have m1 := means_t _ a r sh g q hq p2
  have H2 := Lib.hid p2
  clear h p1 p2
  go_enter Try.func17, Try.ntmps17
  go_wp2_with (first | (go_at_call 18; (with_reducible refine (m0).mono ?_); rintro e w' ⟨rfl, rfl⟩) | (go_at_call 18; (with_reducible refine (m1).mono ?_); rintro e w' ⟨rfl, rfl⟩) | (go_at_call 21; (with_reducible refine (s0).mono ?_); rintro e w' ⟨rfl, rfl⟩) | (go_at_call 35; (with_reducible refine (r0).mono ?_); rintro e w' ⟨rfl, rfl⟩))
  go_ret
  exact ⟨rfl, ⟨_, _, H2.out, .inr ⟨rfl, g, q, rfl, hq⟩⟩, chg_put2 _ _ _ _⟩
set_option maxHeartbeats 1000000 in
theorem added_next (gm : Bool) (qm : Nat) (hqm : qm < 9218868437227405312) (h : Two W a r sh (double.word gm qm) true) (g : Bool) (q : Nat) (hq : q < 9218868437227405312) (d p : Nat) (gn : Bool) (qn : Nat) (hqn : qn < 9218868437227405312) (hs : Smooth.Steps sh (double.word gm qm) (double.word g q) d p (double.word gn qn)) : Calls Try.prog 17 #[.pointer (some ⟨a, 0, none⟩), .pointer (some ⟨r, 0, none⟩), .float .f64 (double.word g q)] W (After W a r sh) := by
  have q0 := eq_self gn qn (by omega)
  have m0 := means_t W a r sh gm qm hqm h
  have s0 := sadd_next g q hq W a sh _ d p gn qn hqn h.1 h0 hs
  have P := fun n => (h.drewN n).put hne (double.word gn qn)
  have r0 := fun n => radd_next g q hq _ r sh _ d p gn qn hqn (P n).1 hs
  have m1 := fun n => means_t _ a r sh gn qn hqn (P n).2
  have H2 := Lib.hid P
  clear h P
  go_enter Try.func17, Try.ntmps17
  go_wp2_with (first | (go_at_call 18; (with_reducible refine (m0).mono ?_); rintro e w' ⟨rfl, rfl⟩) | (go_at_call 18; (with_reducible refine (m1 _).mono ?_); rintro e w' ⟨rfl, rfl⟩) | (go_at_call 21; (with_reducible refine (s0).mono ?_); rintro e w' ⟨rfl, nd, rfl⟩) | (go_at_call 35; (with_reducible refine (r0 _).mono ?_); rintro e w' ⟨rfl, rfl⟩))
  go_ret
  exact ⟨rfl, ⟨_, _, (H2.out nd).2, .inr ⟨rfl, gn, qn, rfl, hqn⟩⟩, ((((((Chg2.refl a r W).drewN nd).set ⟨a, 1, none⟩ _ (.inl rfl)).set ⟨a, 2, none⟩ _ (.inl rfl)).set ⟨r, 1, none⟩ _ (.inr rfl)).set ⟨r, 2, none⟩ _ (.inr rfl))⟩
set_option maxHeartbeats 1000000 in
theorem added_big (gm : Bool) (qm : Nat) (hqm : qm < 9218868437227405312) (h : Two W a r sh (double.word gm qm) true) (g : Bool) (q : Nat) (hq : q < 9218868437227405312) (d p : Nat) (gn : Bool) (hs : Smooth.Steps sh (double.word gm qm) (double.word g q) d p (double.word gn 9218868437227405312)) : Calls Try.prog 17 #[.pointer (some ⟨a, 0, none⟩), .pointer (some ⟨r, 0, none⟩), .float .f64 (double.word g q)] W (After W a r sh) := by
  have q0 : (FloatKind.f64.format.order 0 0 == some .eq) = true := by decide +kernel
  have m0 := means_t W a r sh gm qm hqm h
  have s0 := sadd_big g q hq W a sh _ d p gn h.1 h0 hs
  have r0 := fun n => radd_big g q hq (W.drewN n) r sh _ d p gn (h.drewN n).2 hs
  have m1 := fun n => means_t (W.drewN n) a r sh gm qm hqm (h.drewN n)
  have H2 := Lib.hid (fun n => h.drewN n)
  clear h
  go_enter Try.func17, Try.ntmps17
  go_wp2_with (first | (go_at_call 18; (with_reducible refine (m0).mono ?_); rintro e w' ⟨rfl, rfl⟩) | (go_at_call 18; (with_reducible refine (m1 _).mono ?_); rintro e w' ⟨rfl, rfl⟩) | (go_at_call 21; (with_reducible refine (s0).mono ?_); rintro e w' ⟨rfl, nd, rfl⟩) | (go_at_call 35; (with_reducible refine (r0 _).mono ?_); rintro e w' ⟨rfl, nd2, hw2⟩; (try rw [World.drewN_drewN] at hw2); subst hw2))
  go_ret
  exact ⟨rfl, ⟨_, _, H2.out (nd + nd2), .inr ⟨rfl, gm, qm, rfl, hqm⟩⟩, (Chg2.refl a r W).drewN (nd + nd2)⟩
end
/-- added, whatever is added. -/
theorem added_c (W : World) (a r : Nat) (hne : a ≠ r) (sh : Nat) (hsx : sh < 18446744073709551616) (hs : shareB sh = true) (mn : Nat) (any : Bool) (h : Two W a r sh mn any) (ho : OkM mn any) (x : Nat) (hx : x < 18446744073709551616) : Calls Try.prog 17 #[.pointer (some ⟨a, 0, none⟩), .pointer (some ⟨r, 0, none⟩), .float .f64 x] W (After W a r sh) := by
  obtain ⟨rs, e, s0, s1, h0⟩ := share_word sh hsx hs
  obtain ⟨g, q, rfl, hq⟩ := word_of x hx
  by_cases c1 : 9218868437227405312 < q
  · exact added_nan W a r sh hne h0 mn any h ho g q hq c1
  by_cases c2 : q = 9218868437227405312
  · subst c2; exact added_inf W a r sh hne h0 mn any h ho g
  have hq2 : q < 9218868437227405312 := by omega
  rcases ho with ⟨rfl, rfl⟩ | ⟨rfl, gm, qm, rfl, hqm⟩
  · exact added_first W a r sh hne h0 h g q hq2
  · obtain ⟨d, p, gn, qn, hst, hle⟩ := steps_any rs gm qm g q s0 s1 hqm hq2
    rw [← e] at hst
    by_cases c3 : qn = 9218868437227405312
    · subst c3; exact added_big W a r sh hne h0 gm qm hqm h g q hq2 d p gn hst
    · exact added_next W a r sh hne h0 gm qm hqm h g q hq2 d p gn qn (by omega) hst
end Go.Proofs.Ythcjkdmlaahpbaa.Added
