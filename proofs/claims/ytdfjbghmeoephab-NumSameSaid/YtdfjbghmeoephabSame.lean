/- The law NumSame: what fits into int16 comes back from it, and only there; Abs and Clamp give the same there. -/
import Derived.Test.YtdfjbghmeoephabParts
namespace Go.Proofs.Ytdfjbghmeoephab.Same
open Go.RowKit Go.Proofs.Ytdfjbghmeoephab.Aid Go.Proofs.Ytdfjbghmeoephab.Nums Go.Proofs.Ytdfjbghmeoephab.Mem Go.Proofs.Ytdfjbghmeoephab.Live Go.Proofs.Ytdfjbghmeoephab.Parts
set_option linter.unusedSimpArgs false

def in16 (x : Int) : Bool := decide (-32768 ≤ x ∧ x ≤ 32767)
def v16 (x : Int) : Int := if in16 x = true then x else 0
theorem in16_t {x : Int} (h : -32768 ≤ x ∧ x ≤ 32767) : in16 x = true := decide_eq_true h
theorem in16_f {x : Int} (h : ¬ (-32768 ≤ x ∧ x ≤ 32767)) : in16 x = false := decide_eq_false h
theorem in16_of {x : Int} (h : in16 x = true) : -32768 ≤ x ∧ x ≤ 32767 := of_decide_eq_true h
theorem in16_not {x : Int} (h : in16 x = false) : ¬ (-32768 ≤ x ∧ x ≤ 32767) := of_decide_eq_false h
theorem i16_iff (x : Int) : IntKind.i16.wrap x = x ↔ -32768 ≤ x ∧ x ≤ 32767 := by rw [i16_eq]; omega
theorem fit16_c (x : Int) (w : World) (hx : -9223372036854775808 ≤ x ∧ x ≤ 9223372036854775807) : Calls Try.prog 23 #[.int .i64 x] w fun e w' => e = .returned (.tuple #[.int .i16 (v16 x), .bool (in16 x)]) ∧ w = w' := by
  have hw : wrap64 x = x := w64_in (by omega) (by omega)
  by_cases h : -32768 ≤ x ∧ x ≤ 32767
  · have e1 := in16_t h
    have e2 : v16 x = x := if_pos e1
    rw [e1, e2]
    have e := (i16_iff x).2 h
    have e' : (wrap64 x == x) = true := by rw [hw]; simp
    clear hx hw h e1 e2
    go_enter Try.func23, Try.ntmps23
    go_wp2
    go_ret2
    exact ⟨rfl, rfl⟩
  · have e1 := in16_f h
    have e2 : v16 x = 0 := if_neg (by rw [e1]; decide)
    rw [e1, e2]
    have e : (wrap64 (IntKind.i16.wrap x) == x) = false := by
      rw [w64_i16]; simp only [beq_eq_false_iff_ne]; intro e; exact h ((i16_iff x).1 e)
    clear hx hw h e1 e2
    go_enter Try.func23, Try.ntmps23
    go_wp2
    go_ret2
    exact ⟨rfl, rfl⟩
theorem back_c (x : Int) (w : World) (hx : -32768 ≤ x ∧ x ≤ 32767) : Calls Try.prog 24 #[.int .i16 x] w fun e w' => e = .returned (.tuple #[.int .i64 x, .bool true]) ∧ w = w' := by
  have e : wrap64 x = x := w64_in (by omega) (by omega)
  clear hx
  go_enter Try.func24, Try.ntmps24
  go_wp2
  go_ret2
  exact ⟨by first | rfl | (simp [e]; done), rfl⟩
theorem clamp16_c (x l h : Int) (w : World) : Calls Try.prog 25 #[.int .i16 x, .int .i16 l, .int .i16 h] w fun e w' => e = .returned (.int .i16 (max (min x h) l)) ∧ w = w' := by
  go_enter Try.func25, Try.ntmps25
  go_wp2
  go_ret
  exact ⟨rfl, rfl⟩
theorem clamp64_c (x l h : Int) (w : World) : Calls Try.prog 26 #[.int .i64 x, .int .i64 l, .int .i64 h] w fun e w' => e = .returned (.int .i64 (max (min x h) l)) ∧ w = w' := by
  go_enter Try.func26, Try.ntmps26
  go_wp2
  go_ret
  exact ⟨rfl, rfl⟩
def a16B (x : Int) : Bool := decide (x ≠ -32768)
def a16V (x : Int) : Int := if a16B x = true then sz x else 0
theorem abs16_c (x : Int) (w : World) (hx : -32768 ≤ x ∧ x ≤ 32767) : Calls Try.prog 27 #[.int .i16 x] w fun e w' => e = .returned (.tuple #[.int .i16 (a16V x), .bool (a16B x)]) ∧ w = w' := by
  obtain ⟨h1, h2⟩ := hx
  by_cases h0 : 0 ≤ x
  · have e1 : a16B x = true := decide_eq_true (by omega)
    have e2 : a16V x = x := by unfold a16V; rw [if_pos e1]; exact if_neg (by omega)
    rw [e1, e2]
    clear e1 e2
    go_enter Try.func27, Try.ntmps27
    go_wp2
    go_ret2
    exact ⟨rfl, rfl⟩
  · by_cases hm : x = -32768
    · subst hm
      have e1 : a16B (-32768) = false := by decide
      have e2 : a16V (-32768) = 0 := by decide
      rw [e1, e2]
      clear e1 e2
      go_enter Try.func27, Try.ntmps27
      go_wp2
      go_ret2
      exact ⟨rfl, rfl⟩
    · have e1 : a16B x = true := decide_eq_true hm
      have e2 : a16V x = -x := by unfold a16V; rw [if_pos e1]; exact if_pos (by omega)
      rw [e1, e2]
      have hn : IntKind.i16.wrap (-x) = -x := (i16_iff _).2 (by omega)
      clear e1 e2 hm
      go_enter Try.func27, Try.ntmps27
      go_wp2
      go_ret2
      exact ⟨by first | rfl | (rw [hn]; done), rfl⟩
theorem abs64_c (x : Int) (w : World) (hx : -32768 ≤ x ∧ x ≤ 32767) : Calls Try.prog 28 #[.int .i64 x] w fun e w' => e = .returned (.tuple #[.int .i64 (sz x), .bool true]) ∧ w = w' := by
  obtain ⟨h1, h2⟩ := hx
  by_cases h0 : 0 ≤ x
  · have e2 : sz x = x := if_neg (by omega)
    rw [e2]
    go_enter Try.func28, Try.ntmps28
    go_wp2
    go_ret2
    exact ⟨rfl, rfl⟩
  · have e2 : sz x = -x := if_pos (by omega)
    rw [e2]
    have h3 : x < 0 := by omega
    go_enter Try.func28, Try.ntmps28
    go_wp2
    go_ret2
    exact ⟨rfl, rfl⟩
theorem cls (x : Int) : (in16 x = true ∧ v16 x = x ∧ -32768 ≤ x ∧ x ≤ 32767) ∨ (in16 x = false ∧ v16 x = 0 ∧ x < -32768) ∨ (in16 x = false ∧ v16 x = 0 ∧ 32767 < x) := by
  by_cases h : -32768 ≤ x ∧ x ≤ 32767
  · have e := in16_t h
    exact .inl ⟨e, if_pos e, h.1, h.2⟩
  · have e := in16_f h
    have e2 : v16 x = 0 := if_neg (by rw [e]; decide)
    by_cases h1 : x < -32768
    · exact .inr (.inl ⟨e, e2, h1⟩)
    · exact .inr (.inr ⟨e, e2, by omega⟩)
set_option maxHeartbeats 8000000 in
set_option maxRecDepth 100000 in
theorem walkNumSame (x l h : Int) (w : World) (hx : (Lit.int .i64 x).wf = true) (hl : (Lit.int .i64 l).wf = true) (hh : (Lit.int .i64 h).wf = true) :
    Calls Try.prog 9 #[.int .i64 x, .int .i64 l, .int .i64 h] w fun e w' => e = .returned (.bool true) ∧ Below w.heap.size w w' := by
  have HX := Lib.hid (wf64 hx)
  have HL := Lib.hid (wf64 hl)
  have HH := Lib.hid (wf64 hh)
  clear hx hl hh
  by_cases hall : in16 x = true ∧ in16 l = true ∧ in16 h = true
  · obtain ⟨i1, i2, i3⟩ := hall
    have v1 : v16 x = x := if_pos i1
    have v2 : v16 l = l := if_pos i2
    have v3 : v16 h = h := if_pos i3
    obtain ⟨x1, x2⟩ := in16_of i1
    obtain ⟨l1, l2⟩ := in16_of i2
    obtain ⟨h1, h2⟩ := in16_of i3
    have HI := Lib.hid (in16_of i1)
    have q1 : (x != x) = false := by simp
    have q2 : (max (min x h) l != max (min x h) l) = false := by simp
    have q3 : wrap64 (max (min x h) l) = max (min x h) l := w64_in (by omega) (by omega)
    by_cases hm : x = -32768
    · subst hm
      have e1 : a16B (-32768) = false := by decide
      have e2 : a16V (-32768) = 0 := by decide
      have e3 : sz (-32768) = 32768 := by decide
      go_enter Try.func9, Try.ntmps9
      go_wp2_with (first | (go_at_call 23; (with_reducible refine (fit16_c (-32768) _ HX.out).mono ?_); rintro e w' ⟨rfl, rfl⟩) | (go_at_call 23; (with_reducible refine (fit16_c l _ HL.out).mono ?_); rintro e w' ⟨rfl, rfl⟩) | (go_at_call 23; (with_reducible refine (fit16_c h _ HH.out).mono ?_); rintro e w' ⟨rfl, rfl⟩) | (go_at_call 15; (with_reducible refine (alive_c _).mono ?_); rintro e w' ⟨rfl, hB⟩; have HB := Lib.hid hB; clear hB) | (go_at_call 24; (with_reducible refine (back_c (-32768) _ HI.out).mono ?_); rintro e w' ⟨rfl, rfl⟩) | (go_at_call 25; (with_reducible refine (clamp16_c (-32768) l h _).mono ?_); rintro e w' ⟨rfl, rfl⟩) | (go_at_call 26; (with_reducible refine (clamp64_c (-32768) l h _).mono ?_); rintro e w' ⟨rfl, rfl⟩) | (go_at_call 27; (with_reducible refine (abs16_c (-32768) _ HI.out).mono ?_); rintro e w' ⟨rfl, rfl⟩) | (go_at_call 28; (with_reducible refine (abs64_c (-32768) _ HI.out).mono ?_); rintro e w' ⟨rfl, rfl⟩))
      go_ret
      exact ⟨rfl, HB.out⟩
    · have e1 : a16B x = true := decide_eq_true hm
      have e4 : (x != -32768) = true := by simpa using hm
      by_cases h0 : 0 ≤ x
      · have e3 : sz x = x := if_neg (by omega)
        have e2 : a16V x = x := by unfold a16V; rw [if_pos e1, e3]
        have e5 : (x == x) = true := by simp
        clear hm
        go_enter Try.func9, Try.ntmps9
        go_wp2_with (first | (go_at_call 23; (with_reducible refine (fit16_c x _ HX.out).mono ?_); rintro e w' ⟨rfl, rfl⟩) | (go_at_call 23; (with_reducible refine (fit16_c l _ HL.out).mono ?_); rintro e w' ⟨rfl, rfl⟩) | (go_at_call 23; (with_reducible refine (fit16_c h _ HH.out).mono ?_); rintro e w' ⟨rfl, rfl⟩) | (go_at_call 15; (with_reducible refine (alive_c _).mono ?_); rintro e w' ⟨rfl, hB⟩; have HB := Lib.hid hB; clear hB) | (go_at_call 24; (with_reducible refine (back_c x _ HI.out).mono ?_); rintro e w' ⟨rfl, rfl⟩) | (go_at_call 25; (with_reducible refine (clamp16_c x l h _).mono ?_); rintro e w' ⟨rfl, rfl⟩) | (go_at_call 26; (with_reducible refine (clamp64_c x l h _).mono ?_); rintro e w' ⟨rfl, rfl⟩) | (go_at_call 27; (with_reducible refine (abs16_c x _ HI.out).mono ?_); rintro e w' ⟨rfl, rfl⟩) | (go_at_call 28; (with_reducible refine (abs64_c x _ HI.out).mono ?_); rintro e w' ⟨rfl, rfl⟩))
        go_ret
        exact ⟨rfl, HB.out⟩
      · have e3 : sz x = -x := if_pos (by omega)
        have e2 : a16V x = -x := by unfold a16V; rw [if_pos e1, e3]
        have e5 : (-x == -x) = true := by simp
        have e6 : (-x == x) = false := by simp; omega
        have e7 : x < 0 := by omega
        clear hm h0
        go_enter Try.func9, Try.ntmps9
        go_wp2_with (first | (go_at_call 23; (with_reducible refine (fit16_c x _ HX.out).mono ?_); rintro e w' ⟨rfl, rfl⟩) | (go_at_call 23; (with_reducible refine (fit16_c l _ HL.out).mono ?_); rintro e w' ⟨rfl, rfl⟩) | (go_at_call 23; (with_reducible refine (fit16_c h _ HH.out).mono ?_); rintro e w' ⟨rfl, rfl⟩) | (go_at_call 15; (with_reducible refine (alive_c _).mono ?_); rintro e w' ⟨rfl, hB⟩; have HB := Lib.hid hB; clear hB) | (go_at_call 24; (with_reducible refine (back_c x _ HI.out).mono ?_); rintro e w' ⟨rfl, rfl⟩) | (go_at_call 25; (with_reducible refine (clamp16_c x l h _).mono ?_); rintro e w' ⟨rfl, rfl⟩) | (go_at_call 26; (with_reducible refine (clamp64_c x l h _).mono ?_); rintro e w' ⟨rfl, rfl⟩) | (go_at_call 27; (with_reducible refine (abs16_c x _ HI.out).mono ?_); rintro e w' ⟨rfl, rfl⟩) | (go_at_call 28; (with_reducible refine (abs64_c x _ HI.out).mono ?_); rintro e w' ⟨rfl, rfl⟩))
        go_ret
        exact ⟨rfl, HB.out⟩
  · rcases cls x with ⟨i1, v1, x1, x2⟩ | ⟨i1, v1, x1⟩ | ⟨i1, v1, x1⟩ <;> rcases cls l with ⟨i2, v2, l1, l2⟩ | ⟨i2, v2, l1⟩ | ⟨i2, v2, l1⟩ <;> rcases cls h with ⟨i3, v3, h1, h2⟩ | ⟨i3, v3, h1⟩ | ⟨i3, v3, h1⟩
    · exact absurd ⟨i1, i2, i3⟩ hall
    all_goals
      clear hall
      go_enter Try.func9, Try.ntmps9
      go_wp2_with (first | (go_at_call 23; (with_reducible refine (fit16_c x _ HX.out).mono ?_); rintro e w' ⟨rfl, rfl⟩) | (go_at_call 23; (with_reducible refine (fit16_c l _ HL.out).mono ?_); rintro e w' ⟨rfl, rfl⟩) | (go_at_call 23; (with_reducible refine (fit16_c h _ HH.out).mono ?_); rintro e w' ⟨rfl, rfl⟩) | (go_at_call 15; (with_reducible refine (alive_c _).mono ?_); rintro e w' ⟨rfl, hB⟩; have HB := Lib.hid hB; clear hB))
      go_ret
      exact ⟨rfl, HB.out⟩
end Go.Proofs.Ytdfjbghmeoephab.Same
