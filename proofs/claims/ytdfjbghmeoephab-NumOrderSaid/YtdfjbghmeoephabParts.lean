/- The laws NumParts and NumSquares: what is divided is the quotient times the divisor and what is left; the root's square is not above, the next one's is. -/
import Derived.Test.YtdfjbghmeoephabLive
import Derived.WalkLawsBesides
namespace Go.Proofs.Ytdfjbghmeoephab.Parts
open Go.RowKit Go.Proofs.Ytdfjbghmeoephab.Aid Go.Proofs.Ytdfjbghmeoephab.Nums Go.Proofs.Ytdfjbghmeoephab.Roots Go.Proofs.Ytdfjbghmeoephab.Mem Go.Proofs.Ytdfjbghmeoephab.Live
set_option linter.unusedSimpArgs false

theorem number_c (a : Int) (w : World) : Calls Try.prog 16 #[.int .i64 a] w fun e w' => e = .returned (.bool (isN a)) ∧ w = w' := by
  by_cases h1 : -4611686018427387903 ≤ a
  · have hd : decide (a ≤ 4611686018427387903) = isN a := by simp [isN, h1]
    go_enter Try.func16, Try.ntmps16
    go_wp2
    go_ret
    exact ⟨by first | rfl | (simp [hd]; done), rfl⟩
  · have hd : isN a = false := isN_f (fun h => h1 h.1)
    rw [hd]
    go_enter Try.func16, Try.ntmps16
    go_wp2
    go_ret
    exact ⟨by first | rfl | (simp; done), rfl⟩
theorem ret_i {a b : Int} (h : a = b) : Ending.returned (.int .i64 a) = Ending.returned (.int .i64 b) := by rw [h]
theorem size_c (a : Int) (w : World) (h : -9223372036854775807 ≤ a ∧ a ≤ 9223372036854775807) : Calls Try.prog 22 #[.int .i64 a] w fun e w' => e = .returned (.int .i64 (sz a)) ∧ w = w' := by
  obtain ⟨h2, h3⟩ := h
  by_cases h1 : a < 0
  · have e1 : sz a = -a := if_pos h1
    rw [e1]
    go_enter Try.func22, Try.ntmps22
    go_wp2
    go_ret
    exact ⟨ret_i (by omega), rfl⟩
  · have e1 : sz a = a := if_neg h1
    rw [e1]
    go_enter Try.func22, Try.ntmps22
    go_wp2
    go_ret
    exact ⟨ret_i (by omega), rfl⟩
theorem sz_nonneg (a : Int) : 0 ≤ sz a := by unfold sz; split <;> omega
theorem sz_abs (a : Int) : sz a = a ∨ sz a = -a := by unfold sz; split <;> omega
theorem parts_bound {a b q r : Int} (ha : -4611686018427387903 ≤ a ∧ a ≤ 4611686018427387903) (hb : -4611686018427387903 ≤ b ∧ b ≤ 4611686018427387903) (h0 : b ≠ 0) (h : FloorIs a b q r) :
    (-9223372036854775806 ≤ q * b ∧ q * b ≤ 9223372036854775806) ∧ (-9223372036854775806 ≤ q ∧ q ≤ 9223372036854775806) ∧ sz q ≤ 9223372036854775807 / sz b ∧ 1 ≤ sz b ∧ (-4611686018427387903 ≤ r ∧ r ≤ 4611686018427387903) := by
  obtain ⟨e, p, n⟩ := h
  have hr : -4611686018427387903 ≤ r ∧ r ≤ 4611686018427387903 := by
    rcases Int.lt_trichotomy b 0 with hb | hb | hb
    · have := n hb; omega
    · omega
    · have := p hb; omega
  have hm : -9223372036854775806 ≤ q * b ∧ q * b ≤ 9223372036854775806 := by omega
  have hs := sz_mul q b
  have hb1 : 1 ≤ sz b := by unfold sz; split <;> omega
  have hsm : sz q * sz b ≤ 9223372036854775806 := by rw [hs]; split <;> omega
  have hq : sz q ≤ 9223372036854775806 := by
    have := Int.mul_le_mul_of_nonneg_left hb1 (sz_nonneg q)
    omega
  refine ⟨hm, by have := sz_abs q; have := sz_nonneg q; omega, ?_, hb1, hr⟩
  exact Int.le_ediv_of_mul_le (by omega) (by omega)
set_option maxHeartbeats 2000000 in
theorem walkNumParts (a b : Int) (w : World) (_ : (Lit.int .i64 a).wf = true) (_ : (Lit.int .i64 b).wf = true) : Calls Try.prog 7 #[.int .i64 a, .int .i64 b] w fun e w' => e = .returned (.bool true) ∧ Below w.heap.size w w' := by
  by_cases ha : isN a = true
  · by_cases hb : isN b = true
    · by_cases h0 : b = 0
      · subst h0
        go_enter Try.func7, Try.ntmps7
        go_wp2_with (first | (go_at_call 21; (with_reducible refine (floor_no a 0 _ (.inr (.inr rfl))).mono ?_); rintro e w' ⟨rfl, rfl⟩) | (go_at_call 15; (with_reducible refine (alive_c _).mono ?_); rintro e w' ⟨rfl, hL⟩) | (go_at_call 16; (with_reducible refine (number_c a _).mono ?_); rintro e w' ⟨rfl, rfl⟩) | (go_at_call 16; (with_reducible refine (number_c 0 _).mono ?_); rintro e w' ⟨rfl, rfl⟩))
        go_ret
        exact ⟨rfl, hL⟩
      · obtain ⟨q, r, h⟩ := floor_is a b h0
        have HF := Lib.hid h
        have HA := isN_of ha
        have HB := isN_of hb
        obtain ⟨⟨m1, m2⟩, HQ, hs, hs1, r1, r2⟩ := parts_bound HA HB h0 h
        have e0 : (b == 0) = false := by simpa using h0
        have e1 : (wrap64 (q * b + r) == a) = true := by rw [← h.1, w64_in (by omega) (by omega)]; simp
        have HQ' := Lib.hid (show -9223372036854775807 ≤ q ∧ q ≤ 9223372036854775807 by omega)
        have HB' := Lib.hid (show -9223372036854775807 ≤ b ∧ b ≤ 9223372036854775807 by omega)
        have z0 := sz_nonneg q
        obtain ⟨hE, p, n⟩ := h
        clear hE
        obtain ⟨b1, b2⟩ := HB
        have zb : sz b ≤ 4611686018427387903 := by have := sz_abs b; omega
        have d0 : 0 ≤ 9223372036854775807 / sz b := by omega
        clear HA HQ
        by_cases hp : 0 < b
        · obtain ⟨p1, p2⟩ := p hp
          have hp' : ¬ b < 0 := by omega
          clear p n
          go_enter Try.func7, Try.ntmps7
          go_wp2_with (first | (go_at_call 21; (with_reducible refine (floor_c a b q r _ ha hb h0 HF.out).mono ?_); rintro e w' ⟨rfl, nd, rfl⟩) | (go_at_call 15; (with_reducible refine (alive_c _).mono ?_); rintro e w' ⟨rfl, hL⟩; have HL := Lib.hid hL; clear hL) | (go_at_call 16; (with_reducible refine (number_c a _).mono ?_); rintro e w' ⟨rfl, rfl⟩) | (go_at_call 16; (with_reducible refine (number_c b _).mono ?_); rintro e w' ⟨rfl, rfl⟩) | (go_at_call 22; (with_reducible refine (size_c q _ HQ'.out).mono ?_); rintro e w' ⟨rfl, rfl⟩) | (go_at_call 22; (with_reducible refine (size_c b _ HB'.out).mono ?_); rintro e w' ⟨rfl, rfl⟩))
          go_ret
          exact ⟨rfl, (Dr.below ⟨nd, rfl⟩ : Below w.heap.size w (w.drewN nd)).trans HL.out⟩
        · have hn : b < 0 := by omega
          obtain ⟨n1, n2⟩ := n hn
          clear p n
          go_enter Try.func7, Try.ntmps7
          go_wp2_with (first | (go_at_call 21; (with_reducible refine (floor_c a b q r _ ha hb h0 HF.out).mono ?_); rintro e w' ⟨rfl, nd, rfl⟩) | (go_at_call 15; (with_reducible refine (alive_c _).mono ?_); rintro e w' ⟨rfl, hL⟩; have HL := Lib.hid hL; clear hL) | (go_at_call 16; (with_reducible refine (number_c a _).mono ?_); rintro e w' ⟨rfl, rfl⟩) | (go_at_call 16; (with_reducible refine (number_c b _).mono ?_); rintro e w' ⟨rfl, rfl⟩) | (go_at_call 22; (with_reducible refine (size_c q _ HQ'.out).mono ?_); rintro e w' ⟨rfl, rfl⟩) | (go_at_call 22; (with_reducible refine (size_c b _ HB'.out).mono ?_); rintro e w' ⟨rfl, rfl⟩))
          go_ret
          exact ⟨rfl, (Dr.below ⟨nd, rfl⟩ : Below w.heap.size w (w.drewN nd)).trans HL.out⟩
    · have hb' : isN b = false := by cases h : isN b <;> simp_all
      clear hb
      go_enter Try.func7, Try.ntmps7
      go_wp2_with (first | (go_at_call 21; (with_reducible refine (floor_no a b _ (.inr (.inl hb'))).mono ?_); rintro e w' ⟨rfl, rfl⟩) | (go_at_call 15; (with_reducible refine (alive_c _).mono ?_); rintro e w' ⟨rfl, hL⟩) | (go_at_call 16; (with_reducible refine (number_c a _).mono ?_); rintro e w' ⟨rfl, rfl⟩) | (go_at_call 16; (with_reducible refine (number_c b _).mono ?_); rintro e w' ⟨rfl, rfl⟩))
      go_ret
      exact ⟨rfl, hL⟩
  · have ha' : isN a = false := by cases h : isN a <;> simp_all
    clear ha
    go_enter Try.func7, Try.ntmps7
    go_wp2_with (first | (go_at_call 21; (with_reducible refine (floor_no a b _ (.inl ha')).mono ?_); rintro e w' ⟨rfl, rfl⟩) | (go_at_call 15; (with_reducible refine (alive_c _).mono ?_); rintro e w' ⟨rfl, hL⟩) | (go_at_call 16; (with_reducible refine (number_c a _).mono ?_); rintro e w' ⟨rfl, rfl⟩))
    go_ret
    exact ⟨rfl, hL⟩
set_option maxHeartbeats 2000000 in
theorem walkNumSquares (n : Int) (w : World) (_ : (Lit.int .i64 n).wf = true) : Calls Try.prog 8 #[.int .i64 n] w fun e w' => e = .returned (.bool true) ∧ Below w.heap.size w w' := by
  by_cases h : n < 0 ∨ isN n = false
  · have H := Lib.hid h
    by_cases h0 : n < 0
    · clear h
      go_enter Try.func8, Try.ntmps8
      go_wp2_with (first | (go_at_call 12; (with_reducible refine (root_no n _ H.out).mono ?_); rintro e w' ⟨rfl, rfl⟩) | (go_at_call 15; (with_reducible refine (alive_c _).mono ?_); rintro e w' ⟨rfl, hL⟩))
      go_ret
      exact ⟨rfl, hL⟩
    · have hN : isN n = false := by rcases h with h | h; exact absurd h h0; exact h
      clear h
      go_enter Try.func8, Try.ntmps8
      go_wp2_with (first | (go_at_call 12; (with_reducible refine (root_no n _ H.out).mono ?_); rintro e w' ⟨rfl, rfl⟩) | (go_at_call 15; (with_reducible refine (alive_c _).mono ?_); rintro e w' ⟨rfl, hL⟩) | (go_at_call 16; (with_reducible refine (number_c n _).mono ?_); rintro e w' ⟨rfl, rfl⟩))
      go_ret
      exact ⟨rfl, hL⟩
  · have hn : isN n = true := by cases hb : isN n <;> simp_all
    have h0 : 0 ≤ n := by omega
    have h1 := (isN_of hn).2
    obtain ⟨s, hs⟩ := isRt_of h0
    have HS := Lib.hid hs
    have s0 := hs.1
    have s1 := hs.small h1
    have i1 : isN s = true := isN_t (by omega)
    have zs : sz s = s := if_neg (by omega)
    have b1 : mulB s s = true := by unfold mulB; rw [i1, zs]; have := hs.2.1; simp; omega
    have v1 : mulV s s = s * s := if_pos b1
    have c1 := hs.2.1
    have hroot : ∀ w, Calls Try.prog 12 #[.int .i64 n] w fun e w' => e = .returned (.tuple #[.int .i64 s, .bool true]) ∧ w = w' := by
      intro w
      by_cases hz : n = 0
      · subst hz
        obtain rfl : s = 0 := HS.out.uniq ⟨by decide, by decide, by decide⟩
        exact root_zero w
      · exact root_c n s w (by omega) h1 HS.out
    have HR := Lib.hid hroot
    have e1 : (s + 1) * (s + 1) = s * s + 2 * s + 1 := by grind
    have e2 := hs.2.2
    clear h hs hroot
    cases hB : mulB (s + 1) (s + 1)
    · clear e1 e2
      go_enter Try.func8, Try.ntmps8
      go_wp2_with (first | (go_at_call 12; (with_reducible refine (HR.out _).mono ?_); rintro e w' ⟨rfl, rfl⟩) | (go_at_call 15; (with_reducible refine (alive_c _).mono ?_); rintro e w' ⟨rfl, hL⟩; have HL := Lib.hid hL; clear hL) | (go_at_call 16; (with_reducible refine (number_c n _).mono ?_); rintro e w' ⟨rfl, rfl⟩) | (go_at_call 10; (with_reducible refine (mul_c s s _).mono ?_); rintro e w' ⟨rfl, rfl⟩) | (go_at_call 10; (with_reducible refine (mul_c (s + 1) (s + 1) _).mono ?_); rintro e w' ⟨rfl, rfl⟩))
      go_ret
      exact ⟨rfl, HL.out⟩
    · have v2 : mulV (s + 1) (s + 1) = (s + 1) * (s + 1) := if_pos hB
      clear e1
      go_enter Try.func8, Try.ntmps8
      go_wp2_with (first | (go_at_call 12; (with_reducible refine (HR.out _).mono ?_); rintro e w' ⟨rfl, rfl⟩) | (go_at_call 15; (with_reducible refine (alive_c _).mono ?_); rintro e w' ⟨rfl, hL⟩; have HL := Lib.hid hL; clear hL) | (go_at_call 16; (with_reducible refine (number_c n _).mono ?_); rintro e w' ⟨rfl, rfl⟩) | (go_at_call 10; (with_reducible refine (mul_c s s _).mono ?_); rintro e w' ⟨rfl, rfl⟩) | (go_at_call 10; (with_reducible refine (mul_c (s + 1) (s + 1) _).mono ?_); rintro e w' ⟨rfl, rfl⟩))
      go_ret
      exact ⟨rfl, HL.out⟩
end Go.Proofs.Ytdfjbghmeoephab.Parts
