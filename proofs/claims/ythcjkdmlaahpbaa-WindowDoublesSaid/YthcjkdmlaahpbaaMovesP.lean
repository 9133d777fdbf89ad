/- Plain law: a mean never moves away from what is added, and rises with it. -/
import Derived.Test.YthcjkdmlaahpbaaOutF
namespace Go.Proofs.Ythcjkdmlaahpbaa.Moves
open Go.Proofs.Ythcjkdmlaahpbaa.Fl Go.Proofs.Ythcjkdmlaahpbaa.Smooth Go.Proofs.Ythcjkdmlaahpbaa.Added
open Ieee (double Toward Format)
set_option linter.unusedVariables false
/-- (g, r) is the word nearest to num / den, with its sign. -/
def SN (num : Int) (den : Nat) (g : Bool) (r : Nat) : Prop := IsN num.natAbs den r ∧ (num ≠ 0 → g = decide (num < 0))
theorem isn_zero {d r : Nat} (hd : 0 < d) (h : IsN 0 d r) : r = 0 := IsN.eq hd Nat.one_pos (by simp [V_zero]) h (IsN.exact (den := 1) (r := 0) Nat.one_pos (by omega))
theorem sv_zero (g : Bool) : sv g 0 = 0 := by cases g <;> simp [sv, V_zero]
theorem sn_nonneg {n : Int} {d : Nat} {g : Bool} {r : Nat} (h : SN n d g r) (hd : 0 < d) (h0 : 0 ≤ n) : 0 ≤ sv g r := by
  by_cases hn : n = 0
  · subst hn
    rw [isn_zero hd h.1, sv_zero]
    omega
  · rw [h.2 hn, decide_eq_false (by omega), sv_f]
    omega
theorem sn_nonpos {n : Int} {d : Nat} {g : Bool} {r : Nat} (h : SN n d g r) (hd : 0 < d) (h0 : n ≤ 0) : sv g r ≤ 0 := by
  by_cases hn : n = 0
  · subst hn
    rw [isn_zero hd h.1, sv_zero]
    omega
  · rw [h.2 hn, decide_eq_true (by omega), sv_t]
    omega
theorem sn_mono {n1 n2 : Int} {d1 d2 : Nat} {g1 g2 : Bool} {r1 r2 : Nat} (h1 : SN n1 d1 g1 r1) (h2 : SN n2 d2 g2 r2) (p1 : 0 < d1) (p2 : 0 < d2) (h : n1 * d2 ≤ n2 * d1) : sv g1 r1 ≤ sv g2 r2 := by
  by_cases a1 : n1 ≤ 0
  · by_cases a2 : 0 ≤ n2
    · have := sn_nonpos h1 p1 a1
      have := sn_nonneg h2 p2 a2
      omega
    · have hz : n1 ≠ 0 := by
        rintro rfl
        have : n2 * d1 < 0 := Int.mul_neg_of_neg_of_pos (by omega) (by omega)
        omega
      have hr : r2 ≤ r1 := h2.1.mono p2 p1 (by
        have e1 : (n1.natAbs : Int) = -n1 := by omega
        have e2 : (n2.natAbs : Int) = -n2 := by omega
        have : ((n2.natAbs * d1 : Nat) : Int) ≤ ((n1.natAbs * d2 : Nat) : Int) := by
          rw [Int.natCast_mul, Int.natCast_mul, e1, e2, Int.neg_mul, Int.neg_mul]
          omega
        omega) h1.1
      rw [h1.2 hz, h2.2 (by omega), decide_eq_true (by omega), decide_eq_true (by omega), sv_t, sv_t]
      have := V_le hr
      omega
  · have a2 : 0 < n2 := by
      refine Decidable.byContradiction fun hn => ?_
      have q1 : n2 * d1 ≤ 0 := Int.mul_nonpos_of_nonpos_of_nonneg (by omega) (by omega)
      have q2 : 0 < n1 * d2 := Int.mul_pos (by omega) (by omega)
      omega
    have hr : r1 ≤ r2 := h1.1.mono p1 p2 (by
      have e1 : (n1.natAbs : Int) = n1 := by omega
      have e2 : (n2.natAbs : Int) = n2 := by omega
      have : ((n1.natAbs * d2 : Nat) : Int) ≤ ((n2.natAbs * d1 : Nat) : Int) := by
        rw [Int.natCast_mul, Int.natCast_mul, e1, e2]
        omega
      omega) h2.1
    rw [h1.2 (by omega), h2.2 (by omega), decide_eq_false (by omega), decide_eq_false (by omega), sv_f, sv_f]
    have := V_le hr
    omega
theorem sn_exact (g : Bool) (r : Nat) (hr : r ≤ 9218868437227405312) : SN (sv g r) 1 g r := by
  refine ⟨?_, fun h => ?_⟩
  · have := IsN.exact (den := 1) (r := r) Nat.one_pos hr
    rw [Nat.mul_one] at this
    rw [sv_abs]
    exact this
  · cases g
    · rw [sv_f] at h ⊢
      rw [decide_eq_false (by omega)]
    · rw [sv_t] at h ⊢
      rw [decide_eq_true (by omega)]
/-- What Add reckons, where it ends in a number: three roundings. -/
structure Next (rs : Nat) (gm : Bool) (qm : Nat) (g : Bool) (q : Nat) (gn : Bool) (qn : Nat) : Prop where
  ex : ∃ gd rd gp rp, SN (sv g q - sv gm qm) 1 gd rd ∧ SN ((V rs : Int) * sv gd rd) U gp rp ∧ SN (sv gm qm + sv gp rp) 1 gn qn
  lt : qn < 9218868437227405312
theorem next_fin {rs : Nat} {gm : Bool} {qm : Nat} {g : Bool} {q m : Nat} (s0 : 0 < rs) (s1 : rs < 9218868437227405312) (hm : qm < 9218868437227405312) (hq : q < 9218868437227405312) (h : nextM (double.word false rs) (double.word gm qm) (double.word g q) = some m) (hf : fin m = true) :
    ∃ gn qn, m = double.word gn qn ∧ Next rs gm qm g q gn qn := by
  unfold nextM at h
  obtain ⟨gd, rd, a1, a2, a3⟩ := sub_word g gm q qm hq hm
  rw [a1] at h
  replace h : (double.mul (double.word false rs) (double.word gd rd)).bind (fun p => double.add (double.word gm qm) p) = some m := h
  have inf : ∀ gg : Bool, double.word gg 9218868437227405312 = m → False := fun gg e => by
    rw [← e, fin_word gg _ (by decide)] at hf
    exact absurd hf (by decide)
  rcases Nat.lt_or_ge rd 9218868437227405312 with hd | hd
  · obtain ⟨rp, b1, b2⟩ := mul_word false gd rs rd s1 hd
    rw [b1] at h
    replace h : double.add (double.word gm qm) (double.word (false ^^ gd) rp) = some m := h
    rw [Bool.false_xor] at h
    rcases Nat.lt_or_ge rp 9218868437227405312 with hp | hp
    · obtain ⟨gn, rn, c1, c2, c3⟩ := add_word gm gd qm rp hm hp
      rw [c1] at h
      have em := Option.some.inj h
      rcases Nat.lt_or_ge rn 9218868437227405312 with hn | hn
      · refine ⟨gn, rn, em.symm, ⟨gd, rd, gd, rp, ⟨a2, a3⟩, ⟨?_, fun hz => ?_⟩, ⟨c2, c3⟩⟩, hn⟩
        · rw [Int.natAbs_mul, Int.natAbs_natCast, sv_abs]
          exact b2
        · have hv := V_pos s0
          cases gd
          · rw [sv_f, decide_eq_false]
            have : 0 ≤ (V rs : Int) * (V rd : Int) := Int.mul_nonneg (by omega) (by omega)
            omega
          · rw [sv_t] at hz ⊢
            rw [decide_eq_true]
            have : 0 ≤ (V rs : Int) * (V rd : Int) := Int.mul_nonneg (by omega) (by omega)
            rw [Int.mul_neg] at hz ⊢
            omega
      · obtain rfl : rn = 9218868437227405312 := Nat.le_antisymm c2.le hn
        exact (inf _ em).elim
    · obtain rfl : rp = 9218868437227405312 := Nat.le_antisymm b2.le hp
      rw [add_inf gm gd qm hm] at h
      exact (inf _ (Option.some.inj h)).elim
  · obtain rfl : rd = 9218868437227405312 := Nat.le_antisymm a2.le hd
    rw [mul_inf gd rs s0 s1] at h
    replace h : double.add (double.word gm qm) (double.word gd 9218868437227405312) = some m := h
    rw [add_inf gm gd qm hm] at h
    exact (inf _ (Option.some.inj h)).elim
section
variable {rs : Nat} {gm : Bool} {qm : Nat} {g g' : Bool} {q q' : Nat} {gn gn' : Bool} {qn qn' : Nat}
/-- Of two numbers the greater one gives no lesser mean. -/
theorem Next.mono (h : Next rs gm qm g q gn qn) (h' : Next rs gm qm g' q' gn' qn') (hl : sv g q ≤ sv g' q') : sv gn qn ≤ sv gn' qn' := by
  obtain ⟨gd, rd, gp, rp, a, b, c⟩ := h.ex
  obtain ⟨gd', rd', gp', rp', a', b', c'⟩ := h'.ex
  have u := U_pos
  have m1 : sv gd rd ≤ sv gd' rd' := sn_mono a a' Nat.one_pos Nat.one_pos (by omega)
  have m2 : sv gp rp ≤ sv gp' rp' := sn_mono b b' u u (Int.mul_le_mul_of_nonneg_right (Int.mul_le_mul_of_nonneg_left m1 (by omega)) (by omega))
  exact sn_mono c c' Nat.one_pos Nat.one_pos (by omega)
/-- A mean does not move away from what is added. -/
theorem Next.up (h : Next rs gm qm g q gn qn) (hm : qm < 9218868437227405312) (hl : sv gm qm ≤ sv g q) : sv gm qm ≤ sv gn qn := by
  obtain ⟨gd, rd, gp, rp, a, b, c⟩ := h.ex
  have m1 := sn_nonneg a Nat.one_pos (by omega)
  have m2 := sn_nonneg b U_pos (Int.mul_nonneg (by omega) m1)
  exact sn_mono (sn_exact gm qm (by omega)) c Nat.one_pos Nat.one_pos (by omega)
theorem Next.down (h : Next rs gm qm g q gn qn) (hm : qm < 9218868437227405312) (hl : sv g q ≤ sv gm qm) : sv gn qn ≤ sv gm qm := by
  obtain ⟨gd, rd, gp, rp, a, b, c⟩ := h.ex
  have m1 := sn_nonpos a Nat.one_pos (by omega)
  have m2 := sn_nonpos b U_pos (Int.mul_nonpos_of_nonneg_of_nonpos (by omega) m1)
  exact sn_mono c (sn_exact gm qm (by omega)) Nat.one_pos Nat.one_pos (by omega)
end
end Go.Proofs.Ythcjkdmlaahpbaa.Moves
