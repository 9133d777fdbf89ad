/- Plain law of WindowDoubles: bounds, and one step of both means. -/
import Derived.Test.YthcjkdmlaahpbaaDoublesP
namespace Go.Proofs.Ythcjkdmlaahpbaa.Moves
open Go.Proofs.Ythcjkdmlaahpbaa.Fl Go.Proofs.Ythcjkdmlaahpbaa.Smooth Go.Proofs.Ythcjkdmlaahpbaa.Added
open Ieee (double Toward Format)
set_option linter.unusedVariables false
/-- Beyond this no number is (in units of 2^-1074): 2^333. -/
def BB : Nat := V 6106881094714392576
def HH : Nat := V (6106881094714392576 + 1) - V 6106881094714392576
/-- A power of two, not to be reckoned. -/
def P2 (n : Nat) : Nat := 2 ^ n
theorem P2_le {a b : Nat} (h : a ≤ b) : P2 a ≤ P2 b := Nat.pow_le_pow_right (by omega) h
theorem P2_dvd {a b : Nat} (h : a ≤ b) : P2 a ∣ 2 ^ b := Nat.pow_dvd_pow 2 h
theorem P2_pos (a : Nat) : 0 < P2 a := Nat.two_pow_pos a
theorem BB2 : V 6111384694341763072 = 2 * BB := by decide +kernel
theorem BB4 : V 6115888293969133568 = 4 * BB := by decide +kernel
theorem BB8 : V 6120391893596504064 = 8 * BB := by decide +kernel
theorem HH_def : HH = P2 1355 := by decide +kernel
theorem BH : V (6106881094714392576 + 1) = BB + HH := by decide +kernel
theorem P409 : 9007199254740992 * P2 356 = P2 409 := by decide +kernel
theorem V_gap {s : Nat} (h : s < 6111384694341763072) : V (s + 1) ≤ V s + HH := by
  obtain ⟨L, k, rfl, hk, hk2, _⟩ := split s
  rw [Nat.add_assoc, V_val L k hk (by omega), V_val L (k + 1) (by omega) (by omega), Nat.add_mul, Nat.one_mul, HH_def]
  have : 2 ^ L ≤ P2 1355 := P2_le (a := L) (b := 1355) (by omega)
  omega
theorem isn_err {n r : Nat} (h : IsN n 1 r) (hn : n ≤ 2 * BB) : 2 * V r ≤ 2 * n + HH := by
  cases r with
  | zero => rw [V_zero]; omega
  | succ s =>
    obtain ⟨l1, _⟩ := h.lo s rfl
    rw [Nat.one_mul] at l1
    have hs : s < 6111384694341763072 := by
      refine Nat.lt_of_not_le fun hh => ?_
      have h1 := V_le hh
      have h2 := V_succ s
      rw [BB2] at h1
      omega
    have := V_gap hs
    omega
theorem isn_cap {n r : Nat} (h : IsN n 1 r) (hn : 2 * n ≤ 2 * BB + HH) : V r ≤ BB := by
  refine Nat.le_of_not_lt fun hh => ?_
  have hr : 6106881094714392576 < r := V_lt_iff.1 hh
  obtain ⟨s, rfl⟩ : ∃ s, r = s + 1 := ⟨r - 1, by omega⟩
  obtain ⟨l1, l2⟩ := h.lo s rfl
  rw [Nat.one_mul] at l1 l2
  have h1 : BB ≤ V s := V_le (show 6106881094714392576 ≤ s by omega)
  have h2 : BB + HH ≤ V (s + 1) := by rw [← BH]; exact V_le (by omega)
  have e : V s = BB := by omega
  have e2 : s = 6106881094714392576 := V_inj e
  have := l2 (by omega)
  omega
theorem SN.neg {n : Int} {d : Nat} {g : Bool} {r : Nat} (h : SN n d g r) : SN (-n) d (!g) r := by
  refine ⟨by rw [Int.natAbs_neg]; exact h.1, fun hz => ?_⟩
  rw [h.2 (by omega)]
  by_cases h1 : n < 0
  · rw [decide_eq_true h1, decide_eq_false (by omega)]; rfl
  · rw [decide_eq_false h1, decide_eq_true (by omega)]; rfl
section
variable {rs : Nat} {gm : Bool} {qm : Nat} {g : Bool} {q : Nat} {gn : Bool} {qn : Nat}
theorem Next.neg (h : Next rs gm qm g q gn qn) : Next rs (!gm) qm (!g) q (!gn) qn := by
  obtain ⟨gd, rd, gp, rp, a, b, c⟩ := h.ex
  refine ⟨⟨!gd, rd, !gp, rp, ?_, ?_, ?_⟩, h.lt⟩
  · rw [sv_not, sv_not, show -sv g q - -sv gm qm = -(sv g q - sv gm qm) by omega]
    exact SN.neg a
  · rw [sv_not, Int.mul_neg]
    exact SN.neg b
  · rw [sv_not, sv_not, show -sv gm qm + -sv gp rp = -(sv gm qm + sv gp rp) by omega]
    exact SN.neg c
/-- A mean does not go beyond the bound. -/
theorem Next.cap (h : Next rs gm qm g q gn qn) (hm : qm < 9218868437227405312) (hs : V rs ≤ U) (m0 : -(BB : Int) ≤ sv gm qm) (m1 : sv gm qm ≤ BB) (x1 : sv g q ≤ BB) : sv gn qn ≤ BB := by
  by_cases hn : sv g q ≤ sv gm qm
  · have := h.down hm hn
    omega
  · obtain ⟨gd, rd, gp, rp, a, b, c⟩ := h.ex
    have e1 := sv_of gd rd _ a Nat.one_pos
    rw [if_neg (by omega)] at e1
    have er := isn_err a.1 (by omega)
    have hp : sv gp rp ≤ sv gd rd := by
      refine sn_mono b (sn_exact gd rd a.1.le) U_pos Nat.one_pos ?_
      rw [e1]
      have := Nat.mul_le_mul_right (V rd) hs
      have h2 : ((V rs * V rd : Nat) : Int) ≤ ((U * V rd : Nat) : Int) := by omega
      rw [Int.natCast_mul, Int.natCast_mul] at h2
      rw [Int.mul_comm (V rd : Int) (U : Int)]
      omega
    by_cases hc : sv gm qm + sv gp rp ≤ 0
    · have := sn_nonpos c Nat.one_pos hc
      omega
    · have e3 := sv_of gn qn _ c Nat.one_pos
      rw [if_neg (by omega)] at e3
      have := isn_cap c.1 (by omega)
      omega
theorem Next.capn (h : Next rs gm qm g q gn qn) (hm : qm < 9218868437227405312) (hs : V rs ≤ U) (m0 : -(BB : Int) ≤ sv gm qm) (m1 : sv gm qm ≤ BB) (x0 : -(BB : Int) ≤ sv g q) : -(BB : Int) ≤ sv gn qn := by
  have := h.neg.cap hm hs (by rw [sv_not]; omega) (by rw [sv_not]; omega) (by rw [sv_not]; omega)
  rw [sv_not] at this
  omega
theorem rung_le {n r R z : Nat} (h : IsN n 1 r) (hV : V R = z) (hR : R ≤ 9218868437227405312) (hn : n ≤ z) : r ≤ R :=
  h.mono Nat.one_pos Nat.one_pos (by rw [hV, Nat.mul_one, Nat.mul_one, Nat.mul_one]; exact hn) (IsN.exact (den := 1) (r := R) Nat.one_pos hR)
/-- Within the bounds nothing is infinite. -/
theorem next_ex (s0 : 0 < rs) (s1 : rs < 9218868437227405312) (hs : V rs ≤ U) (hm : qm < 9218868437227405312) (hq : q < 9218868437227405312) (m : V qm ≤ 2 * BB) (x : V q ≤ 2 * BB) :
    ∃ mn, nextM (double.word false rs) (double.word gm qm) (double.word g q) = some mn ∧ fin mn = true := by
  obtain ⟨gd, rd, a1, a2, a3⟩ := sub_word g gm q qm hq hm
  have b1 : (sv g q - sv gm qm).natAbs ≤ 4 * BB := by
    have := sv_abs g q
    have := sv_abs gm qm
    omega
  have c1 := rung_le a2 BB4 (by omega) b1
  obtain ⟨rp, p1, p2⟩ := mul_word false gd rs rd s1 (by omega)
  have c2 : rp ≤ rd := p2.mono U_pos Nat.one_pos (by rw [Nat.mul_one, Nat.mul_one, Nat.mul_comm]; exact Nat.mul_le_mul_left _ hs) (IsN.exact (den := 1) (r := rd) Nat.one_pos (by omega))
  obtain ⟨gn, qn, d1, d2, d3⟩ := add_word gm (false ^^ gd) qm rp hm (by omega)
  have b2 : (sv gm qm + sv (false ^^ gd) rp).natAbs ≤ 8 * BB := by
    have := sv_abs gm qm
    have := sv_abs (false ^^ gd) rp
    have := V_le (Nat.le_trans c2 c1)
    rw [BB4] at this
    omega
  have c3 := rung_le d2 BB8 (by omega) b2
  refine ⟨double.word gn qn, ?_, by rw [fin_word gn qn (by omega)]; exact decide_eq_true (by omega)⟩
  unfold nextM
  rw [a1]
  show (double.mul (double.word false rs) (double.word gd rd)).bind _ = _
  rw [p1]
  exact d1
/-- Numbers that are not too near to 0 are multiples of a great power of two. -/
theorem V_dvd {r : Nat} (h : P2 409 ≤ V r) : P2 357 ∣ V r := by
  obtain ⟨L, k, rfl, hk, hk2, _⟩ := split r
  rw [V_val L k hk (by omega)] at h ⊢
  by_cases hL : 357 ≤ L
  · exact Nat.dvd_trans (P2_dvd hL) (Nat.dvd_mul_left _ _)
  · have h1 : 2 ^ L ≤ P2 356 := P2_le (a := L) (b := 356) (by omega)
    have h2 : k * 2 ^ L < 9007199254740992 * P2 356 := Nat.lt_of_le_of_lt (Nat.mul_le_mul_left _ h1) (Nat.mul_lt_mul_of_pos_right hk2 (P2_pos _))
    rw [P409] at h2
    omega
theorem sv_dvd {g : Bool} {r : Nat} (h : V r = 0 ∨ P2 409 ≤ V r) : ((P2 357 : Nat) : Int) ∣ sv g r := by
  have h1 : P2 357 ∣ V r := by
    rcases h with h | h
    · rw [h]; exact Nat.dvd_zero _
    · exact V_dvd h
  have h2 : ((P2 357 : Nat) : Int) ∣ ((V r : Nat) : Int) := Int.natCast_dvd_natCast.2 h1
  cases g
  · exact h2
  · exact (Int.dvd_neg).2 h2
end
end Go.Proofs.Ythcjkdmlaahpbaa.Moves
