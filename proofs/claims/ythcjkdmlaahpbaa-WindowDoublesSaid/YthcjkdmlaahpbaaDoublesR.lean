/- Plain law of WindowDoubles: one step of both means, and the whole list. -/
import Derived.Test.YthcjkdmlaahpbaaDoublesQ
import Derived.Test.YthcjkdmlaahpbaaMovesJ
namespace Go.Proofs.Ythcjkdmlaahpbaa.Moves
open Go.Proofs.Ythcjkdmlaahpbaa.Fl Go.Proofs.Ythcjkdmlaahpbaa.Smooth Go.Proofs.Ythcjkdmlaahpbaa.Added Go.Proofs.Ythcjkdmlaahpbaa.Smooths
open Ieee (double Toward Format)
set_option linter.unusedVariables false
theorem K1 : V 1288029493427961856 * 1 = P2 337 := by decide +kernel
theorem K2 : P2 337 * P2 1074 = P2 1054 * P2 357 := by decide +kernel
theorem K3 : V 4517110426252607488 = P2 1054 := by decide +kernel
theorem K4 : V 1378101485975371776 = P2 357 := by decide +kernel
theorem U_P : U = P2 1074 := by decide +kernel
section
variable {rs : Nat} {gm gm' : Bool} {qm qm' : Nat} {g g' : Bool} {q q' : Nat} {gn gn' : Bool} {qn qn' : Nat}
/-- Twice as much, twice the mean. -/
theorem Next.two (h : Next rs gm qm g q gn qn) (h' : Next rs gm' qm' g' q' gn' qn') (hs : V rs ≤ U) (hs2 : P2 1054 ≤ V rs) (em : sv gm' qm' = 2 * sv gm qm) (ex : sv g' q' = 2 * sv g q) (m : V qm ≤ BB) (x : V q ≤ BB) (dm : V qm = 0 ∨ P2 409 ≤ V qm) (dx : V q = 0 ∨ P2 409 ≤ V q) : sv gn' qn' = 2 * sv gn qn := by
  obtain ⟨gd, rd, gp, rp, a, b, c⟩ := h.ex
  obtain ⟨gd', rd', gp', rp', a', b', c'⟩ := h'.ex
  have am := sv_abs gm qm
  have ax := sv_abs g q
  have b1 : (sv g q - sv gm qm).natAbs ≤ 2 * BB := by omega
  have c1 : rd ≤ 6111384694341763072 := rung_le a.1 BB2 (by omega) b1
  have s1 : sv gd' rd' = 2 * sv gd rd := sn_two a (by rw [em, ex] at a'; rwa [← Int.mul_sub] at a') (by omega)
  have c2 : rp ≤ rd := b.1.mono U_pos Nat.one_pos (by rw [Int.natAbs_mul, Int.natAbs_natCast, sv_abs, Nat.mul_one, Nat.mul_one, Nat.mul_comm (V rd)]; exact Nat.mul_le_mul_right _ hs) (IsN.exact (den := 1) (r := rd) Nat.one_pos (by omega))
  have s2 : sv gp' rp' = 2 * sv gp rp := by
    refine sn_up U_pos b (by rw [s1] at b'; rwa [Int.mul_left_comm] at b') ?_ (by omega)
    by_cases hz : sv g q - sv gm qm = 0
    · left
      have hr : rd = 0 := isn_zero Nat.one_pos (by have := a.1; rwa [hz] at this)
      rw [hr, sv_zero, Int.mul_zero]
    · right
      have hd : ((P2 357 : Nat) : Int) ∣ sv g q - sv gm qm := Int.dvd_sub (sv_dvd dx) (sv_dvd dm)
      have hd2 : P2 357 ∣ (sv g q - sv gm qm).natAbs := Int.ofNat_dvd_left.1 hd
      have hd3 : P2 357 ≤ (sv g q - sv gm qm).natAbs := Nat.le_of_dvd (by omega) hd2
      have e1 : 1378101485975371776 ≤ rd := (IsN.exact (den := 1) (r := 1378101485975371776) Nat.one_pos (by omega)).mono Nat.one_pos Nat.one_pos (by rw [K4]; omega) a.1
      have e2 : P2 357 ≤ V rd := by rw [← K4]; exact V_le e1
      have e3 : 1288029493427961856 ≤ rp := by
        refine (IsN.exact (den := 1) (r := 1288029493427961856) Nat.one_pos (by omega)).mono Nat.one_pos U_pos ?_ b.1
        rw [K1, Int.natAbs_mul, Int.natAbs_natCast, sv_abs, Nat.mul_one, U_P, K2]
        exact Nat.mul_le_mul hs2 e2
      omega
  refine sn_two c (by rw [em, s2] at c'; rwa [← Int.mul_add] at c') ?_
  have ap := sv_abs gp rp
  have hV := V_le (Nat.le_trans c2 c1)
  rw [BB2] at hV
  have b2 : (sv gm qm + sv gp rp).natAbs ≤ 4 * BB := by omega
  have := rung_le c.1 BB4 (by omega) b2
  omega
end
/-- A number that is 0, or far from the ends of float64. -/
def Calm (x : Nat) : Prop := ∃ g q, x = double.word g q ∧ q < 6106881094714392576 ∧ (V q = 0 ∨ P2 409 ≤ V q)
/-- A number and twice it. -/
def Dbl (x y : Nat) : Prop := ∃ g q g' q', x = double.word g q ∧ y = double.word g' q' ∧ q < 9218868437227405312 ∧ q' < 9218868437227405312 ∧ sv g' q' = 2 * sv g q
theorem sv_bound {g : Bool} {q : Nat} (h : V q ≤ BB) : -(BB : Int) ≤ sv g q ∧ sv g q ≤ BB := by
  have := sv_abs g q
  omega
theorem word_inj {g g' : Bool} {q q' : Nat} (hq : q < 9223372036854775808) (hq' : q' < 9223372036854775808) (h : double.word g q = double.word g' q') : g = g' ∧ q = q' := by
  cases g <;> cases g' <;> simp only [word_f, word_t] at h
  · exact ⟨rfl, h⟩
  · omega
  · omega
  · exact ⟨rfl, by omega⟩
/-- A mean that is told: 0, or not too near to it. -/
def Told (m : Nat) : Prop := ∀ g q, m = double.word g q → q < 9218868437227405312 → V q = 0 ∨ P2 409 ≤ V q
/-- The state of both means. -/
def Both (mn mn2 : Nat) (any : Bool) : Prop := OkM mn any ∧ OkM mn2 any ∧ (any = true → ∃ g q g' q', mn = double.word g q ∧ mn2 = double.word g' q' ∧ q < 9218868437227405312 ∧ q' < 9218868437227405312 ∧ sv g' q' = 2 * sv g q ∧ V q ≤ BB ∧ (V q = 0 ∨ P2 409 ≤ V q))
theorem step_two {rs x y mn mn2 : Nat} {any : Bool} (s0 : 0 < rs) (s1 : rs < 9218868437227405312) (hs : V rs ≤ U) (hs2 : P2 1054 ≤ V rs) (hx : Calm x) (hd : Dbl x y) (h : Both mn mn2 any) (hT : ∀ m, outF (double.word false rs) mn any x = (m, 0, m, true) → Told m) :
    ∃ m m2, outF (double.word false rs) mn any x = (m, 0, m, true) ∧ outF (double.word false rs) mn2 any y = (m2, 0, m2, true) ∧ Both m m2 true := by
  obtain ⟨g, q, e1, hq, hc⟩ := hx
  obtain ⟨g0, q0, g', q', e2, e3, hq0, hq', hdb⟩ := hd
  obtain ⟨rfl, rfl⟩ := word_inj (by omega) (by omega) (e1.symm.trans e2)
  have hVq : V q ≤ BB := V_le (Nat.le_of_lt hq)
  have hVq' : V q' ≤ 2 * BB := by
    have := sv_abs g q
    have := sv_abs g' q'
    omega
  have fx : fin x = true := by rw [e1, fin_word g q (by omega)]; exact decide_eq_true hq0
  have fy : fin y = true := by rw [e3, fin_word g' q' (by omega)]; exact decide_eq_true hq'
  obtain ⟨o1, o2, o3⟩ := h
  cases any
  · refine ⟨x, y, by unfold outF; rw [fx, if_pos rfl, if_neg (by decide)], by unfold outF; rw [fy, if_pos rfl, if_neg (by decide)], .inr ⟨rfl, g, q, e1, hq0⟩, .inr ⟨rfl, g', q', e3, hq'⟩, fun _ => ⟨g, q, g', q', e1, e3, hq0, hq', hdb, hVq, hc⟩⟩
  · obtain ⟨gm, qm, gm', qm', em, em2, hm, hm', hmd, hmB, hmc⟩ := o3 rfl
    have hmB' : V qm' ≤ 2 * BB := by
      have := sv_abs gm qm
      have := sv_abs gm' qm'
      omega
    obtain ⟨a, na, fa⟩ := next_ex s0 s1 hs hm hq0 (g := g) (gm := gm) (by omega) (by omega)
    obtain ⟨b, nb, fb⟩ := next_ex s0 s1 hs hm' hq' (g := g') (gm := gm') hmB' hVq'
    obtain ⟨gn, qn, ea, N1⟩ := next_fin s0 s1 hm hq0 na fa
    obtain ⟨gn', qn', eb, N2⟩ := next_fin s0 s1 hm' hq' nb fb
    have ha : outF (double.word false rs) mn true x = (a, 0, a, true) := by
      unfold outF
      rw [fx, if_pos rfl, if_pos rfl, em, e1, na]
      dsimp only
      rw [fa, if_pos rfl]
    have hb : outF (double.word false rs) mn2 true y = (b, 0, b, true) := by
      unfold outF
      rw [fy, if_pos rfl, if_pos rfl, em2, e3, nb]
      dsimp only
      rw [fb, if_pos rfl]
    have hT' := hT a ha gn qn ea N1.lt
    obtain ⟨x0, x1⟩ := sv_bound (g := g) hVq
    obtain ⟨m0, m1⟩ := sv_bound (g := gm) hmB
    have cap := N1.cap hm hs m0 m1 x1
    have capn := N1.capn hm hs m0 m1 x0
    have hn := sv_abs gn qn
    exact ⟨a, b, ha, hb, .inr ⟨rfl, gn, qn, ea, N1.lt⟩, .inr ⟨rfl, gn', qn', eb, N2.lt⟩, fun _ => ⟨gn, qn, gn', qn', ea, eb, N1.lt, N2.lt, N1.two N2 hs hs2 hmd hdb hmB hVq hmc hc, by omega, hT'⟩⟩
end Go.Proofs.Ythcjkdmlaahpbaa.Moves
