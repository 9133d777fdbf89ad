/- FitGrows: the plain law, and the join. -/
import Derived.Test.YteeocipidlnnlaaGrows
namespace Go.Proofs.Yteeocipidlnnlaa.GrowsB
open Go.RowKit Go.Proofs.Yteeocipidlnnlaa.Aid Go.Proofs.Yteeocipidlnnlaa.Mem Go.Proofs.Yteeocipidlnnlaa.Dist Go.Proofs.Yteeocipidlnnlaa.Types Go.Proofs.Yteeocipidlnnlaa.Fit Go.Proofs.Yteeocipidlnnlaa.Grows
set_option linter.unusedSimpArgs false
set_option linter.unusedVariables false
theorem or_bit (x y : Int) (k : Nat) (hx : 0 ≤ x ∧ x ≤ 255) (hy : 0 ≤ y ∧ y ≤ 255) (h : bits .or .u8 x y / 2 ^ k % 2 = 0) : x / 2 ^ k % 2 = 0 := by
  rw [u8_or x y hx.1 (by omega) hy.1 (by omega)] at h
  obtain ⟨a, rfl⟩ := Int.eq_ofNat_of_zero_le hx.1
  obtain ⟨b, rfl⟩ := Int.eq_ofNat_of_zero_le hy.1
  simp only [Int.toNat_natCast] at h
  have h2 : ((a ||| b) / 2 ^ k % 2 : Nat) = 0 := by exact_mod_cast h
  have h3 : (a / 2 ^ k % 2 : Nat) = 0 := by
    have t1 := Nat.testBit_eq_decide_div_mod_eq (x := a ||| b) (i := k)
    have t2 := Nat.testBit_eq_decide_div_mod_eq (x := a) (i := k)
    rw [Nat.testBit_or] at t1
    rw [h2] at t1
    simp at t1
    rw [t1.1] at t2
    have := of_decide_eq_false t2.symm
    omega
  exact_mod_cast h3
theorem no_class {x y c : Int} (hx : 0 ≤ x ∧ x ≤ 255) (hy : 0 ≤ y ∧ y ≤ 255) (h : noClass (bits .or .u8 x y) c = true) : noClass x c = true := by
  unfold noClass at *
  simp only [Bool.or_eq_true, decide_eq_true_eq] at *
  rcases h with h | h
  · exact Or.inl h
  · exact Or.inr (or_bit x y _ hx hy h)
theorem sub_why {r s : Req} {d e : Drv} (h1 : noClass s.classes e.cls = true → noClass r.classes d.cls = true) (h2 : e.seats < s.seats → d.seats < r.seats) (h3 : far s e = true → far r d = true) : (bits .and .u8 (why s e) (why r d) == why s e) = true := by
  unfold why
  by_cases a1 : noClass s.classes e.cls = true <;> by_cases b1 : noClass r.classes d.cls = true <;> by_cases a2 : e.seats < s.seats <;> by_cases b2 : d.seats < r.seats <;> by_cases a3 : far s e = true <;> by_cases b3 : far r d = true <;>
    first
    | exact absurd (h1 a1) b1
    | exact absurd (h2 a2) b2
    | exact absurd (h3 a3) b3
    | (simp only [a1, b1, a2, b2, a3, b3, if_true, if_false]; decide)
theorem grows (r : Req) (d : Drv) (m : More) (w : World) (hr : r.wf) (hd : d.wf) (hm : m.wf) :
    Calls Try.prog 5 #[r.val, d.val, m.val] w fun e w' => e = .returned (.bool true) ∧ Below w.heap.size w w' := by
  have kr := Rok.of hr
  have kd := Dok.of hd
  have mf := bounds_u8 hm.fewer
  have ms := bounds_u8 hm.seats
  have mc := bounds_u8 hm.classes
  have rs := kr.seats
  have ds := kd.seats
  have oc := bounds_u8 (wf_bits .or .u8 r.classes m.classes)
  rcases Int.lt_or_le m.fewer r.seats with h1 | h1 <;> rcases Int.lt_or_le d.seats m.seats with h2 | h2 <;> rcases Int.lt_or_le d.radius m.radius with h3 | h3
  · exact g5 r d m w kr kd ⟨kr.fx, kr.fy, kr.tx, kr.ty, by show 0 ≤ r.seats - m.fewer ∧ r.seats - m.fewer ≤ 255; omega, oc⟩ ⟨kd.ax, kd.ay, ms, kd.cls⟩ mf h1 h2 h3 (sub_why (no_class kr.classes mc) (by show m.seats < r.seats - m.fewer → _; omega) (by unfold far; simp only [decide_eq_true_eq]; omega))
  · exact g6 r d m w kr kd ⟨kr.fx, kr.fy, kr.tx, kr.ty, by show 0 ≤ r.seats - m.fewer ∧ r.seats - m.fewer ≤ 255; omega, oc⟩ ⟨kd.ax, kd.ay, ms, kd.cls⟩ mf h1 h2 h3 (sub_why (no_class kr.classes mc) (by show m.seats < r.seats - m.fewer → _; omega) (by unfold far; simp only [decide_eq_true_eq]; omega))
  · exact g7 r d m w kr kd ⟨kr.fx, kr.fy, kr.tx, kr.ty, by show 0 ≤ r.seats - m.fewer ∧ r.seats - m.fewer ≤ 255; omega, oc⟩ ⟨kd.ax, kd.ay, kd.seats, kd.cls⟩ mf h1 h2 h3 (sub_why (no_class kr.classes mc) (by show d.seats < r.seats - m.fewer → _; omega) (by unfold far; simp only [decide_eq_true_eq]; omega))
  · exact g8 r d m w kr kd ⟨kr.fx, kr.fy, kr.tx, kr.ty, by show 0 ≤ r.seats - m.fewer ∧ r.seats - m.fewer ≤ 255; omega, oc⟩ ⟨kd.ax, kd.ay, kd.seats, kd.cls⟩ mf h1 h2 h3 (sub_why (no_class kr.classes mc) (by show d.seats < r.seats - m.fewer → _; omega) (by unfold far; simp only [decide_eq_true_eq]; omega))
  · exact g1 r d m w kr kd ⟨kr.fx, kr.fy, kr.tx, kr.ty, by show (0 : Int) ≤ 0 ∧ (0 : Int) ≤ 255; omega, oc⟩ ⟨kd.ax, kd.ay, ms, kd.cls⟩ mf h1 h2 h3 (sub_why (no_class kr.classes mc) (by show m.seats < 0 → _; omega) (by unfold far; simp only [decide_eq_true_eq]; omega))
  · exact g2 r d m w kr kd ⟨kr.fx, kr.fy, kr.tx, kr.ty, by show (0 : Int) ≤ 0 ∧ (0 : Int) ≤ 255; omega, oc⟩ ⟨kd.ax, kd.ay, ms, kd.cls⟩ mf h1 h2 h3 (sub_why (no_class kr.classes mc) (by show m.seats < 0 → _; omega) (by unfold far; simp only [decide_eq_true_eq]; omega))
  · exact g3 r d m w kr kd ⟨kr.fx, kr.fy, kr.tx, kr.ty, by show (0 : Int) ≤ 0 ∧ (0 : Int) ≤ 255; omega, oc⟩ ⟨kd.ax, kd.ay, kd.seats, kd.cls⟩ mf h1 h2 h3 (sub_why (no_class kr.classes mc) (by show d.seats < 0 → _; omega) (by unfold far; simp only [decide_eq_true_eq]; omega))
  · exact g4 r d m w kr kd ⟨kr.fx, kr.fy, kr.tx, kr.ty, by show (0 : Int) ≤ 0 ∧ (0 : Int) ≤ 255; omega, oc⟩ ⟨kd.ax, kd.ay, kd.seats, kd.cls⟩ mf h1 h2 h3 (sub_why (no_class kr.classes mc) (by show d.seats < 0 → _; omega) (by unfold far; simp only [decide_eq_true_eq]; omega))
end Go.Proofs.Yteeocipidlnnlaa.GrowsB
