/- FareSteps: the join of the walks. -/
import Derived.Test.YtfehdajjnbehdaaStepsA
import Derived.Test.YtfehdajjnbehdaaStepsB
import Derived.Test.YtfehdajjnbehdaaStepsC
import Derived.Test.YtfehdajjnbehdaaStepsD
namespace Go.Proofs.Ytfehdajjnbehdaa.Steps
open Go.RowKit Go.Proofs.Ytfehdajjnbehdaa.Aid Go.Proofs.Ytfehdajjnbehdaa.Fl Go.Proofs.Ytfehdajjnbehdaa.Surge Go.Proofs.Ytfehdajjnbehdaa.Types Go.Proofs.Ytfehdajjnbehdaa.Price
set_option linter.unusedVariables false
theorem prod_bound {k b : Int} (h0 : 0 ≤ k) (h1 : k ≤ 13) (h2 : 0 ≤ b) (h3 : b < 1099511627776) : IntKind.i64.wrap (k * b) = k * b := by
  have n1 : 0 ≤ k * b := Int.mul_nonneg h0 h2
  have n2 : k * b ≤ 13 * 1099511627776 := Int.mul_le_mul h1 (by omega) h2 (by omega)
  exact i64_in (by omega) (by omega)
/-- FareSteps answers true. -/
theorem steps_all (x : Qua) (w : World) (wx : x.wf) : Calls Try.prog 6 #[x.val] w fun e w' => e = .returned (.bool true) ∧ Below w.heap.size w w' := by
  obtain ⟨a, c, b, d⟩ := x
  clear wx
  obtain ⟨v, e, s1, _⟩ := sur_any a b
  obtain ⟨u, g, s2, _⟩ := sur_any c d
  have H1 := Lib.hid s1
  have H2 := Lib.hid s2
  by_cases ha : Nu a
  case neg =>
    obtain ⟨rfl, rfl⟩ := sur_bad (fun h => ha h.1) s1
    exact steps_bad1 a c b d w u g ha H1 H2
  by_cases hb : Nu b
  case neg =>
    obtain ⟨rfl, rfl⟩ := sur_bad (fun h => hb h.2) s1
    exact steps_bad2 a c b d w u g ha hb H1 H2
  obtain ⟨rfl, i, x1, rfl⟩ := sur_ix ha hb s1
  have hi := ix_le ha hb x1
  have f := Fl.of hi
  by_cases hc : Nu c
  case neg =>
    obtain ⟨rfl, rfl⟩ := sur_bad (fun h => hc h.1) s2
    exact steps_bad3 a c b d w i ha hb H1 f hc H2
  by_cases hd : Nu d
  case neg =>
    obtain ⟨rfl, rfl⟩ := sur_bad (fun h => hd h.2) s2
    exact steps_bad4 a c b d w i ha hb H1 f hc hd H2
  obtain ⟨rfl, j, x2, rfl⟩ := sur_ix hc hd s2
  have hj := ix_le hc hd x2
  have lt : a ≤ c → d ≤ b → (FloatKind.f64.format.order (stepB j) (stepB i) == some .lt) = false := fun h1 h2 => by
    have := ix_mono ha hb hc hd x1 x2 h1 h2
    exact (step_cmp ⟨i, by omega⟩ ⟨j, by omega⟩).1.trans (decide_eq_false (by dsimp only; omega))
  have gt : c ≤ a → b ≤ d → (FloatKind.f64.format.order (stepB j) (stepB i) == some .gt) = false := fun h1 h2 => by
    have := ix_mono hc hd ha hb x2 x1 h1 h2
    exact (step_cmp ⟨i, by omega⟩ ⟨j, by omega⟩).2.trans (decide_eq_false (by dsimp only; omega))
  have a0 := ha.1
  have b0 := hb.1
  have a9 := ha.2
  have b9 := hb.2
  by_cases q1 : 0 < b
  case neg =>
    rcases Int.lt_trichotomy a c with h1 | h1 | h1 <;> rcases Int.lt_trichotomy d b with h2 | h2 | h2
    · exact steps_40 a c b d w i ha hb H1 f hc hd j H2 (decide_eq_true (by omega)) (decide_eq_true (by omega)) (decide_eq_false (by omega)) (lt (by omega) (by omega)) (decide_eq_false (by omega))
    · exact steps_40 a c b d w i ha hb H1 f hc hd j H2 (decide_eq_true (by omega)) (decide_eq_true (by omega)) (decide_eq_false (by omega)) (lt (by omega) (by omega)) (decide_eq_false (by omega))
    · exact steps_20 a c b d w i ha hb H1 f hc hd j H2 (decide_eq_true (by omega)) (decide_eq_false (by omega)) (decide_eq_false (by omega)) (decide_eq_false (by omega))
    · exact steps_50 a c b d w i ha hb H1 f hc hd j H2 (decide_eq_true (by omega)) (decide_eq_true (by omega)) (decide_eq_true (by omega)) (decide_eq_false (by omega)) (lt (by omega) (by omega)) (decide_eq_false (by omega))
    · exact steps_60 a c b d w i ha hb H1 f hc hd j H2 (decide_eq_true (by omega)) (decide_eq_true (by omega)) (decide_eq_true (by omega)) (decide_eq_true (by omega)) (lt (by omega) (by omega)) (gt (by omega) (by omega)) (decide_eq_false (by omega))
    · exact steps_30 a c b d w i ha hb H1 f hc hd j H2 (decide_eq_true (by omega)) (decide_eq_false (by omega)) (decide_eq_true (by omega)) (decide_eq_true (by omega)) (gt (by omega) (by omega)) (decide_eq_false (by omega))
    · exact steps_00 a c b d w i ha hb H1 f hc hd j H2 (decide_eq_false (by omega)) (decide_eq_true (by omega)) (decide_eq_false (by omega)) (decide_eq_false (by omega))
    · exact steps_10 a c b d w i ha hb H1 f hc hd j H2 (decide_eq_false (by omega)) (decide_eq_true (by omega)) (decide_eq_true (by omega)) (gt (by omega) (by omega)) (decide_eq_false (by omega))
    · exact steps_10 a c b d w i ha hb H1 f hc hd j H2 (decide_eq_false (by omega)) (decide_eq_true (by omega)) (decide_eq_true (by omega)) (gt (by omega) (by omega)) (decide_eq_false (by omega))
  by_cases q2 : b < 1099511627776
  case neg =>
    rcases Int.lt_trichotomy a c with h1 | h1 | h1 <;> rcases Int.lt_trichotomy d b with h2 | h2 | h2
    · exact steps_41 a c b d w i ha hb H1 f hc hd j H2 (decide_eq_true (by omega)) (decide_eq_true (by omega)) (decide_eq_false (by omega)) (lt (by omega) (by omega)) (decide_eq_true (by omega)) (decide_eq_false (by omega))
    · exact steps_41 a c b d w i ha hb H1 f hc hd j H2 (decide_eq_true (by omega)) (decide_eq_true (by omega)) (decide_eq_false (by omega)) (lt (by omega) (by omega)) (decide_eq_true (by omega)) (decide_eq_false (by omega))
    · exact steps_21 a c b d w i ha hb H1 f hc hd j H2 (decide_eq_true (by omega)) (decide_eq_false (by omega)) (decide_eq_false (by omega)) (decide_eq_true (by omega)) (decide_eq_false (by omega))
    · exact steps_51 a c b d w i ha hb H1 f hc hd j H2 (decide_eq_true (by omega)) (decide_eq_true (by omega)) (decide_eq_true (by omega)) (decide_eq_false (by omega)) (lt (by omega) (by omega)) (decide_eq_true (by omega)) (decide_eq_false (by omega))
    · exact steps_61 a c b d w i ha hb H1 f hc hd j H2 (decide_eq_true (by omega)) (decide_eq_true (by omega)) (decide_eq_true (by omega)) (decide_eq_true (by omega)) (lt (by omega) (by omega)) (gt (by omega) (by omega)) (decide_eq_true (by omega)) (decide_eq_false (by omega))
    · exact steps_31 a c b d w i ha hb H1 f hc hd j H2 (decide_eq_true (by omega)) (decide_eq_false (by omega)) (decide_eq_true (by omega)) (decide_eq_true (by omega)) (gt (by omega) (by omega)) (decide_eq_true (by omega)) (decide_eq_false (by omega))
    · exact steps_01 a c b d w i ha hb H1 f hc hd j H2 (decide_eq_false (by omega)) (decide_eq_true (by omega)) (decide_eq_false (by omega)) (decide_eq_true (by omega)) (decide_eq_false (by omega))
    · exact steps_11 a c b d w i ha hb H1 f hc hd j H2 (decide_eq_false (by omega)) (decide_eq_true (by omega)) (decide_eq_true (by omega)) (gt (by omega) (by omega)) (decide_eq_true (by omega)) (decide_eq_false (by omega))
    · exact steps_11 a c b d w i ha hb H1 f hc hd j H2 (decide_eq_false (by omega)) (decide_eq_true (by omega)) (decide_eq_true (by omega)) (gt (by omega) (by omega)) (decide_eq_true (by omega)) (decide_eq_false (by omega))
  by_cases q3 : a < 1099511627776
  case neg =>
    rcases Int.lt_trichotomy a c with h1 | h1 | h1 <;> rcases Int.lt_trichotomy d b with h2 | h2 | h2
    · exact steps_42 a c b d w i ha hb H1 f hc hd j H2 (decide_eq_true (by omega)) (decide_eq_true (by omega)) (decide_eq_false (by omega)) (lt (by omega) (by omega)) (decide_eq_true (by omega)) (decide_eq_true (by omega)) (decide_eq_false (by omega))
    · exact steps_42 a c b d w i ha hb H1 f hc hd j H2 (decide_eq_true (by omega)) (decide_eq_true (by omega)) (decide_eq_false (by omega)) (lt (by omega) (by omega)) (decide_eq_true (by omega)) (decide_eq_true (by omega)) (decide_eq_false (by omega))
    · exact steps_22 a c b d w i ha hb H1 f hc hd j H2 (decide_eq_true (by omega)) (decide_eq_false (by omega)) (decide_eq_false (by omega)) (decide_eq_true (by omega)) (decide_eq_true (by omega)) (decide_eq_false (by omega))
    · exact steps_52 a c b d w i ha hb H1 f hc hd j H2 (decide_eq_true (by omega)) (decide_eq_true (by omega)) (decide_eq_true (by omega)) (decide_eq_false (by omega)) (lt (by omega) (by omega)) (decide_eq_true (by omega)) (decide_eq_true (by omega)) (decide_eq_false (by omega))
    · exact steps_62 a c b d w i ha hb H1 f hc hd j H2 (decide_eq_true (by omega)) (decide_eq_true (by omega)) (decide_eq_true (by omega)) (decide_eq_true (by omega)) (lt (by omega) (by omega)) (gt (by omega) (by omega)) (decide_eq_true (by omega)) (decide_eq_true (by omega)) (decide_eq_false (by omega))
    · exact steps_32 a c b d w i ha hb H1 f hc hd j H2 (decide_eq_true (by omega)) (decide_eq_false (by omega)) (decide_eq_true (by omega)) (decide_eq_true (by omega)) (gt (by omega) (by omega)) (decide_eq_true (by omega)) (decide_eq_true (by omega)) (decide_eq_false (by omega))
    · exact steps_02 a c b d w i ha hb H1 f hc hd j H2 (decide_eq_false (by omega)) (decide_eq_true (by omega)) (decide_eq_false (by omega)) (decide_eq_true (by omega)) (decide_eq_true (by omega)) (decide_eq_false (by omega))
    · exact steps_12 a c b d w i ha hb H1 f hc hd j H2 (decide_eq_false (by omega)) (decide_eq_true (by omega)) (decide_eq_true (by omega)) (gt (by omega) (by omega)) (decide_eq_true (by omega)) (decide_eq_true (by omega)) (decide_eq_false (by omega))
    · exact steps_12 a c b d w i ha hb H1 f hc hd j H2 (decide_eq_false (by omega)) (decide_eq_true (by omega)) (decide_eq_true (by omega)) (gt (by omega) (by omega)) (decide_eq_true (by omega)) (decide_eq_true (by omega)) (decide_eq_false (by omega))
  have sm := ix_small ha.1 q3 q1 q2 x1
  by_cases r1 : i = 0
  case pos =>
    rcases Int.lt_trichotomy a c with h1 | h1 | h1 <;> rcases Int.lt_trichotomy d b with h2 | h2 | h2
    · exact steps_43 a c b d w i ha hb H1 f hc hd j H2 (decide_eq_true (by omega)) (decide_eq_true (by omega)) (decide_eq_false (by omega)) (lt (by omega) (by omega)) (decide_eq_true (by omega)) (decide_eq_true (by omega)) (decide_eq_true (by omega)) (beq_iff_eq.2 (by omega)) (beq_eq_false_iff_ne.2 (by omega)) (i64_in (by omega) (by omega)) ((i64_in (by omega) (by omega)).trans (by omega)) (prod_bound (by omega) (by omega) (by omega) q2) (decide_eq_true (sm.2.resolve_left (by omega)))
    · exact steps_43 a c b d w i ha hb H1 f hc hd j H2 (decide_eq_true (by omega)) (decide_eq_true (by omega)) (decide_eq_false (by omega)) (lt (by omega) (by omega)) (decide_eq_true (by omega)) (decide_eq_true (by omega)) (decide_eq_true (by omega)) (beq_iff_eq.2 (by omega)) (beq_eq_false_iff_ne.2 (by omega)) (i64_in (by omega) (by omega)) ((i64_in (by omega) (by omega)).trans (by omega)) (prod_bound (by omega) (by omega) (by omega) q2) (decide_eq_true (sm.2.resolve_left (by omega)))
    · exact steps_23 a c b d w i ha hb H1 f hc hd j H2 (decide_eq_true (by omega)) (decide_eq_false (by omega)) (decide_eq_false (by omega)) (decide_eq_true (by omega)) (decide_eq_true (by omega)) (decide_eq_true (by omega)) (beq_iff_eq.2 (by omega)) (beq_eq_false_iff_ne.2 (by omega)) (i64_in (by omega) (by omega)) ((i64_in (by omega) (by omega)).trans (by omega)) (prod_bound (by omega) (by omega) (by omega) q2) (decide_eq_true (sm.2.resolve_left (by omega)))
    · exact steps_53 a c b d w i ha hb H1 f hc hd j H2 (decide_eq_true (by omega)) (decide_eq_true (by omega)) (decide_eq_true (by omega)) (decide_eq_false (by omega)) (lt (by omega) (by omega)) (decide_eq_true (by omega)) (decide_eq_true (by omega)) (decide_eq_true (by omega)) (beq_iff_eq.2 (by omega)) (beq_eq_false_iff_ne.2 (by omega)) (i64_in (by omega) (by omega)) ((i64_in (by omega) (by omega)).trans (by omega)) (prod_bound (by omega) (by omega) (by omega) q2) (decide_eq_true (sm.2.resolve_left (by omega)))
    · exact steps_63 a c b d w i ha hb H1 f hc hd j H2 (decide_eq_true (by omega)) (decide_eq_true (by omega)) (decide_eq_true (by omega)) (decide_eq_true (by omega)) (lt (by omega) (by omega)) (gt (by omega) (by omega)) (decide_eq_true (by omega)) (decide_eq_true (by omega)) (decide_eq_true (by omega)) (beq_iff_eq.2 (by omega)) (beq_eq_false_iff_ne.2 (by omega)) (i64_in (by omega) (by omega)) ((i64_in (by omega) (by omega)).trans (by omega)) (prod_bound (by omega) (by omega) (by omega) q2) (decide_eq_true (sm.2.resolve_left (by omega)))
    · exact steps_33 a c b d w i ha hb H1 f hc hd j H2 (decide_eq_true (by omega)) (decide_eq_false (by omega)) (decide_eq_true (by omega)) (decide_eq_true (by omega)) (gt (by omega) (by omega)) (decide_eq_true (by omega)) (decide_eq_true (by omega)) (decide_eq_true (by omega)) (beq_iff_eq.2 (by omega)) (beq_eq_false_iff_ne.2 (by omega)) (i64_in (by omega) (by omega)) ((i64_in (by omega) (by omega)).trans (by omega)) (prod_bound (by omega) (by omega) (by omega) q2) (decide_eq_true (sm.2.resolve_left (by omega)))
    · exact steps_03 a c b d w i ha hb H1 f hc hd j H2 (decide_eq_false (by omega)) (decide_eq_true (by omega)) (decide_eq_false (by omega)) (decide_eq_true (by omega)) (decide_eq_true (by omega)) (decide_eq_true (by omega)) (beq_iff_eq.2 (by omega)) (beq_eq_false_iff_ne.2 (by omega)) (i64_in (by omega) (by omega)) ((i64_in (by omega) (by omega)).trans (by omega)) (prod_bound (by omega) (by omega) (by omega) q2) (decide_eq_true (sm.2.resolve_left (by omega)))
    · exact steps_13 a c b d w i ha hb H1 f hc hd j H2 (decide_eq_false (by omega)) (decide_eq_true (by omega)) (decide_eq_true (by omega)) (gt (by omega) (by omega)) (decide_eq_true (by omega)) (decide_eq_true (by omega)) (decide_eq_true (by omega)) (beq_iff_eq.2 (by omega)) (beq_eq_false_iff_ne.2 (by omega)) (i64_in (by omega) (by omega)) ((i64_in (by omega) (by omega)).trans (by omega)) (prod_bound (by omega) (by omega) (by omega) q2) (decide_eq_true (sm.2.resolve_left (by omega)))
    · exact steps_13 a c b d w i ha hb H1 f hc hd j H2 (decide_eq_false (by omega)) (decide_eq_true (by omega)) (decide_eq_true (by omega)) (gt (by omega) (by omega)) (decide_eq_true (by omega)) (decide_eq_true (by omega)) (decide_eq_true (by omega)) (beq_iff_eq.2 (by omega)) (beq_eq_false_iff_ne.2 (by omega)) (i64_in (by omega) (by omega)) ((i64_in (by omega) (by omega)).trans (by omega)) (prod_bound (by omega) (by omega) (by omega) q2) (decide_eq_true (sm.2.resolve_left (by omega)))
  by_cases r2 : i = 8
  case pos =>
    rcases Int.lt_trichotomy a c with h1 | h1 | h1 <;> rcases Int.lt_trichotomy d b with h2 | h2 | h2
    · exact steps_44 a c b d w i ha hb H1 f hc hd j H2 (decide_eq_true (by omega)) (decide_eq_true (by omega)) (decide_eq_false (by omega)) (lt (by omega) (by omega)) (decide_eq_true (by omega)) (decide_eq_true (by omega)) (decide_eq_true (by omega)) (beq_eq_false_iff_ne.2 (by omega)) (beq_iff_eq.2 (by omega)) (i64_in (by omega) (by omega)) (prod_bound (by omega) (by omega) (by omega) q2) (decide_eq_true (sm.1.resolve_left (by omega)))
    · exact steps_44 a c b d w i ha hb H1 f hc hd j H2 (decide_eq_true (by omega)) (decide_eq_true (by omega)) (decide_eq_false (by omega)) (lt (by omega) (by omega)) (decide_eq_true (by omega)) (decide_eq_true (by omega)) (decide_eq_true (by omega)) (beq_eq_false_iff_ne.2 (by omega)) (beq_iff_eq.2 (by omega)) (i64_in (by omega) (by omega)) (prod_bound (by omega) (by omega) (by omega) q2) (decide_eq_true (sm.1.resolve_left (by omega)))
    · exact steps_24 a c b d w i ha hb H1 f hc hd j H2 (decide_eq_true (by omega)) (decide_eq_false (by omega)) (decide_eq_false (by omega)) (decide_eq_true (by omega)) (decide_eq_true (by omega)) (decide_eq_true (by omega)) (beq_eq_false_iff_ne.2 (by omega)) (beq_iff_eq.2 (by omega)) (i64_in (by omega) (by omega)) (prod_bound (by omega) (by omega) (by omega) q2) (decide_eq_true (sm.1.resolve_left (by omega)))
    · exact steps_54 a c b d w i ha hb H1 f hc hd j H2 (decide_eq_true (by omega)) (decide_eq_true (by omega)) (decide_eq_true (by omega)) (decide_eq_false (by omega)) (lt (by omega) (by omega)) (decide_eq_true (by omega)) (decide_eq_true (by omega)) (decide_eq_true (by omega)) (beq_eq_false_iff_ne.2 (by omega)) (beq_iff_eq.2 (by omega)) (i64_in (by omega) (by omega)) (prod_bound (by omega) (by omega) (by omega) q2) (decide_eq_true (sm.1.resolve_left (by omega)))
    · exact steps_64 a c b d w i ha hb H1 f hc hd j H2 (decide_eq_true (by omega)) (decide_eq_true (by omega)) (decide_eq_true (by omega)) (decide_eq_true (by omega)) (lt (by omega) (by omega)) (gt (by omega) (by omega)) (decide_eq_true (by omega)) (decide_eq_true (by omega)) (decide_eq_true (by omega)) (beq_eq_false_iff_ne.2 (by omega)) (beq_iff_eq.2 (by omega)) (i64_in (by omega) (by omega)) (prod_bound (by omega) (by omega) (by omega) q2) (decide_eq_true (sm.1.resolve_left (by omega)))
    · exact steps_34 a c b d w i ha hb H1 f hc hd j H2 (decide_eq_true (by omega)) (decide_eq_false (by omega)) (decide_eq_true (by omega)) (decide_eq_true (by omega)) (gt (by omega) (by omega)) (decide_eq_true (by omega)) (decide_eq_true (by omega)) (decide_eq_true (by omega)) (beq_eq_false_iff_ne.2 (by omega)) (beq_iff_eq.2 (by omega)) (i64_in (by omega) (by omega)) (prod_bound (by omega) (by omega) (by omega) q2) (decide_eq_true (sm.1.resolve_left (by omega)))
    · exact steps_04 a c b d w i ha hb H1 f hc hd j H2 (decide_eq_false (by omega)) (decide_eq_true (by omega)) (decide_eq_false (by omega)) (decide_eq_true (by omega)) (decide_eq_true (by omega)) (decide_eq_true (by omega)) (beq_eq_false_iff_ne.2 (by omega)) (beq_iff_eq.2 (by omega)) (i64_in (by omega) (by omega)) (prod_bound (by omega) (by omega) (by omega) q2) (decide_eq_true (sm.1.resolve_left (by omega)))
    · exact steps_14 a c b d w i ha hb H1 f hc hd j H2 (decide_eq_false (by omega)) (decide_eq_true (by omega)) (decide_eq_true (by omega)) (gt (by omega) (by omega)) (decide_eq_true (by omega)) (decide_eq_true (by omega)) (decide_eq_true (by omega)) (beq_eq_false_iff_ne.2 (by omega)) (beq_iff_eq.2 (by omega)) (i64_in (by omega) (by omega)) (prod_bound (by omega) (by omega) (by omega) q2) (decide_eq_true (sm.1.resolve_left (by omega)))
    · exact steps_14 a c b d w i ha hb H1 f hc hd j H2 (decide_eq_false (by omega)) (decide_eq_true (by omega)) (decide_eq_true (by omega)) (gt (by omega) (by omega)) (decide_eq_true (by omega)) (decide_eq_true (by omega)) (decide_eq_true (by omega)) (beq_eq_false_iff_ne.2 (by omega)) (beq_iff_eq.2 (by omega)) (i64_in (by omega) (by omega)) (prod_bound (by omega) (by omega) (by omega) q2) (decide_eq_true (sm.1.resolve_left (by omega)))
  rcases Int.lt_trichotomy a c with h1 | h1 | h1 <;> rcases Int.lt_trichotomy d b with h2 | h2 | h2
  · exact steps_45 a c b d w i ha hb H1 f hc hd j H2 (decide_eq_true (by omega)) (decide_eq_true (by omega)) (decide_eq_false (by omega)) (lt (by omega) (by omega)) (decide_eq_true (by omega)) (decide_eq_true (by omega)) (decide_eq_true (by omega)) (beq_eq_false_iff_ne.2 (by omega)) (beq_eq_false_iff_ne.2 (by omega)) (i64_in (by omega) (by omega)) (prod_bound (by omega) (by omega) (by omega) q2) ((i64_in (by omega) (by omega)).trans (by omega)) (prod_bound (by omega) (by omega) (by omega) q2) (decide_eq_true (sm.1.resolve_left (by omega))) (decide_eq_true (sm.2.resolve_left (by omega)))
  · exact steps_45 a c b d w i ha hb H1 f hc hd j H2 (decide_eq_true (by omega)) (decide_eq_true (by omega)) (decide_eq_false (by omega)) (lt (by omega) (by omega)) (decide_eq_true (by omega)) (decide_eq_true (by omega)) (decide_eq_true (by omega)) (beq_eq_false_iff_ne.2 (by omega)) (beq_eq_false_iff_ne.2 (by omega)) (i64_in (by omega) (by omega)) (prod_bound (by omega) (by omega) (by omega) q2) ((i64_in (by omega) (by omega)).trans (by omega)) (prod_bound (by omega) (by omega) (by omega) q2) (decide_eq_true (sm.1.resolve_left (by omega))) (decide_eq_true (sm.2.resolve_left (by omega)))
  · exact steps_25 a c b d w i ha hb H1 f hc hd j H2 (decide_eq_true (by omega)) (decide_eq_false (by omega)) (decide_eq_false (by omega)) (decide_eq_true (by omega)) (decide_eq_true (by omega)) (decide_eq_true (by omega)) (beq_eq_false_iff_ne.2 (by omega)) (beq_eq_false_iff_ne.2 (by omega)) (i64_in (by omega) (by omega)) (prod_bound (by omega) (by omega) (by omega) q2) ((i64_in (by omega) (by omega)).trans (by omega)) (prod_bound (by omega) (by omega) (by omega) q2) (decide_eq_true (sm.1.resolve_left (by omega))) (decide_eq_true (sm.2.resolve_left (by omega)))
  · exact steps_55 a c b d w i ha hb H1 f hc hd j H2 (decide_eq_true (by omega)) (decide_eq_true (by omega)) (decide_eq_true (by omega)) (decide_eq_false (by omega)) (lt (by omega) (by omega)) (decide_eq_true (by omega)) (decide_eq_true (by omega)) (decide_eq_true (by omega)) (beq_eq_false_iff_ne.2 (by omega)) (beq_eq_false_iff_ne.2 (by omega)) (i64_in (by omega) (by omega)) (prod_bound (by omega) (by omega) (by omega) q2) ((i64_in (by omega) (by omega)).trans (by omega)) (prod_bound (by omega) (by omega) (by omega) q2) (decide_eq_true (sm.1.resolve_left (by omega))) (decide_eq_true (sm.2.resolve_left (by omega)))
  · exact steps_65 a c b d w i ha hb H1 f hc hd j H2 (decide_eq_true (by omega)) (decide_eq_true (by omega)) (decide_eq_true (by omega)) (decide_eq_true (by omega)) (lt (by omega) (by omega)) (gt (by omega) (by omega)) (decide_eq_true (by omega)) (decide_eq_true (by omega)) (decide_eq_true (by omega)) (beq_eq_false_iff_ne.2 (by omega)) (beq_eq_false_iff_ne.2 (by omega)) (i64_in (by omega) (by omega)) (prod_bound (by omega) (by omega) (by omega) q2) ((i64_in (by omega) (by omega)).trans (by omega)) (prod_bound (by omega) (by omega) (by omega) q2) (decide_eq_true (sm.1.resolve_left (by omega))) (decide_eq_true (sm.2.resolve_left (by omega)))
  · exact steps_35 a c b d w i ha hb H1 f hc hd j H2 (decide_eq_true (by omega)) (decide_eq_false (by omega)) (decide_eq_true (by omega)) (decide_eq_true (by omega)) (gt (by omega) (by omega)) (decide_eq_true (by omega)) (decide_eq_true (by omega)) (decide_eq_true (by omega)) (beq_eq_false_iff_ne.2 (by omega)) (beq_eq_false_iff_ne.2 (by omega)) (i64_in (by omega) (by omega)) (prod_bound (by omega) (by omega) (by omega) q2) ((i64_in (by omega) (by omega)).trans (by omega)) (prod_bound (by omega) (by omega) (by omega) q2) (decide_eq_true (sm.1.resolve_left (by omega))) (decide_eq_true (sm.2.resolve_left (by omega)))
  · exact steps_05 a c b d w i ha hb H1 f hc hd j H2 (decide_eq_false (by omega)) (decide_eq_true (by omega)) (decide_eq_false (by omega)) (decide_eq_true (by omega)) (decide_eq_true (by omega)) (decide_eq_true (by omega)) (beq_eq_false_iff_ne.2 (by omega)) (beq_eq_false_iff_ne.2 (by omega)) (i64_in (by omega) (by omega)) (prod_bound (by omega) (by omega) (by omega) q2) ((i64_in (by omega) (by omega)).trans (by omega)) (prod_bound (by omega) (by omega) (by omega) q2) (decide_eq_true (sm.1.resolve_left (by omega))) (decide_eq_true (sm.2.resolve_left (by omega)))
  · exact steps_15 a c b d w i ha hb H1 f hc hd j H2 (decide_eq_false (by omega)) (decide_eq_true (by omega)) (decide_eq_true (by omega)) (gt (by omega) (by omega)) (decide_eq_true (by omega)) (decide_eq_true (by omega)) (decide_eq_true (by omega)) (beq_eq_false_iff_ne.2 (by omega)) (beq_eq_false_iff_ne.2 (by omega)) (i64_in (by omega) (by omega)) (prod_bound (by omega) (by omega) (by omega) q2) ((i64_in (by omega) (by omega)).trans (by omega)) (prod_bound (by omega) (by omega) (by omega) q2) (decide_eq_true (sm.1.resolve_left (by omega))) (decide_eq_true (sm.2.resolve_left (by omega)))
  · exact steps_15 a c b d w i ha hb H1 f hc hd j H2 (decide_eq_false (by omega)) (decide_eq_true (by omega)) (decide_eq_true (by omega)) (gt (by omega) (by omega)) (decide_eq_true (by omega)) (decide_eq_true (by omega)) (decide_eq_true (by omega)) (beq_eq_false_iff_ne.2 (by omega)) (beq_eq_false_iff_ne.2 (by omega)) (i64_in (by omega) (by omega)) (prod_bound (by omega) (by omega) (by omega) q2) ((i64_in (by omega) (by omega)).trans (by omega)) (prod_bound (by omega) (by omega) (by omega) q2) (decide_eq_true (sm.1.resolve_left (by omega))) (decide_eq_true (sm.2.resolve_left (by omega)))
end Go.Proofs.Ytfehdajjnbehdaa.Steps
