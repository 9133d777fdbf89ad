/- Histogram, in plain words: where a number lies among edges that rise. -/
import Derived.Test.YtbplgjocammnbaaGreatCont
namespace Go.Proofs.YtbplgjocammnbaaGreat.HistP
open Ieee Go.Proofs.YtbplgjocammnbaaGreat.Mem Go.Proofs.YtbplgjocammnbaaGreat.Of Go.Proofs.YtbplgjocammnbaaGreat.Fl Go.Proofs.YtbplgjocammnbaaGreat.Fin Go.Proofs.YtbplgjocammnbaaGreat.Search Go.Proofs.YtbplgjocammnbaaGreat.Cont
set_option linter.unusedSimpArgs false
set_option linter.unusedVariables false
def leF (a b : Nat) : Bool := FloatKind.f64.format.order a b == some .lt || FloatKind.f64.format.order a b == some .eq
def ltF (a b : Nat) : Bool := FloatKind.f64.format.order a b == some .lt
/-- Does an edge not lie above the one ahead of it? -/
def falls : List Nat → Bool
  | a :: b :: r => leF b a || falls (b :: r)
  | _ => false
def hE (es : List Nat) : Int := if es.any nanF = true then 1 else if falls es = true then 4 else 0
/-- How many edges a number reaches. -/
def place (es : List Nat) (x : Int) : Nat := (es.takeWhile fun e => !ltF (fi x) e).length
def hist (es : List Nat) (l : List Int) : List Int := (List.range (es.length + 1)).map fun j => ((l.countP fun x => place es x == j : Nat) : Int)
theorem falls_at : ∀ {es : List Nat} {i x y : Nat}, falls es = false → es[i]? = some x → es[i + 1]? = some y → leF y x = false
  | a :: b :: r, 0, x, y, h, hx, hy => by
    simp [falls] at h hx hy
    subst hx; subst hy
    exact h.1
  | a :: b :: r, i + 1, x, y, h, hx, hy => by
    simp [falls] at h
    exact falls_at (es := b :: r) h.2 hx hy
  | [a], i, x, y, h, hx, hy => by simp at hy
  | [], i, x, y, h, hx, hy => by simp at hy
theorem falls_of : ∀ {es : List Nat} {i x y : Nat}, es[i]? = some x → es[i + 1]? = some y → leF y x = true → falls es = true
  | a :: b :: r, 0, x, y, hx, hy, h => by
    simp at hx hy
    subst hx; subst hy
    simp [falls, h]
  | a :: b :: r, i + 1, x, y, hx, hy, h => by
    simp only [falls, Bool.or_eq_true]
    exact .inr (falls_of (es := b :: r) hx hy h)
  | [a], i, x, y, hx, hy, h => by simp at hy
  | [], i, x, y, hx, hy, h => by simp at hy
theorem falls_none : ∀ {es : List Nat}, (∀ i x y, es[i]? = some x → es[i + 1]? = some y → leF y x = false) → falls es = false
  | [], _ => rfl
  | [a], _ => rfl
  | a :: b :: r, h => by
    simp only [falls, Bool.or_eq_false_iff]
    exact ⟨h 0 a b rfl rfl, falls_none (es := b :: r) fun i x y hx hy => h (i + 1) x y hx hy⟩
/-- A word that is one: its size and sign. -/
theorem num_word {v : Nat} (hv : v < 18446744073709551616) (h : nanF v = false) : ∃ s r, v = double.word s r ∧ r ≤ 9218868437227405312 := by
  obtain ⟨s, r, rfl, hr⟩ := word_of v hv
  rcases Nat.lt_or_ge 9218868437227405312 r with hn | hf
  · unfold nanF at h
    rw [show FloatKind.f64.format.order (double.word s r) (double.word s r) = none from ord_nan s r _ hn hr] at h
    simp at h
  · exact ⟨s, r, rfl, hf⟩
theorem fi_any (x : Int) : ∃ s r, fi x = double.word s r ∧ r ≤ 9218868437227405312 := by
  obtain ⟨r, h1, h2⟩ := int_isN x
  exact ⟨_, r, h1, h2.le⟩
theorem ltF_word (s t : Bool) (r q : Nat) (hr : r ≤ 9218868437227405312) (hq : q ≤ 9218868437227405312) : ltF (double.word s r) (double.word t q) = decide (sv s r < sv t q) := by
  unfold ltF
  rw [show FloatKind.f64.format.order (double.word s r) (double.word t q) = _ from ord s t r q hr hq]
  by_cases h : sv s r < sv t q
  · rw [if_pos h, decide_eq_true h]; rfl
  · rw [if_neg h, decide_eq_false h]
    split <;> rfl
theorem leF_word (s t : Bool) (r q : Nat) (hr : r ≤ 9218868437227405312) (hq : q ≤ 9218868437227405312) : leF (double.word s r) (double.word t q) = decide (sv s r ≤ sv t q) := by
  unfold leF
  rw [show FloatKind.f64.format.order (double.word s r) (double.word t q) = _ from ord s t r q hr hq]
  by_cases h : sv s r < sv t q
  · rw [if_pos h, decide_eq_true (by omega)]; rfl
  · rw [if_neg h]
    by_cases h2 : sv s r = sv t q
    · rw [if_pos h2, decide_eq_true (by omega)]; rfl
    · rw [if_neg h2, decide_eq_false (by omega)]; rfl
section
variable {es : List Nat} (hw : ∀ e ∈ es, e < 18446744073709551616) (hn : es.any nanF = false) (hf : falls es = false)
include hw hn
theorem edge_word {i e : Nat} (h : es[i]? = some e) : ∃ s r, e = double.word s r ∧ r ≤ 9218868437227405312 := by
  have hm := List.mem_of_getElem? h
  refine num_word (hw e hm) ?_
  rw [List.any_eq_false] at hn
  simpa using hn e hm
include hf
theorem lt_next {x i a b : Nat} (hx : ∃ s r, x = double.word s r ∧ r ≤ 9218868437227405312) (ha : es[i]? = some a) (hb : es[i + 1]? = some b) (h : ltF x a = true) : ltF x b = true := by
  obtain ⟨s, r, rfl, hr⟩ := hx
  obtain ⟨t, q, rfl, hq⟩ := edge_word hw hn ha
  obtain ⟨u, p, rfl, hp⟩ := edge_word hw hn hb
  have := falls_at hf ha hb
  rw [leF_word u t p q hp hq, decide_eq_false_iff_not] at this
  rw [ltF_word s t r q hr hq, decide_eq_true_eq] at h
  rw [ltF_word s u r p hr hp, decide_eq_true_eq]
  omega
theorem lt_later {x : Nat} (hx : ∃ s r, x = double.word s r ∧ r ≤ 9218868437227405312) : ∀ (d i : Nat), i + d < es.length → ltF x (es.getD i 0) = true → ltF x (es.getD (i + d) 0) = true
  | 0, i, _, h => h
  | d + 1, i, hl, h => by
    have h1 := lt_later hx d i (by omega) h
    have e1 : es[i + d]? = some (es.getD (i + d) 0) := by rw [List.getD_eq_getElem?_getD, List.getElem?_eq_getElem (by omega)]; rfl
    have e2 : es[i + d + 1]? = some (es.getD (i + (d + 1)) 0) := by rw [List.getD_eq_getElem?_getD, Nat.add_assoc, List.getElem?_eq_getElem (by omega)]; rfl
    exact lt_next hw hn hf hx e1 e2 h1
theorem lt_mono (x : Int) (a b : Nat) (hab : a ≤ b) (hb : b < es.length) (h : ltF (fi x) (es.getD a 0) = true) : ltF (fi x) (es.getD b 0) = true := by
  have := lt_later hw hn hf (fi_any x) (b - a) a (by omega) h
  rwa [show a + (b - a) = b by omega] at this
end
theorem place_from : ∀ {es : List Nat} {x : Int} {k : Nat}, From (fun i => ltF (fi x) (es.getD i 0)) es.length k → place es x = k
  | [], x, k, h => by
    have := h.1
    simp at this
    subst this
    rfl
  | e :: es, x, 0, h => by
    have := h.2.2 0 (Nat.le_refl _) (by simp)
    unfold place
    rw [List.takeWhile_cons, if_neg (by simpa using this)]
    rfl
  | e :: es, x, k + 1, h => by
    have h0 := h.2.1 0 (by omega)
    have h1 : place es x = k := place_from ⟨by have := h.1; simp at this; omega, fun t ht => by simpa using h.2.1 (t + 1) (by omega), fun t h2 h3 => by simpa using h.2.2 (t + 1) (by omega) (by simp; omega)⟩
    unfold place at h1 ⊢
    rw [List.takeWhile_cons, if_pos (by simpa using h0), List.length_cons, h1]
theorem place_le (es : List Nat) (x : Int) : place es x ≤ es.length := by
  unfold place
  exact (List.takeWhile_sublist _).length_le
theorem hist_length (es : List Nat) (l : List Int) : (hist es l).length = es.length + 1 := by simp [hist]
theorem hist_nil (es : List Nat) : hist es [] = List.replicate (es.length + 1) 0 := by
  unfold hist
  apply List.ext_getElem
  · simp
  · intro i h1 h2
    simp
theorem hist_at {es : List Nat} {l : List Int} {j : Nat} (h : j ≤ es.length) : (hist es l)[j]? = some ((l.countP fun x => place es x == j : Nat) : Int) := by
  unfold hist
  rw [List.getElem?_map, List.getElem?_range (by omega)]
  rfl
/-- One more. -/
theorem hist_snoc (es : List Nat) (l : List Int) (x : Int) : hist es (l ++ [x]) = (hist es l).set (place es x) ((l.countP fun y => place es y == place es x : Nat) + 1 : Int) := by
  unfold hist
  apply List.ext_getElem?
  intro j
  rw [List.getElem?_set]
  by_cases hj : j < es.length + 1
  · rw [List.getElem?_map, List.getElem?_map, List.getElem?_range hj]
    simp only [Option.map_some, List.countP_append, List.countP_cons, List.countP_nil, List.length_map, List.length_range]
    by_cases hp : place es x = j
    · subst hp
      simp [hj]
    · simp [hp]
  · rw [List.getElem?_eq_none (by simp; omega), List.getElem?_eq_none (by simp; omega)]
    have := place_le es x
    rw [if_neg (by omega)]
theorem hist_bound {es : List Nat} {l : List Int} {m : Nat} (hl : l.length ≤ m) (j : Nat) : (l.countP fun x => place es x == j) ≤ m := Nat.le_trans List.countP_le_length hl
end Go.Proofs.YtbplgjocammnbaaGreat.HistP
