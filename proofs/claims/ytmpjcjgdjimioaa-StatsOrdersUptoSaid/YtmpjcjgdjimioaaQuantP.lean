/- Quantiles, in plain words: the least element of which enough are not above it. -/
import Derived.Test.YtmpjcjgdjimioaaQuant
namespace Go.Proofs.Ytmpjcjgdjimioaa.QuantP
open Ieee Go.Proofs.Ytmpjcjgdjimioaa.Mem Go.Proofs.Ytmpjcjgdjimioaa.Of Go.Proofs.Ytmpjcjgdjimioaa.Fl Go.Proofs.Ytmpjcjgdjimioaa.Fin Go.Proofs.Ytmpjcjgdjimioaa.Search Go.Proofs.Ytmpjcjgdjimioaa.Sorts Go.Proofs.Ytmpjcjgdjimioaa.Quant
set_option linter.unusedSimpArgs false
set_option linter.unusedVariables false
/-- How many are not above it. -/
def cnt (xs : List Int) (x : Int) : Nat := xs.countP fun y => decide (y ≤ x)
/-- Are they enough? -/
def good (s : Nat) (xs : List Int) (x : Int) : Bool := geF (fi (cnt xs x : Int)) (want s xs.length)
/-- The best so far. -/
def QI (s : Nat) (xs : List Int) (i : Nat) (b : Int) (f : Bool) : Prop :=
  (f = false ∧ ∀ (t : Nat) (x : Int), t < i → xs[t]? = some x → good s xs x = false) ∨ (f = true ∧ good s xs b = true ∧ b ∈ xs ∧ ∀ (t : Nat) (x : Int), t < i → xs[t]? = some x → good s xs x = true → b ≤ x)
theorem QI.start (s : Nat) (xs : List Int) : QI s xs 0 0 false := .inl ⟨rfl, fun t x h => absurd h (by omega)⟩
theorem lt_snoc {t i : Nat} (h : t < i + 1) : t < i ∨ t = i := by omega
theorem QI.skip {s : Nat} {xs : List Int} {i : Nat} {b x : Int} (h : QI s xs i b true) (hx : xs[i]? = some x) (hb : b ≤ x) : QI s xs (i + 1) b true := by
  rcases h with ⟨h, _⟩ | ⟨_, h1, h2, h3⟩
  · cases h
  · refine .inr ⟨rfl, h1, h2, fun t y ht hy hg => ?_⟩
    rcases lt_snoc ht with h | rfl
    · exact h3 t y h hy hg
    · rw [hx] at hy; cases hy; exact hb
theorem QI.bad {s : Nat} {xs : List Int} {i : Nat} {b x : Int} {f : Bool} (h : QI s xs i b f) (hx : xs[i]? = some x) (hg : good s xs x = false) : QI s xs (i + 1) b f := by
  rcases h with ⟨rfl, h⟩ | ⟨rfl, h1, h2, h3⟩
  · refine .inl ⟨rfl, fun t y ht hy => ?_⟩
    rcases lt_snoc ht with h' | rfl
    · exact h t y h' hy
    · rw [hx] at hy; cases hy; exact hg
  · refine .inr ⟨rfl, h1, h2, fun t y ht hy hgy => ?_⟩
    rcases lt_snoc ht with h' | rfl
    · exact h3 t y h' hy hgy
    · rw [hx] at hy; cases hy; rw [hg] at hgy; cases hgy
theorem QI.take {s : Nat} {xs : List Int} {i : Nat} {b x : Int} {f : Bool} (h : QI s xs i b f) (hx : xs[i]? = some x) (hg : good s xs x = true) (hb : f = true → x < b) : QI s xs (i + 1) x true := by
  refine .inr ⟨rfl, hg, List.mem_of_getElem? hx, fun t y ht hy hgy => ?_⟩
  rcases lt_snoc ht with h' | rfl
  · rcases h with ⟨rfl, h⟩ | ⟨rfl, h1, h2, h3⟩
    · rw [h t y h' hy] at hgy; cases hgy
    · have := h3 t y h' hy hgy
      have := hb rfl
      omega
  · rw [hx] at hy; cases hy; exact Int.le_refl _
theorem cnt_perm {xs ys : List Int} (h : xs.Perm ys) (x : Int) : cnt xs x = cnt ys x := h.countP_eq _
theorem cnt_pos {xs : List Int} {x : Int} (h : x ∈ xs) : 0 < cnt xs x := by
  unfold cnt
  rw [List.countP_pos_iff]
  exact ⟨x, h, by simp⟩
/-- Of a list that rises: the element at k has more than k not above it. -/
theorem cnt_at {ys : List Int} (h : ys.Pairwise (· ≤ ·)) {k : Nat} {v : Int} (hk : ys[k]? = some v) : k < cnt ys v := by
  have hl := (List.getElem?_eq_some_iff.1 hk).1
  have e : ys = ys.take (k + 1) ++ ys.drop (k + 1) := (List.take_append_drop _ _).symm
  unfold cnt
  rw [e, List.countP_append]
  have : (ys.take (k + 1)).countP (fun y => decide (y ≤ v)) = (ys.take (k + 1)).length := by
    rw [List.countP_eq_length]
    intro a ha
    obtain ⟨j, hj, rfl⟩ := List.getElem_of_mem ha
    rw [List.getElem_take]
    simp only [decide_eq_true_eq]
    have hj' : j < k + 1 := by simp at hj; omega
    obtain ⟨_, rfl⟩ := List.getElem?_eq_some_iff.1 hk
    rcases Nat.lt_or_ge j k with h1 | h1
    · exact List.pairwise_iff_getElem.1 h j k (by omega) hl h1
    · obtain rfl : j = k := by omega
      exact Int.le_refl _
  rw [this, List.length_take]
  omega
/-- One that is less than the element at k has at most k not above it. -/
theorem cnt_less {ys : List Int} (h : ys.Pairwise (· ≤ ·)) {k : Nat} {v u : Int} (hk : ys[k]? = some v) (hu : u < v) : cnt ys u ≤ k := by
  have hl := (List.getElem?_eq_some_iff.1 hk).1
  have e : ys = ys.take k ++ ys.drop k := (List.take_append_drop _ _).symm
  unfold cnt
  rw [e, List.countP_append]
  have h0 : (ys.drop k).countP (fun y => decide (y ≤ u)) = 0 := by
    rw [List.countP_eq_zero]
    intro a ha
    obtain ⟨j, hj, rfl⟩ := List.getElem_of_mem ha
    rw [List.getElem_drop]
    simp only [decide_eq_true_eq]
    obtain ⟨_, rfl⟩ := List.getElem?_eq_some_iff.1 hk
    have hj' : k + j < ys.length := by simp at hj; omega
    have : ys[k] ≤ ys[k + j] := by
      rcases Nat.eq_zero_or_pos j with rfl | hp
      · exact Int.le_refl _
      · exact List.pairwise_iff_getElem.1 h k (k + j) hl hj' (by omega)
    omega
  rw [h0, Nat.add_zero]
  exact Nat.le_trans List.countP_le_length (by simp; omega)
section
variable {s : Nat} {xs : List Int} {n k : Nat}
/-- What the element at k is: enough are not above it, and of no lesser one are enough. -/
theorem quant_is (hl : xs.length = n) (hp : 0 < n) (hn : n ≤ 17592186044416) (hs : s < 18446744073709551616) (hq : qbad s = false) (hF : From (enough (want s n)) (n - 1) k) :
    (srt xs)[k]?.getD 0 ∈ xs ∧ good s xs ((srt xs)[k]?.getD 0) = true ∧ ∀ u ∈ xs, good s xs u = true → (srt xs)[k]?.getD 0 ≤ u := by
  obtain ⟨ws, g, p, e1, h1, h2, h3, _⟩ := want_word (n := n) (share_word hs hq) (by omega)
  have hk : k < n := by have := hF.1; omega
  have hv := srt_at hl hk
  have hgd : ∀ x ∈ xs, good s xs x = decide (V p ≤ cnt xs x * U) := fun x hx => by
    unfold good
    rw [hl]
    refine ge_word ?_ e1 h1 h2
    have : cnt xs x ≤ xs.length := List.countP_le_length
    omega
  have hm : (srt xs)[k]?.getD 0 ∈ xs := (srt_perm xs).mem_iff.1 (List.mem_of_getElem? hv)
  have c1 := cnt_at (srt_sorted xs) hv
  rw [cnt_perm (srt_perm xs)] at c1
  refine ⟨hm, ?_, fun u hu hg => ?_⟩
  · rw [hgd _ hm, decide_eq_true_eq]
    have h4 : V p ≤ (k + 1) * U := by
      rcases Nat.lt_or_ge k (n - 1) with h | h
      · have := hF.2.2 k (Nat.le_refl _) h
        rw [enough_word (by omega) e1 h1 h2] at this
        simpa using this
      · exact Nat.le_trans h3 (Nat.mul_le_mul_right _ (by omega))
    exact Nat.le_trans h4 (Nat.mul_le_mul_right _ (by omega))
  · rcases Int.lt_or_le u ((srt xs)[k]?.getD 0) with hlt | hle
    · exfalso
      have c2 := cnt_less (srt_sorted xs) hv hlt
      rw [cnt_perm (srt_perm xs)] at c2
      have c3 := cnt_pos hu
      rw [hgd u hu, decide_eq_true_eq] at hg
      have := hF.2.1 (cnt xs u - 1) (by omega)
      rw [enough_word (by omega) e1 h1 h2, decide_eq_false_iff_not] at this
      rw [show cnt xs u - 1 + 1 = cnt xs u by omega] at this
      exact this hg
    · exact hle
theorem quant_end (hl : xs.length = n) (hp : 0 < n) (hn : n ≤ 17592186044416) (hs : s < 18446744073709551616) (hq : qbad s = false) (hF : From (enough (want s n)) (n - 1) k) {b : Int} {f : Bool} (h : QI s xs n b f) : b = (srt xs)[k]?.getD 0 := by
  obtain ⟨q1, q2, q3⟩ := quant_is hl hp hn hs hq hF
  obtain ⟨t, ht, et⟩ := List.getElem_of_mem q1
  have hx : xs[t]? = some ((srt xs)[k]?.getD 0) := by rw [List.getElem?_eq_getElem ht, et]
  rcases h with ⟨_, h⟩ | ⟨_, h1, h2, h3⟩
  · rw [h t _ (by omega) hx] at q2; cases q2
  · have a1 := h3 t _ (by omega) hx q2
    have a2 := q3 b h2 h1
    omega
end
end Go.Proofs.Ytmpjcjgdjimioaa.QuantP
