/- Quantiles, in plain words: a greater share has no lesser one; of 0 it is the least, of 1 the greatest; how many are below it are not enough. -/
import Derived.Test.YtmpjcjgdjimioaaQuantP
import Derived.Test.YtmpjcjgdjimioaaHistP
namespace Go.Proofs.Ytmpjcjgdjimioaa.StepsP
open Ieee Go.Proofs.Ytmpjcjgdjimioaa.Mem Go.Proofs.Ytmpjcjgdjimioaa.Of Go.Proofs.Ytmpjcjgdjimioaa.Fl Go.Proofs.Ytmpjcjgdjimioaa.Fin Go.Proofs.Ytmpjcjgdjimioaa.Search Go.Proofs.Ytmpjcjgdjimioaa.Sorts Go.Proofs.Ytmpjcjgdjimioaa.Quant Go.Proofs.Ytmpjcjgdjimioaa.QuantP Go.Proofs.Ytmpjcjgdjimioaa.HistP
set_option linter.unusedSimpArgs false
set_option linter.unusedVariables false
section
variable {xs : List Int} {n : Nat}
theorem srt_mono (hl : xs.length = n) {j k : Nat} (hjk : j ≤ k) (hk : k < n) : (srt xs)[j]?.getD 0 ≤ (srt xs)[k]?.getD 0 := by
  have h := srt_sorted xs
  have hln : (srt xs).length = n := by rw [srt_length, hl]
  rw [List.getElem?_eq_getElem (by omega), List.getElem?_eq_getElem (by omega)]
  rcases Nat.lt_or_ge j k with h1 | h1
  · exact List.pairwise_iff_getElem.1 h j k (by omega) (by omega) h1
  · obtain rfl : j = k := by omega
    exact Int.le_refl _
theorem srt_ends (hl : xs.length = n) {t : Nat} {x : Int} (hx : xs[t]? = some x) : (srt xs)[0]?.getD 0 ≤ x ∧ x ≤ (srt xs)[n - 1]?.getD 0 := by
  have hm : x ∈ srt xs := (srt_perm xs).mem_iff.2 (List.mem_of_getElem? hx)
  obtain ⟨j, hj, rfl⟩ := List.getElem_of_mem hm
  have hln : (srt xs).length = n := by rw [srt_length, hl]
  have e : (srt xs)[j] = (srt xs)[j]?.getD 0 := by rw [List.getElem?_eq_getElem hj]; rfl
  rw [e]
  exact ⟨srt_mono hl (Nat.zero_le _) (by omega), srt_mono hl (by omega) (by omega)⟩
/-- The sizes of two shares, in order. -/
theorem share_le {s t : Nat} (hs : s < 18446744073709551616) (ht : t < 18446744073709551616) (hqs : qbad s = false) (hqt : qbad t = false) (hle : leF s t = true) : ∃ g r g' r', s = double.word g r ∧ t = double.word g' r' ∧ r ≤ 4607182418800017408 ∧ r' ≤ 4607182418800017408 ∧ (g = false ∨ r = 0) ∧ (g' = false ∨ r' = 0) ∧ V r ≤ V r' := by
  obtain ⟨g, r, rfl, hr, hg⟩ := share_word hs hqs
  obtain ⟨g', r', rfl, hr', hg'⟩ := share_word ht hqt
  refine ⟨g, r, g', r', rfl, rfl, hr, hr', hg, hg', ?_⟩
  rw [leF_word g g' r r' (by omega) (by omega), decide_eq_true_eq] at hle
  have e1 : sv g r = (V r : Int) := by
    rcases hg with rfl | rfl
    · rfl
    · cases g <;> simp [sv, V_zero]
  have e2 : sv g' r' = (V r' : Int) := by
    rcases hg' with rfl | rfl
    · rfl
    · cases g' <;> simp [sv, V_zero]
  rw [e1, e2] at hle
  omega
theorem want_mono {s t : Nat} (hn : n ≤ 17592186044416) (hs : s < 18446744073709551616) (ht : t < 18446744073709551616) (hqs : qbad s = false) (hqt : qbad t = false) (hle : leF s t = true) (i : Nat) (hi : i + 1 ≤ n) (h : enough (want t n) i = true) : enough (want s n) i = true := by
  obtain ⟨g, r, g', r', es, et, hr, hr', hg, hg', hv⟩ := share_le hs ht hqs hqt hle
  obtain ⟨q, eq, hq, vq⟩ := fi_small n (by omega)
  obtain ⟨p, _, b, c⟩ := fo_mul g false r q (by omega) hq
  obtain ⟨p', _, b', c'⟩ := fo_mul g' false r' q (by omega) hq
  have hpp : p ≤ p' := c.mono U_pos U_pos (Nat.mul_le_mul_right _ (Nat.mul_le_mul_right _ hv)) c'
  obtain ⟨_, g1, p1, e1, h1, h2, h3, _⟩ := want_word (n := n) (share_word hs hqs) (by omega)
  obtain ⟨_, g2, p2, e2, h4, h5, h6, _⟩ := want_word (n := n) (share_word ht hqt) (by omega)
  have w1 : want s n = double.word g p := by unfold want; rw [eq, es, b, Bool.xor_false]
  have w2 : want t n = double.word g' p' := by unfold want; rw [eq, et, b', Bool.xor_false]
  have hz : ∀ {g : Bool} {r q p : Nat}, (g = false ∨ r = 0) → IsN (V r * V q) U p → (g = false ∨ p = 0) := by
    intro g r q p hg c
    rcases hg with rfl | rfl
    · exact .inl rfl
    · right
      rw [V_zero, Nat.zero_mul] at c
      have := (IsN_top (b := 0) c U_pos (by decide) (by simp)).1
      omega
  have hb : ∀ {r p : Nat}, r ≤ 4607182418800017408 → IsN (V r * V q) U p → p < 9218868437227405312 := by
    intro r p hr c
    obtain ⟨q0, eq0, hq0⟩ := rep_whole n (by omega)
    have hv : V r ≤ U := by rw [← V_one]; exact V_le hr
    have := (IsN_top (b := q0) c U_pos (by omega) (by rw [eq0, vq, Nat.mul_comm]; exact Nat.mul_le_mul_left _ hv)).1
    omega
  rw [enough_word (by omega) w2 (hb hr' c') (hz hg' c'), decide_eq_true_eq] at h
  rw [enough_word (by omega) w1 (hb hr c) (hz hg c), decide_eq_true_eq]
  exact Nat.le_trans (V_le hpp) h
theorem from_mono {s t : Nat} {j k : Nat} (hp : 0 < n) (hn : n ≤ 17592186044416) (hs : s < 18446744073709551616) (ht : t < 18446744073709551616) (hqs : qbad s = false) (hqt : qbad t = false) (hle : leF s t = true) (hj : From (enough (want s n)) (n - 1) j) (hk : From (enough (want t n)) (n - 1) k) : j ≤ k := by
  rcases Nat.lt_or_ge k j with h | h
  · exfalso
    have h1 := hj.2.1 k h
    have hj1 := hj.1
    have h2 := hk.2.2 k (Nat.le_refl _) (by omega)
    rw [want_mono hn hs ht hqs hqt hle k (by omega) h2] at h1
    cases h1
  · exact h
theorem from_zero {k : Nat} (hp : 0 < n) (hn : n ≤ 17592186044416) (hk : From (enough (want 0 n)) (n - 1) k) : k = 0 := by
  rcases Nat.eq_zero_or_pos k with h | h
  · exact h
  · exfalso
    have h1 := hk.2.1 0 h
    obtain ⟨q, eq, hq, vq⟩ := fi_small n (by omega)
    obtain ⟨p, _, b, c⟩ := fo_mul false false 0 q (by decide) hq
    rw [V_zero, Nat.zero_mul] at c
    have hp0 := (IsN_top (b := 0) c U_pos (by decide) (by simp)).1
    have w1 : want 0 n = double.word false p := by
      unfold want
      rw [eq, show (0 : Nat) = double.word false 0 by rw [word_f], b]; rfl
    rw [enough_word (by omega) w1 (by omega) (.inl rfl), decide_eq_false_iff_not] at h1
    obtain rfl : p = 0 := by omega
    rw [V_zero] at h1
    omega
theorem from_one {k : Nat} (hp : 0 < n) (hn : n ≤ 17592186044416) (hk : From (enough (want 4607182418800017408 n)) (n - 1) k) : k = n - 1 := by
  have hk1 := hk.1
  rcases Nat.lt_or_ge k (n - 1) with h | h
  · exfalso
    have h1 := hk.2.2 k (Nat.le_refl _) h
    obtain ⟨q, eq, hq, vq⟩ := fi_small n (by omega)
    obtain ⟨p, _, b, c⟩ := fo_mul false false 4607182418800017408 q (by decide) hq
    rw [V_one, Nat.mul_comm] at c
    have hp0 := IsN.mono U_pos U_pos (Nat.le_refl _) (IsN.exact U_pos (r := q) (by omega)) c
    have w1 : want 4607182418800017408 n = double.word false p := by
      unfold want
      rw [eq, show (4607182418800017408 : Nat) = double.word false 4607182418800017408 by rw [word_f], b]; rfl

    have hpq : p ≤ q := IsN.mono U_pos U_pos (Nat.le_refl _) c (IsN.exact U_pos (r := q) (by omega))
    rw [enough_word (by omega) w1 (by omega) (.inl rfl), decide_eq_true_eq] at h1
    have := V_le hp0
    rw [vq] at this
    have h2 : n * U ≤ (k + 1) * U := Nat.le_trans this h1
    have := Nat.le_of_mul_le_mul_right h2 U_pos
    omega
  · omega
/-- How many are below it. -/
theorem below_few {s k : Nat} (hl : xs.length = n) (hp : 0 < n) (hn : n ≤ 17592186044416) (hs : s < 18446744073709551616) (hq : qbad s = false) (hF : From (enough (want s n)) (n - 1) k) (hc : 0 < cnt xs ((srt xs)[k]?.getD 0 - 1)) :
    ltF (fi (cnt xs ((srt xs)[k]?.getD 0 - 1) : Int)) (want s n) = true := by
  obtain ⟨ws, g, p, e1, h1, h2, h3, _⟩ := want_word (n := n) (share_word hs hq) (by omega)
  have hk : k < n := by have := hF.1; omega
  have hv := srt_at hl hk
  obtain ⟨m, hm⟩ : ∃ m, m = cnt xs ((srt xs)[k]?.getD 0 - 1) := ⟨_, rfl⟩
  rw [← hm] at hc ⊢
  have c2 := cnt_less (srt_sorted xs) hv (u := (srt xs)[k]?.getD 0 - 1) (by omega)
  rw [cnt_perm (srt_perm xs), ← hm] at c2
  have := hF.2.1 (m - 1) (by omega)
  rw [enough_word (by omega) e1 h1 h2, decide_eq_false_iff_not, show m - 1 + 1 = m by omega] at this
  obtain ⟨q, e, h, vq⟩ := fi_small m (by omega)
  rw [e, e1, ltF_word false g q p (by omega) (by omega), decide_eq_true_eq]
  have e2 : sv g p = (V p : Int) := by
    rcases h2 with rfl | rfl
    · rfl
    · cases g <;> simp [sv, V_zero]
  rw [e2, sv_f, vq]
  omega
end
end Go.Proofs.Ytmpjcjgdjimioaa.StepsP
