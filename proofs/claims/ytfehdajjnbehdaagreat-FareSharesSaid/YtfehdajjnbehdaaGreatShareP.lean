/- Share: what it computes, in plain words, and the plain law of its parts. -/
import Derived.Test.YtfehdajjnbehdaaGreatMem
namespace Go.Proofs.YtfehdajjnbehdaaGreat.ShareP
open Go.Proofs.YtfehdajjnbehdaaGreat.Mem
set_option linter.unusedSimpArgs false
set_option linter.unusedVariables false
/-- The i-th of a list, 0 beyond its end. -/
def nth (l : List Int) (i : Nat) : Int := l.getD i 0
theorem nth_at {l : List Int} {i : Nat} {x : Int} (h : l[i]? = some x) : nth l i = x := by unfold nth; rw [List.getD_eq_getElem?_getD, h]; rfl
theorem at_nth {l : List Int} {i : Nat} (h : i < l.length) : l[i]? = some (nth l i) := by unfold nth; rw [List.getD_eq_getElem?_getD, List.getElem?_eq_getElem h]; rfl
theorem nth_set (l : List Int) (b : Nat) (v : Int) (hb : b < l.length) (i : Nat) : nth (l.set b v) i = if i = b then v else nth l i := by
  unfold nth
  rw [List.getD_eq_getElem?_getD, List.getD_eq_getElem?_getD]
  by_cases h : i = b
  · subst h; rw [List.getElem?_set_self hb, if_pos rfl]; rfl
  · rw [List.getElem?_set_ne (fun e => h e.symm), if_neg h]
theorem nth_cons (a : Int) (l : List Int) (i : Nat) : nth (a :: l) (i + 1) = nth l i := by simp [nth]
theorem nth_zero (a : Int) (l : List Int) : nth (a :: l) 0 = a := by simp [nth]
theorem nth_snoc (l : List Int) (x : Int) (i : Nat) : nth (l ++ [x]) i = if i = l.length then x else nth l i := by
  unfold nth
  rw [List.getD_eq_getElem?_getD, List.getD_eq_getElem?_getD]
  by_cases h : i = l.length
  · subst h; simp
  · rw [if_neg h]
    by_cases h1 : i < l.length
    · rw [List.getElem?_append_left h1]
    · rw [List.getElem?_eq_none (by simp; omega), List.getElem?_eq_none (by omega)]
theorem tot_set : ∀ (l : List Int) (b : Nat) (v : Int), b < l.length → tot (l.set b v) = tot l + v - nth l b
  | [], b, v, h => by simp at h
  | a :: l, 0, v, _ => by rw [List.set_cons_zero, tot_cons, tot_cons, nth_zero]; omega
  | a :: l, b + 1, v, h => by
    rw [List.set_cons_succ, tot_cons, tot_cons, tot_set l b v (by simpa using h), nth_cons]; omega
/-- The first of the greatest among the first k. -/
def bst (cs : List Int) : Nat → Nat
  | 0 => 0
  | k + 1 => if nth cs (bst cs k) < nth cs k then k else bst cs k
theorem bst_lt (cs : List Int) : ∀ k, 0 < k → bst cs k < k
  | 0, h => absurd h (by omega)
  | 1, _ => by unfold bst; split <;> simp [bst]
  | k + 2, _ => by
    have := bst_lt cs (k + 1) (by omega)
    unfold bst; split <;> omega
theorem bst_le (cs : List Int) : ∀ k i, i < k → nth cs i ≤ nth cs (bst cs k)
  | 0, i, h => absurd h (by omega)
  | k + 1, i, h => by
    unfold bst
    by_cases h1 : i = k
    · subst h1; split <;> omega
    · have := bst_le cs k i (by omega)
      split <;> omega
theorem bst_first (cs : List Int) : ∀ k i, i < bst cs k → nth cs i < nth cs (bst cs k)
  | 0, i, h => absurd h (by simp [bst])
  | k + 1, i, h => by
    unfold bst at h ⊢
    split
    · next h1 =>
      rw [if_pos h1] at h
      have := bst_le cs k i h
      omega
    · next h1 =>
      rw [if_neg h1] at h
      exact bst_first cs k i h
/-- One cent more for the one who is due the most. -/
def one (s : List Int × List Int) : List Int × List Int :=
  (s.1.set (bst s.2 s.2.length) (nth s.1 (bst s.2 s.2.length) + 1), s.2.set (bst s.2 s.2.length) (-1))
def many : Nat → List Int × List Int → List Int × List Int
  | 0, s => s
  | k + 1, s => one (many k s)
def qs (a t : Int) (ws : List Int) : List Int := ws.map fun w => a * w / t
def rs (a t : Int) (ws : List Int) : List Int := ws.map fun w => a * w % t
def leftN (a : Int) (ws : List Int) : Int := a - tot (qs a (tot ws) ws)
/-- The parts. -/
def share (a : Int) (ws : List Int) : List Int := (many (leftN a ws).toNat (qs a (tot ws) ws, rs a (tot ws) ws)).1
def good (a : Int) (ws : List Int) : Bool := decide (0 ≤ a ∧ a ≤ 1099511627776) && (ws.all (fun w => decide (0 ≤ w ∧ w ≤ 1048576)) && decide (tot ws ≠ 0))
theorem many_len (s : List Int × List Int) : ∀ k, (many k s).1.length = s.1.length ∧ (many k s).2.length = s.2.length
  | 0 => ⟨rfl, rfl⟩
  | k + 1 => by
    have := many_len s k
    unfold many one
    simp [this.1, this.2]
theorem share_len (a : Int) (ws : List Int) : (share a ws).length = ws.length := by
  unfold share
  rw [(many_len _ _).1]; simp [qs]
theorem tot_nonneg : ∀ (ws : List Int), (∀ w ∈ ws, 0 ≤ w) → 0 ≤ tot ws
  | [], _ => by simp [tot]
  | a :: l, h => by rw [tot_cons]; have := h a (by simp); have := tot_nonneg l (fun w hw => h w (by simp [hw])); omega
theorem le_tot : ∀ (ws : List Int), (∀ w ∈ ws, 0 ≤ w) → ∀ w ∈ ws, w ≤ tot ws
  | [], _, w, hw => by simp at hw
  | a :: l, h, w, hw => by
    rw [tot_cons]
    have h1 := tot_nonneg l (fun w hw => h w (by simp [hw]))
    have h2 := h a (by simp)
    rcases List.mem_cons.1 hw with rfl | hw
    · omega
    · have := le_tot l (fun w hw => h w (by simp [hw])) w hw; omega
/-- All that is left over, together. -/
theorem qr_tot (a t : Int) : ∀ ws : List Int, t * tot (qs a t ws) + tot (rs a t ws) = a * tot ws
  | [] => by simp [qs, rs, tot]
  | w :: l => by
    have ih := qr_tot a t l
    have h := Int.mul_ediv_add_emod (a * w) t
    simp only [qs, rs, List.map_cons, tot_cons] at ih ⊢
    rw [Int.mul_add, Int.mul_add]
    omega
theorem rs_tot (a : Int) (ws : List Int) : tot (rs a (tot ws) ws) = tot ws * leftN a ws := by
  have := qr_tot a (tot ws) ws
  unfold leftN
  rw [Int.mul_sub, Int.mul_comm (tot ws) a]
  omega
def pos (l : List Int) : Int := tot (l.map fun x => max x 0)
theorem pos_set : ∀ (l : List Int) (b : Nat) (v : Int), b < l.length → pos (l.set b v) = pos l + max v 0 - max (nth l b) 0
  | [], b, v, h => by simp at h
  | a :: l, 0, v, _ => by unfold pos; rw [List.set_cons_zero, List.map_cons, List.map_cons, tot_cons, tot_cons, nth_zero]; omega
  | a :: l, b + 1, v, h => by
    have := pos_set l b v (by simpa using h)
    unfold pos at this ⊢
    rw [List.set_cons_succ, List.map_cons, List.map_cons, tot_cons, tot_cons, this, nth_cons]; omega
theorem pos_ex : ∀ (l : List Int), 0 < pos l → ∃ i, i < l.length ∧ 0 < nth l i
  | [], h => by simp [pos, tot] at h
  | a :: l, h => by
    by_cases ha : 0 < a
    · exact ⟨0, by simp, by rw [nth_zero]; exact ha⟩
    · unfold pos at h
      rw [List.map_cons, tot_cons] at h
      obtain ⟨i, h1, h2⟩ := pos_ex l (by unfold pos; omega)
      exact ⟨i + 1, by simp; omega, by rw [nth_cons]; exact h2⟩
theorem pos_of : ∀ (l : List Int), (∀ x ∈ l, 0 ≤ x) → pos l = tot l
  | [], _ => rfl
  | a :: l, h => by
    have h1 := h a (by simp)
    have h2 := pos_of l (fun x hx => h x (by simp [hx]))
    unfold pos at h2 ⊢
    rw [List.map_cons, tot_cons, tot_cons, h2]; omega
/-- What stands behind j cents. -/
structure Inv (Q R : List Int) (j : Nat) (s : List Int × List Int) : Prop where
  l1 : s.1.length = Q.length
  l2 : s.2.length = Q.length
  each : ∀ i, i < Q.length → (nth s.2 i = -1 ∧ nth s.1 i = nth Q i + 1 ∧ 0 < nth R i) ∨ (nth s.2 i = nth R i ∧ nth s.1 i = nth Q i)
  first : ∀ i k, i < Q.length → k < Q.length → nth s.2 i = -1 → nth s.2 k ≠ -1 → nth R k < nth R i ∨ (nth R k = nth R i ∧ i < k)
  sum : tot s.1 = tot Q + j
theorem inv_zero (Q R : List Int) (h : R.length = Q.length) (hr : ∀ i, i < Q.length → 0 ≤ nth R i) : Inv Q R 0 (Q, R) :=
  ⟨rfl, h, fun i hi => .inr ⟨rfl, rfl⟩, fun i k hi hk h1 h2 => by have := hr i hi; dsimp only at h1; omega, by simp⟩
theorem inv_one {Q R : List Int} {j : Nat} {s : List Int × List Int} {t L : Int} (h : Inv Q R j s) (hr : ∀ i, i < Q.length → 0 ≤ nth R i ∧ nth R i < t) (hp : t * (L - j) ≤ pos s.2) (hj : (j : Int) < L) (ht : 0 < t) :
    Inv Q R (j + 1) (one s) ∧ t * (L - ((j + 1 : Nat) : Int)) ≤ pos (one s).2 := by
  have hpp : 0 < pos s.2 := by
    have : 0 < t * (L - j) := Int.mul_pos ht (by omega)
    omega
  obtain ⟨i0, h1, h2⟩ := pos_ex _ hpp
  have hb0 := bst_le s.2 s.2.length i0 h1
  have hbl := bst_lt s.2 s.2.length (by omega)
  have hfirst := bst_first s.2 s.2.length
  have hle := bst_le s.2 s.2.length
  generalize hb : bst s.2 s.2.length = b at hb0 hbl hfirst hle
  have hl2 := h.l2
  have hl1 := h.l1
  have hbe := h.each b (by omega)
  have hbR : nth s.2 b = nth R b ∧ nth s.1 b = nth Q b := by
    rcases hbe with ⟨e, _⟩ | e
    · omega
    · exact e
  have ho : one s = (s.1.set b (nth s.1 b + 1), s.2.set b (-1)) := by unfold one; rw [hb]
  rw [ho]
  have n1 : ∀ i, nth (s.1.set b (nth s.1 b + 1)) i = if i = b then nth s.1 b + 1 else nth s.1 i := nth_set _ _ _ (by omega)
  have n2 : ∀ i, nth (s.2.set b (-1)) i = if i = b then -1 else nth s.2 i := nth_set _ _ _ hbl
  refine ⟨⟨by simp [hl1], by simp [hl2], fun i hi => ?_, fun i k hi hk h3 h4 => ?_, ?_⟩, ?_⟩
  · dsimp only
    rw [n1, n2]
    by_cases e : i = b
    · subst e
      rw [if_pos rfl, if_pos rfl]
      exact .inl ⟨rfl, by omega, by omega⟩
    · rw [if_neg e, if_neg e]; exact h.each i hi
  · dsimp only at h3 h4
    rw [n2] at h3 h4
    by_cases ek : k = b
    · rw [if_pos ek] at h4; exact absurd rfl h4
    · rw [if_neg ek] at h4
      have hk' : nth s.2 k = nth R k := by
        rcases h.each k hk with ⟨e, _⟩ | ⟨e, _⟩
        · exact absurd e h4
        · exact e
      by_cases ei : i = b
      · subst ei
        have h5 := hle k (by omega)
        by_cases h6 : nth R k = nth R i
        · refine .inr ⟨h6, ?_⟩
          have h7 := hfirst k
          omega
        · exact .inl (by omega)
      · rw [if_neg ei] at h3
        exact h.first i k hi hk h3 h4
  · dsimp only
    rw [tot_set _ _ _ (by omega), h.sum]; push_cast; omega
  · dsimp only
    rw [pos_set _ _ _ hbl]
    have := hr b (by omega)
    have e : t * (L - ((j + 1 : Nat) : Int)) = t * (L - j) - t := by
      rw [show L - ((j + 1 : Nat) : Int) = (L - j) - 1 by push_cast; omega, Int.mul_sub, Int.mul_one]
    rw [e]
    omega
theorem inv_many {Q R : List Int} {t L : Int} (hlen : R.length = Q.length) (hr : ∀ i, i < Q.length → 0 ≤ nth R i ∧ nth R i < t) (hp : t * L ≤ pos R) (ht : 0 < t) :
    ∀ j : Nat, (j : Int) ≤ L → Inv Q R j (many j (Q, R)) ∧ t * (L - j) ≤ pos (many j (Q, R)).2
  | 0, _ => ⟨inv_zero Q R hlen fun i hi => (hr i hi).1, by simpa [many] using hp⟩
  | j + 1, hj => by
    obtain ⟨h1, h2⟩ := inv_many hlen hr hp ht j (by push_cast at hj; omega)
    exact inv_one h1 hr h2 (by push_cast at hj; omega) ht
section
variable {a : Int} {ws : List Int}
theorem good_iff : good a ws = true ↔ (0 ≤ a ∧ a ≤ 1099511627776) ∧ (∀ w ∈ ws, 0 ≤ w ∧ w ≤ 1048576) ∧ tot ws ≠ 0 := by
  unfold good
  simp only [Bool.and_eq_true, decide_eq_true_eq, List.all_eq_true]
theorem qs_nth {t : Int} {i : Nat} (h : i < ws.length) : nth (qs a t ws) i = a * nth ws i / t := nth_at (by unfold qs; rw [List.getElem?_map, at_nth h]; rfl)
theorem rs_nth {t : Int} {i : Nat} (h : i < ws.length) : nth (rs a t ws) i = a * nth ws i % t := nth_at (by unfold rs; rw [List.getElem?_map, at_nth h]; rfl)
theorem nth_mem {l : List Int} {i : Nat} (h : i < l.length) : nth l i ∈ l := List.mem_of_getElem? (at_nth h)
theorem leftN_pos (hg : good a ws = true) : 0 ≤ leftN a ws := by
  obtain ⟨h1, h2, h3⟩ := good_iff.1 hg
  have ht := tot_nonneg ws fun w hw => (h2 w hw).1
  have hr := rs_tot a ws
  have h0 : 0 ≤ tot (rs a (tot ws) ws) := tot_nonneg _ fun x hx => by
    unfold rs at hx
    obtain ⟨w, _, rfl⟩ := List.mem_map.1 hx
    exact Int.emod_nonneg _ h3
  rw [hr] at h0
  exact Int.nonneg_of_mul_nonneg_right h0 (by omega)
/-- The law of the parts, all at once. -/
theorem share_inv (hg : good a ws = true) : ∃ s, s.1 = share a ws ∧ Inv (qs a (tot ws) ws) (rs a (tot ws) ws) (leftN a ws).toNat s := by
  obtain ⟨h1, h2, h3⟩ := good_iff.1 hg
  have ht := tot_nonneg ws fun w hw => (h2 w hw).1
  have hl := leftN_pos hg
  have hq : (qs a (tot ws) ws).length = ws.length := by simp [qs]
  refine ⟨_, rfl, (inv_many (t := tot ws) (L := leftN a ws) (by simp [qs, rs]) (fun i hi => ?_) ?_ (by omega) _ (by omega)).1⟩
  · rw [rs_nth (by omega)]
    exact ⟨Int.emod_nonneg _ h3, Int.emod_lt_of_pos _ (by omega)⟩
  · rw [pos_of _ fun x hx => ?_, rs_tot]
    · exact Int.le_refl _
    · unfold rs at hx
      obtain ⟨w, _, rfl⟩ := List.mem_map.1 hx
      exact Int.emod_nonneg _ h3
theorem share_sum (hg : good a ws = true) : tot (share a ws) = a := by
  obtain ⟨s, e, h⟩ := share_inv hg
  rw [← e, h.sum]
  have := leftN_pos hg
  unfold leftN at this ⊢
  omega
/-- Each part: its due, or one more where something is left over. -/
theorem share_each (hg : good a ws = true) {i : Nat} (hi : i < ws.length) : 0 ≤ nth (share a ws) i ∧ nth (share a ws) i ≤ a ∧ (nth (share a ws) i = a * nth ws i / tot ws ∨ (nth (share a ws) i = a * nth ws i / tot ws + 1 ∧ a * nth ws i % tot ws ≠ 0)) := by
  obtain ⟨h1, h2, h3⟩ := good_iff.1 hg
  have ht := tot_nonneg ws fun w hw => (h2 w hw).1
  have hw := h2 _ (nth_mem hi)
  have hle := le_tot ws (fun w hw => (h2 w hw).1) _ (nth_mem hi)
  obtain ⟨s, e, h⟩ := share_inv hg
  have he := h.each i (by simp [qs]; exact hi)
  rw [e, qs_nth hi, rs_nth hi] at he
  have hd := Int.mul_ediv_add_emod (a * nth ws i) (tot ws)
  have hm := Int.emod_nonneg (a * nth ws i) h3
  have hq0 : 0 ≤ a * nth ws i / tot ws := Int.ediv_nonneg (Int.mul_nonneg h1.1 hw.1) ht
  have hp : a * nth ws i ≤ a * tot ws := Int.mul_le_mul_of_nonneg_left hle h1.1
  generalize hq : a * nth ws i / tot ws = q at *
  generalize hr : a * nth ws i % tot ws = r at *
  have hqa : q ≤ a ∧ (0 < r → q < a) := by
    refine ⟨Int.not_lt.1 fun hc => ?_, fun hr0 => Int.not_le.1 fun hc => ?_⟩
    · have : tot ws * (a + 1) ≤ tot ws * q := Int.mul_le_mul_of_nonneg_left (by omega) ht
      rw [Int.mul_add, Int.mul_comm (tot ws) a] at this
      omega
    · have : tot ws * a ≤ tot ws * q := Int.mul_le_mul_of_nonneg_left hc ht
      rw [Int.mul_comm (tot ws) a] at this
      omega
  rcases he with ⟨_, e1, e2⟩ | ⟨_, e1⟩
  · exact ⟨by omega, by have := hqa.2 e2; omega, .inr ⟨e1, by omega⟩⟩
  · exact ⟨by omega, by omega, .inl e1⟩
/-- Neighbours. -/
theorem share_mono (hg : good a ws = true) {i k : Nat} (hi : i < ws.length) (hk : k < ws.length) (hw : nth ws i < nth ws k) : nth (share a ws) i ≤ nth (share a ws) k := by
  obtain ⟨h1, h2, h3⟩ := good_iff.1 hg
  have ht := tot_nonneg ws fun w hw => (h2 w hw).1
  obtain ⟨s, e, h⟩ := share_inv hg
  have ei := h.each i (by simp [qs]; exact hi)
  have ek := h.each k (by simp [qs]; exact hk)
  have hf := h.first i k (by simp [qs]; exact hi) (by simp [qs]; exact hk)
  rw [e, qs_nth hi, rs_nth hi] at ei
  rw [e, qs_nth hk, rs_nth hk] at ek
  rw [rs_nth hi, rs_nth hk] at hf
  have hd1 := Int.mul_ediv_add_emod (a * nth ws i) (tot ws)
  have hm1 := Int.emod_nonneg (a * nth ws i) h3
  have hd2 := Int.mul_ediv_add_emod (a * nth ws k) (tot ws)
  have hm2 := Int.emod_nonneg (a * nth ws k) h3
  have hp : a * nth ws i ≤ a * nth ws k := Int.mul_le_mul_of_nonneg_left (by omega) h1.1
  have hqq : a * nth ws i / tot ws ≤ a * nth ws k / tot ws := Int.ediv_le_ediv (by omega) hp
  have hpe : a * nth ws i = a * nth ws k → a = 0 := by
    intro he
    rcases (show a = 0 ∨ 0 < a by omega) with h0 | h0
    · exact h0
    · have := Int.mul_lt_mul_of_pos_left hw h0
      omega
  have hz : a = 0 → a * nth ws i % tot ws = 0 := by intro e; rw [e, Int.zero_mul, Int.zero_emod]
  generalize a * nth ws i / tot ws = q1 at *
  generalize a * nth ws i % tot ws = r1 at *
  generalize a * nth ws k / tot ws = q2 at *
  generalize a * nth ws k % tot ws = r2 at *
  generalize a * nth ws i = p1 at *
  generalize a * nth ws k = p2 at *
  by_cases hq : q1 = q2
  · subst hq
    rcases ei with ⟨c1, o1, p⟩ | ⟨c1, o1⟩
    · rcases ek with ⟨c2, o2, p⟩ | ⟨c2, o2⟩
      · omega
      · have := hf c1 (by omega)
        omega
    · rcases ek with ⟨c2, o2, p⟩ | ⟨c2, o2⟩ <;> omega
  · rcases ei with ⟨c1, o1, p⟩ | ⟨c1, o1⟩ <;> rcases ek with ⟨c2, o2, p'⟩ | ⟨c2, o2⟩ <;> omega
theorem share_same (hg : good a ws = true) {i k : Nat} (hi : i < k) (hk : k < ws.length) (hw : nth ws i = nth ws k) : nth (share a ws) k ≤ nth (share a ws) i ∧ nth (share a ws) i ≤ nth (share a ws) k + 1 := by
  obtain ⟨h1, h2, h3⟩ := good_iff.1 hg
  obtain ⟨s, e, h⟩ := share_inv hg
  have hi' : i < ws.length := by omega
  have ei := h.each i (by simp [qs]; exact hi')
  have ek := h.each k (by simp [qs]; exact hk)
  have hf := h.first k i (by simp [qs]; exact hk) (by simp [qs]; exact hi')
  rw [e, qs_nth hi', rs_nth hi'] at ei
  rw [e, qs_nth hk, rs_nth hk] at ek
  rw [rs_nth hi', rs_nth hk] at hf
  have hm1 := Int.emod_nonneg (a * nth ws i) h3
  rw [← hw] at ek hf
  generalize a * nth ws i / tot ws = q at *
  generalize a * nth ws i % tot ws = r at *
  rcases ei with ⟨c1, o1, p⟩ | ⟨c1, o1⟩ <;> rcases ek with ⟨c2, o2, p'⟩ | ⟨c2, o2⟩
  · omega
  · omega
  · have := hf c2 (by omega); omega
  · omega
end
end Go.Proofs.YtfehdajjnbehdaaGreat.ShareP
