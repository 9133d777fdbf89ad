/- The mean lies between, in plain words. -/
import Derived.Test.YtmpjcjgdjimioaaJoinP
import Derived.Test.YtmpjcjgdjimioaaRefOf
import Derived.Test.YtmpjcjgdjimioaaSymP
namespace Go.Proofs.Ytmpjcjgdjimioaa.BetwP
open Ieee Go.Proofs.Ytmpjcjgdjimioaa.Mem Go.Proofs.Ytmpjcjgdjimioaa.Nums Go.Proofs.Ytmpjcjgdjimioaa.Sums Go.Proofs.Ytmpjcjgdjimioaa.MinMax Go.Proofs.Ytmpjcjgdjimioaa.Of Go.Proofs.Ytmpjcjgdjimioaa.Fl Go.Proofs.Ytmpjcjgdjimioaa.Fin Go.Proofs.Ytmpjcjgdjimioaa.SOf Go.Proofs.Ytmpjcjgdjimioaa.Quant Go.Proofs.Ytmpjcjgdjimioaa.HistP Go.Proofs.Ytmpjcjgdjimioaa.Round Go.Proofs.Ytmpjcjgdjimioaa.RefOf Go.Proofs.Ytmpjcjgdjimioaa.JoinP Go.Proofs.Ytmpjcjgdjimioaa.SymP
set_option linter.unusedSimpArgs false
set_option linter.unusedVariables false
theorem fi_int (x : Int) (h : x.natAbs ≤ 9007199254740992) : ∃ q, fi x = double.word (decide (x < 0)) q ∧ q < 9218868437227405312 ∧ V q = x.natAbs * U := by
  obtain ⟨r, h1, h2⟩ := int_isN x
  rw [U_eq] at h2
  obtain ⟨q, e, hq⟩ := rep_whole x.natAbs h
  obtain rfl := isN_exact h2 e (by omega)
  exact ⟨r, h1, hq, e⟩
/-- Each is within B. -/
def Within (xs : List Int) (B : Nat) : Prop := ∀ x ∈ xs, x.natAbs ≤ B
theorem tot_within : ∀ {xs : List Int} {B : Nat}, Within xs B → (tot xs).natAbs ≤ xs.length * B
  | [], B, _ => by simp [tot]
  | x :: xs, B, h => by
    have h1 := h x List.mem_cons_self
    have h2 := tot_within (xs := xs) fun y hy => h y (List.mem_cons_of_mem _ hy)
    rw [tot_cons, List.length_cons, Nat.add_mul, Nat.one_mul]
    omega
theorem within_ok {xs : List Int} {B : Nat} (h : Within xs B) (hB : B ≤ 9007199254740992) (hn : xs.length * B ≤ 9007199254740992) : ofE xs = 0 := by
  have h1 : xs.all isN = true := List.all_eq_true.2 fun x hx => isN_t (by have := h x hx; omega)
  have h2 := tot_within h
  exact ofE_ok h1 (isN_t (by omega))
theorem least_tot : ∀ {xs : List Int} {k : Nat}, 1 ≤ k → k ≤ xs.length → (k : Int) * least xs k ≤ tot (xs.take k) ∧ tot (xs.take k) ≤ (k : Int) * most xs k
  | xs, 1, _, hk => by
    have hx : xs[0]? = some (xs[0]'(by omega)) := List.getElem?_eq_getElem _
    rw [least_one hx, most_one hx, tot_snoc xs 0 _ hx]
    simp [tot]
  | xs, k + 2, _, hk => by
    have hx : xs[k + 1]? = some (xs[k + 1]'(by omega)) := List.getElem?_eq_getElem _
    obtain ⟨h1, h2⟩ := least_tot (xs := xs) (k := k + 1) (by omega) (by omega)
    rw [least_next (by omega) hx, most_next (by omega) hx, tot_snoc xs (k + 1) _ hx]
    generalize xs[k + 1] = y at *
    generalize least xs (k + 1) = l at *
    generalize most xs (k + 1) = m at *
    generalize tot (xs.take (k + 1)) = t at *
    have e : ((k + 2 : Nat) : Int) = ((k + 1 : Nat) : Int) + 1 := by omega
    rw [e, Int.add_mul, Int.add_mul, Int.one_mul, Int.one_mul]
    have a1 : ((k + 1 : Nat) : Int) * min l y ≤ ((k + 1 : Nat) : Int) * l := Int.mul_le_mul_of_nonneg_left (by omega) (by omega)
    have a2 : ((k + 1 : Nat) : Int) * m ≤ ((k + 1 : Nat) : Int) * max m y := Int.mul_le_mul_of_nonneg_left (by omega) (by omega)
    omega
section
variable {xs : List Int} {n : Nat}
/-- The mean's word: the sum's sign, and the rank nearest to the quotient. -/
theorem mean_rank (ht : (tot xs).natAbs ≤ 9007199254740992) (hp : 0 < n) (hn : n ≤ 9007199254740992) : ∃ p, meanF xs n = double.word (decide (tot xs < 0)) p ∧ IsN ((tot xs).natAbs * U * U) (n * U) p := by
  obtain ⟨r, e1, h1, v1⟩ := fi_int (tot xs) ht
  obtain ⟨q, e2, h2, v2⟩ := fi_small n hn
  have hv : 0 < V q := by rw [v2]; exact Nat.mul_pos hp U_pos
  obtain ⟨p, a, b, c⟩ := fo_div (decide (tot xs < 0)) false r q h1 h2 (pos_of_V hv)
  rw [Bool.xor_false] at b
  rw [v1, v2] at c
  unfold meanF
  rw [e1, e2]
  exact ⟨p, b, c⟩
theorem rank_ge {t l n p q : Nat} (hp : 0 < n) (c : IsN (t * U * U) (n * U) p) (hq : q < 9218868437227405312) (v : V q = l * U) (h : n * l ≤ t) : V q ≤ V p := by
  have hd : 0 < n * U := Nat.mul_pos hp U_pos
  refine V_le (IsN.mono hd hd (Nat.mul_le_mul_right _ ?_) (IsN.exact hd (r := q) (by omega)) c)
  rw [v, show l * U * (n * U) = n * l * U * U by rw [Nat.mul_comm n l, Nat.mul_mul_mul_comm, Nat.mul_assoc (l * n)]]
  exact Nat.mul_le_mul_right _ (Nat.mul_le_mul_right _ h)
theorem rank_le {t l n p q : Nat} (hp : 0 < n) (c : IsN (t * U * U) (n * U) p) (hq : q < 9218868437227405312) (v : V q = l * U) (h : t ≤ n * l) : V p ≤ V q := by
  have hd : 0 < n * U := Nat.mul_pos hp U_pos
  refine (IsN_top c hd (by omega) ?_).2
  rw [v, show l * U * (n * U) = n * l * U * U by rw [Nat.mul_comm n l, Nat.mul_mul_mul_comm, Nat.mul_assoc (l * n)]]
  exact Nat.mul_le_mul_right _ (Nat.mul_le_mul_right _ h)
/-- The mean is not below a number that times n is not above the sum. -/
theorem mean_ge (ht : (tot xs).natAbs ≤ 9007199254740992) (hp : 0 < n) (hn : n ≤ 9007199254740992) {L : Int} (hL : L.natAbs ≤ 9007199254740992) (h : (n : Int) * L ≤ tot xs) : ltF (meanF xs n) (fi L) = false := by
  obtain ⟨p, e, c⟩ := mean_rank ht hp hn
  obtain ⟨q, e2, hq, v⟩ := fi_int L hL
  have hd : 0 < n * U := Nat.mul_pos hp U_pos
  rw [e, e2, ltF_word _ _ p q c.le (by omega), decide_eq_false_iff_not]
  by_cases h0 : tot xs < 0
  · have hL0 : L < 0 := by
      rcases Int.lt_or_le L 0 with h1 | h1
      · exact h1
      · have := Int.mul_nonneg (Int.natCast_nonneg n) h1; omega
    rw [decide_eq_true h0, decide_eq_true hL0, sv_t, sv_t]
    have := rank_le hp c hq v (by
      have e3 : ((tot xs).natAbs : Int) = -(tot xs) := by omega
      have e4 : (L.natAbs : Int) = -L := by omega
      have : ((tot xs).natAbs : Int) ≤ ((n * L.natAbs : Nat) : Int) := by
        rw [Int.natCast_mul, e3, e4, Int.mul_neg]; omega
      exact Int.ofNat_le.1 this)
    omega
  · rw [decide_eq_false h0, sv_f]
    by_cases hL0 : L < 0
    · rw [decide_eq_true hL0, sv_t]; omega
    · rw [decide_eq_false hL0, sv_f]
      have := rank_ge hp c hq v (by
        have e3 : ((tot xs).natAbs : Int) = tot xs := by omega
        have e4 : (L.natAbs : Int) = L := by omega
        have : ((n * L.natAbs : Nat) : Int) ≤ ((tot xs).natAbs : Int) := by
          rw [Int.natCast_mul, e3, e4]; exact h
        exact Int.ofNat_le.1 this)
      omega
theorem mean_le (ht : (tot xs).natAbs ≤ 9007199254740992) (hp : 0 < n) (hn : n ≤ 9007199254740992) {M : Int} (hM : M.natAbs ≤ 9007199254740992) (h : tot xs ≤ (n : Int) * M) : (FloatKind.f64.format.order (meanF xs n) (fi M) == some .gt) = false := by
  obtain ⟨p, e, c⟩ := mean_rank ht hp hn
  obtain ⟨q, e2, hq, v⟩ := fi_int M hM
  have hle : sv (decide (tot xs < 0)) p ≤ sv (decide (M < 0)) q := by
    by_cases h0 : tot xs < 0
    · rw [decide_eq_true h0, sv_t]
      by_cases hM0 : M < 0
      · rw [decide_eq_true hM0, sv_t]
        have := rank_ge hp c hq v (by
          have e3 : ((tot xs).natAbs : Int) = -(tot xs) := by omega
          have e4 : (M.natAbs : Int) = -M := by omega
          have : ((n * M.natAbs : Nat) : Int) ≤ ((tot xs).natAbs : Int) := by
            rw [Int.natCast_mul, e3, e4, Int.mul_neg]; omega
          exact Int.ofNat_le.1 this)
        omega
      · rw [decide_eq_false hM0, sv_f]; omega
    · have hM0 : ¬ M < 0 := by
        intro hM0
        have : (n : Int) * M < 0 := Int.mul_neg_of_pos_of_neg (by omega) hM0
        omega
      rw [decide_eq_false h0, decide_eq_false hM0, sv_f, sv_f]
      have := rank_le hp c hq v (by
        have e3 : ((tot xs).natAbs : Int) = tot xs := by omega
        have e4 : (M.natAbs : Int) = M := by omega
        have : ((tot xs).natAbs : Int) ≤ ((n * M.natAbs : Nat) : Int) := by
          rw [Int.natCast_mul, e3, e4]; exact h
        exact Int.ofNat_le.1 this)
      omega
  rw [e, e2, show FloatKind.f64.format.order (double.word (decide (tot xs < 0)) p) (double.word (decide (M < 0)) q) = _ from ord _ _ p q c.le (by omega)]
  by_cases h1 : sv (decide (tot xs < 0)) p < sv (decide (M < 0)) q
  · rw [if_pos h1]; rfl
  · rw [if_neg h1, if_pos (by omega)]; rfl
/-- The variance is not below 0. -/
theorem var_ge (hl : xs.length = n) (he : ofE xs = 0) (hp : 0 < n) (hn : n ≤ 9007199254740992) : (FloatKind.f64.format.order (varF xs n) 0 == some .gt || FloatKind.f64.format.order (varF xs n) 0 == some .eq) = true := by
  unfold ofE at he
  split at he
  · rename_i h1
    split at he
    · rename_i h2
      have hall : ∀ x ∈ xs, isN x = true := by simpa using h1
      obtain ⟨s, q, e2, h2', _, hs⟩ := vs_word hl hall (mean_word h2 hp hn).2 hn n (Nat.le_refl _)
      obtain ⟨r, e3, h3, v3⟩ := fi_small n hn
      have hv : 0 < V r := by rw [v3]; exact Nat.mul_pos hp U_pos
      obtain ⟨p, _, b, c⟩ := fo_div s false q r h2' h3 (pos_of_V hv)
      rw [Bool.xor_false] at b
      have ev : varF xs n = double.word s p := by unfold varF; rw [e2, e3, b]
      rw [ev]
      have e0 : FloatKind.f64.format.order (double.word s p) 0 = some (if sv s p < 0 then .lt else if sv s p = 0 then .eq else .gt) := by
        have := ord s false p 0 c.le (by decide)
        rw [show double.word false 0 = 0 by rw [word_f], show sv false 0 = 0 by simp [sv, V_zero]] at this
        exact this
      have hnn : 0 ≤ sv s p := by
        rcases hs with rfl | rfl
        · rw [sv_f]; omega
        · rw [V_zero, Nat.zero_mul] at c
          have := (IsN_top (b := 0) c hv (by decide) (by simp)).1
          obtain rfl : p = 0 := by omega
          cases s <;> simp [sv, V_zero]
      rw [e0, if_neg (by omega)]
      by_cases h0 : sv s p = 0
      · rw [if_pos h0]; rfl
      · rw [if_neg h0]; rfl
    · cases he
  · cases he
theorem tot_same {c : Int} : ∀ {xs : List Int}, (∀ x ∈ xs, x = c) → tot xs = (xs.length : Int) * c
  | [], _ => by simp [tot]
  | x :: xs, h => by
    rw [tot_cons, h x List.mem_cons_self, tot_same (xs := xs) fun y hy => h y (List.mem_cons_of_mem _ hy), List.length_cons]
    push_cast
    rw [Int.add_mul, Int.one_mul]; omega
/-- Where all are the same: the mean is that, the variance 0. -/
theorem same_all {c : Int} (hl : xs.length = n) (h : ∀ x ∈ xs, x = c) (hc : c.natAbs ≤ 9007199254740992) (ht : (tot xs).natAbs ≤ 9007199254740992) (hp : 0 < n) (hn : n ≤ 9007199254740992) : meanF xs n = fi c ∧ varF xs n = 0 := by
  obtain ⟨p, e, c1⟩ := mean_rank ht hp hn
  obtain ⟨q, e2, hq, v⟩ := fi_int c hc
  have hd : 0 < n * U := Nat.mul_pos hp U_pos
  have et : tot xs = (n : Int) * c := by rw [← hl]; exact tot_same h
  have en : (tot xs).natAbs = n * c.natAbs := by rw [et, Int.natAbs_mul, Int.natAbs_natCast]
  have hpq : p = q := by
    refine IsN.eq hd hd (congrArg (· * (n * U)) ?_) c1 (IsN.exact hd (r := q) (by omega))
    rw [v, en, show c.natAbs * U * (n * U) = n * c.natAbs * U * U by rw [Nat.mul_comm n c.natAbs, Nat.mul_mul_mul_comm, Nat.mul_assoc (c.natAbs * n)]]
  have hs : decide (tot xs < 0) = decide (c < 0) := by
    rw [decide_eq_decide, et]
    constructor
    · intro h0
      rcases Int.lt_or_le c 0 with h1 | h1
      · exact h1
      · have := Int.mul_nonneg (Int.natCast_nonneg n) h1; omega
    · intro h0; exact Int.mul_neg_of_pos_of_neg (by omega) h0
  have hm : meanF xs n = fi c := by rw [e, hs, hpq, ← e2]
  refine ⟨hm, ?_⟩
  have hz : fo .mul (fo .sub (fi c) (fi c)) (fo .sub (fi c) (fi c)) = 0 := by
    rw [e2]
    obtain ⟨g, k⟩ := sub_self (decide (c < 0)) q hq
    rw [(fo_of (op := .sub) (show floatBits .sub .f64 _ _ = some (double.word g 0) from k)).2]
    cases g <;> decide +kernel
  have hvs : ∀ k, k ≤ n → vsF xs (fi c) k = 0 := by
    intro k
    induction k with
    | zero => intro _; rfl
    | succ k ih =>
      intro hk
      have hx : xs[k]? = some (xs[k]'(by omega)) := List.getElem?_eq_getElem _
      rw [vsF, hx, Option.getD_some, h _ (List.getElem_mem _), ih (by omega), hz]
      decide +kernel
  unfold varF
  rw [hm, hvs n (Nat.le_refl _)]
  obtain ⟨r, e3, h3, v3⟩ := fi_small n hn
  have hv : 0 < V r := by rw [v3]; exact Nat.mul_pos hp U_pos
  obtain ⟨p', _, b, c'⟩ := fo_div false false 0 r (by decide) h3 (pos_of_V hv)
  rw [V_zero, Nat.zero_mul] at c'
  have := (IsN_top (b := 0) c' hv (by decide) (by simp)).1
  obtain rfl : p' = 0 := by omega
  rw [e3]
  rw [show double.word false 0 = 0 by rw [word_f]] at b
  rw [b]
  decide
end
end Go.Proofs.Ytmpjcjgdjimioaa.BetwP
