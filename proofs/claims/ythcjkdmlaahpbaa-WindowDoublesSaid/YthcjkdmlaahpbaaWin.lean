/- Windows: what a window is in memory; contracts of num.Add, out, turn. -/
import Derived.Test.YthcjkdmlaahpbaaKeep
import Derived.Test.YthcjkdmlaahpbaaApp
import Derived.Test.YthcjkdmlaahpbaaIs
import Derived.Test.YthcjkdmlaahpbaaRows
import Derived.WalkKit
import Derived.WalkSpells
import Derived.Lib.Hide
import Derived.LoopTactic
import Derived.OwnWalk
import Derived.Deep.QuietTactic
import Derived.BigQuiet
namespace Go.Proofs.Ythcjkdmlaahpbaa.Win
open Go.RowKit Go.Proofs.Ythcjkdmlaahpbaa.Aid Go.Proofs.Ythcjkdmlaahpbaa.Mem Go.Proofs.Ythcjkdmlaahpbaa.Keep Go.Proofs.Ythcjkdmlaahpbaa.Nums
set_option linter.unusedSimpArgs false
set_option linter.unusedVariables false
set_option maxRecDepth 100000
/-- What was added, as cells. -/
def cellsA (l : List (Int × Int)) : List Value := l.flatMap fun p => [.int .i64 p.1, .int .i64 p.2]
def sumA (l : List (Int × Int)) : Int := tot (l.map (·.2))
/-- How many at the head are not behind x. -/
def lead (x : Int) : List (Int × Int) → Nat
  | [] => 0
  | p :: l => if p.1 ≤ x then lead x l + 1 else 0
theorem lead_le (x : Int) : ∀ l, lead x l ≤ l.length
  | [] => Nat.le_refl _
  | p :: l => by have := lead_le x l; unfold lead; split <;> simp <;> omega
theorem lead_in (x : Int) : ∀ (l : List (Int × Int)) (i : Nat) (p : Int × Int), i < lead x l → l[i]? = some p → p.1 ≤ x
  | [], i, p, h, _ => by simp [lead] at h
  | a :: l, i, p, h, hp => by
    unfold lead at h
    split at h
    · next h1 =>
      cases i with
      | zero => simp at hp; subst hp; exact h1
      | succ i => exact lead_in x l i p (by omega) (by simpa using hp)
    · omega
theorem lead_at (x : Int) : ∀ (l : List (Int × Int)) (p : Int × Int), l[lead x l]? = some p → ¬ p.1 ≤ x
  | [], p, hp => by simp at hp
  | a :: l, p, hp => by
    unfold lead at hp
    split at hp
    · exact lead_at x l p (by simpa using hp)
    · next h => simp at hp; subst hp; exact h
theorem cells_at {l : List (Int × Int)} {j : Nat} {p : Int × Int} (h : l[j]? = some p) (u : Nat) (v : Value) (hv : [Value.int .i64 p.1, .int .i64 p.2][u]? = some v) : (cellsA l)[j * 2 + u]? = some v := by
  unfold cellsA
  induction l generalizing j with
  | nil => simp at h
  | cons a l ih =>
    have hu : u < 2 := by have := (List.getElem?_eq_some_iff.1 hv).1; simpa using this
    rw [List.flatMap_cons]
    cases j with
    | zero =>
      simp at h; subst h
      rw [Nat.zero_mul, Nat.zero_add, List.getElem?_append_left (by simpa using hu)]
      exact hv
    | succ j =>
      rw [List.getElem?_append_right (by simp; omega), show (j + 1) * 2 + u - [Value.int .i64 a.1, .int .i64 a.2].length = j * 2 + u by simp; omega]
      exact ih (by simpa using h)
theorem cells_len (l : List (Int × Int)) : (cellsA l).length = l.length * 2 := by
  induction l with
  | nil => rfl
  | cons p l ih => unfold cellsA at *; rw [List.flatMap_cons, List.length_append, ih, List.length_cons]; simp; omega
theorem cells_drop (l : List (Int × Int)) : ∀ k, cellsA (l.drop k) = (cellsA l).drop (k * 2) := by
  induction l with
  | nil => intro k; simp [cellsA]
  | cons p l ih =>
    intro k
    cases k with
    | zero => simp
    | succ k =>
      rw [List.drop_succ_cons, ih k, show (k + 1) * 2 = k * 2 + 1 + 1 by omega]
      conv => rhs; unfold cellsA; rw [List.flatMap_cons]
      rfl
/-- A window in memory; B: where rows of its own begin. -/
def Win (W : World) (g B : Nat) (wd ck sm : Int) (l : List (Int × Int)) : Prop :=
  ∃ v, Blk W g 71 [.int .i64 wd, .int .i64 ck, .int .i64 sm, v] ∧ Own W B 83 2 v l.length (cellsA l)
/-- No block of old but g is another one. -/
structure Chg (g : Nat) (W W' : World) : Prop where
  size : W.heap.size ≤ W'.heap.size
  keep : ∀ b, b < W.heap.size → b ≠ g → W'.heap[b]? = W.heap[b]?
  os : W'.os = W.os
  tape : W'.tape = W.tape
  output : W'.output = W.output
theorem Chg.refl (g : Nat) (W : World) : Chg g W W := ⟨Nat.le_refl _, fun _ _ _ => rfl, rfl, rfl, rfl⟩
theorem Chg.trans {g : Nat} {W W' W'' : World} (h : Chg g W W') (k : Chg g W' W'') : Chg g W W'' :=
  ⟨Nat.le_trans h.size k.size, fun b hb hg => (k.keep b (Nat.lt_of_lt_of_le hb h.size) hg).trans (h.keep b hb hg), k.os.trans h.os, k.tape.trans h.tape, k.output.trans h.output⟩
theorem Chg.of_dr {g : Nat} {W W' : World} (h : Dr W W') : Chg g W W' := by
  obtain ⟨n, rfl⟩ := h
  exact ⟨Nat.le_refl _, fun _ _ _ => rfl, rfl, rfl, rfl⟩
theorem Chg.below {B g : Nat} {W0 W W' : World} (hb : Below B W0 W) (h : Chg g W W') (hg : B ≤ g) (hB : B ≤ W.heap.size) : Below B W0 W' :=
  ⟨h.os.trans hb.os, h.tape.trans hb.tape, h.output.trans hb.output, Nat.le_trans hb.size h.size, fun b hlt => (h.keep b (by omega) (by omega)).trans (hb.block b hlt)⟩
theorem Chg.blk {g b : Nat} {W W' : World} {t : TypeId} {l : List Value} (h : Chg g W W') (hb : Blk W b t l) (hne : b ≠ g) : Blk W' b t l := (h.keep b hb.lt hne).trans hb
theorem Chg.own {g B : Nat} {W W' : World} {e : TypeId} {s n : Nat} {v : Value} {l : List Value} (h : Chg g W W') (hO : Own W B e s v n l) (hg : g < B) : Own W' B e s v n l := by
  refine ⟨hO.1, ?_⟩
  rcases hO.2 with h0 | ⟨b, cap, cur, rfl, hb, hh, h1, h2, h3, h4⟩
  · exact .inl h0
  · exact .inr ⟨b, cap, cur, rfl, hb, (h.keep b (Array.getElem?_eq_some_iff.1 hh).1 (by omega)).trans hh, h1, h2, h3, h4⟩
theorem Chg.win {g g2 B : Nat} {W W' : World} {wd ck sm : Int} {l : List (Int × Int)} (h : Chg g W W') (hw : Win W g2 B wd ck sm l) (hne : g2 ≠ g) (hg : g < B) : Win W' g2 B wd ck sm l := by
  obtain ⟨v, h1, h2⟩ := hw
  exact ⟨v, h.blk h1 hne, h.own h2 hg⟩
theorem ret_ii {a a' b b' : Int} (h : a = a') (h' : b = b') : Ending.returned (.tuple #[.int .i64 a, .int .i64 b]) = Ending.returned (.tuple #[.int .i64 a', .int .i64 b']) := by rw [h, h']
/-- num.Add of two numbers from 0 on. -/
theorem add_t (a b : Int) (w : World) (ha : 0 ≤ a) (hb : 0 ≤ b) (h : a + b ≤ 4611686018427387903) : Calls Try.prog 33 #[.int .i64 a, .int .i64 b] w fun e w' => e = .returned (.tuple #[.int .i64 (a + b), .bool true]) ∧ w = w' := by
  have i1 : isN a = true := isN_t (by omega)
  have i2 : isN b = true := isN_t (by omega)
  have i3 : isN (a + b) = true := isN_t (by omega)
  have c1 := fun w => is_c a w
  have c2 := fun w => is_c b w
  have c3 := fun w => is_c (a + b) w
  rw [i1] at c1
  rw [i2] at c2
  rw [i3] at c3
  go_enter Try.func33, Try.ntmps33
  go_wp2_with (first | (go_at_call 41; (with_reducible refine (c1 _).mono ?_); rintro e w' ⟨rfl, rfl⟩) | (go_at_call 41; (with_reducible refine (c2 _).mono ?_); rintro e w' ⟨rfl, rfl⟩) | (go_at_call 41; (with_reducible refine (c3 _).mono ?_); rintro e w' ⟨rfl, rfl⟩))
  go_ret2
  exact ⟨rfl, rfl⟩
theorem add_f (a b : Int) (w : World) (ha : 0 ≤ a ∧ a ≤ 4611686018427387903) (hb : 0 ≤ b ∧ b ≤ 4611686018427387903) (h : 4611686018427387903 < a + b) : Calls Try.prog 33 #[.int .i64 a, .int .i64 b] w fun e w' => e = .returned (.tuple #[.int .i64 0, .bool false]) ∧ w = w' := by
  have i1 : isN a = true := isN_t (by omega)
  have i2 : isN b = true := isN_t (by omega)
  have i3 : isN (a + b) = false := isN_f (by omega)
  have c1 := fun w => is_c a w
  have c2 := fun w => is_c b w
  have c3 := fun w => is_c (a + b) w
  rw [i1] at c1
  rw [i2] at c2
  rw [i3] at c3
  obtain ⟨a0, a1⟩ := ha
  obtain ⟨b0, b1⟩ := hb
  go_enter Try.func33, Try.ntmps33
  go_wp2_with (first | (go_at_call 41; (with_reducible refine (c1 _).mono ?_); rintro e w' ⟨rfl, rfl⟩) | (go_at_call 41; (with_reducible refine (c2 _).mono ?_); rintro e w' ⟨rfl, rfl⟩) | (go_at_call 41; (with_reducible refine (c3 _).mono ?_); rintro e w' ⟨rfl, rfl⟩))
  go_ret2
  exact ⟨rfl, rfl⟩
/-- What a list may be. -/
structure Lok (l : List (Int × Int)) : Prop where
  tick : ∀ p ∈ l, 0 ≤ p.1 ∧ p.1 ≤ 1099511627776
  n : ∀ p ∈ l, 0 ≤ p.2
  sum : sumA l ≤ 4611686018427387903
theorem sum_take {l : List (Int × Int)} (h : Lok l) (k : Nat) : 0 ≤ sumA (l.take k) ∧ sumA (l.take k) ≤ sumA l := by
  have nn : ∀ l : List (Int × Int), (∀ p ∈ l, 0 ≤ p.2) → 0 ≤ sumA l := fun l hl => by
    induction l with
    | nil => simp [sumA, tot]
    | cons p l ih =>
      have h1 := hl p (by simp)
      have h2 := ih fun q hq => hl q (by simp [hq])
      unfold sumA at *
      rw [List.map_cons, tot_cons]; omega
  have h1 := nn (l.take k) fun p hp => h.n p (List.mem_of_mem_take hp)
  have h2 := nn (l.drop k) fun p hp => h.n p (List.mem_of_mem_drop hp)
  have h3 : sumA (l.take k ++ l.drop k) = sumA l := by rw [List.take_append_drop]
  have h4 : sumA (l.take k ++ l.drop k) = sumA (l.take k) + sumA (l.drop k) := by unfold sumA; rw [List.map_append, tot_append]
  omega
theorem sum_drop {l : List (Int × Int)} (k : Nat) : sumA (l.drop k) = sumA l - sumA (l.take k) := by
  have h3 : sumA (l.take k ++ l.drop k) = sumA l := by rw [List.take_append_drop]
  have h4 : sumA (l.take k ++ l.drop k) = sumA (l.take k) + sumA (l.drop k) := by unfold sumA; rw [List.map_append, tot_append]
  omega
theorem sum_snoc {l : List (Int × Int)} {k : Nat} {p : Int × Int} (h : l[k]? = some p) : sumA (l.take (k + 1)) = sumA (l.take k) + p.2 := by
  rw [take_snoc l k p h]
  unfold sumA
  rw [List.map_append, tot_append]
  simp [tot]
/-- An element of the list. -/
theorem own_el {W : World} {B : Nat} {e : TypeId} {v : Value} {l : List (Int × Int)} (h : Own W B e 2 v l.length (cellsA l)) {k : Nat} (hk : k < l.length) : ∃ b c t n, v = .slice (some ⟨b, 0, none⟩) l.length c ∧ l[k]? = some (t, n) ∧ W.cell? ⟨b, k * 2, none⟩ = some (.int .i64 t) ∧ W.cell? ⟨b, k * 2 + 1, none⟩ = some (.int .i64 n) := by
  obtain ⟨A, c, rfl, _, hf⟩ := h.form
  obtain ⟨b, rfl, _, _, hc⟩ := hf (by omega)
  have hl : l[k]? = some l[k] := List.getElem?_eq_getElem hk
  exact ⟨b, c, l[k].1, l[k].2, rfl, hl, hc _ _ (cells_at hl 0 _ rfl), hc _ _ (cells_at hl 1 _ rfl)⟩
end Go.Proofs.Ythcjkdmlaahpbaa.Win
