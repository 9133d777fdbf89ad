/- What Add of a mean answers, as a function; and the mean behind a list. -/
import Derived.Test.YthcjkdmlaahpbaaAdded
import Derived.Test.YthcjkdmlaahpbaaFltAny
import Derived.Test.YthcjkdmlaahpbaaSmooths
namespace Go.Proofs.Ythcjkdmlaahpbaa.Moves
open Go.RowKit Go.Proofs.Ythcjkdmlaahpbaa.Aid Go.Proofs.Ythcjkdmlaahpbaa.Fl Go.Proofs.Ythcjkdmlaahpbaa.Mem Go.Proofs.Ythcjkdmlaahpbaa.Keep Go.Proofs.Ythcjkdmlaahpbaa.Round Go.Proofs.Ythcjkdmlaahpbaa.Smooth Go.Proofs.Ythcjkdmlaahpbaa.Added
open Ieee (double Toward Format)
set_option linter.unusedSimpArgs false
set_option linter.unusedVariables false
set_option maxRecDepth 100000
/-- Is a word a number that is neither infinite nor NaN? -/
def fin (x : Nat) : Bool := decide (x % 9223372036854775808 < 9218868437227405312)
theorem fin_word (g : Bool) (r : Nat) (hr : r < 9223372036854775808) : fin (double.word g r) = decide (r < 9218868437227405312) := by
  unfold fin
  have e : double.word g r % 9223372036854775808 = r := by
    cases g
    · rw [word_f]; exact Nat.mod_eq_of_lt hr
    · rw [word_t, Nat.add_mod_left]; exact Nat.mod_eq_of_lt hr
  rw [e]
/-- The mean that a number makes of the mean ahead. -/
def nextM (sh mn x : Nat) : Option Nat := (double.sub x mn).bind fun d => (double.mul sh d).bind fun p => double.add mn p
/-- What Add answers: the number, the error; and what the mean is then, whether there is any. -/
def outF (sh mn : Nat) (any : Bool) (x : Nat) : Nat × Int × Nat × Bool :=
  if fin x = true then
    if any = true then
      match nextM sh mn x with
      | some m => if fin m = true then (m, 0, m, true) else (0, 3, mn, any)
      | none => (0, 3, mn, any)
    else (x, 0, x, true)
  else (0, 1, mn, any)
theorem nextM_of {sh mn x d p m : Nat} (h : Smooth.Steps sh mn x d p m) : nextM sh mn x = some m := by
  unfold nextM
  rw [h.sub]
  show (double.mul sh d).bind _ = _
  rw [h.mul]
  exact h.add
/-- A change of block s alone. -/
structure ChgB (s : Nat) (W W' : World) : Prop where
  size : W.heap.size ≤ W'.heap.size
  keep : ∀ b, b < W.heap.size → b ≠ s → W'.heap[b]? = W.heap[b]?
  os : W'.os = W.os
  tape : W'.tape = W.tape
  output : W'.output = W.output
theorem ChgB.of_dr {s : Nat} {W W' : World} (h : Dr W W') : ChgB s W W' := by
  obtain ⟨n, rfl⟩ := h
  exact ⟨Nat.le_refl _, fun _ _ _ => rfl, rfl, rfl, rfl⟩
theorem ChgB.put {s : Nat} (W : World) (n : Nat) (x y : Value) : ChgB s W (((W.drewN n).setCell ⟨s, 1, none⟩ x).setCell ⟨s, 2, none⟩ y) := by
  refine ⟨by simp [World.setCell], fun b _ hb => ?_, rfl, rfl, rfl⟩
  rw [Below.heap_setCell _ ⟨s, 2, none⟩ y b hb, Below.heap_setCell _ ⟨s, 1, none⟩ x b hb]
  rfl
theorem ChgB.below {B s : Nat} {W0 W W' : World} (hb : Below B W0 W) (h : ChgB s W W') (hs : B ≤ s) (hB : B ≤ W.heap.size) : Below B W0 W' :=
  ⟨h.os.trans hb.os, h.tape.trans hb.tape, h.output.trans hb.output, Nat.le_trans hb.size h.size, fun b hlt => (h.keep b (by omega) (by omega)).trans (hb.block b hlt)⟩
theorem ChgB.blk {s b : Nat} {W W' : World} {t : TypeId} {l : List Value} (h : ChgB s W W') (hb : Blk W b t l) (hne : b ≠ s) : Blk W' b t l := (h.keep b hb.lt hne).trans hb
/-- Add, whatever is added. -/
theorem sadd_f (sh mn : Nat) (any : Bool) (x : Nat) (W : World) (s : Nat) (h : Smo W s sh mn any) (hsx : sh < 18446744073709551616) (hs : shareB sh = true) (ho : OkM mn any) (hx : x < 18446744073709551616) (a : Nat) (e : Int) (mn' : Nat) (any' : Bool) (hq : Hid (outF sh mn any x = (a, e, mn', any'))) :
    Calls Try.prog 21 #[.pointer (some ⟨s, 0, none⟩), .float .f64 x] W fun y w' => y = .returned (.tuple #[.float .f64 a, .int .i64 e]) ∧ Smo w' s sh mn' any' ∧ OkM mn' any' ∧ ChgB s W w' := by
  have hq := hq.out
  obtain ⟨rs, esh, s0, s1, h0⟩ := share_word sh hsx hs
  obtain ⟨g, q, rfl, hq0⟩ := word_of x hx
  unfold outF at hq
  rw [fin_word g q hq0] at hq
  by_cases c1 : 9218868437227405312 < q
  · rw [decide_eq_false (by omega), if_neg (by decide)] at hq
    obtain ⟨rfl, rfl, rfl, rfl⟩ : a = 0 ∧ e = 1 ∧ mn' = mn ∧ any' = any := by simpa using hq.symm
    exact (sadd_nan g q hq0 c1 W s sh _ _ h h0).mono fun y w' ⟨e1, e2⟩ => ⟨e1, e2 ▸ h, ho, e2 ▸ ChgB.of_dr (Dr.refl _)⟩
  by_cases c2 : q = 9218868437227405312
  · subst c2
    rw [decide_eq_false (by omega), if_neg (by decide)] at hq
    obtain ⟨rfl, rfl, rfl, rfl⟩ : a = 0 ∧ e = 1 ∧ mn' = mn ∧ any' = any := by simpa using hq.symm
    exact (sadd_inf g W s sh _ _ h h0).mono fun y w' ⟨e1, e2⟩ => ⟨e1, e2 ▸ h, ho, e2 ▸ ChgB.of_dr (Dr.refl _)⟩
  have hq2 : q < 9218868437227405312 := by omega
  rw [decide_eq_true hq2, if_pos rfl] at hq
  rcases ho with ⟨rfl, rfl⟩ | ⟨rfl, gm, qm, rfl, hqm⟩
  · rw [if_neg (by decide)] at hq
    obtain ⟨rfl, rfl, rfl, rfl⟩ : a = double.word g q ∧ e = 0 ∧ mn' = double.word g q ∧ any' = true := by simpa using hq.symm
    exact (sadd_first g q hq2 W s sh 0 h h0).mono fun y w' ⟨e1, e2⟩ => ⟨e1, e2 ▸ Smo.put h _, .inr ⟨rfl, g, q, rfl, hq2⟩, e2 ▸ ChgB.put W 0 _ _⟩
  · obtain ⟨d, p, gn, qn, hst, hle⟩ := steps_any rs gm qm g q s0 s1 hqm hq2
    rw [← esh] at hst
    rw [if_pos rfl, nextM_of hst] at hq
    dsimp only at hq
    rw [fin_word gn qn (by omega)] at hq
    by_cases c3 : qn = 9218868437227405312
    · subst c3
      rw [decide_eq_false (by omega), if_neg (by decide)] at hq
      obtain ⟨rfl, rfl, rfl, rfl⟩ : a = 0 ∧ e = 3 ∧ mn' = double.word gm qm ∧ any' = true := by simpa using hq.symm
      exact (sadd_big g q hq2 W s sh _ d p gn h h0 hst).mono fun y w' ⟨e1, n, e2⟩ => ⟨e1, by subst e2; exact Blk.drewN h n, .inr ⟨rfl, gm, qm, rfl, hqm⟩, ChgB.of_dr ⟨n, e2⟩⟩
    · rw [decide_eq_true (by omega), if_pos rfl] at hq
      obtain ⟨rfl, rfl, rfl, rfl⟩ : a = double.word gn qn ∧ e = 0 ∧ mn' = double.word gn qn ∧ any' = true := by simpa using hq.symm
      exact (sadd_next g q hq2 W s sh _ d p gn qn (by omega) h h0 hst).mono fun y w' ⟨e1, n, e2⟩ => ⟨e1, by subst e2; exact Smo.put (Blk.drewN h n) _, .inr ⟨rfl, gn, qn, rfl, by omega⟩, by subst e2; exact ChgB.put W n _ _⟩
/-- One number more: what the mean is then; none, where it is refused. -/
def stepF (sh : Nat) (o : Option (Nat × Bool)) (x : Nat) : Option (Nat × Bool) := o.bind fun s => if (outF sh s.1 s.2 x).2.1 = 0 then some (outF sh s.1 s.2 x).2.2 else none
/-- The mean behind a list. -/
def beF (sh : Nat) (l : List Nat) : Option (Nat × Bool) := l.foldl (stepF sh) (some (0, false))
theorem beF_snoc (sh : Nat) {l : List Nat} {k x : Nat} (h : l[k]? = some x) : beF sh (l.take (k + 1)) = stepF sh (beF sh (l.take k)) x := by
  unfold beF
  rw [List.take_add_one, h, Option.toList_some, List.foldl_append]
  rfl
theorem fold_none (sh : Nat) : ∀ l : List Nat, l.foldl (stepF sh) none = none
  | [] => rfl
  | x :: l => fold_none sh l
theorem beF_none (sh : Nat) {l : List Nat} {k : Nat} (h : beF sh (l.take k) = none) : beF sh l = none := by
  unfold beF at *
  rw [← List.take_append_drop k l, List.foldl_append, h]
  exact fold_none sh _
end Go.Proofs.Ythcjkdmlaahpbaa.Moves
