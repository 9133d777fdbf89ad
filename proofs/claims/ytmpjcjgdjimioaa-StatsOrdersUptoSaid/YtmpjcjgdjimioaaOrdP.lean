/- Histogram and Quantile, whatever the order; append of a list to a row of the call's own. -/
import Derived.Test.YtmpjcjgdjimioaaEdges
import Derived.Test.YtmpjcjgdjimioaaQuantP
import Derived.Laws.AppendOwnNone
namespace Go.Proofs.Ytmpjcjgdjimioaa.OrdP
open Go.RowKit Go.Proofs.Ytmpjcjgdjimioaa.Aid Go.Proofs.Ytmpjcjgdjimioaa.Mem Go.Proofs.Ytmpjcjgdjimioaa.Of Go.Proofs.Ytmpjcjgdjimioaa.Search Go.Proofs.Ytmpjcjgdjimioaa.Sorts Go.Proofs.Ytmpjcjgdjimioaa.Cont Go.Proofs.Ytmpjcjgdjimioaa.HistP Go.Proofs.Ytmpjcjgdjimioaa.Quant Go.Proofs.Ytmpjcjgdjimioaa.QuantP Go.Proofs.Ytmpjcjgdjimioaa.Edges
set_option linter.unusedSimpArgs false
set_option linter.unusedVariables false
theorem hist_rev (es : List Nat) (l : List Int) : hist es l.reverse = hist es l := by unfold hist; simp [List.countP_reverse]
theorem hist_app {es : List Nat} {l m : List Int} {j : Nat} {a c : Int} (ha : (hist es l)[j]? = some a) (hc : (hist es m)[j]? = some c) : (hist es (l ++ m))[j]? = some (a + c) := by
  have hj : j ≤ es.length := by have := (List.getElem?_eq_some_iff.1 ha).1; rw [hist_length] at this; omega
  rw [hist_at hj] at ha hc ⊢
  cases ha; cases hc
  rw [List.countP_append]; simp
theorem hist_nn {es : List Nat} {l : List Int} {j : Nat} {a : Int} (ha : (hist es l)[j]? = some a) : 0 ≤ a ∧ a ≤ l.length := by
  have hj : j ≤ es.length := by have := (List.getElem?_eq_some_iff.1 ha).1; rw [hist_length] at this; omega
  rw [hist_at hj] at ha
  cases ha
  have : (l.countP fun x => place es x == j) ≤ l.length := List.countP_le_length
  omega
theorem tot_set : ∀ {L : List Int} {p : Nat} {a : Int} (v : Int), L[p]? = some a → tot (L.set p v) = tot L - a + v
  | x :: L, 0, a, v, h => by
    simp at h; subst h
    rw [List.set_cons_zero, tot_cons, tot_cons]; omega
  | x :: L, p + 1, a, v, h => by
    have := tot_set (L := L) (p := p) v (by simpa using h)
    rw [List.set_cons_succ, tot_cons, tot_cons, this]; omega
  | [], p, a, v, h => by simp at h
theorem tot_zero : ∀ n, tot (List.replicate n 0) = 0
  | 0 => rfl
  | n + 1 => by rw [List.replicate_succ, tot_cons, tot_zero n]; rfl
theorem hist_tot (es : List Nat) (l : List Int) : ∀ k, k ≤ l.length → tot (hist es (l.take k)) = k
  | 0, _ => by rw [List.take_zero, hist_nil, tot_zero]; rfl
  | k + 1, hk => by
    have hx : l[k]? = some (l[k]'(by omega)) := List.getElem?_eq_getElem _
    rw [take_snoc l k _ hx, hist_snoc, tot_set _ (hist_at (place_le es _)), hist_tot es l k (by omega)]
    push_cast; omega
theorem hist_all (es : List Nat) (l : List Int) : tot (hist es l) = l.length := by
  have := hist_tot es l l.length (Nat.le_refl _)
  rwa [List.take_length] at this
theorem srt_rev (l : List Int) : srt l.reverse = srt l :=
  ((srt_perm _).trans ((List.reverse_perm l).trans (srt_perm l).symm)).eq_of_pairwise (le := (· ≤ ·)) (fun a b _ _ h h' => Int.le_antisymm h h') (srt_sorted _) (srt_sorted _)
theorem from_uniq {p : Nat → Bool} {n j k : Nat} (hj : From p n j) (hk : From p n k) : j = k := by
  rcases Nat.lt_trichotomy j k with h | h | h
  · have h1 := hk.2.1 j h
    have h2 := hj.2.2 j (Nat.le_refl _) (by have := hk.1; omega)
    rw [h1] at h2; cases h2
  · exact h
  · have h1 := hj.2.1 k h
    have h2 := hk.2.2 k (Nat.le_refl _) (by have := hj.1; omega)
    rw [h1] at h2; cases h2
/-- append(v, l...) behind 'at_builtin'. -/
theorem app_list {ops : Array Oper} {rest : List Oper} {o : Oper} {a : Act} {Q : Exit → Act → World → Prop} {w0 W : World} (base : Nat) (hgd : o.guard = none) (s x : Operand)
    (ho : o.op = .call { callee := .builtin .append, args := #[s, x], argTypes := #[22, 22] })
    (v : Value) (n : Nat) (xs : List Int) (hs : a.eval s = v) (A : Option Addr) (m c : Nat) (ys : List Int) (hx : a.eval x = .slice A m c) (HI : Ints W .i64 A m ys) (hA : A = none → m = 0 ∧ c = 0)
    (HO : Own W base 3 1 v n (nums .i64 xs)) (HB : Below base w0 W) (hbase : base ≤ W.heap.size) (hm : n + m ≤ maxLen) (hl : (n + m) * 8 ≤ 140737488355328)
    (h : ∀ v1 w1, Own w1 base 3 1 v1 (n + m) (nums .i64 (xs ++ ys)) → Below base w0 w1 → wpList Try.prog ops Q rest (a.put o.dst v1) w1) :
    wpList Try.prog ops Q (o :: rest) a W := by
  obtain ⟨i0, hi, hzz⟩ := Option.map_eq_some_iff.1 infoI
  simp only [Prod.mk.injEq] at hzz
  obtain ⟨hz0, hz1, hz2⟩ := hzz
  cases A with
  | none =>
    obtain ⟨rfl, rfl⟩ := hA rfl
    have hy : ys = [] := List.length_eq_zero_iff.1 HI.1
    refine wpList_plain hgd fun K hK => ?_
    have hr := run_append_owned_none (P := Try.prog) W base 22 o.type 3 i0 1 Try.underlying22 hi v n (nums .i64 xs) HO
    unfold Oper.wp execOp
    simp only [ho, resolve, invoke, builtin, Sem.run_bind, Sem.run_pure, Result.andThen_ok, List.map_toArray, List.map_cons, List.map_nil, hs, hx, hr]
    exact hK _ _ (h v W (by rw [hy, List.append_nil]; exact HO) HB)
  | some ad =>
    refine wpList_append_own_at W hgd s x 22 ho base 3 i0 (.int .i64 0) 1 8 Try.underlying22 hi hz0 hz1 hz2 rfl (by decide) v n (nums .i64 xs) hs HO ad m c (nums .i64 ys) hx (by simp [nums, HI.1])
      (fun j u hu => ?_) (fun u hu => ?_) hm hl hbase ?_
    · unfold nums at hu
      rw [List.getElem?_map] at hu
      obtain ⟨y, hy, rfl⟩ := Option.map_eq_some_iff.1 hu
      have hj : j < m := by have := (List.getElem?_eq_some_iff.1 hy).1; have := HI.1; omega
      obtain ⟨ad', e, hc⟩ := HI.2 (by omega)
      cases e
      exact hc j y hy
    · unfold nums at hu
      obtain ⟨y, _, rfl⟩ := List.mem_map.1 hu
      rfl
    · intro v1 w1 hown hg _ _
      refine h v1 w1 (by unfold nums at hown ⊢; rw [List.map_append]; exact hown) (HB.grown hg hbase (fun k hk => (World.ownsRow.lt HO k hk).1))
end Go.Proofs.Ytmpjcjgdjimioaa.OrdP
