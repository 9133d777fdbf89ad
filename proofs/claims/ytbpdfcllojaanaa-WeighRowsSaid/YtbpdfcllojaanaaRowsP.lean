/- WeighRows: the plain law: the edges of a graph that is answered. -/
import Derived.Test.YtbpdfcllojaanaaGraphB
import Derived.Test.YtbpdfcllojaanaaCheck
namespace Go.Proofs.Ytbpdfcllojaanaa.RowsP
open Go.RowKit Go.Proofs.Ytbpdfcllojaanaa.Aid Go.Proofs.Ytbpdfcllojaanaa.Mem Go.Proofs.Ytbpdfcllojaanaa.Types Go.Proofs.Ytbpdfcllojaanaa.Weights Go.Proofs.Ytbpdfcllojaanaa.Recs Go.Proofs.Ytbpdfcllojaanaa.Graph Go.Proofs.Ytbpdfcllojaanaa.GraphB Go.Proofs.Ytbpdfcllojaanaa.PairsG Go.Proofs.Ytbpdfcllojaanaa.Check
set_option linter.unusedSimpArgs false
set_option linter.unusedVariables false
/-- The edges, one for each pair that fits. -/
def edgs (ws : List Int) (l : List (Nat × Nat)) : List Edg := l.map fun p => ⟨(p.1 : Int), (p.2 : Int), wAt ws p.1⟩
theorem edgs_flat (ws : List Int) (l : List (Nat × Nat)) : ((edgs ws l).map Edg.list).flatten = cellsE ws l := by
  induction l with
  | nil => rfl
  | cons p l ih => simp only [edgs, cellsE, List.map_cons, List.flatten_cons, List.flatMap_cons] at *; rw [ih]
theorem edgs_len3 (ws : List Int) (l : List (Nat × Nat)) : ∀ r ∈ (edgs ws l).map Edg.list, r.length = 3 := by
  intro r hr; obtain ⟨x, _, rfl⟩ := List.mem_map.1 hr; rfl
theorem flat_at {c : Nat} : ∀ (L : List (List Value)) (h : ∀ l ∈ L, l.length = c) (j i : Nat) (l : List Value) (v : Value), L[j]? = some l → l[i]? = some v → L.flatten[j * c + i]? = some v
  | [], _, _, _, _, _, hj, _ => by simp at hj
  | a :: L, h, j, i, l, v, hj, hv => by
    have ha := h a (by simp)
    cases j with
    | zero =>
      simp at hj; subst hj
      have := (List.getElem?_eq_some_iff.1 hv).1
      rw [List.flatten_cons, Nat.zero_mul, Nat.zero_add, List.getElem?_append_left (by omega)]
      exact hv
    | succ j =>
      rw [List.flatten_cons, Nat.succ_mul, List.getElem?_append_right (by omega), show j * c + c + i - a.length = j * c + i by omega]
      exact flat_at L (fun l hl => h l (by simp [hl])) j i l v (by simpa using hj) hv
theorem own_recs {w : World} {base : Nat} {e : TypeId} {v : Value} {n : Nat} {ws : List Int} {l : List (Nat × Nat)} (h : Own w base e 3 v n (cellsE ws l)) (hl : l.length = n) :
    ∃ A c, v = .slice A n c ∧ n ≤ c ∧ Recs w 3 A n ((edgs ws l).map Edg.list) ∧ (0 < n → ∃ g, A = some ⟨g, 0, none⟩ ∧ base ≤ g ∧ g < w.heap.size) := by
  obtain ⟨A, c, rfl, hc, hf⟩ := h.form
  refine ⟨A, c, rfl, hc, ⟨by simp [edgs, hl], fun hn => ?_⟩, fun hn => ?_⟩
  · obtain ⟨g, rfl, _, _, hcell⟩ := hf hn
    refine ⟨_, rfl, fun j r hr => ⟨edgs_len3 ws l r (List.mem_of_getElem? hr), fun i u hu => ?_⟩⟩
    rw [add_at]
    refine hcell _ u ?_
    rw [← edgs_flat]
    exact flat_at _ (edgs_len3 ws l) j i r u hr hu
  · obtain ⟨g, h1, h2, h3, _⟩ := hf hn
    exact ⟨g, h1, h2, h3⟩
def lex (p q : Nat × Nat) : Prop := p.1 < q.1 ∨ (p.1 = q.1 ∧ p.2 < q.2)
theorem all_lex (xs : List Wai) (ys : List Idl) (n : Nat) : (allP xs ys n).Pairwise lex := by
  unfold allP
  rw [List.pairwise_flatMap]
  refine ⟨fun a _ => ?_, ?_⟩
  · unfold innerP
    rw [List.pairwise_map]
    exact (List.pairwise_lt_range.filter _).imp fun h => .inr ⟨rfl, h⟩
  · refine List.pairwise_lt_range.imp fun {a b} h p hp q hq => ?_
    unfold innerP at hp hq
    obtain ⟨_, _, rfl⟩ := List.mem_map.1 hp
    obtain ⟨_, _, rfl⟩ := List.mem_map.1 hq
    exact .inl h
theorem ok_all {R C : Int} {ws : List Int} : ∀ (l : List (Nat × Nat)) (y : Edg), l.Pairwise lex → (∀ p ∈ l, eOk R C ⟨(p.1 : Int), (p.2 : Int), wAt ws p.1⟩) → (∀ p ∈ l, aft y ⟨(p.1 : Int), (p.2 : Int), wAt ws p.1⟩) → okF R C y (edgs ws l) = true
  | [], _, _, _, _ => rfl
  | p :: l, y, hp, hk, ha => by
    obtain ⟨h1, h2⟩ := List.pairwise_cons.1 hp
    unfold edgs
    rw [List.map_cons]
    unfold okF
    rw [Bool.and_eq_true]
    refine ⟨decide_eq_true ⟨hk p (by simp), ha p (by simp)⟩, ok_all l _ h2 (fun q hq => hk q (by simp [hq])) fun q hq => ?_⟩
    have := h1 q hq
    unfold lex at this
    unfold aft
    dsimp only
    omega
end Go.Proofs.Ytbpdfcllojaanaa.RowsP
