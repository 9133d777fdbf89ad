/- Slices of structs: their elements as lists of cells; that an argument reads as one; an element's load. -/
import Derived.Test.YtbplgjocammnbaaGreatKeep
import Derived.Test.YtbplgjocammnbaaGreatShape
import Derived.Test.YtbplgjocammnbaaGreatRowAid
namespace Go.Proofs.YtbplgjocammnbaaGreat.Recs
set_option linter.unusedVariables false
open Go.RowKit Go.Proofs.YtbplgjocammnbaaGreat.Aid Go.Proofs.YtbplgjocammnbaaGreat.Mem Go.Proofs.YtbplgjocammnbaaGreat.Keep Go.ChangeShapes Go.WideShapes Go.Deep
theorem add_add (ad : Addr) (m j : Nat) : (ad.add m).add j = ad.add (m + j) := by
  unfold Addr.add
  by_cases h1 : m = 0 <;> by_cases h2 : j = 0 <;> simp [h1, h2, Nat.add_assoc]
/-- A slice whose elements are these rows of c cells each. -/
def Recs (w : World) (c : Nat) (A : Option Addr) (n : Nat) (xs : List (List Value)) : Prop :=
  xs.length = n ∧ (0 < n → ∃ ad, A = some ad ∧ ∀ j l, xs[j]? = some l → l.length = c ∧ ∀ i v, l[i]? = some v → w.cell? (ad.add (j * c + i)) = some v)
section
variable {w w' : World} {c n : Nat} {A : Option Addr} {xs : List (List Value)}
theorem Recs.nil : Recs w c A 0 [] := ⟨rfl, fun h => absurd h (by omega)⟩
theorem Recs.keep (h : Recs w c A n xs) (hb : Below w.heap.size w w') : Recs w' c A n xs :=
  ⟨h.1, fun hn => by
    obtain ⟨ad, e, hc⟩ := h.2 hn
    exact ⟨ad, e, fun j l hl => ⟨(hc j l hl).1, fun i v hv => (hb.cell (World.block_lt_of_cell? w _ ((hc j l hl).2 i v hv))).trans ((hc j l hl).2 i v hv)⟩⟩⟩
theorem Recs.drewN (h : Recs w c A n xs) (k : Nat) : Recs (w.drewN k) c A n xs := h
theorem Recs.at_ (h : Recs w c A n xs) {j : Nat} (hj : j < n) : ∃ ad l, A = some ad ∧ xs[j]? = some l ∧ l.length = c ∧ ∀ i v, l[i]? = some v → w.cell? (ad.add (j * c + i)) = some v := by
  obtain ⟨ad, e, hc⟩ := h.2 (by omega)
  have hl : j < xs.length := by have := h.1; omega
  exact ⟨ad, xs[j], e, List.getElem?_eq_getElem hl, hc j _ (List.getElem?_eq_getElem hl)⟩
/-- Of a block that holds the elements, one behind the other. -/
theorem Recs.of_blk {g : Nat} {t : TypeId} {r : List Value} (hc : ∀ l ∈ xs, l.length = c) (h : Blk w g t (xs.flatten ++ r)) : Recs w c (some ⟨g, 0, none⟩) xs.length xs := by
  refine ⟨rfl, fun hp => ⟨_, rfl, fun j l hl => ⟨hc l (List.mem_of_getElem? hl), fun i v hv => ?_⟩⟩⟩
  rw [add_at]
  refine h.cellv ?_
  have hi : i < l.length := (List.getElem?_eq_some_iff.1 hv).1
  clear h hp
  induction xs generalizing j with
  | nil => simp at hl
  | cons a bs ih =>
    have ha : a.length = c := hc a (by simp)
    cases j with
    | zero =>
      simp at hl; subst hl
      rw [List.flatten_cons, Nat.zero_mul, Nat.zero_add, List.append_assoc, List.getElem?_append_left hi]
      exact hv
    | succ j =>
      have := ih (fun l hl => hc l (by simp [hl])) j (by simpa using hl)
      rw [List.flatten_cons, List.append_assoc, List.getElem?_append_right (by rw [ha, Nat.add_mul]; omega)]
      rw [← this]; congr 1
      rw [ha, Nat.add_mul]; omega
end
/-- A struct is read out of the middle of whatever. -/
theorem loads_at {P : Program} {t : TypeId} {w : World} {ad : Addr} {l s : List Value} {d : TypeDesc} (hu : P.underlying t = some d) (hd : d.isRow = true) (hi : (P.info? t).map (·.size) = some l.length) (h : ∀ i v, (l ++ s)[i]? = some v → w.cell? (ad.add i) = some v) :
    (LA t (.pointer (some ad))).run P w = .ok (.agg l.toArray) w := by
  have hl : (loadCells ad l.length).run P w = .ok l.toArray w :=
    run_loadCells_list (P := P) w ad l (fun j v hv => h j v (by rw [List.getElem?_append_left (List.getElem?_eq_some_iff.1 hv).1, hv]))
  unfold LA
  cases hq : P.info? t with
  | none => simp [hq] at hi
  | some i =>
    have hs : i.size = l.length := by simpa [hq] using hi
    have hagg : (isAgg t).run P w = .ok true w := by
      unfold isAgg
      rw [Sem.run_bind, run_underlying hu w]
      cases d <;> simp_all
    simp only [Instr.loadAt, Instr.sureAddr, Sem.run_bind, Sem.run_pure, Result.andThen_ok]
    simp [loadVar, Sem.run_bind, hagg, sizeOf, typeInfo, hq, hs, hl]
theorem list_choose {α β : Type} {f : α → β} {p : α → Prop} : ∀ {l : List β}, (∀ y ∈ l, ∃ x, y = f x ∧ p x) → ∃ xs : List α, l = xs.map f ∧ ∀ x ∈ xs, p x
  | [], _ => ⟨[], rfl, by simp⟩
  | y :: l, h => by
    obtain ⟨x, hx, px⟩ := h y (by simp)
    obtain ⟨xs, hl, pl⟩ := list_choose (f := f) (p := p) (l := l) fun z hz => h z (by simp [hz])
    refine ⟨x :: xs, by rw [hl, hx]; rfl, fun z hz => ?_⟩
    rcases List.mem_cons.1 hz with rfl | hz
    · exact px
    · exact pl z hz
section
variable {H : Type} {enc : TypeId × Value → H} {P : Program} {W : World} {base : Nat} {spare : Nat → Bool} {held : Bool}
/-- An argument of a type '[]struct' reads as a list of rows of cells. -/
theorem recs_any {t e : TypeId} {a : Option Addr} {len cap : Nat} {d : DataW H} {ps : List MemPlace} (hu : P.underlying t = some (.slice e))
    (h : DataW.Trod enc P W base spare held t (.slice a len cap) d ps) : ∃ ls : List (List Value), Recs W (P.cellsOf e) a len ls ∧ len ≤ cap ∧
      ∀ l ∈ ls, l.length = P.cellsOf e ∧ ∀ n i L, Shape.cellAt P n e i = some L → ∃ x, l[i]? = some x ∧ L.has enc P W base spare held x := by
  obtain ⟨fuel, hf⟩ := h
  rcases open_slice hu hf with ⟨hcs, _⟩ | ⟨a', len', cap', m, n, D, Pl, hcs, _, hl, _, hm, _, hx⟩
  · simp [Value.cells] at hcs
    obtain ⟨rfl, rfl, rfl⟩ := hcs
    exact ⟨[], Recs.nil, Nat.le_refl _, by simp⟩
  · simp [Value.cells] at hcs
    obtain ⟨rfl, rfl, rfl⟩ := hcs
    have hlm : len ≤ m := by rw [hm]; split <;> omega
    obtain ⟨V, hV⟩ := choose_lt (α := List Value) (p := fun i cs' => W.cells? base (a'.add (i * P.cellsOf e)) (P.cellsOf e) = some cs' ∧ DataW.trod enc P W base spare held n e cs' = some (D i, Pl i)) (n := m) hx
    refine ⟨(List.range len).map V, ⟨by simp, fun _ => ⟨a', rfl, fun j l hj => ?_⟩⟩, hl, fun l hl' => ?_⟩
    · have hjl : j < len := by have := (List.getElem?_eq_some_iff.1 hj).1; simpa using this
      rw [List.getElem?_map, List.getElem?_range hjl] at hj
      simp at hj; subst hj
      obtain ⟨h1, _⟩ := hV j (by omega)
      obtain ⟨_, h2, h3⟩ := World.cells?_some h1
      refine ⟨h2, fun i v hv => ?_⟩
      have hi : i < P.cellsOf e := by have := (List.getElem?_eq_some_iff.1 hv).1; omega
      rw [← add_add, h3 i hi, hv]
    · obtain ⟨j, hj, rfl⟩ := List.mem_map.1 hl'
      have hjl : j < len := List.mem_range.1 hj
      obtain ⟨h1, h4⟩ := hV j (by omega)
      obtain ⟨_, h2, _⟩ := World.cells?_some h1
      exact ⟨h2, fun k i L hL => Shape.cell_at k e i L _ _ n hL h4⟩
end
/-- A struct is stored whole, as one step. -/
def SA (t : TypeId) (p v : Value) : Sem Unit := Instr.storeAt t p v
theorem stores_mid {P : Program} {t t' : TypeId} {w : World} {g o : Nat} {l cs : List Value} (h : Blk w g t' l) (ho : o + cs.length ≤ l.length) (hi : (P.info? t).map (·.size) = some cs.length) (h1 : ∀ v ∈ cs, v.oneCell' = true) :
    (SA t (.pointer (some ⟨g, o, none⟩)) (.agg cs.toArray)).run P w = .ok () (w.setCells g o cs) := by
  have := run_storeAt_mid (P := P) w g o t cs.toArray (fun j hj => ?_) (by simpa using hi) (all_oneCell_toArray h1)
  · simpa [SA] using this
  · have hj' : j < cs.length := by simpa using hj
    exact ⟨by rw [h.cell, List.getElem?_eq_getElem (by omega)]; rfl, h.free _⟩
theorem Blk.puts {t : TypeId} {g : Nat} : ∀ (vs : List Value) (o : Nat) (w : World) (l : List Value), Blk w g t l → o + vs.length ≤ l.length → Blk (w.setCells g o vs) g t (l.take o ++ vs ++ l.drop (o + vs.length))
  | [], o, w, l, h, _ => by simpa [World.setCells] using h
  | v :: r, o, w, l, h, ho => by
    simp only [List.length_cons] at ho
    have := Blk.puts r (o + 1) _ _ (h.put o v) (by simp; omega)
    have e1 : (l.set o v).take (o + 1) = l.take o ++ [v] := by
      rw [List.take_add_one, List.take_set_of_le (Nat.le_refl o), List.getElem?_set_self (by omega)]; rfl
    have e2 : (l.set o v).drop (o + 1 + r.length) = l.drop (o + 1 + r.length) := List.drop_set_of_lt (by omega)
    rw [e1, e2] at this
    rw [World.setCells, List.length_cons, show o + (r.length + 1) = o + 1 + r.length by omega]
    simpa using this
theorem below_sets {B : Nat} {a : World} {g : Nat} (hg : B ≤ g) : ∀ (vs : List Value) (o : Nat) (w : World), Below B a w → Below B a (w.setCells g o vs)
  | [], _, _, h => h
  | v :: r, o, w, h => below_sets hg r (o + 1) _ (h.setCell hg v)
theorem size_sets {g : Nat} : ∀ (vs : List Value) (o : Nat) (w : World), (w.setCells g o vs).heap.size = w.heap.size
  | [], _, _ => rfl
  | v :: r, o, w => by rw [World.setCells, size_sets r]; simp [World.setCell]
theorem Blk.fars {t : TypeId} {g b : Nat} {l : List Value} (hne : g ≠ b) : ∀ (vs : List Value) (o : Nat) (w : World), Blk w g t l → Blk (w.setCells b o vs) g t l
  | [], _, _, h => h
  | v :: r, o, w, h => Blk.fars hne r (o + 1) _ (h.far (p := ⟨b, o, none⟩) hne v)
end Go.Proofs.YtbplgjocammnbaaGreat.Recs
