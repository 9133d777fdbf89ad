/- Words of our own on memory: a block that is known whole; a slice of whole numbers that is read. -/
import Derived.Below
import Derived.Laws.OwnMore
import Derived.Deep.Draws
import Derived.Laws.Rows
import Derived.Laws.Slices
import Derived.RowKit
namespace Go.Proofs.YtbplgjocammnbaaGreat.Mem
open Go.RowKit

/-- Block g is just these cells, of element type t, none frozen. -/
def Blk (w : World) (g : Nat) (t : TypeId) (l : List Value) : Prop := w.heap[g]? = some (.cells l.toArray t (0, 0))
section
variable {w w' : World} {g : Nat} {t : TypeId} {l : List Value}
theorem Blk.lt (h : Blk w g t l) : g < w.heap.size := (Array.getElem?_eq_some_iff.1 h).1
theorem Blk.cell (h : Blk w g t l) (i : Nat) : w.cell? ⟨g, i, none⟩ = l[i]? := (cell_of_row w g i l.toArray t (0, 0) h).trans (by simp)
theorem Blk.cellv (h : Blk w g t l) {i : Nat} {v : Value} (hv : l[i]? = some v) : w.cell? ⟨g, i, none⟩ = some v := (h.cell i).trans hv
theorem Blk.free (h : Blk w g t l) (i : Nat) : w.frozen? ⟨g, i, none⟩ = false := by
  unfold Blk at h
  simp [World.frozen?, h]
theorem Blk.new (w : World) (t : TypeId) (l : List Value) : Blk (w.alloc (.cells l.toArray t)) w.heap.size t l := heap_alloc_new w _
theorem Blk.drew (h : Blk w g t l) : Blk w.drew g t l := h
theorem Blk.drewN (h : Blk w g t l) (n : Nat) : Blk (w.drewN n) g t l := h
theorem Blk.alloc (h : Blk w g t l) (o : Obj) : Blk (w.alloc o) g t l := (Below.heap_alloc w o g h.lt).trans h
theorem Blk.put (h : Blk w g t l) (i : Nat) (u : Value) : Blk (w.setCell ⟨g, i, none⟩ u) g t (l.set i u) := by
  unfold Blk at h ⊢
  simp [World.setCell, Array.getElem?_modify, h]
theorem Blk.far (h : Blk w g t l) {p : Addr} (hp : g ≠ p.block) (u : Value) : Blk (w.setCell p u) g t l := (Below.heap_setCell w p u g hp).trans h
theorem Blk.below {B : Nat} (h : Blk w g t l) (hb : Below B w w') (hg : g < B) : Blk w' g t l := (hb.block g hg).trans h
theorem Blk.keep (h : Blk w g t l) (hb : Below w.heap.size w w') : Blk w' g t l := h.below hb h.lt
end

theorem add_at (g j : Nat) : (⟨g, 0, none⟩ : Addr).add j = ⟨g, j, none⟩ := by unfold Addr.add; split <;> simp_all
/-- A slice of whole numbers (of kind k) that is read: nil, empty and other slices alike. -/
def Ints (w : World) (k : IntKind) (A : Option Addr) (n : Nat) (xs : List Int) : Prop :=
  xs.length = n ∧ (0 < n → ∃ ad, A = some ad ∧ ∀ j x, xs[j]? = some x → w.cell? (ad.add j) = some (.int k x))
section
variable {w w' : World} {k : IntKind} {A : Option Addr} {n : Nat} {xs : List Int}
theorem Ints.at_ (h : Ints w k A n xs) {j : Nat} (hj : j < n) : ∃ ad x, A = some ad ∧ xs[j]? = some x ∧ w.cell? (ad.add j) = some (.int k x) := by
  obtain ⟨ad, e, hc⟩ := h.2 (by omega)
  have hl : j < xs.length := by have := h.1; omega
  exact ⟨ad, xs[j], e, List.getElem?_eq_getElem hl, hc j _ (List.getElem?_eq_getElem hl)⟩
theorem Ints.keep (h : Ints w k A n xs) (hb : Below w.heap.size w w') : Ints w' k A n xs :=
  ⟨h.1, fun hn => by
    obtain ⟨ad, e, hc⟩ := h.2 hn
    exact ⟨ad, e, fun j x hx => (hb.cell (World.block_lt_of_cell? w _ (hc j x hx))).trans (hc j x hx)⟩⟩
theorem Ints.nil : Ints w k A 0 [] := ⟨rfl, fun h => absurd h (by omega)⟩
theorem Ints.take (h : Ints w k A n xs) {m : Nat} (hm : m ≤ n) : Ints w k A m (xs.take m) := by
  refine ⟨by have := h.1; simp; omega, fun hp => ?_⟩
  obtain ⟨ad, e, hc⟩ := h.2 (by omega)
  refine ⟨ad, e, fun j x hx => hc j x ?_⟩
  have hj : j < m := by have := (List.getElem?_eq_some_iff.1 hx).1; simp at this; omega
  rwa [List.getElem?_take_of_lt hj] at hx
theorem Ints.drop (h : Ints w k A n xs) {m c : Nat} (hm : m ≤ n) (hc : n ≤ c) : Ints w k (if c = m then A else A.map (·.add m)) (n - m) (xs.drop m) := by
  refine ⟨by have := h.1; simp; omega, fun hp => ?_⟩
  obtain ⟨ad, e, hcell⟩ := h.2 (by omega)
  rw [if_neg (by omega), e]
  refine ⟨ad.add m, rfl, fun j x hx => ?_⟩
  have ha : (ad.add m).add j = ad.add (m + j) := by
    unfold Addr.add
    by_cases h1 : m = 0 <;> by_cases h2 : j = 0 <;> simp [h1, h2, Nat.add_assoc]
  rw [ha]
  exact hcell (m + j) x (by rwa [List.getElem?_drop] at hx)
theorem Ints.of_blk {g : Nat} {t : TypeId} {l : List Value} (h : Blk w g t l) (hl : ∀ (j : Nat) (x : Int), xs[j]? = some x → l[j]? = some (.int k x)) : Ints w k (some ⟨g, 0, none⟩) xs.length xs :=
  ⟨rfl, fun _ => ⟨_, rfl, fun j x hx => by rw [add_at]; exact h.cellv (hl j x hx)⟩⟩
end
theorem box_reads (w : World) (k : IntKind) (x : Int) (t : TypeId) : Ints (w.alloc (.cells #[.int k x] t)) k (some ⟨w.heap.size, 0, none⟩) 1 [x] :=
  Ints.of_blk (Blk.new w t [.int k x]) (by intro j y hy; cases j with | zero => simpa using hy | succ j => simp at hy)
theorem size_alloc (w : World) (o : Obj) : (w.alloc o).heap.size = w.heap.size + 1 := by simp
/-- 's[m:]', without a case on the capacity: the address under one name. -/
theorem cut_from {P : Program} (t e : TypeId) {i : TypeInfo} (ht : P.underlying t = some (.slice e)) (hi : P.info? e = some i) (hsz : i.size = 1) (A : Option Addr) (n c m : Nat) (hm : m ≤ n) :
    ∃ A' : Option Addr, A' = (if c = m then A else A.map (·.add m)) ∧ ∀ W : World, (Instr.slice t (.slice A n c) (some (.int .i64 (m : Int))) none none).run P W = .ok (.slice A' (n - m) (c - m)) W := by
  refine ⟨_, rfl, fun W => ?_⟩
  have hel : P.elem t = e := by simp [Program.elem, ht]
  have hu : P.underlying t = some (.slice (P.elem t)) := by rw [hel]; exact ht
  rw [run_slice_l W t A n c hu .i64 (m : Int) (Int.natCast_nonneg _) (by omega), hel]
  simp [sizeOf, typeInfo, hi, hsz, sliced, Result.andThen]
/-- A list of numbers as cells. -/
def nums (k : IntKind) (xs : List Int) : List Value := xs.map fun x => .int k x
theorem nums_at {k : IntKind} {xs : List Int} {j : Nat} {x : Int} (h : xs[j]? = some x) (r : List Value) : (nums k xs ++ r)[j]? = some (.int k x) := by
  have hj := (List.getElem?_eq_some_iff.1 h).1
  rw [List.getElem?_append_left (by simpa [nums] using hj)]
  simp [nums, h]
theorem set_mid {α : Type} (a b : List α) (z v : α) : (a ++ z :: b).set a.length v = (a ++ [v]) ++ b := by
  induction a with
  | nil => rfl
  | cons x a ih => simp [ih]
theorem take_snoc {α : Type} (xs : List α) (k : Nat) (x : α) (h : xs[k]? = some x) : xs.take (k + 1) = xs.take k ++ [x] := by
  rw [List.take_add_one, h]; rfl
/-- All of them together. -/
def tot (xs : List Int) : Int := xs.foldr (· + ·) 0
theorem tot_nil : tot [] = 0 := rfl
theorem tot_cons (x : Int) (xs : List Int) : tot (x :: xs) = x + tot xs := rfl
theorem tot_append (xs ys : List Int) : tot (xs ++ ys) = tot xs + tot ys := by
  induction xs with
  | nil => simp [tot]
  | cons x xs ih => rw [List.cons_append, tot_cons, tot_cons, ih]; omega
theorem tot_reverse (xs : List Int) : tot xs.reverse = tot xs := by
  induction xs with
  | nil => rfl
  | cons x xs ih => rw [List.reverse_cons, tot_append, ih, tot_cons, tot_cons, tot_nil]; omega
theorem tot_snoc (xs : List Int) (k : Nat) (x : Int) (h : xs[k]? = some x) : tot (xs.take (k + 1)) = tot (xs.take k) + x := by
  rw [take_snoc xs k x h, tot_append, tot_cons, tot_nil]; omega
/-- The world is the old one, some orders having been drawn. -/
def Dr (w w' : World) : Prop := ∃ n, w' = w.drewN n
theorem Dr.refl (w : World) : Dr w w := ⟨0, rfl⟩
theorem Dr.one (w : World) : Dr w w.drew := ⟨1, rfl⟩
theorem Dr.step {w w' : World} (h : Dr w w') (n : Nat) : Dr w (w'.drewN n) := by
  obtain ⟨m, rfl⟩ := h
  exact ⟨m + n, World.drewN_drewN ..⟩
theorem Dr.below {w w' : World} {B : Nat} (h : Dr w w') : Below B w w' := by
  obtain ⟨n, rfl⟩ := h
  exact ⟨rfl, rfl, rfl, Nat.le_refl _, fun _ _ => rfl⟩
theorem below_drewN {B : Nat} {a w : World} (h : Below B a w) (n : Nat) : Below B a (w.drewN n) := ⟨h.os, h.tape, h.output, h.size, h.block⟩
theorem alloc_below (w : World) (o : Obj) : Below w.heap.size w (w.alloc o) := (Below.refl _ _).alloc (Nat.le_refl _) o
theorem twin_reads {w : World} {g n : Nat} {t : TypeId} {k : IntKind} {xs : List Int} {r : List Value} (h : Blk w g t (nums k xs ++ r)) (hl : xs.length = n) : Ints w k (some ⟨g, 0, none⟩) n xs := by
  have := Ints.of_blk (k := k) (xs := xs) h fun j x hx => nums_at hx _
  rwa [hl] at this
end Go.Proofs.YtbplgjocammnbaaGreat.Mem
