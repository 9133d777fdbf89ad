/- slices.Clone and slices.Sort of whole numbers, in the words of these texts. -/
import Derived.Test.YtbplgjocammnbaaGreatShelf
import Derived.Test.YtbplgjocammnbaaGreatMem
import Derived.Sort.Grow
namespace Go.Proofs.YtbplgjocammnbaaGreat.Sorts
open Go.RowKit Go.Sort Go.Proofs.YtbplgjocammnbaaGreat.Mem
set_option linter.unusedSimpArgs false
set_option linter.unusedVariables false
theorem Ints.flat {w : World} {k : IntKind} {A : Option Addr} {n : Nat} {xs : List Int} (h : Ints w k A n xs) (hp : 0 < n) : ∃ b o, A = some ⟨b, o, none⟩ ∧ ∀ (j : Nat) (x : Int), xs[j]? = some x → w.cell? ⟨b, o + j, none⟩ = some (.int k x) := by
  obtain ⟨⟨b, o, sp⟩, rfl, hc⟩ := h.2 hp
  have h0 : xs[0]? = some (xs[0]'(by have := h.1; omega)) := List.getElem?_eq_getElem _
  have c0 := hc 0 _ h0
  cases sp with
  | none =>
    refine ⟨b, o, rfl, fun j x hx => ?_⟩
    have := hc j x hx
    unfold Addr.add at this
    split at this
    · rename_i hj; subst hj; exact this
    · exact this
  | some s =>
    unfold Addr.add World.cell? at c0
    simp at c0
    split at c0 <;> simp at c0
def srt (xs : List Int) : List Int := xs.mergeSort fun x y => decide (x ≤ y)
theorem srt_perm (xs : List Int) : (srt xs).Perm xs := List.mergeSort_perm xs _
theorem srt_length (xs : List Int) : (srt xs).length = xs.length := (srt_perm xs).length_eq
theorem srt_sorted (xs : List Int) : (srt xs).Pairwise (· ≤ ·) := by
  have := List.pairwise_mergeSort (le := fun x y : Int => decide (x ≤ y)) (by intro a b c h1 h2; simp at *; omega) (by intro a b; simp; omega) xs
  exact this.imp (by simp)
theorem clone_c (xs : List Int) (A : Option Addr) (n c : Nat) (w : World) (h : Ints w .i64 A n xs) (hp : 0 < n) (hn : n ≤ 17592186044416) :
    Calls Tryz.prog 157 #[.slice A n c] w fun e w' => ∃ g cap r, e = .returned (.slice (some ⟨g, 0, none⟩) n cap) ∧ w.heap.size ≤ g ∧ Blk w' g 3 (nums .i64 xs ++ r) ∧ Below w.heap.size w w' := by
  obtain ⟨b, o, rfl, hc⟩ := Ints.flat h hp
  refine (Tryz.slices_Clone_int b o n c xs w (Nat.le_of_eq h.1.symm) (by omega) (fun j hj => ?_)).mono ?_
  · rw [hc j _ (List.getElem?_eq_getElem hj)]
    simp [List.getD_eq_getElem?_getD, hj]
  · rintro e w' ⟨v, rfl, ho, _, hb⟩
    obtain ⟨hl, ⟨_, h0⟩ | ⟨g, cap, cur, rfl, hg, hh, hnc, _, hsz, ht⟩⟩ := ho
    · omega
    · refine ⟨g, cap, cur.toList.drop n, rfl, hg, ?_, hb⟩
      have e1 : xs.take n = xs := List.take_of_length_le (by have := h.1; omega)
      have e2 : nums .i64 xs ++ cur.toList.drop n = cur.toList := by
        rw [Nat.mul_one, e1] at ht
        rw [← show cur.toList.take n = nums .i64 xs from ht, List.take_append_drop]
      unfold Blk
      rw [e2, Array.toArray_toList]
      exact hh
theorem putCells_nums (d xs : List Int) (r : List Value) (h : d.length = xs.length) : putCells (Value.int .i64) 0 d.toArray (nums .i64 xs ++ r).toArray = (nums .i64 d ++ r).toArray := by
  apply Array.ext_getElem?
  intro k
  simp only [putCells, Array.getElem?_mapIdx, List.getElem?_toArray, List.size_toArray, Nat.zero_add, Nat.zero_le, true_and, Nat.sub_zero]
  unfold nums
  by_cases hk : k < d.length
  · rw [List.getElem?_append_left (by simp; omega), List.getElem?_append_left (by simp; omega)]
    rw [List.getElem?_map, List.getElem?_map, List.getElem?_eq_getElem (by omega : k < xs.length), List.getElem?_eq_getElem hk]
    simp [hk]
  · rw [List.getElem?_append_right (by simp; omega), List.getElem?_append_right (by simp; omega)]
    simp only [List.length_map, h]
    cases hr : r[k - xs.length]? with
    | none => rfl
    | some v => simp; omega
theorem blk_free {w : World} {g : Nat} {t : TypeId} {l : List Value} (h : Blk w g t l) (i : Nat) : w.frozen? ⟨g, i, none⟩ = false := h.free i
theorem sort_c (xs : List Int) (g cap : Nat) (r : List Value) (w : World) (h : Blk w g 3 (nums .i64 xs ++ r)) (hn : xs.length ≤ 17592186044416) :
    Calls Tryz.prog 158 #[.slice (some ⟨g, 0, none⟩) xs.length cap] w fun e w' => e = .returned (.tuple #[]) ∧ Blk w' g 3 (nums .i64 (srt xs) ++ r) ∧ ∀ B, B ≤ g → Below B w w' := by
  have hlt := h.lt
  refine (Tryz.slices_Sort_int g 0 cap xs w (fun j hj => ?_) hlt (by omega)).mono ?_
  · have hj' : j < xs.length := by simpa using hj
    refine ⟨?_, h.free _⟩
    rw [Nat.zero_add, h.cellv (nums_at (List.getElem?_eq_getElem hj') r)]
    simp [hj']
  · rintro e w' ⟨rfl, n, os, rfl⟩
    refine ⟨rfl, ?_, fun B hB => ?_⟩
    · unfold Blk
      rw [heap_grow_old _ _ (by simpa using hlt)]
      show ((w.heap.modify g (onCells (putCells (Value.int .i64) 0 (srt xs).toArray)))[g]?) = _
      rw [Array.getElem?_modify, if_pos rfl, show w.heap[g]? = _ from h]
      simp only [Option.map_some, onCells]
      rw [putCells_nums _ _ _ (srt_length xs)]
    · refine ⟨rfl, rfl, rfl, by simp, fun k hk => ?_⟩
      rw [heap_grow_old _ _ (by simp; omega)]
      show ((w.heap.modify g (onCells (putCells (Value.int .i64) 0 (srt xs).toArray)))[k]?) = _
      rw [Array.getElem?_modify, if_neg (by omega)]
end Go.Proofs.YtbplgjocammnbaaGreat.Sorts
