/- What the cells of a struct (an array) are that reads as data: each leaf's kind by its place; a slice of structs by its elements' cells. -/
import Derived.Test.YtbplgjocammnbaaGreatMem
import Derived.OpenShut
import Derived.SizedLaws
import Derived.Deep.Slices
import Derived.Laws.Cover2
import Derived.KernelRfl
namespace Go.Proofs.YtbplgjocammnbaaGreat.Shape
open Go.ChangeShapes Go.WideShapes Go.Deep
/-- What a cell can be. -/
inductive Leaf where
  | int (k : IntKind)
  | bool
  | flt
  | other (t : TypeId)
/-- Which leaf is cell i of a value of type t. -/
def cellAt (P : Program) : Nat → TypeId → Nat → Option Leaf
  | 0, _, _ => none
  | n + 1, t, i => match P.underlying t with
    | some (.int k) => if i = 0 then some (.int k) else none
    | some .bool => if i = 0 then some .bool else none
    | some (.float .f64) => if i = 0 then some .flt else none
    | some (.slice _) => if i = 0 then some (.other t) else none
    | some (.array c e) => if i / P.cellsOf e < c ∧ 0 < P.cellsOf e then cellAt P n e (i % P.cellsOf e) else none
    | some (.struct fs) => match fs.toList.find? (fun f => decide (f.offset ≤ i) && decide (i < f.offset + P.cellsOf f.type)) with
      | some f => cellAt P n f.type (i - f.offset)
      | none => none
    | _ => none
section
variable {H : Type} {enc : TypeId × Value → H} {P : Program} {w : World} {base : Nat} {spare : Nat → Bool} {held : Bool}
def Leaf.has (enc : TypeId × Value → H) (P : Program) (w : World) (base : Nat) (spare : Nat → Bool) (held : Bool) : Leaf → Value → Prop
  | .int k, v => ∃ n, v = .int k n ∧ (Lit.int k n).wf = true
  | .bool, v => ∃ b, v = .bool b
  | .flt, v => ∃ b, v = .float .f64 b ∧ (Lit.float .f64 b).wf = true
  | .other t, v => ∃ d p, DataW.Trod enc P w base spare held t v d p ∧ ∃ a l c, v = .slice a l c
theorem trod_float64 {t : TypeId} {fuel : Nat} {cs : List Value} {x : DataW H × List MemPlace} (ht : P.underlying t = some (.float .f64)) (h : DataW.trod enc P w base spare held fuel t cs = some x) : ∃ b, cs = [.float .f64 b] ∧ (Lit.float .f64 b).wf = true := by
  cases fuel with
  | zero => simp [DataW.trod] at h
  | succ n =>
    unfold DataW.trod at h
    rw [ht] at h
    split at h <;> simp_all
theorem cell_at : ∀ (n : Nat) (t : TypeId) (i : Nat) (L : Leaf) (cs : List Value) (x : DataW H × List MemPlace) (fuel : Nat), cellAt P n t i = some L → DataW.trod enc P w base spare held fuel t cs = some x → ∃ v, cs[i]? = some v ∧ L.has enc P w base spare held v := by
  intro n
  induction n with
  | zero => intro t i L cs x fuel h _; simp [cellAt] at h
  | succ n ih =>
    intro t i L cs x fuel h hx
    unfold cellAt at h
    split at h
    · next k hu =>
      obtain ⟨n, rfl, _, hw⟩ := DataW.trod_int hu hx
      split at h <;> simp at h
      subst h; subst_vars
      exact ⟨_, rfl, n, rfl, hw⟩
    · next hu =>
      obtain ⟨b, rfl, _⟩ := DataW.trod_bool hu hx
      split at h <;> simp at h
      subst h; subst_vars
      exact ⟨_, rfl, b, rfl⟩
    · next hu =>
      obtain ⟨b, rfl, hw⟩ := trod_float64 hu hx
      split at h <;> simp at h
      subst h; subst_vars
      exact ⟨_, rfl, b, rfl, hw⟩
    · next e hu =>
      have hv : ∃ a l c, cs = [.slice a l c] := by
        rcases DataW.trod_slice hu hx with ⟨rfl, _⟩ | ⟨a, l, c, _, _, _, _, rfl, _⟩
        · exact ⟨none, 0, 0, rfl⟩
        · exact ⟨some a, l, c, rfl⟩
      obtain ⟨a, l, c, rfl⟩ := hv
      split at h <;> simp at h
      subst h; subst_vars
      exact ⟨_, rfl, x.1, x.2, ⟨fuel, by simpa [Value.cells] using hx⟩, a, l, c, rfl⟩
    · next c e hu =>
      obtain ⟨xs, m, _, _, hl, hn, hc⟩ := DataW.trod_array hu hx
      split at h
      · next hi =>
        have h1 := hc _ hi.1
        rw [List.getElem?_eq_getElem (by omega)] at h1
        obtain ⟨v, hv, hk⟩ := ih _ _ _ _ _ _ h h1
        rw [List.getElem?_take_of_lt (Nat.mod_lt _ hi.2), List.getElem?_drop, Nat.mul_comm, Nat.div_add_mod] at hv
        exact ⟨v, hv, hk⟩
      · simp at h
    · next fs hu =>
      obtain ⟨xs, m, _, _, hl, hn, hc⟩ := DataW.trod_struct hu hx
      split at h
      · next f hf =>
        have hp := List.find?_some hf
        simp at hp
        obtain ⟨j, hj⟩ := List.getElem?_of_mem (List.mem_of_find?_eq_some hf)
        have hj2 : fs[j]? = some f := by simpa using hj
        have h1 := hc j f hj2
        have hjl : j < fs.size := by
          rcases Nat.lt_or_ge j fs.size with h' | h'
          · exact h'
          · rw [Array.getElem?_eq_none h'] at hj2; cases hj2
        rw [List.getElem?_eq_getElem (by omega)] at h1
        obtain ⟨v, hv, hk⟩ := ih _ _ _ _ _ _ h h1
        rw [List.getElem?_take_of_lt (by omega), List.getElem?_drop, Nat.add_sub_cancel' hp.1] at hv
        exact ⟨v, hv, hk⟩
      · simp at h
    · simp at h
/-- A struct argument, opened: its cells by their places. -/
theorem flat_any {t : TypeId} {fs : Array Field} {r : Reach} {b0 : Nat} {v : Value} {d : DataW H} {p : List MemPlace} (hs : P.underlying t = some (.struct fs)) (hval : Value.okWide P w r b0 t v)
    (h : DataW.Trod enc P w base spare held t v d p) : ∃ vs : List Value, v = .agg vs.toArray ∧ vs.length = P.cellsOf t ∧ ∀ n i L, cellAt P n t i = some L → ∃ x, vs[i]? = some x ∧ L.has enc P w base spare held x := by
  obtain ⟨cs, rfl, hc⟩ := okWide_struct hs hval
  obtain ⟨fuel, hf⟩ := h
  exact ⟨cs.toList, by simp, by simpa using hc, fun n i L hL => by simpa [Value.cells] using cell_at n t i L _ _ fuel hL hf⟩
end
end Go.Proofs.YtbplgjocammnbaaGreat.Shape
