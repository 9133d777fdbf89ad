/- What a call keeps: boxes that were there, cell by cell. -/
import Derived.Test.YtbplgjocammnbaaGreatMem
import Derived.Test.YtbplgjocammnbaaGreatAid
import Derived.WalkKit
import Derived.Test.YtbplgjocammnbaaGreatRows
import Derived.Laws.NewBlocks
import Derived.Deep.MidRow
namespace Go.Proofs.YtbplgjocammnbaaGreat.Keep
open Go.RowKit Go.Proofs.YtbplgjocammnbaaGreat.Aid Go.Proofs.YtbplgjocammnbaaGreat.Mem
theorem kbt {a w v : World} (h : Below a.heap.size a w) (k : Below w.heap.size w v) : Below a.heap.size a v := h.trans (k.mono h.size)
theorem kba {a w : World} (h : Below a.heap.size a w) (o : Obj) : Below a.heap.size a (w.alloc o) := h.alloc h.size o
theorem box_new (w : World) (vs : Array Value) (t : TypeId) (i : Nat) : (w.alloc (.cells vs t)).cell? ⟨w.heap.size, i, none⟩ = vs[i]? := World.cell?_alloc_new w vs t i
theorem box_old {w w' : World} {b : Nat} {vs : Array Value} (hb : Below w.heap.size w w') (hlt : b < w.heap.size) (h : ∀ i : Nat, w.cell? ⟨b, i, none⟩ = vs[i]?) : ∀ i : Nat, w'.cell? ⟨b, i, none⟩ = vs[i]? :=
  fun i => (hb.cell hlt).trans (h i)
theorem kept1 {w0 w w' : World} {b1 : Nat} {v1 : Array Value} (hb : Below w.heap.size w w') (h : (∀ i : Nat, w.cell? ⟨b1, i, none⟩ = v1[i]?) ∧ b1 < w.heap.size ∧ Below w0.heap.size w0 w) :
    (∀ i : Nat, w'.cell? ⟨b1, i, none⟩ = v1[i]?) ∧ b1 < w'.heap.size ∧ Below w0.heap.size w0 w' :=
  ⟨box_old hb h.2.1 h.1, Nat.lt_of_lt_of_le h.2.1 hb.size, kbt h.2.2 hb⟩
theorem kept2 {w0 w w' : World} {b1 b2 : Nat} {v1 v2 : Array Value} (hb : Below w.heap.size w w') (h : (∀ i : Nat, w.cell? ⟨b1, i, none⟩ = v1[i]?) ∧ (∀ i : Nat, w.cell? ⟨b2, i, none⟩ = v2[i]?) ∧ b1 < w.heap.size ∧ b2 < w.heap.size ∧ Below w0.heap.size w0 w) :
    (∀ i : Nat, w'.cell? ⟨b1, i, none⟩ = v1[i]?) ∧ (∀ i : Nat, w'.cell? ⟨b2, i, none⟩ = v2[i]?) ∧ b1 < w'.heap.size ∧ b2 < w'.heap.size ∧ Below w0.heap.size w0 w' :=
  ⟨box_old hb h.2.2.1 h.1, box_old hb h.2.2.2.1 h.2.1, Nat.lt_of_lt_of_le h.2.2.1 hb.size, Nat.lt_of_lt_of_le h.2.2.2.1 hb.size, kbt h.2.2.2.2 hb⟩
theorem kept3 {w0 w w' : World} {b1 b2 b3 : Nat} {v1 v2 v3 : Array Value} (hb : Below w.heap.size w w') (h : (∀ i : Nat, w.cell? ⟨b1, i, none⟩ = v1[i]?) ∧ (∀ i : Nat, w.cell? ⟨b2, i, none⟩ = v2[i]?) ∧ (∀ i : Nat, w.cell? ⟨b3, i, none⟩ = v3[i]?) ∧ b1 < w.heap.size ∧ b2 < w.heap.size ∧ b3 < w.heap.size ∧ Below w0.heap.size w0 w) :
    (∀ i : Nat, w'.cell? ⟨b1, i, none⟩ = v1[i]?) ∧ (∀ i : Nat, w'.cell? ⟨b2, i, none⟩ = v2[i]?) ∧ (∀ i : Nat, w'.cell? ⟨b3, i, none⟩ = v3[i]?) ∧ b1 < w'.heap.size ∧ b2 < w'.heap.size ∧ b3 < w'.heap.size ∧ Below w0.heap.size w0 w' :=
  ⟨box_old hb h.2.2.2.1 h.1, box_old hb h.2.2.2.2.1 h.2.1, box_old hb h.2.2.2.2.2.1 h.2.2.1, Nat.lt_of_lt_of_le h.2.2.2.1 hb.size, Nat.lt_of_lt_of_le h.2.2.2.2.1 hb.size, Nat.lt_of_lt_of_le h.2.2.2.2.2.1 hb.size, kbt h.2.2.2.2.2.2 hb⟩
theorem start2 {w : World} (o1 o2 : Array Value) (t1 t2 : TypeId) (n : Nat) (v : World) (hv : v = (((w.alloc (.cells o1 t1)).alloc (.cells o2 t2)).drewN n)) :
    (∀ i : Nat, v.cell? ⟨w.heap.size, i, none⟩ = o1[i]?) ∧ (∀ i : Nat, v.cell? ⟨w.heap.size + 1, i, none⟩ = o2[i]?) ∧ w.heap.size < v.heap.size ∧ w.heap.size + 1 < v.heap.size ∧ Below w.heap.size w v := by
  subst hv
  have e := size_alloc w (.cells o1 t1)
  refine ⟨box_old (w := w.alloc (.cells o1 t1)) (below_drewN (kba (Below.refl _ _) _) _) (by omega) (box_new w o1 t1), fun i => ?_, ?_, ?_, below_drewN (kba (kba (Below.refl _ _) _) _) _⟩
  · have := box_new (w.alloc (.cells o1 t1)) o2 t2 i
    rw [e] at this
    exact this
  · show w.heap.size < ((w.alloc (.cells o1 t1)).alloc (.cells o2 t2)).heap.size
    simp <;> omega
  · show w.heap.size + 1 < ((w.alloc (.cells o1 t1)).alloc (.cells o2 t2)).heap.size
    simp <;> omega
theorem start3 {w : World} (o1 o2 o3 : Array Value) (t1 t2 t3 : TypeId) (n : Nat) (v : World) (hv : v = (((w.alloc (.cells o1 t1)).alloc (.cells o2 t2)).alloc (.cells o3 t3)).drewN n) :
    (∀ i : Nat, v.cell? ⟨w.heap.size, i, none⟩ = o1[i]?) ∧ (∀ i : Nat, v.cell? ⟨w.heap.size + 1, i, none⟩ = o2[i]?) ∧ (∀ i : Nat, v.cell? ⟨w.heap.size + 2, i, none⟩ = o3[i]?) ∧ w.heap.size < v.heap.size ∧ w.heap.size + 1 < v.heap.size ∧ w.heap.size + 2 < v.heap.size ∧ Below w.heap.size w v := by
  subst hv
  obtain ⟨h1, h2, h3, h4, h5⟩ := start2 o1 o2 t1 t2 0 ((w.alloc (.cells o1 t1)).alloc (.cells o2 t2)) rfl
  have e := size_alloc w (.cells o1 t1)
  have e2 := size_alloc (w.alloc (.cells o1 t1)) (.cells o2 t2)
  have hb : Below ((w.alloc (.cells o1 t1)).alloc (.cells o2 t2)).heap.size ((w.alloc (.cells o1 t1)).alloc (.cells o2 t2)) ((((w.alloc (.cells o1 t1)).alloc (.cells o2 t2)).alloc (.cells o3 t3)).drewN n) := below_drewN (kba (Below.refl _ _) _) _
  refine ⟨box_old hb h3 h1, box_old hb h4 h2, fun i => ?_, Nat.lt_of_lt_of_le h3 hb.size, Nat.lt_of_lt_of_le h4 hb.size, ?_, kbt h5 hb⟩
  · have := box_new ((w.alloc (.cells o1 t1)).alloc (.cells o2 t2)) o3 t3 i
    rw [e2, e] at this
    exact this
  · show w.heap.size + 2 < (((w.alloc (.cells o1 t1)).alloc (.cells o2 t2)).alloc (.cells o3 t3)).heap.size
    simp <;> omega
theorem begin2 (w : World) (o1 o2 : Array Value) (t1 t2 : TypeId) :
    (∀ i : Nat, (((w.alloc (.cells o1 t1)).alloc (.cells o2 t2)).drew).cell? ⟨w.heap.size, i, none⟩ = o1[i]?) ∧ (∀ i : Nat, (((w.alloc (.cells o1 t1)).alloc (.cells o2 t2)).drew).cell? ⟨w.heap.size + 1, i, none⟩ = o2[i]?) ∧ w.heap.size < (((w.alloc (.cells o1 t1)).alloc (.cells o2 t2)).drew).heap.size ∧ w.heap.size + 1 < (((w.alloc (.cells o1 t1)).alloc (.cells o2 t2)).drew).heap.size ∧ Below w.heap.size w (((w.alloc (.cells o1 t1)).alloc (.cells o2 t2)).drew) :=
  start2 o1 o2 t1 t2 1 _ rfl
theorem begin3 (w : World) (o1 o2 o3 : Array Value) (t1 t2 t3 : TypeId) :
    (∀ i : Nat, ((((w.alloc (.cells o1 t1)).alloc (.cells o2 t2)).alloc (.cells o3 t3)).drew).cell? ⟨w.heap.size, i, none⟩ = o1[i]?) ∧ (∀ i : Nat, ((((w.alloc (.cells o1 t1)).alloc (.cells o2 t2)).alloc (.cells o3 t3)).drew).cell? ⟨w.heap.size + 1, i, none⟩ = o2[i]?) ∧ (∀ i : Nat, ((((w.alloc (.cells o1 t1)).alloc (.cells o2 t2)).alloc (.cells o3 t3)).drew).cell? ⟨w.heap.size + 2, i, none⟩ = o3[i]?) ∧
    w.heap.size < ((((w.alloc (.cells o1 t1)).alloc (.cells o2 t2)).alloc (.cells o3 t3)).drew).heap.size ∧ w.heap.size + 1 < ((((w.alloc (.cells o1 t1)).alloc (.cells o2 t2)).alloc (.cells o3 t3)).drew).heap.size ∧ w.heap.size + 2 < ((((w.alloc (.cells o1 t1)).alloc (.cells o2 t2)).alloc (.cells o3 t3)).drew).heap.size ∧ Below w.heap.size w ((((w.alloc (.cells o1 t1)).alloc (.cells o2 t2)).alloc (.cells o3 t3)).drew) :=
  start3 o1 o2 o3 t1 t2 t3 1 _ rfl
theorem end2 {w0 w : World} {b1 b2 : Nat} {v1 v2 : Array Value} (h : (∀ i : Nat, w.cell? ⟨b1, i, none⟩ = v1[i]?) ∧ (∀ i : Nat, w.cell? ⟨b2, i, none⟩ = v2[i]?) ∧ b1 < w.heap.size ∧ b2 < w.heap.size ∧ Below w0.heap.size w0 w) : Below w0.heap.size w0 w := h.2.2.2.2
theorem end3 {w0 w : World} {b1 b2 b3 : Nat} {v1 v2 v3 : Array Value} (h : (∀ i : Nat, w.cell? ⟨b1, i, none⟩ = v1[i]?) ∧ (∀ i : Nat, w.cell? ⟨b2, i, none⟩ = v2[i]?) ∧ (∀ i : Nat, w.cell? ⟨b3, i, none⟩ = v3[i]?) ∧ b1 < w.heap.size ∧ b2 < w.heap.size ∧ b3 < w.heap.size ∧ Below w0.heap.size w0 w) : Below w0.heap.size w0 w := h.2.2.2.2.2.2
/-- A struct is read whole, as one step: a rule of the walk ahead of all others. -/
def LA (t : TypeId) (v : Value) : Sem Value := Instr.loadAt t v
theorem loads_box {P : Program} {t : TypeId} {w : World} {b : Nat} {v : Array Value} {d : TypeDesc} (hu : P.underlying t = some d) (hd : d.isRow = true) (hi : (P.info? t).map (·.size) = some v.size) (h : ∀ i : Nat, w.cell? ⟨b, i, none⟩ = v[i]?) : (LA t (.pointer (some ⟨b, 0, none⟩))).run P w = .ok (.agg v) w := by
  have := run_loadAt_mid (P := P) w b 0 t v.toList d (fun j x hx => by rw [Nat.zero_add, h j]; simpa using hx) hu hd (by simpa using hi)
  rw [Array.toArray_toList] at this
  exact this
theorem loads_pre {P : Program} {t : TypeId} {w : World} {b : Nat} {v : Array Value} {d : TypeDesc} (hu : P.underlying t = some d) (hd : d.isRow = true) (hi : (P.info? t).map (·.size) = some v.size) (h : ∀ (i : Nat) (x : Value), v[i]? = some x → w.cell? ⟨b, i, none⟩ = some x) : (LA t (.pointer (some ⟨b, 0, none⟩))).run P w = .ok (.agg v) w := by
  have := run_loadAt_mid (P := P) w b 0 t v.toList d (fun j x hx => by rw [Nat.zero_add]; exact h j x (by simpa using hx)) hu hd (by simpa using hi)
  rw [Array.toArray_toList] at this
  exact this
theorem ext2 {w0 w : World} {b1 b2 : Nat} {v1 v2 : Array Value} {P : Program} {t1 t2 : TypeId} {d1 d2 : TypeDesc} (hu1 : P.underlying t1 = some d1) (hd1 : d1.isRow = true) (hi1 : (P.info? t1).map (·.size) = some v1.size) (hu2 : P.underlying t2 = some d2) (hd2 : d2.isRow = true) (hi2 : (P.info? t2).map (·.size) = some v2.size)
    (h : (∀ i : Nat, w.cell? ⟨b1, i, none⟩ = v1[i]?) ∧ (∀ i : Nat, w.cell? ⟨b2, i, none⟩ = v2[i]?) ∧ b1 < w.heap.size ∧ b2 < w.heap.size ∧ Below w0.heap.size w0 w) :
    ((∀ i : Nat, w.cell? ⟨b1, i, none⟩ = v1[i]?) ∧ (∀ i : Nat, w.cell? ⟨b2, i, none⟩ = v2[i]?) ∧ b1 < w.heap.size ∧ b2 < w.heap.size ∧ Below w0.heap.size w0 w) ∧ (LA t1 (.pointer (some ⟨b1, 0, none⟩))).run P w = .ok (.agg v1) w ∧ (LA t2 (.pointer (some ⟨b2, 0, none⟩))).run P w = .ok (.agg v2) w :=
  ⟨h, loads_box hu1 hd1 hi1 h.1, loads_box hu2 hd2 hi2 h.2.1⟩
theorem ext3 {w0 w : World} {b1 b2 b3 : Nat} {v1 v2 v3 : Array Value} {P : Program} {t1 t2 t3 : TypeId} {d1 d2 d3 : TypeDesc} (hu1 : P.underlying t1 = some d1) (hd1 : d1.isRow = true) (hi1 : (P.info? t1).map (·.size) = some v1.size) (hu2 : P.underlying t2 = some d2) (hd2 : d2.isRow = true) (hi2 : (P.info? t2).map (·.size) = some v2.size) (hu3 : P.underlying t3 = some d3) (hd3 : d3.isRow = true) (hi3 : (P.info? t3).map (·.size) = some v3.size)
    (h : (∀ i : Nat, w.cell? ⟨b1, i, none⟩ = v1[i]?) ∧ (∀ i : Nat, w.cell? ⟨b2, i, none⟩ = v2[i]?) ∧ (∀ i : Nat, w.cell? ⟨b3, i, none⟩ = v3[i]?) ∧ b1 < w.heap.size ∧ b2 < w.heap.size ∧ b3 < w.heap.size ∧ Below w0.heap.size w0 w) :
    ((∀ i : Nat, w.cell? ⟨b1, i, none⟩ = v1[i]?) ∧ (∀ i : Nat, w.cell? ⟨b2, i, none⟩ = v2[i]?) ∧ (∀ i : Nat, w.cell? ⟨b3, i, none⟩ = v3[i]?) ∧ b1 < w.heap.size ∧ b2 < w.heap.size ∧ b3 < w.heap.size ∧ Below w0.heap.size w0 w) ∧ (LA t1 (.pointer (some ⟨b1, 0, none⟩))).run P w = .ok (.agg v1) w ∧ (LA t2 (.pointer (some ⟨b2, 0, none⟩))).run P w = .ok (.agg v2) w ∧ (LA t3 (.pointer (some ⟨b3, 0, none⟩))).run P w = .ok (.agg v3) w :=
  ⟨h, loads_box hu1 hd1 hi1 h.1, loads_box hu2 hd2 hi2 h.2.1, loads_box hu3 hd3 hi3 h.2.2.1⟩
end Go.Proofs.YtbplgjocammnbaaGreat.Keep
