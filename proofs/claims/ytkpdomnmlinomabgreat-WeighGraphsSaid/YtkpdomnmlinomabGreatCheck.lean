/- The contract of weigh.Check: may a graph be? -/
import Derived.Test.YtkpdomnmlinomabGreatRecs
import Derived.Test.YtkpdomnmlinomabGreatTypes
import Derived.Lib.Hide
import Derived.LoopTactic
import Derived.Deep.CutRange
import Derived.WalkMore
namespace Go.Proofs.YtkpdomnmlinomabGreat.Check
open Go.RowKit Go.Proofs.YtkpdomnmlinomabGreat.Aid Go.Proofs.YtkpdomnmlinomabGreat.Mem Go.Proofs.YtkpdomnmlinomabGreat.Keep Go.Proofs.YtkpdomnmlinomabGreat.Recs Go.Proofs.YtkpdomnmlinomabGreat.Types
set_option linter.unusedSimpArgs false
set_option linter.unusedVariables false
set_option maxRecDepth 100000
/-- May an edge be, of a graph with so many rows and columns? -/
def eOk (R C : Int) (x : Edg) : Prop := 0 ≤ x.r ∧ x.r < R ∧ 0 ≤ x.c ∧ x.c < C ∧ 1 ≤ x.w ∧ x.w ≤ 1099513724929
def aft (y x : Edg) : Prop := ¬ (x.r < y.r) ∧ ¬ (x.r = y.r ∧ x.c ≤ y.c)
instance (R C : Int) (x : Edg) : Decidable (eOk R C x) := by unfold eOk; infer_instance
instance (y x : Edg) : Decidable (aft y x) := by unfold aft; infer_instance
def okF (R C : Int) : Edg → List Edg → Bool
  | _, [] => true
  | y, x :: xs => decide (eOk R C x ∧ aft y x) && okF R C x xs
def e0 : Edg := ⟨-1, 0, 0⟩
def gOk (R C : Int) (es : List Edg) : Bool := decide (0 ≤ R ∧ R ≤ 64 ∧ 0 ≤ C ∧ C ≤ 64) && okF R C e0 es
def gErr (R C : Int) (es : List Edg) : Int := if gOk R C es = true then 0 else 170
def lastE (es : List Edg) : Nat → Edg
  | 0 => e0
  | k + 1 => (es[k]?).getD e0
theorem ok_step {R C : Int} {es : List Edg} {k : Nat} {x : Edg} (h : es[k]? = some x) (h1 : eOk R C x) (h2 : aft (lastE es k) x) : okF R C (lastE es k) (es.drop k) = okF R C (lastE es (k + 1)) (es.drop (k + 1)) := by
  have hk := (List.getElem?_eq_some_iff.1 h).1
  rw [List.drop_eq_getElem_cons hk]
  have e : es[k] = x := (List.getElem?_eq_some_iff.1 h).2
  show (decide (eOk R C es[k] ∧ aft (lastE es k) es[k]) && okF R C es[k] (es.drop (k + 1))) = _
  rw [e, decide_eq_true ⟨h1, h2⟩, Bool.true_and]
  show _ = okF R C ((es[k]?).getD e0) _
  rw [h]; rfl
theorem ok_bad {R C : Int} {es : List Edg} {k : Nat} {x : Edg} (h : es[k]? = some x) (h1 : ¬ (eOk R C x ∧ aft (lastE es k) x)) : okF R C (lastE es k) (es.drop k) = false := by
  have hk := (List.getElem?_eq_some_iff.1 h).1
  rw [List.drop_eq_getElem_cons hk]
  have e : es[k] = x := (List.getElem?_eq_some_iff.1 h).2
  show (decide (eOk R C es[k] ∧ aft (lastE es k) es[k]) && okF R C es[k] (es.drop (k + 1))) = _
  rw [e, decide_eq_false h1, Bool.false_and]
theorem load_edg (v : Value) : Instr.loadAt 97 v = LA 97 v := rfl
theorem edg_at {w : World} {A : Option Addr} {n : Nat} {es : List Edg} (h : Recs w 3 A n (es.map Edg.list)) {j : Nat} (hj : j < n) : ∃ ad x, A = some ad ∧ es[j]? = some x ∧ ∀ w', Below w.heap.size w w' → (LA 97 (.pointer (some (ad.add (j * 3))))).run Tryz.prog w' = .ok (.agg #[.int .i64 x.r, .int .i64 x.c, .int .i64 x.w]) w' := by
  obtain ⟨ad, l, rfl, hl, hc, hcell⟩ := h.at_ hj
  rw [List.getElem?_map] at hl
  obtain ⟨x, hx, rfl⟩ := Option.map_eq_some_iff.1 hl
  refine ⟨ad, x, rfl, hx, fun w' hb => loads_at (l := x.list) (s := []) Tryz.underlying97 rfl (by show _ = some 3; kernel_rfl) fun i v hv => ?_⟩
  rw [add_add]
  rw [List.append_nil] at hv
  have hv' := hcell i v hv
  exact (hb.cell (World.block_lt_of_cell? w _ hv')).trans hv'
theorem la_new (w : World) (x : Edg) : (LA 97 (.pointer (some ⟨w.heap.size, 0, none⟩))).run Tryz.prog (w.alloc (.cells #[.int .i64 x.r, .int .i64 x.c, .int .i64 x.w] 97)) = .ok (.agg #[.int .i64 x.r, .int .i64 x.c, .int .i64 x.w]) (w.alloc (.cells #[.int .i64 x.r, .int .i64 x.c, .int .i64 x.w] 97)) :=
  loads_box Tryz.underlying97 rfl (by show _ = some 3; kernel_rfl) (fun i => World.cell?_alloc_new w _ _ i)
theorem ret_i {a b : Int} (h : a = b) : Ending.returned (.int .i64 a) = Ending.returned (.int .i64 b) := by rw [h]
theorem noGoto_ret' {Q : Exit → Act → World → Prop} {a : Act} {w : World} (h : Q .ret a w) : Exit.noGoto Q .ret a w := h
theorem blk_next (w : World) (o : Obj) (t : TypeId) (l : List Value) : Blk ((w.alloc o).alloc (.cells l.toArray t)) (w.heap.size + 1) t l := by
  have := Blk.new (w.alloc o) t l
  rwa [size_alloc] at this
theorem kba' {B : Nat} {a w : World} (h : Below B a w) (o : Obj) (hB : B ≤ a.heap.size := by exact Nat.le_refl _) : Below B a (w.alloc o) := h.alloc (Nat.le_trans hB h.size) o
theorem far3 {W : World} {g : Nat} {t : TypeId} {l : List Value} (h : Blk W g t l) (x y z : Int) (o : Obj) : Blk ((((W.setCell ⟨g + 1, 0, none⟩ (.int .i64 x)).setCell ⟨g + 1, 1, none⟩ (.int .i64 y)).setCell ⟨g + 1, 2, none⟩ (.int .i64 z)).alloc o) g t l :=
  (((h.far (p := ⟨g + 1, 0, none⟩) (Nat.ne_of_lt (Nat.lt_succ_self g)) _).far (p := ⟨g + 1, 1, none⟩) (Nat.ne_of_lt (Nat.lt_succ_self g)) _).far (p := ⟨g + 1, 2, none⟩) (Nat.ne_of_lt (Nat.lt_succ_self g)) _).alloc _
theorem bel3 {a W : World} (h : Below a.heap.size a W) (x y z : Int) (o : Obj) : Below a.heap.size a ((((W.setCell ⟨a.heap.size + 1, 0, none⟩ (.int .i64 x)).setCell ⟨a.heap.size + 1, 1, none⟩ (.int .i64 y)).setCell ⟨a.heap.size + 1, 2, none⟩ (.int .i64 z)).alloc o) := by
  have := ((h.setCell (p := ⟨a.heap.size + 1, 0, none⟩) (Nat.le_succ _) (.int .i64 x)).setCell (p := ⟨a.heap.size + 1, 1, none⟩) (Nat.le_succ _) (.int .i64 y)).setCell (p := ⟨a.heap.size + 1, 2, none⟩) (Nat.le_succ _) (.int .i64 z)
  exact this.alloc this.size _
theorem put3 {W : World} {g : Nat} {t : TypeId} {y x : Edg} {es : List Edg} {k : Nat} (h : Blk W g t y.list) (hx : es[k]? = some x) : Blk (((W.setCell ⟨g, 0, none⟩ (.int .i64 x.r)).setCell ⟨g, 1, none⟩ (.int .i64 x.c)).setCell ⟨g, 2, none⟩ (.int .i64 x.w)) g t (lastE es (k + 1)).list := by
  have e : lastE es (k + 1) = x := by show (es[k]?).getD e0 = x; rw [hx]; rfl
  rw [e]
  exact ((h.put 0 _).put 1 _).put 2 _
attribute [local go_sem ↓] load_edg
end Go.Proofs.YtkpdomnmlinomabGreat.Check
