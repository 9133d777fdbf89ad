/- What a call changes; two lists that a book holds; Beyond of two lengths. -/
import Derived.Test.YtbplgjocammnbaaGreatApart
import Derived.Test.YtbplgjocammnbaaGreatBookK
import Derived.Test.YtbplgjocammnbaaGreatLeft
namespace Go.Proofs.YtbplgjocammnbaaGreat.Two
open Go.RowKit Go.Proofs.YtbplgjocammnbaaGreat.Aid Go.Proofs.YtbplgjocammnbaaGreat.Mem Go.Proofs.YtbplgjocammnbaaGreat.Keep Go.Proofs.YtbplgjocammnbaaGreat.Twin
set_option linter.unusedSimpArgs false
set_option linter.unusedVariables false
set_option maxRecDepth 100000
theorem own_mono {W : World} {B B' : Nat} {e : TypeId} {s n : Nat} {v : Value} {l : List Value} (h : Own W B e s v n l) (hb : B' ≤ B) : Own W B' e s v n l := by
  refine ⟨h.1, ?_⟩
  rcases h.2 with h0 | ⟨b, cap, cur, rfl, hb', hr⟩
  · exact .inl h0
  · exact .inr ⟨b, cap, cur, rfl, Nat.le_trans hb hb', hr⟩
theorem own_ints {W : World} {B n c : Nat} {A : Option Addr} {xs : List Int} (h : Own W B 3 1 (.slice A n c) n (nums .i64 xs)) : Ints W .i64 A n xs := by
  obtain ⟨A', c', e, hI⟩ := h.ints
  cases e
  exact hI
/-- What changes new memory alone leaves the old. -/
theorem below_chg {w W W' : World} {F : Nat → Prop} (hb : Below w.heap.size w W) (hc : ChgS F W W') (hF : ∀ b, F b → w.heap.size ≤ b) : Below w.heap.size w W' :=
  ⟨hc.os.trans hb.os, hc.tape.trans hb.tape, hc.output.trans hb.output, Nat.le_trans hb.size hc.size, fun b hlt => (hc.keep b (Nat.lt_of_lt_of_le hlt hb.size) (fun h => by have := hF b h; omega)).trans (hb.block b hlt)⟩
theorem ints_chg {W W' : World} {F : Nat → Prop} {A : Option Addr} {n : Nat} {xs : List Int} (h : Ints W .i64 A n xs) {w : World} (hw : Ints w .i64 A n xs) (hb : Below w.heap.size w W') : Ints W' .i64 A n xs := hw.keep hb
open Go.Proofs.YtbplgjocammnbaaGreat.BookI
theorem dr_bel {W W' : World} (h : Dr W W') : Below W.heap.size W W' := h.below
theorem bk0_new (W : World) : Bk0 (W.alloc (.cells #[.int .i64 0, .slice none 0 0, .slice none 0 0, .slice none 0 0, .slice none 0 0, .slice none 0 0, .slice none 0 0, .slice none 0 0, .slice none 0 0, .slice none 0 0, .slice none 0 0, .slice none 0 0, .slice none 0 0, .slice none 0 0, .slice none 0 0, .slice none 0 0, .slice none 0 0, .slice none 0 0, .slice none 0 0, .slice none 0 0, .slice none 0 0, .slice none 0 0, .slice none 0 0, .slice none 0 0, .slice none 0 0, .slice none 0 0] 55)) W.heap.size := Blk.new W tB ([Value.int .i64 0, Value.slice none 0 0] ++ zB)
/-- Two lists. -/
def two (u v : Value) (j : Nat) : Value := if j = 1 then v else u
theorem rows_two {W : World} {B n : Nat} {u v : Value} {l : List Int} (hu : Own W B 3 1 u n (nums .i64 l)) (hv : Own W B 3 1 v n (nums .i64 l)) (hn : n ≤ 1099511627776) : BookI.Rows W B 2 (two u v) (fun _ => n) (fun _ _ => True) := by
  intro i hi
  by_cases e : i = 1
  · exact ⟨l, by unfold two; rw [if_pos e]; exact hv, hn, trivial⟩
  · exact ⟨l, by unfold two; rw [if_neg e]; exact hu, hn, trivial⟩
theorem dis_two {u v : Value} (h : ∀ b, u.ownBlock = some b → v.ownBlock ≠ some b) : Dis 2 (two u v) := by
  intro i j hi hj hij b h1 h2
  unfold two at h1 h2
  by_cases e : i = 1
  · rw [if_pos e] at h1
    rw [if_neg (by omega)] at h2
    exact h b h2 h1
  · rw [if_neg e] at h1
    rw [if_pos (by omega)] at h2
    exact h b h1 h2
theorem gb_two {W W' : World} {B n m hb : Nat} {u v : Value} {l l' : List Value} {t : TypeId} {s : Nat} (hu : Own W B t s u n l) (hv : Own W' B t s v m l') (hh : B ≤ hb) : ∀ b, GB 2 hb (two u v) b → B ≤ b := by
  rintro b (⟨i, hi, e⟩ | rfl)
  · unfold two at e
    by_cases e1 : i = 1
    · rw [if_pos e1] at e; exact hv.base_le b e
    · rw [if_neg e1] at e; exact hu.base_le b e
  · exact hh
/-- The book, with two lists told. -/
theorem told {W W' W'' : World} {o : Obj} {h0 : Nat} (hc1 : ChgS (fun b => b = W.heap.size) (W.alloc o) W') (hh : (W.alloc o).heap.size ≤ h0) (hc2 : ChgS (fun b => b = W.heap.size ∨ b = h0) W' W'') : Below W.heap.size W W'' := by
  have h1 : Below W.heap.size W W' := below_chg (alloc_below W o) hc1 (fun b e => Nat.le_of_eq e.symm)
  refine below_chg h1 hc2 fun b e => ?_
  rcases e with e | e
  · exact Nat.le_of_eq e.symm
  · rw [size_alloc] at hh; omega
theorem low {a h0 h1 : Nat} {W W' : World} {o : Obj} {F : Nat → Prop} (hs : a ≤ W.heap.size) (hh : (W.alloc o).heap.size ≤ h0) (hc : ChgS F (W.alloc o) W') (h : h1 = h0 ∨ W'.heap.size ≤ h1) : a ≤ h1 := by
  have h2 := hc.size
  rw [size_alloc] at hh h2
  omega
end Go.Proofs.YtbplgjocammnbaaGreat.Two
