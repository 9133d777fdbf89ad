/- Which blocks a world holds, as a list; and that it stands above another one. -/
import Derived.Test.YtbplgjocammnbaaGreatKeep
namespace Go.Proofs.YtbplgjocammnbaaGreat.Has
open Go.RowKit Go.Proofs.YtbplgjocammnbaaGreat.Aid Go.Proofs.YtbplgjocammnbaaGreat.Mem Go.Proofs.YtbplgjocammnbaaGreat.Keep
/-- Each of these blocks is there, whole; all else of w0 is as it was. -/
def Has (w0 : World) (L : List (Nat × TypeId × List Value)) (w : World) : Prop := (∀ x ∈ L, Blk w x.1 x.2.1 x.2.2) ∧ Below w0.heap.size w0 w
section
variable {w0 w w' : World} {L : List (Nat × TypeId × List Value)}
theorem Has.nil (w : World) : Has w [] w := ⟨by simp, Below.refl _ _⟩
theorem Has.keep (h : Has w0 L w) (hb : Below w.heap.size w w') : Has w0 L w' := ⟨fun x hx => (h.1 x hx).keep hb, kbt h.2 hb⟩
theorem Has.alloc (h : Has w0 L w) (o : Obj) : Has w0 L (w.alloc o) := h.keep (alloc_below w o)
theorem Has.drew (h : Has w0 L w) : Has w0 L w.drew := ⟨fun x hx => (h.1 x hx).drew, h.2.drew⟩
theorem Has.new (h : Has w0 L w) (t : TypeId) (l : List Value) : Has w0 ((w.heap.size, t, l) :: L) (w.alloc (.cells l.toArray t)) := by
  refine ⟨fun x hx => ?_, (h.alloc _).2⟩
  rcases List.mem_cons.1 hx with rfl | hx
  · exact Blk.new w t l
  · exact (h.1 x hx).alloc _
theorem Has.bel (h : Has w0 L w) : Below w0.heap.size w0 w := h.2
theorem Has.lt (h : Has w0 L w) {b : Nat} {t : TypeId} {l : List Value} (hx : (b, t, l) ∈ L) : b < w.heap.size := (h.1 _ hx).lt
theorem Has.cell (h : Has w0 L w) {b : Nat} {t : TypeId} {l : List Value} (hx : (b, t, l) ∈ L) (i : Nat) : w.cell? ⟨b, i, none⟩ = l[i]? := (h.1 _ hx).cell i
theorem Has.free (h : Has w0 L w) {b : Nat} {t : TypeId} {l : List Value} (hx : (b, t, l) ∈ L) (i : Nat) : w.frozen? ⟨b, i, none⟩ = false := (h.1 _ hx).free i
theorem Has.load (h : Has w0 L w) {P : Program} {b : Nat} {t t' : TypeId} {l s : List Value} {d : TypeDesc} (hu : P.underlying t = some d) (hd : d.isRow = true) (hi : (P.info? t).map (·.size) = some l.length) (hx : (b, t', l ++ s) ∈ L) : (LA t (.pointer (some ⟨b, 0, none⟩))).run P w = .ok (.agg l.toArray) w :=
  loads_pre hu hd hi (fun i x hy => (h.1 _ hx).cellv (by simp at hy; rw [List.getElem?_append_left (List.getElem?_eq_some_iff.1 hy).1, hy]))
end
end Go.Proofs.YtbplgjocammnbaaGreat.Has
