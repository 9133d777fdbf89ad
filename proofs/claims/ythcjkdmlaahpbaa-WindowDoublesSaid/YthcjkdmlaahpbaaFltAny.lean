/- An argument of a type '[]float64' reads as a list of words. -/
import Derived.Test.YthcjkdmlaahpbaaSmooths
import Derived.Test.YthcjkdmlaahpbaaRecs
namespace Go.Proofs.Ythcjkdmlaahpbaa.FltAny
open Go.RowKit Go.Proofs.Ythcjkdmlaahpbaa.Aid Go.Proofs.Ythcjkdmlaahpbaa.Mem Go.Proofs.Ythcjkdmlaahpbaa.Keep Go.Proofs.Ythcjkdmlaahpbaa.Recs Go.Proofs.Ythcjkdmlaahpbaa.Shape Go.Proofs.Ythcjkdmlaahpbaa.Smooths Go.ChangeShapes Go.WideShapes Go.Deep
set_option linter.unusedVariables false
section
variable {H : Type} {enc : TypeId × Value → H} {P : Program} {W : World} {base : Nat} {spare : Nat → Bool} {held : Bool}
theorem floats_any {t e : TypeId} {a : Option Addr} {len cap : Nat} {d : DataW H} {ps : List MemPlace} (hu : P.underlying t = some (.slice e)) (he : P.underlying e = some (.float .f64)) (hc : P.cellsOf e = 1)
    (h : DataW.Trod enc P W base spare held t (.slice a len cap) d ps) : ∃ xs : List Nat, Flts W a len xs ∧ len ≤ cap ∧ ∀ x ∈ xs, (Lit.float .f64 x).wf = true := by
  obtain ⟨ls, r, c, z⟩ := recs_any hu h
  rw [hc] at r
  obtain ⟨xs, rfl, wx⟩ := list_choose (f := fun x : Nat => [Value.float .f64 x]) (p := fun x => (Lit.float .f64 x).wf = true) (l := ls) (fun l hl => by
    obtain ⟨z1, z2⟩ := z l hl
    rw [hc] at z1
    obtain ⟨v, hv, b, rfl, hb⟩ := z2 1 0 .flt (by unfold cellAt; rw [he]; rfl)
    refine ⟨b, ?_, hb⟩
    match l, z1 with
    | [u], _ => simp at hv; rw [hv])
  refine ⟨xs, ⟨by have := r.1; simpa using this, fun hn => ?_⟩, c, wx⟩
  obtain ⟨ad, e1, hcell⟩ := r.2 hn
  refine ⟨ad, e1, fun j x hx => ?_⟩
  have := (hcell j [.float .f64 x] (by rw [List.getElem?_map, hx]; rfl)).2 0 _ rfl
  rwa [Nat.mul_one, Nat.add_zero] at this
end
end Go.Proofs.Ythcjkdmlaahpbaa.FltAny
