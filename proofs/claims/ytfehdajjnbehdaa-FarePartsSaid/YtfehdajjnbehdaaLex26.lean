/- A region of FareParts (the test on neighbours) may be gone through in the order of its text: asked once. -/
import Derived.Test.YtfehdajjnbehdaaRows
import Derived.Deep.Quiet
import Derived.KernelRfl
namespace Go.Proofs.Ytfehdajjnbehdaa.FParts
/-- The operations of a region, by its number. -/
def opsOf (n : Nat) : Code → List Oper
  | .region id ops _ => if id = n then ops.toList else []
  | .seq a b => opsOf n a ++ opsOf n b
  | .cond _ a b => opsOf n a ++ opsOf n b
  | .block _ b => opsOf n b
  | .loop b => opsOf n b
  | .scope b => opsOf n b
  | .rangeFunc _ _ _ b => opsOf n b
  | _ => []
def bodyOps (n : Nat) (b : Option Code) : List Oper := match b with | some c => opsOf n c | none => []
theorem lex26 : Region.lexB .any (bodyOps 26 Try.f9.body).toArray = true := by kernel_rfl
theorem lex26_of {l : List Oper} (h : l = bodyOps 26 Try.f9.body) : Region.lexB .any l.toArray = true := by rw [h]; exact lex26
end Go.Proofs.Ytfehdajjnbehdaa.FParts
