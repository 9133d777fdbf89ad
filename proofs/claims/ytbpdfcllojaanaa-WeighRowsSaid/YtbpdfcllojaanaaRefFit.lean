/- The contract of the document's Against: the reasons against a pair. -/
import Derived.Test.YtbpdfcllojaanaaFit
namespace Go.Proofs.Ytbpdfcllojaanaa.RefFit
open Go.RowKit Go.Proofs.Ytbpdfcllojaanaa.Aid Go.Proofs.Ytbpdfcllojaanaa.Mem Go.Proofs.Ytbpdfcllojaanaa.Dist Go.Proofs.Ytbpdfcllojaanaa.Types Go.Proofs.Ytbpdfcllojaanaa.Classes Go.Proofs.Ytbpdfcllojaanaa.Fit
set_option linter.unusedSimpArgs false
theorem ba {a w : World} (h : Below a.heap.size a w) (o : Obj) : Below a.heap.size a (w.alloc o) := h.alloc h.size o
theorem ret_i2 {a b : Int} (h : a = b) : Ending.returned (.int .i64 a) = Ending.returned (.int .i64 b) := by rw [h]
end Go.Proofs.Ytbpdfcllojaanaa.RefFit
