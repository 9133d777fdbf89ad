/- The struct of two lists (law16.Lists): how an argument reads. The numbers 24 and 25 are the slices' types in this seat's program. -/
import Derived.Test.YtkpdomnmlinomabGreatTypes
import Derived.Test.YtkpdomnmlinomabGreatRecs
import Derived.Test.YtkpdomnmlinomabGreatRowAid
namespace Go.Proofs.YtkpdomnmlinomabGreat.Lists
open Go.RowKit Go.Proofs.YtkpdomnmlinomabGreat.Aid Go.Proofs.YtkpdomnmlinomabGreat.Mem Go.Proofs.YtkpdomnmlinomabGreat.Types Go.Proofs.YtkpdomnmlinomabGreat.Recs Go.ChangeShapes Go.WideShapes Go.Deep
set_option linter.unusedVariables false
set_option maxRecDepth 100000
section
variable {H : Type} {enc : TypeId × Value → H} {P : Program} {W : World} {base : Nat} {spare : Nat → Bool} {held : Bool}
/-- What a struct's parts weigh is within what the whole weighs. -/
theorem inner_each {ts : List TypeId} {ds : List (DataW H)} {j : Nat} {t : TypeId} {fs : Array Field} {parts : List (DataW H)} (hsz : (DataW.weightsEach P ts ds).all (· ≤ reachBytes) = true) (ht : ts[j]? = some t) (hd : ds[j]? = some (.agg parts)) (hu : P.underlying t = some (.struct fs)) :
    (DataW.weightsEach P (fs.toList.map (·.type)) parts).all (· ≤ reachBytes) = true := by
  rw [List.all_eq_true]
  intro n hn
  exact List.all_eq_true.1 hsz n (DataW.weights_mem_each ht hd n (by simpa [DataW.weights, hu] using hn))
theorem lists_any {r : Reach} {b0 : Nat} {v : Value} {d : DataW H} {p : List MemPlace} {ts : List TypeId} {ds : List (DataW H)} {j : Nat} (hval : Value.okWide Tryz.prog W r b0 27 v)
    (h : DataW.Trod enc Tryz.prog W base spare held 27 v d p) (hsz : (DataW.weightsEach Tryz.prog ts ds).all (· ≤ reachBytes) = true) (ht : ts[j]? = some 27) (hd : ds[j]? = some d) :
    ∃ (A : Option Addr) (n c : Nat) (B : Option Addr) (m e : Nat) (xs : List Wai) (ys : List Idl), v = .agg #[.slice A n c, .slice B m e] ∧ Recs W 18 A n (xs.map Wai.list) ∧ n ≤ c ∧ n ≤ 140737488351232 ∧ (∀ x ∈ xs, x.wf) ∧
      Recs W 14 B m (ys.map Idl.list) ∧ m ≤ e ∧ m ≤ 140737488351232 ∧ (∀ y ∈ ys, y.wf) := by
  obtain ⟨vs, rfl, hl, hk⟩ := Shape.flat_any Tryz.underlying27 hval h
  rw [show Tryz.prog.cellsOf 27 = 2 from by kernel_rfl] at hl
  match vs, hl with
  | [u0, u1], _ =>
    obtain ⟨x0, e0, _, _, _, A, n, c, rfl⟩ := hk 4 0 (.other 24) (by kernel_rfl)
    obtain ⟨x1, e1, _, _, _, B, m, e, rfl⟩ := hk 4 1 (.other 25) (by kernel_rfl)
    obtain rfl : u0 = .slice A n c := by simpa using e0
    obtain rfl : u1 = .slice B m e := by simpa using e1
    obtain ⟨fuel, hf⟩ := h
    obtain ⟨y0, y1, k, hd2, _, h0, h1⟩ := trod_struct2 Tryz.underlying27 hf
    obtain ⟨rfl, rfl⟩ := Prod.mk.inj hd2
    have hz := inner_each hsz ht hd Tryz.underlying27
    have T0 : DataW.Trod enc Tryz.prog W base spare held 24 (.slice A n c) y0.1 y0.2 := ⟨k, by
      rw [show Tryz.prog.cellsOf 24 = 1 from by kernel_rfl] at h0
      simpa [Value.cells] using h0⟩
    have T1 : DataW.Trod enc Tryz.prog W base spare held 25 (.slice B m e) y1.1 y1.2 := ⟨k, by
      rw [show Tryz.prog.cellsOf 25 = 1 from by kernel_rfl] at h1
      simpa [Value.cells] using h1⟩
    obtain ⟨ls0, r0, c0, z0⟩ := recs_any Tryz.underlying24 T0
    obtain ⟨xs, rfl, wx⟩ := list_choose (f := Wai.list) (p := Wai.wf) (fun l hl => Wai.of_cells (z0 l hl).1 (z0 l hl).2)
    obtain ⟨ls1, r1, c1, z1⟩ := recs_any Tryz.underlying25 T1
    obtain ⟨ys, rfl, wy⟩ := list_choose (f := Idl.list) (p := Idl.wf) (fun l hl => Idl.of_cells (z1 l hl).1 (z1 l hl).2)
    have b0 := RowAid.sized_any hz (j := 0) (t := 24) rfl rfl Tryz.underlying24 T0
    have b1 := RowAid.sized_any hz (j := 1) (t := 25) rfl rfl Tryz.underlying25 T1
    rw [show Tryz.prog.bytesOf 78 = 56 from by kernel_rfl] at b0
    rw [show Tryz.prog.bytesOf 82 = 32 from by kernel_rfl] at b1
    rw [show Tryz.prog.cellsOf 78 = 18 from by kernel_rfl] at r0
    rw [show Tryz.prog.cellsOf 82 = 14 from by kernel_rfl] at r1
    exact ⟨A, n, c, B, m, e, xs, ys, rfl, r0, c0, by omega, wx, r1, c1, by omega, wy⟩
end
end Go.Proofs.YtkpdomnmlinomabGreat.Lists
