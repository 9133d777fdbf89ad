/- The row of the law FitListed: for every input the call answers true and leaves what came in as it was. It joins the given statement with the walk Listed.listed. -/
import Derived.Test.YteeocipidlnnlaaRows
import Derived.Test.YteeocipidlnnlaaListed
import Derived.WalkKit
import Derived.ProofKit
import Derived.OpenShut
import Derived.ShutString
import Derived.ChangeOld
import Derived.Below
import Derived.SizedLaws
import Derived.Test.YteeocipidlnnlaaRowAid
import Derived.Test.YteeocipidlnnlaaRecs
import Derived.Test.YteeocipidlnnlaaTypes
namespace Go.Proofs.Yteeocipidlnnlaa.fitListed
open Go.ChangeShapes Go.WideShapes Go.ChangeAt Go.RowKit
open Go.ChangeMaps (open_string shut_string)
set_option linter.unusedVariables false
theorem own : ownKnob Try.prog.godebug = none := by kernel_rfl
theorem laidOut : laidOutB Try.prog = true := by kernel_rfl
set_option maxRecDepth 100000 in
theorem lifted (os : Os) (started : os.Started) (H : Type) (enc : TypeId × Value → H) :
    ReturnsInHanded {} Try.checked os 8 .any (Rows.fitListedSpec.pre6 enc Try.prog Try.f8 Rows.fitListedRow.domain false) (Rows.fitListedSpec.post enc Try.prog Try.f8 false true false false) := by
  refine returnsInHanded_of_change_sized (C := Try.checked) own started (by kernel_rfl) Try.func8
    (ChangeSpec.witness6 (enc := enc) (C := Try.checked) false ⟨#[], #[.slice none 0 0, .slice none 0 0], []⟩ 8 (by kernel_rfl) (by kernel_rfl) (by kernel_rfl) (by kernel_rfl)) ?_
  intro W base args ds gs before hval0 hW hcnd hsz0 _
  have hsz : (DataW.weightsEach Try.prog (Try.f8.params.toList ++ Rows.fitListedSpec.plain.varTypes Try.prog) (ds ++ gs)).all (· ≤ reachBytes) = true := hsz0
  have hval : ∀ (j : Nat) t v, Try.f8.params[j]? = some t → args[j]? = some v → Value.okWide Try.prog W .any base t v := hval0
  have hW' := hW
  obtain ⟨p, q, hA0, hV, rfl, hfz, hnd⟩ := hW
  have hA : DataW.TrodAll enc Try.prog W 0 (fun _ => true) true Try.f8.params.toList args.toList ds p := hA0
  rw [Try.params8] at hA hval hsz
  obtain ⟨v0, vs0, d0, ds0, p0, q0, hargs, rfl, rfl, h0, r0⟩ := trodAll_cons hA
  obtain ⟨v1, vs1, d1, ds1, p1, q1, rfl, rfl, rfl, h1, r1⟩ := trodAll_cons r0
  obtain ⟨rfl, rfl, rfl⟩ := trodAll_nil r1
  obtain rfl : args = #[v0, v1] := by cases args; simp_all
  obtain ⟨rfl, rfl⟩ := trodVars_none hV
  obtain ⟨a0, len0, cap0, rfl⟩ := okWide_slice Try.underlying49 (hval 0 49 v0 rfl rfl)
  have k0 := h0
  have lt0 : ∀ x ∈ p0, x.block < W.heap.size := by obtain ⟨m, hm⟩ := k0; exact DataW.trod_lt m _ _ _ hm
  obtain ⟨ls0, w0, c0, z0⟩ := Recs.recs_any Try.underlying49 h0
  obtain ⟨xs0, rfl, zz0⟩ := Recs.list_choose (f := Types.Wai.list) (p := Types.Wai.wf) (fun l hl => Types.Wai.of_cells (z0 l hl).1 (z0 l hl).2)
  rw [show Try.prog.cellsOf 57 = 18 from by kernel_rfl] at w0
  have y0 : len0 * Try.prog.bytesOf 57 ≤ 140737488351232 := RowAid.sized_any hsz (j := 0) (t := 49) rfl rfl Try.underlying49 h0
  rw [show Try.prog.bytesOf 57 = 56 from by kernel_rfl] at y0
  obtain ⟨a1, len1, cap1, rfl⟩ := okWide_slice Try.underlying50 (hval 1 50 v1 rfl rfl)
  have k1 := h1
  have lt1 : ∀ x ∈ p1, x.block < W.heap.size := by obtain ⟨m, hm⟩ := k1; exact DataW.trod_lt m _ _ _ hm
  obtain ⟨ls1, w1, c1, z1⟩ := Recs.recs_any Try.underlying50 h1
  obtain ⟨xs1, rfl, zz1⟩ := Recs.list_choose (f := Types.Idl.list) (p := Types.Idl.wf) (fun l hl => Types.Idl.of_cells (z1 l hl).1 (z1 l hl).2)
  rw [show Try.prog.cellsOf 59 = 14 from by kernel_rfl] at w1
  have y1 : len1 * Try.prog.bytesOf 59 ≤ 140737488351232 := RowAid.sized_any hsz (j := 1) (t := 50) rfl rfl Try.underlying50 h1
  rw [show Try.prog.bytesOf 59 = 32 from by kernel_rfl] at y1
  clear hA0 hval0 hsz0 hsz
  refine (Listed.listed xs0 a0 len0 cap0 xs1 a1 len1 cap1 W w0 c0 (by omega) zz0 w1 c1 (by omega) zz1).mono fun e W' ⟨he, bel⟩ => ?_
  subst he
  exact ⟨_, rfl, _, _, _, [], _, [], hW', trodAll_mk1 (shut_bool Try.underlying4 _), (trodAll_cons_mk (Below.trod laidOut (by kernel_rfl) (of_decide_eq_true (by kernel_rfl)) k0 bel lt0) (trodAll_cons_mk (Below.trod laidOut (by kernel_rfl) (of_decide_eq_true (by kernel_rfl)) k1 bel lt1) trodAll_mk0)), rfl, bel.frame _, fun h => by cases h⟩
theorem over : Rows.fitListedRow.holds Try.pinned (OpenSpec.ofChange Rows.fitListedSpec) :=
  OpenClaim.holds_of_wide 8 Try.f8 rfl rfl rfl rfl rfl rfl rfl ⟨rfl, rfl, rfl, rfl, rfl⟩ rfl rfl rfl rfl rfl (by kernel_rfl) Try.func8 (by kernel_rfl)
    (of_decide_eq_true (by kernel_rfl)) (by unfold Func.isWrapper; first | (rw [if_pos (by decide +kernel)]; kernel_rfl) | (rw [if_neg (by decide +kernel)]; exact ⟨rfl, rfl⟩))
    (fun os started H enc _ => lifted os started H enc)
theorem proved : Rows.FitListedSaid := over
end Go.Proofs.Yteeocipidlnnlaa.fitListed
namespace Go.Proofs.Yteeocipidlnnlaa
/-- The row, under a short name, for the claim. -/
theorem fitListed_holds : Rows.FitListedSaid := fitListed.proved
end Go.Proofs.Yteeocipidlnnlaa
