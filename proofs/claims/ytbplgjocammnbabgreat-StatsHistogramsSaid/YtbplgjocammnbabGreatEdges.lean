/- Contracts of edges (real numbers by their bits) and turned (a list from its other end). -/
import Derived.Test.YtbplgjocammnbabGreatHist
import Derived.Test.YtbplgjocammnbabGreatApp
namespace Go.Proofs.YtbplgjocammnbabGreat.Edges
open Go.RowKit Go.Proofs.YtbplgjocammnbabGreat.Aid Go.Proofs.YtbplgjocammnbabGreat.Mem Go.Proofs.YtbplgjocammnbabGreat.Keep Go.Proofs.YtbplgjocammnbabGreat.Cont
set_option linter.unusedSimpArgs false
set_option linter.unusedVariables false
set_option maxRecDepth 100000
theorem from_run (x : Nat) (w : World) : (callFunc 16 #[.int .u64 ((x : Nat) : Int)]).run Tryz.prog w = .ok (.value (.float .f64 x)) w := by
  have h := run_callFunc_extern (P := Tryz.prog) (f := 16) (e := Extern.MathFloatBits.float64frombits) Tryz.func16 (by kernel_rfl) (by kernel_rfl) (by kernel_rfl) (by rfl) #[.int .u64 ((x : Nat) : Int)] w
  rw [h]; rfl
theorem u64_nat {s : Int} (h : (Lit.int .u64 s).wf = true) : ∃ x : Nat, s = (x : Int) ∧ x < 18446744073709551616 := by
  simp only [Lit.wf, IntKind.min, IntKind.max, IntKind.signed, IntKind.bits, Bool.and_eq_true, decide_eq_true_eq] at h
  exact ⟨s.toNat, by simp at h; omega, by simp at h; omega⟩
theorem infoFlt : (Tryz.prog.info? 65).map (fun i => (i.zero, i.size, i.bytes)) = some (some (.float .f64 0), 1, 8) := by kernel_rfl
theorem infoI : (Tryz.prog.info? 3).map (fun i => (i.zero, i.size, i.bytes)) = some (some (.int .i64 0), 1, 8) := by kernel_rfl
abbrev flts (es : List Nat) : List Value := es.map (Value.float .f64)
theorem one_flt (x : Nat) : ∀ u ∈ [Value.float .f64 x], u.oneCell' = true := by intro u hu; simp at hu; subst hu; rfl
theorem Own.flts {w : World} {base n : Nat} {e : TypeId} {v : Value} {es : List Nat} (h : Own w base e 1 v n (flts es)) : ∃ A c, v = .slice A n c ∧ Flts w A n es := by
  obtain ⟨A, c, rfl, _, hf⟩ := h.form
  have hl : es.length = n := by have := h.1; simp at this; exact this
  refine ⟨A, c, rfl, hl, fun hn => ?_⟩
  obtain ⟨g, rfl, _, _, hc⟩ := hf hn
  exact ⟨_, rfl, fun j x hx => by rw [add_at]; exact hc j _ (by rw [List.getElem?_map, hx]; rfl)⟩
set_option maxHeartbeats 4000000 in
theorem edges_c (es : List Nat) (A : Option Addr) (n c : Nat) (w : World) (h : Ints w .u64 A n (es.map fun x : Nat => (x : Int))) (hn : n ≤ 17592186044415) :
    Calls Tryz.prog 5 #[.slice A n c] w fun e w' => (∃ B d, e = .returned (.slice B n d) ∧ Flts w' B n es) ∧ Below w.heap.size w w' := by
  have H := Lib.hid h
  have HL : Hid (es.length = n) := Lib.hid (by have := h.1; simpa using this)
  clear h
  go_enter Tryz.func5, Tryz.ntmps5
  go_wp2
  go_loopw [3, 4] (fun v i wr => ∃ k : Nat, k ≤ n ∧ i = .int .i64 k ∧ Hid (Own wr w.heap.size 65 1 v k (flts (es.take k))) ∧ Hid (Below w.heap.size w wr)) (fun _ i _ => n - (intOf i).toNat)
  case atStart => exact ⟨0, Nat.zero_le _, rfl, Lib.hid (by simpa [flts] using Own.nil _ _ _ _), Lib.hid (Below.refl _ _)⟩
  case round =>
    obtain ⟨k, hk, rfl, HO, HB⟩ := hrel
    by_cases hlt : k < n
    · obtain ⟨ad, xI, rfl, hx, hc⟩ := (H.out.keep HB.out).at_ hlt
      rw [List.getElem?_map] at hx
      obtain ⟨x, hx2, e3⟩ := Option.map_eq_some_iff.1 hx
      subst e3
      have HX := Lib.hid (take_snoc es k x hx2)
      have fr := from_run x
      have HBA := Lib.hid HB.out.size
      have HMX : Hid (k + 1 ≤ maxLen) := Lib.hid (by unfold maxLen; omega)
      have HBY : Hid ((k + 1) * 8 ≤ 140737488355328) := Lib.hid (by omega)
      clear hx hx2
      go_wp2_with (first | (at_builtin; (refine app_one (w0 := w) (W := wr) w.heap.size rfl _ _ 25 65 (.float .f64 0) 1 8 rfl Tryz.underlying25 infoFlt rfl (by decide) u3 _ _ [.float .f64 x] rfl rfl rfl (one_flt _) HO.out HB.out HBA.out HMX.out HBY.out ?_); intro v1 w9 hO hB _ _ _; have HO9 := Lib.hid hO; have HBW9 := Lib.hid hB; clear hO hB))
      go_roundw
      case rel => exact ⟨k + 1, by omega, by go_num, Lib.hid (by rw [HX.out, flts, List.map_append]; exact HO9.out), HBW9⟩
      case measure => simp [intOf]; omega
    · obtain rfl : k = n := by omega
      have e2 : es.take k = es := List.take_of_length_le (by have := HL.out; omega)
      rw [e2] at HO
      clear e2
      go_wp2
      go_ret
      obtain ⟨B, d, e, hf⟩ := Own.flts HO.out
      exact ⟨⟨B, d, by rw [← e]; rfl, hf⟩, HB.out⟩
end Go.Proofs.YtbplgjocammnbabGreat.Edges
