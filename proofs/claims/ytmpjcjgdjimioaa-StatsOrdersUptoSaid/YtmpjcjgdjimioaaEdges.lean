/- Contracts of edges (real numbers by their bits) and turned (a list from its other end). -/
import Derived.Test.YtmpjcjgdjimioaaHist
import Derived.Test.YtmpjcjgdjimioaaApp
import Derived.Test.YtmpjcjgdjimioaaSQuant
namespace Go.Proofs.Ytmpjcjgdjimioaa.Edges
open Go.RowKit Go.Proofs.Ytmpjcjgdjimioaa.Aid Go.Proofs.Ytmpjcjgdjimioaa.Mem Go.Proofs.Ytmpjcjgdjimioaa.Keep Go.Proofs.Ytmpjcjgdjimioaa.Cont Go.Proofs.Ytmpjcjgdjimioaa.SQuant
set_option linter.unusedSimpArgs false
set_option linter.unusedVariables false
set_option maxRecDepth 100000
theorem infoFlt : (Try.prog.info? 23).map (fun i => (i.zero, i.size, i.bytes)) = some (some (.float .f64 0), 1, 8) := by kernel_rfl
theorem infoI : (Try.prog.info? 3).map (fun i => (i.zero, i.size, i.bytes)) = some (some (.int .i64 0), 1, 8) := by kernel_rfl
abbrev flts (es : List Nat) : List Value := es.map (Value.float .f64)
theorem one_flt (x : Nat) : ∀ u ∈ [Value.float .f64 x], u.oneCell' = true := by intro u hu; simp at hu; subst hu; rfl
theorem Own.flts {w : World} {base n : Nat} {e : TypeId} {v : Value} {es : List Nat} (h : Own w base e 1 v n (flts es)) : ∃ A c, v = .slice A n c ∧ Flts w A n es := by
  obtain ⟨A, c, rfl, _, hf⟩ := h.form
  have hl : es.length = n := by have := h.1; simp at this; exact this
  refine ⟨A, c, rfl, hl, fun hn => ?_⟩
  obtain ⟨g, rfl, _, _, hc⟩ := hf hn
  exact ⟨_, rfl, fun j x hx => by rw [add_at]; exact hc j _ (by rw [List.getElem?_map, hx]; rfl)⟩
set_option maxHeartbeats 4000000 in
theorem edges_c (es : List Nat) (A : Option Addr) (n c : Nat) (w : World) (h : Ints w .u64 A n (es.map fun x : Nat => (x : Int))) (hn : n ≤ 17592186044415) :
    Calls Try.prog 21 #[.slice A n c] w fun e w' => (∃ B d, e = .returned (.slice B n d) ∧ Flts w' B n es) ∧ Below w.heap.size w w' := by
  have H := Lib.hid h
  have HL : Hid (es.length = n) := Lib.hid (by have := h.1; simpa using this)
  clear h
  go_enter Try.func21, Try.ntmps21
  go_wp2
  go_loopw [3, 4] (fun v i wr => ∃ k : Nat, k ≤ n ∧ i = .int .i64 k ∧ Hid (Own wr w.heap.size 23 1 v k (flts (es.take k))) ∧ Hid (Below w.heap.size w wr)) (fun _ i _ => n - (intOf i).toNat)
  case atStart => exact ⟨0, Nat.zero_le _, rfl, Lib.hid (by simpa [flts] using Own.nil _ _ _ _), Lib.hid (Below.refl _ _)⟩
  case round =>
    obtain ⟨k, hk, rfl, HO, HB⟩ := hrel
    by_cases hlt : k < n
    · obtain ⟨ad, xI, rfl, hx, hc⟩ := (H.out.keep HB.out).at_ hlt
      rw [List.getElem?_map] at hx
      obtain ⟨x, hx2, e3⟩ := Option.map_eq_some_iff.1 hx
      subst e3
      have HX := Lib.hid (take_snoc es k x hx2)
      have fr := from_run x
      have HBA := Lib.hid HB.out.size
      have HMX : Hid (k + 1 ≤ maxLen) := Lib.hid (by unfold maxLen; omega)
      have HBY : Hid ((k + 1) * 8 ≤ 140737488355328) := Lib.hid (by omega)
      clear hx hx2
      go_wp2_with (first | (at_builtin; (refine app_one (w0 := w) (W := wr) w.heap.size rfl _ _ 44 23 (.float .f64 0) 1 8 rfl Try.underlying44 infoFlt rfl (by decide) u3 _ _ [.float .f64 x] rfl rfl rfl (one_flt _) HO.out HB.out HBA.out HMX.out HBY.out ?_); intro v1 w9 hO hB _ _ _; have HO9 := Lib.hid hO; have HBW9 := Lib.hid hB; clear hO hB))
      go_roundw
      case rel => exact ⟨k + 1, by omega, by go_num, Lib.hid (by rw [HX.out, flts, List.map_append]; exact HO9.out), HBW9⟩
      case measure => simp [intOf]; omega
    · obtain rfl : k = n := by omega
      have e2 : es.take k = es := List.take_of_length_le (by have := HL.out; omega)
      rw [e2] at HO
      clear e2
      go_wp2
      go_ret
      obtain ⟨B, d, e, hf⟩ := Own.flts HO.out
      exact ⟨⟨B, d, by rw [← e]; rfl, hf⟩, HB.out⟩
set_option maxHeartbeats 4000000 in
theorem turned_c (xs : List Int) (A : Option Addr) (n c : Nat) (w : World) (h : Ints w .i64 A n xs) (hn : n ≤ 17592186044415) :
    Calls Try.prog 23 #[.slice A n c] w fun e w' => (∃ B d, e = .returned (.slice B n d) ∧ Ints w' .i64 B n xs.reverse) ∧ Below w.heap.size w w' := by
  have H := Lib.hid h
  have HL : Hid (xs.length = n) := Lib.hid h.1
  clear h
  go_enter Try.func23, Try.ntmps23
  go_wp2
  go_loopw [3, 4] (fun v i wr => ∃ k : Nat, k ≤ n ∧ i = .int .i64 ((n : Int) - 1 - k) ∧ Hid (Own wr w.heap.size 3 1 v k (nums .i64 (xs.reverse.take k))) ∧ Hid (Below w.heap.size w wr)) (fun _ i _ => ((intOf i) + 1).toNat)
  case atStart => exact ⟨0, Nat.zero_le _, by go_num, Lib.hid (by simpa [nums] using Own.nil _ _ _ _), Lib.hid (Below.refl _ _)⟩
  case round =>
    obtain ⟨k, hk, rfl, HO, HB⟩ := hrel
    by_cases hlt : k < n
    · obtain ⟨j, hj⟩ : ∃ j, j = n - 1 - k := ⟨_, rfl⟩
      have hji : (n : Int) - 1 - k = (j : Int) := by omega
      rw [hji]
      obtain ⟨ad, x, rfl, hx, hc⟩ := (H.out.keep HB.out).at_ (show j < n by omega)
      have hxr : xs.reverse[k]? = some x := by
        rw [List.getElem?_reverse (by have := HL.out; omega), ← hx]
        congr 1
        have := HL.out; omega
      have HX := Lib.hid (take_snoc xs.reverse k x hxr)
      have HBA := Lib.hid HB.out.size
      have HMX : Hid (k + 1 ≤ maxLen) := Lib.hid (by unfold maxLen; omega)
      have HBY : Hid ((k + 1) * 8 ≤ 140737488355328) := Lib.hid (by omega)
      have HJ := Lib.hid hj
      have hjn : j < n := by omega
      clear hx hxr hji hj
      go_wp2_with (first | (at_builtin; (refine app_one (w0 := w) (W := wr) w.heap.size rfl _ _ 22 3 (.int .i64 0) 1 8 rfl Try.underlying22 infoI rfl (by decide) u3 _ _ [.int .i64 x] rfl rfl rfl (one_int _ _) HO.out HB.out HBA.out HMX.out HBY.out ?_); intro v1 w9 hO hB _ _ _; have HO9 := Lib.hid hO; have HBW9 := Lib.hid hB; clear hO hB))
      go_roundw
      case rel => exact ⟨k + 1, by omega, congrArg (Value.int .i64) (by have := HJ.out; omega), Lib.hid (by rw [HX.out, nums, List.map_append]; exact HO9.out), HBW9⟩
      case measure => simp [intOf] <;> omega
    · obtain rfl : k = n := by omega
      have e2 : xs.reverse.take k = xs.reverse := List.take_of_length_le (by have := HL.out; simp; omega)
      rw [e2] at HO
      have hz : (k : Int) - 1 - k = -1 := by omega
      rw [hz]
      clear e2 hz
      go_wp2
      go_ret
      obtain ⟨B, d, e, hf⟩ := HO.out.ints
      exact ⟨⟨B, d, by rw [← e]; rfl, hf⟩, HB.out⟩
end Go.Proofs.Ytmpjcjgdjimioaa.Edges
