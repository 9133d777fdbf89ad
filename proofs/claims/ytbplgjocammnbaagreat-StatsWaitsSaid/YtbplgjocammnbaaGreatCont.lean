/- A slice of floats; slices.ContainsFunc with math.IsNaN. -/
import Derived.Test.YtbplgjocammnbaaGreatQuant
namespace Go.Proofs.YtbplgjocammnbaaGreat.Cont
open Ieee Go.RowKit Go.Proofs.YtbplgjocammnbaaGreat.Aid Go.Proofs.YtbplgjocammnbaaGreat.Mem Go.Proofs.YtbplgjocammnbaaGreat.Keep Go.Proofs.YtbplgjocammnbaaGreat.Of Go.Proofs.YtbplgjocammnbaaGreat.Fl
set_option linter.unusedSimpArgs false
set_option linter.unusedVariables false
set_option maxRecDepth 100000
/-- A slice of floats that is read. -/
def Flts (w : World) (A : Option Addr) (n : Nat) (xs : List Nat) : Prop :=
  xs.length = n ∧ (0 < n → ∃ ad, A = some ad ∧ ∀ j x, xs[j]? = some x → w.cell? (ad.add j) = some (.float .f64 x))
theorem Flts.at_ {w : World} {A : Option Addr} {n : Nat} {xs : List Nat} (h : Flts w A n xs) {j : Nat} (hj : j < n) : ∃ ad x, A = some ad ∧ xs[j]? = some x ∧ w.cell? (ad.add j) = some (.float .f64 x) := by
  obtain ⟨ad, e, hc⟩ := h.2 (by omega)
  have hl : j < xs.length := by have := h.1; omega
  exact ⟨ad, xs[j], e, List.getElem?_eq_getElem hl, hc j _ (List.getElem?_eq_getElem hl)⟩
theorem Flts.keep {w w' : World} {A : Option Addr} {n : Nat} {xs : List Nat} (h : Flts w A n xs) (hb : Below w.heap.size w w') : Flts w' A n xs :=
  ⟨h.1, fun hp => by
    obtain ⟨ad, e, hc⟩ := h.2 hp
    exact ⟨ad, e, fun j x hx => (hb.cell (World.block_lt_of_cell? w _ (hc j x hx))).trans (hc j x hx)⟩⟩
theorem Flts.of_blk {w : World} {g : Nat} {t : TypeId} {xs : List Nat} {r : List Value} (h : Blk w g t (xs.map (Value.float .f64) ++ r)) : Flts w (some ⟨g, 0, none⟩) xs.length xs :=
  ⟨rfl, fun _ => ⟨_, rfl, fun j x hx => by
    rw [add_at]
    exact h.cellv (by rw [List.getElem?_append_left (by simp; exact (List.getElem?_eq_some_iff.1 hx).1), List.getElem?_map, hx]; rfl)⟩⟩
theorem Flts.nil {w : World} {A : Option Addr} : Flts w A 0 [] := ⟨rfl, fun h => absurd h (by omega)⟩
/-- Is it none? -/
def nanF (v : Nat) : Bool := !(FloatKind.f64.format.order v v == some .eq)
theorem isnan_c (v : Nat) (w : World) : Calls Tryz.prog 162 #[.float .f64 v] w fun e w' => e = .returned (.bool (nanF v)) ∧ w = w' := by
  go_enter Tryz.func162, Tryz.ntmps162
  go_wp2
  go_ret
  exact ⟨rfl, rfl⟩
theorem index_c (xs : List Nat) (A : Option Addr) (n c : Nat) (w : World) (h : Flts w A n xs) (hn : n ≤ 17592186044416) :
    Calls Tryz.prog 174 #[.slice A n c, .func (.func 162) #[] #[]] w fun e w' => (∃ k : Int, e = .returned (.int .i64 k) ∧ xs.any nanF = decide (0 ≤ k)) ∧ w = w' := by
  have H := Lib.hid h
  clear h
  go_enter Tryz.func174, Tryz.ntmps174
  go_wp2_with (fail)
  go_loop [8] (fun i => ∃ k : Nat, k ≤ n ∧ i = .int .i64 k ∧ Hid ((xs.take k).any nanF = false)) (fun i => n - (intOf i).toNat)
  case atStart => exact ⟨0, Nat.zero_le _, rfl, Lib.hid (by simp)⟩
  case round =>
    obtain ⟨k, hk, rfl, HA⟩ := hrel
    by_cases hlt : k < n
    · obtain ⟨ad, x, rfl, hx, hc⟩ := H.out.at_ hlt
      have HX := Lib.hid hx
      have ha := isnan_c x w
      have HI := Lib.hid ha
      cases hv : nanF x with
      | true =>
        have HV := Lib.hid hv
        rw [hv] at HI
        clear hv hx ha
        go_wp2_with (first | (go_at_call 162; (with_reducible refine (HI.out).mono ?_); rintro e w' ⟨rfl, rfl⟩))
        go_ret
        exact ⟨⟨k, rfl, by rw [decide_eq_true (by omega), List.any_eq_true]; exact ⟨x, List.mem_of_getElem? HX.out, HV.out⟩⟩, rfl⟩
      | false =>
        have HV : Hid ((xs.take (k + 1)).any nanF = false) := Lib.hid (by rw [take_snoc xs k x hx, List.any_append, HA.out]; simp [hv])
        rw [hv] at HI
        clear hv hx ha
        go_wp2_with (first | (go_at_call 162; (with_reducible refine (HI.out).mono ?_); rintro e w' ⟨rfl, rfl⟩))
        go_round
        case rel => exact ⟨k + 1, by omega, by go_num, HV⟩
        case measure => simp [intOf]; omega
    · obtain rfl : k = n := by omega
      have ht : xs.take k = xs := List.take_of_length_le (by have := H.out.1; omega)
      rw [ht] at HA
      clear ht
      go_wp2
      go_ret
      exact ⟨⟨-1, rfl, by rw [HA.out]; rfl⟩, rfl⟩
theorem contains_c (xs : List Nat) (A : Option Addr) (n c : Nat) (w : World) (h : Flts w A n xs) (hn : n ≤ 17592186044416) :
    Calls Tryz.prog 161 #[.slice A n c, .func (.func 162) #[] #[]] w fun e w' => e = .returned (.bool (xs.any nanF)) ∧ w = w' := by
  have H := Lib.hid h
  clear h
  go_enter Tryz.func161, Tryz.ntmps161
  go_wp2_with (first | (go_at_call 174; (with_reducible refine (index_c xs A n c _ H.out hn).mono ?_); (rintro e w' ⟨⟨k, rfl, hk⟩, rfl⟩; have HK := Lib.hid hk; clear hk)))
  go_ret
  exact ⟨by rw [HK.out]; rfl, rfl⟩
end Go.Proofs.YtbplgjocammnbaaGreat.Cont
