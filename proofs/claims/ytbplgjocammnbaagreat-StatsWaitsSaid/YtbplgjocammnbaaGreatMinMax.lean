/- Contracts of slices.Min and slices.Max on whole numbers; of stats.number. -/
import Derived.Test.YtbplgjocammnbaaGreatMem
import Derived.Test.YtbplgjocammnbaaGreatAid
import Derived.Test.YtbplgjocammnbaaGreatRows
import Derived.WalkKit
import Derived.WalkSpells
import Derived.WalkLawsBesides
import Derived.Lib.Hide
import Derived.LoopTactic
namespace Go.Proofs.YtbplgjocammnbaaGreat.MinMax
open Go.RowKit Go.Proofs.YtbplgjocammnbaaGreat.Aid Go.Proofs.YtbplgjocammnbaaGreat.Mem
set_option linter.unusedSimpArgs false
set_option linter.unusedVariables false
set_option maxRecDepth 100000
/-- The least and the greatest of the first k. -/
def least (xs : List Int) : Nat → Int
  | 0 => 0
  | 1 => xs[0]?.getD 0
  | k + 2 => min (least xs (k + 1)) (xs[k + 1]?.getD 0)
def most (xs : List Int) : Nat → Int
  | 0 => 0
  | 1 => xs[0]?.getD 0
  | k + 2 => max (most xs (k + 1)) (xs[k + 1]?.getD 0)
theorem least_one {xs : List Int} {x : Int} (h : xs[0]? = some x) : least xs 1 = x := by show xs[0]?.getD 0 = x; rw [h]; rfl
theorem most_one {xs : List Int} {x : Int} (h : xs[0]? = some x) : most xs 1 = x := by show xs[0]?.getD 0 = x; rw [h]; rfl
theorem least_next {xs : List Int} {k : Nat} {x : Int} (hk : 1 ≤ k) (h : xs[k]? = some x) : least xs (k + 1) = min (least xs k) x := by
  match k, hk with
  | k + 1, _ => show min (least xs (k + 1)) (xs[k + 1]?.getD 0) = _; rw [h]; rfl
theorem most_next {xs : List Int} {k : Nat} {x : Int} (hk : 1 ≤ k) (h : xs[k]? = some x) : most xs (k + 1) = max (most xs k) x := by
  match k, hk with
  | k + 1, _ => show max (most xs (k + 1)) (xs[k + 1]?.getD 0) = _; rw [h]; rfl
theorem min_c (xs : List Int) (A : Option Addr) (n c : Nat) (w : World) (h : Ints w .i64 A n xs) (hp : 0 < n) (hn : n ≤ 17592186044416) :
    Calls Tryz.prog 155 #[.slice A n c] w fun e w' => e = .returned (.int .i64 (least xs n)) ∧ w = w' := by
  have H := Lib.hid h
  obtain ⟨ad0, x0, rfl, hx0, hc0⟩ := h.at_ hp
  have e0 := Lib.hid (least_one hx0)
  have E0 := e0.out
  have q0 : w.cell? ad0 = some (.int .i64 x0) := by simpa [Addr.add] using hc0
  clear h hc0
  go_enter Tryz.func155, Tryz.ntmps155
  go_wp2
  go_loop [3, 4] (fun m i => ∃ k : Nat, 1 ≤ k ∧ k ≤ n ∧ i = .int .i64 k ∧ m = .int .i64 (least xs k)) (fun _ i => n - (intOf i).toNat)
  case atStart => exact ⟨1, Nat.le_refl _, hp, rfl, by rw [E0]⟩
  case round =>
    obtain ⟨k, hk1, hk, rfl, rfl⟩ := hrel
    by_cases hlt : k < n
    · obtain ⟨ad, x, he, hx, hc⟩ := H.out.at_ hlt
      cases he
      have HX := Lib.hid (least_next hk1 hx)
      clear hx
      go_wp2
      go_round
      case rel => exact ⟨k + 1, by omega, by omega, by go_num, by rw [HX.out]; congr 1; split <;> omega⟩
      case measure => simp [intOf]; omega
    · obtain rfl : k = n := by omega
      go_wp2
      go_ret
      exact ⟨rfl, rfl⟩
theorem max_c (xs : List Int) (A : Option Addr) (n c : Nat) (w : World) (h : Ints w .i64 A n xs) (hp : 0 < n) (hn : n ≤ 17592186044416) :
    Calls Tryz.prog 156 #[.slice A n c] w fun e w' => e = .returned (.int .i64 (most xs n)) ∧ w = w' := by
  have H := Lib.hid h
  obtain ⟨ad0, x0, rfl, hx0, hc0⟩ := h.at_ hp
  have e0 := Lib.hid (most_one hx0)
  have E0 := e0.out
  have q0 : w.cell? ad0 = some (.int .i64 x0) := by simpa [Addr.add] using hc0
  clear h hc0
  go_enter Tryz.func156, Tryz.ntmps156
  go_wp2
  go_loop [3, 4] (fun m i => ∃ k : Nat, 1 ≤ k ∧ k ≤ n ∧ i = .int .i64 k ∧ m = .int .i64 (most xs k)) (fun _ i => n - (intOf i).toNat)
  case atStart => exact ⟨1, Nat.le_refl _, hp, rfl, by rw [E0]⟩
  case round =>
    obtain ⟨k, hk1, hk, rfl, rfl⟩ := hrel
    by_cases hlt : k < n
    · obtain ⟨ad, x, he, hx, hc⟩ := H.out.at_ hlt
      cases he
      have HX := Lib.hid (most_next hk1 hx)
      clear hx
      go_wp2
      go_round
      case rel => exact ⟨k + 1, by omega, by omega, by go_num, by rw [HX.out]; congr 1; split <;> omega⟩
      case measure => simp [intOf]; omega
    · obtain rfl : k = n := by omega
      go_wp2
      go_ret
      exact ⟨rfl, rfl⟩
theorem number_c (x : Int) (w : World) : Calls Tryz.prog 153 #[.int .i64 x] w fun e w' => e = .returned (.bool (decide (-4611686018427387903 ≤ x ∧ x ≤ 4611686018427387903))) ∧ w = w' := by
  by_cases h1 : -4611686018427387903 ≤ x
  · by_cases h2 : x ≤ 4611686018427387903
    · go_enter Tryz.func153, Tryz.ntmps153
      go_wp2
      go_ret
      exact ⟨by simp [h1, h2], rfl⟩
    · go_enter Tryz.func153, Tryz.ntmps153
      go_wp2
      go_ret
      exact ⟨by simp [h1, h2], rfl⟩
  · have h1' : x < -4611686018427387903 := by omega
    go_enter Tryz.func153, Tryz.ntmps153
    go_wp2
    go_ret
    exact ⟨by simp [h1]; try omega, rfl⟩
end Go.Proofs.YtbplgjocammnbaaGreat.MinMax
