/- Contract of Beyond. -/
import Derived.Test.YtkpdomnmlinomabGreatRows
import Derived.Test.YtkpdomnmlinomabGreatAid
import Derived.Test.YtkpdomnmlinomabGreatMem
import Derived.WalkKit
import Derived.WalkSpells
import Derived.Lib.Hide
import Derived.LoopTactic
import Derived.Laws.MakeOwn
import Derived.Deep.OwnRows
namespace Go.Proofs.YtkpdomnmlinomabGreat.Twin
open Go.RowKit Go.Proofs.YtkpdomnmlinomabGreat.Aid Go.Proofs.YtkpdomnmlinomabGreat.Mem
set_option linter.unusedSimpArgs false

theorem tot_nonneg (xs : List Int) (h : ∀ x ∈ xs, 0 ≤ x) : 0 ≤ tot xs := by
  induction xs with
  | nil => exact Int.le_refl _
  | cons x xs ih =>
    rw [tot_cons]
    have h1 := h x (List.mem_cons_self ..)
    have h2 := ih fun y hy => h y (List.mem_cons_of_mem _ hy)
    omega
theorem tot_drop {xs : List Int} {k : Nat} {x : Int} (h : xs[k]? = some x) (hx : ∀ y ∈ xs, 0 ≤ y) : tot (xs.take k) + x ≤ tot xs := by
  have h1 := tot_snoc xs k x h
  have h2 : tot (xs.take (k + 1) ++ xs.drop (k + 1)) = tot xs := by rw [List.take_append_drop]
  rw [tot_append] at h2
  have h3 := tot_nonneg (xs.drop (k + 1)) fun y hy => hx y (List.mem_of_mem_drop hy)
  omega
/-- Beyond: lists of lengths. -/
theorem beyond_c (xs : List Int) (A : Option Addr) (m c : Nat) (w : World) (h : Ints w .i64 A m xs) (hx : ∀ x ∈ xs, 0 ≤ x ∧ x ≤ 140737488355328) (hm : m ≤ 1048576) :
    Calls Tryz.prog 4 #[.slice A m c] w fun e w' => e = .returned (.bool (decide (1048576 < tot xs))) ∧ w = w' := by
  have H := Lib.hid h
  have HX := Lib.hid hx
  clear h hx
  go_enter Tryz.func4, Tryz.ntmps4
  go_wp2_with (fail)
  go_loop [3, 4] (fun s i => ∃ k : Nat, k ≤ m ∧ i = .int .i64 k ∧ s = .int .i64 (tot (xs.take k)) ∧ 0 ≤ tot (xs.take k) ∧ tot (xs.take k) ≤ 1048576) (fun _ i => m - (intOf i).toNat)
  case atStart => exact ⟨0, Nat.zero_le _, rfl, by simp [tot], by simp [tot], by simp [tot]⟩
  case round =>
    obtain ⟨k, hk, rfl, rfl, s0, s1⟩ := hrel
    have hl := H.out.1
    by_cases hlt : k < m
    · obtain ⟨ad, x, rfl, hx, hc⟩ := H.out.at_ hlt
      obtain ⟨x0, x1⟩ := HX.out x (List.mem_of_getElem? hx)
      have HS := Lib.hid (tot_snoc xs k x hx)
      have HD := Lib.hid (tot_drop hx (fun y hy => (HX.out y hy).1))
      clear hx hl
      generalize hg : tot (xs.take k) = s at *
      clear hg
      by_cases hc2 : s + x ≤ 1048576
      · go_wp2
        go_round
        case rel => exact ⟨k + 1, by omega, by go_num, by rw [HS.out], by rw [HS.out]; omega, by rw [HS.out]; omega⟩
        case measure => simp [intOf]; omega
      · have hc3 : 1048576 < s + x := by omega
        go_wp2
        go_ret
        exact ⟨by rw [decide_eq_true (by have := HD.out; omega)]; rfl, rfl⟩
    · obtain rfl : k = m := by omega
      have ht : xs.take k = xs := List.take_of_length_le (by omega)
      rw [ht] at s1
      have hd : decide (1048576 < tot xs) = false := decide_eq_false (by omega)
      go_wp2
      go_ret
      exact ⟨by first | rfl | (rw [hd]; rfl), rfl⟩
end Go.Proofs.YtkpdomnmlinomabGreat.Twin
