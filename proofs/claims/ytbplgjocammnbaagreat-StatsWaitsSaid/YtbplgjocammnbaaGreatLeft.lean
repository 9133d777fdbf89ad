/- Contracts of SameInts and LeftInts: two lists are the same; a copy is still that, its mark too. -/
import Derived.Test.YtbplgjocammnbaaGreatTwin
import Derived.Deep.QuietTactic
import Derived.BigQuiet
namespace Go.Proofs.YtbplgjocammnbaaGreat.Twin
open Go.RowKit Go.Proofs.YtbplgjocammnbaaGreat.Aid Go.Proofs.YtbplgjocammnbaaGreat.Mem
set_option linter.unusedSimpArgs false

theorem isInt_c (x n : Int) (w : World) (hn : 0 ≤ n ∧ n ≤ 1000000) : Calls Tryz.prog 129 #[.int .i64 x, .int .i64 n] w fun e w' => e = .returned (.bool (x == -1000 - n)) ∧ w = w' := by
  obtain ⟨h1, h2⟩ := hn
  go_enter Tryz.func129, Tryz.ntmps129
  go_wp2
  go_ret
  exact ⟨rfl, rfl⟩
/-- SameInts: two lists of one length and the same numbers. -/
theorem same_big (xs : List Int) (A B : Option Addr) (n c d : Nat) (w : World) (h : Ints w .i64 A n xs) (h' : Ints w .i64 B n xs) (hn : n ≤ 17592186044416) :
    Calls Tryz.prog 8 #[.slice A n c, .slice B n d] w fun e w' => e = .returned (.bool true) ∧ Dr w w' := by
  have H := Lib.hid h
  have H' := Lib.hid h'
  clear h h'
  go_enter Tryz.func8, Tryz.ntmps8
  go_wp2_with (fail)
  go_loopw [5] (fun i wr => ∃ k : Nat, k ≤ n ∧ i = .int .i64 k ∧ Dr w wr) (fun i _ => n - (intOf i).toNat)
  case atStart => exact ⟨0, Nat.zero_le _, rfl, Dr.refl _⟩
  case round =>
    obtain ⟨k, hk, rfl, nd, rfl⟩ := hrel
    by_cases hlt : k < n
    · obtain ⟨ad, x, rfl, hx, hc⟩ := H.out.at_ hlt
      obtain ⟨bd, y, rfl, hy, hc'⟩ := H'.out.at_ hlt
      obtain rfl : x = y := by rw [hx] at hy; injection hy
      have hq : (x != x) = false := by simp
      clear hx hy
      go_wp2
      go_quiet (fail)
      go_wp2
      go_roundw
      case rel => exact ⟨k + 1, by omega, by go_num, _, rfl⟩
      case measure => simp [intOf]; omega
    · obtain rfl : k = n := by omega
      go_wp2
      go_ret
      exact ⟨rfl, _, rfl⟩
theorem same_c (xs : List Int) (A B : Option Addr) (n c d : Nat) (w : World) (h : Ints w .i64 A n xs) (h' : Ints w .i64 B n xs) (hn : n ≤ 1048576) :
    Calls Tryz.prog 8 #[.slice A n c, .slice B n d] w fun e w' => e = .returned (.bool true) ∧ Dr w w' := same_big xs A B n c d w h h' (by omega)
/-- LeftInts: the copy is still that, its mark too. -/
theorem left_c (xs : List Int) (g : Nat) (A : Option Addr) (n c : Nat) (w : World) (hg : Blk w g 3 (nums .i64 xs ++ [.int .i64 (-8777)])) (h : Ints w .i64 A n xs) (hn : n ≤ 1048576) :
    Calls Tryz.prog 171 #[.slice (some ⟨g, 0, none⟩) n (n + 1), .slice A n c] w fun e w' => e = .returned (.bool true) ∧ Dr w w' := by
  have hl := h.1
  have h2 : Ints w .i64 (some ⟨g, 0, none⟩) n xs := by
    have := Ints.of_blk (k := .i64) (xs := xs) hg fun j x hx => nums_at hx _
    rwa [hl] at this
  have H := Lib.hid h
  have H2 := Lib.hid h2
  have hz : w.cell? ⟨g, n, none⟩ = some (.int .i64 (-8777)) := hg.cellv (by rw [List.getElem?_append_right (by simp [nums]; omega)]; simp [nums, hl])
  have hq : ((-8777 : Int) == -1000 - 7777) = true := by decide
  clear h h2 hl hg
  go_enter Tryz.func171, Tryz.ntmps171
  go_wp2_with (first | (go_at_call 8; (with_reducible refine (same_c xs _ A n _ c _ H2.out H.out hn).mono ?_); rintro e w' ⟨rfl, nd, rfl⟩) | (go_at_call 129; (with_reducible refine (isInt_c (-8777) 7777 _ (by decide)).mono ?_); rintro e w' ⟨rfl, rfl⟩))
  go_ret
  exact ⟨rfl, _, rfl⟩
end Go.Proofs.YtbplgjocammnbaaGreat.Twin
