/- What 'alive' of the fares asks; SameInts. -/
import Derived.Test.YtfehdajjnbehdaaPrice
import Derived.Test.YtfehdajjnbehdaaSurge
import Derived.Test.YtfehdajjnbehdaaShareB
namespace Go.Proofs.Ytfehdajjnbehdaa.AliveR
open Go.RowKit Go.Proofs.Ytfehdajjnbehdaa.Aid Go.Proofs.Ytfehdajjnbehdaa.Fl Go.Proofs.Ytfehdajjnbehdaa.Mem Go.Proofs.Ytfehdajjnbehdaa.Round Go.Proofs.Ytfehdajjnbehdaa.Keep Go.Proofs.Ytfehdajjnbehdaa.Types Go.Proofs.Ytfehdajjnbehdaa.Price Go.Proofs.Ytfehdajjnbehdaa.Surge Go.Proofs.Ytfehdajjnbehdaa.ShareP Go.Proofs.Ytfehdajjnbehdaa.Share Go.Proofs.Ytfehdajjnbehdaa.Dist
open Ieee (double Toward Format)
set_option linter.unusedSimpArgs false
set_option linter.unusedVariables false
set_option maxRecDepth 100000
/-- SameInts: two lists of one length and the same numbers. -/
theorem same_c (xs : List Int) (A B : Option Addr) (n c d : Nat) (w : World) (h : Ints w .i64 A n xs) (h' : Ints w .i64 B n xs) (hn : n ≤ 1048576) :
    Calls Try.prog 31 #[.slice A n c, .slice B n d] w fun e w' => e = .returned (.bool true) ∧ Dr w w' := by
  have H := Lib.hid h
  have H' := Lib.hid h'
  clear h h'
  go_enter Try.func31, Try.ntmps31
  go_wp2_with (fail)
  go_loopw [5] (fun i wr => ∃ k : Nat, k ≤ n ∧ i = .int .i64 k ∧ Dr w wr) (fun i _ => n - (intOf i).toNat)
  case atStart => exact ⟨0, Nat.zero_le _, rfl, Dr.refl _⟩
  case round =>
    obtain ⟨k, hk, rfl, nd, rfl⟩ := hrel
    by_cases hlt : k < n
    · obtain ⟨ad, x, rfl, hx, hc⟩ := H.out.at_ hlt
      obtain ⟨bd, y, rfl, hy, hc'⟩ := H'.out.at_ hlt
      obtain rfl : x = y := by rw [hx] at hy; injection hy
      have hq : (x != x) = false := by simp
      clear hx hy
      go_wp2
      go_quiet (fail)
      go_wp2
      go_roundw
      case rel => exact ⟨k + 1, by omega, by go_num, _, rfl⟩
      case measure => simp [intOf]; omega
    · obtain rfl : k = n := by omega
      go_wp2
      go_ret
      exact ⟨rfl, _, rfl⟩
theorem surge1 (w : World) : Calls Try.prog 10 #[.int .i64 5, .int .i64 4] w fun x w' => x = .returned (.tuple #[.float .f64 4608308318706860032, .int .i64 0]) ∧ w = w' :=
  surge_c 5 4 _ 0 w (.inr (.inr (.inr ⟨by decide, by decide, by decide, by decide, 4608308318706860032, by decide +kernel, by decide +kernel, rfl⟩)))
theorem price1 (w : World) : Calls Try.prog 14 #[.agg #[.int .u8 0, .int .u8 0, .int .u8 0, .int .u8 0, .int .u8 0, .int .u8 0, .int .u8 0, .int .u8 0, .int .i16 0, .int .i16 0, .int .i16 3, .int .i16 (-4), .int .u8 1, .int .u8 0, .int .i64 0, .int .i64 0], .float .f64 4608308318706860032] w fun x w' => x = .returned (.tuple #[.int .i64 400, .int .i64 0]) ∧ Below w.heap.size w w' := by
  have h := price_c ⟨0, 0, 0, 0, 0, 0, 0, 0, 0, 0, 3, -4, 1, 0, 0, 0⟩ false 4608308318706860032 400 0 w ⟨by unfold S16; decide, by unfold S16; decide, by unfold S16; decide, by unfold S16; decide, by decide⟩ (by decide)
    (.inr ⟨⟨by decide, rfl, by decide, by decide⟩, 4645744490609377280, by decide +kernel, by decide, by decide +kernel, by decide +kernel⟩)
  rw [word_f] at h
  exact h
theorem round1 (w : World) : Calls Try.prog 12 #[.float .f64 4612811918334230528] w fun e w' => e = .returned (.tuple #[.int .i64 2, .int .i64 0]) ∧ w = w' := by
  have h := round_c false 4612811918334230528 w (by decide)
  rw [word_f, show rdV false 4612811918334230528 = 2 from by decide +kernel, show rdE 4612811918334230528 = 0 from by decide +kernel] at h
  exact h
theorem ints3 (w : World) (x y z : Int) : Ints (w.alloc (.cells #[.int .i64 x, .int .i64 y, .int .i64 z] 3)) .i64 (some ⟨w.heap.size, 0, none⟩) 3 [x, y, z] :=
  Ints.of_blk (Blk.new w 3 [.int .i64 x, .int .i64 y, .int .i64 z]) (by intro j v hv; match j with | 0 => simpa using hv | 1 => simpa using hv | 2 => simpa using hv | j + 3 => simp at hv)
theorem share1 (w : World) : Calls Try.prog 20 #[.int .i64 10, .slice (some ⟨w.heap.size, 0, none⟩) 3 3] (w.alloc (.cells #[.int .i64 1, .int .i64 1, .int .i64 1] 3)) fun e w' => (∃ g, e = .returned (.tuple #[.slice (some ⟨g, 0, none⟩) 3 3, .int .i64 0]) ∧ Ints w' .i64 (some ⟨g, 0, none⟩) 3 [4, 3, 3]) ∧ Below (w.alloc (.cells #[.int .i64 1, .int .i64 1, .int .i64 1] 3)).heap.size (w.alloc (.cells #[.int .i64 1, .int .i64 1, .int .i64 1] 3)) w' := by
  refine (share_ok 10 [1, 1, 1] _ 3 3 _ (ints3 w 1 1 1) (by decide) (by decide +kernel)).mono fun e w' h => ?_
  obtain ⟨⟨g, rfl, _, hB⟩, hb⟩ := h
  rw [show share 10 [1, 1, 1] = [4, 3, 3] from by decide +kernel] at hB
  refine ⟨⟨g, rfl, ?_⟩, hb⟩
  exact Ints.of_blk (xs := [4, 3, 3]) hB (by intro j v hv; simp [nums]; match j with | 0 => simpa using hv | 1 => simpa using hv | 2 => simpa using hv | j + 3 => simp at hv)
theorem share1g (w : World) (G : Nat) (hG : w.heap.size = G) : Calls Try.prog 20 #[.int .i64 10, .slice (some ⟨G, 0, none⟩) 3 3] (w.alloc (.cells #[.int .i64 1, .int .i64 1, .int .i64 1] 3)) fun e w' => (∃ g, e = .returned (.tuple #[.slice (some ⟨g, 0, none⟩) 3 3, .int .i64 0]) ∧ Ints w' .i64 (some ⟨g, 0, none⟩) 3 [4, 3, 3]) ∧ Below w.heap.size w w' := by
  subst hG
  exact (share1 w).mono fun e w' h => ⟨h.1, kbt (alloc_below _ _) h.2⟩
set_option maxHeartbeats 2000000 in
theorem alive_c (w : World) : Calls Try.prog 16 #[] w fun e w' => e = .returned (.bool true) ∧ Below w.heap.size w w' := by
  have q1 : (FloatKind.f64.format.order 4608308318706860032 4608308318706860032 == some .eq) = true := by decide +kernel
  go_enter Try.func16, Try.ntmps16
  go_wp2_with (first | (go_at_call 10; (with_reducible refine (surge1 _).mono ?_); rintro e w' ⟨rfl, rfl⟩) | (go_at_call 14; (with_reducible refine (price1 _).mono ?_); rintro e w1 ⟨rfl, hb⟩; have HB1 := Lib.hid hb; clear hb) | (go_at_call 12; (with_reducible refine (round1 _).mono ?_); rintro e w' ⟨rfl, rfl⟩) | (go_at_call 20; (with_reducible refine (share1g _ _ rfl).mono ?_); rintro e w2 ⟨⟨g, rfl, hI⟩, hb⟩; have HB2 := Lib.hid (kbt HB1.out hb); have HI := Lib.hid hI; clear hb hI) | (go_at_call 31; (with_reducible refine (same_c [4, 3, 3] _ _ 3 _ _ _ (HI.out.keep (alloc_below _ _)) (ints3 _ 4 3 3) (by decide)).mono ?_); rintro e w3 ⟨rfl, nd, rfl⟩))
  go_ret
  exact ⟨rfl, below_drewN (kba HB2.out _) _⟩
end Go.Proofs.Ytfehdajjnbehdaa.AliveR
