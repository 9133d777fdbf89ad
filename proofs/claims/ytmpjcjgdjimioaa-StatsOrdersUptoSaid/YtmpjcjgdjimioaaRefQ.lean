/- Contract of the document's Quantile. -/
import Derived.Test.YtmpjcjgdjimioaaQuantP
import Derived.BigQuiet
namespace Go.Proofs.Ytmpjcjgdjimioaa.RefQ
open Ieee Go.RowKit Go.Proofs.Ytmpjcjgdjimioaa.Aid Go.Proofs.Ytmpjcjgdjimioaa.Mem Go.Proofs.Ytmpjcjgdjimioaa.Keep Go.Proofs.Ytmpjcjgdjimioaa.Of Go.Proofs.Ytmpjcjgdjimioaa.Fl Go.Proofs.Ytmpjcjgdjimioaa.Fin Go.Proofs.Ytmpjcjgdjimioaa.Sorts Go.Proofs.Ytmpjcjgdjimioaa.Search Go.Proofs.Ytmpjcjgdjimioaa.Quant Go.Proofs.Ytmpjcjgdjimioaa.QuantP
set_option linter.unusedSimpArgs false
set_option linter.unusedVariables false
set_option maxRecDepth 100000
set_option maxHeartbeats 1000000 in
theorem refq_bad (s : Nat) (A : Option Addr) (n c : Nat) (w : World) (h : (qbad s || (n : Int) == 0) = true) :
    Calls Try.prog 20 #[.float .f64 s, .slice A n c] w fun e w' => e = .returned (.tuple #[.int .i64 0, .int .i64 1]) ∧ w = w' := by
  cases hq : qbad s with
  | true =>
    unfold qbad at hq
    clear h
    go_enter Try.func20, Try.ntmps20
    go_wp2_with (fail)
    all_goals (go_ret2; exact ⟨rfl, rfl⟩)
  | false =>
    rw [hq, Bool.false_or] at h
    unfold qbad at hq
    go_enter Try.func20, Try.ntmps20
    go_wp2_with (fail)
    all_goals (go_ret2; exact ⟨rfl, rfl⟩)
theorem cnt_snoc {xs : List Int} {j : Nat} {y : Int} (x : Int) (h : xs[j]? = some y) : cnt (xs.take (j + 1)) x = cnt (xs.take j) x + (if y ≤ x then 1 else 0) := by
  unfold cnt
  rw [take_snoc xs j y h, List.countP_append]
  by_cases h1 : y ≤ x <;> simp [h1]
set_option maxHeartbeats 2000000 in
theorem refq_ok (s : Nat) (xs : List Int) (A : Option Addr) (n c : Nat) (w : World) (h : Ints w .i64 A n xs) (hp : 0 < n) (hn : n ≤ 17592186044416) (hs : s < 18446744073709551616) (hq : qbad s = false) (k : Nat) (hF : From (enough (want s n)) (n - 1) k) :
    Calls Try.prog 20 #[.float .f64 s, .slice A n c] w fun e w' => e = .returned (.tuple #[.int .i64 ((srt xs)[k]?.getD 0), .int .i64 0]) ∧ Dr w w' := by
  have HE := Lib.hid (fun (b : Int) (f : Bool) => quant_end (b := b) (f := f) h.1 hp hn hs hq hF)
  obtain ⟨ws, _⟩ := want_word (n := n) (share_word hs hq) (by omega)
  have fm : ∀ t W, (binOp .mul t (.float .f64 s) (.float .f64 (floatOfInt .f64 (n : Int)))).run Try.prog W = .ok (.float .f64 (want s n)) W := fo_run ws
  have f1 : (FloatKind.f64.format.order s 0 == some Ordering.gt || FloatKind.f64.format.order s 0 == some Ordering.eq) = true := by
    unfold qbad at hq
    cases h1 : FloatKind.f64.format.order s 0 == some Ordering.gt <;> cases h2 : FloatKind.f64.format.order s 0 == some Ordering.eq <;> first | rfl | (rw [h1, h2] at hq; simp at hq)
  have f2 : (FloatKind.f64.format.order s 4607182418800017408 == some Ordering.lt || FloatKind.f64.format.order s 4607182418800017408 == some Ordering.eq) = true := by
    unfold qbad at hq
    cases h1 : FloatKind.f64.format.order s 4607182418800017408 == some Ordering.lt <;> cases h2 : FloatKind.f64.format.order s 4607182418800017408 == some Ordering.eq <;> first | rfl | (rw [h1, h2] at hq; simp at hq)
  have H := Lib.hid h
  clear h hq hs ws hF
  have HL : Hid (xs.length = n) := Lib.hid H.out.1
  have hn0 : ((n : Int) == 0) = false := by simp; omega
  go_enter Try.func20, Try.ntmps20
  go_wp2_with (fail)
  go_loopw [7, 8, 9, 10, 11] (fun b f i m j wr => ∃ (t d : Nat) (bb : Int) (ff : Bool), t ≤ n ∧ i = .int .i64 t ∧ b = .int .i64 bb ∧ f = .bool ff ∧ Hid (QI s xs t bb ff) ∧ wr = w.drewN d) (fun _ _ i _ _ _ => n - (intOf i).toNat)
  case atStart => exact ⟨0, 0, 0, false, Nat.zero_le _, rfl, rfl, rfl, Lib.hid (QI.start s xs), rfl⟩
  case round =>
    obtain ⟨t, d, bb, ff, ht, rfl, rfl, rfl, HQ, rfl⟩ := hrel
    by_cases hlt : t < n
    · obtain ⟨ad, x, rfl, hx, hc⟩ := H.out.at_ hlt
      have HX := Lib.hid hx
      by_cases hsk : ff = true ∧ bb ≤ x
      · obtain ⟨rfl, hbx⟩ := hsk
        have HQ2 := Lib.hid (HQ.out.skip hx hbx)
        clear hx
        go_wp2_with (fail)
        go_roundw
        case rel => exact ⟨t + 1, d, bb, true, by omega, by go_num, rfl, rfl, HQ2, rfl⟩
        case measure => simp [intOf]; omega
      · have hgd : (ff = false) ∨ (ff = true ∧ x < bb) := by
          cases ff with
          | false => exact .inl rfl
          | true => exact .inr ⟨rfl, Int.not_le.1 fun h => hsk ⟨rfl, h⟩⟩
        have key : ∀ (m : Nat), m = cnt xs x → ∀ (g : Bool), g = good s xs x → Hid (geF (fi (m : Int)) (want s n) = g) := fun m hm g hg => by subst hm; subst hg; unfold good; rw [HL.out]; exact Lib.hid rfl
        clear hx hsk
        rcases hgd with rfl | ⟨rfl, hxb⟩
        all_goals
          go_wp2_with (fail)
          go_loopw [10, 11] (fun m j wr => ∃ j' d' : Nat, j' ≤ n ∧ j = .int .i64 j' ∧ m = .int .i64 (cnt (xs.take j') x : Int) ∧ cnt (xs.take j') x ≤ j' ∧ wr = w.drewN d') (fun _ j _ => n - (intOf j).toNat)
          case atStart => exact ⟨0, d, Nat.zero_le _, rfl, by simp [cnt], by simp [cnt], rfl⟩
          case round =>
            obtain ⟨j, d', hj, rfl, rfl, hcj, rfl⟩ := hrel
            by_cases hjn : j < n
            · obtain ⟨ad', y, e', hy, hcy⟩ := H.out.at_ hjn
              cases e'
              have HC := Lib.hid (cnt_snoc x hy)
              clear hy
              by_cases hyx : y ≤ x
              · rw [if_pos hyx] at HC
                go_wp2_with (fail)
                go_quiet (fail)
                go_wp2_with (fail)
                go_roundw
                case rel => exact ⟨j + 1, d' + nq, by omega, by go_num, by rw [HC.out]; go_num, by rw [HC.out]; omega, rfl⟩
                case measure => simp [intOf]; omega
              · rw [if_neg hyx] at HC
                have hyx' : x < y := by omega
                go_wp2_with (fail)
                go_quiet (fail)
                go_wp2_with (fail)
                go_roundw
                case rel => exact ⟨j + 1, d' + nq, by omega, by go_num, by rw [HC.out]; go_num, by rw [HC.out]; omega, rfl⟩
                case measure => simp [intOf]; omega
            · obtain rfl : j = n := by omega
              have e2 : xs.take j = xs := List.take_of_length_le (by have := HL.out; omega)
              rw [e2]
              rw [e2] at hcj
              obtain ⟨m, hm⟩ : ∃ m, m = cnt xs x := ⟨_, rfl⟩
              rw [← hm]
              cases hg : good s xs x with
              | true =>
                have g1 : (FloatKind.f64.format.order (floatOfInt .f64 (m : Int)) (want s j) == some .gt || FloatKind.f64.format.order (floatOfInt .f64 (m : Int)) (want s j) == some .eq) = true := (key m hm true hg.symm).out
                have HQ2 := Lib.hid (HQ.out.take HX.out hg (by intro hf; first | assumption | cases hf))
                clear hg hm e2 key hcj
                go_wp2_with (fail)
                go_roundw
                case rel => exact ⟨t + 1, d', _, true, by omega, by go_num, rfl, rfl, HQ2, rfl⟩
                case measure => simp [intOf]; omega
              | false =>
                have g1 : (FloatKind.f64.format.order (floatOfInt .f64 (m : Int)) (want s j) == some .gt || FloatKind.f64.format.order (floatOfInt .f64 (m : Int)) (want s j) == some .eq) = false := (key m hm false hg.symm).out
                have HQ2 := Lib.hid (HQ.out.bad HX.out hg)
                clear hg hm e2 key hcj
                go_wp2_with (fail)
                go_roundw
                case rel => exact ⟨t + 1, d', _, _, by omega, by go_num, rfl, rfl, HQ2, rfl⟩
                case measure => simp [intOf]; omega
    · obtain rfl : t = n := by omega
      have HV := Lib.hid (HE.out bb ff HQ.out)
      go_wp2
      go_ret2
      exact ⟨by rw [HV.out]; rfl, d, rfl⟩
end Go.Proofs.Ytmpjcjgdjimioaa.RefQ
