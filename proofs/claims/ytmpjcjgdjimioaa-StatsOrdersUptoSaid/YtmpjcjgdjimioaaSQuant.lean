/- The law StatsQuantiles: of any share and any ints the quantile, as the document has it; the ints stay. -/
import Derived.Test.YtmpjcjgdjimioaaRefQ
import Derived.Test.YtmpjcjgdjimioaaLives
namespace Go.Proofs.Ytmpjcjgdjimioaa.SQuant
open Ieee Go.RowKit Go.Proofs.Ytmpjcjgdjimioaa.Aid Go.Proofs.Ytmpjcjgdjimioaa.Mem Go.Proofs.Ytmpjcjgdjimioaa.Keep Go.Proofs.Ytmpjcjgdjimioaa.Of Go.Proofs.Ytmpjcjgdjimioaa.Fin Go.Proofs.Ytmpjcjgdjimioaa.Sorts Go.Proofs.Ytmpjcjgdjimioaa.Search Go.Proofs.Ytmpjcjgdjimioaa.Quant Go.Proofs.Ytmpjcjgdjimioaa.QuantP Go.Proofs.Ytmpjcjgdjimioaa.RefQ Go.Proofs.Ytmpjcjgdjimioaa.Twin Go.Proofs.Ytmpjcjgdjimioaa.Lives
set_option linter.unusedSimpArgs false
set_option linter.unusedVariables false
set_option maxRecDepth 100000
theorem from_run (x : Nat) (w : World) : (callFunc 18 #[.int .u64 ((x : Nat) : Int)]).run Try.prog w = .ok (.value (.float .f64 x)) w := by
  have h := run_callFunc_extern (P := Try.prog) (f := 18) (e := Extern.MathFloatBits.float64frombits) Try.func18 (by kernel_rfl) (by kernel_rfl) (by kernel_rfl) (by rfl) #[.int .u64 ((x : Nat) : Int)] w
  rw [h]; rfl
theorem u64_nat {s : Int} (h : (Lit.int .u64 s).wf = true) : ∃ x : Nat, s = (x : Int) ∧ x < 18446744073709551616 := by
  simp only [Lit.wf, IntKind.min, IntKind.max, IntKind.signed, IntKind.bits, Bool.and_eq_true, decide_eq_true_eq] at h
  exact ⟨s.toNat, by simp at h; omega, by simp at h; omega⟩
set_option maxHeartbeats 8000000 in
theorem walk (sI : Int) (xs : List Int) (A : Option Addr) (n c : Nat) (w : World) (ws : (Lit.int .u64 sI).wf = true) (h : Ints w .i64 A n xs) (hcap : n ≤ c) (hb : n ≤ 17592186044416) :
    Calls Try.prog 5 #[.int .u64 sI, .slice A n c] w fun e w' => e = .returned (.bool true) ∧ Below w.heap.size w w' := by
  obtain ⟨s, rfl, hs⟩ := u64_nat ws
  have H := Lib.hid h
  clear h ws
  have HI := Lib.hid (lit_is (lit_at (rfl : w.heap.size = w.heap.size) 3 (nums .i64 [(n : Int)])))
  have HP : Hid (∀ x ∈ [(n : Int)], 0 ≤ x ∧ x ≤ 140737488355328) := by intro x hx; simp at hx; omega
  have e1 : tot [(n : Int)] = n := by simp [tot]
  have fr := from_run s
  by_cases hn : n ≤ 1048576
  · have hd : decide (1048576 < tot [(n : Int)]) = false := decide_eq_false (by omega)
    have HL1 := Lib.hid ((Below.refl w.heap.size w).alloc (Nat.le_refl _) (.cells #[.int .i64 n] 3))
    have H1 := Lib.hid (H.out.keep HL1.out)
    have HLen := Lib.hid H.out.1
    obtain ⟨G, hG⟩ : ∃ G, (w.alloc (.cells #[.int .i64 n] 3)).heap.size = G := ⟨_, rfl⟩
    have HG := Lib.hid hG
    clear e1 hG
    cases hq : (qbad s || (n : Int) == 0) with
    | true =>
      have HQ := Lib.hid hq
      clear hq
      go_enter Try.func5, Try.ntmps5
      go_wp2_with (first | (go_at_call 13; (with_reducible refine (beyond_c [(n : Int)] _ 1 1 _ HI.out HP.out (by decide)).mono ?_); rintro e w' ⟨rfl, rfl⟩) | (go_at_call 14; (with_reducible refine (twin_c xs A n c _ G HG.out H1.out hn).mono ?_); (rintro e w2 ⟨rfl, hB, hL, hZ⟩; have HB2 := Lib.hid hB; have HL2 := Lib.hid (kbt HL1.out hL); clear hB hL hZ)) | (go_at_call 19; (with_reducible refine (quant_bad s _ n _ _ HQ.out).mono ?_); rintro e w' ⟨rfl, rfl⟩) | (go_at_call 20; (with_reducible refine (refq_bad s _ n _ _ HQ.out).mono ?_); rintro e w' ⟨rfl, rfl⟩) | (go_at_call 17; (with_reducible refine (left_c xs _ A n c _ HB2.out (H.out.keep HL2.out) hn).mono ?_); (rintro e w' ⟨rfl, nd, rfl⟩)) | (go_at_call 12; (with_reducible refine (lives_c _).mono ?_); (rintro e w9 ⟨rfl, hL⟩; have HL9 := Lib.hid (kbt (below_drewN HL2.out nd) hL); clear hL)))
      go_ret
      exact ⟨rfl, HL9.out⟩
    | false =>
      have hq1 : qbad s = false := by cases hh : qbad s <;> simp_all
      have hp : 0 < n := by
        rcases Nat.eq_zero_or_pos n with rfl | h
        · rw [hq1] at hq; simp at hq
        · exact h
      have HQ := Lib.hid hq1
      have HPn := Lib.hid hp
      have HNB : Hid (n ≤ 17592186044416) := Lib.hid hb
      have HS := Lib.hid hs
      clear hq hq1
      go_enter Try.func5, Try.ntmps5
      go_wp2_with (first | (go_at_call 13; (with_reducible refine (beyond_c [(n : Int)] _ 1 1 _ HI.out HP.out (by decide)).mono ?_); rintro e w' ⟨rfl, rfl⟩) | (go_at_call 14; (with_reducible refine (twin_c xs A n c _ G HG.out H1.out hn).mono ?_); (rintro e w2 ⟨rfl, hB, hL, hZ⟩; have HB2 := Lib.hid hB; have HL2 := Lib.hid (kbt HL1.out hL); clear hB hL hZ)) | (go_at_call 19; (with_reducible refine (quant_ok s xs _ n _ _ (twin_reads HB2.out HLen.out) HPn.out HNB.out HS.out HQ.out).mono ?_); (rintro e w3 ⟨⟨k, hF, rfl⟩, hL⟩; have HF := Lib.hid hF; have HL3 := Lib.hid (kbt HL2.out hL); have HB3 := Lib.hid (HB2.out.keep hL); clear hF hL)) | (go_at_call 20; (with_reducible refine (refq_ok s xs A n c _ (H.out.keep HL3.out) HPn.out HNB.out HS.out HQ.out k HF.out).mono ?_); (rintro e w4 ⟨rfl, nd4, rfl⟩)) | (go_at_call 17; (with_reducible refine (left_c xs _ A n c _ (HB3.out.drewN nd4) (H.out.keep (below_drewN HL3.out nd4)) hn).mono ?_); (rintro e w' ⟨rfl, nd, rfl⟩)) | (go_at_call 12; (with_reducible refine (lives_c _).mono ?_); (rintro e w9 ⟨rfl, hL⟩; have HL9 := Lib.hid (kbt (below_drewN HL3.out _) hL); clear hL)))
      go_ret
      exact ⟨rfl, HL9.out⟩
  · have hd : decide (1048576 < tot [(n : Int)]) = true := decide_eq_true (by omega)
    clear e1
    go_enter Try.func5, Try.ntmps5
    go_wp2_with (first | (go_at_call 13; (with_reducible refine (beyond_c [(n : Int)] _ 1 1 _ HI.out HP.out (by decide)).mono ?_); rintro e w' ⟨rfl, rfl⟩))
    go_ret
    exact ⟨rfl, (Below.refl _ _).alloc (Nat.le_refl _) _⟩
end Go.Proofs.Ytmpjcjgdjimioaa.SQuant
