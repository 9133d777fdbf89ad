/- The Book's functions on lists of ints that it holds: look; and keep. -/
import Derived.Test.YtbplgjocammnbaaGreatBookGW
import Derived.Deep.QuietTactic
import Derived.BigQuiet
namespace Go.Proofs.YtbplgjocammnbaaGreat.BookI
open Go.RowKit Go.Proofs.YtbplgjocammnbaaGreat.Aid Go.Proofs.YtbplgjocammnbaaGreat.Mem Go.Proofs.YtbplgjocammnbaaGreat.Keep
set_option linter.unusedSimpArgs false
set_option linter.unusedVariables false
set_option maxRecDepth 100000
theorem isInt_c (k : Nat) (w : World) (h' : k ≤ 1000) : Calls Tryz.prog 129 #[.int .i64 (mrk k), .int .i64 ((k : Int) + 1)] w fun e w' => e = .returned (.bool true) ∧ w' = w := by
  unfold mrk
  go_enter Tryz.func129, Tryz.ntmps129
  go_wp2
  go_ret
  exact ⟨by first | rfl | simp, rfl⟩
theorem Gr.below {W W' : World} {B S0 m : Nat} {V X : Nat → Value} {N T : Nat → Nat} (h : Gr W B S0 m V N X T) (hb : Below W.heap.size W W') : Gr W' B S0 m V N X T :=
  h.chg (ChgS.of_below (F := fun _ => False) hb) fun _ _ _ _ h => h
theorem Bk.below {W W' : World} {g hb cap m : Nat} {ad : Addr} {V L : Nat → Value} (h : Bk W g hb cap m ad V L) (hw : Below W.heap.size W W') : Bk W' g hb cap m ad V L :=
  h.chg (ChgS.of_below (F := fun _ => False) hw) (fun h => h) (fun h => h)
attribute [local go_sem ↓] load_held
set_option maxHeartbeats 4000000 in
theorem look_ints (W : World) (g hb cap m : Nat) (ad : Addr) (V L : Nat → Value) (B S0 : Nat) (N : Nat → Nat) (hk : Bk W g hb cap m ad V L) (hg : Gr W B S0 m V N L (fun _ => 70)) :
    Calls Tryz.prog 69 #[.pointer (some ⟨g, 0, none⟩)] W fun e w' => e = .returned (.bool true) ∧ Below W.heap.size W w' := by
  have HG := Lib.hid hg
  have HK := Lib.hid hk
  have m2 := hk.m2
  have c1 := hk.c1
  clear hk hg
  go_enter Tryz.func69, Tryz.ntmps69
  go_wp2
  go_loopw [3] (fun i wr => ∃ k : Nat, k ≤ m ∧ i = .int .i64 k ∧ Hid (Below W.heap.size W wr)) (fun i _ => m - (intOf i).toNat)
  case atStart => exact ⟨0, Nat.zero_le _, rfl, Below.refl _ _⟩
  case round =>
    obtain ⟨k, hk, rfl, HB⟩ := hrel
    have HG := Lib.hid (HG.out.below HB.out)
    have HK := Lib.hid (HK.out.below HB.out)
    have c1 := HK.out.c1
    by_cases hlt : k < m
    · have la := HK.out.la hlt
      obtain ⟨A, c, eV, hA⟩ := HG.out.reads k hlt
      obtain ⟨A1, c1', eL, hA1⟩ := Reads.of_own (HG.out.own k hlt)
      obtain ⟨b1, rfl, hc1⟩ := hA1 (by omega)
      have sm := HG.out.small k hlt
      rw [eV, eL] at la
      have RV := Lib.hid hA
      have RL := Lib.hid hc1
      clear eV eL hA hA1 hc1
      go_wp2
      have HB0 := Lib.hid (Blk.new wr tH [.slice A (N k) c, .slice (some ⟨b1, 0, none⟩) (N k + 70) c1', .int .i64 ((k : Int) + 1)])
      have HB1 := Lib.hid (HB.out.alloc HB.out.size (.cells #[.slice A (N k) c, .slice (some ⟨b1, 0, none⟩) (N k + 70) c1', .int .i64 ((k : Int) + 1)] tH))
      have HW : Hid (Below wr.heap.size wr (wr.alloc (.cells #[.slice A (N k) c, .slice (some ⟨b1, 0, none⟩) (N k + 70) c1', .int .i64 ((k : Int) + 1)] tH))) := Lib.hid (alloc_below _ _)
      generalize wr.alloc _ = w0 at *
      generalize hp : wr.heap.size = p at *
      go_loopw [5] (fun i wi => ∃ t : Nat, t ≤ N k + 70 ∧ i = .int .i64 t ∧ Hid (Below p wr wi) ∧ Hid (Blk wi p tH [.slice A (N k) c, .slice (some ⟨b1, 0, none⟩) (N k + 70) c1', .int .i64 ((k : Int) + 1)])) (fun i _ => N k + 70 - (intOf i).toNat)
      case atStart => exact ⟨0, Nat.zero_le _, rfl, HW, HB0⟩
      case round =>
        clear HW HB0 HB1
        obtain ⟨t, ht, rfl, HW, HB2⟩ := hrel
        have q0 := HB2.out.cellv (i := 0) rfl
        have q1 := HB2.out.cellv (i := 1) rfl
        have q2 := HB2.out.cellv (i := 2) rfl
        by_cases hl2 : t < N k + 70
        · have g1 := (HW.out.cell (hp ▸ World.block_lt_of_cell? _ _ (RL.out t hl2))).trans (RL.out t hl2)
          by_cases hl3 : t < N k
          · obtain ⟨b, rfl, hc⟩ := RV.out (by omega)
            have g2 := (HW.out.cell (hp ▸ World.block_lt_of_cell? _ _ (hc t hl3))).trans (hc t hl3)
            have d3 : decide ((t : Int) < (N k : Int)) = true := decide_eq_true (by omega)
            clear hc
            go_wp2
            go_quiet ((go_at_call 129; exact Calls.quiet_of_same (isInt_c _ _ (by omega))))
            go_wp2
            go_roundw
            case rel => exact ⟨t + 1, by omega, by go_num, Lib.hid (below_drewN HW.out nq), Lib.hid (HB2.out.drewN nq)⟩
            case measure => simp [intOf]; omega
          · have d3 : decide ((t : Int) < (N k : Int)) = false := decide_eq_false (by omega)
            go_wp2
            go_quiet ((go_at_call 129; exact Calls.quiet_of_same (isInt_c _ _ (by omega))))
            go_wp2
            go_roundw
            case rel => exact ⟨t + 1, by omega, by go_num, Lib.hid (below_drewN HW.out nq), Lib.hid (HB2.out.drewN nq)⟩
            case measure => simp [intOf]; omega
        · obtain rfl : t = N k + 70 := by omega
          go_wp2
          go_roundw
          case rel => exact ⟨k + 1, by omega, by go_num, HB.out.trans (HW.out.mono (by have h9 := HB.out.size; rw [hp] at h9; exact h9))⟩
          case measure => simp [intOf]; omega
    · obtain rfl : k = m := by omega
      go_wp2
      go_ret
      exact ⟨rfl, HB.out⟩
end Go.Proofs.YtbplgjocammnbaaGreat.BookI
