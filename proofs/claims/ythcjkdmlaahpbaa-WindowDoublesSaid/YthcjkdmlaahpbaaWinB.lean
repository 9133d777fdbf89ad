/- Contracts of the window's at, out. -/
import Derived.Test.YthcjkdmlaahpbaaWin
namespace Go.Proofs.Ythcjkdmlaahpbaa.Win
open Go.RowKit Go.Proofs.Ythcjkdmlaahpbaa.Aid Go.Proofs.Ythcjkdmlaahpbaa.Mem Go.Proofs.Ythcjkdmlaahpbaa.Keep Go.Proofs.Ythcjkdmlaahpbaa.Nums
set_option linter.unusedSimpArgs false
set_option linter.unusedVariables false
set_option maxRecDepth 100000
/-- May one ask? -/
def atE (wd ck tick : Int) : Int := if wd = 0 then 2 else if tick < 0 ∨ 1099511627776 < tick then 1 else if tick < ck then 4 else 0
theorem at_nil (tick : Int) (W : World) : Calls Try.prog 31 #[.pointer none, .int .i64 tick] W fun e w' => e = .returned (.int .i64 2) ∧ W = w' := by
  go_enter Try.func31, Try.ntmps31
  go_wp2
  go_ret
  exact ⟨rfl, rfl⟩
theorem at_c (W : World) (g : Nat) (wd ck sm : Int) (v : Value) (tick : Int) (hB : Blk W g 71 [.int .i64 wd, .int .i64 ck, .int .i64 sm, v]) :
    Calls Try.prog 31 #[.pointer (some ⟨g, 0, none⟩), .int .i64 tick] W fun e w' => e = .returned (.int .i64 (atE wd ck tick)) ∧ W = w' := by
  have c0 := hB.cellv (i := 0) rfl
  have c1 := hB.cellv (i := 1) rfl
  clear hB
  unfold atE
  by_cases h0 : wd = 0
  · rw [if_pos h0]
    have e0 : (wd == 0) = true := by simp [h0]
    clear h0
    go_enter Try.func31, Try.ntmps31
    go_wp2
    go_ret
    exact ⟨rfl, rfl⟩
  · rw [if_neg h0]
    have e0 : (wd == 0) = false := by simp [h0]
    clear h0
    by_cases h1 : tick < 0
    · rw [if_pos (.inl h1)]
      go_enter Try.func31, Try.ntmps31
      go_wp2
      go_ret
      exact ⟨rfl, rfl⟩
    · by_cases h2 : 1099511627776 < tick
      · rw [if_pos (.inr h2)]
        go_enter Try.func31, Try.ntmps31
        go_wp2
        go_ret
        exact ⟨rfl, rfl⟩
      · rw [if_neg (by omega)]
        by_cases h3 : tick < ck
        · rw [if_pos h3]
          go_enter Try.func31, Try.ntmps31
          go_wp2
          go_ret
          exact ⟨rfl, rfl⟩
        · rw [if_neg h3]
          go_enter Try.func31, Try.ntmps31
          go_wp2
          go_ret
          exact ⟨rfl, rfl⟩
theorem at_v (W : World) (g : Nat) (wd ck sm : Int) (v : Value) (tick e : Int) (hB : Blk W g 71 [.int .i64 wd, .int .i64 ck, .int .i64 sm, v]) (he : Hid (atE wd ck tick = e)) :
    Calls Try.prog 31 #[.pointer (some ⟨g, 0, none⟩), .int .i64 tick] W fun x w' => x = .returned (.int .i64 e) ∧ W = w' := by
  obtain rfl := he.out
  exact at_c W g wd ck sm v tick hB
set_option maxHeartbeats 1000000 in
theorem out_c (W : World) (g B : Nat) (wd ck sm : Int) (v : Value) (l : List (Int × Int)) (tick : Int) (hB : Blk W g 71 [.int .i64 wd, .int .i64 ck, .int .i64 sm, v]) (hO : Own W B 83 2 v l.length (cellsA l))
    (hl : Lok l) (hn : l.length ≤ 1099511627776) (t0 : 0 ≤ tick) (t1 : tick ≤ 1099511627776) (w0 : 0 ≤ wd) (w1 : wd ≤ 1048576) :
    Calls Try.prog 32 #[.pointer (some ⟨g, 0, none⟩), .int .i64 tick] W fun e w' => e = .returned (.tuple #[.int .i64 (lead (tick - wd) l : Nat), .int .i64 (sumA (l.take (lead (tick - wd) l)))]) ∧ Dr W w' := by
  have c0 := hB.cellv (i := 0) rfl
  have c3 := hB.cellv (i := 3) rfl
  obtain ⟨A, cp, rfl, hcp, hF⟩ := hO.form
  have HO := Lib.hid hO
  have HL := Lib.hid hl
  have hle := lead_le (tick - wd) l
  clear hB hO hF hl
  obtain ⟨K, eK⟩ : ∃ K, lead (tick - wd) l = K := ⟨_, rfl⟩
  have EK := Lib.hid eK
  rw [eK] at hle ⊢
  clear eK
  go_enter Try.func32, Try.ntmps32
  go_wp2
  go_loopw [4, 5] (fun k n wr => ∃ j : Nat, j ≤ K ∧ k = .int .i64 j ∧ n = .int .i64 (sumA (l.take j)) ∧ Dr W wr) (fun k _ _ => K - (intOf k).toNat)
  case atStart => exact ⟨0, Nat.zero_le _, rfl, rfl, Dr.refl _⟩
  case round =>
    obtain ⟨j, hj, rfl, rfl, nd, rfl⟩ := hrel
    obtain ⟨z0, z1⟩ := sum_take HL.out j
    have z2 := HL.out.sum
    by_cases hlt : j < l.length
    · obtain ⟨b, c, t, n, ev, hp, e0, e1⟩ := own_el HO.out hlt
      injection ev with ev1 ev2 ev3
      subst ev1 ev3
      have hlt' : (j : Int) < (l.length : Int) := by omega
      obtain ⟨p0, p1⟩ := HL.out.tick _ (List.mem_of_getElem? hp)
      dsimp only at p0 p1
      by_cases hjK : j < K
      · have hin := lead_in (tick - wd) l j (t, n) (by rw [EK.out]; exact hjK) hp
        dsimp only at hin
        have n0 := HL.out.n _ (List.mem_of_getElem? hp)
        dsimp only at n0
        obtain ⟨z3, z4⟩ := sum_take HL.out (j + 1)
        have hs := sum_snoc hp
        dsimp only at hs
        have d1 : decide (t ≤ tick - wd) = true := decide_eq_true hin
        clear hp
        go_wp2
        go_quiet (fail)
        go_wp2
        go_roundw
        case rel => exact ⟨j + 1, by omega, by go_num, by (rw [hs]; try go_num), by first | exact ⟨_, rfl⟩ | exact Dr.step ⟨nd, rfl⟩ nq⟩
        case measure => simp [intOf]; omega
      · obtain rfl : j = K := by omega
        have hne : ¬ t ≤ tick - wd := lead_at (tick - wd) l (t, n) (by rw [EK.out]; exact hp)
        have d1 : decide (t ≤ tick - wd) = false := decide_eq_false hne
        clear hp
        go_wp2
        go_quiet (fail)
        go_wp2
        go_ret2
        exact ⟨rfl, Dr.step ⟨nd, rfl⟩ nq⟩
    · obtain rfl : j = K := by omega
      obtain rfl : j = l.length := by omega
      have d1 : decide ((l.length : Int) < (l.length : Int)) = false := decide_eq_false (by omega)
      go_wp2
      go_quiet (fail)
      go_wp2
      go_ret2
      exact ⟨rfl, Dr.step ⟨nd, rfl⟩ nq⟩
end Go.Proofs.Ythcjkdmlaahpbaa.Win
