/- The walk of WindowPlays, and the law. -/
import Derived.Test.YthcjkdmlaahpbaaPlays0
import Derived.Test.YthcjkdmlaahpbaaAliveN
namespace Go.Proofs.Ythcjkdmlaahpbaa.Plays
open Go.RowKit Go.Proofs.Ythcjkdmlaahpbaa.Aid Go.Proofs.Ythcjkdmlaahpbaa.Fl Go.Proofs.Ythcjkdmlaahpbaa.Mem Go.Proofs.Ythcjkdmlaahpbaa.Keep Go.Proofs.Ythcjkdmlaahpbaa.Win Go.Proofs.Ythcjkdmlaahpbaa.Types Go.Proofs.Ythcjkdmlaahpbaa.Recs Go.Proofs.Ythcjkdmlaahpbaa.AliveN
set_option linter.unusedSimpArgs false
set_option linter.unusedVariables false
set_option maxRecDepth 100000
attribute [local go_sem ↓] load_op
set_option maxHeartbeats 4000000 in
theorem pl_big (wd we : Int) (A : Option Addr) (n c : Nat) (w : World) (hn : n ≤ 140737488351232) (hbe : decide (1048576 < n) = true) :
    Calls Try.prog 7 #[.int .i64 wd, .int .i64 we, .slice A n c] w fun e w' => e = .returned (.bool true) ∧ Below w.heap.size w w' := by
  go_enter Try.func7, Try.ntmps7
  go_wp2_with (first | (go_at_call 25; with_reducible refine (beyond1 n _ _ hn true hbe).mono ?_; rintro e wb ⟨rfl, hwb⟩; have HB0 := Lib.hid (show Below w.heap.size w wb from hwb ▸ alloc_below w _); clear hwb))
  go_ret
  exact ⟨rfl, HB0.out⟩
set_option maxHeartbeats 8000000 in
theorem pl_tt (wd we : Int) (xs : List Opp) (A : Option Addr) (n c : Nat) (w : World) (h : Recs w 3 A n (xs.map Opp.list)) (hn : n ≤ 140737488351232) (hbe : decide (1048576 < n) = false) (ha : 1 ≤ wd ∧ wd ≤ 1048576) (hb : 1 ≤ we ∧ we ≤ 1048576) :
    Calls Try.prog 7 #[.int .i64 wd, .int .i64 we, .slice A n c] w fun e w' => e = .returned (.bool true) ∧ Below w.heap.size w w' := by
  have H := Lib.hid h
  have hn2 : n ≤ 1048576 := Nat.le_of_not_lt (of_decide_eq_false hbe)
  clear h
  go_enter Try.func7, Try.ntmps7
  go_wp2_with (first | (go_at_call 25; with_reducible refine (beyond1 n _ _ hn false hbe).mono ?_; rintro e wb ⟨rfl, hwb⟩; have HB0 := Lib.hid (show Below w.heap.size w wb from hwb ▸ alloc_below w _); clear hwb) | (go_at_call 11; (with_reducible refine (Win.new_ok wd _ ha.1 ha.2).mono ?_); rintro e w1 ⟨rfl, hw, hz, hb⟩; have Kx11 := Lib.hid hw; have Z1 := Lib.hid hz; have HB1 := Lib.hid (kbt HB0.out hb); clear hw hz hb) | (go_at_call 26; (with_reducible refine (Win.rnew_ok wd _ ha.1 ha.2).mono ?_); rintro e w2 ⟨rfl, hw, hz, hb⟩; have Kx22 := Lib.hid hw; have Z2 := Lib.hid hz; have HB2 := Lib.hid (kbt HB1.out hb); have Kx12 := Lib.hid (fun B => win_below (Kx11.out B) hb); clear hw hz hb) | (go_at_call 11; (with_reducible refine (Win.new_ok we _ hb.1 hb.2).mono ?_); rintro e w3 ⟨rfl, hw, hz, hb⟩; have Kx33 := Lib.hid hw; have Z3 := Lib.hid hz; have HB3 := Lib.hid (kbt HB2.out hb); have Kx13 := Lib.hid (fun B => win_below (Kx12.out B) hb); have Kx23 := Lib.hid (fun B => ref_below (Kx22.out B) hb); clear hw hz hb) | (go_at_call 26; (with_reducible refine (Win.rnew_ok we _ hb.1 hb.2).mono ?_); rintro e w4 ⟨rfl, hw, hz, hb⟩; have Kx44 := Lib.hid hw; have Z4 := Lib.hid hz; have HB4 := Lib.hid (kbt HB3.out hb); have Kx14 := Lib.hid (fun B => win_below (Kx13.out B) hb); have Kx24 := Lib.hid (fun B => ref_below (Kx23.out B) hb); have Kx34 := Lib.hid (fun B => win_below (Kx33.out B) hb); clear hw hz hb))
  have HI0 := Lib.hid (show Inv2 w w4 wb.heap.size w1.heap.size w2.heap.size w3.heap.size w4.heap.size wd we 0 0 by
    have zz1 := Z1.out; have zz2 := Z2.out; have zz3 := Z3.out; have zz4 := Z4.out
    have s0 := HB0.out.size
    obtain ⟨F, f1, f2⟩ := pair_new (g := wb.heap.size) (r := w1.heap.size) (Kx14.out w4.heap.size) (Kx24.out w4.heap.size) (by omega) ha.1 ha.2
    obtain ⟨G, g1, g2⟩ := pair_new (g := w2.heap.size) (r := w3.heap.size) (Kx34.out w4.heap.size) (Kx44.out w4.heap.size) (by omega) hb.1 hb.2
    exact ⟨F, G, f1, g1, fun x hx hg => by rcases f2 x hx with e | e <;> rcases g2 x hg with e' | e' <;> omega, fun x hx => by rcases f2 x hx with e | e <;> omega, fun x hx => by rcases g2 x hx with e | e <;> omega, HB4.out⟩)
  go_loopw [15] (fun i wr => ∃ k : Nat, k ≤ n ∧ i = .int .i64 k ∧ Hid (Inv2 w wr wb.heap.size w1.heap.size w2.heap.size w3.heap.size w4.heap.size wd we k k)) (fun i _ => n - (intOf i).toNat)
  case atStart => exact ⟨0, Nat.zero_le _, rfl, HI0⟩
  case round =>
    obtain ⟨k, hk, rfl, HI⟩ := hrel
    by_cases hlt : k < n
    · obtain ⟨ad, x, rfl, hx0, hla⟩ := at_op H.out hlt
      have HLA := Lib.hid hla
      have lo := HLA.out _ (HI.out.bel)
      have hk2 : k ≤ 1048576 := by omega
      clear hla hx0
      go_wp2_with (first | (go_at_call 27; (with_reducible refine (does_2 HI.out x.k x.t x.n hk2).mono ?_); rintro e w5 ⟨rfl, hi⟩; have HI5 := Lib.hid hi; have lo5 := HLA.out _ hi.bel; clear hi) | (go_at_call 27; (with_reducible refine (does_2' HI5.out x.k x.t x.n hk2).mono ?_); rintro e w6 ⟨rfl, hi⟩; have HI6 := Lib.hid hi; clear hi))
      go_roundw
      case rel => exact ⟨k + 1, by omega, by go_num, HI6⟩
      case measure => simp [intOf]; omega
    · obtain rfl : k = n := by omega
      go_wp2_with (first | (go_at_call 13; with_reducible refine (alive_c _).mono ?_; rintro e w9 ⟨rfl, hb9⟩; have HB9 := Lib.hid (kbt (HI.out.bel) hb9); clear hb9))
      go_ret
      exact ⟨rfl, HB9.out⟩
set_option maxHeartbeats 8000000 in
theorem pl_tf (wd we : Int) (xs : List Opp) (A : Option Addr) (n c : Nat) (w : World) (h : Recs w 3 A n (xs.map Opp.list)) (hn : n ≤ 140737488351232) (hbe : decide (1048576 < n) = false) (ha : 1 ≤ wd ∧ wd ≤ 1048576) (hb : we < 1 ∨ 1048576 < we) :
    Calls Try.prog 7 #[.int .i64 wd, .int .i64 we, .slice A n c] w fun e w' => e = .returned (.bool true) ∧ Below w.heap.size w w' := by
  have H := Lib.hid h
  have hn2 : n ≤ 1048576 := Nat.le_of_not_lt (of_decide_eq_false hbe)
  clear h
  go_enter Try.func7, Try.ntmps7
  go_wp2_with (first | (go_at_call 25; with_reducible refine (beyond1 n _ _ hn false hbe).mono ?_; rintro e wb ⟨rfl, hwb⟩; have HB0 := Lib.hid (show Below w.heap.size w wb from hwb ▸ alloc_below w _); clear hwb) | (go_at_call 11; (with_reducible refine (Win.new_ok wd _ ha.1 ha.2).mono ?_); rintro e w1 ⟨rfl, hw, hz, hb⟩; have Kx11 := Lib.hid hw; have Z1 := Lib.hid hz; have HB1 := Lib.hid (kbt HB0.out hb); clear hw hz hb) | (go_at_call 26; (with_reducible refine (Win.rnew_ok wd _ ha.1 ha.2).mono ?_); rintro e w2 ⟨rfl, hw, hz, hb⟩; have Kx22 := Lib.hid hw; have Z2 := Lib.hid hz; have HB2 := Lib.hid (kbt HB1.out hb); have Kx12 := Lib.hid (fun B => win_below (Kx11.out B) hb); clear hw hz hb) | (go_at_call 11; (with_reducible refine (Win.new_no we _ hb).mono ?_); rintro e w' ⟨rfl, rfl⟩) | (go_at_call 26; (with_reducible refine (Win.rnew_no we _ hb).mono ?_); rintro e w' ⟨rfl, rfl⟩))
  have HI0 := Lib.hid (show Inv1 w w2 wb.heap.size w1.heap.size w2.heap.size wd 0 by
    have zz1 := Z1.out; have zz2 := Z2.out
    have s0 := HB0.out.size
    obtain ⟨F, f1, f2⟩ := pair_new (g := wb.heap.size) (r := w1.heap.size) (Kx12.out w2.heap.size) (Kx22.out w2.heap.size) (by omega) ha.1 ha.2
    exact ⟨F, f1, fun x hx => by rcases f2 x hx with e | e <;> omega, HB2.out⟩)
  go_loopw [15] (fun i wr => ∃ k : Nat, k ≤ n ∧ i = .int .i64 k ∧ Hid (Inv1 w wr wb.heap.size w1.heap.size w2.heap.size wd k)) (fun i _ => n - (intOf i).toNat)
  case atStart => exact ⟨0, Nat.zero_le _, rfl, HI0⟩
  case round =>
    obtain ⟨k, hk, rfl, HI⟩ := hrel
    by_cases hlt : k < n
    · obtain ⟨ad, x, rfl, hx0, hla⟩ := at_op H.out hlt
      have HLA := Lib.hid hla
      have lo := HLA.out _ (HI.out.bel)
      have hk2 : k ≤ 1048576 := by omega
      clear hla hx0
      go_wp2_with (first | (go_at_call 27; (with_reducible refine (does_1 HI.out x.k x.t x.n hk2).mono ?_); rintro e w5 ⟨rfl, hi⟩; have HI5 := Lib.hid hi; clear hi))
      go_roundw
      case rel => exact ⟨k + 1, by omega, by go_num, HI5⟩
      case measure => simp [intOf]; omega
    · obtain rfl : k = n := by omega
      go_wp2_with (first | (go_at_call 13; with_reducible refine (alive_c _).mono ?_; rintro e w9 ⟨rfl, hb9⟩; have HB9 := Lib.hid (kbt (HI.out.bel) hb9); clear hb9))
      go_ret
      exact ⟨rfl, HB9.out⟩
set_option maxHeartbeats 8000000 in
theorem pl_ft (wd we : Int) (xs : List Opp) (A : Option Addr) (n c : Nat) (w : World) (h : Recs w 3 A n (xs.map Opp.list)) (hn : n ≤ 140737488351232) (hbe : decide (1048576 < n) = false) (ha : wd < 1 ∨ 1048576 < wd) (hb : 1 ≤ we ∧ we ≤ 1048576) :
    Calls Try.prog 7 #[.int .i64 wd, .int .i64 we, .slice A n c] w fun e w' => e = .returned (.bool true) ∧ Below w.heap.size w w' := by
  have H := Lib.hid h
  have hn2 : n ≤ 1048576 := Nat.le_of_not_lt (of_decide_eq_false hbe)
  clear h
  go_enter Try.func7, Try.ntmps7
  go_wp2_with (first | (go_at_call 25; with_reducible refine (beyond1 n _ _ hn false hbe).mono ?_; rintro e wb ⟨rfl, hwb⟩; have HB0 := Lib.hid (show Below w.heap.size w wb from hwb ▸ alloc_below w _); clear hwb) | (go_at_call 11; (with_reducible refine (Win.new_no wd _ ha).mono ?_); rintro e w' ⟨rfl, rfl⟩) | (go_at_call 26; (with_reducible refine (Win.rnew_no wd _ ha).mono ?_); rintro e w' ⟨rfl, rfl⟩) | (go_at_call 11; (with_reducible refine (Win.new_ok we _ hb.1 hb.2).mono ?_); rintro e w1 ⟨rfl, hw, hz, hb⟩; have Kx11 := Lib.hid hw; have Z1 := Lib.hid hz; have HB1 := Lib.hid (kbt HB0.out hb); clear hw hz hb) | (go_at_call 26; (with_reducible refine (Win.rnew_ok we _ hb.1 hb.2).mono ?_); rintro e w2 ⟨rfl, hw, hz, hb⟩; have Kx22 := Lib.hid hw; have Z2 := Lib.hid hz; have HB2 := Lib.hid (kbt HB1.out hb); have Kx12 := Lib.hid (fun B => win_below (Kx11.out B) hb); clear hw hz hb))
  have HI0 := Lib.hid (show Inv1 w w2 wb.heap.size w1.heap.size w2.heap.size we 0 by
    have zz1 := Z1.out; have zz2 := Z2.out
    have s0 := HB0.out.size
    obtain ⟨F, f1, f2⟩ := pair_new (g := wb.heap.size) (r := w1.heap.size) (Kx12.out w2.heap.size) (Kx22.out w2.heap.size) (by omega) hb.1 hb.2
    exact ⟨F, f1, fun x hx => by rcases f2 x hx with e | e <;> omega, HB2.out⟩)
  go_loopw [15] (fun i wr => ∃ k : Nat, k ≤ n ∧ i = .int .i64 k ∧ Hid (Inv1 w wr wb.heap.size w1.heap.size w2.heap.size we k)) (fun i _ => n - (intOf i).toNat)
  case atStart => exact ⟨0, Nat.zero_le _, rfl, HI0⟩
  case round =>
    obtain ⟨k, hk, rfl, HI⟩ := hrel
    by_cases hlt : k < n
    · obtain ⟨ad, x, rfl, hx0, hla⟩ := at_op H.out hlt
      have HLA := Lib.hid hla
      have lo := HLA.out _ (HI.out.bel)
      have hk2 : k ≤ 1048576 := by omega
      clear hla hx0
      go_wp2_with (first | (go_at_call 27; (with_reducible refine (does_1 HI.out x.k x.t x.n hk2).mono ?_); rintro e w5 ⟨rfl, hi⟩; have HI5 := Lib.hid hi; clear hi))
      go_roundw
      case rel => exact ⟨k + 1, by omega, by go_num, HI5⟩
      case measure => simp [intOf]; omega
    · obtain rfl : k = n := by omega
      go_wp2_with (first | (go_at_call 13; with_reducible refine (alive_c _).mono ?_; rintro e w9 ⟨rfl, hb9⟩; have HB9 := Lib.hid (kbt (HI.out.bel) hb9); clear hb9))
      go_ret
      exact ⟨rfl, HB9.out⟩
set_option maxHeartbeats 8000000 in
theorem pl_ff (wd we : Int) (xs : List Opp) (A : Option Addr) (n c : Nat) (w : World) (h : Recs w 3 A n (xs.map Opp.list)) (hn : n ≤ 140737488351232) (hbe : decide (1048576 < n) = false) (ha : wd < 1 ∨ 1048576 < wd) (hb : we < 1 ∨ 1048576 < we) :
    Calls Try.prog 7 #[.int .i64 wd, .int .i64 we, .slice A n c] w fun e w' => e = .returned (.bool true) ∧ Below w.heap.size w w' := by
  have H := Lib.hid h
  have hn2 : n ≤ 1048576 := Nat.le_of_not_lt (of_decide_eq_false hbe)
  clear h
  go_enter Try.func7, Try.ntmps7
  go_wp2_with (first | (go_at_call 25; with_reducible refine (beyond1 n _ _ hn false hbe).mono ?_; rintro e wb ⟨rfl, hwb⟩; have HB0 := Lib.hid (show Below w.heap.size w wb from hwb ▸ alloc_below w _); clear hwb) | (go_at_call 11; (with_reducible refine (Win.new_no wd _ ha).mono ?_); rintro e w' ⟨rfl, rfl⟩) | (go_at_call 26; (with_reducible refine (Win.rnew_no wd _ ha).mono ?_); rintro e w' ⟨rfl, rfl⟩) | (go_at_call 11; (with_reducible refine (Win.new_no we _ hb).mono ?_); rintro e w' ⟨rfl, rfl⟩) | (go_at_call 26; (with_reducible refine (Win.rnew_no we _ hb).mono ?_); rintro e w' ⟨rfl, rfl⟩))
  have HI0 := HB0
  go_loopw [15] (fun i wr => ∃ k : Nat, k ≤ n ∧ i = .int .i64 k ∧ Hid (Below w.heap.size w wr)) (fun i _ => n - (intOf i).toNat)
  case atStart => exact ⟨0, Nat.zero_le _, rfl, HI0⟩
  case round =>
    obtain ⟨k, hk, rfl, HI⟩ := hrel
    by_cases hlt : k < n
    · obtain ⟨ad, x, rfl, hx0, hla⟩ := at_op H.out hlt
      have HLA := Lib.hid hla
      have lo := HLA.out _ (HI.out)
      have hk2 : k ≤ 1048576 := by omega
      clear hla hx0
      go_wp2
      go_roundw
      case rel => exact ⟨k + 1, by omega, by go_num, HI⟩
      case measure => simp [intOf]; omega
    · obtain rfl : k = n := by omega
      go_wp2_with (first | (go_at_call 13; with_reducible refine (alive_c _).mono ?_; rintro e w9 ⟨rfl, hb9⟩; have HB9 := Lib.hid (kbt (HI.out) hb9); clear hb9))
      go_ret
      exact ⟨rfl, HB9.out⟩
/-- The law. -/
theorem plays (wd we : Int) (xs : List Opp) (A : Option Addr) (n c : Nat) (w : World) (h1 : (Lit.int .i64 wd).wf = true) (h2 : (Lit.int .i64 we).wf = true) (h : Recs w 3 A n (xs.map Opp.list)) (hc : n ≤ c) (hn : n ≤ 140737488351232) (hxs : ∀ x ∈ xs, x.wf) :
    Calls Try.prog 7 #[.int .i64 wd, .int .i64 we, .slice A n c] w fun e w' => e = .returned (.bool true) ∧ Below w.heap.size w w' := by
  cases hbe : decide (1048576 < n)
  · by_cases ha : 1 ≤ wd ∧ wd ≤ 1048576 <;> by_cases hb : 1 ≤ we ∧ we ≤ 1048576
    · exact pl_tt wd we xs A n c w h hn hbe ha hb
    · exact pl_tf wd we xs A n c w h hn hbe ha (by omega)
    · exact pl_ft wd we xs A n c w h hn hbe (by omega) hb
    · exact pl_ff wd we xs A n c w h hn hbe (by omega) (by omega)
  · exact pl_big wd we A n c w hn hbe
end Go.Proofs.Ythcjkdmlaahpbaa.Plays
