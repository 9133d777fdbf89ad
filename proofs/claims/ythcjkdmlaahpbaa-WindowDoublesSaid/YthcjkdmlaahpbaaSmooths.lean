/- The walk of WindowSmooths, and the law. -/
import Derived.Test.YthcjkdmlaahpbaaAdded
namespace Go.Proofs.Ythcjkdmlaahpbaa.Smooths
open Go.RowKit Go.Proofs.Ythcjkdmlaahpbaa.Aid Go.Proofs.Ythcjkdmlaahpbaa.Fl Go.Proofs.Ythcjkdmlaahpbaa.Mem Go.Proofs.Ythcjkdmlaahpbaa.Keep Go.Proofs.Ythcjkdmlaahpbaa.Round Go.Proofs.Ythcjkdmlaahpbaa.Smooth Go.Proofs.Ythcjkdmlaahpbaa.Added Go.Proofs.Ythcjkdmlaahpbaa.AliveN
set_option linter.unusedSimpArgs false
set_option linter.unusedVariables false
set_option maxRecDepth 100000
/-- A slice of floats that is read. -/
def Flts (w : World) (A : Option Addr) (n : Nat) (xs : List Nat) : Prop :=
  xs.length = n ∧ (0 < n → ∃ ad, A = some ad ∧ ∀ j x, xs[j]? = some x → w.cell? (ad.add j) = some (.float .f64 x))
theorem Flts.at_ {w : World} {A : Option Addr} {n : Nat} {xs : List Nat} (h : Flts w A n xs) {j : Nat} (hj : j < n) : ∃ ad x, A = some ad ∧ xs[j]? = some x ∧ w.cell? (ad.add j) = some (.float .f64 x) := by
  obtain ⟨ad, e, hc⟩ := h.2 (by omega)
  have hl : j < xs.length := by have := h.1; omega
  exact ⟨ad, xs[j], e, List.getElem?_eq_getElem hl, hc j _ (List.getElem?_eq_getElem hl)⟩
theorem Two.keep {W W' : World} {a r sh mn : Nat} {any : Bool} (h : Two W a r sh mn any) (hb : Below W.heap.size W W') : Two W' a r sh mn any := ⟨Blk.keep h.1 hb, Blk.keep h.2 hb⟩
theorem Two.chg {W W' : World} {a r b s sh mn : Nat} {any : Bool} (h : Two W b s sh mn any) (hc : Chg2 a r W W') (h1 : b ≠ a) (h2 : b ≠ r) (h3 : s ≠ a) (h4 : s ≠ r) : Two W' b s sh mn any := ⟨hc.blk h.1 h1 h2, hc.blk h.2 h3 h4⟩
theorem two_ex {W W' : World} {a r b s sh : Nat} (h : ∃ mn any, Two W b s sh mn any ∧ OkM mn any) (hc : Chg2 a r W W') (h1 : b ≠ a) (h2 : b ≠ r) (h3 : s ≠ a) (h4 : s ≠ r) : ∃ mn any, Two W' b s sh mn any ∧ OkM mn any := by
  obtain ⟨mn, any, k, ho⟩ := h
  exact ⟨mn, any, Two.chg k hc h1 h2 h3 h4, ho⟩
theorem ex0 {W : World} {a r sh : Nat} (h : Two W a r sh 0 false) : ∃ mn any, Two W a r sh mn any ∧ OkM mn any := ⟨0, false, h, .inl ⟨rfl, rfl⟩⟩
set_option maxHeartbeats 4000000 in
theorem sm_tt (share other : Nat) (xs : List Nat) (A : Option Addr) (n c : Nat) (w : World) (h : Flts w A n xs) (hn : n ≤ 140737488351232) (hxs : ∀ x ∈ xs, x < 18446744073709551616) (hsx : share < 18446744073709551616) (hox : other < 18446744073709551616) (hA : shareB share = true) (hB : shareB other = true) :
    Calls Try.prog 4 #[.float .f64 share, .float .f64 other, .slice A n c] w fun e w' => e = .returned (.bool true) ∧ Below w.heap.size w w' := by
  have H := Lib.hid h
  have HX := Lib.hid hxs
  clear h hxs
  go_enter Try.func4, Try.ntmps4
  go_wp2_with (first | (go_at_call 15; (with_reducible refine (Smooth.new_ok share _ hA).mono ?_); rintro e w1 ⟨rfl, hs1, hz, hb⟩; have S1 := Lib.hid hs1; have Z1 := Lib.hid hz; have B1 := Lib.hid hb; clear hs1 hz hb) | (go_at_call 16; (with_reducible refine (rnew_ok share _ hA).mono ?_); rintro e w2 ⟨rfl, hs2, hz, hb⟩; have TA2 := Lib.hid (show Two w2 w.heap.size w1.heap.size share 0 false from ⟨Blk.keep S1.out hb, hs2⟩); have Z2 := Lib.hid (show w2.heap.size = w.heap.size + 2 by rw [hz, Z1.out]); have B2 := Lib.hid (kbt B1.out hb); clear hs2 hz hb) | (go_at_call 15; (with_reducible refine (Smooth.new_ok other _ hB).mono ?_); rintro e w3 ⟨rfl, hs3, hz, hb⟩; have S3 := Lib.hid hs3; have Z3 := Lib.hid (show w3.heap.size = w.heap.size + 3 by rw [hz, Z2.out]); have TA3 := Lib.hid (Two.keep TA2.out hb); have B3 := Lib.hid (kbt B2.out hb); clear hs3 hz hb) | (go_at_call 16; (with_reducible refine (rnew_ok other _ hB).mono ?_); rintro e w4 ⟨rfl, hs4, hz, hb⟩; have TB4 := Lib.hid (show Two w4 w2.heap.size w3.heap.size other 0 false from ⟨Blk.keep S3.out hb, hs4⟩); have Z4 := Lib.hid (show w4.heap.size = w.heap.size + 4 by rw [hz, Z3.out]); have TA4 := Lib.hid (Two.keep TA3.out hb); have B4 := Lib.hid (kbt B3.out hb); clear hs4 hz hb))
  have neA : w.heap.size ≠ w1.heap.size := by have := Z1.out; omega
  have leA : w.heap.size ≤ w1.heap.size := by have := Z1.out; omega
  have neB : w2.heap.size ≠ w3.heap.size := by have zz1 := Z1.out; have zz2 := Z2.out; have zz3 := Z3.out; omega
  have leB1 : w.heap.size ≤ w2.heap.size := by have zz1 := Z1.out; have zz2 := Z2.out; have zz3 := Z3.out; omega
  have leB2 : w.heap.size ≤ w3.heap.size := by have zz1 := Z1.out; have zz2 := Z2.out; have zz3 := Z3.out; omega
  have ne1 : w2.heap.size ≠ w.heap.size := by have zz1 := Z1.out; have zz2 := Z2.out; have zz3 := Z3.out; omega
  have ne2 : w2.heap.size ≠ w1.heap.size := by have zz1 := Z1.out; have zz2 := Z2.out; have zz3 := Z3.out; omega
  have ne3 : w3.heap.size ≠ w.heap.size := by have zz1 := Z1.out; have zz2 := Z2.out; have zz3 := Z3.out; omega
  have ne4 : w3.heap.size ≠ w1.heap.size := by have zz1 := Z1.out; have zz2 := Z2.out; have zz3 := Z3.out; omega
  go_loopw [15] (fun i wr => ∃ k : Nat, k ≤ n ∧ i = .int .i64 k ∧ Hid (∃ mn any, Two wr w.heap.size w1.heap.size share mn any ∧ OkM mn any) ∧ Hid (∃ mn any, Two wr w2.heap.size w3.heap.size other mn any ∧ OkM mn any) ∧ Hid (Below w.heap.size w wr) ∧ Hid (w.heap.size + 4 ≤ wr.heap.size)) (fun i _ => n - (intOf i).toNat)
  case atStart => exact ⟨0, Nat.zero_le _, rfl, Lib.hid (ex0 TA4.out), Lib.hid (ex0 TB4.out), B4, Lib.hid (Nat.le_of_eq Z4.out.symm)⟩
  case round =>
    obtain ⟨k, hk, rfl, HA, HBB, HL, HZ⟩ := hrel
    obtain ⟨mnA, anyA, tA, oA⟩ := HA.out
    have TA := Lib.hid tA
    have OA := Lib.hid oA
    clear tA oA
    obtain ⟨mnB, anyB, tB, oB⟩ := HBB.out
    have TB := Lib.hid tB
    have OB := Lib.hid oB
    clear tB oB
    by_cases hlt : k < n
    · obtain ⟨ad, x, rfl, hx0, hc0⟩ := H.out.at_ hlt
      have hx := HX.out x (List.mem_of_getElem? hx0)
      obtain ⟨j, hj⟩ : ∃ j, j = n - 1 - k := ⟨_, rfl⟩
      have hjn : j < n := by omega
      obtain ⟨ad', y, e1, hy0, hd0⟩ := H.out.at_ hjn
      obtain rfl : ad = ad' := by simpa using e1
      have hy := HX.out y (List.mem_of_getElem? hy0)
      have hidx : (n : Int) - 1 - (k : Int) = (j : Int) := by omega
      have KC := Lib.hid (fun (W : World) (hb : Below w.heap.size w W) => show W.cell? (ad.add k) = some (.float .f64 x) from (hb.cell (World.block_lt_of_cell? w _ hc0)).trans hc0)
      have KD := Lib.hid (fun (W : World) (hb : Below w.heap.size w W) => show W.cell? (ad.add j) = some (.float .f64 y) from (hb.cell (World.block_lt_of_cell? w _ hd0)).trans hd0)
      have kc := KC.out _ HL.out
      have kd := KD.out _ HL.out
      clear e1 hx0 hy0 hc0 hd0 hj
      go_wp2_with (first | (go_at_call 17; (with_reducible refine (added_c _ w.heap.size w1.heap.size neA share hsx hA mnA anyA TA.out OA.out x hx).mono ?_); rintro e w5 ⟨rfl, ht, hc⟩; have HA5 := Lib.hid ht; have HL5 := Lib.hid (hc.below HL.out (Nat.le_refl _) leA (Nat.le_trans (Nat.le_add_right _ _) HZ.out)); have HZ5 := Lib.hid (Nat.le_trans HZ.out hc.size); have TB5 := Lib.hid (Two.chg TB.out hc ne1 ne2 ne3 ne4); have kd5 := KD.out _ HL5.out; clear ht hc) | (go_at_call 17; (with_reducible refine (added_c _ w2.heap.size w3.heap.size neB other hox hB mnB anyB TB5.out OB.out y hy).mono ?_); rintro e w6 ⟨rfl, ht, hc⟩; have HB6 := Lib.hid ht; have HL6 := Lib.hid (hc.below HL5.out leB1 leB2 (Nat.le_trans (Nat.le_add_right _ _) HZ5.out)); have HZ6 := Lib.hid (Nat.le_trans HZ5.out hc.size); have HA6 := Lib.hid (two_ex HA5.out hc ne1.symm ne3.symm ne2.symm ne4.symm); clear ht hc))
      go_roundw
      case rel => exact ⟨k + 1, by omega, by go_num, HA6, HB6, HL6, HZ6⟩
      case measure => simp [intOf]; omega
    · obtain rfl : k = n := by omega
      go_wp2_with (first | (go_at_call 18; (with_reducible refine (means_c _ w.heap.size w1.heap.size share mnA anyA TA.out OA.out).mono ?_); rintro e w' ⟨rfl, rfl⟩) | (go_at_call 18; (with_reducible refine (means_c _ w2.heap.size w3.heap.size other mnB anyB TB.out OB.out).mono ?_); rintro e w' ⟨rfl, rfl⟩) | (go_at_call 13; with_reducible refine (alive_c _).mono ?_; rintro e w9 ⟨rfl, hb⟩; have HB9 := Lib.hid (kbt HL.out hb); clear hb))
      go_ret
      exact ⟨rfl, HB9.out⟩
set_option maxHeartbeats 4000000 in
theorem sm_tf (share other : Nat) (xs : List Nat) (A : Option Addr) (n c : Nat) (w : World) (h : Flts w A n xs) (hn : n ≤ 140737488351232) (hxs : ∀ x ∈ xs, x < 18446744073709551616) (hsx : share < 18446744073709551616) (hox : other < 18446744073709551616) (hA : shareB share = true) (hB : shareB other = false) :
    Calls Try.prog 4 #[.float .f64 share, .float .f64 other, .slice A n c] w fun e w' => e = .returned (.bool true) ∧ Below w.heap.size w w' := by
  have H := Lib.hid h
  have HX := Lib.hid hxs
  clear h hxs
  go_enter Try.func4, Try.ntmps4
  go_wp2_with (first | (go_at_call 15; (with_reducible refine (Smooth.new_ok share _ hA).mono ?_); rintro e w1 ⟨rfl, hs1, hz, hb⟩; have S1 := Lib.hid hs1; have Z1 := Lib.hid hz; have B1 := Lib.hid hb; clear hs1 hz hb) | (go_at_call 16; (with_reducible refine (rnew_ok share _ hA).mono ?_); rintro e w2 ⟨rfl, hs2, hz, hb⟩; have TA2 := Lib.hid (show Two w2 w.heap.size w1.heap.size share 0 false from ⟨Blk.keep S1.out hb, hs2⟩); have Z2 := Lib.hid (show w2.heap.size = w.heap.size + 2 by rw [hz, Z1.out]); have B2 := Lib.hid (kbt B1.out hb); clear hs2 hz hb) | (go_at_call 15; (with_reducible refine (Smooth.new_no other _ hB).mono ?_); rintro e w' ⟨rfl, rfl⟩) | (go_at_call 16; (with_reducible refine (rnew_no other _ hB).mono ?_); rintro e w' ⟨rfl, rfl⟩))
  have neA : w.heap.size ≠ w1.heap.size := by have := Z1.out; omega
  have leA : w.heap.size ≤ w1.heap.size := by have := Z1.out; omega
  go_loopw [15] (fun i wr => ∃ k : Nat, k ≤ n ∧ i = .int .i64 k ∧ Hid (∃ mn any, Two wr w.heap.size w1.heap.size share mn any ∧ OkM mn any) ∧ Hid (Below w.heap.size w wr) ∧ Hid (w.heap.size + 2 ≤ wr.heap.size)) (fun i _ => n - (intOf i).toNat)
  case atStart => exact ⟨0, Nat.zero_le _, rfl, Lib.hid (ex0 TA2.out), B2, Lib.hid (Nat.le_of_eq Z2.out.symm)⟩
  case round =>
    obtain ⟨k, hk, rfl, HA, HL, HZ⟩ := hrel
    obtain ⟨mnA, anyA, tA, oA⟩ := HA.out
    have TA := Lib.hid tA
    have OA := Lib.hid oA
    clear tA oA
    by_cases hlt : k < n
    · obtain ⟨ad, x, rfl, hx0, hc0⟩ := H.out.at_ hlt
      have hx := HX.out x (List.mem_of_getElem? hx0)
      obtain ⟨j, hj⟩ : ∃ j, j = n - 1 - k := ⟨_, rfl⟩
      have hjn : j < n := by omega
      obtain ⟨ad', y, e1, hy0, hd0⟩ := H.out.at_ hjn
      obtain rfl : ad = ad' := by simpa using e1
      have hy := HX.out y (List.mem_of_getElem? hy0)
      have hidx : (n : Int) - 1 - (k : Int) = (j : Int) := by omega
      have KC := Lib.hid (fun (W : World) (hb : Below w.heap.size w W) => show W.cell? (ad.add k) = some (.float .f64 x) from (hb.cell (World.block_lt_of_cell? w _ hc0)).trans hc0)
      have KD := Lib.hid (fun (W : World) (hb : Below w.heap.size w W) => show W.cell? (ad.add j) = some (.float .f64 y) from (hb.cell (World.block_lt_of_cell? w _ hd0)).trans hd0)
      have kc := KC.out _ HL.out
      have kd := KD.out _ HL.out
      clear e1 hx0 hy0 hc0 hd0 hj
      go_wp2_with (first | (go_at_call 17; (with_reducible refine (added_c _ w.heap.size w1.heap.size neA share hsx hA mnA anyA TA.out OA.out x hx).mono ?_); rintro e w5 ⟨rfl, ht, hc⟩; have HA5 := Lib.hid ht; have HL5 := Lib.hid (hc.below HL.out (Nat.le_refl _) leA (Nat.le_trans (Nat.le_add_right _ _) HZ.out)); have HZ5 := Lib.hid (Nat.le_trans HZ.out hc.size); have kd5 := KD.out _ HL5.out; clear ht hc))
      go_roundw
      case rel => exact ⟨k + 1, by omega, by go_num, HA5, HL5, HZ5⟩
      case measure => simp [intOf]; omega
    · obtain rfl : k = n := by omega
      go_wp2_with (first | (go_at_call 18; (with_reducible refine (means_c _ w.heap.size w1.heap.size share mnA anyA TA.out OA.out).mono ?_); rintro e w' ⟨rfl, rfl⟩) | (go_at_call 13; with_reducible refine (alive_c _).mono ?_; rintro e w9 ⟨rfl, hb⟩; have HB9 := Lib.hid (kbt HL.out hb); clear hb))
      go_ret
      exact ⟨rfl, HB9.out⟩
set_option maxHeartbeats 4000000 in
theorem sm_ft (share other : Nat) (xs : List Nat) (A : Option Addr) (n c : Nat) (w : World) (h : Flts w A n xs) (hn : n ≤ 140737488351232) (hxs : ∀ x ∈ xs, x < 18446744073709551616) (hsx : share < 18446744073709551616) (hox : other < 18446744073709551616) (hA : shareB share = false) (hB : shareB other = true) :
    Calls Try.prog 4 #[.float .f64 share, .float .f64 other, .slice A n c] w fun e w' => e = .returned (.bool true) ∧ Below w.heap.size w w' := by
  have H := Lib.hid h
  have HX := Lib.hid hxs
  clear h hxs
  go_enter Try.func4, Try.ntmps4
  go_wp2_with (first | (go_at_call 15; (with_reducible refine (Smooth.new_no share _ hA).mono ?_); rintro e w' ⟨rfl, rfl⟩) | (go_at_call 16; (with_reducible refine (rnew_no share _ hA).mono ?_); rintro e w' ⟨rfl, rfl⟩) | (go_at_call 15; (with_reducible refine (Smooth.new_ok other _ hB).mono ?_); rintro e w3 ⟨rfl, hs3, hz, hb⟩; have S3 := Lib.hid hs3; have Z3 := Lib.hid (show w3.heap.size = w.heap.size + 1 by rw [hz]); have B3 := Lib.hid (kbt (Below.refl _ _) hb); clear hs3 hz hb) | (go_at_call 16; (with_reducible refine (rnew_ok other _ hB).mono ?_); rintro e w4 ⟨rfl, hs4, hz, hb⟩; have TB4 := Lib.hid (show Two w4 w.heap.size w3.heap.size other 0 false from ⟨Blk.keep S3.out hb, hs4⟩); have Z4 := Lib.hid (show w4.heap.size = w.heap.size + 2 by rw [hz, Z3.out]); have B4 := Lib.hid (kbt B3.out hb); clear hs4 hz hb))
  have neB : w.heap.size ≠ w3.heap.size := by have zz3 := Z3.out; omega
  have leB1 : w.heap.size ≤ w.heap.size := by have zz3 := Z3.out; omega
  have leB2 : w.heap.size ≤ w3.heap.size := by have zz3 := Z3.out; omega
  go_loopw [15] (fun i wr => ∃ k : Nat, k ≤ n ∧ i = .int .i64 k ∧ Hid (∃ mn any, Two wr w.heap.size w3.heap.size other mn any ∧ OkM mn any) ∧ Hid (Below w.heap.size w wr) ∧ Hid (w.heap.size + 2 ≤ wr.heap.size)) (fun i _ => n - (intOf i).toNat)
  case atStart => exact ⟨0, Nat.zero_le _, rfl, Lib.hid (ex0 TB4.out), B4, Lib.hid (Nat.le_of_eq Z4.out.symm)⟩
  case round =>
    obtain ⟨k, hk, rfl, HBB, HL, HZ⟩ := hrel
    obtain ⟨mnB, anyB, tB, oB⟩ := HBB.out
    have TB := Lib.hid tB
    have OB := Lib.hid oB
    clear tB oB
    by_cases hlt : k < n
    · obtain ⟨ad, x, rfl, hx0, hc0⟩ := H.out.at_ hlt
      have hx := HX.out x (List.mem_of_getElem? hx0)
      obtain ⟨j, hj⟩ : ∃ j, j = n - 1 - k := ⟨_, rfl⟩
      have hjn : j < n := by omega
      obtain ⟨ad', y, e1, hy0, hd0⟩ := H.out.at_ hjn
      obtain rfl : ad = ad' := by simpa using e1
      have hy := HX.out y (List.mem_of_getElem? hy0)
      have hidx : (n : Int) - 1 - (k : Int) = (j : Int) := by omega
      have KC := Lib.hid (fun (W : World) (hb : Below w.heap.size w W) => show W.cell? (ad.add k) = some (.float .f64 x) from (hb.cell (World.block_lt_of_cell? w _ hc0)).trans hc0)
      have KD := Lib.hid (fun (W : World) (hb : Below w.heap.size w W) => show W.cell? (ad.add j) = some (.float .f64 y) from (hb.cell (World.block_lt_of_cell? w _ hd0)).trans hd0)
      have kc := KC.out _ HL.out
      have kd := KD.out _ HL.out
      clear e1 hx0 hy0 hc0 hd0 hj
      go_wp2_with (first | (go_at_call 17; (with_reducible refine (added_c _ w.heap.size w3.heap.size neB other hox hB mnB anyB TB.out OB.out y hy).mono ?_); rintro e w6 ⟨rfl, ht, hc⟩; have HB6 := Lib.hid ht; have HL6 := Lib.hid (hc.below HL.out leB1 leB2 (Nat.le_trans (Nat.le_add_right _ _) HZ.out)); have HZ6 := Lib.hid (Nat.le_trans HZ.out hc.size); clear ht hc))
      go_roundw
      case rel => exact ⟨k + 1, by omega, by go_num, HB6, HL6, HZ6⟩
      case measure => simp [intOf]; omega
    · obtain rfl : k = n := by omega
      go_wp2_with (first | (go_at_call 18; (with_reducible refine (means_c _ w.heap.size w3.heap.size other mnB anyB TB.out OB.out).mono ?_); rintro e w' ⟨rfl, rfl⟩) | (go_at_call 13; with_reducible refine (alive_c _).mono ?_; rintro e w9 ⟨rfl, hb⟩; have HB9 := Lib.hid (kbt HL.out hb); clear hb))
      go_ret
      exact ⟨rfl, HB9.out⟩
set_option maxHeartbeats 4000000 in
theorem sm_ff (share other : Nat) (xs : List Nat) (A : Option Addr) (n c : Nat) (w : World) (h : Flts w A n xs) (hn : n ≤ 140737488351232) (hxs : ∀ x ∈ xs, x < 18446744073709551616) (hsx : share < 18446744073709551616) (hox : other < 18446744073709551616) (hA : shareB share = false) (hB : shareB other = false) :
    Calls Try.prog 4 #[.float .f64 share, .float .f64 other, .slice A n c] w fun e w' => e = .returned (.bool true) ∧ Below w.heap.size w w' := by
  have H := Lib.hid h
  have HX := Lib.hid hxs
  clear h hxs
  go_enter Try.func4, Try.ntmps4
  go_wp2_with (first | (go_at_call 15; (with_reducible refine (Smooth.new_no share _ hA).mono ?_); rintro e w' ⟨rfl, rfl⟩) | (go_at_call 16; (with_reducible refine (rnew_no share _ hA).mono ?_); rintro e w' ⟨rfl, rfl⟩) | (go_at_call 15; (with_reducible refine (Smooth.new_no other _ hB).mono ?_); rintro e w' ⟨rfl, rfl⟩) | (go_at_call 16; (with_reducible refine (rnew_no other _ hB).mono ?_); rintro e w' ⟨rfl, rfl⟩))
  go_loopw [15] (fun i wr => ∃ k : Nat, k ≤ n ∧ i = .int .i64 k ∧ Hid (Below w.heap.size w wr) ∧ Hid (w.heap.size + 0 ≤ wr.heap.size)) (fun i _ => n - (intOf i).toNat)
  case atStart => exact ⟨0, Nat.zero_le _, rfl, Lib.hid (Below.refl _ _), Lib.hid (by omega)⟩
  case round =>
    obtain ⟨k, hk, rfl, HL, HZ⟩ := hrel
    by_cases hlt : k < n
    · obtain ⟨ad, x, rfl, hx0, hc0⟩ := H.out.at_ hlt
      have hx := HX.out x (List.mem_of_getElem? hx0)
      obtain ⟨j, hj⟩ : ∃ j, j = n - 1 - k := ⟨_, rfl⟩
      have hjn : j < n := by omega
      obtain ⟨ad', y, e1, hy0, hd0⟩ := H.out.at_ hjn
      obtain rfl : ad = ad' := by simpa using e1
      have hy := HX.out y (List.mem_of_getElem? hy0)
      have hidx : (n : Int) - 1 - (k : Int) = (j : Int) := by omega
      have KC := Lib.hid (fun (W : World) (hb : Below w.heap.size w W) => show W.cell? (ad.add k) = some (.float .f64 x) from (hb.cell (World.block_lt_of_cell? w _ hc0)).trans hc0)
      have KD := Lib.hid (fun (W : World) (hb : Below w.heap.size w W) => show W.cell? (ad.add j) = some (.float .f64 y) from (hb.cell (World.block_lt_of_cell? w _ hd0)).trans hd0)
      have kc := KC.out _ HL.out
      have kd := KD.out _ HL.out
      clear e1 hx0 hy0 hc0 hd0 hj
      go_wp2
      go_roundw
      case rel => exact ⟨k + 1, by omega, by go_num, HL, HZ⟩
      case measure => simp [intOf]; omega
    · obtain rfl : k = n := by omega
      go_wp2_with (first | (go_at_call 13; with_reducible refine (alive_c _).mono ?_; rintro e w9 ⟨rfl, hb⟩; have HB9 := Lib.hid (kbt HL.out hb); clear hb))
      go_ret
      exact ⟨rfl, HB9.out⟩
theorem wf_lt {x : Nat} (h : (Lit.float .f64 x).wf = true) : x < 18446744073709551616 := by
  simpa [Lit.wf] using h
/-- The law. -/
theorem smooths (share other : Nat) (xs : List Nat) (A : Option Addr) (n c : Nat) (w : World) (h1 : (Lit.float .f64 share).wf = true) (h2 : (Lit.float .f64 other).wf = true) (h : Flts w A n xs) (hxs : ∀ x ∈ xs, (Lit.float .f64 x).wf = true) (hc : n ≤ c) (hn : n ≤ 140737488351232) :
    Calls Try.prog 4 #[.float .f64 share, .float .f64 other, .slice A n c] w fun e w' => e = .returned (.bool true) ∧ Below w.heap.size w w' := by
  have hx : ∀ x ∈ xs, x < 18446744073709551616 := fun x hx => wf_lt (hxs x hx)
  cases hA : shareB share <;> cases hB : shareB other
  · exact sm_ff share other xs A n c w h hn hx (wf_lt h1) (wf_lt h2) hA hB
  · exact sm_ft share other xs A n c w h hn hx (wf_lt h1) (wf_lt h2) hA hB
  · exact sm_tf share other xs A n c w h hn hx (wf_lt h1) (wf_lt h2) hA hB
  · exact sm_tt share other xs A n c w h hn hx (wf_lt h1) (wf_lt h2) hA hB
end Go.Proofs.Ythcjkdmlaahpbaa.Smooths
