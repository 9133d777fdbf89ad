/- The law NumOrder: a list that is gone through from another place on, and backwards, has the same sum; so have two parts of it. -/
import Derived.Test.YtdfjbghmeoephabParts
import Derived.Test.YtdfjbghmeoephabApp
namespace Go.Proofs.Ytdfjbghmeoephab.Order
open Go.RowKit Go.Proofs.Ytdfjbghmeoephab.Aid Go.Proofs.Ytdfjbghmeoephab.Nums Go.Proofs.Ytdfjbghmeoephab.Mem Go.Proofs.Ytdfjbghmeoephab.Sums Go.Proofs.Ytdfjbghmeoephab.Live Go.Proofs.Ytdfjbghmeoephab.Twin
set_option linter.unusedSimpArgs false

/-- The list from place k on, backwards. -/
def back (xs : List Int) (k : Nat) : List Int := (xs.take k).reverse ++ (xs.drop k).reverse
theorem back_len (xs : List Int) (k : Nat) : (back xs k).length = xs.length := by simp [back]; omega
theorem back_at {xs : List Int} {k n j : Nat} (hn : xs.length = n) (hk : k < n) (hj : j < n) : ∃ x, (back xs k)[j]? = some x ∧ xs[(k + n - 1 - j) % n]? = some x := by
  have h1 : (back xs k)[j]? = xs[(k + n - 1 - j) % n]? := by
    unfold back
    by_cases h : j < k
    · rw [List.getElem?_append_left (by simp; omega), List.getElem?_reverse (by simp; omega)]
      have e : (k + n - 1 - j) % n = k - 1 - j := by rw [show k + n - 1 - j = (k - 1 - j) + n by omega, Nat.add_mod_right, Nat.mod_eq_of_lt (by omega)]
      rw [e, List.length_take, List.getElem?_take_of_lt (by omega)]
      congr 1; omega
    · rw [List.getElem?_append_right (by simp; omega), List.getElem?_reverse (by simp; omega)]
      have e : (k + n - 1 - j) % n = k + n - 1 - j := Nat.mod_eq_of_lt (by omega)
      rw [e, List.getElem?_drop]
      simp only [List.length_drop, List.length_reverse, List.length_take]
      congr 1; omega
  have hlt : (k + n - 1 - j) % n < xs.length := by rw [hn]; exact Nat.mod_lt _ (by omega)
  exact ⟨_, h1.trans (List.getElem?_eq_getElem hlt), List.getElem?_eq_getElem hlt⟩
theorem back_sum (xs : List Int) (k : Nat) : sumB (back xs k) = sumB xs ∧ sumV (back xs k) = sumV xs := by
  have ht : tot (back xs k) = tot xs := by
    unfold back
    rw [tot_append, tot_reverse, tot_reverse, ← tot_append, List.take_append_drop]
  have ha : (back xs k).all isN = xs.all isN := by
    unfold back
    rw [List.all_append, List.all_reverse, List.all_reverse, ← List.all_append, List.take_append_drop]
  have hB : sumB (back xs k) = sumB xs := by unfold sumB; rw [ha, ht]
  exact ⟨hB, by unfold sumV; rw [hB, ht]⟩
theorem parts_sum {xs : List Int} {k : Nat} (h1 : sumB (xs.take k) = true) (h2 : sumB (xs.drop k) = true) :
    addV (sumV (xs.take k)) (sumV (xs.drop k)) = sumV xs ∧ addB (sumV (xs.take k)) (sumV (xs.drop k)) = sumB xs := by
  have e1 : sumV (xs.take k) = tot (xs.take k) := if_pos h1
  have e2 : sumV (xs.drop k) = tot (xs.drop k) := if_pos h2
  have ht : tot (xs.take k) + tot (xs.drop k) = tot xs := by rw [← tot_append, List.take_append_drop]
  unfold sumB at h1 h2
  simp only [Bool.and_eq_true] at h1 h2
  have ha : xs.all isN = true := by
    have : (xs.take k ++ xs.drop k).all isN = true := by rw [List.all_append, h1.1, h2.1]; rfl
    rwa [List.take_append_drop] at this
  have hB : addB (sumV (xs.take k)) (sumV (xs.drop k)) = sumB xs := by
    unfold addB sumB
    rw [e1, e2, h1.2, h2.2, ht, ha]; rfl
  refine ⟨?_, hB⟩
  unfold addV
  rw [hB]
  unfold sumV at e1 e2 ⊢
  rw [e1, e2, ht]
theorem infoInt' : (Try.prog.info? 3).map (fun i => (i.zero, i.size, i.bytes)) = some (some (.int .i64 0), 1, 8) := by kernel_rfl
theorem nums_snoc (k : IntKind) (xs : List Int) (j : Nat) (x : Int) (h : xs[j]? = some x) : nums k (xs.take (j + 1)) = nums k (xs.take j) ++ [.int k x] := by
  rw [take_snoc xs j x h]; simp [nums]
set_option maxHeartbeats 8000000 in
set_option maxRecDepth 100000 in
theorem walkNumOrder (xs : List Int) (A : Option Addr) (n c : Nat) (at_ : Int) (w : World) (h : Ints w .i64 A n xs) (hc : n ≤ c) (hb : n ≤ 17592186044416) (hat : (Lit.int .i64 at_).wf = true) :
    Calls Try.prog 6 #[.slice A n c, .int .i64 at_] w fun e w' => e = .returned (.bool true) ∧ Below w.heap.size w w' := by
  have H := Lib.hid h
  have HLen := Lib.hid h.1
  have HP : Hid (∀ x ∈ [(n : Int)], 0 ≤ x ∧ x ≤ 140737488355328) := by intro x hx; simp at hx; omega
  have e1 : tot [(n : Int)] = n := by simp [tot]
  have HAT := Lib.hid (wf64 hat)
  clear h hat
  by_cases hn : n ≤ 1048576
  · have hd : decide (1048576 < tot [(n : Int)]) = false := decide_eq_false (by omega)
    clear e1
    by_cases h0 : n = 0
    · subst h0
      have hx : xs = [] := List.eq_nil_of_length_eq_zero HLen.out
      subst hx
      have v1 : sumB [] = true := by decide
      have HP0 : Hid (∀ x ∈ [(0 : Int)], 0 ≤ x ∧ x ≤ 140737488355328) := by intro x hx; simp at hx; omega
      have d0 : decide (1048576 < tot [0]) = false := by decide
      clear hd
      have v2 : sumV [] = 0 := by decide
      go_enter Try.func6, Try.ntmps6
      go_wp2_with (first | (go_at_call 15; (with_reducible refine (alive_c _).mono ?_); rintro e w1 ⟨rfl, hB⟩; have HB1 := Lib.hid hB; clear hB) | (go_at_call 18; (with_reducible refine (beyond_c [0] _ 1 1 _ (box_reads _ _ _ _) HP0.out (by decide)).mono ?_); rintro e w' ⟨rfl, rfl⟩) | (go_at_call 20; (with_reducible refine (twin_c [] A 0 c _ _ rfl Ints.nil (by decide)).mono ?_); rintro e w3 ⟨rfl, hB, hL, hZ⟩; have HB3 := Lib.hid hB; have HL3 := Lib.hid hL; clear hB hL hZ) | (go_at_call 19; (with_reducible refine (sum_c [] _ 0 _ _ Ints.nil (by decide)).mono ?_); rintro e w' ⟨rfl, rfl⟩))
      go_ret
      exact ⟨rfl, HB1.out.trans (((Below.refl _ _).alloc HB1.out.size _).trans (HL3.out.mono (by have := HB1.out.size; simp; omega)))⟩
    · have n1 : 1 ≤ n := by omega
      have q0 : ((n : Int) == 0) = false := by simp; omega
      have e3 := tmod_small (a := at_) (b := (n : Int)) (by omega)
      have e2 : ∃ T : Int, Int.tmod at_ n = T ∧ -(n : Int) < T ∧ T < n := ⟨_, rfl, by omega, by omega⟩
      clear e3
      obtain ⟨T, et, t1, t2⟩ := e2
      obtain ⟨k, hk, hkT⟩ : ∃ k : Nat, k < n ∧ (k : Int) = if T < 0 then T + n else T := ⟨(if T < 0 then T + n else T).toNat, by split <;> omega, by split <;> omega⟩
      have HT := Lib.hid hkT
      have ek : T < 0 → T + (n : Int) = k := fun h => by rw [if_pos h] at hkT; omega
      have ek' : ¬ T < 0 → T = (k : Int) := fun h => by rw [if_neg h] at hkT; omega
      clear hkT
      obtain ⟨i0, hi, hz0, hz1, hz2⟩ := info_parts infoInt'
      have hcut0 := cut_from 29 3 Try.underlying29 hi hz1 A n c k (by omega)
      obtain ⟨A', hA', hcut⟩ := hcut0
      have HD : Hid (Ints w .i64 A' (n - k) (xs.drop k)) := by rw [hA']; exact H.out.drop (by omega) hc
      have HTk : Hid (Ints w .i64 A k (xs.take k)) := H.out.take (by omega)
      have HBL := Lib.hid (show (back xs k).length = n by rw [back_len]; exact HLen.out)
      obtain ⟨b1, b2⟩ := back_sum xs k
      have hk1 : k ≤ 1048576 := by omega
      have hk2 : n - k ≤ 1048576 := by omega
      have v1 : (sumV xs != sumV xs) = false := by simp
      have v2 : (sumB xs != sumB xs) = false := by simp
      have v3 : (sumV xs == sumV xs) = true := by simp
      have v4 : (sumB xs == sumB xs) = true := by simp
      clear hA' hi hz0 hz1 hz2
      by_cases hT0 : T < 0
      · have ekk := ek hT0
        clear ek ek'
        go_enter Try.func6, Try.ntmps6
        go_wp2_with (first | (go_at_call 15; (with_reducible refine (alive_c w).mono ?_); rintro e w1 ⟨rfl, hB⟩; have HB1 := Lib.hid hB; clear hB) | (go_at_call 18; (with_reducible refine (beyond_c [(n : Int)] _ 1 1 _ (box_reads _ _ _ _) HP.out (by decide)).mono ?_); rintro e w' ⟨rfl, rfl⟩) | (go_at_call 20; (with_reducible refine (twin_c xs A n c _ (w1.heap.size + 1) (size_alloc _ _) ((H.out.keep HB1.out).keep (alloc_below _ _)) hn).mono ?_); rintro e w3 ⟨rfl, hB, hL, hZ⟩; have HB3 := Lib.hid hB; have HL3 := Lib.hid hL; clear hB hL hZ) | (go_at_call 19; (with_reducible refine (sum_c xs _ n _ _ (twin_reads HB3.out HLen.out) hn).mono ?_); rintro e w' ⟨rfl, rfl⟩))
        have HLW := Lib.hid (show Below w.heap.size w w3 from HB1.out.trans ((alloc_below _ _ |>.mono HB1.out.size).trans (HL3.out.mono (by have := HB1.out.size; simp; omega))))
        clear HB3 HL3 HB1
        go_loopw [9, 10] (fun v i wr => ∃ j : Nat, j ≤ n ∧ i = .int .i64 j ∧ Hid (Own wr w.heap.size 3 1 v j (nums .i64 ((back xs k).take j))) ∧ Hid (Below w.heap.size w wr)) (fun _ i _ => n - (intOf i).toNat)
        case atStart => exact ⟨0, Nat.zero_le _, rfl, Own.nil _ _ _ _, HLW⟩
        case round =>
          obtain ⟨j, hj, rfl, HO, HB⟩ := hrel
          clear HLW
          by_cases hlt : j < n
          · obtain ⟨x, hx1, hx2⟩ := back_at (xs := xs) HLen.out hk hlt
            have hml : (k + n - 1 - j) % n < n := Nat.mod_lt _ (by omega)
            have em : ((k : Int) + n - 1 - j) % n = (((k + n - 1 - j) % n : Nat) : Int) := by push_cast; congr 1; omega
            have HX := Lib.hid hx1
            obtain ⟨ad, y, rfl, hy, hc0⟩ := H.out.at_ hml
            obtain rfl : y = x := by rw [hx2] at hy; injection hy with hy; exact hy.symm
            have hcl := (HB.out.cell (World.block_lt_of_cell? w _ hc0)).trans hc0
            generalize (k + n - 1 - j) % n = m at *
            have hbase : w.heap.size ≤ wr.heap.size := HB.out.size
            have hmx : j + 1 ≤ maxLen := by unfold maxLen; omega
            have hby : (j + 1) * 8 ≤ 140737488355328 := by omega
            have HBA := Lib.hid hbase
            have HMX := Lib.hid hmx
            have HBY := Lib.hid hby
            clear hx1 hx2 hy hc0 hbase hmx hby
            go_wp2_with (first | (at_builtin; (refine app_one (w0 := w) (W := wr) w.heap.size rfl _ _ 29 3 (.int .i64 0) 1 8 rfl Try.underlying29 infoInt' rfl (by decide) u9 j _ [.int .i64 y] rfl rfl rfl (one_int _ _) HO.out HB.out HBA.out HMX.out HBY.out ?_); intro v1 w9 hO hB _ _ _; have HO1 := Lib.hid hO; have HBW1 := Lib.hid hB; clear hO hB))
            go_roundw
            case rel => exact ⟨j + 1, by omega, by go_num, by rw [nums_snoc .i64 _ j y HX.out]; exact HO1, HBW1⟩
            case measure => simp [intOf]; omega
          · obtain rfl : n = j := by omega
            have htk : (back xs k).take n = back xs k := List.take_of_length_le (by have := HBL.out; omega)
            rw [htk] at HO
            obtain ⟨A9, c9, rfl, hI9⟩ := HO.out.ints
            have HI9 := Lib.hid hI9
            have HLk := Lib.hid (show (xs.take k).length = k by simp; have := HLen.out; omega)
            have HLd := Lib.hid (show (xs.drop k).length = n - k by simp; have := HLen.out; omega)
            clear hI9 htk
            by_cases g1 : sumB (xs.take k) = true
            · by_cases g2 : sumB (xs.drop k) = true
              · obtain ⟨p1, p2⟩ := parts_sum g1 g2
                go_wp2_with (first | (go_at_call 19; (with_reducible refine (sum_c (back xs k) A9 n c9 _ HI9.out hn).mono ?_); rintro e w' ⟨rfl, rfl⟩) | (go_at_call 20; (with_reducible refine (twin_c (xs.take k) A k c _ _ rfl (HTk.out.keep HB.out) hk1).mono ?_); rintro e w5 ⟨rfl, hB, hL, hZ⟩; have HB5 := Lib.hid hB; have HL5 := Lib.hid hL; clear hB hL hZ) | (go_at_call 19; (with_reducible refine (sum_c (xs.take k) _ k _ _ (twin_reads HB5.out HLk.out) hk1).mono ?_); rintro e w' ⟨rfl, rfl⟩) | (go_at_call 20; (with_reducible refine (twin_c (xs.drop k) A' (n - k) (c - k) _ _ rfl ((HD.out.keep HB.out).keep HL5.out) hk2).mono ?_); rintro e w6 ⟨rfl, hB, hL, hZ⟩; have HB6 := Lib.hid hB; have HL6 := Lib.hid hL; clear hB hL hZ) | (go_at_call 19; (with_reducible refine (sum_c (xs.drop k) _ (n - k) _ _ (twin_reads HB6.out HLd.out) hk2).mono ?_); rintro e w' ⟨rfl, rfl⟩) | (go_at_call 14; (with_reducible refine (add_c (sumV (xs.take k)) (sumV (xs.drop k)) _).mono ?_); rintro e w' ⟨rfl, rfl⟩))
                go_ret
                exact ⟨rfl, (HB.out.trans (HL5.out.mono HB.out.size)).trans (HL6.out.mono (Nat.le_trans HB.out.size HL5.out.size))⟩
              · have g2 := Bool.eq_false_iff.2 g2
                go_wp2_with (first | (go_at_call 19; (with_reducible refine (sum_c (back xs k) A9 n c9 _ HI9.out hn).mono ?_); rintro e w' ⟨rfl, rfl⟩) | (go_at_call 20; (with_reducible refine (twin_c (xs.take k) A k c _ _ rfl (HTk.out.keep HB.out) hk1).mono ?_); rintro e w5 ⟨rfl, hB, hL, hZ⟩; have HB5 := Lib.hid hB; have HL5 := Lib.hid hL; clear hB hL hZ) | (go_at_call 19; (with_reducible refine (sum_c (xs.take k) _ k _ _ (twin_reads HB5.out HLk.out) hk1).mono ?_); rintro e w' ⟨rfl, rfl⟩) | (go_at_call 20; (with_reducible refine (twin_c (xs.drop k) A' (n - k) (c - k) _ _ rfl ((HD.out.keep HB.out).keep HL5.out) hk2).mono ?_); rintro e w6 ⟨rfl, hB, hL, hZ⟩; have HB6 := Lib.hid hB; have HL6 := Lib.hid hL; clear hB hL hZ) | (go_at_call 19; (with_reducible refine (sum_c (xs.drop k) _ (n - k) _ _ (twin_reads HB6.out HLd.out) hk2).mono ?_); rintro e w' ⟨rfl, rfl⟩) | (go_at_call 14; (with_reducible refine (add_c (sumV (xs.take k)) (sumV (xs.drop k)) _).mono ?_); rintro e w' ⟨rfl, rfl⟩))
                go_ret
                exact ⟨rfl, (HB.out.trans (HL5.out.mono HB.out.size)).trans (HL6.out.mono (Nat.le_trans HB.out.size HL5.out.size))⟩
            · have g1 := Bool.eq_false_iff.2 g1
              go_wp2_with (first | (go_at_call 19; (with_reducible refine (sum_c (back xs k) A9 n c9 _ HI9.out hn).mono ?_); rintro e w' ⟨rfl, rfl⟩) | (go_at_call 20; (with_reducible refine (twin_c (xs.take k) A k c _ _ rfl (HTk.out.keep HB.out) hk1).mono ?_); rintro e w5 ⟨rfl, hB, hL, hZ⟩; have HB5 := Lib.hid hB; have HL5 := Lib.hid hL; clear hB hL hZ) | (go_at_call 19; (with_reducible refine (sum_c (xs.take k) _ k _ _ (twin_reads HB5.out HLk.out) hk1).mono ?_); rintro e w' ⟨rfl, rfl⟩) | (go_at_call 20; (with_reducible refine (twin_c (xs.drop k) A' (n - k) (c - k) _ _ rfl ((HD.out.keep HB.out).keep HL5.out) hk2).mono ?_); rintro e w6 ⟨rfl, hB, hL, hZ⟩; have HB6 := Lib.hid hB; have HL6 := Lib.hid hL; clear hB hL hZ) | (go_at_call 19; (with_reducible refine (sum_c (xs.drop k) _ (n - k) _ _ (twin_reads HB6.out HLd.out) hk2).mono ?_); rintro e w' ⟨rfl, rfl⟩) | (go_at_call 14; (with_reducible refine (add_c (sumV (xs.take k)) (sumV (xs.drop k)) _).mono ?_); rintro e w' ⟨rfl, rfl⟩))
              go_ret
              exact ⟨rfl, (HB.out.trans (HL5.out.mono HB.out.size)).trans (HL6.out.mono (Nat.le_trans HB.out.size HL5.out.size))⟩
      · obtain rfl : T = (k : Int) := ek' hT0
        clear ek ek'
        go_enter Try.func6, Try.ntmps6
        go_wp2_with (first | (go_at_call 15; (with_reducible refine (alive_c w).mono ?_); rintro e w1 ⟨rfl, hB⟩; have HB1 := Lib.hid hB; clear hB) | (go_at_call 18; (with_reducible refine (beyond_c [(n : Int)] _ 1 1 _ (box_reads _ _ _ _) HP.out (by decide)).mono ?_); rintro e w' ⟨rfl, rfl⟩) | (go_at_call 20; (with_reducible refine (twin_c xs A n c _ (w1.heap.size + 1) (size_alloc _ _) ((H.out.keep HB1.out).keep (alloc_below _ _)) hn).mono ?_); rintro e w3 ⟨rfl, hB, hL, hZ⟩; have HB3 := Lib.hid hB; have HL3 := Lib.hid hL; clear hB hL hZ) | (go_at_call 19; (with_reducible refine (sum_c xs _ n _ _ (twin_reads HB3.out HLen.out) hn).mono ?_); rintro e w' ⟨rfl, rfl⟩))
        have HLW := Lib.hid (show Below w.heap.size w w3 from HB1.out.trans ((alloc_below _ _ |>.mono HB1.out.size).trans (HL3.out.mono (by have := HB1.out.size; simp; omega))))
        clear HB3 HL3 HB1
        go_loopw [9, 10] (fun v i wr => ∃ j : Nat, j ≤ n ∧ i = .int .i64 j ∧ Hid (Own wr w.heap.size 3 1 v j (nums .i64 ((back xs k).take j))) ∧ Hid (Below w.heap.size w wr)) (fun _ i _ => n - (intOf i).toNat)
        case atStart => exact ⟨0, Nat.zero_le _, rfl, Own.nil _ _ _ _, HLW⟩
        case round =>
          obtain ⟨j, hj, rfl, HO, HB⟩ := hrel
          clear HLW
          by_cases hlt : j < n
          · obtain ⟨x, hx1, hx2⟩ := back_at (xs := xs) HLen.out hk hlt
            have hml : (k + n - 1 - j) % n < n := Nat.mod_lt _ (by omega)
            have em : ((k : Int) + n - 1 - j) % n = (((k + n - 1 - j) % n : Nat) : Int) := by push_cast; congr 1; omega
            have HX := Lib.hid hx1
            obtain ⟨ad, y, rfl, hy, hc0⟩ := H.out.at_ hml
            obtain rfl : y = x := by rw [hx2] at hy; injection hy with hy; exact hy.symm
            have hcl := (HB.out.cell (World.block_lt_of_cell? w _ hc0)).trans hc0
            generalize (k + n - 1 - j) % n = m at *
            have hbase : w.heap.size ≤ wr.heap.size := HB.out.size
            have hmx : j + 1 ≤ maxLen := by unfold maxLen; omega
            have hby : (j + 1) * 8 ≤ 140737488355328 := by omega
            have HBA := Lib.hid hbase
            have HMX := Lib.hid hmx
            have HBY := Lib.hid hby
            clear hx1 hx2 hy hc0 hbase hmx hby
            go_wp2_with (first | (at_builtin; (refine app_one (w0 := w) (W := wr) w.heap.size rfl _ _ 29 3 (.int .i64 0) 1 8 rfl Try.underlying29 infoInt' rfl (by decide) u9 j _ [.int .i64 y] rfl rfl rfl (one_int _ _) HO.out HB.out HBA.out HMX.out HBY.out ?_); intro v1 w9 hO hB _ _ _; have HO1 := Lib.hid hO; have HBW1 := Lib.hid hB; clear hO hB))
            go_roundw
            case rel => exact ⟨j + 1, by omega, by go_num, by rw [nums_snoc .i64 _ j y HX.out]; exact HO1, HBW1⟩
            case measure => simp [intOf]; omega
          · obtain rfl : n = j := by omega
            have htk : (back xs k).take n = back xs k := List.take_of_length_le (by have := HBL.out; omega)
            rw [htk] at HO
            obtain ⟨A9, c9, rfl, hI9⟩ := HO.out.ints
            have HI9 := Lib.hid hI9
            have HLk := Lib.hid (show (xs.take k).length = k by simp; have := HLen.out; omega)
            have HLd := Lib.hid (show (xs.drop k).length = n - k by simp; have := HLen.out; omega)
            clear hI9 htk
            by_cases g1 : sumB (xs.take k) = true
            · by_cases g2 : sumB (xs.drop k) = true
              · obtain ⟨p1, p2⟩ := parts_sum g1 g2
                go_wp2_with (first | (go_at_call 19; (with_reducible refine (sum_c (back xs k) A9 n c9 _ HI9.out hn).mono ?_); rintro e w' ⟨rfl, rfl⟩) | (go_at_call 20; (with_reducible refine (twin_c (xs.take k) A k c _ _ rfl (HTk.out.keep HB.out) hk1).mono ?_); rintro e w5 ⟨rfl, hB, hL, hZ⟩; have HB5 := Lib.hid hB; have HL5 := Lib.hid hL; clear hB hL hZ) | (go_at_call 19; (with_reducible refine (sum_c (xs.take k) _ k _ _ (twin_reads HB5.out HLk.out) hk1).mono ?_); rintro e w' ⟨rfl, rfl⟩) | (go_at_call 20; (with_reducible refine (twin_c (xs.drop k) A' (n - k) (c - k) _ _ rfl ((HD.out.keep HB.out).keep HL5.out) hk2).mono ?_); rintro e w6 ⟨rfl, hB, hL, hZ⟩; have HB6 := Lib.hid hB; have HL6 := Lib.hid hL; clear hB hL hZ) | (go_at_call 19; (with_reducible refine (sum_c (xs.drop k) _ (n - k) _ _ (twin_reads HB6.out HLd.out) hk2).mono ?_); rintro e w' ⟨rfl, rfl⟩) | (go_at_call 14; (with_reducible refine (add_c (sumV (xs.take k)) (sumV (xs.drop k)) _).mono ?_); rintro e w' ⟨rfl, rfl⟩))
                go_ret
                exact ⟨rfl, (HB.out.trans (HL5.out.mono HB.out.size)).trans (HL6.out.mono (Nat.le_trans HB.out.size HL5.out.size))⟩
              · have g2 := Bool.eq_false_iff.2 g2
                go_wp2_with (first | (go_at_call 19; (with_reducible refine (sum_c (back xs k) A9 n c9 _ HI9.out hn).mono ?_); rintro e w' ⟨rfl, rfl⟩) | (go_at_call 20; (with_reducible refine (twin_c (xs.take k) A k c _ _ rfl (HTk.out.keep HB.out) hk1).mono ?_); rintro e w5 ⟨rfl, hB, hL, hZ⟩; have HB5 := Lib.hid hB; have HL5 := Lib.hid hL; clear hB hL hZ) | (go_at_call 19; (with_reducible refine (sum_c (xs.take k) _ k _ _ (twin_reads HB5.out HLk.out) hk1).mono ?_); rintro e w' ⟨rfl, rfl⟩) | (go_at_call 20; (with_reducible refine (twin_c (xs.drop k) A' (n - k) (c - k) _ _ rfl ((HD.out.keep HB.out).keep HL5.out) hk2).mono ?_); rintro e w6 ⟨rfl, hB, hL, hZ⟩; have HB6 := Lib.hid hB; have HL6 := Lib.hid hL; clear hB hL hZ) | (go_at_call 19; (with_reducible refine (sum_c (xs.drop k) _ (n - k) _ _ (twin_reads HB6.out HLd.out) hk2).mono ?_); rintro e w' ⟨rfl, rfl⟩) | (go_at_call 14; (with_reducible refine (add_c (sumV (xs.take k)) (sumV (xs.drop k)) _).mono ?_); rintro e w' ⟨rfl, rfl⟩))
                go_ret
                exact ⟨rfl, (HB.out.trans (HL5.out.mono HB.out.size)).trans (HL6.out.mono (Nat.le_trans HB.out.size HL5.out.size))⟩
            · have g1 := Bool.eq_false_iff.2 g1
              go_wp2_with (first | (go_at_call 19; (with_reducible refine (sum_c (back xs k) A9 n c9 _ HI9.out hn).mono ?_); rintro e w' ⟨rfl, rfl⟩) | (go_at_call 20; (with_reducible refine (twin_c (xs.take k) A k c _ _ rfl (HTk.out.keep HB.out) hk1).mono ?_); rintro e w5 ⟨rfl, hB, hL, hZ⟩; have HB5 := Lib.hid hB; have HL5 := Lib.hid hL; clear hB hL hZ) | (go_at_call 19; (with_reducible refine (sum_c (xs.take k) _ k _ _ (twin_reads HB5.out HLk.out) hk1).mono ?_); rintro e w' ⟨rfl, rfl⟩) | (go_at_call 20; (with_reducible refine (twin_c (xs.drop k) A' (n - k) (c - k) _ _ rfl ((HD.out.keep HB.out).keep HL5.out) hk2).mono ?_); rintro e w6 ⟨rfl, hB, hL, hZ⟩; have HB6 := Lib.hid hB; have HL6 := Lib.hid hL; clear hB hL hZ) | (go_at_call 19; (with_reducible refine (sum_c (xs.drop k) _ (n - k) _ _ (twin_reads HB6.out HLd.out) hk2).mono ?_); rintro e w' ⟨rfl, rfl⟩) | (go_at_call 14; (with_reducible refine (add_c (sumV (xs.take k)) (sumV (xs.drop k)) _).mono ?_); rintro e w' ⟨rfl, rfl⟩))
              go_ret
              exact ⟨rfl, (HB.out.trans (HL5.out.mono HB.out.size)).trans (HL6.out.mono (Nat.le_trans HB.out.size HL5.out.size))⟩
  · have hd : decide (1048576 < tot [(n : Int)]) = true := decide_eq_true (by omega)
    clear e1
    go_enter Try.func6, Try.ntmps6
    go_wp2_with (first | (go_at_call 15; (with_reducible refine (alive_c w).mono ?_); rintro e w1 ⟨rfl, hB⟩; have HB1 := Lib.hid hB; clear hB) | (go_at_call 18; (with_reducible refine (beyond_c [(n : Int)] _ 1 1 _ (box_reads _ _ _ _) HP.out (by decide)).mono ?_); rintro e w' ⟨rfl, rfl⟩) | (go_at_call 15; (with_reducible refine (alive_c _).mono ?_); rintro e w4 ⟨rfl, hB⟩; have HB4 := Lib.hid hB; clear hB))
    go_ret
    exact ⟨rfl, HB1.out.trans (((Below.refl _ _).alloc HB1.out.size _).trans (HB4.out.mono (by have := HB1.out.size; simp; omega)))⟩
end Go.Proofs.Ytdfjbghmeoephab.Order
