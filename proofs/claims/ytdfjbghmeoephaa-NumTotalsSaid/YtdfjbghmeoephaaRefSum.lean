/- The contract of the document's Sum, and the law NumTotals: both tell the sum of a list of numbers where it is one; the list stays as it was. -/
import Derived.Test.YtdfjbghmeoephaaSums
import Derived.Test.YtdfjbghmeoephaaTwin
namespace Go.Proofs.Ytdfjbghmeoephaa.RefSum
open Go.RowKit Go.Proofs.Ytdfjbghmeoephaa.Aid Go.Proofs.Ytdfjbghmeoephaa.Nums Go.Proofs.Ytdfjbghmeoephaa.Mem Go.Proofs.Ytdfjbghmeoephaa.Sums Go.Proofs.Ytdfjbghmeoephaa.Twin
set_option linter.unusedSimpArgs false

theorem ret_ii {a a' b b' : Int} (h : a = a') (h' : b = b') : Ending.returned (.tuple #[.int .i64 a, .int .i64 b]) = Ending.returned (.tuple #[.int .i64 a', .int .i64 b']) := by rw [h, h']
theorem down_c (a : Int) (w : World) (h : -9007199254740992000 ≤ a ∧ a ≤ 9007199254740992000) : Calls Try.prog 54 #[.int .i64 a, .int .i64 2147483648] w fun e w' => e = .returned (.tuple #[.int .i64 (a / 2147483648), .int .i64 (a % 2147483648)]) ∧ w = w' := by
  obtain ⟨h1, h2⟩ := h
  by_cases h0 : 0 ≤ a
  · go_enter Try.func54, Try.ntmps54
    go_wp2
    go_ret2
    exact ⟨rfl, rfl⟩
  · have e1 : Int.tdiv a 2147483648 = -(-a / 2147483648) := by
      have := Int.neg_tdiv (a := -a) (b := 2147483648)
      rw [Int.neg_neg] at this
      rw [this, Int.tdiv_eq_ediv_of_nonneg (by omega)]
    have e2 : Int.tmod a 2147483648 = -(-a % 2147483648) := by
      have := Int.neg_tmod (a := -a) (b := 2147483648)
      rw [Int.neg_neg] at this
      rw [this, Int.tmod_eq_emod_of_nonneg (by omega)]
    by_cases h3 : -a % 2147483648 = 0
    · have hm : Int.tmod a 2147483648 = 0 := by omega
      clear e2
      go_enter Try.func54, Try.ntmps54
      go_wp2
      go_ret2
      exact ⟨ret_ii (by omega) (by omega), rfl⟩
    · go_enter Try.func54, Try.ntmps54
      go_wp2
      go_ret2
      exact ⟨ret_ii (by omega) (by omega), rfl⟩
/-- A number, or 0. -/
def nv (x : Int) : Int := if isN x = true then x else 0
theorem told_c (x : Int) (w : World) : Calls Try.prog 55 #[.int .i64 x] w fun e w' => e = .returned (.tuple #[.int .i64 (nv x), .bool (isN x)]) ∧ w = w' := by
  cases hx : isN x
  · have hv : nv x = 0 := if_neg (by rw [hx]; decide)
    rw [hv]
    go_enter Try.func55, Try.ntmps55
    go_wp2_with (go_at_call 53; (with_reducible refine (refIs_c x _).mono ?_); rintro e w' ⟨rfl, rfl⟩)
    go_ret2
    exact ⟨rfl, rfl⟩
  · have hv : nv x = x := if_pos hx
    rw [hv]
    go_enter Try.func55, Try.ntmps55
    go_wp2_with (go_at_call 53; (with_reducible refine (refIs_c x _).mono ?_); rintro e w' ⟨rfl, rfl⟩)
    go_ret2
    exact ⟨rfl, rfl⟩
theorem refSum_c (xs : List Int) (A : Option Addr) (n c : Nat) (w : World) (h : Ints w .i64 A n xs) (hn : n ≤ 1048576) :
    Calls Try.prog 48 #[.slice A n c] w fun e w' => e = .returned (.tuple #[.int .i64 (sumV xs), .bool (sumB xs)]) ∧ w = w' := by
  have H := Lib.hid h
  clear h
  go_enter Try.func48, Try.ntmps48
  go_wp2_with (fail)
  go_loop [4, 5, 6] (fun a b i => ∃ (k : Nat) (hi lo : Int), k ≤ n ∧ i = .int .i64 k ∧ a = .int .i64 hi ∧ b = .int .i64 lo ∧ Hid ((xs.take k).all isN = true) ∧ Hid (hi * 2147483648 + lo = tot (xs.take k)) ∧ 0 ≤ lo ∧ lo ≤ k * 2147483647 ∧ -(k * 2147483648 : Int) ≤ hi ∧ hi ≤ k * 2147483648) (fun _ _ i => n - (intOf i).toNat)
  case atStart => exact ⟨0, 0, 0, Nat.zero_le _, rfl, rfl, rfl, by show _ = true; simp, by show _ = _; simp [tot], by omega, by omega, by omega, by omega⟩
  case round =>
    obtain ⟨k, hi, lo, hk, rfl, rfl, rfl, HA, HW, l0, l1, i0, i1⟩ := hrel
    by_cases hlt : k < n
    · obtain ⟨ad, x, rfl, hx, hc⟩ := H.out.at_ hlt
      have HX := Lib.hid hx
      clear hx
      by_cases hnx : isN x = true
      · have hb := isN_of hnx
        have HD := Lib.hid (show -9007199254740992000 ≤ x ∧ x ≤ 9007199254740992000 by omega)
        go_wp2_with (first | (go_at_call 53; (with_reducible refine (refIs_c x _).mono ?_); rintro e w' ⟨rfl, rfl⟩) | (go_at_call 54; (with_reducible refine (down_c x _ HD.out).mono ?_); rintro e w' ⟨rfl, rfl⟩))
        go_round
        case rel =>
          refine ⟨k + 1, _, _, by omega, by go_num, rfl, rfl, all_snoc HX.out HA.out hnx, ?_, by omega, by push_cast; omega, by push_cast; omega, by push_cast; omega⟩
          show _ = _
          have := HW.out
          rw [tot_snoc xs k x HX.out]
          omega
        case measure => simp [intOf]; omega
      · have hnx' : isN x = false := by cases hb : isN x <;> simp_all
        have e1 := all_not HX.out hnx'
        have E2 := Lib.hid (sumV_f e1)
        have E1 := Lib.hid e1
        clear e1 hnx
        go_wp2_with (first | (go_at_call 53; (with_reducible refine (refIs_c x _).mono ?_); rintro e w' ⟨rfl, rfl⟩))
        go_ret2
        exact ⟨by rw [E1.out, E2.out]; rfl, rfl⟩
    · obtain rfl : k = n := by omega
      have ht : xs.take k = xs := List.take_of_length_le (by have := H.out.1; omega)
      rw [ht] at HA HW
      have HD := Lib.hid (show -9007199254740992000 ≤ lo ∧ lo ≤ 9007199254740992000 by omega)
      have htot : (hi + lo / 2147483648) * 2147483648 + lo % 2147483648 = tot xs := by have := HW.out; omega
      clear ht
      by_cases hr : hi + lo / 2147483648 < -2147483648
      · have hT' : isN (tot xs) = false := isN_f (by omega)
        have e1 : sumB xs = false := by unfold sumB; rw [hT']; simp
        have E2 := Lib.hid (sumV_f e1)
        have E1 := Lib.hid e1
        clear e1 hT' htot
        go_wp2_with (first | (go_at_call 54; (with_reducible refine (down_c lo _ HD.out).mono ?_); rintro e w' ⟨rfl, rfl⟩))
        go_ret2
        exact ⟨by rw [E1.out, E2.out]; rfl, rfl⟩
      · by_cases hr2 : 2147483648 ≤ hi + lo / 2147483648
        · have hT' : isN (tot xs) = false := isN_f (by omega)
          have e1 : sumB xs = false := by unfold sumB; rw [hT']; simp
          have E2 := Lib.hid (sumV_f e1)
          have E1 := Lib.hid e1
          clear e1 hT' htot
          go_wp2_with (first | (go_at_call 54; (with_reducible refine (down_c lo _ HD.out).mono ?_); rintro e w' ⟨rfl, rfl⟩))
          go_ret2
          exact ⟨by rw [E1.out, E2.out]; rfl, rfl⟩
        · have e1 : sumB xs = isN (tot xs) := by unfold sumB; rw [HA.out]; rfl
          have E2 := Lib.hid (show sumV xs = nv (tot xs) by unfold sumV nv; rw [e1])
          have E1 := Lib.hid e1
          have HT := Lib.hid htot
          clear e1 htot
          go_wp2_with (first | (go_at_call 54; (with_reducible refine (down_c lo _ HD.out).mono ?_); rintro e w' ⟨rfl, rfl⟩) | (go_at_call 55; (with_reducible refine (told_c _ _).mono ?_); rintro e w' ⟨rfl, rfl⟩))
          go_ret2
          exact ⟨by rw [E1.out, E2.out, ← HT.out]; rfl, rfl⟩
/-- A third, as Go reckons it. -/
def d3 (x : Int) : Int := wrap64 (Int.tdiv x 3)
def mixed (xs : List Int) (k : Nat) : List Int := (xs.take k).map d3 ++ xs.drop k
theorem mixed_len (xs : List Int) (k : Nat) : (mixed xs k).length = xs.length := by simp [mixed]; omega
theorem mixed_at {xs : List Int} {k : Nat} {x : Int} (h : xs[k]? = some x) : (mixed xs k)[k]? = some x := by
  have hk := (List.getElem?_eq_some_iff.1 h).1
  unfold mixed
  rw [List.getElem?_append_right (by simp; omega)]
  simp only [List.length_map, List.length_take, List.getElem?_drop]
  rw [show k + (k - min k xs.length) = k by omega, h]
theorem mixed_put {xs : List Int} {k : Nat} {x : Int} (h : xs[k]? = some x) (r : List Value) : (nums .i64 (mixed xs k) ++ r).set k (.int .i64 (d3 x)) = nums .i64 (mixed xs (k + 1)) ++ r := by
  have hk := (List.getElem?_eq_some_iff.1 h).1
  have e0 : xs.drop k = x :: xs.drop (k + 1) := by
    rw [List.drop_eq_getElem_cons hk]; congr 1; rw [List.getElem?_eq_getElem hk] at h; injection h
  have hl : (nums .i64 ((xs.take k).map d3)).length = k := by simp [nums]; omega
  have e := set_mid (nums .i64 ((xs.take k).map d3)) (nums .i64 (xs.drop (k + 1)) ++ r) (.int .i64 x) (.int .i64 (d3 x))
  rw [hl] at e
  unfold mixed
  rw [e0, take_snoc xs k x h]
  simpa [nums] using e
theorem twin_reads {w : World} {g n : Nat} {t : TypeId} {xs : List Int} {r : List Value} (h : Blk w g t (nums .i64 xs ++ r)) (hl : xs.length = n) : Ints w .i64 (some ⟨g, 0, none⟩) n xs := by
  have := Ints.of_blk (k := .i64) (xs := xs) h fun j x hx => nums_at hx _
  rwa [hl] at this
set_option maxHeartbeats 4000000 in
theorem walkNumTotals (xs : List Int) (A : Option Addr) (n c : Nat) (w : World) (h : Ints w .i64 A n xs) (hb : n ≤ 17592186044416) :
    Calls Try.prog 9 #[.slice A n c] w fun e w' => e = .returned (.bool true) ∧ Below w.heap.size w w' := by
  have H := Lib.hid h
  clear h
  have hI : Ints (w.alloc (.cells #[.int .i64 n] 3)) .i64 (some ⟨w.heap.size, 0, none⟩) 1 [(n : Int)] :=
    Ints.of_blk (Blk.new w 3 [.int .i64 n]) (by intro j x hx; cases j with | zero => simpa using hx | succ j => simp at hx)
  have HI := Lib.hid hI
  have HP : Hid (∀ x ∈ [(n : Int)], 0 ≤ x ∧ x ≤ 140737488355328) := by intro x hx; simp at hx; omega
  have e1 : tot [(n : Int)] = n := by simp [tot]
  by_cases hn : n ≤ 1048576
  · have hd : decide (1048576 < tot [(n : Int)]) = false := decide_eq_false (by omega)
    have HL1 := Lib.hid ((Below.refl w.heap.size w).alloc (Nat.le_refl _) (.cells #[.int .i64 n] 3))
    have H1 := Lib.hid (H.out.keep HL1.out)
    have HLen := Lib.hid H.out.1
    have v1 : (sumV xs != sumV xs) = false := by simp
    have v2 : (sumB xs != sumB xs) = false := by simp
    have v3 : (sumV (xs.map d3) == sumV (xs.map d3)) = true := by simp
    have v4 : (sumB (xs.map d3) == sumB (xs.map d3)) = true := by simp
    obtain ⟨G, hG⟩ : ∃ G, (w.alloc (.cells #[.int .i64 n] 3)).heap.size = G := ⟨_, rfl⟩
    have HG := Lib.hid hG
    have HGE := Lib.hid (show w.heap.size ≤ G by rw [← hG]; simp)
    clear hI e1 hG
    go_enter Try.func9, Try.ntmps9
    go_wp2_with (first | (go_at_call 45; (with_reducible refine (beyond_c [(n : Int)] _ 1 1 _ HI.out HP.out (by decide)).mono ?_); rintro e w' ⟨rfl, rfl⟩) | (go_at_call 46; (with_reducible refine (twin_c xs A n c _ G HG.out H1.out hn).mono ?_); rintro e w2 ⟨rfl, hB, hL, hZ⟩; have HB2 := Lib.hid hB; have HL2 := Lib.hid hL; have HZ2 := Lib.hid hZ; clear hB hL hZ) | (go_at_call 47; (with_reducible refine (sum_c xs _ n _ _ (twin_reads HB2.out HLen.out) hn).mono ?_); rintro e w' ⟨rfl, rfl⟩) | (go_at_call 48; (with_reducible refine (refSum_c xs _ n _ _ (H1.out.keep HL2.out) hn).mono ?_); rintro e w' ⟨rfl, rfl⟩) | (go_at_call 49; (with_reducible refine (left_c xs _ A n c _ HB2.out (H1.out.keep HL2.out) hn).mono ?_); rintro e w' ⟨rfl, nd, rfl⟩))
    go_loopw [8] (fun i wr => ∃ k : Nat, k ≤ n ∧ i = .int .i64 k ∧ Hid (Blk wr G 3 (nums .i64 (mixed xs k) ++ [.int .i64 (-8777)])) ∧ Hid (Below w.heap.size w wr)) (fun i _ => n - (intOf i).toNat)
    case atStart => exact ⟨0, Nat.zero_le _, rfl, by have h := HB2.out; exact (by simpa [mixed] using h : Blk w2 G 3 (nums .i64 (mixed xs 0) ++ [.int .i64 (-8777)])), below_drewN (HL1.out.trans (HL2.out.mono HL1.out.size)) _⟩
    case round =>
      obtain ⟨k, hk, rfl, HB, HL⟩ := hrel
      clear HB2 HL2 HZ2
      by_cases hlt : k < n
      · obtain ⟨x, hx⟩ : ∃ x, xs[k]? = some x := ⟨_, List.getElem?_eq_getElem (by have := HLen.out; omega)⟩
        have hc := HB.out.cellv (nums_at (mixed_at hx) [.int .i64 (-8777)])
        have hf := HB.out.free k
        have HP := Lib.hid (HB.out.put k (.int .i64 (d3 x)))
        have HX := Lib.hid hx
        clear hx
        go_wp2
        go_roundw
        case rel =>
          refine ⟨k + 1, by omega, by go_num, Lib.hid ?_, HL.out.setCell HGE.out _⟩
          have h := HP.out
          rw [mixed_put HX.out] at h
          exact h
        case measure => simp [intOf]; omega
      · obtain rfl : k = n := by omega
        have hm : mixed xs k = xs.map d3 := by
          unfold mixed
          rw [List.take_of_length_le (by have := HLen.out; omega), List.drop_of_length_le (by have := HLen.out; omega)]; simp
        rw [hm] at HB
        have HLz := Lib.hid (show (xs.map d3).length = k by simp; exact HLen.out)
        have HR := Lib.hid (twin_reads HB.out HLz.out)
        obtain ⟨G2, hG2⟩ : ∃ G2, wr.heap.size = G2 := ⟨_, rfl⟩
        have HG2 := Lib.hid hG2
        clear hm hG2
        generalize xs.map d3 = zs at *
        go_wp2_with (first | (go_at_call 46; (with_reducible refine (twin_c zs _ k _ _ G2 HG2.out HR.out hn).mono ?_); rintro e w5 ⟨rfl, hB, hL, hZ⟩; have HB5 := Lib.hid hB; have HL5 := Lib.hid hL; clear hB hL hZ) | (go_at_call 47; (with_reducible refine (sum_c zs _ k _ _ (HR.out.keep HL5.out) hn).mono ?_); rintro e w' ⟨rfl, rfl⟩) | (go_at_call 48; (with_reducible refine (refSum_c zs _ k _ _ (twin_reads HB5.out HLz.out) hn).mono ?_); rintro e w' ⟨rfl, rfl⟩))
        go_ret
        exact ⟨rfl, HL.out.trans (HL5.out.mono HL.out.size)⟩
  · have hd : decide (1048576 < tot [(n : Int)]) = true := decide_eq_true (by omega)
    clear hI e1
    go_enter Try.func9, Try.ntmps9
    go_wp2_with (first | (go_at_call 45; (with_reducible refine (beyond_c [(n : Int)] _ 1 1 _ HI.out HP.out (by decide)).mono ?_); rintro e w' ⟨rfl, rfl⟩))
    go_ret
    exact ⟨rfl, (Below.refl _ _).alloc (Nat.le_refl _) _⟩
end Go.Proofs.Ytdfjbghmeoephaa.RefSum
