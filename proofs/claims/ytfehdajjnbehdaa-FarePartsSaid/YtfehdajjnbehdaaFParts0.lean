/- The walk of FareParts, and the law. -/
import Derived.Test.YtfehdajjnbehdaaAliveR
import Derived.Test.YtfehdajjnbehdaaTwin
namespace Go.Proofs.Ytfehdajjnbehdaa.FParts
open Go.RowKit Go.Proofs.Ytfehdajjnbehdaa.Aid Go.Proofs.Ytfehdajjnbehdaa.Mem Go.Proofs.Ytfehdajjnbehdaa.Keep Go.Proofs.Ytfehdajjnbehdaa.ShareP Go.Proofs.Ytfehdajjnbehdaa.Share Go.Proofs.Ytfehdajjnbehdaa.AliveR Go.Proofs.Ytfehdajjnbehdaa.Twin
set_option linter.unusedSimpArgs false
set_option linter.unusedVariables false
set_option maxRecDepth 100000
theorem beyond1 (a : Nat) (w : World) (t : TypeId) (ha : a ≤ 140737488351232) (x : Bool) (hx : decide (1048576 < a) = x) : Calls Try.prog 19 #[.slice (some ⟨w.heap.size, 0, none⟩) 1 1] (w.alloc (.cells #[.int .i64 (a : Int)] t)) fun e w' => e = .returned (.bool x) ∧ w.alloc (.cells #[.int .i64 (a : Int)] t) = w' := by
  refine (beyond_c [(a : Int)] _ 1 1 _ (box_reads w .i64 a t) (by simp; omega) (by decide)).mono fun e w' ⟨h, k⟩ => ⟨?_, k⟩
  rw [h]
  subst hx
  congr 2
  have e : tot [(a : Int)] = (a : Int) := by simp [tot]
  rw [e, decide_eq_decide]
  omega
theorem nums_ints {w : World} {g n : Nat} {xs : List Int} (h : Blk w g 3 (nums .i64 xs)) (hn : xs.length = n) : Ints w .i64 (some ⟨g, 0, none⟩) n xs := by
  have := Ints.of_blk (k := .i64) (xs := xs) h fun j x hx => by unfold nums; rw [List.getElem?_map, hx]; rfl
  rwa [hn] at this
theorem eq_t (a : Int) : (a == a) = true := by simp
set_option maxHeartbeats 2000000 in
theorem parts_far (a : Int) (ws : List Int) (A : Option Addr) (n c : Nat) (w : World) (hn : n ≤ 140737488351232) (HBE : Hid (decide (1048576 < n) = true)) :
    Calls Try.prog 9 #[.int .i64 a, .slice A n c] w fun e w' => e = .returned (.bool true) ∧ Below w.heap.size w w' := by
  go_enter Try.func9, Try.ntmps9
  go_wp2_with (first | (go_at_call 16; with_reducible refine (alive_c _).mono ?_; rintro e w3 ⟨rfl, hb⟩; have HB2 := Lib.hid (kbt (kba HB1.out _) hb); clear hb) | (go_at_call 16; with_reducible refine (alive_c _).mono ?_; rintro e w1 ⟨rfl, hb⟩; have HB1 := Lib.hid hb; clear hb) | (go_at_call 19; with_reducible refine (beyond1 n _ _ hn true HBE.out).mono ?_; rintro e w2 ⟨rfl, rfl⟩))
  go_ret
  exact ⟨rfl, HB2.out⟩
set_option maxHeartbeats 4000000 in
theorem parts_no1 (a : Int) (ws : List Int) (A : Option Addr) (n c : Nat) (w : World) (h : Ints w .i64 A n ws) (hn : n ≤ 140737488351232) (HBE : Hid (decide (1048576 < n) = false)) (hn2 : n ≤ 1048576) (HG : Hid (good a ws = false)) (t1 : a < 0) :
    Calls Try.prog 9 #[.int .i64 a, .slice A n c] w fun e w' => e = .returned (.bool true) ∧ Below w.heap.size w w' := by
  have H := Lib.hid h
  have HL : Hid (ws.length = n) := Lib.hid h.1
  clear h
  go_enter Try.func9, Try.ntmps9
  go_wp2_with (first | (go_at_call 16; with_reducible refine (alive_c _).mono ?_; rintro e w1 ⟨rfl, hb⟩; have HB1 := Lib.hid hb; clear hb) | (go_at_call 19; with_reducible refine (beyond1 n _ _ hn false HBE.out).mono ?_; rintro e w2 ⟨rfl, rfl⟩) | (go_at_call 21; (with_reducible refine (twin_c ws A n c _ _ (size_alloc _ _) (H.out.keep (kba HB1.out _)) hn2).mono ?_); rintro e w3 ⟨rfl, hB3, hb, _⟩; have HT := Lib.hid (twin_reads hB3 HL.out); have HB3 := Lib.hid (kbt (kba HB1.out _) hb); clear hb hB3) | (go_at_call 20; (with_reducible refine (share_no a ws _ n _ _ HT.out hn2 HG.out).mono ?_); rintro e w4 ⟨rfl, rfl⟩))
  go_loop [7, 8, 9] (fun s g i => ∃ (k : Nat) (gk : Bool) (t : Int), k ≤ n ∧ i = .int .i64 k ∧ g = .bool gk ∧ s = .int .i64 t ∧ 0 ≤ t ∧ t ≤ 1048576 * k ∧ Hid (gk = true → (0 ≤ a ∧ a ≤ 1099511627776) ∧ (∀ x ∈ ws.take k, 0 ≤ x ∧ x ≤ 1048576) ∧ t = tot (ws.take k))) (fun _ _ i => n - (intOf i).toNat)
  case atStart => exact ⟨0, false, 0, Nat.zero_le _, rfl, by first | rfl | (rw [decide_eq_false (by omega)]) | (rw [decide_eq_true (by omega)]), rfl, by omega, by omega, Lib.hid (fun h => by simp at h)⟩
  case round =>
    obtain ⟨k, gk, t, hk, rfl, rfl, rfl, s0, s1, HK⟩ := hrel
    by_cases hlt : k < n
    · obtain ⟨ad, x, rfl, hx, hc0⟩ := H.out.at_ hlt
      have hc := (HB3.out.cell (World.block_lt_of_cell? w _ hc0)).trans hc0
      have HX := Lib.hid hx
      clear hx hc0
      cases gk
      · clear HX
        go_wp2
        go_round
        case rel => exact ⟨k + 1, false, t, by omega, by go_num, by first | rfl | (rw [decide_eq_false (by omega)]) | (rw [decide_eq_true (by omega)]), rfl, s0, by push_cast; omega, Lib.hid (fun h => by simp at h)⟩
        case measure => simp [intOf]; omega
      · by_cases x0 : x < 0
        · clear HX
          go_wp2
          go_round
          case rel => exact ⟨k + 1, false, t, by omega, by go_num, by first | rfl | (rw [decide_eq_false (by omega)]) | (rw [decide_eq_true (by omega)]), rfl, s0, by push_cast; omega, Lib.hid (fun h => by simp at h)⟩
          case measure => simp [intOf]; omega
        · by_cases x1 : 1048576 < x
          · clear HX
            go_wp2
            go_round
            case rel => exact ⟨k + 1, false, t, by omega, by go_num, by first | rfl | (rw [decide_eq_false (by omega)]) | (rw [decide_eq_true (by omega)]), rfl, s0, by push_cast; omega, Lib.hid (fun h => by simp at h)⟩
            case measure => simp [intOf]; omega
          · have HK2 : Hid ((0 ≤ a ∧ a ≤ 1099511627776) ∧ (∀ x ∈ ws.take (k + 1), 0 ≤ x ∧ x ≤ 1048576) ∧ t + x = tot (ws.take (k + 1))) := Lib.hid (by
              obtain ⟨h1, h2, h3⟩ := HK.out rfl
              exact ⟨h1, all_take HX.out h2 (by omega), by rw [tot_snoc ws k x HX.out, h3]⟩)
            clear HX HK
            go_wp2
            go_round
            case rel => exact ⟨k + 1, true, t + x, by omega, by go_num, by first | rfl | (rw [decide_eq_false (by omega)]) | (rw [decide_eq_true (by omega)]), by go_num, by omega, by push_cast; omega, Lib.hid (fun _ => HK2.out)⟩
            case measure => simp [intOf]; omega
    · obtain rfl : k = n := by omega
      cases gk
      · clear HK
        go_wp2
        go_ret
        exact ⟨rfl, HB3.out⟩
      · have hz : t = 0 := by
          obtain ⟨h1, h2, h3⟩ := HK.out rfl
          rw [List.take_of_length_le (by rw [HL.out]; omega)] at h2 h3
          rw [h3]
          by_cases e : tot ws = 0
          · exact e
          · exact absurd ((good_iff (a := a) (ws := ws)).2 ⟨h1, h2, e⟩) (by rw [HG.out]; decide)
        subst hz
        clear HK
        go_wp2
        go_ret
        exact ⟨rfl, HB3.out⟩
set_option maxHeartbeats 4000000 in
theorem parts_no2 (a : Int) (ws : List Int) (A : Option Addr) (n c : Nat) (w : World) (h : Ints w .i64 A n ws) (hn : n ≤ 140737488351232) (HBE : Hid (decide (1048576 < n) = false)) (hn2 : n ≤ 1048576) (HG : Hid (good a ws = false)) (t0 : 0 ≤ a) (t1 : 1099511627776 < a) :
    Calls Try.prog 9 #[.int .i64 a, .slice A n c] w fun e w' => e = .returned (.bool true) ∧ Below w.heap.size w w' := by
  have H := Lib.hid h
  have HL : Hid (ws.length = n) := Lib.hid h.1
  clear h
  go_enter Try.func9, Try.ntmps9
  go_wp2_with (first | (go_at_call 16; with_reducible refine (alive_c _).mono ?_; rintro e w1 ⟨rfl, hb⟩; have HB1 := Lib.hid hb; clear hb) | (go_at_call 19; with_reducible refine (beyond1 n _ _ hn false HBE.out).mono ?_; rintro e w2 ⟨rfl, rfl⟩) | (go_at_call 21; (with_reducible refine (twin_c ws A n c _ _ (size_alloc _ _) (H.out.keep (kba HB1.out _)) hn2).mono ?_); rintro e w3 ⟨rfl, hB3, hb, _⟩; have HT := Lib.hid (twin_reads hB3 HL.out); have HB3 := Lib.hid (kbt (kba HB1.out _) hb); clear hb hB3) | (go_at_call 20; (with_reducible refine (share_no a ws _ n _ _ HT.out hn2 HG.out).mono ?_); rintro e w4 ⟨rfl, rfl⟩))
  go_loop [7, 8, 9] (fun s g i => ∃ (k : Nat) (gk : Bool) (t : Int), k ≤ n ∧ i = .int .i64 k ∧ g = .bool gk ∧ s = .int .i64 t ∧ 0 ≤ t ∧ t ≤ 1048576 * k ∧ Hid (gk = true → (0 ≤ a ∧ a ≤ 1099511627776) ∧ (∀ x ∈ ws.take k, 0 ≤ x ∧ x ≤ 1048576) ∧ t = tot (ws.take k))) (fun _ _ i => n - (intOf i).toNat)
  case atStart => exact ⟨0, false, 0, Nat.zero_le _, rfl, by first | rfl | (rw [decide_eq_false (by omega)]) | (rw [decide_eq_true (by omega)]), rfl, by omega, by omega, Lib.hid (fun h => by simp at h)⟩
  case round =>
    obtain ⟨k, gk, t, hk, rfl, rfl, rfl, s0, s1, HK⟩ := hrel
    by_cases hlt : k < n
    · obtain ⟨ad, x, rfl, hx, hc0⟩ := H.out.at_ hlt
      have hc := (HB3.out.cell (World.block_lt_of_cell? w _ hc0)).trans hc0
      have HX := Lib.hid hx
      clear hx hc0
      cases gk
      · clear HX
        go_wp2
        go_round
        case rel => exact ⟨k + 1, false, t, by omega, by go_num, by first | rfl | (rw [decide_eq_false (by omega)]) | (rw [decide_eq_true (by omega)]), rfl, s0, by push_cast; omega, Lib.hid (fun h => by simp at h)⟩
        case measure => simp [intOf]; omega
      · by_cases x0 : x < 0
        · clear HX
          go_wp2
          go_round
          case rel => exact ⟨k + 1, false, t, by omega, by go_num, by first | rfl | (rw [decide_eq_false (by omega)]) | (rw [decide_eq_true (by omega)]), rfl, s0, by push_cast; omega, Lib.hid (fun h => by simp at h)⟩
          case measure => simp [intOf]; omega
        · by_cases x1 : 1048576 < x
          · clear HX
            go_wp2
            go_round
            case rel => exact ⟨k + 1, false, t, by omega, by go_num, by first | rfl | (rw [decide_eq_false (by omega)]) | (rw [decide_eq_true (by omega)]), rfl, s0, by push_cast; omega, Lib.hid (fun h => by simp at h)⟩
            case measure => simp [intOf]; omega
          · have HK2 : Hid ((0 ≤ a ∧ a ≤ 1099511627776) ∧ (∀ x ∈ ws.take (k + 1), 0 ≤ x ∧ x ≤ 1048576) ∧ t + x = tot (ws.take (k + 1))) := Lib.hid (by
              obtain ⟨h1, h2, h3⟩ := HK.out rfl
              exact ⟨h1, all_take HX.out h2 (by omega), by rw [tot_snoc ws k x HX.out, h3]⟩)
            clear HX HK
            go_wp2
            go_round
            case rel => exact ⟨k + 1, true, t + x, by omega, by go_num, by first | rfl | (rw [decide_eq_false (by omega)]) | (rw [decide_eq_true (by omega)]), by go_num, by omega, by push_cast; omega, Lib.hid (fun _ => HK2.out)⟩
            case measure => simp [intOf]; omega
    · obtain rfl : k = n := by omega
      cases gk
      · clear HK
        go_wp2
        go_ret
        exact ⟨rfl, HB3.out⟩
      · have hz : t = 0 := by
          obtain ⟨h1, h2, h3⟩ := HK.out rfl
          rw [List.take_of_length_le (by rw [HL.out]; omega)] at h2 h3
          rw [h3]
          by_cases e : tot ws = 0
          · exact e
          · exact absurd ((good_iff (a := a) (ws := ws)).2 ⟨h1, h2, e⟩) (by rw [HG.out]; decide)
        subst hz
        clear HK
        go_wp2
        go_ret
        exact ⟨rfl, HB3.out⟩
set_option maxHeartbeats 4000000 in
theorem parts_no3 (a : Int) (ws : List Int) (A : Option Addr) (n c : Nat) (w : World) (h : Ints w .i64 A n ws) (hn : n ≤ 140737488351232) (HBE : Hid (decide (1048576 < n) = false)) (hn2 : n ≤ 1048576) (HG : Hid (good a ws = false)) (t0 : 0 ≤ a) (t1 : a ≤ 1099511627776) :
    Calls Try.prog 9 #[.int .i64 a, .slice A n c] w fun e w' => e = .returned (.bool true) ∧ Below w.heap.size w w' := by
  have H := Lib.hid h
  have HL : Hid (ws.length = n) := Lib.hid h.1
  clear h
  go_enter Try.func9, Try.ntmps9
  go_wp2_with (first | (go_at_call 16; with_reducible refine (alive_c _).mono ?_; rintro e w1 ⟨rfl, hb⟩; have HB1 := Lib.hid hb; clear hb) | (go_at_call 19; with_reducible refine (beyond1 n _ _ hn false HBE.out).mono ?_; rintro e w2 ⟨rfl, rfl⟩) | (go_at_call 21; (with_reducible refine (twin_c ws A n c _ _ (size_alloc _ _) (H.out.keep (kba HB1.out _)) hn2).mono ?_); rintro e w3 ⟨rfl, hB3, hb, _⟩; have HT := Lib.hid (twin_reads hB3 HL.out); have HB3 := Lib.hid (kbt (kba HB1.out _) hb); clear hb hB3) | (go_at_call 20; (with_reducible refine (share_no a ws _ n _ _ HT.out hn2 HG.out).mono ?_); rintro e w4 ⟨rfl, rfl⟩))
  go_loop [7, 8, 9] (fun s g i => ∃ (k : Nat) (gk : Bool) (t : Int), k ≤ n ∧ i = .int .i64 k ∧ g = .bool gk ∧ s = .int .i64 t ∧ 0 ≤ t ∧ t ≤ 1048576 * k ∧ Hid (gk = true → (0 ≤ a ∧ a ≤ 1099511627776) ∧ (∀ x ∈ ws.take k, 0 ≤ x ∧ x ≤ 1048576) ∧ t = tot (ws.take k))) (fun _ _ i => n - (intOf i).toNat)
  case atStart => exact ⟨0, true, 0, Nat.zero_le _, rfl, by first | rfl | (rw [decide_eq_false (by omega)]) | (rw [decide_eq_true (by omega)]), rfl, by omega, by omega, Lib.hid (fun _ => ⟨⟨t0, t1⟩, by simp, by simp [tot]⟩)⟩
  case round =>
    obtain ⟨k, gk, t, hk, rfl, rfl, rfl, s0, s1, HK⟩ := hrel
    by_cases hlt : k < n
    · obtain ⟨ad, x, rfl, hx, hc0⟩ := H.out.at_ hlt
      have hc := (HB3.out.cell (World.block_lt_of_cell? w _ hc0)).trans hc0
      have HX := Lib.hid hx
      clear hx hc0
      cases gk
      · clear HX
        go_wp2
        go_round
        case rel => exact ⟨k + 1, false, t, by omega, by go_num, by first | rfl | (rw [decide_eq_false (by omega)]) | (rw [decide_eq_true (by omega)]), rfl, s0, by push_cast; omega, Lib.hid (fun h => by simp at h)⟩
        case measure => simp [intOf]; omega
      · by_cases x0 : x < 0
        · clear HX
          go_wp2
          go_round
          case rel => exact ⟨k + 1, false, t, by omega, by go_num, by first | rfl | (rw [decide_eq_false (by omega)]) | (rw [decide_eq_true (by omega)]), rfl, s0, by push_cast; omega, Lib.hid (fun h => by simp at h)⟩
          case measure => simp [intOf]; omega
        · by_cases x1 : 1048576 < x
          · clear HX
            go_wp2
            go_round
            case rel => exact ⟨k + 1, false, t, by omega, by go_num, by first | rfl | (rw [decide_eq_false (by omega)]) | (rw [decide_eq_true (by omega)]), rfl, s0, by push_cast; omega, Lib.hid (fun h => by simp at h)⟩
            case measure => simp [intOf]; omega
          · have HK2 : Hid ((0 ≤ a ∧ a ≤ 1099511627776) ∧ (∀ x ∈ ws.take (k + 1), 0 ≤ x ∧ x ≤ 1048576) ∧ t + x = tot (ws.take (k + 1))) := Lib.hid (by
              obtain ⟨h1, h2, h3⟩ := HK.out rfl
              exact ⟨h1, all_take HX.out h2 (by omega), by rw [tot_snoc ws k x HX.out, h3]⟩)
            clear HX HK
            go_wp2
            go_round
            case rel => exact ⟨k + 1, true, t + x, by omega, by go_num, by first | rfl | (rw [decide_eq_false (by omega)]) | (rw [decide_eq_true (by omega)]), by go_num, by omega, by push_cast; omega, Lib.hid (fun _ => HK2.out)⟩
            case measure => simp [intOf]; omega
    · obtain rfl : k = n := by omega
      cases gk
      · clear HK
        go_wp2
        go_ret
        exact ⟨rfl, HB3.out⟩
      · have hz : t = 0 := by
          obtain ⟨h1, h2, h3⟩ := HK.out rfl
          rw [List.take_of_length_le (by rw [HL.out]; omega)] at h2 h3
          rw [h3]
          by_cases e : tot ws = 0
          · exact e
          · exact absurd ((good_iff (a := a) (ws := ws)).2 ⟨h1, h2, e⟩) (by rw [HG.out]; decide)
        subst hz
        clear HK
        go_wp2
        go_ret
        exact ⟨rfl, HB3.out⟩
end Go.Proofs.Ytfehdajjnbehdaa.FParts
