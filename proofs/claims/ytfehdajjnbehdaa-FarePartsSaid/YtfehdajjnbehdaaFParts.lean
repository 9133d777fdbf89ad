/- The walk of FareParts, and the law. -/
import Derived.Test.YtfehdajjnbehdaaAliveR
import Derived.Test.YtfehdajjnbehdaaFParts0
import Derived.Test.YtfehdajjnbehdaaLex26
namespace Go.Proofs.Ytfehdajjnbehdaa.FParts
open Go.RowKit Go.Proofs.Ytfehdajjnbehdaa.Aid Go.Proofs.Ytfehdajjnbehdaa.Mem Go.Proofs.Ytfehdajjnbehdaa.Keep Go.Proofs.Ytfehdajjnbehdaa.ShareP Go.Proofs.Ytfehdajjnbehdaa.Share Go.Proofs.Ytfehdajjnbehdaa.AliveR Go.Proofs.Ytfehdajjnbehdaa.Twin
set_option linter.unusedSimpArgs false
set_option linter.unusedVariables false
set_option maxRecDepth 100000
set_option maxHeartbeats 8000000 in
theorem parts_ok (a : Int) (ws : List Int) (A : Option Addr) (n c : Nat) (w : World) (h : Ints w .i64 A n ws) (hn : n ≤ 140737488351232) (HBE : Hid (decide (1048576 < n) = false)) (hn2 : n ≤ 1048576) (HG : Hid (good a ws = true)) :
    Calls Try.prog 9 #[.int .i64 a, .slice A n c] w fun e w' => e = .returned (.bool true) ∧ Below w.heap.size w w' := by
  have H := Lib.hid h
  have HL : Hid (ws.length = n) := Lib.hid h.1
  obtain ⟨⟨a0, a1⟩, HA, hz0⟩ := good_iff.1 HG.out
  have HA := Lib.hid HA
  have hz : (tot ws == 0) = false := by simpa using hz0
  have HT0 := Lib.hid hz0
  clear h hz0
  go_enter Try.func9, Try.ntmps9
  go_wp2_with (first | (go_at_call 16; with_reducible refine (alive_c _).mono ?_; rintro e w1 ⟨rfl, hb⟩; have HB1 := Lib.hid hb; clear hb) | (go_at_call 19; with_reducible refine (beyond1 n _ _ hn false HBE.out).mono ?_; rintro e w2 ⟨rfl, rfl⟩) | (go_at_call 21; (with_reducible refine (twin_c ws A n c _ _ (size_alloc _ _) (H.out.keep (kba HB1.out _)) hn2).mono ?_); rintro e w3 ⟨rfl, hB3, hb, _⟩; have HT := Lib.hid (twin_reads hB3 HL.out); have HB3 := Lib.hid (kbt (kba HB1.out _) hb); clear hb hB3) | (go_at_call 20; (with_reducible refine (share_ok a ws _ n _ _ HT.out hn2 HG.out).mono ?_); rintro e w4 ⟨⟨g, rfl, hg, hB⟩, hb⟩; have HS := Lib.hid (nums_ints hB ((share_len a ws).trans HL.out)); have HB4 := Lib.hid (kbt HB3.out hb); clear hb hB hg))
  clear HT HB3
  go_loop [7, 8, 9] (fun s g i => ∃ k : Nat, k ≤ n ∧ i = .int .i64 k ∧ g = .bool true ∧ s = .int .i64 (tot (ws.take k)) ∧ 0 ≤ tot (ws.take k) ∧ tot (ws.take k) ≤ 1048576 * k) (fun _ _ i => n - (intOf i).toNat)
  case atStart => exact ⟨0, Nat.zero_le _, rfl, rfl, by simp [tot], by simp [tot], by simp [tot]⟩
  case round =>
    obtain ⟨k, hk, rfl, rfl, rfl, s0, s1⟩ := hrel
    by_cases hlt : k < n
    · obtain ⟨ad, x, rfl, hx, hc0⟩ := H.out.at_ hlt
      have hc := (HB4.out.cell (World.block_lt_of_cell? w _ hc0)).trans hc0
      have hs := tot_snoc ws k x hx
      obtain ⟨x0, x1⟩ := HA.out x (List.mem_of_getElem? hx)
      clear hx hc0
      go_wp2
      go_round
      case rel => exact ⟨k + 1, by omega, by go_num, rfl, by go_num, by omega, by push_cast; omega⟩
      case measure => simp [intOf]; omega
    · obtain rfl : k = n := by omega
      have ht : ws.take k = ws := List.take_of_length_le (by have := HL.out; omega)
      rw [ht] at s0 s1 ⊢
      have hT : 0 < tot ws := by have := HT0.out; omega
      have HLS : Hid ((share a ws).length = k) := Lib.hid ((share_len a ws).trans HL.out)
      clear ht HT0
      obtain ⟨T, eT⟩ : ∃ T, tot ws = T := ⟨_, rfl⟩
      have ET := Lib.hid eT
      rw [eT] at s0 s1 hT hz ⊢
      clear eT
      go_wp2
      go_loopw [10, 11] (fun s i wr => ∃ j : Nat, j ≤ k ∧ i = .int .i64 j ∧ s = .int .i64 (tot ((share a ws).take j)) ∧ 0 ≤ tot ((share a ws).take j) ∧ tot ((share a ws).take j) ≤ a ∧ Dr w4 wr) (fun _ i _ => k - (intOf i).toNat)
      case atStart => exact ⟨0, Nat.zero_le _, rfl, by simp [tot], by simp [tot], by simpa [tot] using a0, Dr.refl _⟩
      case round =>
        obtain ⟨j, hj, rfl, rfl, z0, z1, nd, rfl⟩ := hrel
        by_cases hl2 : j < k
        · obtain ⟨ad, x, rfl, hx, hc0⟩ := H.out.at_ hl2
          have hc := (HB4.out.cell (World.block_lt_of_cell? w _ hc0)).trans hc0
          obtain ⟨x0, x1⟩ := HA.out x (List.mem_of_getElem? hx)
          obtain ⟨gd, u, eg, hux, hcu⟩ := HS.out.at_ hl2
          obtain rfl : gd = ⟨g, 0, none⟩ := by simpa using eg.symm
          clear eg
          have hcu' : w4.cell? ⟨g, j, none⟩ = some (.int .i64 u) := by rw [← add_at]; exact hcu
          have hs := tot_snoc _ j u hux
          have hin := share_each HG.out (show j < ws.length by rw [HL.out]; exact hl2)
          rw [nth_at hux, nth_at hx, ET.out] at hin
          obtain ⟨u0, ua, hu⟩ := hin
          have d1 : decide (u < 0) = false := decide_eq_false (by omega)
          have d2 : decide (a < u) = false := decide_eq_false (by omega)
          have hm := (tot_take_le (ws := share a ws) (fun y hy => by obtain ⟨i, hi⟩ := List.getElem?_of_mem hy; have hil := (List.getElem?_eq_some_iff.1 hi).1; rw [← nth_at hi]; exact (share_each HG.out (by rw [← share_len a ws]; exact hil)).1) (j + 1)).2
          rw [share_sum HG.out] at hm
          obtain ⟨S, eS⟩ : ∃ S, tot ((share a ws).take j) = S := ⟨_, rfl⟩
          rw [hs, eS] at hm
          rw [eS] at z0 z1 hs ⊢
          have HSU := Lib.hid hs
          have hsu0 : 0 ≤ S + u := by omega
          clear hs eS
          have hP := prod_in ⟨a0, a1⟩ ⟨x0, x1⟩
          have hP' : IntKind.i64.wrap (a * x) = a * x := wrap_in (by omega) (by omega)
          obtain ⟨P, eP⟩ : ∃ P, a * x = P := ⟨_, rfl⟩
          rw [eP] at hP' hP hu
          have hw : IntKind.i64.wrap (a * x) = P := by rw [eP]; exact hP'
          have e1 : Int.tdiv P T = P / T := Int.tdiv_eq_ediv_of_nonneg hP.1
          have e2 : Int.tmod P T = P % T := Int.tmod_eq_emod_of_nonneg hP.1
          have q0 : 0 ≤ P / T := Int.ediv_nonneg hP.1 (by omega)
          have q1 : P / T ≤ P := Int.ediv_le_self _ hP.1
          have r0 : 0 ≤ P % T := Int.emod_nonneg _ (by omega)
          have r1 : P % T < T := Int.emod_lt_of_pos _ hT
          obtain ⟨q, eq⟩ : ∃ q, P / T = q := ⟨_, rfl⟩
          obtain ⟨rr, er⟩ : ∃ rr, P % T = rr := ⟨_, rfl⟩
          rw [eq] at e1 q0 q1 hu
          rw [er] at e2 r0 r1 hu
          have hwq : IntKind.i64.wrap q = q := wrap_in (by omega) (by omega)
          have hwr : IntKind.i64.wrap rr = rr := wrap_in (by omega) (by omega)
          have HXI := Lib.hid hx
          have HUX := Lib.hid hux
          have HC0 := Lib.hid hc0
          clear eq er hx hux hc0 hP'
          rcases Nat.eq_zero_or_pos j with k0 | k0
          · subst k0
            have hc' : w4.cell? ad = some (.int .i64 x) := by
              rw [show ad.add 0 = ad from by simp [Addr.add]] at hc; exact hc
            clear HXI HUX HC0 hc
            rcases hu with hu | ⟨hu, hr0⟩
            · have d3 : decide (u < q) = false := decide_eq_false (by omega)
              have d4 : decide (q + 1 < u) = false := decide_eq_false (by omega)
              have d5 : decide (q < u) = false := decide_eq_false (by omega)
              have HU := Lib.hid hu
              clear hu
              go_wp2
              refine wp_region_quiet_lit (by kernel_rfl) (lex26_of (by kernel_rfl)) ?_
              repeat (go_big_quiet_step (fail))
              refine wpQuiet_nil ?_
              rintro _ ⟨nq, rfl⟩
              go_wp2
              go_roundw
              case rel => exact ⟨1, by omega, by go_num, by (rw [HSU.out]; try go_num), by rw [HSU.out]; omega, by rw [HSU.out]; omega, ⟨_, rfl⟩⟩
              case measure => simp [intOf]; omega
            · have d3 : decide (u < q) = false := decide_eq_false (by omega)
              have d4 : decide (q + 1 < u) = false := decide_eq_false (by omega)
              have d5 : decide (q < u) = true := decide_eq_true (by omega)
              have d6 : (rr == 0) = false := by simpa using hr0
              clear hr0
              have HU := Lib.hid hu
              clear hu
              go_wp2
              refine wp_region_quiet_lit (by kernel_rfl) (lex26_of (by kernel_rfl)) ?_
              repeat (go_big_quiet_step (fail))
              refine wpQuiet_nil ?_
              rintro _ ⟨nq, rfl⟩
              go_wp2
              go_roundw
              case rel => exact ⟨1, by omega, by go_num, by (rw [HSU.out]; try go_num), by rw [HSU.out]; omega, by rw [HSU.out]; omega, ⟨_, rfl⟩⟩
              case measure => simp [intOf]; omega
          · obtain ⟨j, rfl⟩ : ∃ i, j = i + 1 := ⟨j - 1, by omega⟩
            obtain ⟨ad', x', e3, hx', hc1⟩ := H.out.at_ (show j < k by omega)
            obtain rfl : ad = ad' := by simpa using e3
            obtain ⟨gd, v, eg, hvx, hcv⟩ := HS.out.at_ (show j < k by omega)
            obtain rfl : gd = ⟨g, 0, none⟩ := by simpa using eg.symm
            have hcx := (HB4.out.cell (World.block_lt_of_cell? w _ hc1)).trans hc1
            have hcv' : w4.cell? ⟨g, j, none⟩ = some (.int .i64 v) := by rw [← add_at]; exact hcv
            clear eg e3
            have v0 := share_each HG.out (show j < ws.length by rw [HL.out]; omega)
            rw [nth_at hvx] at v0
            obtain ⟨v0, va, _⟩ := v0
            have MO1 : Hid (x' < x → v ≤ u) := Lib.hid (fun h => by
              have := share_mono HG.out (i := j) (k := j + 1) (by rw [HL.out]; omega) (by rw [HL.out]; omega) (by rw [nth_at hx', nth_at HXI.out]; exact h)
              rwa [nth_at hvx, nth_at HUX.out] at this)
            have MO2 : Hid (x' = x → u ≤ v ∧ v ≤ u + 1) := Lib.hid (fun h => by
              have := share_same HG.out (i := j) (k := j + 1) (by omega) (by rw [HL.out]; omega) (by rw [nth_at hx', nth_at HXI.out]; exact h)
              rwa [nth_at hvx, nth_at HUX.out] at this)
            have MO3 : Hid (x < x' → u ≤ v) := Lib.hid (fun h => by
              have := share_mono HG.out (i := j + 1) (k := j) (by rw [HL.out]; omega) (by rw [HL.out]; omega) (by rw [nth_at hx', nth_at HXI.out]; exact h)
              rwa [nth_at hvx, nth_at HUX.out] at this)
            have ej : ((j + 1 : Nat) : Int) - 1 = (j : Int) := by omega
            have hc2 : w4.cell? { block := ad.block, off := ad.off + (j + 1) } = some (.int .i64 x) := by
              have h := hc
              simp only [Addr.add, Nat.add_eq_zero_iff, Nat.one_ne_zero, and_false, if_false] at h
              exact h
            clear hx' hvx hc1 HXI HUX HC0
            rcases hu with hu | ⟨hu, hr0⟩
            · have d3 : decide (u < q) = false := decide_eq_false (by omega)
              have d4 : decide (q + 1 < u) = false := decide_eq_false (by omega)
              have d5 : decide (q < u) = false := decide_eq_false (by omega)
              have HU := Lib.hid hu
              clear hu
              rcases Int.lt_trichotomy x' x with hw | hw | hw
              · have e1 := MO1.out hw
                have d7 : decide (x' < x) = true := decide_eq_true hw
                have d8 : decide (x < x') = false := decide_eq_false (by omega)
                have d9 : (x == x') = false := by simp; omega
                have d10 : decide (u < v) = false := decide_eq_false (by omega)
                clear MO1 MO2 MO3
                go_wp2
                refine wp_region_quiet_lit (by kernel_rfl) (lex26_of (by kernel_rfl)) ?_
                repeat (go_big_quiet_step (fail))
                refine wpQuiet_nil ?_
                rintro _ ⟨nq, rfl⟩
                go_wp2
                go_roundw
                case rel => exact ⟨j + 1 + 1, by omega, by go_num, by (rw [HSU.out]; try go_num), by rw [HSU.out]; omega, by rw [HSU.out]; omega, ⟨_, rfl⟩⟩
                case measure => simp [intOf]; omega
              · obtain ⟨e1, e2⟩ := MO2.out hw
                subst hw
                have d7 : decide (x' < x') = false := decide_eq_false (by omega)
                have d9 : (x' == x') = true := eq_t _
                have d10 : decide (v < u) = false := decide_eq_false (by omega)
                have d11 : decide (u < v - 1) = false := decide_eq_false (by omega)
                clear MO1 MO2 MO3
                go_wp2
                refine wp_region_quiet_lit (by kernel_rfl) (lex26_of (by kernel_rfl)) ?_
                repeat (go_big_quiet_step (fail))
                refine wpQuiet_nil ?_
                rintro _ ⟨nq, rfl⟩
                go_wp2
                go_roundw
                case rel => exact ⟨j + 1 + 1, by omega, by go_num, by (rw [HSU.out]; try go_num), by rw [HSU.out]; omega, by rw [HSU.out]; omega, ⟨_, rfl⟩⟩
                case measure => simp [intOf]; omega
              · have e1 := MO3.out hw
                have d7 : decide (x' < x) = false := decide_eq_false (by omega)
                have d8 : decide (x < x') = true := decide_eq_true hw
                have d9 : (x == x') = false := by simp; omega
                have d10 : decide (v < u) = false := decide_eq_false (by omega)
                clear MO1 MO2 MO3
                go_wp2
                refine wp_region_quiet_lit (by kernel_rfl) (lex26_of (by kernel_rfl)) ?_
                repeat (go_big_quiet_step (fail))
                refine wpQuiet_nil ?_
                rintro _ ⟨nq, rfl⟩
                go_wp2
                go_roundw
                case rel => exact ⟨j + 1 + 1, by omega, by go_num, by (rw [HSU.out]; try go_num), by rw [HSU.out]; omega, by rw [HSU.out]; omega, ⟨_, rfl⟩⟩
                case measure => simp [intOf]; omega
            · have d3 : decide (u < q) = false := decide_eq_false (by omega)
              have d4 : decide (q + 1 < u) = false := decide_eq_false (by omega)
              have d5 : decide (q < u) = true := decide_eq_true (by omega)
              have d6 : (rr == 0) = false := by simpa using hr0
              clear hr0
              have HU := Lib.hid hu
              clear hu
              rcases Int.lt_trichotomy x' x with hw | hw | hw
              · have e1 := MO1.out hw
                have d7 : decide (x' < x) = true := decide_eq_true hw
                have d8 : decide (x < x') = false := decide_eq_false (by omega)
                have d9 : (x == x') = false := by simp; omega
                have d10 : decide (u < v) = false := decide_eq_false (by omega)
                clear MO1 MO2 MO3
                go_wp2
                refine wp_region_quiet_lit (by kernel_rfl) (lex26_of (by kernel_rfl)) ?_
                repeat (go_big_quiet_step (fail))
                refine wpQuiet_nil ?_
                rintro _ ⟨nq, rfl⟩
                go_wp2
                go_roundw
                case rel => exact ⟨j + 1 + 1, by omega, by go_num, by (rw [HSU.out]; try go_num), by rw [HSU.out]; omega, by rw [HSU.out]; omega, ⟨_, rfl⟩⟩
                case measure => simp [intOf]; omega
              · obtain ⟨e1, e2⟩ := MO2.out hw
                subst hw
                have d7 : decide (x' < x') = false := decide_eq_false (by omega)
                have d9 : (x' == x') = true := eq_t _
                have d10 : decide (v < u) = false := decide_eq_false (by omega)
                have d11 : decide (u < v - 1) = false := decide_eq_false (by omega)
                clear MO1 MO2 MO3
                go_wp2
                refine wp_region_quiet_lit (by kernel_rfl) (lex26_of (by kernel_rfl)) ?_
                repeat (go_big_quiet_step (fail))
                refine wpQuiet_nil ?_
                rintro _ ⟨nq, rfl⟩
                go_wp2
                go_roundw
                case rel => exact ⟨j + 1 + 1, by omega, by go_num, by (rw [HSU.out]; try go_num), by rw [HSU.out]; omega, by rw [HSU.out]; omega, ⟨_, rfl⟩⟩
                case measure => simp [intOf]; omega
              · have e1 := MO3.out hw
                have d7 : decide (x' < x) = false := decide_eq_false (by omega)
                have d8 : decide (x < x') = true := decide_eq_true hw
                have d9 : (x == x') = false := by simp; omega
                have d10 : decide (v < u) = false := decide_eq_false (by omega)
                clear MO1 MO2 MO3
                go_wp2
                refine wp_region_quiet_lit (by kernel_rfl) (lex26_of (by kernel_rfl)) ?_
                repeat (go_big_quiet_step (fail))
                refine wpQuiet_nil ?_
                rintro _ ⟨nq, rfl⟩
                go_wp2
                go_roundw
                case rel => exact ⟨j + 1 + 1, by omega, by go_num, by (rw [HSU.out]; try go_num), by rw [HSU.out]; omega, by rw [HSU.out]; omega, ⟨_, rfl⟩⟩
                case measure => simp [intOf]; omega
        · obtain rfl : j = k := by omega
          have hE : tot ((share a ws).take j) = a := by rw [List.take_of_length_le (by rw [HLS.out]; omega)]; exact share_sum HG.out
          rw [hE]
          go_wp2
          go_ret
          exact ⟨by simp, below_drewN HB4.out _⟩
/-- The law. -/
theorem parts (a : Int) (ws : List Int) (A : Option Addr) (n c : Nat) (w : World) (ha : (Lit.int .i64 a).wf = true) (h : Ints w .i64 A n ws) (hc : n ≤ c) (hn : n ≤ 140737488351232) :
    Calls Try.prog 9 #[.int .i64 a, .slice A n c] w fun e w' => e = .returned (.bool true) ∧ Below w.heap.size w w' := by
  by_cases hb : 1048576 < n
  · exact parts_far a ws A n c w hn (Lib.hid (decide_eq_true hb))
  have HBE := Lib.hid (decide_eq_false hb)
  have hn2 : n ≤ 1048576 := by omega
  cases hg : good a ws with
  | true => exact parts_ok a ws A n c w h hn HBE hn2 (Lib.hid hg)
  | false =>
    by_cases t0 : a < 0
    · exact parts_no1 a ws A n c w h hn HBE hn2 (Lib.hid hg) t0
    by_cases t1 : 1099511627776 < a
    · exact parts_no2 a ws A n c w h hn HBE hn2 (Lib.hid hg) (by omega) t1
    exact parts_no3 a ws A n c w h hn HBE hn2 (Lib.hid hg) (by omega) (by omega)
end Go.Proofs.Ytfehdajjnbehdaa.FParts
