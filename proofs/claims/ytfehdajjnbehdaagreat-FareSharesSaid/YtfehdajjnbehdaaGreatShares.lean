/- The walk of FareShares. -/
import Derived.Test.YtfehdajjnbehdaaGreatShares0
namespace Go.Proofs.YtfehdajjnbehdaaGreat.Shares
open Go.RowKit Go.Proofs.YtfehdajjnbehdaaGreat.Aid Go.Proofs.YtfehdajjnbehdaaGreat.Mem Go.Proofs.YtfehdajjnbehdaaGreat.Keep Go.Proofs.YtfehdajjnbehdaaGreat.ShareP Go.Proofs.YtfehdajjnbehdaaGreat.Share Go.Proofs.YtfehdajjnbehdaaGreat.Twin Go.Proofs.YtfehdajjnbehdaaGreat.BookI
set_option linter.unusedSimpArgs false
set_option linter.unusedVariables false
set_option maxRecDepth 100000
/-- What other weights are put in their places. -/
def hf (x : Int) : Int := wrap64 (wrap64 (Int.tdiv x 2) + 1)
theorem half_at {ws : List Int} {k : Nat} {x : Int} (h : ws[k]? = some x) : (nums .i64 ((ws.take k).map hf ++ ws.drop k) ++ [.int .i64 (-8777)])[k]? = some (.int .i64 x) := by
  have hk := (List.getElem?_eq_some_iff.1 h).1
  rw [List.getElem?_append_left (by simp [nums]; omega)]
  unfold nums
  rw [List.getElem?_map, List.getElem?_append_right (by simp; omega), List.getElem?_drop]
  rw [show k + (k - ((ws.take k).map hf).length) = k by simp; omega, h]
  rfl
theorem half_step {ws : List Int} {k : Nat} {x : Int} (h : ws[k]? = some x) : (nums .i64 ((ws.take k).map hf ++ ws.drop k) ++ [Value.int .i64 (-8777)]).set k (Value.int .i64 (hf x)) = nums .i64 ((ws.take (k + 1)).map hf ++ ws.drop (k + 1)) ++ [Value.int .i64 (-8777)] := by
  have hk := (List.getElem?_eq_some_iff.1 h).1
  have e : ws[k] = x := (List.getElem?_eq_some_iff.1 h).2
  rw [List.set_append_left _ _ (by simp [nums]; omega), nums_set, List.set_append_right _ _ (by simp; omega)]
  rw [show k - ((ws.take k).map hf).length = 0 by simp; omega, List.drop_eq_getElem_cons hk, List.set_cons_zero, take_snoc ws k x h, List.map_append, List.append_assoc]
  rfl
theorem shares_far (a : Int) (A : Option Addr) (n c : Nat) (w : World) (hn : n ≤ 140737488351232) (HBE : Hid (decide (1048576 < n) = true)) :
    Calls Tryz.prog 3 #[.int .i64 a, .slice A n c] w fun e w' => e = .returned (.bool true) ∧ Below w.heap.size w w' := by
  go_enter Tryz.func3, Tryz.ntmps3
  go_wp2_with (first | (go_at_call 4; with_reducible refine (beyond1 n _ _ hn true HBE.out).mono ?_; rintro e w2 ⟨rfl, rfl⟩))
  go_ret
  exact ⟨rfl, alloc_below _ _⟩
set_option maxHeartbeats 8000000 in
theorem shares_near (a : Int) (ws : List Int) (A : Option Addr) (n c : Nat) (w : World) (h : Ints w .i64 A n ws) (hn : n ≤ 140737488351232) (HBE : Hid (decide (1048576 < n) = false)) (hn2 : n ≤ 1048576) :
    Calls Tryz.prog 3 #[.int .i64 a, .slice A n c] w fun e w' => e = .returned (.bool true) ∧ Below w.heap.size w w' := by
  have H := Lib.hid h
  have HLen : Hid (ws.length = n) := Lib.hid h.1
  obtain ⟨rs, hrs⟩ : ∃ rs, resL a ws = rs := ⟨_, rfl⟩
  obtain ⟨er, her⟩ : ∃ er, resE a ws = er := ⟨_, rfl⟩
  have HRS := Lib.hid hrs
  have HER := Lib.hid her
  have HRL : Hid (rs.length ≤ 1048576) := Lib.hid (by
    rw [← hrs]
    unfold resL
    split
    · rw [share_len, h.1]; exact hn2
    · exact Nat.zero_le _)
  have ee : (er == er) = true := by simp
  have en : (er != er) = false := by simp
  clear h hrs her
  go_enter Tryz.func3, Tryz.ntmps3
  go_wp2_with (first | (go_at_call 4; (with_reducible refine (beyond1 n _ _ hn false HBE.out).mono ?_); rintro e W9 ⟨rfl, rfl⟩; have HL := Lib.hid (alloc_below w (.cells #[.int .i64 (n : Int)] 3))) | (go_at_call 5; (with_reducible refine (twin_c ws A n c _ _ (size_alloc _ _) (H.out.keep (alloc_below _ _)) hn2).mono ?_); rintro e W9 ⟨rfl, hB2, hb, hs2⟩; replace HL := Lib.hid (kbt HL.out hb); have HT := Lib.hid hB2; have HS2 := Lib.hid hs2; clear hb hB2 hs2) | (go_at_call 6; (with_reducible refine (rshare_v a ws A n c _ rs er (H.out.keep HL.out) hn2 HRS HER).mono ?_); rintro e W9 ⟨⟨A3, c3, rfl, hI⟩, hb⟩; replace HL := Lib.hid (kbt HL.out hb); replace HT := Lib.hid (HT.out.keep hb); (try replace H3 := Lib.hid (H3.out.keep hb)); (try replace H4 := Lib.hid (H4.out.keep hb)); (try replace H5 := Lib.hid (H5.out.keep hb)); have H3 := Lib.hid hI; have HZ := Lib.hid (Nat.le_trans (Nat.le_of_eq HS2.out.symm) hb.size); clear hb hI) | (go_at_call 7; (with_reducible refine (share_v a ws _ n _ _ rs er (twin_reads HT.out HLen.out) hn2 HRS HER).mono ?_); rintro e W9 ⟨⟨A4, c4, rfl, hO⟩, hb⟩; (fail_if_success (have := H4)); replace HL := Lib.hid (kbt HL.out hb); replace HT := Lib.hid (HT.out.keep hb); (try replace H3 := Lib.hid (H3.out.keep hb)); (try replace H4 := Lib.hid (H4.out.keep hb)); (try replace H5 := Lib.hid (H5.out.keep hb)); have H4 := Lib.hid (own_mono hO HZ.out); have HZ4 := Lib.hid (Nat.le_trans HZ.out hb.size); have HW4 := Lib.hid hO.lt; clear hb hO) | (go_at_call 7; (with_reducible refine (share_v a ws _ n _ _ rs er (twin_reads HT.out HLen.out) hn2 HRS HER).mono ?_); rintro e W9 ⟨⟨A5, c5, rfl, hO⟩, hb⟩; replace HL := Lib.hid (kbt HL.out hb); replace HT := Lib.hid (HT.out.keep hb); (try replace H3 := Lib.hid (H3.out.keep hb)); (try replace H4 := Lib.hid (H4.out.keep hb)); (try replace H5 := Lib.hid (H5.out.keep hb)); have H5 := Lib.hid (own_mono hO HZ4.out); have HD : Hid (∀ b, (Value.slice A4 rs.length c4).ownBlock = some b → (Value.slice A5 rs.length c5).ownBlock ≠ some b) := Lib.hid (fun b h1 h2 => Nat.lt_irrefl _ (Nat.lt_of_lt_of_le (HW4.out b h1) (hO.base_le b h2))); clear hb hO) | (go_at_call 8; (with_reducible refine (same_c rs A4 A3 rs.length c4 c3 _ (own_ints H4.out) H3.out HRL.out).mono ?_); rintro e W9 ⟨rfl, hd⟩; have hb := dr_bel hd; replace HL := Lib.hid (kbt HL.out hb); replace HT := Lib.hid (HT.out.keep hb); (try replace H3 := Lib.hid (H3.out.keep hb)); (try replace H4 := Lib.hid (H4.out.keep hb)); (try replace H5 := Lib.hid (H5.out.keep hb)); clear hb; clear hd) | (go_at_call 8; (with_reducible refine (same_c rs A5 A3 rs.length c5 c3 _ (own_ints H5.out) H3.out HRL.out).mono ?_); rintro e W9 ⟨rfl, hd⟩; have hb := dr_bel hd; replace HL := Lib.hid (kbt HL.out hb); replace HT := Lib.hid (HT.out.keep hb); (try replace H3 := Lib.hid (H3.out.keep hb)); (try replace H4 := Lib.hid (H4.out.keep hb)); (try replace H5 := Lib.hid (H5.out.keep hb)); clear hb; clear hd) | (go_at_call 10; (with_reducible refine (keep_first _ _ A4 _ c4 (bk0_new W9)).mono ?_); rintro e W10 ⟨rfl, h0, cp0, hk1, hc1, hh0⟩; have HS : Hid (w.heap.size + 1 + 1 ≤ W9.heap.size) := Lib.hid HT.out.lt; have HK1 := Lib.hid hk1; have HC1 := Lib.hid hc1; have HH0 := Lib.hid hh0; clear hk1 hc1 hh0) | (go_at_call 10; (with_reducible refine (keep_next _ _ h0 _ _ _ _ A5 _ c5 HK1.out (by omega)).mono ?_); rintro e W11 ⟨rfl, h1, cp1, hk2, hc2, hh1⟩; have hb := told HC1.out HH0.out hc2; have HZ5 : Hid (w.heap.size + 1 + 1 ≤ h1) := Lib.hid (low HS.out HH0.out HC1.out hh1); replace HS := Lib.hid (Nat.le_trans HS.out hb.size); replace HL := Lib.hid (kbt HL.out hb); replace HT := Lib.hid (HT.out.keep hb); (try replace H3 := Lib.hid (H3.out.keep hb)); (try replace H4 := Lib.hid (H4.out.keep hb)); (try replace H5 := Lib.hid (H5.out.keep hb)); have HK2 : Hid (Bk W11 _ h1 cp1 2 ⟨h1, 0, none⟩ (two (.slice A4 rs.length c4) (.slice A5 rs.length c5)) Z) := Lib.hid hk2; clear hb hk2 hc2 hh1) | (go_at_call 11; (with_reducible refine (apart_ints _ _ h1 cp1 2 _ _ (w.heap.size + 1 + 1) (fun _ => rs.length) _ HS.out HK2.out (rows_two H4.out H5.out (by have := HRL.out; omega)) (dis_two HD.out)).mono ?_); rintro e W12 ⟨rfl, hc3⟩; replace HL := Lib.hid (below_chg HL.out hc3 (fun b h => Nat.le_trans (Nat.le_succ_of_le (Nat.le_succ _)) (gb_two H4.out H5.out HZ5.out b h))); replace HT := Lib.hid (hc3.blk HT.out (fun h => Nat.not_succ_le_self _ (gb_two H4.out H5.out HZ5.out _ h))); clear hc3) | (go_at_call 9; (with_reducible refine (left_c ws _ A n c _ HT.out (H.out.keep HL.out) hn2).mono ?_); rintro e W9 ⟨rfl, hd⟩; have hb := dr_bel hd; replace HL := Lib.hid (kbt HL.out hb); replace HT := Lib.hid (HT.out.keep hb); (try replace H3 := Lib.hid (H3.out.keep hb)); (try replace H4 := Lib.hid (H4.out.keep hb)); (try replace H5 := Lib.hid (H5.out.keep hb)); clear hb; clear hd))
  have HT0 := HT
  have HL0 := HL
  go_loopw [13] (fun i wr => ∃ k : Nat, k ≤ n ∧ i = .int .i64 k ∧ Hid (Blk wr (w.heap.size + 1) 3 (nums .i64 ((ws.take k).map hf ++ ws.drop k) ++ [.int .i64 (-8777)])) ∧ Hid (Below w.heap.size w wr)) (fun i _ => n - (intOf i).toNat)
  case atStart => exact ⟨0, Nat.zero_le _, rfl, by simpa using HT, HL⟩
  case round =>
    clear HT0 HL0 HT HL
    obtain ⟨k, hk, rfl, HT, HL⟩ := hrel
    by_cases hlt : k < n
    · obtain ⟨x, hx⟩ : ∃ x, ws[k]? = some x := ⟨_, List.getElem?_eq_getElem (by have := HLen.out; omega)⟩
      have HX := Lib.hid (half_step hx)
      have c1 := HT.out.cellv (half_at hx)
      have f1 := HT.out.free k
      have HT2 := Lib.hid (HT.out.put k (.int .i64 (hf x)))
      rw [HX.out] at HT2
      have HL2 := Lib.hid (HL.out.setCell (p := ⟨w.heap.size + 1, k, none⟩) (Nat.le_succ _) (.int .i64 (hf x)))
      clear hx
      go_wp2
      go_roundw
      case rel => exact ⟨k + 1, by omega, by go_num, HT2, HL2⟩
      case measure => simp [intOf]; omega
    · obtain rfl : k = n := by omega
      have hd : (ws.take k).map hf ++ ws.drop k = ws.map hf := by rw [List.take_of_length_le (by rw [HLen.out]; omega), List.drop_eq_nil_of_le (by rw [HLen.out]; omega), List.append_nil]
      rw [hd] at HT
      clear hd
      have HLen2 : Hid ((ws.map hf).length = k) := Lib.hid (by simp; exact HLen.out)
      obtain ⟨rs2, hrs2⟩ : ∃ rs2, resL a (ws.map hf) = rs2 := ⟨_, rfl⟩
      obtain ⟨er2, her2⟩ : ∃ er2, resE a (ws.map hf) = er2 := ⟨_, rfl⟩
      have HRS2 := Lib.hid hrs2
      have HER2 := Lib.hid her2
      have HRL2 : Hid (rs2.length ≤ 1048576) := Lib.hid (by
        rw [← hrs2]
        unfold resL
        split
        · rw [share_len, HLen2.out]; exact hn2
        · exact Nat.zero_le _)
      have ee2 : (er2 == er2) = true := by simp
      clear hrs2 her2
      go_wp2_with (first | (go_at_call 5; (with_reducible refine (twin_c (ws.map hf) _ k _ _ _ rfl (twin_reads HT.out HLen2.out) hn2).mono ?_); rintro e W9 ⟨rfl, hB2, hb, hs2⟩; replace HL := Lib.hid (kbt HL.out hb); replace HT := Lib.hid (HT.out.keep hb); (try replace HU := Lib.hid (HU.out.keep hb)); (try replace H6 := Lib.hid (H6.out.keep hb)); have HU := Lib.hid hB2; clear hb hB2 hs2) | (go_at_call 6; (with_reducible refine (rshare_v a (ws.map hf) _ k _ _ rs2 er2 (twin_reads HU.out HLen2.out) hn2 HRS2 HER2).mono ?_); rintro e W9 ⟨⟨A6, c6, rfl, hI⟩, hb⟩; replace HL := Lib.hid (kbt HL.out hb); replace HT := Lib.hid (HT.out.keep hb); (try replace HU := Lib.hid (HU.out.keep hb)); (try replace H6 := Lib.hid (H6.out.keep hb)); have H6 := Lib.hid hI; clear hb hI) | (go_at_call 7; (with_reducible refine (share_v a (ws.map hf) _ k _ _ rs2 er2 (twin_reads HT.out HLen2.out) hn2 HRS2 HER2).mono ?_); rintro e W9 ⟨⟨A7, c7, rfl, hO⟩, hb⟩; replace HL := Lib.hid (kbt HL.out hb); replace HT := Lib.hid (HT.out.keep hb); (try replace HU := Lib.hid (HU.out.keep hb)); (try replace H6 := Lib.hid (H6.out.keep hb)); have H7 := Lib.hid (own_ints hO); clear hb hO) | (go_at_call 8; (with_reducible refine (same_c rs2 A7 A6 rs2.length c7 c6 _ H7.out H6.out HRL2.out).mono ?_); rintro e W9 ⟨rfl, hd⟩; have hb := dr_bel hd; replace HL := Lib.hid (kbt HL.out hb); clear hb hd))
      go_ret
      exact ⟨rfl, HL.out⟩
/-- The law. -/
theorem shares (a : Int) (ws : List Int) (A : Option Addr) (n c : Nat) (w : World) (ha : (Lit.int .i64 a).wf = true) (h : Ints w .i64 A n ws) (hc : n ≤ c) (hn : n ≤ 140737488351232) :
    Calls Tryz.prog 3 #[.int .i64 a, .slice A n c] w fun e w' => e = .returned (.bool true) ∧ Below w.heap.size w w' := by
  by_cases hb : 1048576 < n
  · exact shares_far a A n c w hn (Lib.hid (decide_eq_true hb))
  exact shares_near a ws A n c w h hn (Lib.hid (decide_eq_false hb)) (by omega)
end Go.Proofs.YtfehdajjnbehdaaGreat.Shares
