/- The walk of StatsHistograms. -/
import Derived.Test.YtbplgjocammnbabGreatHG0
import Derived.Test.YtbplgjocammnbabGreatLives
namespace Go.Proofs.YtbplgjocammnbabGreat.HG
open Go.RowKit Go.Proofs.YtbplgjocammnbabGreat.Aid Go.Proofs.YtbplgjocammnbabGreat.Mem Go.Proofs.YtbplgjocammnbabGreat.Keep Go.Proofs.YtbplgjocammnbabGreat.Twin Go.Proofs.YtbplgjocammnbabGreat.TwinF Go.Proofs.YtbplgjocammnbabGreat.Two Go.Proofs.YtbplgjocammnbabGreat.Cont Go.Proofs.YtbplgjocammnbabGreat.Edges Go.Proofs.YtbplgjocammnbabGreat.HistP Go.Proofs.YtbplgjocammnbabGreat.BookI
set_option linter.unusedSimpArgs false
set_option linter.unusedVariables false
set_option maxRecDepth 100000
theorem hg_far (T : Option Addr) (p pc : Nat) (A : Option Addr) (n c : Nat) (w : World) (hp0 : p ≤ 140737488351232) (hn0 : n ≤ 140737488351232) (HBE : Hid (decide (1048576 < p + n) = true)) :
    Calls Tryz.prog 3 #[.slice T p pc, .slice A n c] w fun e w' => e = .returned (.bool true) ∧ Below w.heap.size w w' := by
  go_enter Tryz.func3, Tryz.ntmps3
  go_wp2_with (first | (go_at_call 4; with_reducible refine (beyond2 p n _ _ hp0 hn0 true HBE.out).mono ?_; rintro e w2 ⟨rfl, rfl⟩))
  go_ret
  exact ⟨rfl, alloc_below _ _⟩
set_option maxHeartbeats 8000000 in
theorem hg_near (es : List Nat) (T : Option Addr) (p pc : Nat) (xs : List Int) (A : Option Addr) (n c : Nat) (w : World) (h0 : Ints w .u64 T p (es.map fun x : Nat => (x : Int))) (h : Ints w .i64 A n xs) (hw : ∀ e ∈ es, e < 18446744073709551616) (hp0 : p ≤ 140737488351232) (hn0 : n ≤ 140737488351232) (HBE : Hid (decide (1048576 < p + n) = false)) (hp : p ≤ 1048576) (hn : n ≤ 1048576) :
    Calls Tryz.prog 3 #[.slice T p pc, .slice A n c] w fun e w' => e = .returned (.bool true) ∧ Below w.heap.size w w' := by
  have H0 := Lib.hid h0
  have H1 := Lib.hid h
  have HW := Lib.hid hw
  have HLen : Hid (xs.length = n) := Lib.hid h.1
  have HLE : Hid (es.length = p) := Lib.hid (by have := h0.1; simpa using this)
  have hp1 : p ≤ 17592186044415 := by omega
  obtain ⟨rs, hrs⟩ : ∃ rs, rL es xs = rs := ⟨_, rfl⟩
  obtain ⟨er, her⟩ : ∃ er, hE es = er := ⟨_, rfl⟩
  have HRS := Lib.hid hrs
  have HER := Lib.hid her
  have HRL : Hid (rs.length ≤ 1048577) := Lib.hid (by
    rw [← hrs]
    unfold rL
    split
    · exact Nat.zero_le _
    · split
      · exact Nat.zero_le _
      · rw [hist_length, HLE.out]; omega)
  have ee : (er == er) = true := by simp
  have en : (er != er) = false := by simp
  clear h0 h hw hrs her
  go_enter Tryz.func3, Tryz.ntmps3
  go_wp2_with (first | (go_at_call 4; (with_reducible refine (beyond2 p n _ _ hp0 hn0 false HBE.out).mono ?_); rintro e W9 ⟨rfl, rfl⟩; have HL := Lib.hid (alloc_below w (.cells #[.int .i64 (p : Int), .int .i64 (n : Int)] 3))) | (go_at_call 5; (with_reducible refine (edges_c es T p pc _ (H0.out.keep HL.out) hp1).mono ?_); rintro e W9 ⟨⟨X, xc, rfl, hX⟩, hb⟩; replace HL := Lib.hid (kbt HL.out hb); (try replace HX := Lib.hid (HX.out.keep hb)); (try replace HE := Lib.hid (HE.out.keep hb)); (try replace HT := Lib.hid (HT.out.keep hb)); (try replace H3 := Lib.hid (H3.out.keep hb)); (try replace H4 := Lib.hid (H4.out.keep hb)); (try replace H5 := Lib.hid (H5.out.keep hb)); have HX := Lib.hid hX; obtain ⟨ge, hge⟩ : ∃ ge, W9.heap.size = ge := ⟨_, rfl⟩; have HGE := Lib.hid hge; have HG0 : Hid (w.heap.size ≤ ge) := Lib.hid (Nat.le_trans HL.out.size (Nat.le_of_eq hge)); clear hX hb hge) | (go_at_call 6; (with_reducible refine (twinf_c es X p xc _ ge HGE.out HX.out hp).mono ?_); rintro e W9 ⟨rfl, hB2, hb, hs2⟩; replace HL := Lib.hid (kbt HL.out hb); (try replace HX := Lib.hid (HX.out.keep hb)); (try replace HE := Lib.hid (HE.out.keep hb)); (try replace HT := Lib.hid (HT.out.keep hb)); (try replace H3 := Lib.hid (H3.out.keep hb)); (try replace H4 := Lib.hid (H4.out.keep hb)); (try replace H5 := Lib.hid (H5.out.keep hb)); have HE := Lib.hid hB2; have HG2 := Lib.hid hs2; clear hb hB2 hs2 HGE) | (go_at_call 7; (with_reducible refine (twin_c xs A n c _ _ HG2.out (H1.out.keep HL.out) hn).mono ?_); rintro e W9 ⟨rfl, hB2, hb, hs2⟩; replace HL := Lib.hid (kbt HL.out hb); (try replace HX := Lib.hid (HX.out.keep hb)); (try replace HE := Lib.hid (HE.out.keep hb)); (try replace HT := Lib.hid (HT.out.keep hb)); (try replace H3 := Lib.hid (H3.out.keep hb)); (try replace H4 := Lib.hid (H4.out.keep hb)); (try replace H5 := Lib.hid (H5.out.keep hb)); have HT := Lib.hid hB2; have HZ : Hid (ge + 1 + 1 ≤ W9.heap.size) := Lib.hid (Nat.le_of_eq hs2.symm); clear hb hB2 hs2 HG2) | (go_at_call 8; (with_reducible refine (hist_v es _ p _ xs _ n _ _ rs er (flt_reads HE.out HLE.out) hp (twin_reads HT.out HLen.out) hn HW.out HRS HER).mono ?_); rintro e W9 ⟨⟨A4, c4, rfl, hO⟩, hb⟩; (fail_if_success (have := H4)); replace HL := Lib.hid (kbt HL.out hb); (try replace HX := Lib.hid (HX.out.keep hb)); (try replace HE := Lib.hid (HE.out.keep hb)); (try replace HT := Lib.hid (HT.out.keep hb)); (try replace H3 := Lib.hid (H3.out.keep hb)); (try replace H4 := Lib.hid (H4.out.keep hb)); (try replace H5 := Lib.hid (H5.out.keep hb)); have H4 := Lib.hid (own_mono hO HZ.out); replace HZ := Lib.hid (Nat.le_trans HZ.out hb.size); have HW4 := Lib.hid hO.lt; clear hb hO) | (go_at_call 8; (with_reducible refine (hist_v es _ p _ xs _ n _ _ rs er (flt_reads HE.out HLE.out) hp (twin_reads HT.out HLen.out) hn HW.out HRS HER).mono ?_); rintro e W9 ⟨⟨A5, c5, rfl, hO⟩, hb⟩; replace HL := Lib.hid (kbt HL.out hb); (try replace HX := Lib.hid (HX.out.keep hb)); (try replace HE := Lib.hid (HE.out.keep hb)); (try replace HT := Lib.hid (HT.out.keep hb)); (try replace H3 := Lib.hid (H3.out.keep hb)); (try replace H4 := Lib.hid (H4.out.keep hb)); (try replace H5 := Lib.hid (H5.out.keep hb)); have H5 := Lib.hid (own_mono hO HZ.out); have HD : Hid (∀ b, (Value.slice A4 rs.length c4).ownBlock = some b → (Value.slice A5 rs.length c5).ownBlock ≠ some b) := Lib.hid (fun b h1 h2 => Nat.lt_irrefl _ (Nat.lt_of_lt_of_le (HW4.out b h1) (hO.base_le b h2))); clear hb hO) | (go_at_call 9; (with_reducible refine (refh_v es X p xc xs A n c _ rs er HX.out hp (H1.out.keep HL.out) hn HW.out HRS HER).mono ?_); rintro e W9 ⟨⟨A3, c3, rfl, hI⟩, hb⟩; replace HL := Lib.hid (kbt HL.out hb); (try replace HX := Lib.hid (HX.out.keep hb)); (try replace HE := Lib.hid (HE.out.keep hb)); (try replace HT := Lib.hid (HT.out.keep hb)); (try replace H3 := Lib.hid (H3.out.keep hb)); (try replace H4 := Lib.hid (H4.out.keep hb)); (try replace H5 := Lib.hid (H5.out.keep hb)); have H3 := Lib.hid hI; clear hb hI) | (go_at_call 10; (with_reducible refine (same_big rs A4 A3 rs.length c4 c3 _ (own_ints H4.out) H3.out (Nat.le_trans HRL.out (by decide))).mono ?_); rintro e W9 ⟨rfl, hd⟩; have hb := dr_bel hd; replace HL := Lib.hid (kbt HL.out hb); (try replace HX := Lib.hid (HX.out.keep hb)); (try replace HE := Lib.hid (HE.out.keep hb)); (try replace HT := Lib.hid (HT.out.keep hb)); (try replace H3 := Lib.hid (H3.out.keep hb)); (try replace H4 := Lib.hid (H4.out.keep hb)); (try replace H5 := Lib.hid (H5.out.keep hb)); clear hd hb) | (go_at_call 10; (with_reducible refine (same_big rs A5 A3 rs.length c5 c3 _ (own_ints H5.out) H3.out (Nat.le_trans HRL.out (by decide))).mono ?_); rintro e W9 ⟨rfl, hd⟩; have hb := dr_bel hd; replace HL := Lib.hid (kbt HL.out hb); (try replace HX := Lib.hid (HX.out.keep hb)); (try replace HE := Lib.hid (HE.out.keep hb)); (try replace HT := Lib.hid (HT.out.keep hb)); (try replace H3 := Lib.hid (H3.out.keep hb)); (try replace H4 := Lib.hid (H4.out.keep hb)); (try replace H5 := Lib.hid (H5.out.keep hb)); clear hd hb) | (go_at_call 11; (with_reducible refine (leftf_c es _ X p xc _ HE.out HX.out hp HW.out).mono ?_); rintro e W9 ⟨rfl, hd⟩; have hb := dr_bel hd; replace HL := Lib.hid (kbt HL.out hb); (try replace HX := Lib.hid (HX.out.keep hb)); (try replace HE := Lib.hid (HE.out.keep hb)); (try replace HT := Lib.hid (HT.out.keep hb)); (try replace H3 := Lib.hid (H3.out.keep hb)); (try replace H4 := Lib.hid (H4.out.keep hb)); (try replace H5 := Lib.hid (H5.out.keep hb)); clear hd hb) | (go_at_call 12; (with_reducible refine (left_c xs _ A n c _ HT.out (H1.out.keep HL.out) hn).mono ?_); rintro e W9 ⟨rfl, hd⟩; have hb := dr_bel hd; replace HL := Lib.hid (kbt HL.out hb); (try replace HX := Lib.hid (HX.out.keep hb)); (try replace HE := Lib.hid (HE.out.keep hb)); (try replace HT := Lib.hid (HT.out.keep hb)); (try replace H3 := Lib.hid (H3.out.keep hb)); (try replace H4 := Lib.hid (H4.out.keep hb)); (try replace H5 := Lib.hid (H5.out.keep hb)); clear hd hb) | (go_at_call 13; (with_reducible refine (keep_first _ _ A4 _ c4 (bk0_new W9)).mono ?_); rintro e W10 ⟨rfl, h0, cp0, hk1, hc1, hh0⟩; have HS : Hid (ge + 1 + 1 ≤ W9.heap.size) := Lib.hid HT.out.lt; have HK1 := Lib.hid hk1; have HC1 := Lib.hid hc1; have HH0 := Lib.hid hh0; clear hk1 hc1 hh0) | (go_at_call 13; (with_reducible refine (keep_next _ _ h0 _ _ _ _ A5 _ c5 HK1.out (by omega)).mono ?_); rintro e W11 ⟨rfl, h1, cp1, hk2, hc2, hh1⟩; have hb := told HC1.out HH0.out hc2; have HZ5 : Hid (ge + 1 + 1 ≤ h1) := Lib.hid (low HS.out HH0.out HC1.out hh1); replace HS := Lib.hid (Nat.le_trans HS.out hb.size); replace HL := Lib.hid (kbt HL.out hb); (try replace HX := Lib.hid (HX.out.keep hb)); (try replace HE := Lib.hid (HE.out.keep hb)); (try replace HT := Lib.hid (HT.out.keep hb)); (try replace H3 := Lib.hid (H3.out.keep hb)); (try replace H4 := Lib.hid (H4.out.keep hb)); (try replace H5 := Lib.hid (H5.out.keep hb)); have HK2 : Hid (Bk W11 _ h1 cp1 2 ⟨h1, 0, none⟩ (two (.slice A4 rs.length c4) (.slice A5 rs.length c5)) Z) := Lib.hid hk2; clear hb hk2 hc2 hh1) | (go_at_call 14; (with_reducible refine (apart_ints _ _ h1 cp1 2 _ _ (ge + 1 + 1) (fun _ => rs.length) _ HS.out HK2.out (rows_two H4.out H5.out (by have := HRL.out; omega)) (dis_two HD.out)).mono ?_); rintro e W12 ⟨rfl, hc3⟩; replace HL := Lib.hid (below_chg HL.out hc3 (fun b h => Nat.le_trans HG0.out (Nat.le_trans (Nat.le_succ_of_le (Nat.le_succ _)) (gb_two H4.out H5.out HZ5.out b h)))); clear hc3) | (go_at_call 15; (with_reducible refine (Lives.lives_c _).mono ?_); rintro e W13 ⟨rfl, hb⟩; replace HL := Lib.hid (kbt HL.out hb); (try replace HX := Lib.hid (HX.out.keep hb)); (try replace HE := Lib.hid (HE.out.keep hb)); (try replace HT := Lib.hid (HT.out.keep hb)); (try replace H3 := Lib.hid (H3.out.keep hb)); (try replace H4 := Lib.hid (H4.out.keep hb)); (try replace H5 := Lib.hid (H5.out.keep hb)); clear hb))
  go_ret
  exact ⟨rfl, HL.out⟩
theorem hg (es : List Nat) (T : Option Addr) (p pc : Nat) (xs : List Int) (A : Option Addr) (n c : Nat) (w : World) (h0 : Ints w .u64 T p (es.map fun x : Nat => (x : Int))) (h : Ints w .i64 A n xs) (hw : ∀ e ∈ es, e < 18446744073709551616) (hp0 : p ≤ 140737488351232) (hn0 : n ≤ 140737488351232) :
    Calls Tryz.prog 3 #[.slice T p pc, .slice A n c] w fun e w' => e = .returned (.bool true) ∧ Below w.heap.size w w' := by
  by_cases hb : 1048576 < p + n
  · exact hg_far T p pc A n c w hp0 hn0 (Lib.hid (decide_eq_true hb))
  exact hg_near es T p pc xs A n c w h0 h hw hp0 hn0 (Lib.hid (decide_eq_false hb)) (by omega) (by omega)
theorem walk (ts : List Int) (T : Option Addr) (p pc : Nat) (xs : List Int) (A : Option Addr) (n c : Nat) (w : World) (h0 : Ints w .u64 T p ts) (z0 : ∀ x ∈ ts, (Lit.int .u64 x).wf = true) (b0 : p ≤ 140737488351232) (h : Ints w .i64 A n xs) (b1 : n ≤ 140737488351232) :
    Calls Tryz.prog 3 #[.slice T p pc, .slice A n c] w fun e w' => e = .returned (.bool true) ∧ Below w.heap.size w w' := by
  obtain ⟨es, rfl, hw⟩ : ∃ es : List Nat, ts = es.map (fun x : Nat => (x : Int)) ∧ ∀ e ∈ es, e < 18446744073709551616 := by
    refine ⟨ts.map Int.toNat, ?_, ?_⟩
    · rw [List.map_map]
      refine (List.map_id ts).symm.trans (List.map_congr_left fun x hx => ?_)
      obtain ⟨y, rfl, _⟩ := u64_nat (z0 x hx)
      simp
    · intro e he
      obtain ⟨x, hx, rfl⟩ := List.mem_map.1 he
      obtain ⟨y, rfl, hy⟩ := u64_nat (z0 x hx)
      simpa using hy
  exact hg es T p pc xs A n c w h0 h hw b0 b1
end Go.Proofs.YtbplgjocammnbabGreat.HG
