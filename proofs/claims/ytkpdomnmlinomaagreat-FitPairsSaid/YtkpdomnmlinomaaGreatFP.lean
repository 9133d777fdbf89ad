/- The walk of FitPairs. -/
import Derived.Test.YtkpdomnmlinomaaGreatFP0
namespace Go.Proofs.YtkpdomnmlinomaaGreat.FP
open Go.RowKit Go.Proofs.YtkpdomnmlinomaaGreat.Aid Go.Proofs.YtkpdomnmlinomaaGreat.Mem Go.Proofs.YtkpdomnmlinomaaGreat.Keep Go.Proofs.YtkpdomnmlinomaaGreat.Recs Go.Proofs.YtkpdomnmlinomaaGreat.Types Go.Proofs.YtkpdomnmlinomaaGreat.TwinS Go.Proofs.YtkpdomnmlinomaaGreat.SameS Go.Proofs.YtkpdomnmlinomaaGreat.PairsG Go.Proofs.YtkpdomnmlinomaaGreat.BookS
set_option linter.unusedSimpArgs false
set_option linter.unusedVariables false
set_option maxRecDepth 100000
/-- Other requests, other drivers. -/
def sv (s : Int) : Int := (s + 2) % 256
def cv (s : Int) : Int := bits BinOp.xor IntKind.u8 s 1
def cy (y : Idl) : Idl := { y with cls := cv y.cls }
def sx (x : Wai) : Wai := { x with seats := sv x.seats }
theorem sx_wf {xs : List Wai} (h : ∀ x ∈ xs, x.wf) : ∀ x ∈ xs.map sx, x.wf := by
  intro y hy
  obtain ⟨x, hx, rfl⟩ := List.mem_map.1 hy
  have w := h x hx
  exact ⟨w.i0, w.i1, w.i2, w.i3, w.i4, w.i5, w.i6, w.i7, w.fx, w.fy, w.tx, w.ty, by show (Lit.int .u8 ((x.seats + 2) % 256)).wf = true; simp only [Lit.wf, IntKind.min, IntKind.max, IntKind.signed, IntKind.bits, Bool.and_eq_true, decide_eq_true_eq]; constructor <;> (simp; omega), w.classes, w.base, w.ttl, w.since, w.number⟩
theorem cy_wf {ys : List Idl} (h : ∀ y ∈ ys, y.wf) : ∀ y ∈ ys.map cy, y.wf := by
  intro z hz
  obtain ⟨y, hy, rfl⟩ := List.mem_map.1 hz
  have w := h y hy
  exact ⟨w.i0, w.i1, w.i2, w.i3, w.i4, w.i5, w.i6, w.i7, w.ax, w.ay, w.seats, by show (Lit.int .u8 (bits BinOp.xor IntKind.u8 y.cls 1)).wf = true; unfold bits; exact Go.wf_wrap _ _, w.radius, w.number⟩
theorem fp_far (A B : Option Addr) (n m ca cb : Nat) (w : World) (hn : n ≤ 140737488351232) (hm : m ≤ 140737488351232) (HBE : Hid (decide (1048576 < n + m) = true)) :
    Calls Tryz.prog 3 #[.slice A n ca, .slice B m cb] w fun e w' => e = .returned (.bool true) ∧ Below w.heap.size w w' := by
  go_enter Tryz.func3, Tryz.ntmps3
  go_wp2_with (first | (go_at_call 4; with_reducible refine (beyond2 n m _ _ hn hm true HBE.out).mono ?_; rintro e w2 ⟨rfl, rfl⟩))
  go_ret
  exact ⟨rfl, alloc_below _ _⟩
set_option maxHeartbeats 8000000 in
theorem fp_near (xs : List Wai) (ys : List Idl) (A B : Option Addr) (n m ca cb : Nat) (w : World) (h : Recs w 18 A n (xs.map Wai.list)) (hi : Recs w 14 B m (ys.map Idl.list)) (hn : n ≤ 140737488351232) (hm : m ≤ 140737488351232) (wx : ∀ x ∈ xs, x.wf) (wy : ∀ y ∈ ys, y.wf) (HBE : Hid (decide (1048576 < n + m) = false)) (hnm : n + m ≤ 1048576) (hn2 : n ≤ 1048576) (hm2 : m ≤ 1048576) :
    Calls Tryz.prog 3 #[.slice A n ca, .slice B m cb] w fun e w' => e = .returned (.bool true) ∧ Below w.heap.size w w' := by
  have H := Lib.hid h
  have HI := Lib.hid hi
  have WX := Lib.hid wx
  have WY := Lib.hid wy
  have HN : Hid (xs.length = n) := Lib.hid (by have := h.1; simpa using this)
  have HM : Hid (ys.length = m) := Lib.hid (by have := hi.1; simpa using this)
  obtain ⟨ps, hps⟩ : ∃ ps, allP xs ys n = ps := ⟨_, rfl⟩
  have HPS := Lib.hid hps
  have HPL : Hid (ps.length ≤ 1099511627776) := Lib.hid (ps_len HM.out hnm hps)
  clear h hi wx wy hps
  go_enter Tryz.func3, Tryz.ntmps3
  go_wp2_with (first | (go_at_call 4; (with_reducible refine (beyond2 n m _ _ hn hm false HBE.out).mono ?_); rintro e W9 ⟨rfl, rfl⟩; have HL := Lib.hid (alloc_below w (.cells #[.int .i64 (n : Int), .int .i64 (m : Int)] 3))) | (go_at_call 5; (with_reducible refine (twin_wai (xs.map Wai.list) A n ca _ _ (size_alloc _ _) (H.out.keep (alloc_below _ _)) (wai_one xs) hn2).mono ?_); rintro e W9 ⟨rfl, hB2, hb⟩; replace HL := Lib.hid (kbt HL.out hb); have HX := Lib.hid hB2; clear hb hB2) | (go_at_call 6; refine Exists.elim (⟨_, rfl⟩ : ∃ G, W9.heap.size = G) ?_; intro GY eGY; (with_reducible refine (twin_idl (ys.map Idl.list) B m cb _ GY eGY (HI.out.keep HL.out) (idl_one ys) hm2).mono ?_); rintro e W9 ⟨rfl, hB2, hb⟩; have HGX : Hid (w.heap.size + 1 < GY) := Lib.hid (by rw [← eGY]; exact HX.out.lt); replace HL := Lib.hid (kbt HL.out hb); (try replace HX := Lib.hid (HX.out.keep hb)); (try replace HY := Lib.hid (HY.out.keep hb)); (try replace H3 := Lib.hid (H3.out.keep hb)); (try replace H4 := Lib.hid (H4.out.keep hb)); (try replace H5 := Lib.hid (H5.out.keep hb)); (try replace H6 := Lib.hid (H6.out.keep hb)); have HY := Lib.hid hB2; clear hb hB2 eGY) | (go_at_call 7; (with_reducible refine (rpairs_v xs ys A B n m ca cb _ ps (H.out.keep HL.out) (HI.out.keep HL.out) WX WY hn2 hm2 HPS).mono ?_); rintro e W9 ⟨⟨A3, c3, rfl, hO⟩, hb⟩; replace HL := Lib.hid (kbt HL.out hb); (try replace HX := Lib.hid (HX.out.keep hb)); (try replace HY := Lib.hid (HY.out.keep hb)); (try replace H3 := Lib.hid (H3.out.keep hb)); (try replace H4 := Lib.hid (H4.out.keep hb)); (try replace H5 := Lib.hid (H5.out.keep hb)); (try replace H6 := Lib.hid (H6.out.keep hb)); have H3 := Lib.hid hO; clear hb hO; refine Exists.elim (⟨_, rfl⟩ : ∃ G, W9.heap.size = G) ?_; intro Z3 eZ3; have HZ3 := Lib.hid eZ3; have LZ3 : Hid (GY < Z3) := Lib.hid (by rw [← eZ3]; exact HY.out.lt); have OZ3 : Hid (∀ b, (Value.slice A3 ps.length c3).ownBlock = some b → b < Z3) := Lib.hid (fun b h => by rw [← eZ3]; exact H3.out.lt b h); clear eZ3) | (go_at_call 8; (with_reducible refine (pairs_v xs ys _ _ n m _ _ _ ps (recs_wai HX.out HN.out) (recs_idl HY.out HM.out) WX WY hn2 hm2 HPS).mono ?_); rintro e W9 ⟨⟨A4, c4, rfl, hO⟩, hb⟩; (fail_if_success (have := H4)); replace HL := Lib.hid (kbt HL.out hb); (try replace HX := Lib.hid (HX.out.keep hb)); (try replace HY := Lib.hid (HY.out.keep hb)); (try replace H3 := Lib.hid (H3.out.keep hb)); (try replace H4 := Lib.hid (H4.out.keep hb)); (try replace H5 := Lib.hid (H5.out.keep hb)); (try replace H6 := Lib.hid (H6.out.keep hb)); have H4 := Lib.hid (own_mono hO (Nat.le_of_eq HZ3.out.symm)); have HZ4 := Lib.hid (Nat.le_trans (Nat.le_of_eq HZ3.out.symm) hb.size); have HW4 := Lib.hid hO.lt; clear hb hO) | (go_at_call 8; (with_reducible refine (pairs_v xs ys _ _ n m _ _ _ ps (recs_wai HX.out HN.out) (recs_idl HY.out HM.out) WX WY hn2 hm2 HPS).mono ?_); rintro e W9 ⟨⟨A5, c5, rfl, hO⟩, hb⟩; (fail_if_success (have := H5)); replace HL := Lib.hid (kbt HL.out hb); (try replace HX := Lib.hid (HX.out.keep hb)); (try replace HY := Lib.hid (HY.out.keep hb)); (try replace H3 := Lib.hid (H3.out.keep hb)); (try replace H4 := Lib.hid (H4.out.keep hb)); (try replace H5 := Lib.hid (H5.out.keep hb)); (try replace H6 := Lib.hid (H6.out.keep hb)); have H5 := Lib.hid (own_mono hO HZ4.out); have HD : Hid (∀ b, (Value.slice A4 ps.length c4).ownBlock = some b → (Value.slice A5 ps.length c5).ownBlock ≠ some b) := Lib.hid (fun b h1 h2 => Nat.lt_irrefl _ (Nat.lt_of_lt_of_le (HW4.out b h1) (hO.base_le b h2))); have HS := Lib.hid (Nat.le_trans HZ4.out hb.size); clear hb hO) | (go_at_call 8; (with_reducible refine (pairs_v xs ys _ _ n m _ _ _ ps (recs_wai HX.out HN.out) (recs_idl HY.out HM.out) WX WY hn2 hm2 HPS).mono ?_); rintro e W9 ⟨⟨A6, c6, rfl, hO⟩, hb⟩; replace HL := Lib.hid (kbt HL.out hb); (try replace HX := Lib.hid (HX.out.keep hb)); (try replace HY := Lib.hid (HY.out.keep hb)); (try replace H3 := Lib.hid (H3.out.keep hb)); (try replace H4 := Lib.hid (H4.out.keep hb)); (try replace H5 := Lib.hid (H5.out.keep hb)); (try replace H6 := Lib.hid (H6.out.keep hb)); have H6 := Lib.hid hO; clear hb hO) | (go_at_call 9; (with_reducible refine (sameP ps A4 A3 c4 c3 _ H4.out H3.out HPL.out).mono ?_); rintro e W9 ⟨rfl, hb⟩; replace HL := Lib.hid (kbt HL.out hb); (try replace HX := Lib.hid (HX.out.keep hb)); (try replace HY := Lib.hid (HY.out.keep hb)); (try replace H3 := Lib.hid (H3.out.keep hb)); (try replace H4 := Lib.hid (H4.out.keep hb)); (try replace H5 := Lib.hid (H5.out.keep hb)); (try replace H6 := Lib.hid (H6.out.keep hb)); replace HS := Lib.hid (Nat.le_trans HS.out hb.size); clear hb) | (go_at_call 9; (with_reducible refine (sameP ps A5 A3 c5 c3 _ H5.out H3.out HPL.out).mono ?_); rintro e W9 ⟨rfl, hb⟩; replace HL := Lib.hid (kbt HL.out hb); (try replace HX := Lib.hid (HX.out.keep hb)); (try replace HY := Lib.hid (HY.out.keep hb)); (try replace H3 := Lib.hid (H3.out.keep hb)); (try replace H4 := Lib.hid (H4.out.keep hb)); (try replace H5 := Lib.hid (H5.out.keep hb)); (try replace H6 := Lib.hid (H6.out.keep hb)); replace HS := Lib.hid (Nat.le_trans HS.out hb.size); clear hb) | (go_at_call 9; (with_reducible refine (sameP ps A6 A3 c6 c3 _ H6.out H3.out HPL.out).mono ?_); rintro e W9 ⟨rfl, hb⟩; replace HL := Lib.hid (kbt HL.out hb); (try replace HX := Lib.hid (HX.out.keep hb)); (try replace HY := Lib.hid (HY.out.keep hb)); (try replace H3 := Lib.hid (H3.out.keep hb)); (try replace H4 := Lib.hid (H4.out.keep hb)); (try replace H5 := Lib.hid (H5.out.keep hb)); (try replace H6 := Lib.hid (H6.out.keep hb)); clear hb) | (go_at_call 10; (with_reducible refine (left_wai xs _ A n ca _ HX.out (H.out.keep HL.out) hn2).mono ?_); rintro e W9 ⟨rfl, hb⟩; replace HL := Lib.hid (kbt HL.out hb); (try replace HX := Lib.hid (HX.out.keep hb)); (try replace HY := Lib.hid (HY.out.keep hb)); (try replace H3 := Lib.hid (H3.out.keep hb)); (try replace H4 := Lib.hid (H4.out.keep hb)); (try replace H5 := Lib.hid (H5.out.keep hb)); (try replace H6 := Lib.hid (H6.out.keep hb)); replace HS := Lib.hid (Nat.le_trans HS.out hb.size); clear hb) | (go_at_call 11; (with_reducible refine (left_idl ys GY B m cb _ HY.out (HI.out.keep HL.out) hm2).mono ?_); rintro e W9 ⟨rfl, hb⟩; replace HL := Lib.hid (kbt HL.out hb); (try replace HX := Lib.hid (HX.out.keep hb)); (try replace HY := Lib.hid (HY.out.keep hb)); (try replace H3 := Lib.hid (H3.out.keep hb)); (try replace H4 := Lib.hid (H4.out.keep hb)); (try replace H5 := Lib.hid (H5.out.keep hb)); (try replace H6 := Lib.hid (H6.out.keep hb)); replace HS := Lib.hid (Nat.le_trans HS.out hb.size); clear hb) | (go_at_call 12; (with_reducible refine (keep_first _ _ A4 _ c4 (bk0_new W9)).mono ?_); rintro e W10 ⟨rfl, h0, cp0, hk1, hc1, hh0⟩; have HK1 := Lib.hid hk1; have HC1 := Lib.hid hc1; have HH0 := Lib.hid hh0; clear hk1 hc1 hh0) | (go_at_call 12; (with_reducible refine (keep_next _ _ h0 _ _ _ _ A5 _ c5 HK1.out (by omega)).mono ?_); rintro e W11 ⟨rfl, h1, cp1, hk2, hc2, hh1⟩; have hb := told HC1.out HH0.out hc2; have HZ5 : Hid (Z3 ≤ h1) := Lib.hid (low HS.out HH0.out HC1.out hh1); replace HS := Lib.hid (Nat.le_trans HS.out hb.size); replace HL := Lib.hid (kbt HL.out hb); (try replace HX := Lib.hid (HX.out.keep hb)); (try replace HY := Lib.hid (HY.out.keep hb)); (try replace H3 := Lib.hid (H3.out.keep hb)); (try replace H4 := Lib.hid (H4.out.keep hb)); (try replace H5 := Lib.hid (H5.out.keep hb)); (try replace H6 := Lib.hid (H6.out.keep hb)); have HK2 : Hid (Bk W11 _ h1 cp1 2 ⟨h1, 0, none⟩ (two (.slice A4 ps.length c4) (.slice A5 ps.length c5)) Z) := Lib.hid hk2; clear hb hk2 hc2 hh1) | (go_at_call 13; (with_reducible refine (apart_s _ _ h1 cp1 2 _ _ Z3 (fun _ => ps.length) _ HS.out HK2.out (rows_two H4.out H5.out HPL.out) (dis_two HD.out)).mono ?_); rintro e W12 ⟨rfl, hc3⟩; have gz := gb_two H4.out H5.out HZ5.out; replace HL := Lib.hid (below_chg HL.out hc3 (fun b h => by have h1 := gz b h; have h2 := LZ3.out; have h3 := HGX.out; omega)); replace HX := Lib.hid (hc3.blk HX.out (fun h => by have h1 := gz _ h; have h2 := LZ3.out; have h3 := HGX.out; omega)); replace HY := Lib.hid (hc3.blk HY.out (fun h => by have h1 := gz _ h; have h2 := LZ3.out; omega)); replace H3 := Lib.hid (H3.out.chg hc3 (fun b hb h => by have h1 := gz b h; have h2 := OZ3.out b hb; omega)); clear hc3 gz))
  clear HK1 HC1 HH0 HZ5 HK2 HS HD HW4 HZ4 H3 H4 H5 H6 HZ3 OZ3 LZ3
  go_loopw [11] (fun i wr => ∃ k : Nat, k ≤ n ∧ i = .int .i64 k ∧ Hid (Blk wr (w.heap.size + 1) 70 ((((xs.take k).map sx ++ xs.drop k).map Wai.list).flatten ++ markwai)) ∧ Hid (Blk wr GY 74 ((ys.map Idl.list).flatten ++ markidl)) ∧ Hid (Below w.heap.size w wr)) (fun i _ => n - (intOf i).toNat)
  case atStart => exact ⟨0, Nat.zero_le _, rfl, by simpa using HX, HY, HL⟩
  case round =>
    clear HX HY HL
    obtain ⟨k, hk, rfl, HX, HY, HL⟩ := hrel
    by_cases hlt : k < n
    · obtain ⟨x, hx⟩ : ∃ x, xs[k]? = some x := ⟨_, List.getElem?_eq_getElem (by have := HN.out; omega)⟩
      have hlk : (((xs.take k).map sx ++ xs.drop k).map Wai.list)[k]? = some x.list := by rw [List.getElem?_map, half_get sx hx]; rfl
      have c1 : wr.cell? ⟨w.heap.size + 1, k * 18 + 12, none⟩ = some (.int .u8 x.seats) := cell_flat HX.out (len_wai _) hlk rfl
      have f1 := HX.out.free (k * 18 + 12)
      have HX2 := Lib.hid (HX.out.put (k * 18 + 12) (.int .u8 (sv x.seats)))
      rw [set_flat _ k 12 _ _ _ (len_wai _) hlk (by omega), show (x.list).set 12 (.int .u8 (sv x.seats)) = (sx x).list from rfl, ← List.map_set, half_set sx hx] at HX2
      have HY2 := Lib.hid (HY.out.far (p := ⟨w.heap.size + 1, k * 18 + 12, none⟩) (fun e => by have := HGX.out; simp at e; omega) (.int .u8 (sv x.seats)))
      have HL2 := Lib.hid (HL.out.setCell (p := ⟨w.heap.size + 1, k * 18 + 12, none⟩) (Nat.le_succ _) (.int .u8 (sv x.seats)))
      clear hx hlk
      go_wp2
      go_roundw
      case rel => exact ⟨k + 1, by omega, by go_num, HX2, HY2, HL2⟩
      case measure => simp [intOf]; omega
    · obtain rfl : k = n := by omega
      have hd : (xs.take k).map sx ++ xs.drop k = xs.map sx := by rw [List.take_of_length_le (by rw [HN.out]; omega), List.drop_eq_nil_of_le (by rw [HN.out]; omega), List.append_nil]
      rw [hd] at HX
      clear hd
      go_wp2
      go_loopw [12] (fun i wr => ∃ j : Nat, j ≤ m ∧ i = .int .i64 j ∧ Hid (Blk wr (w.heap.size + 1) 70 (((xs.map sx).map Wai.list).flatten ++ markwai)) ∧ Hid (Blk wr GY 74 ((((ys.take j).map cy ++ ys.drop j).map Idl.list).flatten ++ markidl)) ∧ Hid (Below w.heap.size w wr)) (fun i _ => m - (intOf i).toNat)
      case atStart => exact ⟨0, Nat.zero_le _, rfl, HX, by simpa using HY, HL⟩
      case round =>
        clear HX HY HL
        obtain ⟨j, hj, rfl, HX, HY, HL⟩ := hrel
        by_cases hl2 : j < m
        · obtain ⟨y, hy⟩ : ∃ y, ys[j]? = some y := ⟨_, List.getElem?_eq_getElem (by have := HM.out; omega)⟩
          have hlk : (((ys.take j).map cy ++ ys.drop j).map Idl.list)[j]? = some y.list := by rw [List.getElem?_map, half_get cy hy]; rfl
          have c1 : wr.cell? ⟨GY, j * 14 + 11, none⟩ = some (.int .u8 y.cls) := cell_flat HY.out (len_idl _) hlk rfl
          have f1 := HY.out.free (j * 14 + 11)
          have HY2 := Lib.hid (HY.out.put (j * 14 + 11) (.int .u8 (cv y.cls)))
          rw [set_flat _ j 11 _ _ _ (len_idl _) hlk (by omega), show (y.list).set 11 (.int .u8 (cv y.cls)) = (cy y).list from rfl, ← List.map_set, half_set cy hy] at HY2
          have HX2 := Lib.hid (HX.out.far (p := ⟨GY, j * 14 + 11, none⟩) (fun e => by have := HGX.out; simp at e; omega) (.int .u8 (cv y.cls)))
          have HL2 := Lib.hid (HL.out.setCell (p := ⟨GY, j * 14 + 11, none⟩) (by show w.heap.size ≤ GY; have := HGX.out; omega) (.int .u8 (cv y.cls)))
          clear hy hlk
          go_wp2
          go_roundw
          case rel => exact ⟨j + 1, by omega, by go_num, HX2, HY2, HL2⟩
          case measure => simp [intOf]; omega
        · obtain rfl : j = m := by omega
          have hd : (ys.take j).map cy ++ ys.drop j = ys.map cy := by rw [List.take_of_length_le (by rw [HM.out]; omega), List.drop_eq_nil_of_le (by rw [HM.out]; omega), List.append_nil]
          rw [hd] at HY
          clear hd
          have HN2 : Hid ((xs.map sx).length = k) := Lib.hid (by simp; exact HN.out)
          have HM2 : Hid ((ys.map cy).length = j) := Lib.hid (by simp; exact HM.out)
          have WX2 := Lib.hid (sx_wf WX.out)
          have WY2 := Lib.hid (cy_wf WY.out)
          obtain ⟨qs, hqs⟩ : ∃ qs, allP (xs.map sx) (ys.map cy) k = qs := ⟨_, rfl⟩
          have HQS := Lib.hid hqs
          have HQL : Hid (qs.length ≤ 1099511627776) := Lib.hid (ps_len HM2.out hnm hqs)
          clear hqs
          go_wp2_with (first | (go_at_call 8; (with_reducible refine (pairs_v (xs.map sx) (ys.map cy) _ _ k j _ _ _ qs (recs_wai HX.out HN2.out) (recs_idl HY.out HM2.out) WX2 WY2 hn2 hm2 HQS).mono ?_); rintro e W9 ⟨⟨A7, c7, rfl, hO⟩, hb⟩; replace HL := Lib.hid (kbt HL.out hb); (try replace HX := Lib.hid (HX.out.keep hb)); (try replace HY := Lib.hid (HY.out.keep hb)); (try replace H7 := Lib.hid (H7.out.keep hb)); (try replace HU := Lib.hid (HU.out.keep hb)); (try replace HV := Lib.hid (HV.out.keep hb)); (try replace H8 := Lib.hid (H8.out.keep hb)); have H7 := Lib.hid hO; clear hb hO) | (go_at_call 5; (with_reducible refine (twin_wai ((xs.map sx).map Wai.list) _ k _ _ _ rfl (recs_wai HX.out HN2.out) (wai_one _) hn2).mono ?_); rintro e W9 ⟨rfl, hB2, hb⟩; replace HL := Lib.hid (kbt HL.out hb); (try replace HX := Lib.hid (HX.out.keep hb)); (try replace HY := Lib.hid (HY.out.keep hb)); (try replace H7 := Lib.hid (H7.out.keep hb)); (try replace HU := Lib.hid (HU.out.keep hb)); (try replace HV := Lib.hid (HV.out.keep hb)); (try replace H8 := Lib.hid (H8.out.keep hb)); have HU := Lib.hid hB2; clear hb hB2) | (go_at_call 6; (with_reducible refine (twin_idl ((ys.map cy).map Idl.list) _ j _ _ _ rfl (recs_idl HY.out HM2.out) (idl_one _) hm2).mono ?_); rintro e W9 ⟨rfl, hB2, hb⟩; replace HL := Lib.hid (kbt HL.out hb); (try replace HX := Lib.hid (HX.out.keep hb)); (try replace HY := Lib.hid (HY.out.keep hb)); (try replace H7 := Lib.hid (H7.out.keep hb)); (try replace HU := Lib.hid (HU.out.keep hb)); (try replace HV := Lib.hid (HV.out.keep hb)); (try replace H8 := Lib.hid (H8.out.keep hb)); have HV := Lib.hid hB2; clear hb hB2) | (go_at_call 7; (with_reducible refine (rpairs_v (xs.map sx) (ys.map cy) _ _ k j _ _ _ qs (recs_wai HU.out HN2.out) (recs_idl HV.out HM2.out) WX2 WY2 hn2 hm2 HQS).mono ?_); rintro e W9 ⟨⟨A8, c8, rfl, hO⟩, hb⟩; replace HL := Lib.hid (kbt HL.out hb); (try replace HX := Lib.hid (HX.out.keep hb)); (try replace HY := Lib.hid (HY.out.keep hb)); (try replace H7 := Lib.hid (H7.out.keep hb)); (try replace HU := Lib.hid (HU.out.keep hb)); (try replace HV := Lib.hid (HV.out.keep hb)); (try replace H8 := Lib.hid (H8.out.keep hb)); have H8 := Lib.hid hO; clear hb hO) | (go_at_call 9; (with_reducible refine (sameP qs A7 A8 c7 c8 _ H7.out H8.out HQL.out).mono ?_); rintro e W9 ⟨rfl, hb⟩; replace HL := Lib.hid (kbt HL.out hb); clear hb))
          go_ret
          exact ⟨rfl, HL.out⟩
/-- The law. -/
theorem fitPairs (xs : List Wai) (A : Option Addr) (n ca : Nat) (ys : List Idl) (B : Option Addr) (m cb : Nat) (w : World) (hx : Recs w 18 A n (xs.map Wai.list)) (ha : n ≤ ca) (hn : n ≤ 140737488351232) (wx : ∀ x ∈ xs, x.wf) (hy : Recs w 14 B m (ys.map Idl.list)) (hb : m ≤ cb) (hm : m ≤ 140737488351232) (wy : ∀ y ∈ ys, y.wf) :
    Calls Tryz.prog 3 #[.slice A n ca, .slice B m cb] w fun e w' => e = .returned (.bool true) ∧ Below w.heap.size w w' := by
  by_cases hbe : 1048576 < n + m
  · exact fp_far A B n m ca cb w hn hm (Lib.hid (decide_eq_true hbe))
  exact fp_near xs ys A B n m ca cb w hx hy hn hm wx wy (Lib.hid (decide_eq_false hbe)) (by omega) (by omega) (by omega)
end Go.Proofs.YtkpdomnmlinomaaGreat.FP
