/- The walk of WeighGraphs. -/
import Derived.Test.YtkpdomnmlinomabGreatWG0
namespace Go.Proofs.YtkpdomnmlinomabGreat.WG
open Go.RowKit Go.Proofs.YtkpdomnmlinomabGreat.Aid Go.Proofs.YtkpdomnmlinomabGreat.Mem Go.Proofs.YtkpdomnmlinomabGreat.Keep Go.Proofs.YtkpdomnmlinomabGreat.Recs Go.Proofs.YtkpdomnmlinomabGreat.Types Go.Proofs.YtkpdomnmlinomabGreat.TwinS Go.Proofs.YtkpdomnmlinomabGreat.SameS Go.Proofs.YtkpdomnmlinomabGreat.PairsG Go.Proofs.YtkpdomnmlinomabGreat.BookS Go.Proofs.YtkpdomnmlinomabGreat.GrV
open Go.Proofs.YtkpdomnmlinomabGreat.Graph (lc_blk zG)
open Go.Proofs.YtkpdomnmlinomabGreat.GraphB (wts wAt cellsE)
open Go.Proofs.YtkpdomnmlinomabGreat.Weight (ca)
set_option linter.unusedSimpArgs false
set_option linter.unusedVariables false
set_option maxRecDepth 100000
attribute [local go_sem ↓] Keep.load_cfg load_gr
theorem wg_far (c : Cfg) (now : Int) (A B : Option Addr) (n m a b : Nat) (w : World) (hn : n ≤ 140737488351232) (hm : m ≤ 140737488351232) (HBE : Hid (decide (1048576 < n + m) = true)) :
    Calls Tryz.prog 3 #[c.val, .int .i64 now, .agg #[.slice A n a, .slice B m b]] w fun e w' => e = .returned (.bool true) ∧ Below w.heap.size w w' := by
  have K := Lib.hid (KL.start w c A n a B m b)
  have q0 := K.out.c0
  have q1 := K.out.c1
  go_enter Tryz.func3, Tryz.ntmps3
  go_wp2_with (first | (go_at_call 4; with_reducible refine (beyond_k w c A n a B m b hn hm true HBE.out).mono ?_; rintro e w2 ⟨rfl, rfl⟩))
  go_ret
  exact ⟨rfl, kba K.out.bel _⟩
/-- Other requests, other drivers. -/
def sv (s : Int) : Int := wrap64 (Int.tdiv s 2)
def sx (x : Wai) : Wai := { x with since := sv x.since }
def rv (r : Int) : Int := wrap64 (r + 1)
def cy (y : Idl) : Idl := { y with radius := rv y.radius }
theorem sx_wf {xs : List Wai} (h : ∀ x ∈ xs, x.wf) : ∀ x ∈ xs.map sx, x.wf := by
  intro y hy
  obtain ⟨x, hx, rfl⟩ := List.mem_map.1 hy
  have w := h x hx
  exact ⟨w.i0, w.i1, w.i2, w.i3, w.i4, w.i5, w.i6, w.i7, w.fx, w.fy, w.tx, w.ty, w.seats, w.classes, w.base, w.ttl, wrap64_wf _, w.number⟩
theorem cy_wf {ys : List Idl} (h : ∀ y ∈ ys, y.wf) : ∀ y ∈ ys.map cy, y.wf := by
  intro z hz
  obtain ⟨y, hy, rfl⟩ := List.mem_map.1 hz
  have w := h y hy
  exact ⟨w.i0, w.i1, w.i2, w.i3, w.i4, w.i5, w.i6, w.i7, w.ax, w.ay, w.seats, w.cls, wrap64_wf _, w.number⟩
set_option maxHeartbeats 8000000 in
theorem wg_near (c : Cfg) (now : Int) (xs : List Wai) (ys : List Idl) (A B : Option Addr) (n m a b : Nat) (w : World) (h : Recs w 18 A n (xs.map Wai.list)) (hi : Recs w 14 B m (ys.map Idl.list)) (hn : n ≤ 140737488351232) (hm : m ≤ 140737488351232) (wx : ∀ x ∈ xs, x.wf) (wy : ∀ y ∈ ys, y.wf) (HBE : Hid (decide (1048576 < n + m) = false)) (hnm : n + m ≤ 1048576) (hn2 : n ≤ 1048576) (hm2 : m ≤ 1048576) :
    Calls Tryz.prog 3 #[c.val, .int .i64 now, .agg #[.slice A n a, .slice B m b]] w fun e w' => e = .returned (.bool true) ∧ Below w.heap.size w w' := by
  have H := Lib.hid h
  have HI := Lib.hid hi
  have WX := Lib.hid wx
  have WY := Lib.hid wy
  have HN : Hid (xs.length = n) := Lib.hid (by have := h.1; simpa using this)
  have HM : Hid (ys.length = m) := Lib.hid (by have := hi.1; simpa using this)
  obtain ⟨R, hR⟩ : ∃ R, gN c now xs ys n m n = R := ⟨_, rfl⟩
  obtain ⟨C, hC⟩ : ∃ R, gN c now xs ys n m m = R := ⟨_, rfl⟩
  obtain ⟨E, hE⟩ : ∃ R, gE c now xs ys n m = R := ⟨_, rfl⟩
  obtain ⟨ws, hws⟩ : ∃ R, wts c now xs = R := ⟨_, rfl⟩
  obtain ⟨l, hl⟩ : ∃ R, gL c now xs ys n m = R := ⟨_, rfl⟩
  have HG := Lib.hid (And.intro hR (And.intro hC (And.intro hE (And.intro hws hl))))
  have HPL : Hid (l.length ≤ 1099511627776) := Lib.hid (gl_len HM.out hnm hl)
  have en : (E != E) = false := by simp
  clear h hi wx wy hR hC hE hws hl
  have K := Lib.hid (KL.start w c A n a B m b)
  have lc := K.out.lc
  have q0 := K.out.c0
  have q1 := K.out.c1
  go_enter Tryz.func3, Tryz.ntmps3
  go_wp2_with (first | (go_at_call 4; (with_reducible refine (beyond_k w c A n a B m b hn hm false HBE.out).mono ?_); rintro e W9 ⟨rfl, e9⟩; have hb := alloc_below ((w.alloc (.cells (ca c) 23)).alloc (.cells #[.slice A n a, .slice B m b] 27)) (.cells #[.int .i64 (n : Int), .int .i64 (m : Int)] 3); rw [e9] at hb; replace K := Lib.hid (K.out.keep hb); replace lc := K.out.lc; replace q0 := K.out.c0; replace q1 := K.out.c1; (try replace la3 := la_gr HB3.out); (try replace la4 := la_gr HB4.out); (try replace la5 := la_gr HB5.out); clear hb e9) | (go_at_call 5; refine Exists.elim (⟨_, rfl⟩ : ∃ G, W9.heap.size = G) ?_; intro GX eGX; (with_reducible refine (twin_wai (xs.map Wai.list) A n a _ GX eGX (H.out.keep K.out.bel) (wai_one xs) hn2).mono ?_); rintro e W9 ⟨rfl, hB2, hb⟩; have LX : Hid (w.heap.size + 1 < GX) := Lib.hid (by rw [← eGX]; exact K.out.lst.lt); replace K := Lib.hid (K.out.keep hb); (try replace HX := Lib.hid (HX.out.keep hb)); (try replace HY := Lib.hid (HY.out.keep hb)); (try replace HB3 := Lib.hid (HB3.out.keep hb)); (try replace HB4 := Lib.hid (HB4.out.keep hb)); (try replace HB5 := Lib.hid (HB5.out.keep hb)); (try replace H3 := Lib.hid (H3.out.keep hb)); (try replace H4 := Lib.hid (H4.out.keep hb)); (try replace H5 := Lib.hid (H5.out.keep hb)); have HX := Lib.hid hB2; replace lc := K.out.lc; replace q0 := K.out.c0; replace q1 := K.out.c1; (try replace la3 := la_gr HB3.out); (try replace la4 := la_gr HB4.out); (try replace la5 := la_gr HB5.out); clear hb hB2 eGX) | (go_at_call 6; refine Exists.elim (⟨_, rfl⟩ : ∃ G, W9.heap.size = G) ?_; intro GY eGY; (with_reducible refine (twin_idl (ys.map Idl.list) B m b _ GY eGY (HI.out.keep K.out.bel) (idl_one ys) hm2).mono ?_); rintro e W9 ⟨rfl, hB2, hb⟩; have LY : Hid (w.heap.size + 1 < GY) := Lib.hid (by rw [← eGY]; exact K.out.lst.lt); replace K := Lib.hid (K.out.keep hb); (try replace HX := Lib.hid (HX.out.keep hb)); (try replace HY := Lib.hid (HY.out.keep hb)); (try replace HB3 := Lib.hid (HB3.out.keep hb)); (try replace HB4 := Lib.hid (HB4.out.keep hb)); (try replace HB5 := Lib.hid (HB5.out.keep hb)); (try replace H3 := Lib.hid (H3.out.keep hb)); (try replace H4 := Lib.hid (H4.out.keep hb)); (try replace H5 := Lib.hid (H5.out.keep hb)); have HY := Lib.hid hB2; replace lc := K.out.lc; replace q0 := K.out.c0; replace q1 := K.out.c1; (try replace la3 := la_gr HB3.out); (try replace la4 := la_gr HB4.out); (try replace la5 := la_gr HB5.out); clear hb hB2 eGY) | (go_at_call 7; (with_reducible refine (rgraph_w c now xs ys A B n m a b _ R C E ws l (H.out.keep K.out.bel) (HI.out.keep K.out.bel) WX WY hn hm HG).mono ?_); rintro e V3 ⟨⟨A3, c3, rfl, hO⟩, hb⟩; replace K := Lib.hid (K.out.keep hb); (try replace HX := Lib.hid (HX.out.keep hb)); (try replace HY := Lib.hid (HY.out.keep hb)); (try replace HB3 := Lib.hid (HB3.out.keep hb)); (try replace HB4 := Lib.hid (HB4.out.keep hb)); (try replace HB5 := Lib.hid (HB5.out.keep hb)); (try replace H3 := Lib.hid (H3.out.keep hb)); (try replace H4 := Lib.hid (H4.out.keep hb)); (try replace H5 := Lib.hid (H5.out.keep hb)); have H3 := Lib.hid hO; have LW : Hid (w.heap.size + 1 < V3.heap.size) := Lib.hid K.out.lst.lt; clear hb hO; have hb2 := alloc_below V3 (.cells #[.int .i64 R, .int .i64 C, .slice A3 l.length c3] 33); replace K := Lib.hid (K.out.keep hb2); (try replace HX := Lib.hid (HX.out.keep hb2)); (try replace HY := Lib.hid (HY.out.keep hb2)); (try replace HB4 := Lib.hid (HB4.out.keep hb2)); (try replace HB5 := Lib.hid (HB5.out.keep hb2)); (try replace H3 := Lib.hid (H3.out.keep hb2)); (try replace H4 := Lib.hid (H4.out.keep hb2)); (try replace H5 := Lib.hid (H5.out.keep hb2)); have HB3 := Lib.hid (Blk.new V3 33 [.int .i64 R, .int .i64 C, .slice A3 l.length c3]); replace lc := K.out.lc; replace q0 := K.out.c0; replace q1 := K.out.c1; (try replace la3 := la_gr HB3.out); (try replace la4 := la_gr HB4.out); (try replace la5 := la_gr HB5.out); clear hb2) | (go_at_call 8; (with_reducible refine (graph_w c now xs ys _ _ n m _ _ _ R C E ws l (recs_wai HX.out HN.out) (recs_idl HY.out HM.out) WX WY hn hm HG).mono ?_); rintro e V4 ⟨⟨A4, c4, rfl, hO⟩, hb⟩; (fail_if_success (have := H4)); replace K := Lib.hid (K.out.keep hb); (try replace HX := Lib.hid (HX.out.keep hb)); (try replace HY := Lib.hid (HY.out.keep hb)); (try replace HB3 := Lib.hid (HB3.out.keep hb)); (try replace HB4 := Lib.hid (HB4.out.keep hb)); (try replace HB5 := Lib.hid (HB5.out.keep hb)); (try replace H3 := Lib.hid (H3.out.keep hb)); (try replace H4 := Lib.hid (H4.out.keep hb)); (try replace H5 := Lib.hid (H5.out.keep hb)); have H4 := Lib.hid (own_mono (B' := V3.heap.size + 1) hO (Nat.le_of_eq (size_alloc _ _).symm)); have HZ4 : Hid (V3.heap.size + 1 ≤ V4.heap.size) := Lib.hid (by have h9 := hb.size; rw [size_alloc] at h9; exact h9); have HW4 := Lib.hid hO.lt; clear hb hO; have hb2 := alloc_below V4 (.cells #[.int .i64 R, .int .i64 C, .slice A4 l.length c4] 33); replace K := Lib.hid (K.out.keep hb2); (try replace HX := Lib.hid (HX.out.keep hb2)); (try replace HY := Lib.hid (HY.out.keep hb2)); (try replace HB3 := Lib.hid (HB3.out.keep hb2)); (try replace HB5 := Lib.hid (HB5.out.keep hb2)); (try replace H3 := Lib.hid (H3.out.keep hb2)); (try replace H4 := Lib.hid (H4.out.keep hb2)); (try replace H5 := Lib.hid (H5.out.keep hb2)); have HB4 := Lib.hid (Blk.new V4 33 [.int .i64 R, .int .i64 C, .slice A4 l.length c4]); replace lc := K.out.lc; replace q0 := K.out.c0; replace q1 := K.out.c1; (try replace la3 := la_gr HB3.out); (try replace la4 := la_gr HB4.out); (try replace la5 := la_gr HB5.out); clear hb2) | (go_at_call 8; (with_reducible refine (graph_w c now xs ys _ _ n m _ _ _ R C E ws l (recs_wai HX.out HN.out) (recs_idl HY.out HM.out) WX WY hn hm HG).mono ?_); rintro e V5 ⟨⟨A5, c5, rfl, hO⟩, hb⟩; replace K := Lib.hid (K.out.keep hb); (try replace HX := Lib.hid (HX.out.keep hb)); (try replace HY := Lib.hid (HY.out.keep hb)); (try replace HB3 := Lib.hid (HB3.out.keep hb)); (try replace HB4 := Lib.hid (HB4.out.keep hb)); (try replace HB5 := Lib.hid (HB5.out.keep hb)); (try replace H3 := Lib.hid (H3.out.keep hb)); (try replace H4 := Lib.hid (H4.out.keep hb)); (try replace H5 := Lib.hid (H5.out.keep hb)); have HZ5 : Hid (V3.heap.size + 1 ≤ V5.heap.size) := Lib.hid (by have h9 := hb.size; rw [size_alloc] at h9; have h8 := HZ4.out; omega); have H5 := Lib.hid (own_mono (B' := V3.heap.size + 1) hO (Nat.le_trans HZ4.out (by rw [size_alloc]; exact Nat.le_succ _))); have HD : Hid (∀ b, (Value.slice A4 l.length c4).ownBlock = some b → (Value.slice A5 l.length c5).ownBlock ≠ some b) := Lib.hid (fun b h1 h2 => by have h3 := HW4.out b h1; have h4 := hO.base_le b h2; rw [size_alloc] at h4; omega); clear hb hO; have hb2 := alloc_below V5 (.cells #[.int .i64 R, .int .i64 C, .slice A5 l.length c5] 33); replace K := Lib.hid (K.out.keep hb2); (try replace HX := Lib.hid (HX.out.keep hb2)); (try replace HY := Lib.hid (HY.out.keep hb2)); (try replace HB3 := Lib.hid (HB3.out.keep hb2)); (try replace HB4 := Lib.hid (HB4.out.keep hb2)); (try replace H3 := Lib.hid (H3.out.keep hb2)); (try replace H4 := Lib.hid (H4.out.keep hb2)); (try replace H5 := Lib.hid (H5.out.keep hb2)); have HB5 := Lib.hid (Blk.new V5 33 [.int .i64 R, .int .i64 C, .slice A5 l.length c5]); replace lc := K.out.lc; replace q0 := K.out.c0; replace q1 := K.out.c1; (try replace la3 := la_gr HB3.out); (try replace la4 := la_gr HB4.out); (try replace la5 := la_gr HB5.out); clear hb2; have HS : Hid (V3.heap.size + 1 ≤ (V5.alloc (.cells #[.int .i64 R, .int .i64 C, .slice A5 l.length c5] 33)).heap.size) := Lib.hid (by rw [size_alloc]; exact Nat.le_succ_of_le HZ5.out)) | (go_at_call 9; (with_reducible refine (sameG R C ws l A4 A3 c4 c3 _ H4.out H3.out HPL.out).mono ?_); rintro e W9 ⟨rfl, hb⟩; replace K := Lib.hid (K.out.keep hb); (try replace HX := Lib.hid (HX.out.keep hb)); (try replace HY := Lib.hid (HY.out.keep hb)); (try replace HB3 := Lib.hid (HB3.out.keep hb)); (try replace HB4 := Lib.hid (HB4.out.keep hb)); (try replace HB5 := Lib.hid (HB5.out.keep hb)); (try replace H3 := Lib.hid (H3.out.keep hb)); (try replace H4 := Lib.hid (H4.out.keep hb)); (try replace H5 := Lib.hid (H5.out.keep hb)); replace lc := K.out.lc; replace q0 := K.out.c0; replace q1 := K.out.c1; (try replace la3 := la_gr HB3.out); (try replace la4 := la_gr HB4.out); (try replace la5 := la_gr HB5.out); replace HS := Lib.hid (Nat.le_trans HS.out hb.size); clear hb) | (go_at_call 9; (with_reducible refine (sameG R C ws l A5 A3 c5 c3 _ H5.out H3.out HPL.out).mono ?_); rintro e W9 ⟨rfl, hb⟩; replace K := Lib.hid (K.out.keep hb); (try replace HX := Lib.hid (HX.out.keep hb)); (try replace HY := Lib.hid (HY.out.keep hb)); (try replace HB3 := Lib.hid (HB3.out.keep hb)); (try replace HB4 := Lib.hid (HB4.out.keep hb)); (try replace HB5 := Lib.hid (HB5.out.keep hb)); (try replace H3 := Lib.hid (H3.out.keep hb)); (try replace H4 := Lib.hid (H4.out.keep hb)); (try replace H5 := Lib.hid (H5.out.keep hb)); replace lc := K.out.lc; replace q0 := K.out.c0; replace q1 := K.out.c1; (try replace la3 := la_gr HB3.out); (try replace la4 := la_gr HB4.out); (try replace la5 := la_gr HB5.out); replace HS := Lib.hid (Nat.le_trans HS.out hb.size); clear hb) | (go_at_call 10; (with_reducible refine (left_wai xs GX A n a _ HX.out (H.out.keep K.out.bel) hn2).mono ?_); rintro e W9 ⟨rfl, hb⟩; replace K := Lib.hid (K.out.keep hb); (try replace HX := Lib.hid (HX.out.keep hb)); (try replace HY := Lib.hid (HY.out.keep hb)); (try replace HB3 := Lib.hid (HB3.out.keep hb)); (try replace HB4 := Lib.hid (HB4.out.keep hb)); (try replace HB5 := Lib.hid (HB5.out.keep hb)); (try replace H3 := Lib.hid (H3.out.keep hb)); (try replace H4 := Lib.hid (H4.out.keep hb)); (try replace H5 := Lib.hid (H5.out.keep hb)); replace lc := K.out.lc; replace q0 := K.out.c0; replace q1 := K.out.c1; (try replace la3 := la_gr HB3.out); (try replace la4 := la_gr HB4.out); (try replace la5 := la_gr HB5.out); replace HS := Lib.hid (Nat.le_trans HS.out hb.size); clear hb) | (go_at_call 11; (with_reducible refine (left_idl ys GY B m b _ HY.out (HI.out.keep K.out.bel) hm2).mono ?_); rintro e W9 ⟨rfl, hb⟩; replace K := Lib.hid (K.out.keep hb); (try replace HX := Lib.hid (HX.out.keep hb)); (try replace HY := Lib.hid (HY.out.keep hb)); (try replace HB3 := Lib.hid (HB3.out.keep hb)); (try replace HB4 := Lib.hid (HB4.out.keep hb)); (try replace HB5 := Lib.hid (HB5.out.keep hb)); (try replace H3 := Lib.hid (H3.out.keep hb)); (try replace H4 := Lib.hid (H4.out.keep hb)); (try replace H5 := Lib.hid (H5.out.keep hb)); replace lc := K.out.lc; replace q0 := K.out.c0; replace q1 := K.out.c1; (try replace la3 := la_gr HB3.out); (try replace la4 := la_gr HB4.out); (try replace la5 := la_gr HB5.out); replace HS := Lib.hid (Nat.le_trans HS.out hb.size); clear hb; have la4' := la_gr (HB4.out.keep (alloc_below W9 (.cells #[.int .i64 0, .slice none 0 0, .slice none 0 0, .slice none 0 0, .slice none 0 0, .slice none 0 0, .slice none 0 0, .slice none 0 0, .slice none 0 0, .slice none 0 0, .slice none 0 0, .slice none 0 0, .slice none 0 0, .slice none 0 0, .slice none 0 0, .slice none 0 0, .slice none 0 0, .slice none 0 0, .slice none 0 0, .slice none 0 0, .slice none 0 0, .slice none 0 0, .slice none 0 0, .slice none 0 0, .slice none 0 0, .slice none 0 0] 67)))) | (go_at_call 12; (with_reducible refine (keepG_first _ _ R C A4 _ c4 (bk0_new W9)).mono ?_); rintro e W10 ⟨rfl, h0, cp0, hk1, hc1, hh0⟩; have HK1 := Lib.hid hk1; have HC1 := Lib.hid hc1; have HH0 := Lib.hid hh0; have hb2 := below_chg (alloc_below W9 _) hc1 (fun b e => Nat.le_of_eq e.symm); replace la5 := la_gr (HB5.out.keep hb2); clear hk1 hc1 hh0 hb2) | (go_at_call 12; (with_reducible refine (keepG_next _ _ h0 _ _ _ _ R C A5 _ c5 HK1.out (by omega)).mono ?_); rintro e W11 ⟨rfl, h1, cp1, hk2, hc2, hh1⟩; have hb := told HC1.out HH0.out hc2; have HZ6 : Hid (V3.heap.size + 1 ≤ h1) := Lib.hid (low HS.out HH0.out HC1.out hh1); replace HS := Lib.hid (Nat.le_trans HS.out hb.size); replace K := Lib.hid (K.out.keep hb); (try replace HX := Lib.hid (HX.out.keep hb)); (try replace HY := Lib.hid (HY.out.keep hb)); (try replace HB3 := Lib.hid (HB3.out.keep hb)); (try replace HB4 := Lib.hid (HB4.out.keep hb)); (try replace HB5 := Lib.hid (HB5.out.keep hb)); (try replace H3 := Lib.hid (H3.out.keep hb)); (try replace H4 := Lib.hid (H4.out.keep hb)); (try replace H5 := Lib.hid (H5.out.keep hb)); have HK2 : Hid (Bk W11 _ h1 cp1 2 ⟨h1, 0, none⟩ (two (.slice A4 l.length c4) (.slice A5 l.length c5)) Z) := Lib.hid hk2; clear hb hk2 hc2 hh1) | (go_at_call 13; (with_reducible refine (apart_s _ _ h1 cp1 2 _ _ (V3.heap.size + 1) (fun _ => l.length) _ HS.out HK2.out (rows_two H4.out H5.out HPL.out) (dis_two HD.out)).mono ?_); rintro e W12 ⟨rfl, hc3⟩; have KQ0 : Hid (KQ w c A n a B m b GX GY V3.heap.size V4.heap.size xs ys W12) := Lib.hid (kq_start K.out HX.out HY.out HB3.out HB4.out HK2.out (rows_two H4.out H5.out HPL.out) hc3 (gb_two H4.out H5.out HZ6.out) LW.out); clear hc3))
  have NB : Hid (V3.heap.size ≠ V4.heap.size) := Lib.hid (by have := HZ4.out; omega)
  have LB4 : Hid (w.heap.size + 1 < V4.heap.size) := Lib.hid (by have h1 := HZ4.out; have h2 := LW.out; omega)
  clear HK1 HC1 HH0 HZ6 HK2 HS HD HW4 HZ5 HZ4 H3 H4 H5 HB3 HB4 HB5 HX HY K lc q0 q1 la3 la4 la5 la4'
  go_loopw [16] (fun i wr => ∃ k : Nat, k ≤ n ∧ i = .int .i64 k ∧ Hid (KQ w c A n a B m b GX GY V3.heap.size V4.heap.size ((xs.take k).map sx ++ xs.drop k) ys wr)) (fun i _ => n - (intOf i).toNat)
  case atStart => exact ⟨0, Nat.zero_le _, rfl, by simpa using KQ0⟩
  case round =>
    clear KQ0
    obtain ⟨k, hk, rfl, HQ⟩ := hrel
    by_cases hlt : k < n
    · obtain ⟨x, hx⟩ : ∃ x, xs[k]? = some x := ⟨_, List.getElem?_eq_getElem (by have := HN.out; omega)⟩
      have c1 := HQ.out.cx (half_get sx hx)
      have f1 := HQ.out.hx.free (k * 18 + 16)
      have HQ2 := Lib.hid (HQ.out.putx LX.out (half_get sx hx) (x' := sx x) (sv x.since) rfl)
      rw [half_set sx hx] at HQ2
      clear hx
      go_wp2
      go_roundw
      case rel => exact ⟨k + 1, by omega, by go_num, HQ2⟩
      case measure => simp [intOf]; omega
    · obtain rfl : k = n := by omega
      have hd : (xs.take k).map sx ++ xs.drop k = xs.map sx := by rw [List.take_of_length_le (by rw [HN.out]; omega), List.drop_eq_nil_of_le (by rw [HN.out]; omega), List.append_nil]
      rw [hd] at HQ
      clear hd
      go_wp2
      go_loopw [17] (fun i wr => ∃ j : Nat, j ≤ m ∧ i = .int .i64 j ∧ Hid (KQ w c A k a B m b GX GY V3.heap.size V4.heap.size (xs.map sx) ((ys.take j).map cy ++ ys.drop j) wr)) (fun i _ => m - (intOf i).toNat)
      case atStart => exact ⟨0, Nat.zero_le _, rfl, by simpa using HQ⟩
      case round =>
        clear HQ
        obtain ⟨j, hj, rfl, HQ⟩ := hrel
        by_cases hl2 : j < m
        · obtain ⟨y, hy⟩ : ∃ y, ys[j]? = some y := ⟨_, List.getElem?_eq_getElem (by have := HM.out; omega)⟩
          have c1 := HQ.out.cy (half_get cy hy)
          have f1 := HQ.out.hy.free (j * 14 + 12)
          have HQ2 := Lib.hid (HQ.out.puty LY.out (half_get cy hy) (y' := cy y) (rv y.radius) rfl)
          rw [half_set cy hy] at HQ2
          clear hy
          go_wp2
          go_roundw
          case rel => exact ⟨j + 1, by omega, by go_num, HQ2⟩
          case measure => simp [intOf]; omega
        · obtain rfl : j = m := by omega
          have hd : (ys.take j).map cy ++ ys.drop j = ys.map cy := by rw [List.take_of_length_le (by rw [HM.out]; omega), List.drop_eq_nil_of_le (by rw [HM.out]; omega), List.append_nil]
          rw [hd] at HQ
          clear hd
          have HN2 : Hid ((xs.map sx).length = k) := Lib.hid (by simp; exact HN.out)
          have HM2 : Hid ((ys.map cy).length = j) := Lib.hid (by simp; exact HM.out)
          have WX2 := Lib.hid (sx_wf WX.out)
          have WY2 := Lib.hid (cy_wf WY.out)
          obtain ⟨R2, hR⟩ : ∃ R, gN c now (xs.map sx) (ys.map cy) k j k = R := ⟨_, rfl⟩
          obtain ⟨C2, hC⟩ : ∃ R, gN c now (xs.map sx) (ys.map cy) k j j = R := ⟨_, rfl⟩
          obtain ⟨E2, hE⟩ : ∃ R, gE c now (xs.map sx) (ys.map cy) k j = R := ⟨_, rfl⟩
          obtain ⟨ws2, hws⟩ : ∃ R, wts c now (xs.map sx) = R := ⟨_, rfl⟩
          obtain ⟨l2, hl⟩ : ∃ R, gL c now (xs.map sx) (ys.map cy) k j = R := ⟨_, rfl⟩
          have HG2 := Lib.hid (And.intro hR (And.intro hC (And.intro hE (And.intro hws hl))))
          have HPL2 : Hid (l2.length ≤ 1099511627776) := Lib.hid (gl_len HM2.out hnm hl)
          have en2 : (E2 == E2) = true := by simp
          clear hR hC hE hws hl en
          have EXT : Hid (∀ W', KQ w c A k a B j b GX GY V3.heap.size V4.heap.size (xs.map sx) (ys.map cy) W' → (fun W' => KQ w c A k a B j b GX GY V3.heap.size V4.heap.size (xs.map sx) (ys.map cy) W' ∧ (LA 23 (.pointer (some ⟨w.heap.size, 0, none⟩))).run Tryz.prog W' = .ok (.agg (ca c)) W') W') := Lib.hid (fun W' h => ⟨h, h.k.lc⟩)
          dsimp only at EXT
          go_wp2
          go_region_held3 (fun W' => KQ w c A k a B j b GX GY V3.heap.size V4.heap.size (xs.map sx) (ys.map cy) W' ∧ (LA 23 (.pointer (some ⟨w.heap.size, 0, none⟩))).run Tryz.prog W' = .ok (.agg (ca c)) W') (first | exact EXT.out _ (KQ.keep HQ.out (Below.refl _ _).drew) | exact EXT.out _ (KQ.keep (And.left (by assumption)) hb) | exact EXT.out _ (KQ.setw kq8.out LW.out NB.out R2 C2 (.slice A8 l2.length c8))) (first             | (go_at_call 5; refine (twin_wai ((xs.map sx).map Wai.list) (some ⟨GX, 0, none⟩) k (k + 1) _ _ rfl (recs_wai (KQ.hx (And.left (by assumption))) HN2.out) (wai_one _) hn2).mono ?_; rintro e w8 ⟨rfl, hB2, hb⟩; (try replace HV := Lib.hid (HV.out.keep hb)); have HU := Lib.hid hB2)             | (go_at_call 6; refine (twin_idl ((ys.map cy).map Idl.list) (some ⟨GY, 0, none⟩) j (j + 1) _ _ rfl (recs_idl (KQ.hy (And.left (by assumption))) HM2.out) (idl_one _) hm2).mono ?_; rintro e w8 ⟨rfl, hB2, hb⟩; (try replace HU := Lib.hid (HU.out.keep hb)); have HV := Lib.hid hB2)             | (go_at_call 7; refine (rgraph_w c now (xs.map sx) (ys.map cy) _ _ k j _ _ _ R2 C2 E2 ws2 l2 (recs_wai HU.out HN2.out) (recs_idl HV.out HM2.out) WX2 WY2 hn hm HG2).mono ?_; rintro e V8 ⟨⟨A8, c8, rfl, hO⟩, hb⟩; have H8 := Lib.hid hO; have kq8 := Lib.hid (KQ.keep (And.left (by assumption)) hb); obtain ⟨⟨x9, z0⟩, ⟨y9, z1⟩, ⟨z9, z2⟩, z3, z4, z5⟩ := box_facts kq8.out.bwb))
          all_goals (
            obtain ⟨V, eV⟩ : ∃ V, (((V8.setCell ⟨V3.heap.size, 0, none⟩ (.int .i64 R2)).setCell ⟨V3.heap.size, 1, none⟩ (.int .i64 C2)).setCell ⟨V3.heap.size, 2, none⟩ (.slice A8 l2.length c8)) = V := ⟨_, rfl⟩
            have HQ8 : Hid (KQ w c A k a B j b GX GY V3.heap.size V4.heap.size (xs.map sx) (ys.map cy) V) := Lib.hid (by rw [← eV]; exact KQ.setw kq8.out LW.out NB.out R2 C2 (.slice A8 l2.length c8))
            have HB8 : Hid (Blk V V3.heap.size 33 [.int .i64 R2, .int .i64 C2, (.slice A8 l2.length c8)]) := Lib.hid (by rw [← eV]; exact blk_set3 kq8.out.bwb _ _ _)
            have H8c := Lib.hid (show Own V _ tE 3 (.slice A8 l2.length c8) l2.length (cellsE ws2 l2) from by rw [← eV]; exact own_set3 H8.out kq8.out.bwb _ _ _)
            rw [eV]
            have lc := HQ8.out.k.lc
            clear eV z0 z1 z2 z3 z4 z5
            go_wp2_with (first | (go_at_call 8; (with_reducible refine (graph_w c now (xs.map sx) (ys.map cy) _ _ k j _ _ _ R2 C2 E2 ws2 l2 (recs_wai HQ8.out.hx HN2.out) (recs_idl HQ8.out.hy HM2.out) WX2 WY2 hn hm HG2).mono ?_); rintro e V9 ⟨⟨A9, c9, rfl, hO⟩, hb⟩; have HQ9 := Lib.hid (KQ.keep HQ8.out hb); have HB9 := Lib.hid (HB8.out.keep hb); have H8' := Lib.hid (H8c.out.keep hb); have H9 := Lib.hid hO; obtain ⟨⟨x7, t0⟩, ⟨y7, t1⟩, ⟨z7, t2⟩, t3, t4, t5⟩ := box_facts HQ9.out.bab; have lA : (LA 33 (.pointer (some ⟨V4.heap.size, 0, none⟩))).run Tryz.prog (((V9.setCell ⟨V4.heap.size, 0, none⟩ (.int .i64 R2)).setCell ⟨V4.heap.size, 1, none⟩ (.int .i64 C2)).setCell ⟨V4.heap.size, 2, none⟩ (.slice A9 l2.length c9)) = .ok (.agg #[.int .i64 R2, .int .i64 C2, (.slice A9 l2.length c9)]) (((V9.setCell ⟨V4.heap.size, 0, none⟩ (.int .i64 R2)).setCell ⟨V4.heap.size, 1, none⟩ (.int .i64 C2)).setCell ⟨V4.heap.size, 2, none⟩ (.slice A9 l2.length c9)) := la_gr (blk_set3 HQ9.out.bab _ _ _); have lB : (LA 33 (.pointer (some ⟨V3.heap.size, 0, none⟩))).run Tryz.prog (((V9.setCell ⟨V4.heap.size, 0, none⟩ (.int .i64 R2)).setCell ⟨V4.heap.size, 1, none⟩ (.int .i64 C2)).setCell ⟨V4.heap.size, 2, none⟩ (.slice A9 l2.length c9)) = .ok (.agg #[.int .i64 R2, .int .i64 C2, (.slice A8 l2.length c8)]) (((V9.setCell ⟨V4.heap.size, 0, none⟩ (.int .i64 R2)).setCell ⟨V4.heap.size, 1, none⟩ (.int .i64 C2)).setCell ⟨V4.heap.size, 2, none⟩ (.slice A9 l2.length c9)) := la_gr (far_set3 HB9.out NB.out _ _ _); have HS8 : Hid (Own (((V9.setCell ⟨V4.heap.size, 0, none⟩ (.int .i64 R2)).setCell ⟨V4.heap.size, 1, none⟩ (.int .i64 C2)).setCell ⟨V4.heap.size, 2, none⟩ (.slice A9 l2.length c9)) _ tE 3 _ l2.length (cellsE ws2 l2)) := Lib.hid (own_set3 H8'.out HQ9.out.bab _ _ _); have HS9 : Hid (Own (((V9.setCell ⟨V4.heap.size, 0, none⟩ (.int .i64 R2)).setCell ⟨V4.heap.size, 1, none⟩ (.int .i64 C2)).setCell ⟨V4.heap.size, 2, none⟩ (.slice A9 l2.length c9)) _ tE 3 _ l2.length (cellsE ws2 l2)) := Lib.hid (own_set3 H9.out HQ9.out.bab _ _ _); have HLF : Hid (Below w.heap.size w (((V9.setCell ⟨V4.heap.size, 0, none⟩ (.int .i64 R2)).setCell ⟨V4.heap.size, 1, none⟩ (.int .i64 C2)).setCell ⟨V4.heap.size, 2, none⟩ (.slice A9 l2.length c9))) := Lib.hid (below_chg HQ9.out.k.bel (chg_set3 _ _ _) (fun b e => by rw [e]; exact Nat.le_of_lt (Nat.lt_of_succ_lt LB4.out))); clear hO hb) | (go_at_call 9; (with_reducible refine (sameG R2 C2 ws2 l2 A9 A8 c9 c8 _ HS9.out HS8.out HPL2.out).mono ?_); rintro e VA ⟨rfl, hb⟩; replace HLF := Lib.hid (kbt HLF.out hb); clear hb))
            go_ret
            exact ⟨rfl, HLF.out⟩)
/-- The law. -/
theorem graphs (c : Cfg) (now : Int) (xs : List Wai) (A : Option Addr) (n a : Nat) (ys : List Idl) (B : Option Addr) (m b : Nat) (w : World) (_ : c.wf) (_ : (Lit.int .i64 now).wf = true) (hx : Recs w 18 A n (xs.map Wai.list)) (ha : n ≤ a) (hn : n ≤ 140737488351232) (wx : ∀ x ∈ xs, x.wf) (hy : Recs w 14 B m (ys.map Idl.list)) (hb : m ≤ b) (hm : m ≤ 140737488351232) (wy : ∀ y ∈ ys, y.wf) :
    Calls Tryz.prog 3 #[c.val, .int .i64 now, .agg #[.slice A n a, .slice B m b]] w fun e w' => e = .returned (.bool true) ∧ Below w.heap.size w w' := by
  by_cases hbe : 1048576 < n + m
  · exact wg_far c now A B n m a b w hn hm (Lib.hid (decide_eq_true hbe))
  exact wg_near c now xs ys A B n m a b w hx hy hn hm wx wy (Lib.hid (decide_eq_false hbe)) (by omega) (by omega) (by omega)
end Go.Proofs.YtkpdomnmlinomabGreat.WG
