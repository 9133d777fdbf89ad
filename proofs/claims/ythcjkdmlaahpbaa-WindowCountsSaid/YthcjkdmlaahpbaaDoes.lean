/- The walk of does: one call of both windows. -/
import Derived.Test.YthcjkdmlaahpbaaPairW
import Derived.Deep.RegionHeld3
namespace Go.Proofs.Ythcjkdmlaahpbaa.Win
open Go.RowKit Go.Proofs.Ythcjkdmlaahpbaa.Aid Go.Proofs.Ythcjkdmlaahpbaa.Mem Go.Proofs.Ythcjkdmlaahpbaa.Keep Go.Proofs.Ythcjkdmlaahpbaa.Nums Go.Proofs.Ythcjkdmlaahpbaa.Fl
set_option linter.unusedSimpArgs false
set_option linter.unusedVariables false
set_option maxRecDepth 100000
theorem zero_eqf : (FloatKind.f64.format.order 0 0 == some .eq) = true := by decide +kernel
section
variable {W : World} {g r B : Nat} {wd ck sm : Int} {l All : List (Int × Int)} {v u : Value}
set_option maxHeartbeats 4000000 in
theorem does_1a  (t n : Int) (h : PairW W g r B wd ck sm l All v u) (HX : Hid (n < 0 ∨ 4611686018427387903 < n)) (hl : All.length ≤ 1048576) :
    Calls Try.prog 27 #[.pointer (some ⟨g, 0, none⟩), .pointer (some ⟨r, 0, none⟩), .agg #[.int .i64 1, .int .i64 t, .int .i64 n]] W fun e w' => e = .returned (.bool true) ∧ Goes W g r B wd (All.length + 1) (FP g r v u) w' := by
  have hb := Blk.new W 61 [.int .i64 1, .int .i64 t, .int .i64 n]
  have x0 := hb.cellv (i := 0) rfl
  have x1 := hb.cellv (i := 1) rfl
  have x2 := hb.cellv (i := 2) rfl
  have hQ := h.below (alloc_below W (.cells #[.int .i64 1, .int .i64 t, .int .i64 n] 61))
  have HQ := Lib.hid hQ
  have w0 := h.w0
  have gW := h.bg.lt
  have HN := Lib.hid (show ∀ b, FP g r v u b → b ≠ W.heap.size from fun b hb e => by have := h.lt hb; omega)
  clear h hQ hb
  go_enter Try.func27, Try.ntmps27
  go_wp2
  go_region_held3 (fun WW => WW.cell? ⟨W.heap.size, 1, none⟩ = some (.int .i64 t) ∧ WW.cell? ⟨W.heap.size, 2, none⟩ = some (.int .i64 n)) (first | exact ⟨x1, x2⟩ | assumption) (first | (go_at_call 12; (refine (add_bad _ g B wd ck sm l t n (HQ.out.dr ⟨1, rfl⟩).win w0 HX.out).mono ?_); rintro e w5 ⟨rfl, rfl⟩) | (go_at_call 38; (refine (radd_bad _ r t n HX.out).mono ?_); rintro e w6 ⟨rfl, rfl⟩))
  go_wp2
  go_ret
  exact ⟨rfl, (pair_same (HQ.out.dr ⟨1, rfl⟩) (Dr.refl _) (Nat.le_succ _)).drew.alloc⟩
set_option maxHeartbeats 4000000 in
theorem does_1b  (t n : Int) (h : PairW W g r B wd ck sm l All v u) (HX : Hid (0 ≤ n ∧ n ≤ 4611686018427387903)) (e0 : Int) (HE : Hid (atE wd ck t = e0)) (ne : (e0 != 0) = true) (hl : All.length ≤ 1048576) :
    Calls Try.prog 27 #[.pointer (some ⟨g, 0, none⟩), .pointer (some ⟨r, 0, none⟩), .agg #[.int .i64 1, .int .i64 t, .int .i64 n]] W fun e w' => e = .returned (.bool true) ∧ Goes W g r B wd (All.length + 1) (FP g r v u) w' := by
  have hb := Blk.new W 61 [.int .i64 1, .int .i64 t, .int .i64 n]
  have x0 := hb.cellv (i := 0) rfl
  have x1 := hb.cellv (i := 1) rfl
  have x2 := hb.cellv (i := 2) rfl
  have hQ := h.below (alloc_below W (.cells #[.int .i64 1, .int .i64 t, .int .i64 n] 61))
  have HQ := Lib.hid hQ
  have w0 := h.w0
  have gW := h.bg.lt
  have HN := Lib.hid (show ∀ b, FP g r v u b → b ≠ W.heap.size from fun b hb e => by have := h.lt hb; omega)
  clear h hQ hb
  go_enter Try.func27, Try.ntmps27
  go_wp2
  go_region_held3 (fun WW => WW.cell? ⟨W.heap.size, 1, none⟩ = some (.int .i64 t) ∧ WW.cell? ⟨W.heap.size, 2, none⟩ = some (.int .i64 n)) (first | exact ⟨x1, x2⟩ | assumption) (first | (go_at_call 12; (refine (add_e _ g B wd ck sm l t n e0 (HQ.out.dr ⟨1, rfl⟩).win (.inr HX.out) HE ne).mono ?_); rintro e w5 ⟨rfl, rfl⟩) | (go_at_call 38; (refine (radd_e _ r wd ck u t n e0 w0 HX.out.1 HX.out.2 (HQ.out.dr ⟨1, rfl⟩).ref.blk HE ne).mono ?_); rintro e w6 ⟨rfl, rfl⟩))
  go_wp2
  go_ret
  exact ⟨by simp, (pair_same (HQ.out.dr ⟨1, rfl⟩) (Dr.refl _) (Nat.le_succ _)).drew.alloc⟩
set_option maxHeartbeats 4000000 in
theorem does_1c  (t n : Int) (h : PairW W g r B wd ck sm l All v u) (HX : Hid (0 ≤ n ∧ n ≤ 4611686018427387903)) (HE : Hid (atE wd ck t = 0)) (HF : Hid (4611686018427387903 < sumA (l.drop (lead (t - wd) l)) + n)) (hl : All.length ≤ 1048576) :
    Calls Try.prog 27 #[.pointer (some ⟨g, 0, none⟩), .pointer (some ⟨r, 0, none⟩), .agg #[.int .i64 1, .int .i64 t, .int .i64 n]] W fun e w' => e = .returned (.bool true) ∧ Goes W g r B wd (All.length + 1) (FP g r v u) w' := by
  have hb := Blk.new W 61 [.int .i64 1, .int .i64 t, .int .i64 n]
  have x0 := hb.cellv (i := 0) rfl
  have x1 := hb.cellv (i := 1) rfl
  have x2 := hb.cellv (i := 2) rfl
  have hQ := h.below (alloc_below W (.cells #[.int .i64 1, .int .i64 t, .int .i64 n] 61))
  have HQ := Lib.hid hQ
  have w0 := h.w0
  have gW := h.bg.lt
  have HN := Lib.hid (show ∀ b, FP g r v u b → b ≠ W.heap.size from fun b hb e => by have := h.lt hb; omega)
  have ha := (hQ.dr ⟨1, rfl⟩).ask HE.out (Nat.le_trans hl (by decide))
  have hck := ha.1
  have HA := Lib.hid ha.2.1
  have HR := Lib.hid ha.2.2
  have now := hQ.rel.now hck
  have HS := Lib.hid now.symm
  have hf2 : decide (4611686018427387903 - n < sumA (l.drop (lead (t - wd) l))) = true := decide_eq_true (by have := HF.out; omega)
  clear h hQ hb
  go_enter Try.func27, Try.ntmps27
  go_wp2
  go_region_held3 (fun WW => WW.cell? ⟨W.heap.size, 1, none⟩ = some (.int .i64 t) ∧ WW.cell? ⟨W.heap.size, 2, none⟩ = some (.int .i64 n)) (first | exact ⟨x1, x2⟩ | assumption) (first | (go_at_call 12; (refine (add_full _ g B wd ck sm l t n HA.out HX.out.1 HX.out.2 _ _ (Lib.hid rfl) (Lib.hid rfl) HF.out).mono ?_); rintro e w5 ⟨rfl, nd, rfl⟩) | (go_at_call 38; (refine (radd_full _ r B wd ck u All t n _ HX.out.1 HX.out.2 (HQ.out.dr ⟨1 + nd, rfl⟩).ref HR.out HE HS hf2).mono ?_); rintro e w6 ⟨rfl, nd2, rfl⟩))
  go_wp2
  go_ret
  exact ⟨rfl, (pair_same HQ.out ⟨_, rfl⟩ (Nat.le_succ _)).alloc⟩
end
theorem ref_chg {W W' : World} {g r B : Nat} {wd ck sm : Int} {l All : List (Int × Int)} {v u : Value} (h : PairW W g r B wd ck sm l All v u) (hc : Chg g W W') : RefW W' r B wd ck u All ∧ r < B ∧ B ≤ W.heap.size := by
  have hg := h.dis g (.inl rfl)
  exact ⟨⟨hc.blk h.ref.blk (fun e => hg (.inl e.symm)), hc.own h.ref.own h.gB⟩, h.rB, h.BW⟩
section
variable {W : World} {g r B : Nat} {wd ck sm : Int} {l All : List (Int × Int)} {v u : Value}
set_option maxHeartbeats 4000000 in
theorem does_1d  (t n : Int) (h : PairW W g r B wd ck sm l All v u) (HX : Hid (0 ≤ n ∧ n ≤ 4611686018427387903)) (HE : Hid (atE wd ck t = 0)) (HF : Hid (sumA (l.drop (lead (t - wd) l)) + n ≤ 4611686018427387903)) (hl : All.length ≤ 1048576) :
    Calls Try.prog 27 #[.pointer (some ⟨g, 0, none⟩), .pointer (some ⟨r, 0, none⟩), .agg #[.int .i64 1, .int .i64 t, .int .i64 n]] W fun e w' => e = .returned (.bool true) ∧ Goes W g r B wd (All.length + 1) (FP g r v u) w' := by
  have hb := Blk.new W 61 [.int .i64 1, .int .i64 t, .int .i64 n]
  have x0 := hb.cellv (i := 0) rfl
  have x1 := hb.cellv (i := 1) rfl
  have x2 := hb.cellv (i := 2) rfl
  have hQ := h.below (alloc_below W (.cells #[.int .i64 1, .int .i64 t, .int .i64 n] 61))
  have HQ := Lib.hid hQ
  have w0 := h.w0
  have gW := h.bg.lt
  have HN := Lib.hid (show ∀ b, FP g r v u b → b ≠ W.heap.size from fun b hb e => by have := h.lt hb; omega)
  have ha := (hQ.dr ⟨1, rfl⟩).ask HE.out (Nat.le_trans hl (by decide))
  have hck := ha.1
  have HA := Lib.hid ha.2.1
  have HR := Lib.hid ha.2.2
  have now := hQ.rel.now hck
  have HS := Lib.hid now.symm
  have hf2 : decide (4611686018427387903 - n < sumA (l.drop (lead (t - wd) l))) = false := decide_eq_false (by have := HF.out; omega)
  clear h hQ hb
  go_enter Try.func27, Try.ntmps27
  go_wp2
  go_region_held3 (fun WW => WW.cell? ⟨W.heap.size, 1, none⟩ = some (.int .i64 t) ∧ WW.cell? ⟨W.heap.size, 2, none⟩ = some (.int .i64 n)) (first | exact ⟨x1, x2⟩ | exact ⟨y1, y2⟩ | exact ⟨z1, z2⟩ | assumption) (first | (go_at_call 12; (refine (add_ok _ g B wd ck sm l t n HA.out HX.out.1 HX.out.2 HF.out).mono ?_); rintro e w5 ⟨rfl, hw5, hC5⟩; have y1 := chg_cell hC5 (a := ⟨W.heap.size, 1, none⟩) x1 (Ne.symm (Nat.ne_of_lt gW)); have y2 := chg_cell hC5 (a := ⟨W.heap.size, 2, none⟩) x2 (Ne.symm (Nat.ne_of_lt gW)); have HR5 := Lib.hid (ref_chg (HQ.out.dr ⟨1, rfl⟩) hC5); have HW5 := Lib.hid hw5; have HC5 := Lib.hid hC5; clear hw5 hC5) | (go_at_call 38; (refine (radd_ok _ r B wd ck u All t n _ HX.out.1 HX.out.2 HR5.out.1 HR.out HE HS hf2 HR5.out.2.1 (Nat.le_trans HR5.out.2.2 HC5.out.size)).mono ?_); rintro e w6 ⟨rfl, u6, hr6, hat6, hs6⟩; have HR6 := Lib.hid hr6; have HT6 := Lib.hid hat6; have HS6 := Lib.hid hs6; have z1 := chgs_cell hs6 (a := ⟨W.heap.size, 1, none⟩) y1 (fun hF => HN.out _ (.inr hF) rfl); have z2 := chgs_cell hs6 (a := ⟨W.heap.size, 2, none⟩) y2 (fun hF => HN.out _ (.inr hF) rfl); clear hr6 hat6 hs6))
  go_wp2
  go_ret
  have hr := HA.out
  exact ⟨rfl, (pair_step (HQ.out.dr ⟨1, rfl⟩) HW5.out HC5.out HR6.out HT6.out HS6.out ((HQ.out.dr ⟨1, rfl⟩).rel.added hck hr.t0 hr.t1 HX.out.1 HF.out) (by simp)).drew.alloc⟩
set_option maxHeartbeats 4000000 in
theorem does_2b  (t n : Int) (h : PairW W g r B wd ck sm l All v u) (e0 : Int) (HE : Hid (atE wd ck t = e0)) (ne : (e0 != 0) = true) (hl : All.length ≤ 1048576) :
    Calls Try.prog 27 #[.pointer (some ⟨g, 0, none⟩), .pointer (some ⟨r, 0, none⟩), .agg #[.int .i64 2, .int .i64 t, .int .i64 n]] W fun e w' => e = .returned (.bool true) ∧ Goes W g r B wd (All.length + 1) (FP g r v u) w' := by
  have hb := Blk.new W 61 [.int .i64 2, .int .i64 t, .int .i64 n]
  have x0 := hb.cellv (i := 0) rfl
  have x1 := hb.cellv (i := 1) rfl
  have x2 := hb.cellv (i := 2) rfl
  have hQ := h.below (alloc_below W (.cells #[.int .i64 2, .int .i64 t, .int .i64 n] 61))
  have HQ := Lib.hid hQ
  have w0 := h.w0
  have gW := h.bg.lt
  have HN := Lib.hid (show ∀ b, FP g r v u b → b ≠ W.heap.size from fun b hb e => by have := h.lt hb; omega)
  clear h hQ hb
  go_enter Try.func27, Try.ntmps27
  go_wp2_with (first | (go_at_call 14; (with_reducible refine (sum_e _ g B wd ck sm l t e0 HQ.out.win HE ne).mono ?_); rintro e w' ⟨rfl, rfl⟩) | (go_at_call 39; (with_reducible refine (rsum_e _ r wd ck u t e0 w0 HQ.out.ref.blk HE ne).mono ?_); rintro e w' ⟨rfl, rfl⟩))
  go_ret
  exact ⟨by simp, (pair_same HQ.out (Dr.refl _) (Nat.le_succ _)).alloc⟩
set_option maxHeartbeats 4000000 in
theorem does_2d  (t n : Int) (h : PairW W g r B wd ck sm l All v u) (HE : Hid (atE wd ck t = 0))  (hl : All.length ≤ 1048576) :
    Calls Try.prog 27 #[.pointer (some ⟨g, 0, none⟩), .pointer (some ⟨r, 0, none⟩), .agg #[.int .i64 2, .int .i64 t, .int .i64 n]] W fun e w' => e = .returned (.bool true) ∧ Goes W g r B wd (All.length + 1) (FP g r v u) w' := by
  have hb := Blk.new W 61 [.int .i64 2, .int .i64 t, .int .i64 n]
  have x0 := hb.cellv (i := 0) rfl
  have x1 := hb.cellv (i := 1) rfl
  have x2 := hb.cellv (i := 2) rfl
  have hQ := h.below (alloc_below W (.cells #[.int .i64 2, .int .i64 t, .int .i64 n] 61))
  have HQ := Lib.hid hQ
  have w0 := h.w0
  have gW := h.bg.lt
  have HN := Lib.hid (show ∀ b, FP g r v u b → b ≠ W.heap.size from fun b hb e => by have := h.lt hb; omega)
  have ha := hQ.ask HE.out (Nat.le_trans hl (by decide))
  have hck := ha.1
  have HA := Lib.hid ha.2.1
  have HR := Lib.hid ha.2.2
  have now := hQ.rel.now hck
  have HS := Lib.hid now.symm
  clear h hQ hb
  go_enter Try.func27, Try.ntmps27
  go_wp2_with (first | (go_at_call 14; (refine (sum_ok _ g B wd ck sm l t HA.out _ _ (Lib.hid rfl) (Lib.hid rfl)).mono ?_); rintro e w5 ⟨rfl, hw5, hC5⟩; have y1 := chg_cell hC5 (a := ⟨W.heap.size, 1, none⟩) x1 (Ne.symm (Nat.ne_of_lt gW)); have HR5 := Lib.hid (ref_chg HQ.out hC5); have HW5 := Lib.hid hw5; have HC5 := Lib.hid hC5; clear hw5 hC5) | (go_at_call 39; (refine (rsum_ok _ r B wd ck u All t _ HR5.out.1 HR.out HE HS HR5.out.2.1).mono ?_); rintro e w6 ⟨rfl, hr6, hs6⟩; have HR6 := Lib.hid hr6; have HS6 := Lib.hid hs6; clear hr6 hs6))
  go_ret
  exact ⟨by simp, (pair_step HQ.out HW5.out HC5.out HR6.out (.inl rfl) HS6.out (HQ.out.rel.asked hck) (Nat.le_succ _)).alloc⟩
set_option maxHeartbeats 4000000 in
theorem does_3b (k : Int) (t n : Int) (h : PairW W g r B wd ck sm l All v u) (k1 : (k == 1) = false) (k2 : (k == 2) = false) (e0 : Int) (HE : Hid (atE wd ck t = e0)) (ne : (e0 != 0) = true) (hl : All.length ≤ 1048576) :
    Calls Try.prog 27 #[.pointer (some ⟨g, 0, none⟩), .pointer (some ⟨r, 0, none⟩), .agg #[.int .i64 k, .int .i64 t, .int .i64 n]] W fun e w' => e = .returned (.bool true) ∧ Goes W g r B wd (All.length + 1) (FP g r v u) w' := by
  have hb := Blk.new W 61 [.int .i64 k, .int .i64 t, .int .i64 n]
  have x0 := hb.cellv (i := 0) rfl
  have x1 := hb.cellv (i := 1) rfl
  have x2 := hb.cellv (i := 2) rfl
  have hQ := h.below (alloc_below W (.cells #[.int .i64 k, .int .i64 t, .int .i64 n] 61))
  have HQ := Lib.hid hQ
  have w0 := h.w0
  have gW := h.bg.lt
  have HN := Lib.hid (show ∀ b, FP g r v u b → b ≠ W.heap.size from fun b hb e => by have := h.lt hb; omega)
  have zf := zero_eqf
  clear h hQ hb
  go_enter Try.func27, Try.ntmps27
  go_wp2_with (first | (go_at_call 30; (with_reducible refine (rate_e _ g B wd ck sm l t e0 HQ.out.win HE ne).mono ?_); rintro e w' ⟨rfl, rfl⟩) | (go_at_call 40; (with_reducible refine (rrate_e _ r wd ck u t e0 w0 HQ.out.ref.blk HE ne).mono ?_); rintro e w' ⟨rfl, rfl⟩))
  go_ret
  exact ⟨by simp, (pair_same HQ.out (Dr.refl _) (Nat.le_succ _)).alloc⟩
set_option maxHeartbeats 4000000 in
theorem does_3d (k : Int) (t n : Int) (h : PairW W g r B wd ck sm l All v u) (k1 : (k == 1) = false) (k2 : (k == 2) = false) (HE : Hid (atE wd ck t = 0))  (hl : All.length ≤ 1048576) :
    Calls Try.prog 27 #[.pointer (some ⟨g, 0, none⟩), .pointer (some ⟨r, 0, none⟩), .agg #[.int .i64 k, .int .i64 t, .int .i64 n]] W fun e w' => e = .returned (.bool true) ∧ Goes W g r B wd (All.length + 1) (FP g r v u) w' := by
  have hb := Blk.new W 61 [.int .i64 k, .int .i64 t, .int .i64 n]
  have x0 := hb.cellv (i := 0) rfl
  have x1 := hb.cellv (i := 1) rfl
  have x2 := hb.cellv (i := 2) rfl
  have hQ := h.below (alloc_below W (.cells #[.int .i64 k, .int .i64 t, .int .i64 n] 61))
  have HQ := Lib.hid hQ
  have w0 := h.w0
  have gW := h.bg.lt
  have HN := Lib.hid (show ∀ b, FP g r v u b → b ≠ W.heap.size from fun b hb e => by have := h.lt hb; omega)
  have ha := hQ.ask HE.out (Nat.le_trans hl (by decide))
  have hck := ha.1
  have HA := Lib.hid ha.2.1
  have HR := Lib.hid ha.2.2
  have now := hQ.rel.now hck
  have HS := Lib.hid now.symm
  have hbd := hQ.rel.bound hck
  obtain ⟨q, hq, qq⟩ := rate_q (sumA (l.drop (lead (t - wd) l))) wd (by omega) (by omega) w0 hQ.w1
  clear h hQ hb
  go_enter Try.func27, Try.ntmps27
  go_wp2_with (first | (go_at_call 30; (refine (rate_ok _ g B wd ck sm l t HA.out _ _ (Lib.hid rfl) (Lib.hid rfl) q hq).mono ?_); rintro e w5 ⟨rfl, hw5, hC5⟩; have y1 := chg_cell hC5 (a := ⟨W.heap.size, 1, none⟩) x1 (Ne.symm (Nat.ne_of_lt gW)); have HR5 := Lib.hid (ref_chg HQ.out hC5); have HW5 := Lib.hid hw5; have HC5 := Lib.hid hC5; clear hw5 hC5) | (go_at_call 40; (refine (rrate_ok _ r B wd ck u All t _ HR5.out.1 HR.out HE HS HR5.out.2.1 q hq).mono ?_); rintro e w6 ⟨rfl, hr6, hs6⟩; have HR6 := Lib.hid hr6; have HS6 := Lib.hid hs6; clear hr6 hs6))
  go_ret
  exact ⟨by simp, (pair_step HQ.out HW5.out HC5.out HR6.out (.inl rfl) HS6.out (HQ.out.rel.asked hck) (Nat.le_succ _)).alloc⟩
/-- One call of both: they say the same. -/
theorem does_c (k t n : Int) (h : PairW W g r B wd ck sm l All v u) (hl : All.length ≤ 1048576) :
    Calls Try.prog 27 #[.pointer (some ⟨g, 0, none⟩), .pointer (some ⟨r, 0, none⟩), .agg #[.int .i64 k, .int .i64 t, .int .i64 n]] W fun e w' => e = .returned (.bool true) ∧ Goes W g r B wd (All.length + 1) (FP g r v u) w' := by
  by_cases he : atE wd ck t = 0
  · have HE := Lib.hid he
    by_cases k1 : k = 1
    · subst k1
      by_cases hn : n < 0 ∨ 4611686018427387903 < n
      · exact does_1a t n h (Lib.hid hn) hl
      · have hn' : 0 ≤ n ∧ n ≤ 4611686018427387903 := by omega
        by_cases hf : 4611686018427387903 < sumA (l.drop (lead (t - wd) l)) + n
        · exact does_1c t n h (Lib.hid hn') HE (Lib.hid hf) hl
        · exact does_1d t n h (Lib.hid hn') HE (Lib.hid (by omega)) hl
    · by_cases k2 : k = 2
      · subst k2
        exact does_2d t n h HE hl
      · exact does_3d k t n h (beq_eq_false_iff_ne.2 k1) (beq_eq_false_iff_ne.2 k2) HE hl
  · have HE := Lib.hid (rfl : atE wd ck t = atE wd ck t)
    have ne : (atE wd ck t != 0) = true := bne_iff_ne.2 he
    by_cases k1 : k = 1
    · subst k1
      by_cases hn : n < 0 ∨ 4611686018427387903 < n
      · exact does_1a t n h (Lib.hid hn) hl
      · have hn' : 0 ≤ n ∧ n ≤ 4611686018427387903 := by omega
        exact does_1b t n h (Lib.hid hn') _ HE ne hl
    · by_cases k2 : k = 2
      · subst k2
        exact does_2b t n h _ HE ne hl
      · exact does_3b k t n h (beq_eq_false_iff_ne.2 k1) (beq_eq_false_iff_ne.2 k2) _ HE ne hl
theorem does_st {k : Nat} {F : Nat → Prop} (c t n : Int) (h : St W g r B wd k F) (hl : k ≤ 1048576) :
    Calls Try.prog 27 #[.pointer (some ⟨g, 0, none⟩), .pointer (some ⟨r, 0, none⟩), .agg #[.int .i64 c, .int .i64 t, .int .i64 n]] W fun e w' => e = .returned (.bool true) ∧ Goes W g r B wd (k + 1) F w' := by
  obtain ⟨ck, sm, l, All, v, u, hp, hk, rfl⟩ := h
  refine (does_c c t n hp (by omega)).mono fun e w' ⟨he, F', hs, hc, hf⟩ => ⟨he, F', hs.more (by omega), hc, hf⟩
end
end Go.Proofs.Ythcjkdmlaahpbaa.Win
