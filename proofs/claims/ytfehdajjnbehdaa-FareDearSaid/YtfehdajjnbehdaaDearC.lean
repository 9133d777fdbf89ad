/- The walk of FareDear: both are good. -/
import Derived.Test.YtfehdajjnbehdaaDear
import Derived.Deep.RegionHeld3
namespace Go.Proofs.Ytfehdajjnbehdaa.Dear
open Go.RowKit Go.Proofs.Ytfehdajjnbehdaa.Aid Go.Proofs.Ytfehdajjnbehdaa.Mem Go.Proofs.Ytfehdajjnbehdaa.Fl Go.Proofs.Ytfehdajjnbehdaa.Dist Go.Proofs.Ytfehdajjnbehdaa.Types Go.Proofs.Ytfehdajjnbehdaa.Keep Go.Proofs.Ytfehdajjnbehdaa.AliveR Go.Proofs.Ytfehdajjnbehdaa.Has Go.Proofs.Ytfehdajjnbehdaa.Recs Go.Proofs.Ytfehdajjnbehdaa.Price
open Ieee (double Toward Format)
set_option linter.unusedSimpArgs false
set_option linter.unusedVariables false
set_option maxRecDepth 100000
theorem size_sc (w : World) (p : Addr) (v : Value) : (w.setCell p v).heap.size = w.heap.size := by simp [World.setCell]
attribute [local go_sem ↓] Keep.load_req load_id load_pt store_id store_pt
attribute [local go_sem] size_SW size_sc
set_option maxHeartbeats 8000000 in
theorem dear_d1 (a b : Req) (sx sy : Bool) (kx ky : Nat) (N M DA DB : Int) (w : World) (qa : Rq a) (qb : Rq b) (hx : kx < 9223372036854775808) (hy : ky < 9223372036854775808) (HX : Hid (Pr a sx kx N 0)) (HY : Hid (Pr b sy ky M 0)) (H1 : Hid (Pr a false 4607182418800017408 (250 + 10 * DA + 100 * (a.seats - 1)) 0)) (HC : Hid (Pr (⟨b.i0, b.i1, b.i2, b.i3, b.i4, b.i5, b.i6, b.i7, a.tx, a.ty, a.fx, a.fy, a.seats, b.classes, b.base, b.ttl⟩ : Req) sx kx N 0)) (HDA : Hid (dst a.fx a.fy a.tx a.ty = DA)) (HDB : Hid (dst b.fx b.fy b.tx b.ty = DB)) (d1 : 0 ≤ DA) (d2 : DA ≤ 131070) (d3 : 0 ≤ DB) (d4 : DB ≤ 131070) (hs : 0 < a.seats) (g0 : ((250 + 10 * DA + 100 * (a.seats - 1)) != IntKind.i64.wrap (IntKind.i64.wrap (250 + IntKind.i64.wrap (10 * DA)) + IntKind.i64.wrap (100 * IntKind.i64.wrap (IntKind.i64.wrap a.seats - 1)))) = false) (qc : Rq (⟨b.i0, b.i1, b.i2, b.i3, b.i4, b.i5, b.i6, b.i7, a.tx, a.ty, a.fx, a.fy, a.seats, b.classes, b.base, b.ttl⟩ : Req)) (h1 : (FloatKind.f64.format.order (double.word sx kx) 4607182418800017408 == some .gt || FloatKind.f64.format.order (double.word sx kx) 4607182418800017408 == some .eq) = true) (h2 : (FloatKind.f64.format.order (double.word sx kx) 4613937818241073152 == some .lt || FloatKind.f64.format.order (double.word sx kx) 4613937818241073152 == some .eq) = true) (g1 : (250 + 10 * DA + 100 * (a.seats - 1)) ≤ N) (g2 : N ≤ 3 * (250 + 10 * DA + 100 * (a.seats - 1))) (h3 : (FloatKind.f64.format.order (double.word sx kx) (double.word sy ky) == some .lt || FloatKind.f64.format.order (double.word sx kx) (double.word sy ky) == some .eq) = false) :
    Calls Try.prog 7 #[a.val, b.val, .agg #[.float .f64 (double.word sx kx), .float .f64 (double.word sy ky)]] w fun e w' => e = .returned (.bool true) ∧ Below w.heap.size w w' := by
  obtain ⟨t1, t2⟩ := qa.seats
  obtain ⟨t3, t4⟩ := qb.seats
  have k := start w a b sx sy kx ky
  have ra0 := ra (c := 0) k
  have rb0 := rb (c := 0) k
  have cx0 := cx (c := 0) k
  have cy0 := cy (c := 0) k
  have sa0 := sa12 (c := 0) k
  have sb0 := sb12 (c := 0) k
  go_enter Try.func7, Try.ntmps7
  go_wp2_with (first | (go_at_call 14; (with_reducible refine (price_v a sx kx N 0 _ qa hx HX).mono ?_); rintro e1 w1 ⟨rfl, hb⟩; replace k := Has.keep k hb; replace ra0 := ra (c := 0) k; replace rb0 := rb (c := 0) k; replace cx0 := cx (c := 0) k; replace cy0 := cy (c := 0) k; replace sa0 := sa12 (c := 0) k; replace sb0 := sb12 (c := 0) k; clear hb) | (go_at_call 14; (with_reducible refine (price_v b sy ky M 0 _ qb hy HY).mono ?_); rintro e2 w2 ⟨rfl, hb⟩; replace k := Has.keep k hb; replace ra0 := ra (c := 0) k; replace rb0 := rb (c := 0) k; replace cx0 := cx (c := 0) k; replace cy0 := cy (c := 0) k; replace sa0 := sa12 (c := 0) k; replace sb0 := sb12 (c := 0) k; clear hb) | (go_at_call 14; (with_reducible refine (price_1 a (250 + 10 * DA + 100 * (a.seats - 1)) 0 _ qa H1).mono ?_); rintro e3 w3 ⟨rfl, hb⟩; replace k := Has.keep k hb; replace ra0 := ra (c := 0) k; replace rb0 := rb (c := 0) k; replace cx0 := cx (c := 0) k; replace cy0 := cy (c := 0) k; replace sa0 := sa12 (c := 0) k; replace sb0 := sb12 (c := 0) k; clear hb) | (go_at_call 16; with_reducible refine (alive_c _).mono ?_; rintro e4 w4 ⟨rfl, hb⟩; replace k := Has.keep k hb; replace ra0 := ra (c := 0) k; replace rb0 := rb (c := 0) k; replace cx0 := cx (c := 0) k; replace cy0 := cy (c := 0) k; replace sa0 := sa12 (c := 0) k; replace sb0 := sb12 (c := 0) k; clear hb))
  go_region_held3 (fun WW => Has w [(w.heap.size + 1 + 1, 45, [.float .f64 (double.word sx kx), .float .f64 (double.word sy ky)]), (w.heap.size + 1, 36, [.int .u8 b.i0, .int .u8 b.i1, .int .u8 b.i2, .int .u8 b.i3, .int .u8 b.i4, .int .u8 b.i5, .int .u8 b.i6, .int .u8 b.i7, .int .i16 b.fx, .int .i16 b.fy, .int .i16 b.tx, .int .i16 b.ty, .int .u8 b.seats, .int .u8 b.classes, .int .i64 b.base, .int .i64 b.ttl]), (w.heap.size, 36, [.int .u8 a.i0, .int .u8 a.i1, .int .u8 a.i2, .int .u8 a.i3, .int .u8 a.i4, .int .u8 a.i5, .int .u8 a.i6, .int .u8 a.i7, .int .i16 a.fx, .int .i16 a.fy, .int .i16 a.tx, .int .i16 a.ty, .int .u8 a.seats, .int .u8 a.classes, .int .i64 a.base, .int .i64 a.ttl])] WW ∧ (LA 34 (.pointer (some ⟨w.heap.size, 8, none⟩))).run Try.prog WW = .ok (.agg #[.int .i16 a.fx, .int .i16 a.fy]) WW ∧ (LA 34 (.pointer (some ⟨w.heap.size, 10, none⟩))).run Try.prog WW = .ok (.agg #[.int .i16 a.tx, .int .i16 a.ty]) WW ∧ (LA 34 (.pointer (some ⟨w.heap.size + 1, 8, none⟩))).run Try.prog WW = .ok (.agg #[.int .i16 b.fx, .int .i16 b.fy]) WW ∧ (LA 34 (.pointer (some ⟨w.heap.size + 1, 10, none⟩))).run Try.prog WW = .ok (.agg #[.int .i16 b.tx, .int .i16 b.ty]) WW ∧ WW.cell? ⟨w.heap.size, 12, none⟩ = some (.int .u8 a.seats) ∧ WW.cell? ⟨w.heap.size + 1, 12, none⟩ = some (.int .u8 b.seats) ∧ WW.cell? ⟨w.heap.size + 1 + 1, 0, none⟩ = some (.float .f64 (double.word sx kx)) ∧ WW.cell? ⟨w.heap.size + 1 + 1, 1, none⟩ = some (.float .f64 (double.word sy ky))) (first | exact ext (c := 0) (Has.drew k) | exact ext (c := 0) (Has.keep (And.left (by assumption)) hb)) (first | (go_at_call 18; with_reducible refine (gap_c a.fx a.fy a.tx a.ty DA _ qa.fx qa.fy qa.tx qa.ty HDA).mono ?_; rintro e w' ⟨rfl, hb⟩) | (go_at_call 18; with_reducible refine (gap_c b.fx b.fy b.tx b.ty DB _ qb.fx qb.fy qb.tx qb.ty HDB).mono ?_; rintro e w' ⟨rfl, hb⟩))
  clear k
  obtain ⟨k, fa0, ta0, fb0, tb0, sa0, sb0, cx0, cy0⟩ := ‹Has w _ _ ∧ _›
  go_wp2
  go_quiet (fail)
  replace k := hasN k nq
  generalize World.drewN w' nq = W at k ⊢
  clear fa0 ta0 fb0 tb0 sa0 sb0 cx0 cy0 ra0 rb0
  have ra1 := ra (c := 0) k
  have lt := Has.lt k (b := w.heap.size + 1 + 1) (t := 45) (l := [.float .f64 (double.word sx kx), .float .f64 (double.word sy ky)]) (by simp)
  have k4 := Has.new k 36 [.int .u8 a.i0, .int .u8 a.i1, .int .u8 a.i2, .int .u8 a.i3, .int .u8 a.i4, .int .u8 a.i5, .int .u8 a.i6, .int .u8 a.i7, .int .i16 a.fx, .int .i16 a.fy, .int .i16 a.tx, .int .i16 a.ty, .int .u8 a.seats, .int .u8 a.classes, .int .i64 a.base, .int .i64 a.ttl]
  try simp only [size_drewN] at k4 lt
  have e0 := ids k4
  obtain ⟨v1, e1, k4⟩ := pq1 k4 lt
  have e2 := b13 k4
  have e3 := c13 k4
  have e4 := f13 k4
  replace k4 := p2 k4 lt
  have e5 := b14 k4
  have e6 := c14 k4
  have e7 := f14 k4
  replace k4 := p3 k4 lt
  have e8 := b15 k4
  have e9 := c15 k4
  have ea := f15 k4
  replace k4 := p4 k4 lt
  have eb := toa k4
  obtain ⟨v2, ec, k4⟩ := pq5 k4 lt
  have ed := fra k4
  obtain ⟨v3, ee, k4⟩ := pq6 k4 lt
  have ef := rc k4
  have eg := cxc k4
  go_wp2_with (first | (go_at_call 14; (with_reducible refine (price_v (⟨b.i0, b.i1, b.i2, b.i3, b.i4, b.i5, b.i6, b.i7, a.tx, a.ty, a.fx, a.fy, a.seats, b.classes, b.base, b.ttl⟩ : Req) sx kx N 0 _ qc hx HC).mono ?_); rintro e5 w5 ⟨rfl, hb⟩; replace k4 := Has.keep k4 hb; clear hb))
  go_ret
  exact ⟨ret_b (by simp <;> omega), k4.2⟩
set_option maxHeartbeats 8000000 in
theorem dear_d2 (a b : Req) (sx sy : Bool) (kx ky : Nat) (N M DA DB : Int) (w : World) (qa : Rq a) (qb : Rq b) (hx : kx < 9223372036854775808) (hy : ky < 9223372036854775808) (HX : Hid (Pr a sx kx N 0)) (HY : Hid (Pr b sy ky M 0)) (H1 : Hid (Pr a false 4607182418800017408 (250 + 10 * DA + 100 * (a.seats - 1)) 0)) (HC : Hid (Pr (⟨b.i0, b.i1, b.i2, b.i3, b.i4, b.i5, b.i6, b.i7, a.tx, a.ty, a.fx, a.fy, a.seats, b.classes, b.base, b.ttl⟩ : Req) sx kx N 0)) (HDA : Hid (dst a.fx a.fy a.tx a.ty = DA)) (HDB : Hid (dst b.fx b.fy b.tx b.ty = DB)) (d1 : 0 ≤ DA) (d2 : DA ≤ 131070) (d3 : 0 ≤ DB) (d4 : DB ≤ 131070) (hs : 0 < a.seats) (g0 : ((250 + 10 * DA + 100 * (a.seats - 1)) != IntKind.i64.wrap (IntKind.i64.wrap (250 + IntKind.i64.wrap (10 * DA)) + IntKind.i64.wrap (100 * IntKind.i64.wrap (IntKind.i64.wrap a.seats - 1)))) = false) (qc : Rq (⟨b.i0, b.i1, b.i2, b.i3, b.i4, b.i5, b.i6, b.i7, a.tx, a.ty, a.fx, a.fy, a.seats, b.classes, b.base, b.ttl⟩ : Req)) (h1 : (FloatKind.f64.format.order (double.word sx kx) 4607182418800017408 == some .gt || FloatKind.f64.format.order (double.word sx kx) 4607182418800017408 == some .eq) = true) (h2 : (FloatKind.f64.format.order (double.word sx kx) 4613937818241073152 == some .lt || FloatKind.f64.format.order (double.word sx kx) 4613937818241073152 == some .eq) = true) (g1 : (250 + 10 * DA + 100 * (a.seats - 1)) ≤ N) (g2 : N ≤ 3 * (250 + 10 * DA + 100 * (a.seats - 1))) (h3 : (FloatKind.f64.format.order (double.word sx kx) (double.word sy ky) == some .lt || FloatKind.f64.format.order (double.word sx kx) (double.word sy ky) == some .eq) = true) (h4 : b.seats < a.seats) (h5 : decide (a.seats ≤ b.seats) = false) :
    Calls Try.prog 7 #[a.val, b.val, .agg #[.float .f64 (double.word sx kx), .float .f64 (double.word sy ky)]] w fun e w' => e = .returned (.bool true) ∧ Below w.heap.size w w' := by
  obtain ⟨t1, t2⟩ := qa.seats
  obtain ⟨t3, t4⟩ := qb.seats
  have k := start w a b sx sy kx ky
  have ra0 := ra (c := 0) k
  have rb0 := rb (c := 0) k
  have cx0 := cx (c := 0) k
  have cy0 := cy (c := 0) k
  have sa0 := sa12 (c := 0) k
  have sb0 := sb12 (c := 0) k
  go_enter Try.func7, Try.ntmps7
  go_wp2_with (first | (go_at_call 14; (with_reducible refine (price_v a sx kx N 0 _ qa hx HX).mono ?_); rintro e1 w1 ⟨rfl, hb⟩; replace k := Has.keep k hb; replace ra0 := ra (c := 0) k; replace rb0 := rb (c := 0) k; replace cx0 := cx (c := 0) k; replace cy0 := cy (c := 0) k; replace sa0 := sa12 (c := 0) k; replace sb0 := sb12 (c := 0) k; clear hb) | (go_at_call 14; (with_reducible refine (price_v b sy ky M 0 _ qb hy HY).mono ?_); rintro e2 w2 ⟨rfl, hb⟩; replace k := Has.keep k hb; replace ra0 := ra (c := 0) k; replace rb0 := rb (c := 0) k; replace cx0 := cx (c := 0) k; replace cy0 := cy (c := 0) k; replace sa0 := sa12 (c := 0) k; replace sb0 := sb12 (c := 0) k; clear hb) | (go_at_call 14; (with_reducible refine (price_1 a (250 + 10 * DA + 100 * (a.seats - 1)) 0 _ qa H1).mono ?_); rintro e3 w3 ⟨rfl, hb⟩; replace k := Has.keep k hb; replace ra0 := ra (c := 0) k; replace rb0 := rb (c := 0) k; replace cx0 := cx (c := 0) k; replace cy0 := cy (c := 0) k; replace sa0 := sa12 (c := 0) k; replace sb0 := sb12 (c := 0) k; clear hb) | (go_at_call 16; with_reducible refine (alive_c _).mono ?_; rintro e4 w4 ⟨rfl, hb⟩; replace k := Has.keep k hb; replace ra0 := ra (c := 0) k; replace rb0 := rb (c := 0) k; replace cx0 := cx (c := 0) k; replace cy0 := cy (c := 0) k; replace sa0 := sa12 (c := 0) k; replace sb0 := sb12 (c := 0) k; clear hb))
  go_region_held3 (fun WW => Has w [(w.heap.size + 1 + 1, 45, [.float .f64 (double.word sx kx), .float .f64 (double.word sy ky)]), (w.heap.size + 1, 36, [.int .u8 b.i0, .int .u8 b.i1, .int .u8 b.i2, .int .u8 b.i3, .int .u8 b.i4, .int .u8 b.i5, .int .u8 b.i6, .int .u8 b.i7, .int .i16 b.fx, .int .i16 b.fy, .int .i16 b.tx, .int .i16 b.ty, .int .u8 b.seats, .int .u8 b.classes, .int .i64 b.base, .int .i64 b.ttl]), (w.heap.size, 36, [.int .u8 a.i0, .int .u8 a.i1, .int .u8 a.i2, .int .u8 a.i3, .int .u8 a.i4, .int .u8 a.i5, .int .u8 a.i6, .int .u8 a.i7, .int .i16 a.fx, .int .i16 a.fy, .int .i16 a.tx, .int .i16 a.ty, .int .u8 a.seats, .int .u8 a.classes, .int .i64 a.base, .int .i64 a.ttl])] WW ∧ (LA 34 (.pointer (some ⟨w.heap.size, 8, none⟩))).run Try.prog WW = .ok (.agg #[.int .i16 a.fx, .int .i16 a.fy]) WW ∧ (LA 34 (.pointer (some ⟨w.heap.size, 10, none⟩))).run Try.prog WW = .ok (.agg #[.int .i16 a.tx, .int .i16 a.ty]) WW ∧ (LA 34 (.pointer (some ⟨w.heap.size + 1, 8, none⟩))).run Try.prog WW = .ok (.agg #[.int .i16 b.fx, .int .i16 b.fy]) WW ∧ (LA 34 (.pointer (some ⟨w.heap.size + 1, 10, none⟩))).run Try.prog WW = .ok (.agg #[.int .i16 b.tx, .int .i16 b.ty]) WW ∧ WW.cell? ⟨w.heap.size, 12, none⟩ = some (.int .u8 a.seats) ∧ WW.cell? ⟨w.heap.size + 1, 12, none⟩ = some (.int .u8 b.seats) ∧ WW.cell? ⟨w.heap.size + 1 + 1, 0, none⟩ = some (.float .f64 (double.word sx kx)) ∧ WW.cell? ⟨w.heap.size + 1 + 1, 1, none⟩ = some (.float .f64 (double.word sy ky))) (first | exact ext (c := 0) (Has.drew k) | exact ext (c := 0) (Has.keep (And.left (by assumption)) hb)) (first | (go_at_call 18; with_reducible refine (gap_c a.fx a.fy a.tx a.ty DA _ qa.fx qa.fy qa.tx qa.ty HDA).mono ?_; rintro e w' ⟨rfl, hb⟩) | (go_at_call 18; with_reducible refine (gap_c b.fx b.fy b.tx b.ty DB _ qb.fx qb.fy qb.tx qb.ty HDB).mono ?_; rintro e w' ⟨rfl, hb⟩))
  clear k
  obtain ⟨k, fa0, ta0, fb0, tb0, sa0, sb0, cx0, cy0⟩ := ‹Has w _ _ ∧ _›
  go_wp2
  go_quiet (fail)
  replace k := hasN k nq
  generalize World.drewN w' nq = W at k ⊢
  clear fa0 ta0 fb0 tb0 sa0 sb0 cx0 cy0 ra0 rb0
  have ra1 := ra (c := 0) k
  have lt := Has.lt k (b := w.heap.size + 1 + 1) (t := 45) (l := [.float .f64 (double.word sx kx), .float .f64 (double.word sy ky)]) (by simp)
  have k4 := Has.new k 36 [.int .u8 a.i0, .int .u8 a.i1, .int .u8 a.i2, .int .u8 a.i3, .int .u8 a.i4, .int .u8 a.i5, .int .u8 a.i6, .int .u8 a.i7, .int .i16 a.fx, .int .i16 a.fy, .int .i16 a.tx, .int .i16 a.ty, .int .u8 a.seats, .int .u8 a.classes, .int .i64 a.base, .int .i64 a.ttl]
  try simp only [size_drewN] at k4 lt
  have e0 := ids k4
  obtain ⟨v1, e1, k4⟩ := pq1 k4 lt
  have e2 := b13 k4
  have e3 := c13 k4
  have e4 := f13 k4
  replace k4 := p2 k4 lt
  have e5 := b14 k4
  have e6 := c14 k4
  have e7 := f14 k4
  replace k4 := p3 k4 lt
  have e8 := b15 k4
  have e9 := c15 k4
  have ea := f15 k4
  replace k4 := p4 k4 lt
  have eb := toa k4
  obtain ⟨v2, ec, k4⟩ := pq5 k4 lt
  have ed := fra k4
  obtain ⟨v3, ee, k4⟩ := pq6 k4 lt
  have ef := rc k4
  have eg := cxc k4
  go_wp2_with (first | (go_at_call 14; (with_reducible refine (price_v (⟨b.i0, b.i1, b.i2, b.i3, b.i4, b.i5, b.i6, b.i7, a.tx, a.ty, a.fx, a.fy, a.seats, b.classes, b.base, b.ttl⟩ : Req) sx kx N 0 _ qc hx HC).mono ?_); rintro e5 w5 ⟨rfl, hb⟩; replace k4 := Has.keep k4 hb; clear hb))
  go_ret
  exact ⟨ret_b (by simp <;> omega), k4.2⟩
end Go.Proofs.Ytfehdajjnbehdaa.Dear
