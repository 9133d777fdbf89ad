/- The walk of FareDear: the first is none. -/
import Derived.Test.YtfehdajjnbehdaaDear
import Derived.Deep.RegionHeld3
namespace Go.Proofs.Ytfehdajjnbehdaa.Dear
open Go.RowKit Go.Proofs.Ytfehdajjnbehdaa.Aid Go.Proofs.Ytfehdajjnbehdaa.Mem Go.Proofs.Ytfehdajjnbehdaa.Fl Go.Proofs.Ytfehdajjnbehdaa.Dist Go.Proofs.Ytfehdajjnbehdaa.Types Go.Proofs.Ytfehdajjnbehdaa.Keep Go.Proofs.Ytfehdajjnbehdaa.AliveR Go.Proofs.Ytfehdajjnbehdaa.Has Go.Proofs.Ytfehdajjnbehdaa.Recs Go.Proofs.Ytfehdajjnbehdaa.Price
open Ieee (double Toward Format)
set_option linter.unusedSimpArgs false
set_option linter.unusedVariables false
set_option maxRecDepth 100000
theorem size_sc (w : World) (p : Addr) (v : Value) : (w.setCell p v).heap.size = w.heap.size := by simp [World.setCell]
attribute [local go_sem ↓] Keep.load_req load_id load_pt store_id store_pt
attribute [local go_sem] size_SW size_sc
set_option maxHeartbeats 8000000 in
theorem dear_a (a b : Req) (sx sy : Bool) (kx ky : Nat) (N M DA DB : Int) (w : World) (qa : Rq a) (qb : Rq b) (hx : kx < 9223372036854775808) (hy : ky < 9223372036854775808) (f : Int) (HX : Hid (Pr a sx kx 0 1)) (HY : Hid (Pr b sy ky M f)) (H1 : Hid (Pr a false 4607182418800017408 0 1)) (HC : Hid (Pr (⟨b.i0, b.i1, b.i2, b.i3, b.i4, b.i5, b.i6, b.i7, a.tx, a.ty, a.fx, a.fy, a.seats, b.classes, b.base, b.ttl⟩ : Req) sx kx N 1)) (HDA : Hid (dst a.fx a.fy a.tx a.ty = DA)) (HDB : Hid (dst b.fx b.fy b.tx b.ty = DB)) (hf : f = 0 ∨ f = 1 ∧ M = 0) (hs : a.seats ≤ 0) (hd : decide (0 < a.seats) = false) :
    Calls Try.prog 7 #[a.val, b.val, .agg #[.float .f64 (double.word sx kx), .float .f64 (double.word sy ky)]] w fun e w' => e = .returned (.bool true) ∧ Below w.heap.size w w' := by
  obtain ⟨t1, t2⟩ := qa.seats
  obtain ⟨t3, t4⟩ := qb.seats
  have k := start w a b sx sy kx ky
  have ra0 := ra (c := 0) k
  have rb0 := rb (c := 0) k
  have cx0 := cx (c := 0) k
  have cy0 := cy (c := 0) k
  have sa0 := sa12 (c := 0) k
  have sb0 := sb12 (c := 0) k
  go_enter Try.func7, Try.ntmps7
  go_wp2_with (first | (go_at_call 14; (with_reducible refine (price_v a sx kx 0 1 _ qa hx HX).mono ?_); rintro e1 w1 ⟨rfl, hb⟩; replace k := Has.keep k hb; replace ra0 := ra (c := 0) k; replace rb0 := rb (c := 0) k; replace cx0 := cx (c := 0) k; replace cy0 := cy (c := 0) k; replace sa0 := sa12 (c := 0) k; replace sb0 := sb12 (c := 0) k; clear hb) | (go_at_call 14; (with_reducible refine (price_v b sy ky M f _ qb hy HY).mono ?_); rintro e2 w2 ⟨rfl, hb⟩; replace k := Has.keep k hb; replace ra0 := ra (c := 0) k; replace rb0 := rb (c := 0) k; replace cx0 := cx (c := 0) k; replace cy0 := cy (c := 0) k; replace sa0 := sa12 (c := 0) k; replace sb0 := sb12 (c := 0) k; clear hb) | (go_at_call 14; (with_reducible refine (price_1 a 0 1 _ qa H1).mono ?_); rintro e3 w3 ⟨rfl, hb⟩; replace k := Has.keep k hb; replace ra0 := ra (c := 0) k; replace rb0 := rb (c := 0) k; replace cx0 := cx (c := 0) k; replace cy0 := cy (c := 0) k; replace sa0 := sa12 (c := 0) k; replace sb0 := sb12 (c := 0) k; clear hb) | (go_at_call 16; with_reducible refine (alive_c _).mono ?_; rintro e4 w4 ⟨rfl, hb⟩; replace k := Has.keep k hb; replace ra0 := ra (c := 0) k; replace rb0 := rb (c := 0) k; replace cx0 := cx (c := 0) k; replace cy0 := cy (c := 0) k; replace sa0 := sa12 (c := 0) k; replace sb0 := sb12 (c := 0) k; clear hb))
  go_quiet (fail)
  replace k := hasN k nq
  replace ra0 := ra (c := 0) k
  replace rb0 := rb (c := 0) k
  replace cx0 := cx (c := 0) k
  replace cy0 := cy (c := 0) k
  replace sa0 := sa12 (c := 0) k
  replace sb0 := sb12 (c := 0) k
  go_wp2
  all_goals (go_ret; exact ⟨ret_b (by simp <;> omega), k.2⟩)
end Go.Proofs.Ytfehdajjnbehdaa.Dear
