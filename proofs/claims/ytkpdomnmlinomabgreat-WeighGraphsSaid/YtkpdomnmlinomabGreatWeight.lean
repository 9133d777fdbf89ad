/- Contracts of weigh.Weight and of the document's: what a request that waits is worth. -/
import Derived.Test.YtkpdomnmlinomabGreatMays
import Derived.Test.YtkpdomnmlinomabGreatNums
import Derived.Test.YtkpdomnmlinomabGreatSums
import Derived.Test.YtkpdomnmlinomabGreatKeep
namespace Go.Proofs.YtkpdomnmlinomabGreat.Weight
open Go.RowKit Go.Proofs.YtkpdomnmlinomabGreat.Aid Go.Proofs.YtkpdomnmlinomabGreat.Mem Go.Proofs.YtkpdomnmlinomabGreat.Types Go.Proofs.YtkpdomnmlinomabGreat.Mays Go.Proofs.YtkpdomnmlinomabGreat.Keep Go.Proofs.YtkpdomnmlinomabGreat.Nums Go.Proofs.YtkpdomnmlinomabGreat.Sums
set_option linter.unusedSimpArgs false
set_option linter.unusedVariables false
/-- The request of one that waits. -/
abbrev rq (x : Wai) : Req := ⟨x.i0, x.i1, x.i2, x.i3, x.i4, x.i5, x.i6, x.i7, x.fx, x.fy, x.tx, x.ty, x.seats, x.classes, x.base, x.ttl⟩
theorem check_v (c : Cfg) (r : Req) (w : World) (s0 : 0 ≤ r.seats) (c0 : 0 ≤ r.classes) (v : Int) (h : Hid (checkErr c r = v)) : Calls Tryz.prog 111 #[c.val, r.val] w fun e w' => e = .returned (.int .i64 v) ∧ Below w.heap.size w w' := by
  obtain rfl := h.out
  exact check_c c r w s0 c0
theorem refCheck_v (c : Cfg) (r : Req) (w : World) (s0 : 0 ≤ r.seats) (c0 : 0 ≤ r.classes) (v : Int) (h : Hid (checkErr c r = v)) : Calls Tryz.prog 108 #[c.val, r.val] w fun e w' => e = .returned (.int .i64 v) ∧ Below w.heap.size w w' := by
  obtain rfl := h.out
  exact refCheck_c c r w s0 c0
theorem mul_v (a b v : Int) (w : World) (h : Hid (mulB a b = true ∧ mulV a b = v)) : Calls Tryz.prog 112 #[.int .i64 a, .int .i64 b] w fun e w' => e = .returned (.tuple #[.int .i64 v, .bool true]) ∧ w = w' := by
  obtain ⟨h1, rfl⟩ := h.out
  have := mul_c a b w
  rwa [h1] at this
theorem sum_v (x y z v : Int) (A : Option Addr) (n : Nat) (w : World) (h : Ints w .i64 A 3 [x, y, z]) (hv : Hid (sumB [x, y, z] = true ∧ sumV [x, y, z] = v)) : Calls Tryz.prog 113 #[.slice A 3 n] w fun e w' => e = .returned (.tuple #[.int .i64 v, .bool true]) ∧ w = w' := by
  obtain ⟨h1, rfl⟩ := hv.out
  have := sum_c [x, y, z] A 3 n w h (by decide)
  rwa [h1] at this
theorem ints3 (w : World) (x y z : Int) : Ints (w.alloc (.cells #[.int .i64 x, .int .i64 y, .int .i64 z] 3)) .i64 (some ⟨w.heap.size, 0, none⟩) 3 [x, y, z] :=
  Ints.of_blk (Blk.new w 3 [.int .i64 x, .int .i64 y, .int .i64 z]) (by intro j y hy; match j with | 0 => simpa using hy | 1 => simpa using hy | 2 => simpa using hy | j + 3 => simp at hy)
abbrev ca (c : Cfg) : Array Value := #[.int .i64 c.q, .int .i64 c.d, .int .i64 c.w, .int .i64 c.ttl, .int .i64 c.b]
abbrev xa (x : Wai) : Array Value := #[.int .u8 x.i0, .int .u8 x.i1, .int .u8 x.i2, .int .u8 x.i3, .int .u8 x.i4, .int .u8 x.i5, .int .u8 x.i6, .int .u8 x.i7, .int .i16 x.fx, .int .i16 x.fy, .int .i16 x.tx, .int .i16 x.ty, .int .u8 x.seats, .int .u8 x.classes, .int .i64 x.base, .int .i64 x.ttl, .int .i64 x.since, .int .i64 x.number]
abbrev ra (x : Wai) : Array Value := #[.int .u8 x.i0, .int .u8 x.i1, .int .u8 x.i2, .int .u8 x.i3, .int .u8 x.i4, .int .u8 x.i5, .int .u8 x.i6, .int .u8 x.i7, .int .i16 x.fx, .int .i16 x.fy, .int .i16 x.tx, .int .i16 x.ty, .int .u8 x.seats, .int .u8 x.classes, .int .i64 x.base, .int .i64 x.ttl]
theorem get_pre (l : List Value) (r : List Value) (i : Nat) (x : Value) (h : (l.toArray)[i]? = some x) : ((l ++ r).toArray)[i]? = some x := by
  simp only [List.getElem?_toArray] at h ⊢
  rw [List.getElem?_append_left (List.getElem?_eq_some_iff.1 h).1, h]
theorem lc (c : Cfg) (x : Wai) (w : World) : (LA 23 (.pointer (some ⟨w.heap.size, 0, none⟩))).run Tryz.prog ((w.alloc (.cells (ca c) 23)).alloc (.cells (xa x) 78)) = .ok (.agg (ca c)) ((w.alloc (.cells (ca c) 23)).alloc (.cells (xa x) 78)) :=
  loads_box Tryz.underlying23 rfl (by show _ = some 5; kernel_rfl) (start2 (ca c) (xa x) _ _ 0 _ rfl).1
theorem lr (c : Cfg) (x : Wai) (w : World) : (LA 76 (.pointer (some ⟨w.heap.size + 1, 0, none⟩))).run Tryz.prog ((w.alloc (.cells (ca c) 23)).alloc (.cells (xa x) 78)) = .ok (.agg (ra x)) ((w.alloc (.cells (ca c) 23)).alloc (.cells (xa x) 78)) :=
  loads_pre Tryz.underlying76 rfl (by show _ = some 16; kernel_rfl) (fun i y hy => ((start2 (ca c) (xa x) _ _ 0 _ rfl).2.1 i).trans (get_pre _ [.int .i64 x.since, .int .i64 x.number] i y hy))
theorem tick_t (n : Int) (w : World) (h1 : 0 ≤ n) (h2 : n ≤ 1099511627776) : Calls Tryz.prog 22 #[.int .i64 n] w fun e w' => e = .returned (.bool true) ∧ w = w' := by
  go_enter Tryz.func22, Tryz.ntmps22
  go_wp2
  all_goals (go_ret; exact ⟨ret_b (by simp <;> omega), rfl⟩)
theorem tick_f (n : Int) (w : World) (h : n < 0 ∨ 1099511627776 < n) : Calls Tryz.prog 22 #[.int .i64 n] w fun e w' => e = .returned (.bool false) ∧ w = w' := by
  rcases h with h | h
  · go_enter Tryz.func22, Tryz.ntmps22
    go_wp2
    all_goals (go_ret; exact ⟨ret_b (by simp <;> omega), rfl⟩)
  · go_enter Tryz.func22, Tryz.ntmps22
    go_wp2
    all_goals (go_ret; exact ⟨ret_b (by simp <;> omega), rfl⟩)
theorem rtick_t (n : Int) (w : World) (h1 : 0 ≤ n) (h2 : n ≤ 1099511627776) : Calls Tryz.prog 17 #[.int .i64 n] w fun e w' => e = .returned (.bool true) ∧ w = w' := by
  go_enter Tryz.func17, Tryz.ntmps17
  go_wp2
  all_goals (go_ret; exact ⟨ret_b (by simp <;> omega), rfl⟩)
theorem rtick_f (n : Int) (w : World) (h : n < 0 ∨ 1099511627776 < n) : Calls Tryz.prog 17 #[.int .i64 n] w fun e w' => e = .returned (.bool false) ∧ w = w' := by
  rcases h with h | h
  · go_enter Tryz.func17, Tryz.ntmps17
    go_wp2
    all_goals (go_ret; exact ⟨ret_b (by simp <;> omega), rfl⟩)
  · go_enter Tryz.func17, Tryz.ntmps17
    go_wp2
    all_goals (go_ret; exact ⟨ret_b (by simp <;> omega), rfl⟩)
attribute [local go_sem ↓] Keep.load_req Keep.load_cfg
theorem ret2 {a a' b b' : Int} (h : a = a') (h' : b = b') : Ending.returned (.tuple #[.int .i64 a, .int .i64 b]) = Ending.returned (.tuple #[.int .i64 a', .int .i64 b']) := by rw [h, h']
set_option maxHeartbeats 8000000 in
set_option maxRecDepth 100000 in
theorem w_e1 (c : Cfg) (now : Int) (x : Wai) (w : World) (s0 : 0 ≤ x.seats) (c0 : 0 ≤ x.classes) (hc : Hid (checkErr c (rq x) = 1))  :
    Calls Tryz.prog 23 #[c.val, .int .i64 now, x.val] w fun e w' => e = .returned (.tuple #[.int .i64 0, .int .i64 1]) ∧ Below w.heap.size w w' := by
  have l1 := lc c x w
  have l2 := lr c x w
  go_enter Tryz.func23, Tryz.ntmps23
  go_wp2_with (first | (go_at_call 111; (with_reducible refine (check_v c (rq x) _ s0 c0 _ hc).mono ?_); rintro e w' ⟨rfl, hb⟩; obtain ⟨q1, q2, q3, q4, q5⟩ := kept2 hb (start2 _ _ _ _ 0 _ rfl); clear hb) | (go_at_call 22; (first | with_reducible refine (tick_t _ _ (by omega) (by omega)).mono ?_ | with_reducible refine (tick_f _ _ (by omega)).mono ?_); rintro e w' ⟨rfl, rfl⟩))
  all_goals (go_ret2; exact ⟨ret2 (by omega) rfl, by repeat' (first | exact Below.refl _ _ | apply below_drewN | apply kba | exact q5)⟩)
set_option maxHeartbeats 8000000 in
set_option maxRecDepth 100000 in
theorem w_e160 (c : Cfg) (now : Int) (x : Wai) (w : World) (s0 : 0 ≤ x.seats) (c0 : 0 ≤ x.classes) (hc : Hid (checkErr c (rq x) = 160))  :
    Calls Tryz.prog 23 #[c.val, .int .i64 now, x.val] w fun e w' => e = .returned (.tuple #[.int .i64 0, .int .i64 160]) ∧ Below w.heap.size w w' := by
  have l1 := lc c x w
  have l2 := lr c x w
  go_enter Tryz.func23, Tryz.ntmps23
  go_wp2_with (first | (go_at_call 111; (with_reducible refine (check_v c (rq x) _ s0 c0 _ hc).mono ?_); rintro e w' ⟨rfl, hb⟩; obtain ⟨q1, q2, q3, q4, q5⟩ := kept2 hb (start2 _ _ _ _ 0 _ rfl); clear hb) | (go_at_call 22; (first | with_reducible refine (tick_t _ _ (by omega) (by omega)).mono ?_ | with_reducible refine (tick_f _ _ (by omega)).mono ?_); rintro e w' ⟨rfl, rfl⟩))
  all_goals (go_ret2; exact ⟨ret2 (by omega) rfl, by repeat' (first | exact Below.refl _ _ | apply below_drewN | apply kba | exact q5)⟩)
set_option maxHeartbeats 8000000 in
set_option maxRecDepth 100000 in
theorem w_a0 (c : Cfg) (now : Int) (x : Wai) (w : World) (s0 : 0 ≤ x.seats) (c0 : 0 ≤ x.classes) (hc : Hid (checkErr c (rq x) = 0)) (h : now < 0) :
    Calls Tryz.prog 23 #[c.val, .int .i64 now, x.val] w fun e w' => e = .returned (.tuple #[.int .i64 0, .int .i64 1]) ∧ Below w.heap.size w w' := by
  have l1 := lc c x w
  have l2 := lr c x w
  go_enter Tryz.func23, Tryz.ntmps23
  go_wp2_with (first | (go_at_call 111; (with_reducible refine (check_v c (rq x) _ s0 c0 _ hc).mono ?_); rintro e w' ⟨rfl, hb⟩; obtain ⟨q1, q2, q3, q4, q5⟩ := kept2 hb (start2 _ _ _ _ 0 _ rfl); clear hb) | (go_at_call 22; (first | with_reducible refine (tick_t _ _ (by omega) (by omega)).mono ?_ | with_reducible refine (tick_f _ _ (by omega)).mono ?_); rintro e w' ⟨rfl, rfl⟩))
  all_goals (go_ret2; exact ⟨ret2 (by omega) rfl, by repeat' (first | exact Below.refl _ _ | apply below_drewN | apply kba | exact q5)⟩)
set_option maxHeartbeats 8000000 in
set_option maxRecDepth 100000 in
theorem w_a1 (c : Cfg) (now : Int) (x : Wai) (w : World) (s0 : 0 ≤ x.seats) (c0 : 0 ≤ x.classes) (hc : Hid (checkErr c (rq x) = 0)) (h0 : 0 ≤ now) (h : 1099511627776 < now) :
    Calls Tryz.prog 23 #[c.val, .int .i64 now, x.val] w fun e w' => e = .returned (.tuple #[.int .i64 0, .int .i64 1]) ∧ Below w.heap.size w w' := by
  have l1 := lc c x w
  have l2 := lr c x w
  go_enter Tryz.func23, Tryz.ntmps23
  go_wp2_with (first | (go_at_call 111; (with_reducible refine (check_v c (rq x) _ s0 c0 _ hc).mono ?_); rintro e w' ⟨rfl, hb⟩; obtain ⟨q1, q2, q3, q4, q5⟩ := kept2 hb (start2 _ _ _ _ 0 _ rfl); clear hb) | (go_at_call 22; (first | with_reducible refine (tick_t _ _ (by omega) (by omega)).mono ?_ | with_reducible refine (tick_f _ _ (by omega)).mono ?_); rintro e w' ⟨rfl, rfl⟩))
  all_goals (go_ret2; exact ⟨ret2 (by omega) rfl, by repeat' (first | exact Below.refl _ _ | apply below_drewN | apply kba | exact q5)⟩)
set_option maxHeartbeats 8000000 in
set_option maxRecDepth 100000 in
theorem w_a2 (c : Cfg) (now : Int) (x : Wai) (w : World) (s0 : 0 ≤ x.seats) (c0 : 0 ≤ x.classes) (hc : Hid (checkErr c (rq x) = 0)) (h0 : 0 ≤ now) (h1 : now ≤ 1099511627776) (h : x.since < 0) :
    Calls Tryz.prog 23 #[c.val, .int .i64 now, x.val] w fun e w' => e = .returned (.tuple #[.int .i64 0, .int .i64 1]) ∧ Below w.heap.size w w' := by
  have l1 := lc c x w
  have l2 := lr c x w
  go_enter Tryz.func23, Tryz.ntmps23
  go_wp2_with (first | (go_at_call 111; (with_reducible refine (check_v c (rq x) _ s0 c0 _ hc).mono ?_); rintro e w' ⟨rfl, hb⟩; obtain ⟨q1, q2, q3, q4, q5⟩ := kept2 hb (start2 _ _ _ _ 0 _ rfl); clear hb) | (go_at_call 22; (first | with_reducible refine (tick_t _ _ (by omega) (by omega)).mono ?_ | with_reducible refine (tick_f _ _ (by omega)).mono ?_); rintro e w' ⟨rfl, rfl⟩))
  all_goals (go_ret2; exact ⟨ret2 (by omega) rfl, by repeat' (first | exact Below.refl _ _ | apply below_drewN | apply kba | exact q5)⟩)
set_option maxHeartbeats 8000000 in
set_option maxRecDepth 100000 in
theorem w_a3 (c : Cfg) (now : Int) (x : Wai) (w : World) (s0 : 0 ≤ x.seats) (c0 : 0 ≤ x.classes) (hc : Hid (checkErr c (rq x) = 0)) (h0 : 0 ≤ now) (h1 : now ≤ 1099511627776) (h2 : 0 ≤ x.since) (h : 1099511627776 < x.since) :
    Calls Tryz.prog 23 #[c.val, .int .i64 now, x.val] w fun e w' => e = .returned (.tuple #[.int .i64 0, .int .i64 1]) ∧ Below w.heap.size w w' := by
  have l1 := lc c x w
  have l2 := lr c x w
  go_enter Tryz.func23, Tryz.ntmps23
  go_wp2_with (first | (go_at_call 111; (with_reducible refine (check_v c (rq x) _ s0 c0 _ hc).mono ?_); rintro e w' ⟨rfl, hb⟩; obtain ⟨q1, q2, q3, q4, q5⟩ := kept2 hb (start2 _ _ _ _ 0 _ rfl); clear hb) | (go_at_call 22; (first | with_reducible refine (tick_t _ _ (by omega) (by omega)).mono ?_ | with_reducible refine (tick_f _ _ (by omega)).mono ?_); rintro e w' ⟨rfl, rfl⟩))
  all_goals (go_ret2; exact ⟨ret2 (by omega) rfl, by repeat' (first | exact Below.refl _ _ | apply below_drewN | apply kba | exact q5)⟩)
set_option maxHeartbeats 8000000 in
set_option maxRecDepth 100000 in
theorem w_a4 (c : Cfg) (now : Int) (x : Wai) (w : World) (s0 : 0 ≤ x.seats) (c0 : 0 ≤ x.classes) (hc : Hid (checkErr c (rq x) = 0)) (h0 : 0 ≤ now) (h1 : now ≤ 1099511627776) (h2 : 0 ≤ x.since) (h3 : x.since ≤ 1099511627776) (h : now < x.since) :
    Calls Tryz.prog 23 #[c.val, .int .i64 now, x.val] w fun e w' => e = .returned (.tuple #[.int .i64 0, .int .i64 1]) ∧ Below w.heap.size w w' := by
  have l1 := lc c x w
  have l2 := lr c x w
  go_enter Tryz.func23, Tryz.ntmps23
  go_wp2_with (first | (go_at_call 111; (with_reducible refine (check_v c (rq x) _ s0 c0 _ hc).mono ?_); rintro e w' ⟨rfl, hb⟩; obtain ⟨q1, q2, q3, q4, q5⟩ := kept2 hb (start2 _ _ _ _ 0 _ rfl); clear hb) | (go_at_call 22; (first | with_reducible refine (tick_t _ _ (by omega) (by omega)).mono ?_ | with_reducible refine (tick_f _ _ (by omega)).mono ?_); rintro e w' ⟨rfl, rfl⟩))
  all_goals (go_ret2; exact ⟨ret2 (by omega) rfl, by repeat' (first | exact Below.refl _ _ | apply below_drewN | apply kba | exact q5)⟩)
set_option maxHeartbeats 8000000 in
set_option maxRecDepth 100000 in
theorem w_gone (c : Cfg) (now : Int) (x : Wai) (w : World) (s0 : 0 ≤ x.seats) (c0 : 0 ≤ x.classes) (hc : Hid (checkErr c (rq x) = 0)) (h0 : 0 ≤ now) (h1 : now ≤ 1099511627776) (h2 : 0 ≤ x.since) (h4 : x.since ≤ now) (h : x.ttl < now - x.since) :
    Calls Tryz.prog 23 #[c.val, .int .i64 now, x.val] w fun e w' => e = .returned (.tuple #[.int .i64 0, .int .i64 131]) ∧ Below w.heap.size w w' := by
  have l1 := lc c x w
  have l2 := lr c x w
  go_enter Tryz.func23, Tryz.ntmps23
  go_wp2_with (first | (go_at_call 111; (with_reducible refine (check_v c (rq x) _ s0 c0 _ hc).mono ?_); rintro e w' ⟨rfl, hb⟩; obtain ⟨q1, q2, q3, q4, q5⟩ := kept2 hb (start2 _ _ _ _ 0 _ rfl); clear hb) | (go_at_call 22; (first | with_reducible refine (tick_t _ _ (by omega) (by omega)).mono ?_ | with_reducible refine (tick_f _ _ (by omega)).mono ?_); rintro e w' ⟨rfl, rfl⟩))
  all_goals (go_ret2; exact ⟨ret2 (by omega) rfl, by repeat' (first | exact Below.refl _ _ | apply below_drewN | apply kba | exact q5)⟩)
set_option maxHeartbeats 8000000 in
set_option maxRecDepth 100000 in
theorem w_ok (c : Cfg) (now : Int) (x : Wai) (w : World) (s0 : 0 ≤ x.seats) (c0 : 0 ≤ x.classes) (hc : Hid (checkErr c (rq x) = 0)) (h0 : 0 ≤ now) (h1 : now ≤ 1099511627776) (h2 : 0 ≤ x.since) (h4 : x.since ≤ now) (h : now - x.since ≤ x.ttl) (b0 : 0 ≤ c.b) (b1 : c.b ≤ 1048576) (k0 : 0 ≤ x.base) (k1 : x.base ≤ 1048576) (p0 : 0 ≤ (now - x.since) * (c.b + 1)) (p1 : (now - x.since) * (c.b + 1) ≤ 1099512676352) (hm : Hid (mulB (now - x.since) (c.b + 1) = true ∧ mulV (now - x.since) (c.b + 1) = (now - x.since) * (c.b + 1))) (hs : Hid (sumB [(now - x.since) * (c.b + 1), x.base, 1] = true ∧ sumV [(now - x.since) * (c.b + 1), x.base, 1] = (now - x.since) * (c.b + 1) + x.base + 1)) :
    Calls Tryz.prog 23 #[c.val, .int .i64 now, x.val] w fun e w' => e = .returned (.tuple #[.int .i64 ((now - x.since) * (c.b + 1) + x.base + 1), .int .i64 0]) ∧ Below w.heap.size w w' := by
  have l1 := lc c x w
  have l2 := lr c x w
  go_enter Tryz.func23, Tryz.ntmps23
  go_wp2_with (first | (go_at_call 111; (with_reducible refine (check_v c (rq x) _ s0 c0 _ hc).mono ?_); rintro e w' ⟨rfl, hb⟩; obtain ⟨q1, q2, q3, q4, q5⟩ := kept2 hb (start2 _ _ _ _ 0 _ rfl); clear hb) | (go_at_call 22; (first | with_reducible refine (tick_t _ _ (by omega) (by omega)).mono ?_ | with_reducible refine (tick_f _ _ (by omega)).mono ?_); rintro e w' ⟨rfl, rfl⟩) | (go_at_call 112; (with_reducible refine (mul_v _ _ _ _ hm).mono ?_); rintro e w' ⟨rfl, rfl⟩) | (go_at_call 113; (with_reducible refine (sum_v _ _ _ _ _ _ _ (ints3 _ _ _ _) hs).mono ?_); rintro e w' ⟨rfl, rfl⟩))
  all_goals (go_ret2; exact ⟨ret2 (by omega) rfl, by repeat' (first | exact Below.refl _ _ | apply below_drewN | apply kba | exact q5)⟩)
set_option maxHeartbeats 8000000 in
set_option maxRecDepth 100000 in
theorem r_e1 (c : Cfg) (now : Int) (x : Wai) (w : World) (s0 : 0 ≤ x.seats) (c0 : 0 ≤ x.classes) (hc : Hid (checkErr c (rq x) = 1))  :
    Calls Tryz.prog 18 #[c.val, .int .i64 now, x.val] w fun e w' => e = .returned (.tuple #[.int .i64 0, .int .i64 1]) ∧ Below w.heap.size w w' := by
  have l1 := lc c x w
  have l2 := lr c x w
  go_enter Tryz.func18, Tryz.ntmps18
  go_wp2_with (first | (go_at_call 108; (with_reducible refine (refCheck_v c (rq x) _ s0 c0 _ hc).mono ?_); rintro e w' ⟨rfl, hb⟩; obtain ⟨q1, q2, q3, q4, q5⟩ := kept2 hb (start2 _ _ _ _ 0 _ rfl); clear hb) | (go_at_call 17; (first | with_reducible refine (rtick_t _ _ (by omega) (by omega)).mono ?_ | with_reducible refine (rtick_f _ _ (by omega)).mono ?_); rintro e w' ⟨rfl, rfl⟩))
  all_goals (go_ret2; exact ⟨ret2 (by omega) rfl, by repeat' (first | exact Below.refl _ _ | apply below_drewN | apply kba | exact q5)⟩)
set_option maxHeartbeats 8000000 in
set_option maxRecDepth 100000 in
theorem r_e160 (c : Cfg) (now : Int) (x : Wai) (w : World) (s0 : 0 ≤ x.seats) (c0 : 0 ≤ x.classes) (hc : Hid (checkErr c (rq x) = 160))  :
    Calls Tryz.prog 18 #[c.val, .int .i64 now, x.val] w fun e w' => e = .returned (.tuple #[.int .i64 0, .int .i64 160]) ∧ Below w.heap.size w w' := by
  have l1 := lc c x w
  have l2 := lr c x w
  go_enter Tryz.func18, Tryz.ntmps18
  go_wp2_with (first | (go_at_call 108; (with_reducible refine (refCheck_v c (rq x) _ s0 c0 _ hc).mono ?_); rintro e w' ⟨rfl, hb⟩; obtain ⟨q1, q2, q3, q4, q5⟩ := kept2 hb (start2 _ _ _ _ 0 _ rfl); clear hb) | (go_at_call 17; (first | with_reducible refine (rtick_t _ _ (by omega) (by omega)).mono ?_ | with_reducible refine (rtick_f _ _ (by omega)).mono ?_); rintro e w' ⟨rfl, rfl⟩))
  all_goals (go_ret2; exact ⟨ret2 (by omega) rfl, by repeat' (first | exact Below.refl _ _ | apply below_drewN | apply kba | exact q5)⟩)
set_option maxHeartbeats 8000000 in
set_option maxRecDepth 100000 in
theorem r_a0 (c : Cfg) (now : Int) (x : Wai) (w : World) (s0 : 0 ≤ x.seats) (c0 : 0 ≤ x.classes) (hc : Hid (checkErr c (rq x) = 0)) (h : now < 0) :
    Calls Tryz.prog 18 #[c.val, .int .i64 now, x.val] w fun e w' => e = .returned (.tuple #[.int .i64 0, .int .i64 1]) ∧ Below w.heap.size w w' := by
  have l1 := lc c x w
  have l2 := lr c x w
  go_enter Tryz.func18, Tryz.ntmps18
  go_wp2_with (first | (go_at_call 108; (with_reducible refine (refCheck_v c (rq x) _ s0 c0 _ hc).mono ?_); rintro e w' ⟨rfl, hb⟩; obtain ⟨q1, q2, q3, q4, q5⟩ := kept2 hb (start2 _ _ _ _ 0 _ rfl); clear hb) | (go_at_call 17; (first | with_reducible refine (rtick_t _ _ (by omega) (by omega)).mono ?_ | with_reducible refine (rtick_f _ _ (by omega)).mono ?_); rintro e w' ⟨rfl, rfl⟩))
  all_goals (go_ret2; exact ⟨ret2 (by omega) rfl, by repeat' (first | exact Below.refl _ _ | apply below_drewN | apply kba | exact q5)⟩)
set_option maxHeartbeats 8000000 in
set_option maxRecDepth 100000 in
theorem r_a1 (c : Cfg) (now : Int) (x : Wai) (w : World) (s0 : 0 ≤ x.seats) (c0 : 0 ≤ x.classes) (hc : Hid (checkErr c (rq x) = 0)) (h0 : 0 ≤ now) (h : 1099511627776 < now) :
    Calls Tryz.prog 18 #[c.val, .int .i64 now, x.val] w fun e w' => e = .returned (.tuple #[.int .i64 0, .int .i64 1]) ∧ Below w.heap.size w w' := by
  have l1 := lc c x w
  have l2 := lr c x w
  go_enter Tryz.func18, Tryz.ntmps18
  go_wp2_with (first | (go_at_call 108; (with_reducible refine (refCheck_v c (rq x) _ s0 c0 _ hc).mono ?_); rintro e w' ⟨rfl, hb⟩; obtain ⟨q1, q2, q3, q4, q5⟩ := kept2 hb (start2 _ _ _ _ 0 _ rfl); clear hb) | (go_at_call 17; (first | with_reducible refine (rtick_t _ _ (by omega) (by omega)).mono ?_ | with_reducible refine (rtick_f _ _ (by omega)).mono ?_); rintro e w' ⟨rfl, rfl⟩))
  all_goals (go_ret2; exact ⟨ret2 (by omega) rfl, by repeat' (first | exact Below.refl _ _ | apply below_drewN | apply kba | exact q5)⟩)
set_option maxHeartbeats 8000000 in
set_option maxRecDepth 100000 in
theorem r_a2 (c : Cfg) (now : Int) (x : Wai) (w : World) (s0 : 0 ≤ x.seats) (c0 : 0 ≤ x.classes) (hc : Hid (checkErr c (rq x) = 0)) (h0 : 0 ≤ now) (h1 : now ≤ 1099511627776) (h : x.since < 0) :
    Calls Tryz.prog 18 #[c.val, .int .i64 now, x.val] w fun e w' => e = .returned (.tuple #[.int .i64 0, .int .i64 1]) ∧ Below w.heap.size w w' := by
  have l1 := lc c x w
  have l2 := lr c x w
  go_enter Tryz.func18, Tryz.ntmps18
  go_wp2_with (first | (go_at_call 108; (with_reducible refine (refCheck_v c (rq x) _ s0 c0 _ hc).mono ?_); rintro e w' ⟨rfl, hb⟩; obtain ⟨q1, q2, q3, q4, q5⟩ := kept2 hb (start2 _ _ _ _ 0 _ rfl); clear hb) | (go_at_call 17; (first | with_reducible refine (rtick_t _ _ (by omega) (by omega)).mono ?_ | with_reducible refine (rtick_f _ _ (by omega)).mono ?_); rintro e w' ⟨rfl, rfl⟩))
  all_goals (go_ret2; exact ⟨ret2 (by omega) rfl, by repeat' (first | exact Below.refl _ _ | apply below_drewN | apply kba | exact q5)⟩)
set_option maxHeartbeats 8000000 in
set_option maxRecDepth 100000 in
theorem r_a3 (c : Cfg) (now : Int) (x : Wai) (w : World) (s0 : 0 ≤ x.seats) (c0 : 0 ≤ x.classes) (hc : Hid (checkErr c (rq x) = 0)) (h0 : 0 ≤ now) (h1 : now ≤ 1099511627776) (h2 : 0 ≤ x.since) (h : 1099511627776 < x.since) :
    Calls Tryz.prog 18 #[c.val, .int .i64 now, x.val] w fun e w' => e = .returned (.tuple #[.int .i64 0, .int .i64 1]) ∧ Below w.heap.size w w' := by
  have l1 := lc c x w
  have l2 := lr c x w
  go_enter Tryz.func18, Tryz.ntmps18
  go_wp2_with (first | (go_at_call 108; (with_reducible refine (refCheck_v c (rq x) _ s0 c0 _ hc).mono ?_); rintro e w' ⟨rfl, hb⟩; obtain ⟨q1, q2, q3, q4, q5⟩ := kept2 hb (start2 _ _ _ _ 0 _ rfl); clear hb) | (go_at_call 17; (first | with_reducible refine (rtick_t _ _ (by omega) (by omega)).mono ?_ | with_reducible refine (rtick_f _ _ (by omega)).mono ?_); rintro e w' ⟨rfl, rfl⟩))
  all_goals (go_ret2; exact ⟨ret2 (by omega) rfl, by repeat' (first | exact Below.refl _ _ | apply below_drewN | apply kba | exact q5)⟩)
set_option maxHeartbeats 8000000 in
set_option maxRecDepth 100000 in
theorem r_a4 (c : Cfg) (now : Int) (x : Wai) (w : World) (s0 : 0 ≤ x.seats) (c0 : 0 ≤ x.classes) (hc : Hid (checkErr c (rq x) = 0)) (h0 : 0 ≤ now) (h1 : now ≤ 1099511627776) (h2 : 0 ≤ x.since) (h3 : x.since ≤ 1099511627776) (h : now < x.since) :
    Calls Tryz.prog 18 #[c.val, .int .i64 now, x.val] w fun e w' => e = .returned (.tuple #[.int .i64 0, .int .i64 1]) ∧ Below w.heap.size w w' := by
  have l1 := lc c x w
  have l2 := lr c x w
  go_enter Tryz.func18, Tryz.ntmps18
  go_wp2_with (first | (go_at_call 108; (with_reducible refine (refCheck_v c (rq x) _ s0 c0 _ hc).mono ?_); rintro e w' ⟨rfl, hb⟩; obtain ⟨q1, q2, q3, q4, q5⟩ := kept2 hb (start2 _ _ _ _ 0 _ rfl); clear hb) | (go_at_call 17; (first | with_reducible refine (rtick_t _ _ (by omega) (by omega)).mono ?_ | with_reducible refine (rtick_f _ _ (by omega)).mono ?_); rintro e w' ⟨rfl, rfl⟩))
  all_goals (go_ret2; exact ⟨ret2 (by omega) rfl, by repeat' (first | exact Below.refl _ _ | apply below_drewN | apply kba | exact q5)⟩)
set_option maxHeartbeats 8000000 in
set_option maxRecDepth 100000 in
theorem r_gone (c : Cfg) (now : Int) (x : Wai) (w : World) (s0 : 0 ≤ x.seats) (c0 : 0 ≤ x.classes) (hc : Hid (checkErr c (rq x) = 0)) (h0 : 0 ≤ now) (h1 : now ≤ 1099511627776) (h2 : 0 ≤ x.since) (h4 : x.since ≤ now) (h : x.ttl < now - x.since) :
    Calls Tryz.prog 18 #[c.val, .int .i64 now, x.val] w fun e w' => e = .returned (.tuple #[.int .i64 0, .int .i64 131]) ∧ Below w.heap.size w w' := by
  have l1 := lc c x w
  have l2 := lr c x w
  go_enter Tryz.func18, Tryz.ntmps18
  go_wp2_with (first | (go_at_call 108; (with_reducible refine (refCheck_v c (rq x) _ s0 c0 _ hc).mono ?_); rintro e w' ⟨rfl, hb⟩; obtain ⟨q1, q2, q3, q4, q5⟩ := kept2 hb (start2 _ _ _ _ 0 _ rfl); clear hb) | (go_at_call 17; (first | with_reducible refine (rtick_t _ _ (by omega) (by omega)).mono ?_ | with_reducible refine (rtick_f _ _ (by omega)).mono ?_); rintro e w' ⟨rfl, rfl⟩))
  all_goals (go_ret2; exact ⟨ret2 (by omega) rfl, by repeat' (first | exact Below.refl _ _ | apply below_drewN | apply kba | exact q5)⟩)
set_option maxHeartbeats 8000000 in
set_option maxRecDepth 100000 in
theorem r_ok (c : Cfg) (now : Int) (x : Wai) (w : World) (s0 : 0 ≤ x.seats) (c0 : 0 ≤ x.classes) (hc : Hid (checkErr c (rq x) = 0)) (h0 : 0 ≤ now) (h1 : now ≤ 1099511627776) (h2 : 0 ≤ x.since) (h4 : x.since ≤ now) (h : now - x.since ≤ x.ttl) (b0 : 0 ≤ c.b) (b1 : c.b ≤ 1048576) (k0 : 0 ≤ x.base) (k1 : x.base ≤ 1048576) (p0 : 0 ≤ (now - x.since) * (c.b + 1)) (p1 : (now - x.since) * (c.b + 1) ≤ 1099512676352) :
    Calls Tryz.prog 18 #[c.val, .int .i64 now, x.val] w fun e w' => e = .returned (.tuple #[.int .i64 ((now - x.since) * (c.b + 1) + x.base + 1), .int .i64 0]) ∧ Below w.heap.size w w' := by
  have l1 := lc c x w
  have l2 := lr c x w
  go_enter Tryz.func18, Tryz.ntmps18
  go_wp2_with (first | (go_at_call 108; (with_reducible refine (refCheck_v c (rq x) _ s0 c0 _ hc).mono ?_); rintro e w' ⟨rfl, hb⟩; obtain ⟨q1, q2, q3, q4, q5⟩ := kept2 hb (start2 _ _ _ _ 0 _ rfl); clear hb) | (go_at_call 17; (first | with_reducible refine (rtick_t _ _ (by omega) (by omega)).mono ?_ | with_reducible refine (rtick_f _ _ (by omega)).mono ?_); rintro e w' ⟨rfl, rfl⟩))
  all_goals (go_ret2; exact ⟨ret2 (by omega) rfl, by repeat' (first | exact Below.refl _ _ | apply below_drewN | apply kba | exact q5)⟩)
end Go.Proofs.YtkpdomnmlinomabGreat.Weight
