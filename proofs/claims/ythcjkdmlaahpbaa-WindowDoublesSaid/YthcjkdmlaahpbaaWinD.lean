/- Contracts of the window's Add and Sum. -/
import Derived.Test.YthcjkdmlaahpbaaWinC
namespace Go.Proofs.Ythcjkdmlaahpbaa.Win
open Go.RowKit Go.Proofs.Ythcjkdmlaahpbaa.Aid Go.Proofs.Ythcjkdmlaahpbaa.Mem Go.Proofs.Ythcjkdmlaahpbaa.Keep Go.Proofs.Ythcjkdmlaahpbaa.Nums
set_option linter.unusedSimpArgs false
set_option linter.unusedVariables false
set_option maxRecDepth 100000
theorem Win.mono {W : World} {g B B' : Nat} {wd ck sm : Int} {l : List (Int × Int)} (h : Win W g B wd ck sm l) (hb : B' ≤ B) : Win W g B' wd ck sm l := by
  obtain ⟨v, h1, h2⟩ := h
  exact ⟨v, h1, own_mono h2 hb⟩
theorem Win.drewN {W : World} {g B : Nat} {wd ck sm : Int} {l : List (Int × Int)} (h : Win W g B wd ck sm l) (n : Nat) : Win (W.drewN n) g B wd ck sm l := by
  obtain ⟨v, h1, h2⟩ := h
  exact ⟨v, h1.drewN n, h2.drewN n⟩
theorem Chg.drewN {g : Nat} {W W' : World} (h : Chg g W W') (n : Nat) : Chg g W (W'.drewN n) := ⟨h.size, h.keep, h.os, h.tape, h.output⟩
theorem size_set (W : World) (p : Addr) (u : Value) : (W.setCell p u).heap.size = W.heap.size := by simp [World.setCell]
theorem Chg.set {g : Nat} {W W' : World} (h : Chg g W W') (p : Addr) (u : Value) (hp : p.block = g ∨ W.heap.size ≤ p.block) : Chg g W (W'.setCell p u) :=
  ⟨by rw [size_set]; exact h.size, fun b hb hne => (Below.heap_setCell W' p u b (by rcases hp with e | e <;> omega)).trans (h.keep b hb hne), h.os, h.tape, h.output⟩
theorem Chg.alloc {g : Nat} {W W' : World} (h : Chg g W W') (o : Obj) : Chg g W (W'.alloc o) :=
  ⟨by rw [size_alloc]; have := h.size; omega, fun b hb hne => (Below.heap_alloc W' o b (by have := h.size; omega)).trans (h.keep b hb hne), h.os, h.tape, h.output⟩
theorem Chg.grown {g : Nat} {W W' W'' : World} {row : Option Nat} (h : Chg g W W') (k : W'.grownBy W'' row) (hr : ∀ b, row = some b → W.heap.size ≤ b) : Chg g W W'' :=
  ⟨Nat.le_trans h.size k.size, fun b hb hne => (k.block b (by have := h.size; omega) (fun e => by have := hr b e.symm; omega)).trans (h.keep b hb hne), k.os.trans h.os, k.tape.trans h.tape, k.output.trans h.output⟩
/-- append(list, added{tick, n}), run. -/
theorem app_one {W : World} {B G : Nat} {v : Value} {l : List (Int × Int)} {n2 : Nat} (hG : W.heap.size = G) (hO : Own W B 83 2 v n2 (cellsA l)) (hB : B ≤ W.heap.size) (hn : n2 ≤ 4294967296) (t n : Int) :
    ∃ A7 c7 w7, (AP #[69, 69] 69 #[v, .slice (some ⟨G, 0, none⟩) 1 1]).run Try.prog (W.alloc (.cells #[.int .i64 t, .int .i64 n] 83)) = .ok (.slice A7 (n2 + 1) c7) w7 ∧
      Own w7 B 83 2 (.slice A7 (n2 + 1) c7) (n2 + 1) (cellsA (l ++ [(t, n)])) ∧ (W.alloc (.cells #[.int .i64 t, .int .i64 n] 83)).grownBy w7 v.ownBlock := by
  subst hG
  obtain ⟨i0, hi, hzz⟩ := Option.map_eq_some_iff.1 infoA
  simp only [Prod.mk.injEq] at hzz
  obtain ⟨hz0, hz1, hz2⟩ := hzz
  have hnew := Blk.new W 83 [.int .i64 t, .int .i64 n]
  obtain ⟨v', w', hr, h2, h3, _, _⟩ := run_append_own_at (P := Try.prog) (W.alloc (.cells #[.int .i64 t, .int .i64 n] 83)) B 69 69 83 i0 _ 2 16 Try.underlying69 hi hz0 hz1 hz2 rfl (by decide) v n2 (cellsA l) (World.ownsRow.alloc hO _) ⟨W.heap.size, 0, none⟩ 1 1 [.int .i64 t, .int .i64 n] rfl (fun j u hu => by rw [add_at]; exact hnew.cellv hu) (by intro u hu; simp only [List.mem_cons, List.not_mem_nil, or_false] at hu; rcases hu with rfl | rfl <;> rfl) (by unfold maxLen; omega) (by omega) (by rw [size_alloc]; omega)
  have h2' : Own w' B 83 2 v' (n2 + 1) (cellsA (l ++ [(t, n)])) := by
    rw [show cellsA (l ++ [(t, n)]) = cellsA l ++ [.int .i64 t, .int .i64 n] by unfold cellsA; rw [List.flatMap_append]; rfl]
    exact h2
  obtain ⟨A7, c7, rfl, _, _⟩ := h2'.form
  exact ⟨A7, c7, w', hr, h2', h3⟩
/-- A cell of a row of one's own is written. -/
theorem own_put {W : World} {B k n c : Nat} {e : TypeId} {s : Nat} {L : List Value} (h : Own W B e s (.slice (some ⟨k, 0, none⟩) n c) n L) (i : Nat) (hi : i < L.length) (u : Value) : Own (W.setCell ⟨k, i, none⟩ u) B e s (.slice (some ⟨k, 0, none⟩) n c) n (L.set i u) ∧ W.frozen? ⟨k, i, none⟩ = false := by
  rcases h.2 with ⟨h0, _⟩ | ⟨b, cap, cur, h0, hb, hh, h1, h2, h3, h4⟩
  · cases h0
  · injection h0 with e1 e2 e3
    injection e1 with e1
    injection e1 with e1
    subst e1 e3
    refine ⟨⟨by rw [List.length_set]; exact h.1, .inr ⟨k, c, cur.setIfInBounds i u, rfl, hb, ?_, h1, h2, by simpa using h3, ?_⟩⟩, ?_⟩
    · simp [World.setCell, Array.getElem?_modify, hh]
    · rw [Array.toList_setIfInBounds, ← h4, List.take_set]
    · simp [World.frozen?, hh]
theorem cells_put (l0 : List (Int × Int)) (t m n : Int) : (cellsA (l0 ++ [(t, m)])).set (l0.length * 2 + 1) (.int .i64 n) = cellsA (l0 ++ [(t, n)]) := by
  have e : ∀ x : Int, cellsA (l0 ++ [(t, x)]) = cellsA l0 ++ [.int .i64 t, .int .i64 x] := fun x => by unfold cellsA; rw [List.flatMap_append]; rfl
  rw [e, e, List.set_append_right _ _ (by rw [cells_len]; omega), cells_len, Nat.add_sub_cancel_left]
  rfl
theorem sum_app (l0 : List (Int × Int)) (t m : Int) : sumA (l0 ++ [(t, m)]) = sumA l0 + m := by unfold sumA; rw [List.map_append, tot_append]; simp [tot]
theorem far_cell {w1 : World} {p q : Addr} {u : Value} (h : q.block ≠ p.block) : (w1.setCell p u).cell? q = w1.cell? q := by
  have h1 := Below.heap_setCell w1 p u q.block h
  simp [World.cell?, h1]
/-- A tick's amount more. -/
def push (l : List (Int × Int)) (t n : Int) : List (Int × Int) := match l.getLast? with
  | some (t', m) => if t' = t then l.dropLast ++ [(t, m + n)] else l ++ [(t, n)]
  | none => l ++ [(t, n)]
theorem push_nil (t n : Int) : push [] t n = [(t, n)] := rfl
theorem push_same (l0 : List (Int × Int)) (t m n : Int) : push (l0 ++ [(t, m)]) t n = l0 ++ [(t, m + n)] := by
  unfold push
  rw [List.getLast?_concat]
  dsimp only
  rw [if_pos rfl, List.dropLast_concat]
theorem push_other (l0 : List (Int × Int)) (t' t m n : Int) (h : t' ≠ t) : push (l0 ++ [(t', m)]) t n = l0 ++ [(t', m)] ++ [(t, n)] := by
  unfold push
  rw [List.getLast?_concat]
  dsimp only
  rw [if_neg h]
theorem push_sum (l : List (Int × Int)) (t n : Int) : sumA (push l t n) = sumA l + n := by
  rcases List.eq_nil_or_concat l with rfl | ⟨l0, ⟨t', m⟩, rfl⟩
  · simp [push, sumA, tot]
  · rw [List.concat_eq_append]
    by_cases h : t' = t
    · subst h; rw [push_same, sum_app, sum_app]; omega
    · rw [push_other l0 t' t m n h, sum_app]
theorem out_v (W : World) (g B : Nat) (wd ck sm : Int) (l : List (Int × Int)) (tick : Int) (K : Nat) (S : Int) (hw : Win W g B wd ck sm l)
    (hl : Lok l) (hn : l.length ≤ 1099511627776) (t0 : 0 ≤ tick) (t1 : tick ≤ 1099511627776) (w0 : 0 ≤ wd) (w1 : wd ≤ 1048576) (hK : Hid (lead (tick - wd) l = K)) (hS : Hid (sumA (l.take K) = S)) :
    Calls Try.prog 32 #[.pointer (some ⟨g, 0, none⟩), .int .i64 tick] W fun e w' => e = .returned (.tuple #[.int .i64 (K : Nat), .int .i64 S]) ∧ Dr W w' := by
  obtain ⟨v, hB, hO⟩ := hw
  have h := out_c W g B wd ck sm v l tick hB hO hl hn t0 t1 w0 w1
  rw [hK.out, hS.out] at h
  exact h
theorem turn_v (W : World) (g B : Nat) (wd ck sm : Int) (l : List (Int × Int)) (tick : Int) (l2 : List (Int × Int)) (s2 : Int) (hw : Win W g B wd ck sm l) (hgB : g < B) (hBW : B ≤ W.heap.size)
    (hl : Lok l) (hn : l.length ≤ 4294967296) (hs : sm = sumA l) (t0 : 0 ≤ tick) (t1 : tick ≤ 1099511627776) (w0 : 0 ≤ wd) (w1 : wd ≤ 1048576) (h2 : Hid (l.drop (lead (tick - wd) l) = l2)) (hs2 : Hid (sumA l2 = s2)) :
    Calls Try.prog 34 #[.pointer (some ⟨g, 0, none⟩), .int .i64 tick] W fun e w' => e = .returned (.tuple #[]) ∧ Win w' g W.heap.size wd tick s2 l2 ∧ Chg g W w' := by
  have h := turn_c W g B wd ck sm l tick hw hgB hBW hl hn hs t0 t1 w0 w1
  rw [h2.out, hs2.out] at h
  exact h
theorem Win.c0 {W : World} {g B : Nat} {wd ck sm : Int} {l : List (Int × Int)} (h : Win W g B wd ck sm l) : W.cell? ⟨g, 0, none⟩ = some (.int .i64 wd) := by obtain ⟨v, h1, _⟩ := h; exact h1.cellv rfl
theorem Win.c1 {W : World} {g B : Nat} {wd ck sm : Int} {l : List (Int × Int)} (h : Win W g B wd ck sm l) : W.cell? ⟨g, 1, none⟩ = some (.int .i64 ck) := by obtain ⟨v, h1, _⟩ := h; exact h1.cellv rfl
theorem Win.c2 {W : World} {g B : Nat} {wd ck sm : Int} {l : List (Int × Int)} (h : Win W g B wd ck sm l) : W.cell? ⟨g, 2, none⟩ = some (.int .i64 sm) := by obtain ⟨v, h1, _⟩ := h; exact h1.cellv rfl
theorem at_w (W : World) (g B : Nat) (wd ck sm : Int) (l : List (Int × Int)) (tick e : Int) (hw : Win W g B wd ck sm l) (he : Hid (atE wd ck tick = e)) :
    Calls Try.prog 31 #[.pointer (some ⟨g, 0, none⟩), .int .i64 tick] W fun x w' => x = .returned (.int .i64 e) ∧ W = w' := by
  obtain ⟨v, hB, hO⟩ := hw
  exact at_v W g wd ck sm v tick e hB he
theorem add_nil (tick n : Int) (W : World) : Calls Try.prog 12 #[.pointer none, .int .i64 tick, .int .i64 n] W fun e w' => e = .returned (.int .i64 2) ∧ W = w' := by
  go_enter Try.func12, Try.ntmps12
  go_wp2_with (first | (go_at_call 31; (with_reducible refine (at_nil tick _).mono ?_); rintro e w' ⟨rfl, rfl⟩))
  go_ret
  exact ⟨rfl, rfl⟩
theorem add_bad (W : World) (g B : Nat) (wd ck sm : Int) (l : List (Int × Int)) (tick n : Int) (hw : Win W g B wd ck sm l) (w0 : 0 < wd) (hn : n < 0 ∨ 4611686018427387903 < n) :
    Calls Try.prog 12 #[.pointer (some ⟨g, 0, none⟩), .int .i64 tick, .int .i64 n] W fun e w' => e = .returned (.int .i64 1) ∧ W = w' := by
  have c0 := hw.c0
  rcases hn with hn | hn
  · go_enter Try.func12, Try.ntmps12
    go_wp2
    go_ret
    exact ⟨rfl, rfl⟩
  · have hn' : ¬ n < 0 := by omega
    go_enter Try.func12, Try.ntmps12
    go_wp2
    go_ret
    exact ⟨rfl, rfl⟩
theorem add_e (W : World) (g B : Nat) (wd ck sm : Int) (l : List (Int × Int)) (tick n e : Int) (hw : Win W g B wd ck sm l) (hn : wd ≤ 0 ∨ (0 ≤ n ∧ n ≤ 4611686018427387903)) (he : Hid (atE wd ck tick = e)) (ne : (e != 0) = true) :
    Calls Try.prog 12 #[.pointer (some ⟨g, 0, none⟩), .int .i64 tick, .int .i64 n] W fun x w' => x = .returned (.int .i64 e) ∧ W = w' := by
  have c0 := hw.c0
  by_cases hwd : wd ≤ 0
  · clear hn
    go_enter Try.func12, Try.ntmps12
    go_wp2_with (first | (go_at_call 31; (with_reducible refine (at_w W g B wd ck sm l tick e hw he).mono ?_); rintro e w' ⟨rfl, rfl⟩))
    go_ret
    exact ⟨rfl, rfl⟩
  · obtain ⟨n0, n1⟩ := (by omega : 0 ≤ n ∧ n ≤ 4611686018427387903)
    have hw0 : 0 < wd := by omega
    clear hn hwd
    go_enter Try.func12, Try.ntmps12
    go_wp2_with (first | (go_at_call 31; (with_reducible refine (at_w W g B wd ck sm l tick e hw he).mono ?_); rintro e w' ⟨rfl, rfl⟩))
    go_ret
    exact ⟨rfl, rfl⟩
/-- What is known where Add comes so far. -/
structure Ask (W : World) (g B : Nat) (wd ck sm : Int) (l : List (Int × Int)) (tick : Int) : Prop where
  win : Win W g B wd ck sm l
  gB : g < B
  BW : B ≤ W.heap.size
  lok : Lok l
  len : l.length ≤ 4294967296
  sum : sm = sumA l
  t0 : 0 ≤ tick
  t1 : tick ≤ 1099511627776
  w0 : 0 < wd
  w1 : wd ≤ 1048576
  ck : ck ≤ tick
theorem Ask.ok {W : World} {g B : Nat} {wd ck sm : Int} {l : List (Int × Int)} {tick : Int} (h : Ask W g B wd ck sm l tick) : Hid (atE wd ck tick = 0) := Lib.hid (by
  have := h.t0; have := h.t1; have := h.w0; have := h.ck
  unfold atE
  rw [if_neg (by omega), if_neg (by omega), if_neg (by omega)])
set_option maxHeartbeats 1000000 in
theorem add_full (W : World) (g B : Nat) (wd ck sm : Int) (l : List (Int × Int)) (tick n : Int) (h : Ask W g B wd ck sm l tick) (n0 : 0 ≤ n) (n1 : n ≤ 4611686018427387903) (l2 : List (Int × Int)) (s2 : Int) (h2 : Hid (l.drop (lead (tick - wd) l) = l2)) (hs2 : Hid (sumA l2 = s2)) (hf : 4611686018427387903 < s2 + n) :
    Calls Try.prog 12 #[.pointer (some ⟨g, 0, none⟩), .int .i64 tick, .int .i64 n] W fun e w' => e = .returned (.int .i64 3) ∧ Dr W w' := by
  have hw := h.win
  have HAT := h.ok
  have hwd := h.w0
  have c0 := hw.c0
  have c2 := hw.c2
  have hle := lead_le (tick - wd) l
  obtain ⟨z0, z1⟩ := sum_take h.lok (lead (tick - wd) l)
  have z2 := h.lok.sum
  have hsd := sum_drop (l := l) (lead (tick - wd) l)
  rw [h2.out, hs2.out, ← h.sum] at hsd
  rw [← h.sum] at z1 z2
  obtain ⟨K, eK⟩ : ∃ K, lead (tick - wd) l = K := ⟨_, rfl⟩
  have HK := Lib.hid eK
  obtain ⟨S, eS⟩ : ∃ S, sumA (l.take K) = S := ⟨_, rfl⟩
  have HS := Lib.hid eS
  rw [eK] at hle z0 z1 hsd
  rw [eS] at z0 z1 hsd
  have hs0 : sm - S = s2 := by omega
  have hH := Lib.hid h
  clear eK eS hsd h
  have hs3 : 0 ≤ s2 ∧ s2 ≤ 4611686018427387903 := by omega
  have hf2 : 4611686018427387903 < s2 + n := by omega
  go_enter Try.func12, Try.ntmps12
  go_wp2_with (first | (go_at_call 31; (with_reducible refine (at_w W g B wd ck sm l tick 0 hw HAT).mono ?_); rintro e w' ⟨rfl, rfl⟩) | (go_at_call 32; (refine (out_v W g B wd ck sm l tick K S hw hH.out.lok (Nat.le_trans hH.out.len (by decide)) hH.out.t0 hH.out.t1 (Int.le_of_lt hwd) hH.out.w1 HK HS).mono ?_); rintro e w' ⟨rfl, nd, rfl⟩) | (go_at_call 33; (with_reducible refine (add_f s2 n _ hs3 ⟨n0, n1⟩ hf2).mono ?_); rintro e w' ⟨rfl, rfl⟩))
  go_ret
  exact ⟨rfl, _, rfl⟩
attribute [local go_sem ↓] ap_eq
set_option maxHeartbeats 1000000 in
theorem add_ok0 (W : World) (g B : Nat) (wd ck sm : Int) (l : List (Int × Int)) (tick n : Int) (h : Ask W g B wd ck sm l tick) (n0 : 0 ≤ n) (n1 : n ≤ 4611686018427387903) (l2 : List (Int × Int)) (s2 : Int) (h2 : Hid (l.drop (lead (tick - wd) l) = l2)) (hs2 : Hid (sumA l2 = s2)) (hf : s2 + n ≤ 4611686018427387903) (he : Hid (l2 = [])) :
    Calls Try.prog 12 #[.pointer (some ⟨g, 0, none⟩), .int .i64 tick, .int .i64 n] W fun e w' => e = .returned (.int .i64 0) ∧ Win w' g W.heap.size wd tick (s2 + n) (push l2 tick n) ∧ Chg g W w' := by
  have hw := h.win
  have HAT := h.ok
  have hwd := h.w0
  have c0 := hw.c0
  have c2 := hw.c2
  have hle := lead_le (tick - wd) l
  obtain ⟨z0, z1⟩ := sum_take h.lok (lead (tick - wd) l)
  have z2 := h.lok.sum
  have hsd := sum_drop (l := l) (lead (tick - wd) l)
  rw [h2.out, hs2.out, ← h.sum] at hsd
  rw [← h.sum] at z1 z2
  obtain ⟨K, eK⟩ : ∃ K, lead (tick - wd) l = K := ⟨_, rfl⟩
  have HK := Lib.hid eK
  obtain ⟨S, eS⟩ : ∃ S, sumA (l.take K) = S := ⟨_, rfl⟩
  have HS := Lib.hid eS
  rw [eK] at hle z0 z1 hsd
  rw [eS] at z0 z1 hsd
  have hs0 : sm - S = s2 := by omega
  have hH := Lib.hid h
  clear eK eS hsd h
  have hs4 : 0 ≤ s2 := by omega
  have hf2 : s2 + n ≤ 4611686018427387903 := by omega
  have gW : g < W.heap.size := Nat.lt_of_lt_of_le hH.out.gB hH.out.BW
  go_enter Try.func12, Try.ntmps12
  go_wp2_with (first | (go_at_call 31; (with_reducible refine (at_w W g B wd ck sm l tick 0 hw HAT).mono ?_); rintro e w' ⟨rfl, rfl⟩) | (go_at_call 32; (refine (out_v W g B wd ck sm l tick K S hw hH.out.lok (Nat.le_trans hH.out.len (by decide)) hH.out.t0 hH.out.t1 (Int.le_of_lt hwd) hH.out.w1 HK HS).mono ?_); rintro e w' ⟨rfl, nd, rfl⟩) | (go_at_call 33; (with_reducible refine (add_t s2 n _ hs4 n0 hf2).mono ?_); rintro e w' ⟨rfl, rfl⟩) | (go_at_call 34; (refine (turn_v (W.drewN nd) g B wd ck sm l tick l2 s2 (hw.drewN nd) hH.out.gB hH.out.BW hH.out.lok hH.out.len hH.out.sum hH.out.t0 hH.out.t1 (Int.le_of_lt hwd) hH.out.w1 h2 hs2).mono ?_); rintro e w5 ⟨rfl, hw5, hC5⟩; (refine Exists.elim hw5 ?_); rintro v5 ⟨hB5, hO5⟩; (refine Exists.elim hO5.form ?_); rintro A5 ⟨c5, rfl, hcp5, hF5⟩; rw [show l2.length = 0 by rw [he.out]; rfl] at hB5 hO5; have f1 := hB5.cellv (i := 2) rfl; have f2 := hB5.free 2; have b6 := hB5.put 2 (.int .i64 (s2 + n)); have f3 := b6.cellv (i := 3) rfl; (refine Exists.elim (app_one (W := w5.setCell ⟨g, 2, none⟩ (.int .i64 (s2 + n))) (G := w5.heap.size) (size_set _ _ _) (own_set hO5 gW 2 (.int .i64 (s2 + n))) (by rw [size_set]; exact hC5.size) (by decide) tick n) ?_); rintro A7 ⟨c7, w7, hap, hO7, hg7⟩; have hC7 := ((hC5.set ⟨g, 2, none⟩ (.int .i64 (s2 + n)) (.inl rfl)).alloc (.cells #[.int .i64 tick, .int .i64 n] 83)).grown hg7 (fun b e => hO5.base_le b e); have b7 : Blk w7 g 71 _ := (hg7.block g (by have := (b6.alloc (.cells #[.int .i64 tick, .int .i64 n] 83)).lt; exact this) (fun e => by have := hO5.base_le g e.symm; exact absurd gW (Nat.not_lt.2 this))).trans (b6.alloc (.cells #[.int .i64 tick, .int .i64 n] 83)); have f4 := b7.cellv (i := 3) rfl; have f5 := b7.free 3; have HB8 := Lib.hid (b7.put 3 (.slice A7 (0 + 1) c7)); have HO8 := Lib.hid (own_set hO7 gW 3 (.slice A7 (0 + 1) c7)); have HC8 := Lib.hid (hC7.set ⟨g, 3, none⟩ (.slice A7 (0 + 1) c7) (.inl rfl)); clear hB5 hw5 hcp5 hF5 b6 b7 hC7 hg7 hO7))
  go_ret
  have HO9 := HO8.out
  rw [he.out] at HO9 ⊢
  rw [push_nil]
  exact ⟨rfl, ⟨_, HB8.out, HO9⟩, ⟨HC8.out.size, HC8.out.keep, HC8.out.os, HC8.out.tape, HC8.out.output⟩⟩
set_option maxHeartbeats 1000000 in
theorem add_okC (W : World) (g B : Nat) (wd ck sm : Int) (l : List (Int × Int)) (tick n : Int) (h : Ask W g B wd ck sm l tick) (n0 : 0 ≤ n) (n1 : n ≤ 4611686018427387903) (l2 : List (Int × Int)) (s2 : Int) (h2 : Hid (l.drop (lead (tick - wd) l) = l2)) (hs2 : Hid (sumA l2 = s2)) (hf : s2 + n ≤ 4611686018427387903) (l0 : List (Int × Int)) (t' m : Int) (he : Hid (l2 = l0 ++ [(t', m)])) (ht : (t' == tick) = false) :
    Calls Try.prog 12 #[.pointer (some ⟨g, 0, none⟩), .int .i64 tick, .int .i64 n] W fun e w' => e = .returned (.int .i64 0) ∧ Win w' g W.heap.size wd tick (s2 + n) (push l2 tick n) ∧ Chg g W w' := by
  have hw := h.win
  have HAT := h.ok
  have hwd := h.w0
  have c0 := hw.c0
  have c2 := hw.c2
  have hle := lead_le (tick - wd) l
  obtain ⟨z0, z1⟩ := sum_take h.lok (lead (tick - wd) l)
  have z2 := h.lok.sum
  have hsd := sum_drop (l := l) (lead (tick - wd) l)
  rw [h2.out, hs2.out, ← h.sum] at hsd
  rw [← h.sum] at z1 z2
  obtain ⟨K, eK⟩ : ∃ K, lead (tick - wd) l = K := ⟨_, rfl⟩
  have HK := Lib.hid eK
  obtain ⟨S, eS⟩ : ∃ S, sumA (l.take K) = S := ⟨_, rfl⟩
  have HS := Lib.hid eS
  rw [eK] at hle z0 z1 hsd
  rw [eS] at z0 z1 hsd
  have hs0 : sm - S = s2 := by omega
  have hH := Lib.hid h
  clear eK eS hsd h
  have hs4 : 0 ≤ s2 := by omega
  have hf2 : s2 + n ≤ 4611686018427387903 := by omega
  have gW : g < W.heap.size := Nat.lt_of_lt_of_le hH.out.gB hH.out.BW
  have hlen2 : l0.length + 1 ≤ 4294967296 := by
    have h3 := congrArg List.length h2.out
    rw [he.out] at h3
    simp at h3
    have := hH.out.len
    omega
  have hm0 : 0 ≤ m := by
    have : (t', m) ∈ l := by
      have h3 : (t', m) ∈ l2 := by rw [he.out]; simp
      rw [← h2.out] at h3
      exact List.mem_of_mem_drop h3
    exact hH.out.lok.n _ this
  have hm1 : m ≤ s2 := by
    have h3 := sum_take (l := l2) ⟨fun p hp => hH.out.lok.tick p (by rw [← h2.out] at hp; exact List.mem_of_mem_drop hp), fun p hp => hH.out.lok.n p (by rw [← h2.out] at hp; exact List.mem_of_mem_drop hp), by rw [hs2.out]; omega⟩ l0.length
    have h4 := hs2.out
    rw [he.out, sum_app] at h4
    rw [he.out, List.take_left] at h3
    omega
  go_enter Try.func12, Try.ntmps12
  go_wp2_with (first | (go_at_call 31; (with_reducible refine (at_w W g B wd ck sm l tick 0 hw HAT).mono ?_); rintro e w' ⟨rfl, rfl⟩) | (go_at_call 32; (refine (out_v W g B wd ck sm l tick K S hw hH.out.lok (Nat.le_trans hH.out.len (by decide)) hH.out.t0 hH.out.t1 (Int.le_of_lt hwd) hH.out.w1 HK HS).mono ?_); rintro e w' ⟨rfl, nd, rfl⟩) | (go_at_call 33; (with_reducible refine (add_t s2 n _ hs4 n0 hf2).mono ?_); rintro e w' ⟨rfl, rfl⟩) | (go_at_call 34; (refine (turn_v (W.drewN nd) g B wd ck sm l tick l2 s2 (hw.drewN nd) hH.out.gB hH.out.BW hH.out.lok hH.out.len hH.out.sum hH.out.t0 hH.out.t1 (Int.le_of_lt hwd) hH.out.w1 h2 hs2).mono ?_); rintro e w5 ⟨rfl, hw5, hC5⟩; (refine Exists.elim hw5 ?_); rintro v5 ⟨hB5, hO5⟩; (refine Exists.elim hO5.form ?_); rintro A5 ⟨c5, rfl, hcp5, hF5⟩; rw [show l2.length = l0.length + 1 by rw [he.out]; simp] at hB5 hO5; have f1 := hB5.cellv (i := 2) rfl; have f2 := hB5.free 2; have b6 := hB5.put 2 (.int .i64 (s2 + n)); have f3 := b6.cellv (i := 3) rfl; (refine Exists.elim (hF5 (by rw [he.out]; simp)) ?_); rintro b5 ⟨rfl, hb5, hb5', hc5⟩; have hb5a : W.heap.size ≤ b5 := hb5; have ne5 : b5 ≠ g := (by omega); have e0 := (far_cell (w1 := w5) (p := ⟨g, 2, none⟩) (q := ⟨b5, l0.length * 2, none⟩) (u := .int .i64 (s2 + n)) ne5).trans (hc5 (l0.length * 2) (.int .i64 t') (by rw [he.out]; exact cells_at (l := l0 ++ [(t', m)]) (j := l0.length) (p := (t', m)) (by simp) 0 _ rfl)); have e1 := (far_cell (w1 := w5) (p := ⟨g, 2, none⟩) (q := ⟨b5, l0.length * 2 + 1, none⟩) (u := .int .i64 (s2 + n)) ne5).trans (hc5 (l0.length * 2 + 1) (.int .i64 m) (by rw [he.out]; exact cells_at (l := l0 ++ [(t', m)]) (j := l0.length) (p := (t', m)) (by simp) 1 _ rfl)); clear hc5; (refine Exists.elim (app_one (W := w5.setCell ⟨g, 2, none⟩ (.int .i64 (s2 + n))) (G := w5.heap.size) (size_set _ _ _) (own_set hO5 gW 2 (.int .i64 (s2 + n))) (by rw [size_set]; exact hC5.size) hlen2 tick n) ?_); rintro A7 ⟨c7, w7, hap, hO7, hg7⟩; have hC7 := ((hC5.set ⟨g, 2, none⟩ (.int .i64 (s2 + n)) (.inl rfl)).alloc (.cells #[.int .i64 tick, .int .i64 n] 83)).grown hg7 (fun b e => hO5.base_le b e); have b7 : Blk w7 g 71 _ := (hg7.block g (by have := (b6.alloc (.cells #[.int .i64 tick, .int .i64 n] 83)).lt; exact this) (fun e => by have := hO5.base_le g e.symm; exact absurd gW (Nat.not_lt.2 this))).trans (b6.alloc (.cells #[.int .i64 tick, .int .i64 n] 83)); have f4 := b7.cellv (i := 3) rfl; have f5 := b7.free 3; have HB8 := Lib.hid (b7.put 3 (.slice A7 (l0.length + 1 + 1) c7)); have HO8 := Lib.hid (own_set hO7 gW 3 (.slice A7 (l0.length + 1 + 1) c7)); have HC8 := Lib.hid (hC7.set ⟨g, 3, none⟩ (.slice A7 (l0.length + 1 + 1) c7) (.inl rfl)); clear hB5 hw5 hcp5 hF5 b6 b7 hC7 hg7 hO7))
  go_ret
  have HO9 := HO8.out
  rw [he.out] at HO9 ⊢
  rw [push_other l0 t' tick m n (by simpa using ht)]
  refine ⟨rfl, ⟨_, HB8.out, ?_⟩, ⟨HC8.out.size, HC8.out.keep, HC8.out.os, HC8.out.tape, HC8.out.output⟩⟩
  rw [show (l0 ++ [(t', m)] ++ [(tick, n)]).length = l0.length + 1 + 1 by simp]
  exact HO9
set_option maxHeartbeats 1000000 in
theorem add_okB (W : World) (g B : Nat) (wd ck sm : Int) (l : List (Int × Int)) (tick n : Int) (h : Ask W g B wd ck sm l tick) (n0 : 0 ≤ n) (n1 : n ≤ 4611686018427387903) (l2 : List (Int × Int)) (s2 : Int) (h2 : Hid (l.drop (lead (tick - wd) l) = l2)) (hs2 : Hid (sumA l2 = s2)) (hf : s2 + n ≤ 4611686018427387903) (l0 : List (Int × Int)) (m : Int) (he : Hid (l2 = l0 ++ [(tick, m)])) :
    Calls Try.prog 12 #[.pointer (some ⟨g, 0, none⟩), .int .i64 tick, .int .i64 n] W fun e w' => e = .returned (.int .i64 0) ∧ Win w' g W.heap.size wd tick (s2 + n) (push l2 tick n) ∧ Chg g W w' := by
  have hw := h.win
  have HAT := h.ok
  have hwd := h.w0
  have c0 := hw.c0
  have c2 := hw.c2
  have hle := lead_le (tick - wd) l
  obtain ⟨z0, z1⟩ := sum_take h.lok (lead (tick - wd) l)
  have z2 := h.lok.sum
  have hsd := sum_drop (l := l) (lead (tick - wd) l)
  rw [h2.out, hs2.out, ← h.sum] at hsd
  rw [← h.sum] at z1 z2
  obtain ⟨K, eK⟩ : ∃ K, lead (tick - wd) l = K := ⟨_, rfl⟩
  have HK := Lib.hid eK
  obtain ⟨S, eS⟩ : ∃ S, sumA (l.take K) = S := ⟨_, rfl⟩
  have HS := Lib.hid eS
  rw [eK] at hle z0 z1 hsd
  rw [eS] at z0 z1 hsd
  have hs0 : sm - S = s2 := by omega
  have hH := Lib.hid h
  clear eK eS hsd h
  have hs4 : 0 ≤ s2 := by omega
  have hf2 : s2 + n ≤ 4611686018427387903 := by omega
  have gW : g < W.heap.size := Nat.lt_of_lt_of_le hH.out.gB hH.out.BW
  have hlen2 : l0.length + 1 ≤ 4294967296 := by
    have h3 := congrArg List.length h2.out
    rw [he.out] at h3
    simp at h3
    have := hH.out.len
    omega
  have hm0 : 0 ≤ m := by
    have : (tick, m) ∈ l := by
      have h3 : (tick, m) ∈ l2 := by rw [he.out]; simp
      rw [← h2.out] at h3
      exact List.mem_of_mem_drop h3
    exact hH.out.lok.n _ this
  have hm1 : m ≤ s2 := by
    have h3 := sum_take (l := l2) ⟨fun p hp => hH.out.lok.tick p (by rw [← h2.out] at hp; exact List.mem_of_mem_drop hp), fun p hp => hH.out.lok.n p (by rw [← h2.out] at hp; exact List.mem_of_mem_drop hp), by rw [hs2.out]; omega⟩ l0.length
    have h4 := hs2.out
    rw [he.out, sum_app] at h4
    rw [he.out, List.take_left] at h3
    omega
  have tt : (tick == tick) = true := by simp
  go_enter Try.func12, Try.ntmps12
  go_wp2_with (first | (go_at_call 31; (with_reducible refine (at_w W g B wd ck sm l tick 0 hw HAT).mono ?_); rintro e w' ⟨rfl, rfl⟩) | (go_at_call 32; (refine (out_v W g B wd ck sm l tick K S hw hH.out.lok (Nat.le_trans hH.out.len (by decide)) hH.out.t0 hH.out.t1 (Int.le_of_lt hwd) hH.out.w1 HK HS).mono ?_); rintro e w' ⟨rfl, nd, rfl⟩) | (go_at_call 33; (with_reducible refine (add_t s2 n _ hs4 n0 hf2).mono ?_); rintro e w' ⟨rfl, rfl⟩) | (go_at_call 34; (refine (turn_v (W.drewN nd) g B wd ck sm l tick l2 s2 (hw.drewN nd) hH.out.gB hH.out.BW hH.out.lok hH.out.len hH.out.sum hH.out.t0 hH.out.t1 (Int.le_of_lt hwd) hH.out.w1 h2 hs2).mono ?_); rintro e w5 ⟨rfl, hw5, hC5⟩; (refine Exists.elim hw5 ?_); rintro v5 ⟨hB5, hO5⟩; (refine Exists.elim hO5.form ?_); rintro A5 ⟨c5, rfl, hcp5, hF5⟩; rw [show l2.length = l0.length + 1 by rw [he.out]; simp] at hB5 hO5; have f1 := hB5.cellv (i := 2) rfl; have f2 := hB5.free 2; have b6 := hB5.put 2 (.int .i64 (s2 + n)); have f3 := b6.cellv (i := 3) rfl; (refine Exists.elim (hF5 (by rw [he.out]; simp)) ?_); rintro b5 ⟨rfl, hb5, hb5', hc5⟩; have hb5a : W.heap.size ≤ b5 := hb5; have ne5 : b5 ≠ g := (by omega); have e0 := (far_cell (w1 := w5) (p := ⟨g, 2, none⟩) (q := ⟨b5, l0.length * 2, none⟩) (u := .int .i64 (s2 + n)) ne5).trans (hc5 (l0.length * 2) (.int .i64 tick) (by rw [he.out]; exact cells_at (l := l0 ++ [(tick, m)]) (j := l0.length) (p := (tick, m)) (by simp) 0 _ rfl)); have e1 := (far_cell (w1 := w5) (p := ⟨g, 2, none⟩) (q := ⟨b5, l0.length * 2 + 1, none⟩) (u := .int .i64 (s2 + n)) ne5).trans (hc5 (l0.length * 2 + 1) (.int .i64 m) (by rw [he.out]; exact cells_at (l := l0 ++ [(tick, m)]) (j := l0.length) (p := (tick, m)) (by simp) 1 _ rfl)); clear hc5; have hp := own_put (own_set hO5 gW 2 (.int .i64 (s2 + n))) (l0.length * 2 + 1) (by rw [he.out, cells_len]; simp; omega) (.int .i64 (m + n)); have f4 := hp.2; have HO8 := Lib.hid hp.1; have HB8 := Lib.hid (b6.far (p := ⟨b5, l0.length * 2 + 1, none⟩) (fun e => ne5 e.symm) (.int .i64 (m + n))); have HC8 := Lib.hid ((hC5.set ⟨g, 2, none⟩ (.int .i64 (s2 + n)) (.inl rfl)).set ⟨b5, l0.length * 2 + 1, none⟩ (.int .i64 (m + n)) (.inr hb5)); clear hB5 hO5 hw5 hcp5 hF5 b6 hp hC5))
  go_ret
  have HO9 := HO8.out
  rw [he.out, cells_put] at HO9
  rw [he.out, push_same]
  refine ⟨rfl, ⟨_, HB8.out, ?_⟩, ⟨HC8.out.size, HC8.out.keep, HC8.out.os, HC8.out.tape, HC8.out.output⟩⟩
  rw [show (l0 ++ [(tick, m + n)]).length = l0.length + 1 by simp]
  exact HO9
/-- The window behind an Add: what it answers, and what it is then. -/
def addE (wd ck : Int) (l : List (Int × Int)) (tick n : Int) : Int := if 0 < wd ∧ (n < 0 ∨ 4611686018427387903 < n) then 1 else if atE wd ck tick ≠ 0 then atE wd ck tick else if 4611686018427387903 < sumA (l.drop (lead (tick - wd) l)) + n then 3 else 0
theorem add_ok (W : World) (g B : Nat) (wd ck sm : Int) (l : List (Int × Int)) (tick n : Int) (h : Ask W g B wd ck sm l tick) (n0 : 0 ≤ n) (n1 : n ≤ 4611686018427387903) (hf : sumA (l.drop (lead (tick - wd) l)) + n ≤ 4611686018427387903) :
    Calls Try.prog 12 #[.pointer (some ⟨g, 0, none⟩), .int .i64 tick, .int .i64 n] W fun e w' => e = .returned (.int .i64 0) ∧ Win w' g W.heap.size wd tick (sumA (l.drop (lead (tick - wd) l)) + n) (push (l.drop (lead (tick - wd) l)) tick n) ∧ Chg g W w' := by
  rcases List.eq_nil_or_concat (l.drop (lead (tick - wd) l)) with e | ⟨l0, ⟨t', m⟩, e⟩
  · exact add_ok0 W g B wd ck sm l tick n h n0 n1 _ _ (Lib.hid rfl) (Lib.hid rfl) hf (Lib.hid e)
  · rw [List.concat_eq_append] at e
    by_cases ht : t' = tick
    · subst ht
      exact add_okB W g B wd ck sm l t' n h n0 n1 _ _ (Lib.hid rfl) (Lib.hid rfl) hf l0 m (Lib.hid e)
    · exact add_okC W g B wd ck sm l tick n h n0 n1 _ _ (Lib.hid rfl) (Lib.hid rfl) hf l0 t' m (Lib.hid e) (by simpa using ht)
theorem sum_nil (tick : Int) (W : World) : Calls Try.prog 14 #[.pointer none, .int .i64 tick] W fun e w' => e = .returned (.tuple #[.int .i64 0, .int .i64 2]) ∧ W = w' := by
  go_enter Try.func14, Try.ntmps14
  go_wp2_with (first | (go_at_call 31; (with_reducible refine (at_nil tick _).mono ?_); rintro e w' ⟨rfl, rfl⟩))
  go_ret2
  exact ⟨rfl, rfl⟩
theorem sum_e (W : World) (g B : Nat) (wd ck sm : Int) (l : List (Int × Int)) (tick e : Int) (hw : Win W g B wd ck sm l) (he : Hid (atE wd ck tick = e)) (ne : (e != 0) = true) :
    Calls Try.prog 14 #[.pointer (some ⟨g, 0, none⟩), .int .i64 tick] W fun x w' => x = .returned (.tuple #[.int .i64 0, .int .i64 e]) ∧ W = w' := by
  go_enter Try.func14, Try.ntmps14
  go_wp2_with (first | (go_at_call 31; (with_reducible refine (at_w W g B wd ck sm l tick e hw he).mono ?_); rintro e w' ⟨rfl, rfl⟩))
  go_ret2
  exact ⟨rfl, rfl⟩
theorem sum_ok (W : World) (g B : Nat) (wd ck sm : Int) (l : List (Int × Int)) (tick : Int) (h : Ask W g B wd ck sm l tick) (l2 : List (Int × Int)) (s2 : Int) (h2 : Hid (l.drop (lead (tick - wd) l) = l2)) (hs2 : Hid (sumA l2 = s2)) :
    Calls Try.prog 14 #[.pointer (some ⟨g, 0, none⟩), .int .i64 tick] W fun x w' => x = .returned (.tuple #[.int .i64 s2, .int .i64 0]) ∧ Win w' g W.heap.size wd tick s2 l2 ∧ Chg g W w' := by
  have hw := h.win
  have HAT := h.ok
  have hwd := h.w0
  have hH := Lib.hid h
  clear h
  go_enter Try.func14, Try.ntmps14
  go_wp2_with (first | (go_at_call 31; (with_reducible refine (at_w W g B wd ck sm l tick 0 hw HAT).mono ?_); rintro e w' ⟨rfl, rfl⟩) | (go_at_call 34; (refine (turn_v W g B wd ck sm l tick l2 s2 hw hH.out.gB hH.out.BW hH.out.lok hH.out.len hH.out.sum hH.out.t0 hH.out.t1 (Int.le_of_lt hwd) hH.out.w1 h2 hs2).mono ?_); rintro e w5 ⟨rfl, hw5, hC5⟩; have c5 := hw5.c2; have HW5 := Lib.hid hw5; have HC5 := Lib.hid hC5; clear hw5 hC5))
  go_ret2
  exact ⟨rfl, HW5.out, HC5.out⟩
/-- New. -/
theorem new_no (wd : Int) (W : World) (h : wd < 1 ∨ 1048576 < wd) : Calls Try.prog 11 #[.int .i64 wd] W fun e w' => e = .returned (.tuple #[.pointer none, .int .i64 1]) ∧ W = w' := by
  rcases h with h | h
  · go_enter Try.func11, Try.ntmps11
    go_wp2
    go_ret2
    exact ⟨rfl, rfl⟩
  · have h' : ¬ wd < 1 := by omega
    go_enter Try.func11, Try.ntmps11
    go_wp2
    go_ret2
    exact ⟨rfl, rfl⟩
theorem new_ok (wd : Int) (W : World) (h1 : 1 ≤ wd) (h2 : wd ≤ 1048576) : Calls Try.prog 11 #[.int .i64 wd] W fun e w' => e = .returned (.tuple #[.pointer (some ⟨W.heap.size, 0, none⟩), .int .i64 0]) ∧ (∀ B, Win w' W.heap.size B wd 0 0 []) ∧ w'.heap.size = W.heap.size + 1 ∧ Below W.heap.size W w' := by
  have h1' : ¬ wd < 1 := by omega
  have h2' : ¬ 1048576 < wd := by omega
  have hB := Lib.hid (Blk.new W 71 [.int .i64 wd, .int .i64 0, .int .i64 0, .slice none 0 0])
  go_enter Try.func11, Try.ntmps11
  go_wp2
  go_ret2
  exact ⟨rfl, fun B => ⟨_, hB.out, Own.nil _ _ _ _⟩, by simp, alloc_below _ _⟩
end Go.Proofs.Ythcjkdmlaahpbaa.Win
