/- The document's window: what it is in memory; contracts of its functions. -/
import Derived.Test.YthcjkdmlaahpbaaRate
namespace Go.Proofs.Ythcjkdmlaahpbaa.Win
open Go.RowKit Go.Proofs.Ythcjkdmlaahpbaa.Aid Go.Proofs.Ythcjkdmlaahpbaa.Mem Go.Proofs.Ythcjkdmlaahpbaa.Keep Go.Proofs.Ythcjkdmlaahpbaa.Nums Go.Proofs.Ythcjkdmlaahpbaa.Fl
set_option linter.unusedSimpArgs false
set_option linter.unusedVariables false
set_option maxRecDepth 100000
/-- What was added behind a tick. -/
def gt (x : Int) : List (Int × Int) → Int
  | [] => 0
  | p :: l => (if x < p.1 then p.2 else 0) + gt x l
theorem gt_app (x : Int) (b : List (Int × Int)) : ∀ a, gt x (a ++ b) = gt x a + gt x b
  | [] => by simp [gt]
  | p :: a => by rw [List.cons_append, gt, gt, gt_app x b a]; omega
theorem gt_snoc (x : Int) {l : List (Int × Int)} {k : Nat} {p : Int × Int} (h : l[k]? = some p) : gt x (l.take (k + 1)) = gt x (l.take k) + (if x < p.1 then p.2 else 0) := by
  rw [List.take_add_one, h, Option.toList_some, gt_app]
  simp [gt]
theorem gt_nn (x : Int) : ∀ l : List (Int × Int), (∀ p ∈ l, 0 ≤ p.2) → 0 ≤ gt x l
  | [], _ => Int.le_refl _
  | p :: l, h => by
    have h1 := gt_nn x l (fun q hq => h q (List.mem_cons_of_mem _ hq))
    have h2 := h p (List.mem_cons_self ..)
    rw [gt]
    split <;> omega
theorem gt_take (x : Int) {l : List (Int × Int)} (h : ∀ p ∈ l, 0 ≤ p.2) (k : Nat) : 0 ≤ gt x (l.take k) ∧ gt x (l.take k) ≤ gt x l := by
  have e : gt x l = gt x (l.take k) + gt x (l.drop k) := by rw [← gt_app, List.take_append_drop]
  have h1 := gt_nn x (l.take k) (fun p hp => h p (List.mem_of_mem_take hp))
  have h2 := gt_nn x (l.drop k) (fun p hp => h p (List.mem_of_mem_drop hp))
  omega
/-- The document's window in memory. -/
structure RefW (W : World) (r B : Nat) (wd ck : Int) (u : Value) (l : List (Int × Int)) : Prop where
  blk : Blk W r 90 [.int .i64 wd, .int .i64 ck, u]
  own : Own W B 94 2 u l.length (cellsA l)
theorem rat_c (W : World) (r : Nat) (wd ck : Int) (u : Value) (tick : Int) (w0 : 0 < wd) (hB : Blk W r 90 [.int .i64 wd, .int .i64 ck, u]) :
    Calls Try.prog 44 #[.pointer (some ⟨r, 0, none⟩), .int .i64 tick] W fun e w' => e = .returned (.int .i64 (atE wd ck tick)) ∧ W = w' := by
  have c1 := hB.cellv (i := 1) rfl
  clear hB
  unfold atE
  rw [if_neg (show ¬ wd = 0 by omega)]
  by_cases h1 : tick < 0
  · rw [if_pos (.inl h1)]
    go_enter Try.func44, Try.ntmps44
    go_wp2
    go_ret
    exact ⟨rfl, rfl⟩
  · by_cases h2 : 1099511627776 < tick
    · rw [if_pos (.inr h2)]
      go_enter Try.func44, Try.ntmps44
      go_wp2
      go_ret
      exact ⟨rfl, rfl⟩
    · rw [if_neg (by omega)]
      have h1' : 0 ≤ tick := by omega
      have h2' : tick ≤ 1099511627776 := by omega
      by_cases h3 : tick < ck
      · rw [if_pos h3]
        go_enter Try.func44, Try.ntmps44
        go_wp2
        go_ret
        exact ⟨rfl, rfl⟩
      · rw [if_neg h3]
        go_enter Try.func44, Try.ntmps44
        go_wp2
        go_ret
        exact ⟨rfl, rfl⟩
theorem rat_v (W : World) (r : Nat) (wd ck : Int) (u : Value) (tick e : Int) (w0 : 0 < wd) (hB : Blk W r 90 [.int .i64 wd, .int .i64 ck, u]) (he : Hid (atE wd ck tick = e)) :
    Calls Try.prog 44 #[.pointer (some ⟨r, 0, none⟩), .int .i64 tick] W fun x w' => x = .returned (.int .i64 e) ∧ W = w' := by
  obtain rfl := he.out
  exact rat_c W r wd ck u tick w0 hB
/-- What a question wants of the document's window. -/
structure RAsk (l : List (Int × Int)) (wd tick : Int) : Prop where
  el : ∀ p ∈ l, 0 ≤ p.1 ∧ p.1 ≤ tick ∧ 0 ≤ p.2
  sum : gt (tick - wd) l ≤ 4611686018427387903
  len : l.length ≤ 4294967296
  t0 : 0 ≤ tick
  t1 : tick ≤ 1099511627776
  w0 : 0 < wd
  w1 : wd ≤ 1048576
set_option maxHeartbeats 1000000 in
theorem within_c (W : World) (r B : Nat) (wd ck : Int) (u : Value) (l : List (Int × Int)) (tick : Int) (hR : RefW W r B wd ck u l) (hA : RAsk l wd tick) :
    Calls Try.prog 45 #[.pointer (some ⟨r, 0, none⟩), .int .i64 tick] W fun e w' => e = .returned (.int .i64 (gt (tick - wd) l)) ∧ Dr W w' := by
  obtain ⟨hB, hO⟩ := hR
  have c0 := hB.cellv (i := 0) rfl
  have c2 := hB.cellv (i := 2) rfl
  obtain ⟨A, cp, rfl, hcp, hF⟩ := hO.form
  have HO := Lib.hid hO
  have HA := Lib.hid hA
  obtain ⟨_, _, hn, t0, t1, w0, w1⟩ := hA
  clear hB hO hF
  go_enter Try.func45, Try.ntmps45
  go_wp2
  go_loopw [5, 6] (fun n k wr => ∃ j : Nat, j ≤ l.length ∧ k = .int .i64 j ∧ n = .int .i64 (gt (tick - wd) (l.take j)) ∧ Dr W wr) (fun _ k _ => l.length - (intOf k).toNat)
  case atStart => exact ⟨0, Nat.zero_le _, rfl, rfl, Dr.refl _⟩
  case round =>
    obtain ⟨j, hj, rfl, rfl, nd, rfl⟩ := hrel
    have nn : ∀ p ∈ l, 0 ≤ p.2 := fun p hp => (HA.out.el p hp).2.2
    obtain ⟨z0, z1⟩ := gt_take (tick - wd) nn j
    have z2 := HA.out.sum
    by_cases hlt : j < l.length
    · obtain ⟨b, c, t, n, ev, hp, e0, e1⟩ := own_el HO.out hlt
      injection ev with ev1 ev2 ev3
      subst ev1 ev3
      have hlt' : (j : Int) < (l.length : Int) := by omega
      obtain ⟨p0, p1, p2⟩ := HA.out.el _ (List.mem_of_getElem? hp)
      dsimp only at p0 p1 p2
      have d2 : decide (t ≤ tick) = true := decide_eq_true p1
      obtain ⟨z3, z4⟩ := gt_take (tick - wd) nn (j + 1)
      have hs := gt_snoc (tick - wd) hp
      dsimp only at hs
      by_cases hin : tick - wd < t
      · have d1 : decide (tick - wd < t) = true := decide_eq_true hin
        rw [if_pos hin] at hs
        clear hp nn
        go_wp2
        go_quiet (fail)
        go_wp2
        go_roundw
        case rel => exact ⟨j + 1, by omega, by go_num, by (rw [hs]; try go_num), by first | exact ⟨_, rfl⟩ | exact Dr.step ⟨nd, rfl⟩ nq⟩
        case measure => simp [intOf]; omega
      · have d1 : decide (tick - wd < t) = false := decide_eq_false hin
        rw [if_neg hin] at hs
        clear hp nn
        go_wp2
        go_quiet (fail)
        go_wp2
        go_roundw
        case rel => exact ⟨j + 1, by omega, by go_num, by (rw [hs]; try go_num), by first | exact ⟨_, rfl⟩ | exact Dr.step ⟨nd, rfl⟩ nq⟩
        case measure => simp [intOf]; omega
    · obtain rfl : j = l.length := by omega
      go_wp2
      go_ret
      refine ⟨?_, nd, rfl⟩
      first | rfl | rw [List.take_length]; rfl
theorem within_v (W : World) (r B : Nat) (wd ck : Int) (u : Value) (l : List (Int × Int)) (tick s : Int) (hR : RefW W r B wd ck u l) (hA : RAsk l wd tick) (hs : Hid (gt (tick - wd) l = s)) :
    Calls Try.prog 45 #[.pointer (some ⟨r, 0, none⟩), .int .i64 tick] W fun e w' => e = .returned (.int .i64 s) ∧ Dr W w' := by
  obtain rfl := hs.out
  exact within_c W r B wd ck u l tick hR hA
theorem radd_bad (W : World) (r : Nat) (tick n : Int) (hn : n < 0 ∨ 4611686018427387903 < n) :
    Calls Try.prog 38 #[.pointer (some ⟨r, 0, none⟩), .int .i64 tick, .int .i64 n] W fun e w' => e = .returned (.int .i64 1) ∧ W = w' := by
  by_cases h1 : n < 0
  · clear hn
    go_enter Try.func38, Try.ntmps38
    go_wp2
    go_ret
    exact ⟨rfl, rfl⟩
  · have h2 : 4611686018427387903 < n := by omega
    clear hn
    go_enter Try.func38, Try.ntmps38
    go_wp2
    go_ret
    exact ⟨rfl, rfl⟩
theorem radd_e (W : World) (r : Nat) (wd ck : Int) (u : Value) (tick n e : Int) (w0 : 0 < wd) (n0 : 0 ≤ n) (n1 : n ≤ 4611686018427387903) (hB : Blk W r 90 [.int .i64 wd, .int .i64 ck, u]) (he : Hid (atE wd ck tick = e)) (ne : (e != 0) = true) :
    Calls Try.prog 38 #[.pointer (some ⟨r, 0, none⟩), .int .i64 tick, .int .i64 n] W fun x w' => x = .returned (.int .i64 e) ∧ W = w' := by
  go_enter Try.func38, Try.ntmps38
  go_wp2_with (first | (go_at_call 44; (with_reducible refine (rat_v W r wd ck u tick e w0 hB he).mono ?_); rintro e w' ⟨rfl, rfl⟩))
  go_ret
  exact ⟨rfl, rfl⟩
theorem radd_full (W : World) (r B : Nat) (wd ck : Int) (u : Value) (l : List (Int × Int)) (tick n s : Int) (n0 : 0 ≤ n) (n1 : n ≤ 4611686018427387903) (hR : RefW W r B wd ck u l) (hA : RAsk l wd tick) (he : Hid (atE wd ck tick = 0)) (hs : Hid (gt (tick - wd) l = s)) (hf : decide (4611686018427387903 - n < s) = true) :
    Calls Try.prog 38 #[.pointer (some ⟨r, 0, none⟩), .int .i64 tick, .int .i64 n] W fun x w' => x = .returned (.int .i64 3) ∧ Dr W w' := by
  have hB := hR.blk
  have w0 := hA.w0
  have hw : IntKind.i64.wrap (4611686018427387903 - n) = 4611686018427387903 - n := (IntKind.wrap_i64 _).trans (by omega)
  go_enter Try.func38, Try.ntmps38
  go_wp2_with (first | (go_at_call 44; (with_reducible refine (rat_v W r wd ck u tick 0 w0 hB he).mono ?_); rintro e w' ⟨rfl, rfl⟩) | (go_at_call 45; (with_reducible refine (within_v W r B wd ck u l tick s hR hA hs).mono ?_); rintro e w' ⟨rfl, nd, rfl⟩))
  go_ret
  exact ⟨rfl, nd, rfl⟩
theorem infoR : (Try.prog.info? 94).map (fun i => (i.zero, i.size, i.bytes)) = some (some (.agg #[.int .i64 0, .int .i64 0]), 2, 16) := by kernel_rfl
/-- append(All, Added{tick, n}), run. -/
theorem app_ref {W : World} {B G : Nat} {v : Value} {l : List (Int × Int)} {n2 : Nat} (hG : W.heap.size = G) (hO : Own W B 94 2 v n2 (cellsA l)) (hB : B ≤ W.heap.size) (hn : n2 ≤ 4294967296) (t n : Int) :
    ∃ A7 c7 w7, (AP #[88, 88] 88 #[v, .slice (some ⟨G, 0, none⟩) 1 1]).run Try.prog (W.alloc (.cells #[.int .i64 t, .int .i64 n] 94)) = .ok (.slice A7 (n2 + 1) c7) w7 ∧
      Own w7 B 94 2 (.slice A7 (n2 + 1) c7) (n2 + 1) (cellsA (l ++ [(t, n)])) ∧ (W.alloc (.cells #[.int .i64 t, .int .i64 n] 94)).grownBy w7 v.ownBlock ∧
      ((Value.slice A7 (n2 + 1) c7).ownBlock = v.ownBlock ∨ (Value.slice A7 (n2 + 1) c7).ownBlock = some (W.heap.size + 1)) := by
  subst hG
  obtain ⟨i0, hi, hzz⟩ := Option.map_eq_some_iff.1 infoR
  simp only [Prod.mk.injEq] at hzz
  obtain ⟨hz0, hz1, hz2⟩ := hzz
  have hnew := Blk.new W 94 [.int .i64 t, .int .i64 n]
  obtain ⟨v', w', hr, h2, h3, _, h5⟩ := run_append_own_at (P := Try.prog) (W.alloc (.cells #[.int .i64 t, .int .i64 n] 94)) B 88 88 94 i0 _ 2 16 Try.underlying88 hi hz0 hz1 hz2 rfl (by decide) v n2 (cellsA l) (World.ownsRow.alloc hO _) ⟨W.heap.size, 0, none⟩ 1 1 [.int .i64 t, .int .i64 n] rfl (fun j u hu => by rw [add_at]; exact hnew.cellv hu) (by intro u hu; simp only [List.mem_cons, List.not_mem_nil, or_false] at hu; rcases hu with rfl | rfl <;> rfl) (by unfold maxLen; omega) (by omega) (by rw [size_alloc]; omega)
  have h2' : Own w' B 94 2 v' (n2 + 1) (cellsA (l ++ [(t, n)])) := by
    rw [show cellsA (l ++ [(t, n)]) = cellsA l ++ [.int .i64 t, .int .i64 n] by unfold cellsA; rw [List.flatMap_append]; rfl]
    exact h2
  obtain ⟨A7, c7, rfl, _, _⟩ := h2'.form
  rw [size_alloc] at h5
  exact ⟨A7, c7, w', hr, h2', h3, h5⟩
/-- Only blocks of F are others than they were, of old. -/
structure ChgS (F : Nat → Prop) (W W' : World) : Prop where
  size : W.heap.size ≤ W'.heap.size
  keep : ∀ b, b < W.heap.size → ¬ F b → W'.heap[b]? = W.heap[b]?
  os : W'.os = W.os
  tape : W'.tape = W.tape
  output : W'.output = W.output
theorem ChgS.of_dr {F : Nat → Prop} {W W' : World} (h : Dr W W') : ChgS F W W' := by
  obtain ⟨n, rfl⟩ := h
  exact ⟨Nat.le_refl _, fun _ _ _ => rfl, rfl, rfl, rfl⟩
/-- The blocks of a document's window. -/
def FR (r : Nat) (u : Value) (b : Nat) : Prop := b = r ∨ u.ownBlock = some b
attribute [local go_sem ↓] ap_eq
set_option maxHeartbeats 1000000 in
theorem radd_ok (W : World) (r B : Nat) (wd ck : Int) (u : Value) (l : List (Int × Int)) (tick n s : Int) (n0 : 0 ≤ n) (n1 : n ≤ 4611686018427387903) (hR : RefW W r B wd ck u l) (hA : RAsk l wd tick) (he : Hid (atE wd ck tick = 0)) (hs : Hid (gt (tick - wd) l = s)) (hf : decide (4611686018427387903 - n < s) = false) (rB : r < B) (BW : B ≤ W.heap.size) :
    Calls Try.prog 38 #[.pointer (some ⟨r, 0, none⟩), .int .i64 tick, .int .i64 n] W fun x w' => x = .returned (.int .i64 0) ∧ ∃ u', RefW w' r B wd tick u' (l ++ [(tick, n)]) ∧ (u'.ownBlock = u.ownBlock ∨ ∃ b, u'.ownBlock = some b ∧ W.heap.size ≤ b) ∧ ChgS (FR r u) W w' := by
  have hB := hR.blk
  have hO := hR.own
  have w0 := hA.w0
  have HA := Lib.hid hA
  have hw : IntKind.i64.wrap (4611686018427387903 - n) = 4611686018427387903 - n := (IntKind.wrap_i64 _).trans (by omega)
  obtain ⟨A, cp, rfl, hcp, _⟩ := hO.form
  clear hA
  go_enter Try.func38, Try.ntmps38
  go_wp2_with (first | (go_at_call 44; (with_reducible refine (rat_v W r wd ck _ tick 0 w0 hB he).mono ?_); rintro e w' ⟨rfl, rfl⟩) | (go_at_call 45; (with_reducible refine (within_v W r B wd ck _ l tick s hR HA.out hs).mono ?_); rintro e w' ⟨rfl, nd, rfl⟩; have f1 := (hB.drewN nd).cellv (i := 2) rfl; (refine Exists.elim (app_ref (W := W.drewN nd) (G := W.heap.size) rfl (hO.drewN nd) BW HA.out.len tick n) ?_); rintro A7 ⟨c7, w7, hap, hO7, hg7, hat⟩; have b7 : Blk w7 r 90 _ := (hg7.block r (by have := ((hB.drewN nd).alloc (.cells #[.int .i64 tick, .int .i64 n] 94)).lt; exact this) (fun e => by have := hO.base_le r e.symm; omega)).trans ((hB.drewN nd).alloc (.cells #[.int .i64 tick, .int .i64 n] 94)); have f5 := b7.free 2; have f6 := b7.cellv (i := 2) rfl; have b8 := b7.put 2 (.slice A7 (l.length + 1) c7); have f7 := b8.free 1; have f8 := b8.cellv (i := 1) rfl; have HB9 := Lib.hid (b8.put 1 (.int .i64 tick)); have HO9 := Lib.hid (own_set (own_set hO7 rB 2 (.slice A7 (l.length + 1) c7)) rB 1 (.int .i64 tick)); have HG := Lib.hid hg7; have HT := Lib.hid hat; clear b7 b8 hO7 hg7 hat))
  go_ret
  have hO9 := HO9.out
  refine ⟨rfl, _, ⟨HB9.out, ?_⟩, ?_, ?_⟩
  · rw [show (l ++ [(tick, n)]).length = l.length + 1 by simp]
    exact hO9
  · rcases HT.out with h | h
    · exact .inl h
    · exact .inr ⟨_, h, Nat.le_succ _⟩
  · have hg := HG.out
    have e1 : ∀ (V : World) (i : Nat) (x : Value) (b : Nat), b ≠ r → (V.setCell ⟨r, i, none⟩ x).heap[b]? = V.heap[b]? := fun V i x b hb => Below.heap_setCell V ⟨r, i, none⟩ x b hb
    refine ⟨?_, fun b hb hF => ?_, ?_, ?_, ?_⟩
    · have := hg.size
      rw [size_alloc] at this
      rw [size_set, size_set]
      exact Nat.le_trans (Nat.le_succ _) this
    · have h1 : b ≠ r := fun h => hF (.inl h)
      have h2 : some b ≠ (Value.slice A l.length cp).ownBlock := fun h => hF (.inr h.symm)
      rw [e1 _ _ _ _ h1, e1 _ _ _ _ h1, hg.block b (by rw [size_alloc]; exact Nat.lt_succ_of_lt hb) h2]
      exact Below.heap_alloc (W.drewN nd) _ b hb
    · exact hg.os
    · exact hg.tape
    · exact hg.output
theorem rsum_e (W : World) (r : Nat) (wd ck : Int) (u : Value) (tick e : Int) (w0 : 0 < wd) (hB : Blk W r 90 [.int .i64 wd, .int .i64 ck, u]) (he : Hid (atE wd ck tick = e)) (ne : (e != 0) = true) :
    Calls Try.prog 39 #[.pointer (some ⟨r, 0, none⟩), .int .i64 tick] W fun x w' => x = .returned (.tuple #[.int .i64 0, .int .i64 e]) ∧ W = w' := by
  go_enter Try.func39, Try.ntmps39
  go_wp2_with (first | (go_at_call 44; (with_reducible refine (rat_v W r wd ck u tick e w0 hB he).mono ?_); rintro e w' ⟨rfl, rfl⟩))
  go_ret2
  exact ⟨rfl, rfl⟩
theorem RefW.put {W : World} {r B : Nat} {wd ck : Int} {u : Value} {l : List (Int × Int)} (h : RefW W r B wd ck u l) (rB : r < B) (tick : Int) : RefW (W.setCell ⟨r, 1, none⟩ (.int .i64 tick)) r B wd tick u l :=
  ⟨h.blk.put 1 (.int .i64 tick), own_set h.own rB 1 (.int .i64 tick)⟩
theorem chgs_put {F : Nat → Prop} {W : World} {r : Nat} (hF : F r) (i : Nat) (x : Value) : ChgS F W (W.setCell ⟨r, i, none⟩ x) :=
  ⟨by rw [size_set]; exact Nat.le_refl _, fun b _ h => Below.heap_setCell W ⟨r, i, none⟩ x b (fun e => h (e ▸ hF)), rfl, rfl, rfl⟩
theorem ChgS.trans {F : Nat → Prop} {W W' W'' : World} (h : ChgS F W W') (k : ChgS F W' W'') : ChgS F W W'' :=
  ⟨Nat.le_trans h.size k.size, fun b hb hF => (k.keep b (Nat.lt_of_lt_of_le hb h.size) hF).trans (h.keep b hb hF), k.os.trans h.os, k.tape.trans h.tape, k.output.trans h.output⟩
theorem rsum_ok (W : World) (r B : Nat) (wd ck : Int) (u : Value) (l : List (Int × Int)) (tick s : Int) (hR : RefW W r B wd ck u l) (hA : RAsk l wd tick) (he : Hid (atE wd ck tick = 0)) (hs : Hid (gt (tick - wd) l = s)) (rB : r < B) :
    Calls Try.prog 39 #[.pointer (some ⟨r, 0, none⟩), .int .i64 tick] W fun x w' => x = .returned (.tuple #[.int .i64 s, .int .i64 0]) ∧ RefW w' r B wd tick u l ∧ ChgS (FR r u) W w' := by
  have hB := hR.blk
  have w0 := hA.w0
  have HA := Lib.hid hA
  have f1 := hB.cellv (i := 1) rfl
  have f2 := hB.free 1
  have hR2 := hR.put rB tick
  clear hA
  go_enter Try.func39, Try.ntmps39
  go_wp2_with (first | (go_at_call 44; (with_reducible refine (rat_v W r wd ck u tick 0 w0 hB he).mono ?_); rintro e w' ⟨rfl, rfl⟩) | (go_at_call 45; (with_reducible refine (within_v _ r B wd tick u l tick s hR2 HA.out hs).mono ?_); rintro e w' ⟨rfl, nd, rfl⟩))
  go_ret2
  exact ⟨rfl, ⟨hR2.blk.drewN nd, hR2.own.drewN nd⟩, (chgs_put (F := FR r u) (.inl rfl) 1 _).trans (ChgS.of_dr ⟨nd, rfl⟩)⟩
theorem rrate_e (W : World) (r : Nat) (wd ck : Int) (u : Value) (tick e : Int) (w0 : 0 < wd) (hB : Blk W r 90 [.int .i64 wd, .int .i64 ck, u]) (he : Hid (atE wd ck tick = e)) (ne : (e != 0) = true) :
    Calls Try.prog 40 #[.pointer (some ⟨r, 0, none⟩), .int .i64 tick] W fun x w' => x = .returned (.tuple #[.float .f64 0, .int .i64 e]) ∧ W = w' := by
  go_enter Try.func40, Try.ntmps40
  go_wp2_with (first | (go_at_call 39; (with_reducible refine (rsum_e W r wd ck u tick e w0 hB he ne).mono ?_); rintro e w' ⟨rfl, rfl⟩))
  go_ret2
  exact ⟨rfl, rfl⟩
theorem rrate_ok (W : World) (r B : Nat) (wd ck : Int) (u : Value) (l : List (Int × Int)) (tick s : Int) (hR : RefW W r B wd ck u l) (hA : RAsk l wd tick) (he : Hid (atE wd ck tick = 0)) (hs : Hid (gt (tick - wd) l = s)) (rB : r < B) (q : Nat) (hq : floatBits .quo .f64 (floatOfInt .f64 s) (floatOfInt .f64 wd) = some q) :
    Calls Try.prog 40 #[.pointer (some ⟨r, 0, none⟩), .int .i64 tick] W fun x w' => x = .returned (.tuple #[.float .f64 q, .int .i64 0]) ∧ RefW w' r B wd tick u l ∧ ChgS (FR r u) W w' := by
  have hquo : ∀ t w, (binOp .quo t (.float .f64 (floatOfInt .f64 s)) (.float .f64 (floatOfInt .f64 wd))).run Try.prog w = .ok (.float .f64 q) w := fun t w => run_float_arith w .quo t .f64 _ _ q hq
  have HA := Lib.hid hA
  clear hA hq
  go_enter Try.func40, Try.ntmps40
  go_wp2_with (first | (go_at_call 39; (with_reducible refine (rsum_ok W r B wd ck u l tick s hR HA.out he hs rB).mono ?_); rintro e w5 ⟨rfl, hw5, hC5⟩; have c0 := hw5.blk.cellv (i := 0) rfl; have HW5 := Lib.hid hw5; have HC5 := Lib.hid hC5; clear hw5 hC5))
  go_ret2
  exact ⟨rfl, HW5.out, HC5.out⟩
theorem rnew_no (wd : Int) (W : World) (h : wd < 1 ∨ 1048576 < wd) : Calls Try.prog 26 #[.int .i64 wd] W fun e w' => e = .returned (.tuple #[.pointer none, .int .i64 1]) ∧ W = w' := by
  rcases h with h | h
  · go_enter Try.func26, Try.ntmps26
    go_wp2
    go_ret2
    exact ⟨rfl, rfl⟩
  · have h' : 1 ≤ wd := by omega
    go_enter Try.func26, Try.ntmps26
    go_wp2
    go_ret2
    exact ⟨rfl, rfl⟩
theorem rnew_ok (wd : Int) (W : World) (h1 : 1 ≤ wd) (h2 : wd ≤ 1048576) : Calls Try.prog 26 #[.int .i64 wd] W fun e w' => e = .returned (.tuple #[.pointer (some ⟨W.heap.size, 0, none⟩), .int .i64 0]) ∧ (∀ B, RefW w' W.heap.size B wd 0 (.slice none 0 0) []) ∧ w'.heap.size = W.heap.size + 1 ∧ Below W.heap.size W w' := by
  have hB := Lib.hid (Blk.new W 90 [.int .i64 wd, .int .i64 0, .slice none 0 0])
  go_enter Try.func26, Try.ntmps26
  go_wp2
  go_ret2
  exact ⟨rfl, fun B => ⟨hB.out, Own.nil _ _ _ _⟩, by simp, alloc_below _ _⟩
end Go.Proofs.Ythcjkdmlaahpbaa.Win
