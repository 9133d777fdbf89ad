/- The law StatsBetween: of numbers that are small enough Mean is from Least to Most; where all are the same it is that number, and Variance is 0. -/
import Derived.Test.YtmpjcjgdjimioaaBetwP
import Derived.Test.YtmpjcjgdjimioaaLives
import Derived.Test.YtmpjcjgdjimioaaSymP
import Derived.BigQuiet
import Derived.Deep.RegionHeld3
namespace Go.Proofs.Ytmpjcjgdjimioaa.SBetw
open Ieee Go.RowKit Go.Proofs.Ytmpjcjgdjimioaa.Aid Go.Proofs.Ytmpjcjgdjimioaa.Mem Go.Proofs.Ytmpjcjgdjimioaa.Nums Go.Proofs.Ytmpjcjgdjimioaa.Keep Go.Proofs.Ytmpjcjgdjimioaa.Has Go.Proofs.Ytmpjcjgdjimioaa.Recs Go.Proofs.Ytmpjcjgdjimioaa.MinMax Go.Proofs.Ytmpjcjgdjimioaa.Of Go.Proofs.Ytmpjcjgdjimioaa.Fl Go.Proofs.Ytmpjcjgdjimioaa.Fin Go.Proofs.Ytmpjcjgdjimioaa.RefOf Go.Proofs.Ytmpjcjgdjimioaa.SOf Go.Proofs.Ytmpjcjgdjimioaa.Quant Go.Proofs.Ytmpjcjgdjimioaa.HistP Go.Proofs.Ytmpjcjgdjimioaa.May Go.Proofs.Ytmpjcjgdjimioaa.JoinP Go.Proofs.Ytmpjcjgdjimioaa.SymP Go.Proofs.Ytmpjcjgdjimioaa.BetwP Go.Proofs.Ytmpjcjgdjimioaa.Lives
set_option linter.unusedSimpArgs false
set_option linter.unusedVariables false
set_option maxRecDepth 100000
attribute [local go_sem] feq_run Of.run_store_float
theorem tdiv_p (n : Nat) (hp : 0 < n) : Int.tdiv 9007199254740992 (n : Int) = ((9007199254740992 / n : Nat) : Int) := by
  rw [Int.tdiv_eq_ediv_of_nonneg (by decide)]
  rfl
theorem tdiv_m (n : Nat) (hp : 0 < n) : Int.tdiv (-9007199254740992) (n : Int) = -((9007199254740992 / n : Nat) : Int) := by
  rw [Int.neg_tdiv, tdiv_p n hp]
theorem quo_run (a n B : Int) (hn : 0 < n) (hb : Int.tdiv a n = B) (hB : -9007199254740992 ≤ B ∧ B ≤ 9007199254740992) (t : TypeId) (W : World) : (binOp .quo t (.int .i64 a) (.int .i64 n)).run Try.prog W = .ok (.int .i64 B) W := by
  have h0 : n ≠ 0 := by omega
  have hw : IntKind.i64.wrap B = B := (show IntKind.i64.wrap B = wrap64 B from by rw [w64_eq]; simp [IntKind.wrap, IntKind.signed, IntKind.bits]; split <;> omega).trans (w64_in (by omega) (by omega))
  simp [binOp, Op.intDiv, h0, hb, hw]
/-- The summary's box. -/
def KV (w : World) (g : Nat) (s : Su) (W : World) : Prop := Has w [(g, 25, s.list)] W
theorem KV.start {w w1 : World} (h : Below w.heap.size w w1) (s : Su) : KV w w1.heap.size s (w1.alloc (.cells #[.int .i64 s.c, .float .f64 s.m, .float .f64 s.v, .int .i64 s.l, .int .i64 s.o] 25)) := by
  refine ⟨fun x hx => ?_, h.alloc h.size _⟩
  simp at hx; subst hx
  exact Blk.new w1 _ s.list
theorem KV.keep {w W W' : World} {g : Nat} {s : Su} (h : KV w g s W) (hb : Below W.heap.size W W') : KV w g s W' := Has.keep h hb
theorem KV.drewN {w W : World} {g : Nat} {s : Su} (h : KV w g s W) (n : Nat) : KV w g s (W.drewN n) := ⟨fun x hx => (h.1 x hx).drewN n, below_drewN h.2 n⟩
theorem KV.cells {w W : World} {g : Nat} {s : Su} (h : KV w g s W) : W.cell? ⟨g, 0, none⟩ = some (.int .i64 s.c) ∧ W.cell? ⟨g, 1, none⟩ = some (.float .f64 s.m) ∧ W.cell? ⟨g, 2, none⟩ = some (.float .f64 s.v) ∧ W.cell? ⟨g, 3, none⟩ = some (.int .i64 s.l) ∧ W.cell? ⟨g, 4, none⟩ = some (.int .i64 s.o) :=
  ⟨Has.cell h List.mem_cons_self 0, Has.cell h List.mem_cons_self 1, Has.cell h List.mem_cons_self 2, Has.cell h List.mem_cons_self 3, Has.cell h List.mem_cons_self 4⟩
set_option maxHeartbeats 8000000 in
theorem walk (xs : List Int) (A : Option Addr) (n c : Nat) (w : World) (h : Ints w .i64 A n xs) (hcap : n ≤ c) (hb : n ≤ 17592186044416) :
    Calls Try.prog 3 #[.slice A n c] w fun e w' => e = .returned (.bool true) ∧ Below w.heap.size w w' := by
  have H := Lib.hid h
  have HLen := Lib.hid h.1
  obtain ⟨s, hs⟩ := ofA_su xs n
  have HS : Hid (ofA xs n = s.arr) := Lib.hid hs
  have HN : Hid (n ≤ 17592186044416) := Lib.hid hb
  obtain ⟨B, hB⟩ : ∃ B, B = 9007199254740992 / n := ⟨_, rfl⟩
  have HB := Lib.hid hB
  clear h hs
  go_enter Try.func3, Try.ntmps3
  go_wp2_with (first | (go_at_call 11; (with_reducible refine (of_s xs A n c _ H.out HN.out s HS.out).mono ?_); (rintro e w1 ⟨rfl, hL⟩; have K0 := Lib.hid (KV.start hL s); clear hL)))
  obtain ⟨W, hW⟩ : ∃ W, W = w1.alloc (.cells #[.int .i64 s.c, .float .f64 s.m, .float .f64 s.v, .int .i64 s.l, .int .i64 s.o] 25) := ⟨_, rfl⟩
  have K1 : Hid (KV w w1.heap.size s W) := Lib.hid (by rw [hW]; exact K0.out)
  rw [← hW]
  clear hW
  go_loopw [5] (fun i wr => ∃ i' d : Nat, i' ≤ n ∧ i = .int .i64 i' ∧ Hid (Within (xs.take i') B) ∧ wr = W.drewN d) (fun i _ => n - (intOf i).toNat)
  case atStart => exact ⟨0, 0, Nat.zero_le _, rfl, Lib.hid (fun x hx => by simp at hx), rfl⟩
  case round =>
    obtain ⟨i, d, hi, rfl, HW, rfl⟩ := hrel
    by_cases hlt : i < n
    · obtain ⟨ad, x, rfl, hx, hc⟩ := (H.out.keep K1.out.2).at_ hlt
      have HX := Lib.hid hx
      have n1 : (0 : Int) < n := by omega
      have hBl : B ≤ 9007199254740992 := by rw [hB]; exact Nat.div_le_self _ _
      have q1 : ∀ t W, (binOp .quo t (.int .i64 9007199254740992) (.int .i64 (n : Int))).run Try.prog W = .ok (.int .i64 (B : Int)) W := fun t W => quo_run _ _ _ n1 (by rw [tdiv_p n (by omega), ← hB]) (by omega) t W
      have q2 : ∀ t W, (binOp .quo t (.int .i64 (-9007199254740992)) (.int .i64 (n : Int))).run Try.prog W = .ok (.int .i64 (-(B : Int))) W := fun t W => quo_run _ _ _ n1 (by rw [tdiv_m n (by omega), ← hB]) (by omega) t W
      have t1 := tdiv_p n (by omega)
      have t2 := tdiv_m n (by omega)
      rw [← hB] at t1 t2
      have n0 : (n : Int) ≠ 0 := by omega
      have n0' : ((n : Int) == 0) = false := by simp; omega
      have hBi : (B : Int) ≤ 9007199254740992 := by omega
      by_cases h1 : (B : Int) < x
      · have d1 : decide ((B : Int) < x) = true := decide_eq_true h1
        clear hx hB hBl
        go_wp2_with (fail)
        go_quiet (fail)
        go_wp2_with (first | (go_at_call 12; (with_reducible refine (lives_c _).mono ?_); (rintro e w9 ⟨rfl, hL⟩; have HL9 := Lib.hid (kbt (K1.out.drewN _).2 hL); clear hL)))
        go_ret
        exact ⟨rfl, HL9.out⟩
      · have d1 : decide ((B : Int) < x) = false := decide_eq_false h1
        by_cases h2 : x < -(B : Int)
        · have d2 : decide (x < -(B : Int)) = true := decide_eq_true h2
          clear hx hB hBl
          go_wp2_with (fail)
          go_quiet (fail)
          go_wp2_with (first | (go_at_call 12; (with_reducible refine (lives_c _).mono ?_); (rintro e w9 ⟨rfl, hL⟩; have HL9 := Lib.hid (kbt (K1.out.drewN _).2 hL); clear hL)))
          go_ret
          exact ⟨rfl, HL9.out⟩
        · have d2 : decide (x < -(B : Int)) = false := decide_eq_false h2
          have HW2 : Hid (Within (xs.take (i + 1)) B) := Lib.hid (by
            rw [take_snoc xs i x hx]
            intro y hy
            rcases List.mem_append.1 hy with hy | hy
            · exact HW.out y hy
            · simp at hy; subst hy; omega)
          clear hx hB hBl
          go_wp2_with (fail)
          go_quiet (fail)
          go_wp2_with (fail)
          go_roundw
          case rel => exact ⟨i + 1, d + nq, by omega, by go_num, HW2, rfl⟩
          case measure => simp [intOf]; omega
    · obtain rfl : i = n := by omega
      have ht : xs.take i = xs := List.take_of_length_le (by have := HLen.out; omega)
      rw [ht] at HW
      have hnB : i * B ≤ 9007199254740992 := by rw [hB]; exact Nat.mul_div_le _ _
      by_cases hp : i = 0
      · have hx0 : xs = [] := List.length_eq_zero_iff.1 (HLen.out.trans hp)
        have he : ofE xs = 0 := by rw [hx0]; decide
        have hS0 : s.c = 0 ∧ s.m = 0 ∧ s.v = 0 ∧ s.l = 0 ∧ s.o = 0 := by
          have := HS.out
          unfold ofA at this
          rw [if_neg (by omega)] at this
          simp only [Su.arr, Array.mk.injEq, List.cons.injEq, Value.int.injEq, Value.float.injEq, true_and, and_true] at this
          exact ⟨this.1.symm, this.2.1.symm, this.2.2.1.symm, this.2.2.2.1.symm, this.2.2.2.2.symm⟩
        have HE := Lib.hid he
        obtain ⟨sc, sm, sv', sl, so⟩ := s
        obtain ⟨rfl, rfl, rfl, rfl, rfl⟩ := hS0
        obtain ⟨k0, k1, k2, k3, k4⟩ := (K1.out.drewN d).cells
        have e0 : (ofE xs != 0) = false := by rw [he]; rfl
        have oz : (FloatKind.f64.format.order 0 0 == some .eq) = true := by decide +kernel
        have p0 : i ≤ 0 := by omega
        have e1 : ((0 : Int) != (i : Int)) = false := by simp; omega
        simp only at k0 k1 k2 k3 k4
        clear hB hnB hp he ht hx0
        go_wp2_with (first | (go_at_call 12; (with_reducible refine (lives_c _).mono ?_); (rintro e w9 ⟨rfl, hL⟩; have HL9 := Lib.hid (kbt (K1.out.drewN _).2 hL); clear hL)))
        go_ret
        exact ⟨rfl, HL9.out⟩
      · have hp0 : 0 < i := by omega
        have hBl : B ≤ 9007199254740992 := by rw [hB]; exact Nat.div_le_self _ _
        have he := within_ok HW.out hBl (by rw [HLen.out]; exact hnB)
        have htot : (tot xs).natAbs ≤ 9007199254740992 := Nat.le_trans (tot_within HW.out) (by rw [HLen.out]; exact hnB)
        have hS0 : s.c = i ∧ s.m = meanF xs i ∧ s.v = varF xs i ∧ s.l = least xs i ∧ s.o = most xs i := by
          have := HS.out
          rw [ofA_ok he hp0] at this
          simp only [Su.arr, Array.mk.injEq, List.cons.injEq, Value.int.injEq, Value.float.injEq, true_and, and_true] at this
          exact ⟨this.1.symm, this.2.1.symm, this.2.2.1.symm, this.2.2.2.1.symm, this.2.2.2.2.symm⟩
        obtain ⟨sc, sm, sv', sl, so⟩ := s
        obtain ⟨rfl, rfl, rfl, rfl, rfl⟩ := hS0
        have hlt0 := least_tot (xs := xs) (k := i) hp0 (by rw [HLen.out]; exact Nat.le_refl _)
        rw [List.take_of_length_le (by rw [HLen.out]; exact Nat.le_refl _)] at hlt0
        have hlin : ∀ k, 1 ≤ k → k ≤ i → (least xs k).natAbs ≤ 9007199254740992 ∧ (most xs k).natAbs ≤ 9007199254740992 := by
          intro k
          induction k with
          | zero => intro h; omega
          | succ k ih =>
            intro _ hk
            have hx : xs[k]? = some (xs[k]'(by rw [HLen.out]; omega)) := List.getElem?_eq_getElem _
            have hw := HW.out _ (List.getElem_mem (l := xs) (n := k) (by rw [HLen.out]; omega))
            rw [L_next hx, M_next hx]
            rcases Nat.eq_zero_or_pos k with rfl | hk0
            · rw [show max 0 1 = 1 from rfl, least_one hx, most_one hx]; omega
            · rw [show max k 1 = k by omega]
              have := ih hk0 (by omega)
              omega
        obtain ⟨hl1, hl2⟩ := hlin i hp0 (Nat.le_refl _)
        have HE := Lib.hid he
        have e0 : (ofE xs != 0) = false := by rw [he]; rfl
        have p1 : ((i : Int) != (i : Int)) = false := by simp
        have p2 : ((i : Int) == 0) = false := by simp; omega
        have g1 : (FloatKind.f64.format.order (meanF xs i) (floatOfInt .f64 (least xs i)) == some .lt) = false := mean_ge htot hp0 (by omega) hl1 hlt0.1
        have g2 : (FloatKind.f64.format.order (meanF xs i) (floatOfInt .f64 (most xs i)) == some .gt) = false := mean_le htot hp0 (by omega) hl2 hlt0.2
        have g3 := var_ge HLen.out he hp0 (by omega)
        have g4 : (least xs i != least xs i) = false := by simp
        have g5 : (most xs i != most xs i) = false := by simp
        obtain ⟨ad, x0, hA, hx0, hc0w⟩ := H.out.at_ hp0
        subst hA
        have q0w : w.cell? ad = some (.int .i64 x0) := by simpa [Addr.add] using hc0w
        have HQ0 := Lib.hid q0w
        have q0 : W.cell? ad = some (.int .i64 x0) := (K1.out.2.cell (World.block_lt_of_cell? w _ q0w)).trans q0w
        have hx0b : x0.natAbs ≤ 9007199254740992 := by have := HW.out x0 (List.mem_of_getElem? hx0); omega
        have HSM : Hid ((∀ x ∈ xs, x = x0) → meanF xs i = fi x0 ∧ varF xs i = 0) := Lib.hid (fun hall => same_all HLen.out hall hx0b htot hp0 (by omega))
        have e1 := Lib.hid (least_one hx0)
        have e2 := Lib.hid (most_one hx0)
        have HNF : Hid (Num (fi x0)) := Lib.hid (by obtain ⟨q, e, hq, _⟩ := fi_int x0 hx0b; exact ⟨_, q, e, hq⟩)
        obtain ⟨k0, k1, k2, k3, k4⟩ := K1.out.cells
        simp only at k0 k1 k2 k3 k4
        clear hB hnB hp he ht hx0 hc0w q0w hlin hl1 hl2 hlt0 htot hx0b
        go_wp2_with (fail)
        go_loopw [6, 7, 8, 9] (fun sm le mo j wr => ∃ j' d' : Nat, j' ≤ i ∧ j = .int .i64 j' ∧ sm = .bool ((xs.take j').all (· == x0)) ∧ le = .int .i64 (least xs (max j' 1)) ∧ mo = .int .i64 (most xs (max j' 1)) ∧ wr = W.drewN d') (fun _ _ _ j _ => i - (intOf j).toNat)
        case atStart => exact ⟨0, _, Nat.zero_le _, rfl, by simp, by rw [show max 0 1 = 1 from rfl, e1.out], by rw [show max 0 1 = 1 from rfl, e2.out], rfl⟩
        case round =>
          obtain ⟨j, d', hj, rfl, rfl, rfl, rfl, rfl⟩ := hrel
          by_cases hjl : j < i
          · obtain ⟨ad', x, hA, hx, hcw⟩ := H.out.at_ hjl
            cases hA
            have hc := (K1.out.2.cell (World.block_lt_of_cell? w _ hcw)).trans hcw
            have HL1 := Lib.hid (L_next hx)
            have HM1 := Lib.hid (M_next hx)
            have HAN : Hid ((xs.take (j + 1)).all (· == x0) = ((xs.take j).all (· == x0) && x == x0)) := Lib.hid (by rw [take_snoc xs j x hx, List.all_append]; simp)
            clear hx hcw
            obtain ⟨b, hbb⟩ : ∃ b, b = (xs.take j).all (· == x0) := ⟨_, rfl⟩
            rw [← hbb] at HAN ⊢
            obtain ⟨L, hL⟩ : ∃ L, L = least xs (max j 1) := ⟨_, rfl⟩
            obtain ⟨M, hM⟩ : ∃ M, M = most xs (max j 1) := ⟨_, rfl⟩
            rw [← hL] at HL1 ⊢
            rw [← hM] at HM1 ⊢
            clear hbb hL hM
            cases b with
            | true =>
              rw [Bool.true_and] at HAN
              go_wp2_with (fail)
              go_quiet (fail)
              go_wp2_with (fail)
              go_roundw
              case rel => exact ⟨j + 1, _, by omega, by go_num, by rw [HAN.out], by rw [show max (j + 1) 1 = j + 1 by omega, HL1.out], by rw [show max (j + 1) 1 = j + 1 by omega, HM1.out], rfl⟩
              case measure => simp [intOf]; omega
            | false =>
              rw [Bool.false_and] at HAN
              go_wp2_with (fail)
              go_quiet (fail)
              go_wp2_with (fail)
              go_roundw
              case rel => exact ⟨j + 1, _, by omega, by go_num, by rw [HAN.out], by rw [show max (j + 1) 1 = j + 1 by omega, HL1.out], by rw [show max (j + 1) 1 = j + 1 by omega, HM1.out], rfl⟩
              case measure => simp [intOf]; omega
          · obtain rfl : j = i := by omega
            have hmx : max j 1 = j := by omega
            rw [hmx, List.take_of_length_le (by rw [HLen.out]; exact Nat.le_refl _)]
            clear hjl hmx
            cases hsm : xs.all (· == x0) with
            | false =>
              clear hsm
              go_wp2_with (fail)
              refine wp_region_held_drew (S := fun WW => Below w.heap.size w WW) (by kernel_rfl) ((K1.out.drewN _).2.drew) (fun hHeld => ?_)
              refine wpAnyH_take (i := 0) (v := ?_) rfl (by kernel_rfl) (by kernel_rfl) (by kernel_rfl) (fun _ _ _ h => h) (Or.inl ⟨by rfl, ?_⟩) (by assumption) ?_
              rotate_left
              · (intro w hSw; (try dsimp only at hSw); go_simp; try with_reducible rfl)
              try simp only [Act.put, List.getElem_toArray, List.getElem_cons_succ, List.getElem_cons_zero, List.setIfInBounds_toArray, List.set_cons_zero, List.set_cons_succ]
              refine wpAnyH_take (i := 1) (v := ?_) rfl (by kernel_rfl) (by kernel_rfl) (by kernel_rfl) (fun _ _ _ h => h) (Or.inl ⟨by rfl, ?_⟩) (by assumption) ?_
              rotate_left
              · (intro w hSw; (try dsimp only at hSw); go_simp; try with_reducible rfl)
              try simp only [Act.put, List.getElem_toArray, List.getElem_cons_succ, List.getElem_cons_zero, List.setIfInBounds_toArray, List.set_cons_zero, List.set_cons_succ]
              refine wpAnyH_take (i := 2) (v := ?_) rfl (by kernel_rfl) (by kernel_rfl) (by kernel_rfl) (fun _ _ _ h => h) (Or.inl ⟨by rfl, ?_⟩) (by assumption) ?_
              rotate_left
              · (intro w hSw; (try dsimp only at hSw); go_simp; try with_reducible rfl)
              try simp only [Act.put, List.getElem_toArray, List.getElem_cons_succ, List.getElem_cons_zero, List.setIfInBounds_toArray, List.set_cons_zero, List.set_cons_succ]
              refine wpAnyH_take (i := 3) (v := undef) rfl (by kernel_rfl) (by kernel_rfl) (by kernel_rfl) (fun _ _ _ h => h) (Or.inr ⟨by rfl, rfl⟩) (by assumption) ?_
              try simp only [Act.put, List.getElem_toArray, List.getElem_cons_succ, List.getElem_cons_zero, List.setIfInBounds_toArray, List.set_cons_zero, List.set_cons_succ]
              refine wpAnyH_take (i := 4) (v := undef) rfl (by kernel_rfl) (by kernel_rfl) (by kernel_rfl) (fun _ _ _ h => h) (Or.inr ⟨by rfl, rfl⟩) (by assumption) ?_
              try simp only [Act.put, List.getElem_toArray, List.getElem_cons_succ, List.getElem_cons_zero, List.setIfInBounds_toArray, List.set_cons_zero, List.set_cons_succ]
              refine wpAnyH_take (i := 5) (v := undef) rfl (by kernel_rfl) (by kernel_rfl) (by kernel_rfl) (fun _ _ _ h => h) (Or.inr ⟨by rfl, rfl⟩) (by assumption) ?_
              try simp only [Act.put, List.getElem_toArray, List.getElem_cons_succ, List.getElem_cons_zero, List.setIfInBounds_toArray, List.set_cons_zero, List.set_cons_succ]
              refine wpAnyH_take (i := 6) (v := undef) rfl (by kernel_rfl) (by kernel_rfl) (by kernel_rfl) (fun _ _ _ h => h) (Or.inr ⟨by rfl, rfl⟩) (by assumption) ?_
              try simp only [Act.put, List.getElem_toArray, List.getElem_cons_succ, List.getElem_cons_zero, List.setIfInBounds_toArray, List.set_cons_zero, List.set_cons_succ]
              refine wpAnyH_take (i := 7) (v := undef) rfl (by kernel_rfl) (by kernel_rfl) (by kernel_rfl) (fun _ _ _ h => h) (Or.inr ⟨by rfl, rfl⟩) (by assumption) ?_
              try simp only [Act.put, List.getElem_toArray, List.getElem_cons_succ, List.getElem_cons_zero, List.setIfInBounds_toArray, List.set_cons_zero, List.set_cons_succ]
              refine wpAnyH_take (i := 8) (v := undef) rfl (by kernel_rfl) (by kernel_rfl) (by kernel_rfl) (fun _ _ _ h => h) (Or.inr ⟨by rfl, rfl⟩) (by assumption) ?_
              try simp only [Act.put, List.getElem_toArray, List.getElem_cons_succ, List.getElem_cons_zero, List.setIfInBounds_toArray, List.set_cons_zero, List.set_cons_succ]
              refine wpAnyH_take (i := 9) (v := undef) rfl (by kernel_rfl) (by kernel_rfl) (by kernel_rfl) (fun _ _ _ h => h) (Or.inr ⟨by rfl, rfl⟩) (by assumption) ?_
              try simp only [Act.put, List.getElem_toArray, List.getElem_cons_succ, List.getElem_cons_zero, List.setIfInBounds_toArray, List.set_cons_zero, List.set_cons_succ]
              refine wpAnyH_take (i := 10) (v := undef) rfl (by kernel_rfl) (by kernel_rfl) (by kernel_rfl) (fun _ _ _ h => h) (Or.inr ⟨by rfl, rfl⟩) (by assumption) ?_
              try simp only [Act.put, List.getElem_toArray, List.getElem_cons_succ, List.getElem_cons_zero, List.setIfInBounds_toArray, List.set_cons_zero, List.set_cons_succ]
              refine wpAnyH_take (i := 11) (v := undef) rfl (by kernel_rfl) (by kernel_rfl) (by kernel_rfl) (fun _ _ _ h => h) (Or.inr ⟨by rfl, rfl⟩) (by assumption) ?_
              try simp only [Act.put, List.getElem_toArray, List.getElem_cons_succ, List.getElem_cons_zero, List.setIfInBounds_toArray, List.set_cons_zero, List.set_cons_succ]
              refine wpAnyH_take (i := 12) (v := undef) rfl (by kernel_rfl) (by kernel_rfl) (by kernel_rfl) (fun _ _ _ h => h) (Or.inr ⟨by rfl, rfl⟩) (by assumption) ?_
              try simp only [Act.put, List.getElem_toArray, List.getElem_cons_succ, List.getElem_cons_zero, List.setIfInBounds_toArray, List.set_cons_zero, List.set_cons_succ]
              refine wpAnyH_take (i := 13) (v := undef) rfl (by kernel_rfl) (by kernel_rfl) (by kernel_rfl) (fun _ _ _ h => h) (Or.inr ⟨by rfl, rfl⟩) (by assumption) ?_
              try simp only [Act.put, List.getElem_toArray, List.getElem_cons_succ, List.getElem_cons_zero, List.setIfInBounds_toArray, List.set_cons_zero, List.set_cons_succ]
              refine wpAnyH_take (i := 14) (v := undef) rfl (by kernel_rfl) (by kernel_rfl) (by kernel_rfl) (fun _ _ _ h => h) (Or.inr ⟨by rfl, rfl⟩) (by assumption) ?_
              try simp only [Act.put, List.getElem_toArray, List.getElem_cons_succ, List.getElem_cons_zero, List.setIfInBounds_toArray, List.set_cons_zero, List.set_cons_succ]
              refine wpAnyH_take (i := 15) (v := ?_) rfl (by kernel_rfl) (by kernel_rfl) (by kernel_rfl) (fun _ _ _ h => h) (Or.inl ⟨by rfl, ?_⟩) (by assumption) ?_
              rotate_left
              · (intro w hSw; (try dsimp only at hSw); go_simp; try with_reducible rfl)
              try simp only [Act.put, List.getElem_toArray, List.getElem_cons_succ, List.getElem_cons_zero, List.setIfInBounds_toArray, List.set_cons_zero, List.set_cons_succ]
              refine wpAnyH_take (i := 16) (v := ?_) rfl (by kernel_rfl) (by kernel_rfl) (by kernel_rfl) (fun _ _ _ h => h) (Or.inl ⟨by rfl, ?_⟩) (by assumption) ?_
              rotate_left
              · (intro w hSw; (try dsimp only at hSw); go_simp; try with_reducible rfl)
              try simp only [Act.put, List.getElem_toArray, List.getElem_cons_succ, List.getElem_cons_zero, List.setIfInBounds_toArray, List.set_cons_zero, List.set_cons_succ]
              refine wpAnyH_ready (rs := [17]) (by kernel_rfl) (by simp) ?_
              refine AllReadyH.cons rfl (fun K hK => ?_) AllReadyH.nil
              go_simp
              (go_at_call 12; with_reducible refine (lives_c _).mono ?_; rintro e w' ⟨rfl, hb⟩)
              refine hK.out _ _ ?_ (fun hHeld => ?_)
              · exact kbt (by assumption) hb
              clear hK K
              try simp only [Act.put, List.getElem_toArray, List.getElem_cons_succ, List.getElem_cons_zero, List.setIfInBounds_toArray, List.set_cons_zero, List.set_cons_succ]
              refine wpAnyH_take (i := 18) (v := ?_) rfl (by kernel_rfl) (by kernel_rfl) (by kernel_rfl) (fun _ _ _ h => h) (Or.inl ⟨by rfl, ?_⟩) (by assumption) ?_
              rotate_left
              · (intro w hSw; (try dsimp only at hSw); go_simp; try with_reducible rfl)
              try simp only [Act.put, List.getElem_toArray, List.getElem_cons_succ, List.getElem_cons_zero, List.setIfInBounds_toArray, List.set_cons_zero, List.set_cons_succ]
              refine wpAnyH_take (i := 19) (v := ?_) rfl (by kernel_rfl) (by kernel_rfl) (by kernel_rfl) (fun _ _ _ h => h) (Or.inl ⟨by rfl, ?_⟩) (by assumption) ?_
              rotate_left
              · (intro w hSw; (try dsimp only at hSw); go_simp; try with_reducible rfl)
              try simp only [Act.put, List.getElem_toArray, List.getElem_cons_succ, List.getElem_cons_zero, List.setIfInBounds_toArray, List.set_cons_zero, List.set_cons_succ]
              refine wpAnyH_done (by kernel_rfl) ?_ _
              go_wp2
              go_ret
              exact ⟨rfl, by assumption⟩
            | true =>
              obtain ⟨m1, m2⟩ := HSM.out (fun x hx => by simpa using List.all_eq_true.1 hsm x hx)
              have r1 : (FloatKind.f64.format.order (meanF xs j) (floatOfInt .f64 x0) == some .eq) = true := by rw [m1]; exact ord_self HNF.out
              have r2 : (FloatKind.f64.format.order (varF xs j) 0 == some .eq) = true := by rw [m2]; decide +kernel
              clear hsm m1 m2
              have EX : Hid (∀ WW, KV w w1.heap.size ⟨(j : Int), meanF xs j, varF xs j, least xs j, most xs j⟩ WW → (KV w w1.heap.size ⟨(j : Int), meanF xs j, varF xs j, least xs j, most xs j⟩ WW ∧ WW.cell? ⟨w1.heap.size, 1, none⟩ = some (.float .f64 (meanF xs j)) ∧ WW.cell? ⟨w1.heap.size, 2, none⟩ = some (.float .f64 (varF xs j)) ∧ WW.cell? ad = some (.int .i64 x0))) := Lib.hid (fun WW k => ⟨k, k.cells.2.1, k.cells.2.2.1, (k.2.cell (World.block_lt_of_cell? w _ HQ0.out)).trans HQ0.out⟩)
              go_wp2_with (fail)
              go_region_held3 (fun WW => KV w w1.heap.size ⟨(j : Int), meanF xs j, varF xs j, least xs j, most xs j⟩ WW ∧ WW.cell? ⟨w1.heap.size, 1, none⟩ = some (.float .f64 (meanF xs j)) ∧ WW.cell? ⟨w1.heap.size, 2, none⟩ = some (.float .f64 (varF xs j)) ∧ WW.cell? ad = some (.int .i64 x0)) (first | exact EX.out _ (KV.drewN (K1.out.drewN _) 1) | exact EX.out _ (KV.keep (And.left (by assumption)) hb) | exact EX.out _ (KV.keep (KV.drewN (K1.out.drewN _) 1) hb) | assumption) (first | (go_at_call 12; (with_reducible refine (lives_c _).mono ?_); rintro e w' ⟨rfl, hb⟩))
              go_wp2
              go_ret
              obtain ⟨h9, _, _, _⟩ := ‹KV w w1.heap.size _ _ ∧ _ ∧ _ ∧ _›
              exact ⟨rfl, h9.2⟩
end Go.Proofs.Ytmpjcjgdjimioaa.SBetw
