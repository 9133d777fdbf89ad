/- The document's Sum, Of; alike. -/
import Derived.Test.YtmpjcjgdjimioaaFin
import Derived.Test.YtmpjcjgdjimioaaLeft
import Derived.Test.YtmpjcjgdjimioaaSums
import Derived.Deep.RegionHeld3
import Derived.BigQuiet
import Derived.BigRegion
namespace Go.Proofs.Ytmpjcjgdjimioaa.RefOf
open Ieee Go.RowKit Go.Proofs.Ytmpjcjgdjimioaa.Aid Go.Proofs.Ytmpjcjgdjimioaa.Mem Go.Proofs.Ytmpjcjgdjimioaa.Nums Go.Proofs.Ytmpjcjgdjimioaa.Sums Go.Proofs.Ytmpjcjgdjimioaa.MinMax Go.Proofs.Ytmpjcjgdjimioaa.Keep Go.Proofs.Ytmpjcjgdjimioaa.Has Go.Proofs.Ytmpjcjgdjimioaa.Recs Go.Proofs.Ytmpjcjgdjimioaa.Of Go.Proofs.Ytmpjcjgdjimioaa.Fl Go.Proofs.Ytmpjcjgdjimioaa.Fin Go.Proofs.Ytmpjcjgdjimioaa.Twin
set_option linter.unusedSimpArgs false
set_option linter.unusedVariables false
set_option maxRecDepth 100000
theorem bits_run (x : Nat) (w : World) : (callFunc 37 #[.float .f64 x]).run Try.prog w = .ok (.value (.int .u64 (x : Int))) w := by
  have h := run_callFunc_extern (P := Try.prog) (f := 37) (e := Extern.MathFloatBits.float64bits) Try.func37 (by kernel_rfl) (by kernel_rfl) (by kernel_rfl) (by rfl) #[.float .f64 x] w
  rw [h]; rfl
theorem refNumber_c (x : Int) (w : World) : Calls Try.prog 35 #[.int .i64 x] w fun e w' => e = .returned (.bool (isN x)) ∧ w = w' := by
  by_cases h1 : -4611686018427387903 ≤ x
  · by_cases h2 : x ≤ 4611686018427387903
    · go_enter Try.func35, Try.ntmps35
      go_wp2
      go_ret
      exact ⟨by rw [isN_t ⟨h1, h2⟩]; rfl, rfl⟩
    · go_enter Try.func35, Try.ntmps35
      go_wp2
      go_ret
      exact ⟨by rw [isN_f (by omega)]; rfl, rfl⟩
  · have h1' : x < -4611686018427387903 := by omega
    go_enter Try.func35, Try.ntmps35
    go_wp2
    go_ret
    exact ⟨by rw [isN_f (by omega)]; rfl, rfl⟩
theorem td_tm (x : Int) : Int.tdiv x 2147483648 * 2147483648 + Int.tmod x 2147483648 = x := by
  have := Int.mul_tdiv_add_tmod x 2147483648
  omega
theorem tm_b (x : Int) : -2147483648 < Int.tmod x 2147483648 ∧ Int.tmod x 2147483648 < 2147483648 := by
  have h1 := Int.tmod_lt_of_pos x (b := 2147483648) (by decide)
  have h2 := Int.lt_tmod_of_pos x (b := 2147483648) (by decide)
  omega
theorem refSum_c (xs : List Int) (A : Option Addr) (n c : Nat) (w : World) (h : Ints w .i64 A n xs) (hn : n ≤ 1048576) (ha : xs.all isN = true) :
    Calls Try.prog 36 #[.slice A n c] w fun e w' => (∃ v, e = .returned (.tuple #[.int .i64 v, .bool (isN (tot xs))]) ∧ (isN (tot xs) = true → v = tot xs)) ∧ w = w' := by
  have H := Lib.hid h
  have HA := Lib.hid ha
  clear h ha
  go_enter Try.func36, Try.ntmps36
  go_wp2_with (fail)
  go_loop [4, 5, 6] (fun a b i => ∃ (k : Nat) (hi lo : Int), k ≤ n ∧ i = .int .i64 k ∧ a = .int .i64 hi ∧ b = .int .i64 lo ∧ Hid (hi * 2147483648 + lo = tot (xs.take k)) ∧ -(k * 2147483648 : Int) ≤ lo ∧ lo ≤ k * 2147483648 ∧ -(k * 2147483648 : Int) ≤ hi ∧ hi ≤ k * 2147483648) (fun _ _ i => n - (intOf i).toNat)
  case atStart => exact ⟨0, 0, 0, Nat.zero_le _, rfl, rfl, rfl, by show _ = _; simp [tot], by omega, by omega, by omega, by omega⟩
  case round =>
    obtain ⟨k, hi, lo, hk, rfl, rfl, rfl, HW, l0, l1, i0, i1⟩ := hrel
    by_cases hlt : k < n
    · obtain ⟨ad, x, rfl, hx, hc⟩ := H.out.at_ hlt
      have HX := Lib.hid hx
      have hnx : isN x = true := List.all_eq_true.1 HA.out x (List.mem_of_getElem? hx)
      have hb := isN_of hnx
      have m := tm_b x
      have t := td_tm x
      have HD : Hid ((hi + Int.tdiv x 2147483648) * 2147483648 + (lo + Int.tmod x 2147483648) = tot (xs.take (k + 1))) := Lib.hid (by rw [tot_snoc xs k x hx]; have := HW.out; omega)
      clear hx hnx
      go_wp2
      go_round
      case rel => exact ⟨k + 1, _, _, by omega, by go_num, rfl, rfl, HD, by push_cast; omega, by push_cast; omega, by push_cast; omega, by push_cast; omega⟩
      case measure => simp [intOf]; omega
    · obtain rfl : k = n := by omega
      have ht : xs.take k = xs := List.take_of_length_le (by have := H.out.1; omega)
      rw [ht] at HW
      have m := tm_b lo
      have t := td_tm lo
      have htot : (hi + Int.tdiv lo 2147483648) * 2147483648 + Int.tmod lo 2147483648 = tot xs := by have := HW.out; omega
      clear ht
      by_cases hr : hi + Int.tdiv lo 2147483648 < -2147483648
      · have E1 : Hid (isN (tot xs) = false) := Lib.hid (isN_f (by omega))
        clear htot
        go_wp2
        go_ret2
        exact ⟨⟨0, by rw [E1.out]; rfl, fun h => absurd (E1.out.symm.trans h) (by decide)⟩, rfl⟩
      · by_cases hr2 : 2147483648 < hi + Int.tdiv lo 2147483648
        · have E1 : Hid (isN (tot xs) = false) := Lib.hid (isN_f (by omega))
          clear htot
          go_wp2
          go_ret2
          exact ⟨⟨0, by rw [E1.out]; rfl, fun h => absurd (E1.out.symm.trans h) (by decide)⟩, rfl⟩
        · have HT := Lib.hid htot
          have RN := refNumber_c ((hi + Int.tdiv lo 2147483648) * 2147483648 + Int.tmod lo 2147483648) w
          rw [htot] at RN
          have HRN := Lib.hid RN
          obtain ⟨T, hT⟩ : ∃ T, T = tot xs := ⟨_, rfl⟩
          clear htot RN
          go_wp2_with (first | (go_at_call 35; rw [HT.out]; (with_reducible refine (HRN.out).mono ?_); rintro e w' ⟨rfl, rfl⟩))
          go_ret2
          exact ⟨⟨_, rfl, fun _ => rfl⟩, rfl⟩
theorem L_next {xs : List Int} {k : Nat} {x : Int} (h : xs[k]? = some x) : least xs (k + 1) = min (least xs (max k 1)) x := by
  cases k with
  | zero => rw [show max 0 1 = 1 from rfl, least_one h]; omega
  | succ k => rw [show max (k + 1) 1 = k + 1 by omega]; exact least_next (by omega) h
theorem M_next {xs : List Int} {k : Nat} {x : Int} (h : xs[k]? = some x) : most xs (k + 1) = max (most xs (max k 1)) x := by
  cases k with
  | zero => rw [show max 0 1 = 1 from rfl, most_one h]; omega
  | succ k => rw [show max (k + 1) 1 = k + 1 by omega]; exact most_next (by omega) h
theorem L_le_M (xs : List Int) : ∀ k, 1 ≤ k → least xs k ≤ most xs k
  | 1, _ => Int.le_refl _
  | k + 2, _ => by
    have := L_le_M xs (k + 1) (by omega)
    show min (least xs (k + 1)) _ ≤ max (most xs (k + 1)) _
    omega
theorem num_r (x : Int) (w : World) (b : Bool) (h : isN x = b) : Calls Try.prog 35 #[.int .i64 x] w fun e w' => e = .returned (.bool b) ∧ w = w' := by
  have := refNumber_c x w
  rwa [h] at this
theorem sum_r (xs : List Int) (A : Option Addr) (n c : Nat) (w : World) (h : Ints w .i64 A n xs) (hn : n ≤ 1048576) (ha : xs.all isN = true) (b : Bool) (hb : isN (tot xs) = b) :
    Calls Try.prog 36 #[.slice A n c] w fun e w' => (∃ v, e = .returned (.tuple #[.int .i64 v, .bool b]) ∧ (b = true → v = tot xs)) ∧ w = w' := by
  have := refSum_c xs A n c w h hn ha
  rwa [hb] at this
/-- The boxes of the document's Of: its result, and the summary. -/
def KO (w : World) (a b c d e : Value) (W : World) : Prop := Has w [(w.heap.size + 1, 25, lS a b c d e), (w.heap.size, 25, lS (.int .i64 0) (.float .f64 0) (.float .f64 0) (.int .i64 0) (.int .i64 0))] W
theorem KO.start (w : World) (a b c d e : Value) : KO w a b c d e ((w.alloc (.cells #[.int .i64 0, .float .f64 0, .float .f64 0, .int .i64 0, .int .i64 0] 25)).alloc (.cells #[a, b, c, d, e] 25)) := by
  have h := ((Has.nil w).new 25 (lS (.int .i64 0) (.float .f64 0) (.float .f64 0) (.int .i64 0) (.int .i64 0))).new 25 (lS a b c d e)
  rw [size_alloc] at h
  exact h
section
variable {w W W' : World} {a b c d e : Value}
theorem KO.put3 (h : KO w a b c d e W) (x : Value) : KO w a b c x e (W.setCell ⟨w.heap.size + 1, 3, none⟩ x) := by
  refine ⟨fun y hy => ?_, h.2.setCell (by show w.heap.size ≤ w.heap.size + 1; omega) _⟩
  simp only [List.mem_cons, List.not_mem_nil, or_false] at hy
  rcases hy with rfl | rfl
  · exact (h.1 _ List.mem_cons_self).put 3 x
  · exact (h.1 _ (List.mem_cons_of_mem _ List.mem_cons_self)).far (p := ⟨w.heap.size + 1, 3, none⟩) (by show w.heap.size ≠ w.heap.size + 1; omega) _
theorem KO.put4 (h : KO w a b c d e W) (x : Value) : KO w a b c d x (W.setCell ⟨w.heap.size + 1, 4, none⟩ x) := by
  refine ⟨fun y hy => ?_, h.2.setCell (by show w.heap.size ≤ w.heap.size + 1; omega) _⟩
  simp only [List.mem_cons, List.not_mem_nil, or_false] at hy
  rcases hy with rfl | rfl
  · exact (h.1 _ List.mem_cons_self).put 4 x
  · exact (h.1 _ (List.mem_cons_of_mem _ List.mem_cons_self)).far (p := ⟨w.heap.size + 1, 4, none⟩) (by show w.heap.size ≠ w.heap.size + 1; omega) _
theorem KO.put2 (h : KO w a b c d e W) (x : Value) : KO w a b x d e (W.setCell ⟨w.heap.size + 1, 2, none⟩ x) := by
  refine ⟨fun y hy => ?_, h.2.setCell (by show w.heap.size ≤ w.heap.size + 1; omega) _⟩
  simp only [List.mem_cons, List.not_mem_nil, or_false] at hy
  rcases hy with rfl | rfl
  · exact (h.1 _ List.mem_cons_self).put 2 x
  · exact (h.1 _ (List.mem_cons_of_mem _ List.mem_cons_self)).far (p := ⟨w.heap.size + 1, 2, none⟩) (by show w.heap.size ≠ w.heap.size + 1; omega) _
theorem KO.put1 (h : KO w a b c d e W) (x : Value) : KO w a x c d e (W.setCell ⟨w.heap.size + 1, 1, none⟩ x) := by
  refine ⟨fun y hy => ?_, h.2.setCell (by show w.heap.size ≤ w.heap.size + 1; omega) _⟩
  simp only [List.mem_cons, List.not_mem_nil, or_false] at hy
  rcases hy with rfl | rfl
  · exact (h.1 _ List.mem_cons_self).put 1 x
  · exact (h.1 _ (List.mem_cons_of_mem _ List.mem_cons_self)).far (p := ⟨w.heap.size + 1, 1, none⟩) (by show w.heap.size ≠ w.heap.size + 1; omega) _
theorem KO.fill (h : KO w a b c d e W) (a' b' c' d' e' : Value) (ha : a'.oneCell' = true) (hb : b'.oneCell' = true) (hc : c'.oneCell' = true) (hd : d'.oneCell' = true) (he : e'.oneCell' = true) :
    ∃ w', (SA 25 (.pointer (some ⟨w.heap.size + 1, 0, none⟩)) (.agg #[a', b', c', d', e'])).run Try.prog W = .ok () w' ∧ KO w a' b' c' d' e' w' := by
  have h0 : Blk W (w.heap.size + 1) 25 (lS a b c d e) := h.1 _ List.mem_cons_self
  refine ⟨_, stores_mid (cs := [a', b', c', d', e']) h0 (by simp) (by show _ = some 5; kernel_rfl) (by intro v hv; simp only [List.mem_cons, List.not_mem_nil, or_false] at hv; rcases hv with rfl | rfl | rfl | rfl | rfl <;> assumption), fun y hy => ?_, below_sets (by omega) _ _ _ h.2⟩
  simp only [List.mem_cons, List.not_mem_nil, or_false] at hy
  rcases hy with rfl | rfl
  · have := Blk.puts [a', b', c', d', e'] 0 _ _ h0 (by simp)
    simpa using this
  · exact Blk.fars (by simp) _ _ _ (h.1 _ (List.mem_cons_of_mem _ List.mem_cons_self))
theorem KO.cell (h : KO w a b c d e W) (i : Nat) : W.cell? ⟨w.heap.size + 1, i, none⟩ = (lS a b c d e)[i]? := Has.cell h List.mem_cons_self i
theorem KO.free (h : KO w a b c d e W) (i : Nat) : W.frozen? ⟨w.heap.size + 1, i, none⟩ = false := Has.free h List.mem_cons_self i
theorem KO.drew (h : KO w a b c d e W) : KO w a b c d e W.drew := Has.drew h
theorem KO.load (h : KO w a b c d e W) : (LA 25 (.pointer (some ⟨w.heap.size + 1, 0, none⟩))).run Try.prog W = .ok (.agg #[a, b, c, d, e]) W :=
  Has.load (t' := 25) (l := [a, b, c, d, e]) (s := []) h Try.underlying25 rfl (by show _ = some 5; kernel_rfl) List.mem_cons_self
/-- The result's box takes the summary. -/
theorem KO.ret (h : KO w a b c d e W) (ha : a.oneCell' = true) (hb : b.oneCell' = true) (hc : c.oneCell' = true) (hd : d.oneCell' = true) (he : e.oneCell' = true) :
    ∃ w', (SA 25 (.pointer (some ⟨w.heap.size, 0, none⟩)) (.agg #[a, b, c, d, e])).run Try.prog W = .ok () w' ∧ Blk w' w.heap.size 25 (lS a b c d e) ∧ Below w.heap.size w w' := by
  have h0 : Blk W w.heap.size 25 (lS (.int .i64 0) (.float .f64 0) (.float .f64 0) (.int .i64 0) (.int .i64 0)) := h.1 _ (List.mem_cons_of_mem _ List.mem_cons_self)
  refine ⟨_, stores_mid (cs := [a, b, c, d, e]) h0 (by simp) (by show _ = some 5; kernel_rfl) (by intro v hv; simp only [List.mem_cons, List.not_mem_nil, or_false] at hv; rcases hv with rfl | rfl | rfl | rfl | rfl <;> assumption), ?_, below_sets (Nat.le_refl _) _ _ _ h.2⟩
  have := Blk.puts [a, b, c, d, e] 0 _ _ h0 (by simp)
  simpa using this
end
theorem Dr.KO {w W : World} {a b c d e : Value} (h : KO w a b c d e W) (n : Nat) : RefOf.KO w a b c d e (W.drewN n) := ⟨fun x hx => (h.1 x hx).drewN n, below_drewN h.2 n⟩
attribute [local go_sem ↓] store_sum load_sum
attribute [local go_sem] size_sets Of.run_store_float
set_option maxHeartbeats 4000000 in
theorem refOf_c (xs : List Int) (A : Option Addr) (n c : Nat) (w : World) (h : Ints w .i64 A n xs) (hn : n ≤ 1048576) :
    Calls Try.prog 15 #[.slice A n c] w fun e w' => e = .returned (.tuple #[.agg (ofA xs n), .int .i64 (ofE xs)]) ∧ Below w.heap.size w w' := by
  have H := Lib.hid h
  have HL : Hid (xs.length = n) := Lib.hid h.1
  have HD := Lib.hid (of_hd h.1 (by omega))
  have HZ : Hid (Has w [(w.heap.size, 25, lS (.int .i64 0) (.float .f64 0) (.float .f64 0) (.int .i64 0) (.int .i64 0))] (w.alloc (.cells #[.int .i64 0, .float .f64 0, .float .f64 0, .int .i64 0, .int .i64 0] 25))) := Lib.hid (Has.new (Has.nil w) _ _)
  obtain ⟨wz, fz, zs, KZ⟩ := sum_store HZ.out (Nat.le_refl _) rfl (by simp) (.int .i64 0) (.float .f64 0) (.float .f64 0) (.int .i64 0) (.int .i64 0) rfl rfl rfl rfl rfl
  have KZ := Lib.hid KZ
  have H1 := Lib.hid (h.keep (alloc_below w (.cells #[.int .i64 0, .float .f64 0, .float .f64 0, .int .i64 0, .int .i64 0] 25)))
  clear h zs
  go_enter Try.func15, Try.ntmps15
  go_wp2_with (fail)
  go_loop [4] (fun i => ∃ (k : Nat), k ≤ n ∧ i = .int .i64 k ∧ Hid ((xs.take k).all isN = true)) (fun i => n - (intOf i).toNat)
  case atStart => exact ⟨0, Nat.zero_le _, rfl, Lib.hid (by simp)⟩
  case round =>
    obtain ⟨k, hk, rfl, HA⟩ := hrel
    by_cases hlt : k < n
    · obtain ⟨ad, x, rfl, hx, hc⟩ := H1.out.at_ hlt
      cases hxN : isN x with
      | true =>
        have HN := Lib.hid (all_snoc hx HA.out hxN)
        have HXN := Lib.hid hxN
        clear hx hxN fz
        go_wp2_with (first | (go_at_call 35; (with_reducible refine (num_r x _ true HXN.out).mono ?_); rintro e w' ⟨rfl, rfl⟩))
        go_round
        case rel => exact ⟨k + 1, by omega, by go_num, HN⟩
        case measure => simp [intOf]; omega
      | false =>
        have HE := Lib.hid (ofE_arg hx hxN)
        have HF := Lib.hid (ofA_e (n := n) (by rw [HE.out]; decide))
        have HXN := Lib.hid hxN
        clear hx hxN
        go_wp2_with (first | (go_at_call 35; (with_reducible refine (num_r x _ false HXN.out).mono ?_); rintro e w' ⟨rfl, rfl⟩))
        exact bodyPost_ret (res_sum rfl _ _ w.heap.size (lS (.int .i64 0) (.float .f64 0) (.float .f64 0) (.int .i64 0) (.int .i64 0)) _ rfl rfl (KZ.out.1 _ List.mem_cons_self) rfl) rfl ⟨by rw [HE.out, HF.out]; rfl, KZ.out.2⟩
    · obtain rfl : k = n := by omega
      have ht : xs.take k = xs := List.take_of_length_le (by have := HL.out; omega)
      rw [ht] at HA
      clear ht hlt
      cases hT : isN (tot xs) with
      | false =>
        have HE := Lib.hid (ofE_size HA.out hT)
        have HF := Lib.hid (ofA_e (n := k) (by rw [HE.out]; decide))
        have HT := Lib.hid hT
        clear hT
        go_wp2_with (first | (go_at_call 36; (with_reducible refine (sum_r xs A k c _ H1.out hn HA.out false HT.out).mono ?_); (rintro e w1 ⟨⟨v, rfl, _⟩, rfl⟩)))
        exact bodyPost_ret (res_sum rfl _ _ w.heap.size (lS (.int .i64 0) (.float .f64 0) (.float .f64 0) (.int .i64 0) (.int .i64 0)) _ rfl rfl (KZ.out.1 _ List.mem_cons_self) rfl) rfl ⟨by rw [HE.out, HF.out]; rfl, KZ.out.2⟩
      | true =>
        have HE := Lib.hid (ofE_ok HA.out hT)
        have HT := Lib.hid hT
        clear hT
        by_cases hp : k = 0
        · have HF : Hid (ofA xs k = zS) := Lib.hid (by unfold ofA; rw [if_neg (by omega)])
          have p1 : k ≤ 0 := by omega
          clear hp
          go_wp2_with (first | (go_at_call 36; (with_reducible refine (sum_r xs A k c _ H1.out hn HA.out true HT.out).mono ?_); (rintro e w1 ⟨⟨v, rfl, hv⟩, rfl⟩; clear hv)))
          exact bodyPost_ret (res_sum rfl _ _ w.heap.size (lS (.int .i64 0) (.float .f64 0) (.float .f64 0) (.int .i64 0) (.int .i64 0)) _ rfl rfl (KZ.out.1 _ List.mem_cons_self) rfl) rfl ⟨by rw [HE.out, HF.out]; rfl, KZ.out.2⟩
        · have hp0 : 0 < k := by omega
          have HF := Lib.hid (ofA_ok HE.out hp0)
          have HDD := Lib.hid (HD.out HE.out hp0)
          have fq : ∀ t W, (binOp .quo t (.float .f64 (floatOfInt .f64 (tot xs))) (.float .f64 (floatOfInt .f64 (k : Int)))).run Try.prog W = .ok (.float .f64 (meanF xs k)) W := fo_run HDD.out.mean
          have fv : ∀ t W, (binOp .quo t (.float .f64 (vsF xs (meanF xs k) k)) (.float .f64 (floatOfInt .f64 (k : Int)))).run Try.prog W = .ok (.float .f64 (varF xs k)) W := fo_run HDD.out.var
          obtain ⟨ad0, x0, hA0, hx0, hc0⟩ := H1.out.at_ hp0
          subst hA0
          have q0 : (w.alloc (.cells #[.int .i64 0, .float .f64 0, .float .f64 0, .int .i64 0, .int .i64 0] 25)).cell? ad0 = some (.int .i64 x0) := by simpa [Addr.add] using hc0
          have q1 : ((w.alloc (.cells #[.int .i64 0, .float .f64 0, .float .f64 0, .int .i64 0, .int .i64 0] 25)).alloc (.cells #[.int .i64 0, .float .f64 0, .float .f64 0, .int .i64 0, .int .i64 0] 25)).cell? ad0 = some (.int .i64 x0) := ((alloc_below _ _).cell (World.block_lt_of_cell? _ _ q0)).trans q0
          obtain ⟨w2, f2w, k2⟩ := KO.fill (KO.drew (KO.start w (.int .i64 0) (.float .f64 0) (.float .f64 0) (.int .i64 0) (.int .i64 0))) (.int .i64 k) (.float .f64 0) (.float .f64 0) (.int .i64 x0) (.int .i64 x0) rfl rfl rfl rfl rfl
          have K2 := Lib.hid (k2.put1 (.float .f64 (meanF xs k)))
          have c1 := k2.cell 1
          have c1f := k2.free 1
          simp only [List.getElem?_cons_zero, List.getElem?_cons_succ] at c1
          have e1 := Lib.hid (least_one hx0)
          have e2 := Lib.hid (most_one hx0)
          have hk0 : ((k : Int) == 0) = false := by simp; omega
          clear hp hc0 hx0 k2
          go_wp2_with (first | (go_at_call 36; (with_reducible refine (sum_r xs _ k c _ H1.out hn HA.out true HT.out).mono ?_); (rintro e w1 ⟨⟨v, rfl, hv⟩, rfl⟩; obtain rfl := hv rfl)))
          go_region
          go_wp2
          go_loopw [9, 10, 11] (fun v i d wr => ∃ j : Nat, j ≤ k ∧ i = .int .i64 j ∧ v = .float .f64 (vsF xs (meanF xs k) j) ∧ Hid (KO w (.int .i64 k) (.float .f64 (meanF xs k)) (.float .f64 0) (.int .i64 (least xs (max j 1))) (.int .i64 (most xs (max j 1))) wr)) (fun _ i _ _ => k - (intOf i).toNat)
          case atStart => exact ⟨0, Nat.zero_le _, rfl, rfl, Lib.hid (by rw [show max 0 1 = 1 from rfl, e1.out, e2.out]; exact K2.out)⟩
          case round =>
            obtain ⟨j, hj, rfl, rfl, K⟩ := hrel
            by_cases hjk : j < k
            · obtain ⟨ad, x, hA, hx, hcw⟩ := H.out.at_ hjk
              cases hA
              have hlt0 := World.block_lt_of_cell? w _ hcw
              have hc := (K.out.2.cell hlt0).trans hcw
              have o1 : ∀ t W, (binOp .sub t (.float .f64 (floatOfInt .f64 x)) (.float .f64 (meanF xs k))).run Try.prog W = .ok (.float .f64 (fo .sub (fi x) (meanF xs k))) W := fo_run (HDD.out.sub j x hx)
              have o2 := fo_run (HDD.out.mul j x hx)
              have o3 := fo_run (HDD.out.add j x hx)
              have HV : Hid (vsF xs (meanF xs k) (j + 1) = fo .add (vsF xs (meanF xs k) j) (fo .mul (fo .sub (fi x) (meanF xs k)) (fo .sub (fi x) (meanF xs k)))) := Lib.hid (by rw [vsF, hx]; rfl)
              have HLN := Lib.hid (L_next hx)
              have HMN := Lib.hid (M_next hx)
              have c3 := K.out.cell 3
              have c4 := K.out.cell 4
              have c5 := K.out.cell 1
              have f3 := K.out.free 3
              have f4 := K.out.free 4
              simp only [List.getElem?_cons_zero, List.getElem?_cons_succ] at c3 c4 c5
              obtain ⟨L, hL⟩ : ∃ L, L = least xs (max j 1) := ⟨_, rfl⟩
              obtain ⟨M, hM⟩ : ∃ M, M = most xs (max j 1) := ⟨_, rfl⟩
              have hLM : L ≤ M := by rw [hL, hM]; exact L_le_M xs _ (by omega)
              rw [← hL] at HLN c3 K
              rw [← hM] at HMN c4 K
              clear hx c1 c1f hL hM f2w q0 q1
              by_cases l1 : x < L
              · have l2 : x ≤ M := by omega
                have K3 : Hid (∀ m : Nat, KO w _ _ _ _ _ ((wr.drewN m).setCell ⟨w.heap.size + 1, 3, none⟩ (.int .i64 x))) := Lib.hid (fun m => (Dr.KO K.out m).put3 (.int .i64 x))
                have d1 := fun m : Nat => ((K3.out m).2.cell hlt0).trans hcw
                have d4 := fun m : Nat => (K3.out m).cell 4
                have d5 := fun m : Nat => (K3.out m).cell 1
                simp only [List.getElem?_cons_zero, List.getElem?_cons_succ] at d4 d5
                clear hcw hlt0
                go_wp2_with (fail)
                go_quiet (fail)
                go_wp2_with (fail)
                go_quiet (fail)
                go_wp2_with (fail)
                go_quiet (fail)
                go_wp2_with (fail)
                go_roundw
                case rel => exact ⟨j + 1, by omega, by go_num, by rw [HV.out], Lib.hid (by rw [show max (j + 1) 1 = j + 1 by omega, HLN.out, HMN.out, Int.min_eq_right (by omega), Int.max_eq_left (by omega)]; exact Dr.KO (K3.out _) _)⟩
                case measure => simp [intOf]; omega
              · by_cases l2 : M < x
                · have K3 : Hid (∀ m : Nat, KO w _ _ _ _ _ ((wr.drewN m).setCell ⟨w.heap.size + 1, 4, none⟩ (.int .i64 x))) := Lib.hid (fun m => (Dr.KO K.out m).put4 (.int .i64 x))
                  have d1 := fun m : Nat => ((K3.out m).2.cell hlt0).trans hcw
                  have d4 := fun m : Nat => (K3.out m).cell 3
                  have d5 := fun m : Nat => (K3.out m).cell 1
                  simp only [List.getElem?_cons_zero, List.getElem?_cons_succ] at d4 d5
                  clear hcw hlt0
                  go_wp2_with (fail)
                  go_quiet (fail)
                  go_wp2_with (fail)
                  go_quiet (fail)
                  go_wp2_with (fail)
                  go_quiet (fail)
                  go_wp2_with (fail)
                  go_roundw
                  case rel => exact ⟨j + 1, by omega, by go_num, by rw [HV.out], Lib.hid (by rw [show max (j + 1) 1 = j + 1 by omega, HLN.out, HMN.out, Int.min_eq_left (by omega), Int.max_eq_right (by omega)]; exact Dr.KO (K3.out _) _)⟩
                  case measure => simp [intOf]; omega
                · clear hcw hlt0
                  go_wp2_with (fail)
                  go_quiet (fail)
                  go_wp2_with (fail)
                  go_quiet (fail)
                  go_wp2_with (fail)
                  go_quiet (fail)
                  go_wp2_with (fail)
                  go_roundw
                  case rel => exact ⟨j + 1, by omega, by go_num, by rw [HV.out], Lib.hid (by rw [show max (j + 1) 1 = j + 1 by omega, HLN.out, HMN.out, Int.min_eq_left (by omega), Int.max_eq_left (by omega)]; exact Dr.KO K.out _)⟩
                  case measure => simp [intOf]; omega
            · obtain rfl : j = k := by omega
              have hmx : max j 1 = j := by omega
              rw [hmx] at K
              have K4 := Lib.hid (K.out.put2 (.float .f64 (varF xs j)))
              have c2 := K.out.cell 2
              have f2 := K.out.free 2
              simp only [List.getElem?_cons_zero, List.getElem?_cons_succ] at c2
              have LD := K4.out.load
              obtain ⟨w9, s9, b9, h9⟩ := K4.out.ret rfl rfl rfl rfl rfl
              clear hjk hmx c1 c1f f2w q0 q1 hp0
              go_wp2
              exact bodyPost_ret (res_sum rfl _ _ w.heap.size (lS (.int .i64 j) (.float .f64 (meanF xs j)) (.float .f64 (varF xs j)) (.int .i64 (least xs j)) (.int .i64 (most xs j))) _ rfl rfl b9 rfl) rfl ⟨by rw [HE.out, HF.out]; rfl, h9⟩
end Go.Proofs.Ytmpjcjgdjimioaa.RefOf
