/- WindowDoubles: calm, far; the whole list. -/
import Derived.Test.YthcjkdmlaahpbaaDoublesR
import Derived.Test.YthcjkdmlaahpbaaBehind
namespace Go.Proofs.Ythcjkdmlaahpbaa.Moves
open Go.RowKit Go.Proofs.Ythcjkdmlaahpbaa.Aid Go.Proofs.Ythcjkdmlaahpbaa.Fl Go.Proofs.Ythcjkdmlaahpbaa.Mem Go.Proofs.Ythcjkdmlaahpbaa.Keep Go.Proofs.Ythcjkdmlaahpbaa.Round Go.Proofs.Ythcjkdmlaahpbaa.Smooth Go.Proofs.Ythcjkdmlaahpbaa.Added Go.Proofs.Ythcjkdmlaahpbaa.Smooths
open Ieee (double Toward Format)
set_option linter.unusedSimpArgs false
set_option linter.unusedVariables false
set_option maxRecDepth 100000
def oE (x y : Nat) : Bool := FloatKind.f64.format.order x y == some .eq
def oL (x y : Nat) : Bool := FloatKind.f64.format.order x y == some .lt
def oG (x y : Nat) : Bool := FloatKind.f64.format.order x y == some .gt
def calmB (x : Nat) : Bool := oE x 0 || (oG x 3110860544497550640 && oL x 6103021453049119613) || (oL x 12334232581352326448 && oG x 15326393489903895421)
theorem calm_c (x : Nat) (W : World) : Calls Try.prog 23 #[.float .f64 x] W fun e w' => e = .returned (.bool (calmB x)) ∧ W = w' := by
  unfold calmB
  cases h1 : oE x 0 <;> cases h2 : oG x 3110860544497550640 <;> cases h3 : oL x 6103021453049119613 <;> cases h4 : oL x 12334232581352326448 <;> cases h5 : oG x 15326393489903895421 <;>
    (have h1' : (FloatKind.f64.format.order x 0 == some .eq) = _ := h1
     have h2' : (FloatKind.f64.format.order x 3110860544497550640 == some .gt) = _ := h2
     have h3' : (FloatKind.f64.format.order x 6103021453049119613 == some .lt) = _ := h3
     have h4' : (FloatKind.f64.format.order x 12334232581352326448 == some .lt) = _ := h4
     have h5' : (FloatKind.f64.format.order x 15326393489903895421 == some .gt) = _ := h5
     clear h1 h2 h3 h4 h5
     go_enter Try.func23, Try.ntmps23
     go_wp2
     go_ret
     exact ⟨rfl, rfl⟩)
theorem calm_v (x : Nat) (b : Bool) (W : World) (h : Hid (calmB x = b)) : Calls Try.prog 23 #[.float .f64 x] W fun e w' => e = .returned (.bool b) ∧ W = w' := by
  obtain rfl := h.out
  exact calm_c x W
theorem word_big (r : Nat) (h : r < 9223372036854775808) : double.word true r = 9223372036854775808 + r := word_t r
theorem K5 : P2 409 ≤ V 3110860544497550640 ∧ P2 409 ≤ V 1614679632300144556 := by decide +kernel
theorem nan_ord {x : Nat} (hx : x < 18446744073709551616) {y : Nat} {o : Ordering} (h : (FloatKind.f64.format.order x y == some o) = true) : ∃ g q, x = double.word g q ∧ q ≤ 9218868437227405312 := by
  obtain ⟨g, q, rfl, hq⟩ := word_of x hx
  refine ⟨g, q, rfl, Nat.le_of_not_lt fun hn => ?_⟩
  have e : FloatKind.f64.format.order (double.word g q) y = none := ord_nan g q y hn hq
  rw [e] at h
  cases h
theorem sv_pos_of {g : Bool} {q p : Nat} (h : (V p : Int) < sv g q) : g = false ∧ p < q := by
  cases g
  · rw [sv_f] at h
    exact ⟨rfl, V_lt_iff.1 (by omega)⟩
  · rw [sv_t] at h; omega
theorem sv_neg_of {g : Bool} {q p : Nat} (h : sv g q < -(V p : Int)) : g = true ∧ p < q := by
  cases g
  · rw [sv_f] at h; omega
  · rw [sv_t] at h
    exact ⟨rfl, V_lt_iff.1 (by omega)⟩
theorem calm_of {x : Nat} (hx : x < 18446744073709551616) (h : calmB x = true) : Calm x := by
  unfold calmB at h
  rw [Bool.or_eq_true, Bool.or_eq_true, Bool.and_eq_true, Bool.and_eq_true] at h
  have w0 : (0 : Nat) = double.word false 0 := (word_f 0).symm
  have w1 : (3110860544497550640 : Nat) = double.word false 3110860544497550640 := (word_f _).symm
  have w2 : (6103021453049119613 : Nat) = double.word false 6103021453049119613 := (word_f _).symm
  have w3 : (12334232581352326448 : Nat) = double.word true 3110860544497550640 := by rw [word_t]
  have w4 : (15326393489903895421 : Nat) = double.word true 6103021453049119613 := by rw [word_t]
  rcases h with (h | ⟨h1, h2⟩) | ⟨h1, h2⟩
  · obtain ⟨g, q, rfl, hq⟩ := nan_ord hx h
    have e : FloatKind.f64.format.order (double.word g q) (double.word false 0) = _ := ord g false q 0 hq (by decide)
    unfold oE at h
    rw [← word_f 0, e] at h
    by_cases c1 : sv g q < sv false 0
    · rw [if_pos c1] at h; cases h
    · rw [if_neg c1] at h
      by_cases c2 : sv g q = sv false 0
      · rw [sv_zero] at c2
        have hv : V q = 0 := by have := sv_abs g q; omega
        have : q = 0 := V_inj (hv.trans V_zero.symm)
        exact ⟨g, q, rfl, by omega, .inl hv⟩
      · rw [if_neg c2] at h; cases h
  · obtain ⟨g, q, rfl, hq⟩ := nan_ord hx h1
    unfold oG at h1
    unfold oL at h2
    rw [w1, c_gt hq (by decide)] at h1
    rw [w2, c_lt hq (by decide)] at h2
    have h1 := of_decide_eq_true h1
    have h2 := of_decide_eq_true h2
    rw [sv_f] at h1 h2
    obtain ⟨rfl, hp⟩ := sv_pos_of h1
    rw [sv_f] at h2
    have : q < 6103021453049119613 := V_lt_iff.1 (by omega)
    exact ⟨false, q, rfl, by omega, .inr (Nat.le_trans K5.1 (V_le (by omega)))⟩
  · obtain ⟨g, q, rfl, hq⟩ := nan_ord hx h1
    unfold oL at h1
    unfold oG at h2
    rw [w3, c_lt hq (by decide)] at h1
    rw [w4, c_gt hq (by decide)] at h2
    have h1 := of_decide_eq_true h1
    have h2 := of_decide_eq_true h2
    rw [sv_t] at h1 h2
    obtain ⟨rfl, hp⟩ := sv_neg_of h1
    rw [sv_t] at h2
    have : q < 6103021453049119613 := V_lt_iff.1 (by omega)
    exact ⟨true, q, rfl, by omega, .inr (Nat.le_trans K5.1 (V_le (by omega)))⟩
/-- Each mean on the way is told. -/
def FT (sh : Nat) (xs : List Nat) (n : Nat) : Prop := ∀ j, j < n → ∀ x mn any m, xs[j]? = some x → beF sh (xs.take j) = some (mn, any) → outF sh mn any x = (m, 0, m, true) → Told m
theorem run_two {sh rs : Nat} {xs ys : List Nat} (e : sh = double.word false rs) (s0 : 0 < rs) (s1 : rs < 9218868437227405312) (hs : V rs ≤ U) (hs2 : P2 1054 ≤ V rs) (hl : xs.length = ys.length) (hc : ∀ (j x y : Nat), xs[j]? = some x → ys[j]? = some y → Calm x ∧ Dbl x y) (hT : FT sh xs xs.length) : ∀ k, k ≤ xs.length → ∃ mn mn2, beF sh (xs.take k) = some (mn, decide (0 < k)) ∧ beF sh (ys.take k) = some (mn2, decide (0 < k)) ∧ Both mn mn2 (decide (0 < k))
  | 0, _ => ⟨0, 0, rfl, rfl, .inl ⟨rfl, rfl⟩, .inl ⟨rfl, rfl⟩, fun h => by cases h⟩
  | k + 1, hk => by
    obtain ⟨mn, mn2, b1, b2, hB⟩ := run_two e s0 s1 hs hs2 hl hc hT k (by omega)
    have hx : xs[k]? = some xs[k] := List.getElem?_eq_getElem (by omega)
    have hy : ys[k]? = some (ys[k]'(by omega)) := List.getElem?_eq_getElem (by omega)
    obtain ⟨c1, c2⟩ := hc k _ _ hx hy
    obtain ⟨m, m2, o1, o2, hB2⟩ := step_two s0 s1 hs hs2 c1 c2 hB (fun m hm => hT k (by omega) _ mn _ m hx b1 (by rw [e]; exact hm))
    rw [← e] at o1 o2
    refine ⟨m, m2, ?_, ?_, by rw [decide_eq_true (by omega)]; exact hB2⟩
    · rw [beF_snoc _ hx, b1]
      show (if (outF _ mn _ _).2.1 = 0 then some (outF _ mn _ _).2.2 else none) = _
      rw [o1, decide_eq_true (show 0 < k + 1 by omega)]
      rfl
    · rw [beF_snoc _ hy, b2]
      show (if (outF _ mn2 _ _).2.1 = 0 then some (outF _ mn2 _ _).2.2 else none) = _
      rw [o2, decide_eq_true (show 0 < k + 1 by omega)]
      rfl
theorem told_of {m : Nat} (hm : m < 18446744073709551616) (h : (oE m 0 = true) ∨ oL m 1614679632300144556 = false ∨ oG m 10838051669154920364 = false) : Told m := by
  intro g q e hq
  subst e
  have w0 : (0 : Nat) = double.word false 0 := (word_f 0).symm
  have w1 : (1614679632300144556 : Nat) = double.word false 1614679632300144556 := (word_f _).symm
  have w2 : (10838051669154920364 : Nat) = double.word true 1614679632300144556 := by rw [word_t]
  rcases h with h | h | h
  · unfold oE at h
    have e : FloatKind.f64.format.order (double.word g q) (double.word false 0) = _ := ord g false q 0 (by omega) (by decide)
    rw [← word_f 0, e] at h
    by_cases c1 : sv g q < sv false 0
    · rw [if_pos c1] at h; cases h
    · rw [if_neg c1] at h
      by_cases c2 : sv g q = sv false 0
      · rw [sv_zero] at c2
        exact .inl (by have := sv_abs g q; omega)
      · rw [if_neg c2] at h; cases h
  · unfold oL at h
    rw [w1, c_lt (by omega) (by decide)] at h
    have h := of_decide_eq_false h
    rw [sv_f] at h
    have := sv_abs g q
    have hp := Int.natCast_nonneg (V 1614679632300144556)
    exact .inr (Nat.le_trans K5.2 (by omega))
  · unfold oG at h
    rw [w2, c_gt (by omega) (by decide)] at h
    have h := of_decide_eq_false h
    rw [sv_t] at h
    have := sv_abs g q
    have hp := Int.natCast_nonneg (V 1614679632300144556)
    exact .inr (Nat.le_trans K5.2 (by omega))
theorem far_no (sh : Nat) (A : Option Addr) (n c : Nat) (W : World) (hs : shareB sh = false) : Calls Try.prog 24 #[.float .f64 sh, .slice A n c] W fun e w' => e = .returned (.bool false) ∧ Below W.heap.size W w' := by
  go_enter Try.func24, Try.ntmps24
  go_wp2_with (first | (go_at_call 15; (with_reducible refine (Smooth.new_no sh _ hs).mono ?_); rintro e w' ⟨rfl, rfl⟩))
  go_ret
  exact ⟨rfl, Below.refl _ _⟩
theorem okm_lt {m : Nat} {any : Bool} (h : OkM m any) : m < 18446744073709551616 := by
  rcases h with ⟨_, rfl⟩ | ⟨_, g, q, rfl, hq⟩
  · decide
  · cases g
    · rw [word_f]; omega
    · rw [word_t]; omega
/-- What far has seen. -/
def Seen (sh : Nat) (xs : List Nat) (j mn : Nat) (any : Bool) : Prop := FT sh xs j ∧ ∀ s, beF sh (xs.take j) = some s → s = (mn, any)
theorem Seen.step {sh : Nat} {xs : List Nat} {j mn x a mn' : Nat} {e : Int} {any any' : Bool} (h : Seen sh xs j mn any) (hx : xs[j]? = some x) (hq : outF sh mn any x = (a, e, mn', any')) (ht : e = 0 → Told a) : Seen sh xs (j + 1) mn' any' := by
  refine ⟨fun i hi x2 m2 any2 m hx2 hb ho => ?_, fun s hb => ?_⟩
  · by_cases hij : i = j
    · subst hij
      obtain rfl : x2 = x := by rw [hx] at hx2; exact (Option.some.inj hx2).symm
      have e1 := h.2 _ hb
      injection e1 with e1 e2
      subst e1 e2
      rw [hq] at ho
      injection ho with o1 o2
      injection o2 with o2 o3
      exact o1 ▸ ht o2
    · exact h.1 i (by omega) x2 m2 any2 m hx2 hb ho
  · rw [beF_snoc sh hx] at hb
    cases hb2 : beF sh (xs.take j) with
    | none => rw [hb2] at hb; cases hb
    | some s0 =>
      have e1 := h.2 _ hb2
      subst e1
      rw [hb2] at hb
      replace hb : (if (outF sh mn any x).2.1 = 0 then some (outF sh mn any x).2.2 else none) = some s := hb
      rw [hq] at hb
      by_cases hz : e = 0
      · rw [if_pos hz] at hb; exact (Option.some.inj hb).symm
      · rw [if_neg hz] at hb; cases hb
set_option maxHeartbeats 4000000 in
theorem far_c (sh : Nat) (xs : List Nat) (A : Option Addr) (n c : Nat) (W : World) (hsx : sh < 18446744073709551616) (hs : shareB sh = true) (h : Flts W A n xs) (hxs : ∀ x ∈ xs, x < 18446744073709551616) (hn : n ≤ 140737488351232) :
    Calls Try.prog 24 #[.float .f64 sh, .slice A n c] W fun e w' => Below W.heap.size W w' ∧ (e = .returned (.bool true) ∨ (e = .returned (.bool false) ∧ FT sh xs xs.length)) := by
  have H := Lib.hid h
  have HX := Lib.hid hxs
  have hlen := h.1
  clear h hxs
  go_enter Try.func24, Try.ntmps24
  go_wp2_with (first | (go_at_call 15; (with_reducible refine (Smooth.new_ok sh _ hs).mono ?_); rintro e w1 ⟨rfl, hs1, hz, hb⟩; have S1 := Lib.hid hs1; have Z1 := Lib.hid hz; have B1 := Lib.hid hb; clear hs1 hz hb))
  go_loopw [7] (fun i wr => ∃ (j mn : Nat) (any : Bool), j ≤ n ∧ i = .int .i64 j ∧ Hid (Seen sh xs j mn any ∧ Smo wr W.heap.size sh mn any ∧ OkM mn any ∧ Below W.heap.size W wr ∧ W.heap.size < wr.heap.size)) (fun i _ => n - (intOf i).toNat)
  case atStart => exact ⟨0, 0, false, Nat.zero_le _, rfl, Lib.hid ⟨⟨fun i hi => absurd hi (by omega), fun s hb => (Option.some.inj hb).symm⟩, S1.out, .inl ⟨rfl, rfl⟩, B1.out, by have := Z1.out; omega⟩⟩
  case round =>
    obtain ⟨j, mn, any, hj, rfl, HI⟩ := hrel
    by_cases hlt : j < n
    · obtain ⟨ad, x, rfl, hx0, hc0⟩ := H.out.at_ hlt
      have kc : wr.cell? (ad.add j) = some (.float .f64 x) := (HI.out.2.2.2.1.cell (World.block_lt_of_cell? W _ hc0)).trans hc0
      have hx := HX.out x (List.mem_of_getElem? hx0)
      obtain ⟨a, e, mn', any', hq⟩ : ∃ a e mn' any', outF sh mn any x = (a, e, mn', any') := ⟨_, _, _, _, rfl⟩
      have HQ := Lib.hid hq
      have HO := Lib.hid (out_ok hsx hs HI.out.2.2.1 hx hq)
      have ha : e = 0 → a = mn' := fun he => by
        rcases out_cases sh mn any x with ⟨_, h1⟩ | ⟨_, h1⟩ | ⟨_, _, h1⟩ | ⟨_, _, m, _, _, h1⟩ <;> rw [hq] at h1 <;> simp only [Prod.mk.injEq] at h1 <;> omega
      have HP := Lib.hid hx0
      clear hq hx0 hc0
      by_cases he : e = 0
      · have hal : a < 18446744073709551616 := by rw [ha he]; exact okm_lt HO.out
        subst he
        clear ha
        have HT := Lib.hid (told_of hal)
        cases t1 : oE a 0 <;> cases t2 : oL a 1614679632300144556 <;> cases t3 : oG a 10838051669154920364
        all_goals
          have t1' : (FloatKind.f64.format.order a 0 == some .eq) = _ := t1
          have t2' : (FloatKind.f64.format.order a 1614679632300144556 == some .lt) = _ := t2
          have t3' : (FloatKind.f64.format.order a 10838051669154920364 == some .gt) = _ := t3
          have t0' : (FloatKind.f64.format.order a 0 != some .eq) = !(FloatKind.f64.format.order a 0 == some .eq) := rfl
          rw [t1'] at t0'
          have HTT := Lib.hid (show ((oE a 0 = true) ∨ oL a 1614679632300144556 = false ∨ oG a 10838051669154920364 = false) ↔ _ from by rw [t1, t2, t3])
          clear t1 t2 t3
          go_wp2_with (first | (go_at_call 21; (with_reducible refine (sadd_f sh mn any x wr W.heap.size HI.out.2.1 hsx hs HI.out.2.2.1 hx a 0 mn' any' HQ).mono ?_); rintro e5 w5 ⟨rfl, h1, h2, h3⟩; have H5 := Lib.hid h1; have O5 := Lib.hid h2; have C5 := Lib.hid h3; clear h1 h2 h3))
          first
            | (go_roundw; (case rel => exact ⟨j + 1, mn', any', by omega, by go_num, Lib.hid ⟨HI.out.1.step HP.out HQ.out (fun _ => HT.out (HTT.out.2 (by simp))), H5.out, O5.out, ChgB.below HI.out.2.2.2.1 C5.out (Nat.le_refl _) (Nat.le_of_lt HI.out.2.2.2.2), Nat.lt_of_lt_of_le HI.out.2.2.2.2 C5.out.size⟩⟩); (case measure => simp [intOf]; omega))
            | (go_ret; exact ⟨ChgB.below HI.out.2.2.2.1 C5.out (Nat.le_refl _) (Nat.le_of_lt HI.out.2.2.2.2), .inl rfl⟩)
      · have hne : (e == 0) = false := beq_eq_false_iff_ne.2 he
        have HE := Lib.hid he
        clear he ha
        go_wp2_with (first | (go_at_call 21; (with_reducible refine (sadd_f sh mn any x wr W.heap.size HI.out.2.1 hsx hs HI.out.2.2.1 hx a e mn' any' HQ).mono ?_); rintro e5 w5 ⟨rfl, h1, h2, h3⟩; have H5 := Lib.hid h1; have O5 := Lib.hid h2; have C5 := Lib.hid h3; clear h1 h2 h3))
        go_roundw
        case rel => exact ⟨j + 1, mn', any', by omega, by go_num, Lib.hid ⟨HI.out.1.step HP.out HQ.out (fun h0 => absurd h0 HE.out), H5.out, O5.out, ChgB.below HI.out.2.2.2.1 C5.out (Nat.le_refl _) (Nat.le_of_lt HI.out.2.2.2.2), Nat.lt_of_lt_of_le HI.out.2.2.2.2 C5.out.size⟩⟩
        case measure => simp [intOf]; omega
    · obtain rfl : j = n := by omega
      go_wp2
      go_ret
      exact ⟨HI.out.2.2.2.1, .inr ⟨rfl, by rw [hlen]; exact HI.out.1.1⟩⟩
end Go.Proofs.Ythcjkdmlaahpbaa.Moves
