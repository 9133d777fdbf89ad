/- WindowMoves, WindowDoubles: behind, ends, Mean of a mean. -/
import Derived.Test.YthcjkdmlaahpbaaOutF
namespace Go.Proofs.Ythcjkdmlaahpbaa.Moves
open Go.RowKit Go.Proofs.Ythcjkdmlaahpbaa.Aid Go.Proofs.Ythcjkdmlaahpbaa.Fl Go.Proofs.Ythcjkdmlaahpbaa.Mem Go.Proofs.Ythcjkdmlaahpbaa.Keep Go.Proofs.Ythcjkdmlaahpbaa.Round Go.Proofs.Ythcjkdmlaahpbaa.Smooth Go.Proofs.Ythcjkdmlaahpbaa.Added Go.Proofs.Ythcjkdmlaahpbaa.Smooths
open Ieee (double Toward Format)
set_option linter.unusedSimpArgs false
set_option linter.unusedVariables false
set_option maxRecDepth 100000
theorem lends_t (g : Bool) (r : Nat) (W : World) (hr : r < 9218868437227405312) : Calls Try.prog 22 #[.float .f64 (double.word g r)] W fun e w' => e = .returned (.bool true) ∧ W = w' := by
  obtain ⟨g0, e0⟩ := sub_self g r hr
  have hsub : ∀ t w, (binOp .sub t (.float .f64 (double.word g r)) (.float .f64 (double.word g r))).run Try.prog w = .ok (.float .f64 (double.word g0 0)) w := fun t w => run_float_arith w .sub t .f64 _ _ _ e0
  have hz : (FloatKind.f64.format.order (double.word g0 0) 0 == some .eq) = true := by cases g0 <;> decide +kernel
  go_enter Try.func22, Try.ntmps22
  go_wp2
  go_ret
  exact ⟨rfl, rfl⟩
theorem lends_f (g : Bool) (r : Nat) (W : World) (h : 9218868437227405312 ≤ r) (hr : r < 9223372036854775808) : Calls Try.prog 22 #[.float .f64 (double.word g r)] W fun e w' => e = .returned (.bool false) ∧ Dr W w' := by
  have e0 : double.sub (double.word g r) (double.word g r) = none := by
    rcases Nat.lt_or_ge 9218868437227405312 r with h1 | h1
    · exact sub_nan g r h1 hr
    · obtain rfl : r = 9218868437227405312 := by omega
      exact sub_inf g
  have hsub : ∀ t w, (binOp .sub t (.float .f64 (double.word g r)) (.float .f64 (double.word g r))).run Try.prog w = .ok (.float .f64 (nb w (double.word g r) (double.word g r))) w.drew := fun t w => sub_ask t _ _ e0 w
  have hne := nb_neq W (double.word g r) (double.word g r) 0
  have hne' : (FloatKind.f64.format.order (nb W (double.word g r) (double.word g r)) 0 == some .eq) = false := by
    rw [bne_iff_ne] at hne
    simpa using hne
  clear e0 hne
  go_enter Try.func22, Try.ntmps22
  go_wp2
  go_ret
  exact ⟨rfl, Dr.one _⟩
theorem lends_c (x : Nat) (W : World) (hx : x < 18446744073709551616) (b : Bool) (hb : fin x = b) : Calls Try.prog 22 #[.float .f64 x] W fun e w' => e = .returned (.bool b) ∧ Dr W w' := by
  obtain ⟨g, q, rfl, hq⟩ := word_of x hx
  rw [fin_word g q hq] at hb
  subst hb
  by_cases h : q < 9218868437227405312
  · rw [decide_eq_true h]
    exact (lends_t g q W h).mono fun e w' ⟨e1, e2⟩ => ⟨e1, e2 ▸ Dr.refl _⟩
  · rw [decide_eq_false h]
    exact lends_f g q W (by omega) hq
/-- What Mean says of a mean. -/
theorem mean_v (W : World) (s sh mn : Nat) (any : Bool) (h : Smo W s sh mn any) (ho : OkM mn any) : Calls Try.prog 20 #[.pointer (some ⟨s, 0, none⟩)] W fun e w' => e = .returned (.tuple #[.float .f64 mn, .bool any]) ∧ W = w' := by
  rcases ho with ⟨rfl, rfl⟩ | ⟨rfl, g, q, rfl, hq⟩
  · exact mean_f W s sh 0 h
  · exact mean_t W s sh _ h
theorem okm_eq {mn : Nat} {any : Bool} (h : OkM mn any) : (FloatKind.f64.format.order mn mn == some .eq) = true := by
  rcases h with ⟨_, rfl⟩ | ⟨_, g, q, rfl, hq⟩
  · decide +kernel
  · exact eq_self g q (by omega)
theorem behind_no (sh : Nat) (A : Option Addr) (n c : Nat) (W : World) (hs : shareB sh = false) : Calls Try.prog 19 #[.float .f64 sh, .slice A n c] W fun e w' => e = .returned (.tuple #[.pointer none, .bool false]) ∧ Below W.heap.size W w' := by
  go_enter Try.func19, Try.ntmps19
  go_wp2_with (first | (go_at_call 15; (with_reducible refine (Smooth.new_no sh _ hs).mono ?_); rintro e w' ⟨rfl, rfl⟩))
  go_ret2
  exact ⟨rfl, Below.refl _ _⟩
/-- What behind answers. -/
def Beh (W : World) (sh : Nat) (xs : List Nat) (e : Ending) (w' : World) : Prop := Below W.heap.size W w' ∧ ((beF sh xs = none ∧ e = .returned (.tuple #[.pointer none, .bool false])) ∨
  ∃ mn any, beF sh xs = some (mn, any) ∧ e = .returned (.tuple #[.pointer (some ⟨W.heap.size, 0, none⟩), .bool true]) ∧ Smo w' W.heap.size sh mn any ∧ OkM mn any ∧ W.heap.size < w'.heap.size)
set_option maxHeartbeats 4000000 in
theorem behind_c (sh : Nat) (xs : List Nat) (A : Option Addr) (n c : Nat) (W : World) (hsx : sh < 18446744073709551616) (hs : shareB sh = true) (h : Flts W A n xs) (hxs : ∀ x ∈ xs, x < 18446744073709551616) (hn : n ≤ 140737488351232) :
    Calls Try.prog 19 #[.float .f64 sh, .slice A n c] W fun e w' => Beh W sh xs e w' := by
  have H := Lib.hid h
  have HX := Lib.hid hxs
  have hlen := h.1
  clear h hxs
  go_enter Try.func19, Try.ntmps19
  go_wp2_with (first | (go_at_call 15; (with_reducible refine (Smooth.new_ok sh _ hs).mono ?_); rintro e w1 ⟨rfl, hs1, hz, hb⟩; have S1 := Lib.hid hs1; have Z1 := Lib.hid hz; have B1 := Lib.hid hb; clear hs1 hz hb))
  go_loopw [7, 8] (fun ev i wr => ∃ (j mn : Nat) (any : Bool), j ≤ n ∧ i = .int .i64 j ∧ ev = .int .i64 0 ∧ Hid (beF sh (xs.take j) = some (mn, any) ∧ Smo wr W.heap.size sh mn any ∧ OkM mn any ∧ Below W.heap.size W wr ∧ W.heap.size < wr.heap.size)) (fun _ i _ => n - (intOf i).toNat)
  case atStart => exact ⟨0, 0, false, Nat.zero_le _, rfl, rfl, Lib.hid ⟨rfl, S1.out, .inl ⟨rfl, rfl⟩, B1.out, by have := Z1.out; omega⟩⟩
  case round =>
    obtain ⟨j, mn, any, hj, rfl, rfl, HI⟩ := hrel
    by_cases hlt : j < n
    · obtain ⟨ad, x, rfl, hx0, hc0⟩ := H.out.at_ hlt
      have kc : wr.cell? (ad.add j) = some (.float .f64 x) := (HI.out.2.2.2.1.cell (World.block_lt_of_cell? W _ hc0)).trans hc0
      have hx := HX.out x (List.mem_of_getElem? hx0)
      obtain ⟨a, e, mn', any', hq⟩ : ∃ a e mn' any', outF sh mn any x = (a, e, mn', any') := ⟨_, _, _, _, rfl⟩
      have HQ := Lib.hid hq
      have HE := Lib.hid (show beF sh (xs.take (j + 1)) = if e = 0 then some (mn', any') else none by rw [beF_snoc sh hx0, HI.out.1]; show (if (outF sh mn any x).2.1 = 0 then some (outF sh mn any x).2.2 else none) = _; rw [hq])
      clear hq hx0 hc0
      by_cases he : e = 0
      · subst he
        go_wp2_with (first | (go_at_call 21; (with_reducible refine (sadd_f sh mn any x wr W.heap.size HI.out.2.1 hsx hs HI.out.2.2.1 hx a 0 mn' any' HQ).mono ?_); rintro e5 w5 ⟨rfl, h1, h2, h3⟩; have H5 := Lib.hid h1; have O5 := Lib.hid h2; have C5 := Lib.hid h3; clear h1 h2 h3))
        go_roundw
        case rel => exact ⟨j + 1, mn', any', by omega, by go_num, rfl, Lib.hid ⟨by have := HE.out; simpa using this, H5.out, O5.out, ChgB.below HI.out.2.2.2.1 C5.out (Nat.le_refl _) (Nat.le_of_lt HI.out.2.2.2.2), Nat.lt_of_lt_of_le HI.out.2.2.2.2 C5.out.size⟩⟩
        case measure => simp [intOf]; omega
      · have hne : (e != 0) = true := bne_iff_ne.2 he
        have HN := Lib.hid (beF_none sh (k := j + 1) (by rw [HE.out, if_neg he]))
        clear he
        go_wp2_with (first | (go_at_call 21; (with_reducible refine (sadd_f sh mn any x wr W.heap.size HI.out.2.1 hsx hs HI.out.2.2.1 hx a e mn' any' HQ).mono ?_); rintro e5 w5 ⟨rfl, h1, h2, h3⟩; have C5 := Lib.hid h3; clear h1 h2 h3))
        go_ret2
        exact ⟨ChgB.below HI.out.2.2.2.1 C5.out (Nat.le_refl _) (Nat.le_of_lt HI.out.2.2.2.2), .inl ⟨HN.out, rfl⟩⟩
    · obtain rfl : j = n := by omega
      have HI' := Lib.hid (show beF sh xs = some (mn, any) from by have := HI.out.1; rwa [List.take_of_length_le (by omega)] at this)
      go_wp2
      go_ret2
      exact ⟨HI.out.2.2.2.1, .inr ⟨mn, any, HI'.out, rfl, HI.out.2.1, HI.out.2.2.1, HI.out.2.2.2.2⟩⟩
theorem behind_none (sh : Nat) (xs : List Nat) (A : Option Addr) (n c : Nat) (W : World) (hsx : sh < 18446744073709551616) (h : Flts W A n xs) (hxs : ∀ x ∈ xs, x < 18446744073709551616) (hn : n ≤ 140737488351232) (hr : shareB sh = false ∨ beF sh xs = none) :
    Calls Try.prog 19 #[.float .f64 sh, .slice A n c] W fun e w' => e = .returned (.tuple #[.pointer none, .bool false]) ∧ Below W.heap.size W w' := by
  cases hs : shareB sh
  · exact behind_no sh A n c W hs
  · have hr : beF sh xs = none := hr.resolve_left (by rw [hs]; decide)
    refine (behind_c sh xs A n c W hsx hs h hxs hn).mono fun e w' ⟨hb, hh⟩ => ?_
    rcases hh with ⟨_, he⟩ | ⟨mn, any, h1, _⟩
    · exact ⟨he, hb⟩
    · rw [hr] at h1; cases h1
theorem behind_some (sh : Nat) (xs : List Nat) (A : Option Addr) (n c : Nat) (W : World) (hsx : sh < 18446744073709551616) (hs : shareB sh = true) (h : Flts W A n xs) (hxs : ∀ x ∈ xs, x < 18446744073709551616) (hn : n ≤ 140737488351232) (mn : Nat) (any : Bool) (hr : beF sh xs = some (mn, any)) :
    Calls Try.prog 19 #[.float .f64 sh, .slice A n c] W fun e w' => e = .returned (.tuple #[.pointer (some ⟨W.heap.size, 0, none⟩), .bool true]) ∧ Smo w' W.heap.size sh mn any ∧ OkM mn any ∧ Below W.heap.size W w' ∧ W.heap.size < w'.heap.size := by
  refine (behind_c sh xs A n c W hsx hs h hxs hn).mono fun e w' ⟨hb, hh⟩ => ?_
  rcases hh with ⟨h1, _⟩ | ⟨mn', any', h1, h2, h3, h4, h5⟩
  · rw [hr] at h1; cases h1
  · rw [hr] at h1
    injection h1 with h1
    injection h1 with e1 e2
    subst e1 e2
    exact ⟨h2, h3, h4, hb, h5⟩
end Go.Proofs.Ythcjkdmlaahpbaa.Moves
