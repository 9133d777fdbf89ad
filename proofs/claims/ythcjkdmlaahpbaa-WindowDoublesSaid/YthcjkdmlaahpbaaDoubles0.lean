/- WindowDoubles: what the walk wants. -/
import Derived.Test.YthcjkdmlaahpbaaWhole
import Derived.Test.YthcjkdmlaahpbaaMoves
import Derived.Test.YthcjkdmlaahpbaaWinC
import Derived.Deep.RegionHeld3
namespace Go.Proofs.Ythcjkdmlaahpbaa.Moves
open Go.RowKit Go.Proofs.Ythcjkdmlaahpbaa.Aid Go.Proofs.Ythcjkdmlaahpbaa.Fl Go.Proofs.Ythcjkdmlaahpbaa.Mem Go.Proofs.Ythcjkdmlaahpbaa.Keep Go.Proofs.Ythcjkdmlaahpbaa.Round Go.Proofs.Ythcjkdmlaahpbaa.Smooth Go.Proofs.Ythcjkdmlaahpbaa.Added Go.Proofs.Ythcjkdmlaahpbaa.Smooths Go.Proofs.Ythcjkdmlaahpbaa.AliveN
open Go.Proofs.Ythcjkdmlaahpbaa.Win (AP ap_eq)
open Ieee (double Toward Format)
set_option linter.unusedSimpArgs false
set_option linter.unusedVariables false
set_option maxRecDepth 100000
theorem infoF : (Try.prog.info? 32).map (fun i => (i.zero, i.size, i.bytes)) = some (some (.float .f64 0), 1, 8) := by kernel_rfl
theorem app_flt {W : World} {B G : Nat} {v : Value} {l : List Nat} {n2 : Nat} (hG : W.heap.size = G) (hO : Own W B 32 1 v n2 (l.map (Value.float .f64))) (hB : B ≤ W.heap.size) (hn : n2 ≤ 17592186043904) (y : Nat) :
    ∃ A7 c7 w7, (AP #[33, 33] 33 #[v, .slice (some ⟨G, 0, none⟩) 1 1]).run Try.prog (W.alloc (.cells #[.float .f64 y] 32)) = .ok (.slice A7 (n2 + 1) c7) w7 ∧
      Own w7 B 32 1 (.slice A7 (n2 + 1) c7) (n2 + 1) ((l ++ [y]).map (Value.float .f64)) ∧ Below B W w7 := by
  subst hG
  obtain ⟨i0, hi, hzz⟩ := Option.map_eq_some_iff.1 infoF
  simp only [Prod.mk.injEq] at hzz
  obtain ⟨hz0, hz1, hz2⟩ := hzz
  have hnew := Blk.new W 32 [.float .f64 y]
  obtain ⟨v', w', hr, h2, h3, _, h5⟩ := run_append_own_at (P := Try.prog) (W.alloc (.cells #[.float .f64 y] 32)) B 33 33 32 i0 _ 1 8 Try.underlying33 hi hz0 hz1 hz2 rfl (by decide) v n2 (l.map (Value.float .f64)) (World.ownsRow.alloc hO _) ⟨W.heap.size, 0, none⟩ 1 1 [.float .f64 y] rfl (fun j u hu => by rw [add_at]; exact hnew.cellv hu) (by intro u hu; simp only [List.mem_cons, List.not_mem_nil, or_false] at hu; rcases hu with rfl; rfl) (by unfold maxLen; omega) (by omega) (by rw [size_alloc]; omega)
  have h2' : Own w' B 32 1 v' (n2 + 1) ((l ++ [y]).map (Value.float .f64)) := by
    rw [List.map_append]
    exact h2
  obtain ⟨A7, c7, rfl, _, _⟩ := h2'.form
  exact ⟨A7, c7, w', hr, h2', ((Below.refl B W).alloc hB _).grown h3 (by rw [size_alloc]; omega) (fun k hk => (World.ownsRow.lt hO k hk).1)⟩
theorem flts_own {W : World} {B n : Nat} {v : Value} {l : List Nat} (h : Own W B 32 1 v n (l.map (Value.float .f64))) : ∃ A c, v = .slice A n c ∧ Flts W A n l := by
  obtain ⟨A, c, rfl, _, hf⟩ := h.form
  have hl : l.length = n := by have := h.1; simpa using this
  refine ⟨A, c, rfl, hl, fun hn => ?_⟩
  obtain ⟨g, rfl, _, _, hc⟩ := hf hn
  exact ⟨_, rfl, fun j x hx => by rw [add_at]; exact hc j _ (by simp [hx])⟩
/-- What is built so far. -/
structure Bld (sh : Nat) (xs ys : List Nat) (j : Nat) (b : Bool) : Prop where
  len : ys.length = j
  pair : ∀ (i x y : Nat), xs[i]? = some x → ys[i]? = some y → Calm x ∧ Dbl x y
  lt : ∀ y ∈ ys, y < 18446744073709551616
  wh : b = true → oE sh 4607182418800017408 = true ∧ ∀ i, i < j → ∀ x, xs[i]? = some x → Whole x
theorem Bld.more {sh j x y : Nat} {xs ys : List Nat} {b b' : Bool} (h : Bld sh xs ys j b) (hx : xs[j]? = some x) (hc : Calm x) (hd : Dbl x y) (hy : y < 18446744073709551616) (hb : b' = true → b = true ∧ Whole x) : Bld sh xs (ys ++ [y]) (j + 1) b' where
  len := by rw [List.length_append, h.len]; rfl
  pair := fun i x' y' h1 h2 => by
    have := h.len
    by_cases hi : i < j
    · rw [List.getElem?_append_left (by omega)] at h2
      exact h.pair i x' y' h1 h2
    · rw [List.getElem?_append_right (by omega)] at h2
      obtain rfl : i = j := by
        have h3 := (List.getElem?_eq_some_iff.1 h2).1
        simp at h3
        omega
      rw [h.len, Nat.sub_self] at h2
      obtain rfl : y = y' := by simpa using h2
      rw [hx] at h1
      obtain rfl := Option.some.inj h1
      exact ⟨hc, hd⟩
  lt := fun z hz => by
    rcases List.mem_append.1 hz with hz | hz
    · exact h.lt z hz
    · rw [List.mem_singleton] at hz; subst hz; exact hy
  wh := fun e => by
    obtain ⟨e1, e2⟩ := hb e
    obtain ⟨h1, h2⟩ := h.wh e1
    refine ⟨h1, fun i hi x' hx' => ?_⟩
    by_cases hij : i = j
    · subst hij
      rw [hx] at hx'
      obtain rfl := Option.some.inj hx'
      exact e2
    · exact h2 i (by omega) x' hx'
theorem c_eq {s t : Bool} {r q : Nat} (hr : r ≤ 9218868437227405312) (hq : q ≤ 9218868437227405312) : (FloatKind.f64.format.order (double.word s r) (double.word t q) == some .eq) = decide (sv s r = sv t q) := by
  have o : FloatKind.f64.format.order (double.word s r) (double.word t q) = _ := ord s t r q hr hq
  rw [o]
  by_cases h : sv s r < sv t q
  · rw [if_pos h, decide_eq_false (by omega)]; rfl
  · rw [if_neg h]
    by_cases h2 : sv s r = sv t q
    · rw [if_pos h2, decide_eq_true h2]; rfl
    · rw [if_neg h2, decide_eq_false h2]; rfl
/-- Where both bounds hold: what int64 and back make of it. -/
theorem whole_test {x : Nat} (hc : Calm x) (h1 : oG x 14054727237768577024 = true) (h2 : oL x 4831355200913801216 = true) : ∃ z : Int, floatToIntVal .f64 x .i64 = some z ∧ (oE x (floatOfInt .f64 z) = true → Whole x) := by
  obtain ⟨g, q, rfl, hq, _⟩ := hc
  have w1 : (14054727237768577024 : Nat) = double.word true 4831355200913801216 := by rw [word_t]
  have w2 : (4831355200913801216 : Nat) = double.word false 4831355200913801216 := (word_f _).symm
  unfold oG at h1
  unfold oL at h2
  rw [w1, c_gt (by omega) (by decide)] at h1
  rw [w2, c_lt (by omega) (by decide)] at h2
  have h1 := of_decide_eq_true h1
  have h2 := of_decide_eq_true h2
  rw [sv_t, K8] at h1
  rw [sv_f, K8] at h2
  have ha := sv_abs g q
  have hV : V q < 1000000000000000 * U := by omega
  have hd : V q / U < 1000000000000000 := (Nat.div_lt_iff_lt_mul U_pos).2 hV
  have ht := toint_word g q (by omega) (Nat.le_of_lt (Nat.lt_trans hd (by decide)))
  obtain ⟨d, ed⟩ : ∃ d, V q / U = d := ⟨_, rfl⟩
  rw [ed] at hd ht
  refine ⟨_, ht, fun h => ?_⟩
  obtain ⟨z, hz, hzb⟩ : ∃ z : Int, (if g then -((d : Nat) : Int) else ((d : Nat) : Int)) = z ∧ z.natAbs ≤ 1000000000000000 := ⟨_, rfl, by split <;> omega⟩
  rw [hz] at h
  obtain ⟨p, e1, e2⟩ := int_isN z
  rw [← U_def] at e2
  have e3 : SN (z * U) 1 (decide (z < 0)) p := by
    refine ⟨by rw [Int.natAbs_mul, Int.natAbs_natCast]; exact e2, fun hz0 => ?_⟩
    have hu := U_pos
    by_cases hn : z < 0
    · rw [decide_eq_true hn, decide_eq_true (Int.mul_neg_of_neg_of_pos hn (by omega))]
    · rw [decide_eq_false hn, decide_eq_false (by have := Int.mul_nonneg (a := z) (b := (U : Int)) (by omega) (by omega); omega)]
  have e4 := sn_whole (by omega) e3
  unfold oE at h
  rw [e1, c_eq (by omega) e2.le] at h
  exact ⟨g, q, rfl, by omega, z, hzb, (of_decide_eq_true h).trans e4⟩
end Go.Proofs.Ythcjkdmlaahpbaa.Moves
