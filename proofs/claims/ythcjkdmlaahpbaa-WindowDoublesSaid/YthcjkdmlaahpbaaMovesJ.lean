/- WindowMoves: the join of the walks. -/
import Derived.Test.YthcjkdmlaahpbaaMovesA
import Derived.Test.YthcjkdmlaahpbaaMovesB
import Derived.Test.YthcjkdmlaahpbaaMovesC
namespace Go.Proofs.Ythcjkdmlaahpbaa.Moves
open Go.RowKit Go.Proofs.Ythcjkdmlaahpbaa.Aid Go.Proofs.Ythcjkdmlaahpbaa.Fl Go.Proofs.Ythcjkdmlaahpbaa.Smooth Go.Proofs.Ythcjkdmlaahpbaa.Added Go.Proofs.Ythcjkdmlaahpbaa.Smooths
open Ieee (double Toward Format)
set_option linter.unusedVariables false
theorem out_cases (sh mn : Nat) (any : Bool) (x : Nat) : (fin x = false ∧ outF sh mn any x = (0, 1, mn, any)) ∨ (fin x = true ∧ outF sh mn any x = (0, 3, mn, any)) ∨
    (fin x = true ∧ any = false ∧ outF sh mn any x = (x, 0, x, true)) ∨ (fin x = true ∧ any = true ∧ ∃ m, nextM sh mn x = some m ∧ fin m = true ∧ outF sh mn any x = (m, 0, m, true)) := by
  unfold outF
  cases hx : fin x
  · exact .inl ⟨rfl, by rw [if_neg (by decide)]⟩
  · rw [if_pos rfl]
    cases any
    · exact .inr (.inr (.inl ⟨rfl, rfl, by rw [if_neg (by decide)]⟩))
    · rw [if_pos rfl]
      cases hn : nextM sh mn x with
      | none => exact .inr (.inl ⟨rfl, rfl⟩)
      | some m =>
        cases hm : fin m
        · exact .inr (.inl ⟨rfl, by dsimp only; rw [hm, if_neg (by decide)]⟩)
        · exact .inr (.inr (.inr ⟨rfl, rfl, m, rfl, hm, by dsimp only; rw [hm, if_pos rfl]⟩))
theorem fin_of {x : Nat} (hx : x < 18446744073709551616) (h : fin x = true) : ∃ g q, x = double.word g q ∧ q < 9218868437227405312 := by
  obtain ⟨g, q, rfl, hq⟩ := word_of x hx
  rw [fin_word g q hq] at h
  exact ⟨g, q, rfl, of_decide_eq_true h⟩
theorem out_ok {sh mn : Nat} {any : Bool} {x a mn' : Nat} {e : Int} {any' : Bool} (hsx : sh < 18446744073709551616) (hs : shareB sh = true) (ho : OkM mn any) (hx : x < 18446744073709551616) (h : outF sh mn any x = (a, e, mn', any')) : OkM mn' any' := by
  rcases out_cases sh mn any x with ⟨_, h1⟩ | ⟨_, h1⟩ | ⟨hf, rfl, h1⟩ | ⟨hf, rfl, m, hn, hm, h1⟩
  · rw [h1] at h
    obtain ⟨_, _, rfl, rfl⟩ : 0 = a ∧ (1 : Int) = e ∧ mn = mn' ∧ any = any' := by simpa using h
    exact ho
  · rw [h1] at h
    obtain ⟨_, _, rfl, rfl⟩ : 0 = a ∧ (3 : Int) = e ∧ mn = mn' ∧ any = any' := by simpa using h
    exact ho
  · rw [h1] at h
    obtain ⟨_, _, rfl, rfl⟩ : x = a ∧ (0 : Int) = e ∧ x = mn' ∧ true = any' := by simpa using h
    obtain ⟨g, q, e1, e2⟩ := fin_of hx hf
    exact .inr ⟨rfl, g, q, e1, e2⟩
  · rw [h1] at h
    obtain ⟨_, _, rfl, rfl⟩ : m = a ∧ (0 : Int) = e ∧ m = mn' ∧ true = any' := by simpa using h
    obtain ⟨rs, e1, s0, s1, _⟩ := share_word sh hsx hs
    rcases ho with ⟨h0, _⟩ | ⟨_, gm, qm, e2, hq2⟩
    · cases h0
    · obtain ⟨g, q, e3, hq3⟩ := fin_of hx hf
      rw [e1, e2, e3] at hn
      obtain ⟨gn, qn, e4, hN⟩ := next_fin s0 s1 hq2 hq3 hn hm
      exact .inr ⟨rfl, gn, qn, e4, hN.lt⟩
theorem fold_ok {sh : Nat} (hsx : sh < 18446744073709551616) (hs : shareB sh = true) : ∀ (l : List Nat) (o : Option (Nat × Bool)), (∀ x ∈ l, x < 18446744073709551616) → (∀ mn any, o = some (mn, any) → OkM mn any) → ∀ mn any, l.foldl (stepF sh) o = some (mn, any) → OkM mn any
  | [], o, _, ho, mn, any, h => ho mn any h
  | x :: l, o, hl, ho, mn, any, h => by
    refine fold_ok hsx hs l (stepF sh o x) (fun y hy => hl y (List.mem_cons_of_mem _ hy)) (fun mn' any' h' => ?_) mn any h
    cases o with
    | none => cases h'
    | some s =>
      obtain ⟨m0, a0⟩ := s
      have hx := hl x (List.mem_cons_self ..)
      have h2 : (if (outF sh m0 a0 x).2.1 = 0 then some (outF sh m0 a0 x).2.2 else none) = some (mn', any') := h'
      by_cases hz : (outF sh m0 a0 x).2.1 = 0
      · rw [if_pos hz] at h2
        have h3 := Option.some.inj h2
        have h4 : outF sh m0 a0 x = ((outF sh m0 a0 x).1, (outF sh m0 a0 x).2.1, mn', any') := Prod.ext rfl (Prod.ext rfl h3)
        exact out_ok hsx hs (ho m0 a0 rfl) hx h4
      · rw [if_neg hz] at h2; cases h2
theorem be_ok {sh : Nat} {xs : List Nat} {mn : Nat} {any : Bool} (hsx : sh < 18446744073709551616) (hs : shareB sh = true) (hxs : ∀ x ∈ xs, x < 18446744073709551616) (h : beF sh xs = some (mn, any)) : OkM mn any :=
  fold_ok hsx hs xs _ hxs (fun mn any e => by
    have := Option.some.inj e
    injection this with e1 e2
    exact .inl ⟨e2.symm, e1.symm⟩) mn any h
section
variable {s t : Bool} {r q : Nat}
theorem c_ge (hr : r ≤ 9218868437227405312) (hq : q ≤ 9218868437227405312) : (FloatKind.f64.format.order (double.word s r) (double.word t q) == some .gt || FloatKind.f64.format.order (double.word s r) (double.word t q) == some .eq) = decide (sv t q ≤ sv s r) := by
  have o : FloatKind.f64.format.order (double.word s r) (double.word t q) = _ := ord s t r q hr hq
  rw [o]
  by_cases h : sv s r < sv t q
  · rw [if_pos h, decide_eq_false (by omega)]; rfl
  · rw [if_neg h, decide_eq_true (by omega)]; split <;> rfl
theorem c_le (hr : r ≤ 9218868437227405312) (hq : q ≤ 9218868437227405312) : (FloatKind.f64.format.order (double.word s r) (double.word t q) == some .lt || FloatKind.f64.format.order (double.word s r) (double.word t q) == some .eq) = decide (sv s r ≤ sv t q) := by
  have o : FloatKind.f64.format.order (double.word s r) (double.word t q) = _ := ord s t r q hr hq
  rw [o]
  by_cases h : sv s r < sv t q
  · rw [if_pos h, decide_eq_true (by omega)]; rfl
  · rw [if_neg h]
    by_cases h2 : sv s r = sv t q
    · rw [if_pos h2, decide_eq_true (by omega)]; rfl
    · rw [if_neg h2, decide_eq_false (by omega)]; rfl
theorem c_lt (hr : r ≤ 9218868437227405312) (hq : q ≤ 9218868437227405312) : (FloatKind.f64.format.order (double.word s r) (double.word t q) == some .lt) = decide (sv s r < sv t q) := by
  have o : FloatKind.f64.format.order (double.word s r) (double.word t q) = _ := ord s t r q hr hq
  rw [o]
  by_cases h : sv s r < sv t q
  · rw [if_pos h, decide_eq_true h]; rfl
  · rw [if_neg h, decide_eq_false h]; split <;> rfl
theorem c_gt (hr : r ≤ 9218868437227405312) (hq : q ≤ 9218868437227405312) : (FloatKind.f64.format.order (double.word s r) (double.word t q) == some .gt) = decide (sv t q < sv s r) := by
  have o : FloatKind.f64.format.order (double.word s r) (double.word t q) = _ := ord s t r q hr hq
  rw [o]
  by_cases h : sv s r < sv t q
  · rw [if_pos h, decide_eq_false (by omega)]; rfl
  · rw [if_neg h]
    by_cases h2 : sv s r = sv t q
    · rw [if_pos h2, decide_eq_false (by omega)]; rfl
    · rw [if_neg h2, decide_eq_true (by omega)]; rfl
end
theorem dt {p : Prop} [Decidable p] {b : Bool} (h : b = decide p) (hp : p) : b = true := h.trans (decide_eq_true hp)
theorem df {p : Prop} [Decidable p] {b : Bool} (h : b = decide p) (hp : ¬ p) : b = false := h.trans (decide_eq_false hp)
/-- The law. -/
theorem moves (sh x y : Nat) (A : Option Addr) (n c : Nat) (xs : List Nat) (w : World) (h : Flts w A n xs) (hn : n ≤ 140737488351232) (hxs : ∀ z ∈ xs, (Lit.float .f64 z).wf = true) (h1 : (Lit.float .f64 sh).wf = true) (h2 : (Lit.float .f64 x).wf = true) (h3 : (Lit.float .f64 y).wf = true) :
    Calls Try.prog 5 #[.agg #[.float .f64 sh, .slice A n c, .float .f64 x, .float .f64 y]] w fun e w' => e = .returned (.bool true) ∧ Below w.heap.size w w' := by
  have hsx := wf_lt h1
  have hx := wf_lt h2
  have hy := wf_lt h3
  have hxs' : ∀ z ∈ xs, z < 18446744073709551616 := fun z hz => wf_lt (hxs z hz)
  cases hs : shareB sh
  · exact moves_none sh x y xs A n c w hsx h hxs' hn (.inl hs)
  cases hb : beF sh xs with
  | none => exact moves_none sh x y xs A n c w hsx h hxs' hn (.inr hb)
  | some st =>
    obtain ⟨mn, any⟩ := st
    have ho := be_ok hsx hs hxs' hb
    have eqm := okm_eq ho
    have HR := Lib.hid hb
    rcases out_cases sh mn any x with ⟨fx, qx⟩ | ⟨fx, qx⟩ | ⟨fx, ax, qx⟩ | ⟨fx, ax, a, nx, fa, qx⟩ <;> rcases out_cases sh mn any y with ⟨fy, qy⟩ | ⟨fy, qy⟩ | ⟨fy, ay, qy⟩ | ⟨fy, ay, b, ny, fb, qy⟩
    · exact mv_11 sh x y xs A n c w hsx h hxs' hn mn any hs HR eqm hx hy (Lib.hid qx) (Lib.hid qy) (Lib.hid fx) (Lib.hid fy)
    · exact mv_13 sh x y xs A n c w hsx h hxs' hn mn any hs HR eqm hx hy (Lib.hid qx) (Lib.hid qy) (Lib.hid fx) (Lib.hid fy)
    · exact mv_10 sh x y xs A n c w hsx h hxs' hn mn any hs HR eqm hx hy y (Lib.hid qx) (Lib.hid qy) (Lib.hid fx) (Lib.hid fy)
    · exact mv_10 sh x y xs A n c w hsx h hxs' hn mn any hs HR eqm hx hy b (Lib.hid qx) (Lib.hid qy) (Lib.hid fx) (Lib.hid fy)
    · exact mv_31 sh x y xs A n c w hsx h hxs' hn mn any hs HR eqm hx hy (Lib.hid qx) (Lib.hid qy) (Lib.hid fx) (Lib.hid fy)
    · exact mv_33 sh x y xs A n c w hsx h hxs' hn mn any hs HR eqm hx hy (Lib.hid qx) (Lib.hid qy) (Lib.hid fx) (Lib.hid fy)
    · exact mv_30 sh x y xs A n c w hsx h hxs' hn mn any hs HR eqm hx hy y (Lib.hid qx) (Lib.hid qy) (Lib.hid fx) (Lib.hid fy)
    · exact mv_30 sh x y xs A n c w hsx h hxs' hn mn any hs HR eqm hx hy b (Lib.hid qx) (Lib.hid qy) (Lib.hid fx) (Lib.hid fy)
    · exact mv_01 sh x y xs A n c w hsx h hxs' hn mn any hs HR eqm hx hy x (Lib.hid qx) (Lib.hid qy) (Lib.hid fx) (Lib.hid fy)
    · exact mv_03 sh x y xs A n c w hsx h hxs' hn mn any hs HR eqm hx hy x (Lib.hid qx) (Lib.hid qy) (Lib.hid fx) (Lib.hid fy)
    · subst ax
      obtain ⟨g, q, e1, hq1⟩ := fin_of hx fx
      obtain ⟨g', q', e2, hq2⟩ := fin_of hy fy
      exact mv_00f sh x y xs A n c w hsx h hxs' hn mn hs HR eqm hx hy (Lib.hid qx) (Lib.hid qy) (Lib.hid fx) (Lib.hid fy) (by rw [e1]; exact eq_self g q (by omega)) (by rw [e2]; exact eq_self g' q' (by omega))
    · rw [ax] at ay; cases ay
    · exact mv_01 sh x y xs A n c w hsx h hxs' hn mn any hs HR eqm hx hy a (Lib.hid qx) (Lib.hid qy) (Lib.hid fx) (Lib.hid fy)
    · exact mv_03 sh x y xs A n c w hsx h hxs' hn mn any hs HR eqm hx hy a (Lib.hid qx) (Lib.hid qy) (Lib.hid fx) (Lib.hid fy)
    · rw [ax] at ay; cases ay
    · subst ax
      obtain ⟨rs, es, s0, s1, _⟩ := share_word sh hsx hs
      rcases ho with ⟨h0, _⟩ | ⟨_, gm, qm, em, hqm⟩
      · cases h0
      obtain ⟨g, q, ex, hq⟩ := fin_of hx fx
      obtain ⟨g', q', ey, hq'⟩ := fin_of hy fy
      have nx' := nx
      have ny' := ny
      rw [es, em, ex] at nx'
      rw [es, em, ey] at ny'
      obtain ⟨gn, qn, ea, N1⟩ := next_fin s0 s1 hqm hq nx' fa
      obtain ⟨gn', qn', eb, N2⟩ := next_fin s0 s1 hqm hq' ny' fb
      have l1 := N1.lt
      have l2 := N2.lt
      have up := N1.up hqm
      have down := N1.down hqm
      have m12 := N1.mono N2
      have m21 := N2.mono N1
      have G1 := c_ge (s := g) (t := gm) (r := q) (q := qm) (by omega) (by omega)
      have L2 := c_le (s := g) (t := gm) (r := q) (q := qm) (by omega) (by omega)
      have S1 := c_lt (s := gn) (t := gm) (r := qn) (q := qm) (by omega) (by omega)
      have S2 := c_gt (s := gn) (t := gm) (r := qn) (q := qm) (by omega) (by omega)
      have L3 := c_le (s := g) (t := g') (r := q) (q := q') (by omega) (by omega)
      have G4 := c_ge (s := g) (t := g') (r := q) (q := q') (by omega) (by omega)
      have S3 := c_gt (s := gn) (t := gn') (r := qn) (q := qn') (by omega) (by omega)
      have S4 := c_lt (s := gn) (t := gn') (r := qn) (q := qn') (by omega) (by omega)
      rw [← ex, ← em] at G1 L2
      rw [← ea, ← em] at S1 S2
      rw [← ex, ← ey] at L3 G4
      rw [← ea, ← eb] at S3 S4
      rcases Int.lt_trichotomy (sv g q) (sv gm qm) with c1 | c1 | c1 <;> rcases Int.lt_trichotomy (sv g q) (sv g' q') with c2 | c2 | c2
      · exact mv_t00 sh x y xs A n c w hsx h hxs' hn mn hs HR eqm hx hy a b (Lib.hid qx) (Lib.hid qy) (Lib.hid fx) (Lib.hid fy) (df G1 (by omega)) (dt L2 (by omega)) (df S2 (by have := down (by omega); omega)) (dt L3 (by omega)) (df G4 (by omega)) (df S3 (by have := m12 (by omega); omega))
      · exact mv_t01 sh x y xs A n c w hsx h hxs' hn mn hs HR eqm hx hy a b (Lib.hid qx) (Lib.hid qy) (Lib.hid fx) (Lib.hid fy) (df G1 (by omega)) (dt L2 (by omega)) (df S2 (by have := down (by omega); omega)) (dt L3 (by omega)) (dt G4 (by omega)) (df S3 (by have := m12 (by omega); omega)) (df S4 (by have := m21 (by omega); omega))
      · exact mv_t02 sh x y xs A n c w hsx h hxs' hn mn hs HR eqm hx hy a b (Lib.hid qx) (Lib.hid qy) (Lib.hid fx) (Lib.hid fy) (df G1 (by omega)) (dt L2 (by omega)) (df S2 (by have := down (by omega); omega)) (df L3 (by omega)) (dt G4 (by omega)) (df S4 (by have := m21 (by omega); omega))
      · exact mv_t10 sh x y xs A n c w hsx h hxs' hn mn hs HR eqm hx hy a b (Lib.hid qx) (Lib.hid qy) (Lib.hid fx) (Lib.hid fy) (dt G1 (by omega)) (dt L2 (by omega)) (df S1 (by have := up (by omega); omega)) (df S2 (by have := down (by omega); omega)) (dt L3 (by omega)) (df G4 (by omega)) (df S3 (by have := m12 (by omega); omega))
      · exact mv_t11 sh x y xs A n c w hsx h hxs' hn mn hs HR eqm hx hy a b (Lib.hid qx) (Lib.hid qy) (Lib.hid fx) (Lib.hid fy) (dt G1 (by omega)) (dt L2 (by omega)) (df S1 (by have := up (by omega); omega)) (df S2 (by have := down (by omega); omega)) (dt L3 (by omega)) (dt G4 (by omega)) (df S3 (by have := m12 (by omega); omega)) (df S4 (by have := m21 (by omega); omega))
      · exact mv_t12 sh x y xs A n c w hsx h hxs' hn mn hs HR eqm hx hy a b (Lib.hid qx) (Lib.hid qy) (Lib.hid fx) (Lib.hid fy) (dt G1 (by omega)) (dt L2 (by omega)) (df S1 (by have := up (by omega); omega)) (df S2 (by have := down (by omega); omega)) (df L3 (by omega)) (dt G4 (by omega)) (df S4 (by have := m21 (by omega); omega))
      · exact mv_t20 sh x y xs A n c w hsx h hxs' hn mn hs HR eqm hx hy a b (Lib.hid qx) (Lib.hid qy) (Lib.hid fx) (Lib.hid fy) (dt G1 (by omega)) (df L2 (by omega)) (df S1 (by have := up (by omega); omega)) (dt L3 (by omega)) (df G4 (by omega)) (df S3 (by have := m12 (by omega); omega))
      · exact mv_t21 sh x y xs A n c w hsx h hxs' hn mn hs HR eqm hx hy a b (Lib.hid qx) (Lib.hid qy) (Lib.hid fx) (Lib.hid fy) (dt G1 (by omega)) (df L2 (by omega)) (df S1 (by have := up (by omega); omega)) (dt L3 (by omega)) (dt G4 (by omega)) (df S3 (by have := m12 (by omega); omega)) (df S4 (by have := m21 (by omega); omega))
      · exact mv_t22 sh x y xs A n c w hsx h hxs' hn mn hs HR eqm hx hy a b (Lib.hid qx) (Lib.hid qy) (Lib.hid fx) (Lib.hid fy) (dt G1 (by omega)) (df L2 (by omega)) (df S1 (by have := up (by omega); omega)) (df L3 (by omega)) (dt G4 (by omega)) (df S4 (by have := m21 (by omega); omega))
end Go.Proofs.Ythcjkdmlaahpbaa.Moves
