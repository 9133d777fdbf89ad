/- FareDear: the join of the walks, by what Price tells. -/
import Derived.Test.YtfehdajjnbehdaaDearA
import Derived.Test.YtfehdajjnbehdaaDearB
import Derived.Test.YtfehdajjnbehdaaDearC
import Derived.Test.YtfehdajjnbehdaaDearD
import Derived.Test.YtfehdajjnbehdaaTypes2
namespace Go.Proofs.Ytfehdajjnbehdaa.Dear
open Go.RowKit Go.Proofs.Ytfehdajjnbehdaa.Aid Go.Proofs.Ytfehdajjnbehdaa.Mem Go.Proofs.Ytfehdajjnbehdaa.Fl Go.Proofs.Ytfehdajjnbehdaa.Dist Go.Proofs.Ytfehdajjnbehdaa.Types Go.Proofs.Ytfehdajjnbehdaa.Price Go.Proofs.Ytfehdajjnbehdaa.Round
open Ieee (double Toward Format)
set_option linter.unusedVariables false
theorem dst_turn (a b c d : Int) : dst c d a b = dst a b c d := by unfold dst; omega
theorem pr_turn {a b : Req} {s : Bool} {k : Nat} {v e : Int} (h : Pr a s k v e) : Pr (⟨b.i0, b.i1, b.i2, b.i3, b.i4, b.i5, b.i6, b.i7, a.tx, a.ty, a.fx, a.fy, a.seats, b.classes, b.base, b.ttl⟩ : Req) s k v e := by
  unfold Pr Price.Good baseN at *
  dsimp only at *
  rw [dst_turn a.fx a.fy a.tx a.ty]
  exact h
theorem g0_of {D s : Int} (d1 : 0 ≤ D) (d2 : D ≤ 131070) (s1 : 0 ≤ s) (s2 : s ≤ 255) : ((250 + 10 * D + 100 * (s - 1)) != IntKind.i64.wrap (IntKind.i64.wrap (250 + IntKind.i64.wrap (10 * D)) + IntKind.i64.wrap (100 * IntKind.i64.wrap (IntKind.i64.wrap s - 1)))) = false := by
  rw [i64_in (n := 10 * D) (by omega) (by omega), i64_in (n := 250 + 10 * D) (by omega) (by omega), i64_in (n := s) (by omega) (by omega), i64_in (n := s - 1) (by omega) (by omega), i64_in (n := 100 * (s - 1)) (by omega) (by omega), i64_in (by omega) (by omega)]
  simp
theorem one_good {a : Req} (hs : 0 < a.seats) : Price.Good a false 4607182418800017408 := ⟨hs, rfl, by decide, by decide⟩
theorem f_cases {b : Req} {s : Bool} {k : Nat} {m f : Int} (hb : Rq b) (h : Pr b s k m f) : f = 0 ∨ f = 1 ∧ m = 0 := by
  by_cases hg : Price.Good b s k
  · have hs := hg.2.1
    subst hs
    exact .inl (pr_good hb hg h).1
  · have := pr_bad hg h
    exact .inr ⟨this.2, this.1⟩
theorem c3_eq (k l : Nat) (hk : k ≤ 9218868437227405312) (hl : l ≤ 9218868437227405312) : (FloatKind.f64.format.order (double.word false k) (double.word false l) == some .lt || FloatKind.f64.format.order (double.word false k) (double.word false l) == some .eq) = decide (k ≤ l) := by
  have o : FloatKind.f64.format.order (double.word false k) (double.word false l) = _ := ordp k l hk hl
  rw [o]
  by_cases h : k ≤ l
  · have := V_le h
    rw [decide_eq_true h]
    split
    · rfl
    · rw [if_pos (by omega)]; rfl
  · have : V l < V k := V_lt (by omega)
    rw [decide_eq_false h, if_neg (by omega), if_neg (by omega)]
    rfl
/-- FareDear answers true. -/
theorem dears (a b : Req) (s : Sur) (w : World) (wa : a.wf) (wb : b.wf) (ws : s.wf) : Calls Try.prog 7 #[a.val, b.val, s.val] w fun e w' => e = .returned (.bool true) ∧ Below w.heap.size w w' := by
  obtain ⟨x, y⟩ := s
  obtain ⟨sx, kx, e1, hx⟩ := word_of x (wf_lt ws.px)
  obtain ⟨sy, ky, e2, hy⟩ := word_of y (wf_lt ws.py)
  subst e1 e2
  clear ws
  have qa := Rq.of wa
  have qb := Rq.of wb
  obtain ⟨v, e, px⟩ := pr_any a sx kx qa
  obtain ⟨m, f, py⟩ := pr_any b sy ky qb
  obtain ⟨o, g, p1⟩ := pr_any a false 4607182418800017408 qa
  have pc := pr_turn (b := b) px
  have qc : Rq (⟨b.i0, b.i1, b.i2, b.i3, b.i4, b.i5, b.i6, b.i7, a.tx, a.ty, a.fx, a.fy, a.seats, b.classes, b.base, b.ttl⟩ : Req) := ⟨qa.tx, qa.ty, qa.fx, qa.fy, qa.seats⟩
  have hf := f_cases qb py
  obtain ⟨d1, d2⟩ := dst_bound qa.fx qa.fy qa.tx qa.ty
  obtain ⟨d3, d4⟩ := dst_bound qb.fx qb.fy qb.tx qb.ty
  obtain ⟨t1, t2⟩ := qa.seats
  have g0 := g0_of d1 d2 t1 t2
  have HX := Lib.hid px
  have HY := Lib.hid py
  have H1 := Lib.hid p1
  have HC := Lib.hid pc
  have HDA := Lib.hid (rfl : dst a.fx a.fy a.tx a.ty = dst a.fx a.fy a.tx a.ty)
  have HDB := Lib.hid (rfl : dst b.fx b.fy b.tx b.ty = dst b.fx b.fy b.tx b.ty)
  by_cases hs : 0 < a.seats
  · obtain ⟨rfl, _, _, _, _, _, _, _, _, ho⟩ := pr_good qa (one_good hs) p1
    have ho := ho rfl
    unfold baseN at ho
    subst ho
    by_cases hn : 9218868437227405312 < kx
    · have hg : ¬ Price.Good a sx kx := fun h => by have := h.2.2.2; omega
      obtain ⟨rfl, rfl⟩ := pr_bad hg px
      refine dear_b1 a b sx sy kx ky 0 m _ _ w qa qb hx hy f HX HY H1 HC HDA HDB hf d1 d2 d3 d4 hs g0 ?_
      have o1 : FloatKind.f64.format.order (double.word sx kx) 4607182418800017408 = none := ord_nan sx kx _ hn hx
      rw [o1]; rfl
    · obtain ⟨_, _, c1, c2⟩ := surge_tests sx kx (by omega)
      by_cases h1 : sx = false ∧ 4607182418800017408 ≤ kx
      · rw [decide_eq_true h1] at c1
        by_cases h2 : sx = false ∧ 4613937818241073152 < kx
        · rw [decide_eq_true h2] at c2
          have hg : ¬ Price.Good a sx kx := fun h => by have := h.2.2.2; omega
          obtain ⟨rfl, rfl⟩ := pr_bad hg px
          exact dear_b2 a b sx sy kx ky 0 m _ _ w qa qb hx hy f HX HY H1 HC HDA HDB hf d1 d2 d3 d4 hs g0 c1 c2
        · rw [decide_eq_false h2] at c2
          obtain ⟨rfl, h1⟩ := h1
          have hg : Price.Good a false kx := ⟨hs, rfl, h1, by have : ¬ 4613937818241073152 < kx := fun h => h2 ⟨rfl, h⟩; omega⟩
          obtain ⟨rfl, _, _, _, _, _, _, g1, g2, _⟩ := pr_good qa hg px
          by_cases hgb : Price.Good b sy ky
          · have hsy := hgb.2.1
            subst hsy
            obtain ⟨rfl, _, _, _, _, _, _, _, _, _⟩ := pr_good qb hgb py
            have c3 := c3_eq kx ky (by omega) (by have := hgb.2.2.2; omega)
            by_cases h3 : kx ≤ ky
            · rw [decide_eq_true h3] at c3
              by_cases h4 : a.seats ≤ b.seats
              · by_cases h5 : dst a.fx a.fy a.tx a.ty ≤ dst b.fx b.fy b.tx b.ty
                · have h6 := pr_mono qa qb hg hgb px py h3 (by unfold baseN; omega)
                  exact dear_d4 a b false false kx ky v m _ _ w qa qb hx hy HX HY H1 HC HDA HDB d1 d2 d3 d4 hs g0 qc c1 c2 g1 g2 c3 h4 (decide_eq_true h4) h5 (decide_eq_true h5) h6 (decide_eq_false (by omega))
                · exact dear_d3 a b false false kx ky v m _ _ w qa qb hx hy HX HY H1 HC HDA HDB d1 d2 d3 d4 hs g0 qc c1 c2 g1 g2 c3 h4 (decide_eq_true h4) (decide_eq_false h5)
              · exact dear_d2 a b false false kx ky v m _ _ w qa qb hx hy HX HY H1 HC HDA HDB d1 d2 d3 d4 hs g0 qc c1 c2 g1 g2 c3 (by omega) (decide_eq_false h4)
            · rw [decide_eq_false h3] at c3
              exact dear_d1 a b false false kx ky v m _ _ w qa qb hx hy HX HY H1 HC HDA HDB d1 d2 d3 d4 hs g0 qc c1 c2 g1 g2 c3
          · obtain ⟨rfl, rfl⟩ := pr_bad hgb py
            exact dear_c a b false sy kx ky v 0 _ _ w qa qb hx hy HX HY H1 HC HDA HDB d1 d2 d3 d4 hs g0 c1 c2
      · rw [decide_eq_false h1] at c1
        have hg : ¬ Price.Good a sx kx := fun h => h1 ⟨h.2.1, h.2.2.1⟩
        obtain ⟨rfl, rfl⟩ := pr_bad hg px
        exact dear_b1 a b sx sy kx ky 0 m _ _ w qa qb hx hy f HX HY H1 HC HDA HDB hf d1 d2 d3 d4 hs g0 c1
  · have hg : ∀ s k, ¬ Price.Good a s k := fun s k h => hs h.1
    obtain ⟨rfl, rfl⟩ := pr_bad (hg _ _) px
    obtain ⟨rfl, rfl⟩ := pr_bad (hg _ _) p1
    exact dear_a a b sx sy kx ky 0 m _ _ w qa qb hx hy f HX HY H1 HC HDA HDB hf (by omega) (decide_eq_false hs)
end Go.Proofs.Ytfehdajjnbehdaa.Dear
