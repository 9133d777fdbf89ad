/- WindowPlays: two pairs of windows; Beyond of one list; the script's calls. -/
import Derived.Test.YthcjkdmlaahpbaaDoes
import Derived.Test.YthcjkdmlaahpbaaBey
import Derived.Test.YthcjkdmlaahpbaaTypes
import Derived.Test.YthcjkdmlaahpbaaRecs
namespace Go.Proofs.Ythcjkdmlaahpbaa.Win
open Go.RowKit Go.Proofs.Ythcjkdmlaahpbaa.Aid Go.Proofs.Ythcjkdmlaahpbaa.Mem Go.Proofs.Ythcjkdmlaahpbaa.Keep Go.Proofs.Ythcjkdmlaahpbaa.Nums Go.Proofs.Ythcjkdmlaahpbaa.Types Go.Proofs.Ythcjkdmlaahpbaa.Recs Go.Proofs.Ythcjkdmlaahpbaa.Twin
set_option linter.unusedVariables false
theorem chgs_below {F : Nat → Prop} {B : Nat} {W0 W W' : World} (hb : Below B W0 W) (h : ChgS F W W') (hF : ∀ x, F x → B ≤ x) (hB : B ≤ W.heap.size) : Below B W0 W' :=
  ⟨h.os.trans hb.os, h.tape.trans hb.tape, h.output.trans hb.output, Nat.le_trans hb.size h.size, fun b hlt => (h.keep b (Nat.lt_of_lt_of_le hlt hB) (fun x => by have := hF b x; omega)).trans (hb.block b hlt)⟩
theorem win_below {W W' : World} {g B : Nat} {wd ck sm : Int} {l : List (Int × Int)} (h : Win W g B wd ck sm l) (hb : Below W.heap.size W W') : Win W' g B wd ck sm l := by
  obtain ⟨v, h1, h2⟩ := h
  exact ⟨v, h1.keep hb, h2.keep hb⟩
theorem ref_below {W W' : World} {r B : Nat} {wd ck : Int} {u : Value} {l : List (Int × Int)} (h : RefW W r B wd ck u l) (hb : Below W.heap.size W W') : RefW W' r B wd ck u l := ⟨h.blk.keep hb, h.own.keep hb⟩
/-- A new pair. -/
theorem pair_new {W : World} {g r : Nat} {wd : Int} (hw : Win W g W.heap.size wd 0 0 []) (hr : RefW W r W.heap.size wd 0 (.slice none 0 0) []) (hne : g ≠ r) (w0 : 1 ≤ wd) (w1 : wd ≤ 1048576) : ∃ F, St W g r W.heap.size wd 0 F ∧ ∀ b, F b → b = g ∨ b = r := by
  obtain ⟨v, h1, h2⟩ := hw
  have g0 := h1.lt
  have r0 := hr.blk.lt
  have hv : ∀ b, v.ownBlock = some b → False := fun b hb => by
    have a := h2.base_le b hb
    have c := h2.lt b hb
    omega
  refine ⟨_, ⟨0, 0, [], [], v, .slice none 0 0, ⟨h1, h2, hr, Rel.nil wd, fun b hb hF => ?_, g0, r0, Nat.le_refl _, by omega, w1⟩, Nat.le_refl _, rfl⟩, fun b hb => ?_⟩
  · rcases hb with rfl | hb
    · rcases hF with e | e
      · exact hne e
      · cases e
    · exact hv b hb
  · rcases hb with (hb | hb) | (hb | hb)
    · exact .inl hb
    · exact (hv b hb).elim
    · exact .inr hb
    · cases hb
/-- One pair, beside what was there. -/
def Inv1 (w0 W : World) (g r B : Nat) (wd : Int) (k : Nat) : Prop := ∃ F, St W g r B wd k F ∧ (∀ x, F x → w0.heap.size ≤ x) ∧ Below w0.heap.size w0 W
/-- Two pairs. -/
def Inv2 (w0 W : World) (g r s t B : Nat) (wd we : Int) (k m : Nat) : Prop := ∃ F G, St W g r B wd k F ∧ St W s t B we m G ∧ (∀ x, F x → ¬ G x) ∧ (∀ x, F x → w0.heap.size ≤ x) ∧ (∀ x, G x → w0.heap.size ≤ x) ∧ Below w0.heap.size w0 W
section
variable {w0 W W' : World} {g r s t B k m : Nat} {wd we : Int}
theorem Inv1.bel (h : Inv1 w0 W g r B wd k) : Below w0.heap.size w0 W := by
  obtain ⟨_, _, _, h⟩ := h
  exact h
theorem Inv2.bel (h : Inv2 w0 W g r s t B wd we k m) : Below w0.heap.size w0 W := by
  obtain ⟨_, _, _, _, _, _, _, h⟩ := h
  exact h
theorem Inv2.swap (h : Inv2 w0 W g r s t B wd we k m) : Inv2 w0 W s t g r B we wd m k := by
  obtain ⟨F, G, h1, h2, h3, h4, h5, h6⟩ := h
  exact ⟨G, F, h2, h1, fun x hx hy => h3 x hy hx, h5, h4, h6⟩
theorem does_1 (h : Inv1 w0 W g r B wd k) (c a n : Int) (hk : k ≤ 1048576) :
    Calls Try.prog 27 #[.pointer (some ⟨g, 0, none⟩), .pointer (some ⟨r, 0, none⟩), .agg #[.int .i64 c, .int .i64 a, .int .i64 n]] W fun e w' => e = .returned (.bool true) ∧ Inv1 w0 w' g r B wd (k + 1) := by
  obtain ⟨F, h1, h2, h3⟩ := h
  refine (does_st c a n h1 hk).mono fun e w' ⟨he, F', hs, hc, hf⟩ => ⟨he, F', hs, fun x hx => ?_, chgs_below h3 hc h2 h3.size⟩
  rcases hf x hx with hx | hx
  · exact h2 x hx
  · exact Nat.le_trans h3.size hx
theorem does_2 (h : Inv2 w0 W g r s t B wd we k m) (c a n : Int) (hk : k ≤ 1048576) :
    Calls Try.prog 27 #[.pointer (some ⟨g, 0, none⟩), .pointer (some ⟨r, 0, none⟩), .agg #[.int .i64 c, .int .i64 a, .int .i64 n]] W fun e w' => e = .returned (.bool true) ∧ Inv2 w0 w' g r s t B wd we (k + 1) m := by
  obtain ⟨F, G, h1, h2, h3, h4, h5, h6⟩ := h
  refine (does_st c a n h1 hk).mono fun e w' ⟨he, F', hs, hc, hf⟩ => ⟨he, F', G, hs, h2.chg hc (fun x hg hF => h3 x hF hg), fun x hx hg => ?_, fun x hx => ?_, h5, chgs_below h6 hc h4 h6.size⟩
  · rcases hf x hx with hx | hx
    · exact h3 x hx hg
    · have := h2.lt hg
      omega
  · rcases hf x hx with hx | hx
    · exact h4 x hx
    · exact Nat.le_trans h6.size hx
theorem does_2' (h : Inv2 w0 W g r s t B wd we k m) (c a n : Int) (hm : m ≤ 1048576) :
    Calls Try.prog 27 #[.pointer (some ⟨s, 0, none⟩), .pointer (some ⟨t, 0, none⟩), .agg #[.int .i64 c, .int .i64 a, .int .i64 n]] W fun e w' => e = .returned (.bool true) ∧ Inv2 w0 w' g r s t B wd we k (m + 1) :=
  (does_2 h.swap c a n hm).mono fun e w' ⟨he, h⟩ => ⟨he, h.swap⟩
end
theorem load_op (v : Value) : Instr.loadAt 61 v = LA 61 v := rfl
theorem at_op {w : World} {A : Option Addr} {n : Nat} {xs : List Opp} (h : Recs w 3 A n (xs.map Opp.list)) {j : Nat} (hj : j < n) : ∃ ad x, A = some ad ∧ xs[j]? = some x ∧ ∀ w', Below w.heap.size w w' → (LA 61 (.pointer (some (ad.add (j * 3))))).run Try.prog w' = .ok (.agg #[.int .i64 x.k, .int .i64 x.t, .int .i64 x.n]) w' := by
  obtain ⟨ad, l, rfl, hl, hc, hcell⟩ := h.at_ hj
  rw [List.getElem?_map] at hl
  obtain ⟨x, hx, rfl⟩ := Option.map_eq_some_iff.1 hl
  refine ⟨ad, x, rfl, hx, fun w' hb => loads_at (l := [.int .i64 x.k, .int .i64 x.t, .int .i64 x.n]) (s := []) Try.underlying61 rfl (by show _ = some 3; kernel_rfl) fun i v hv => ?_⟩
  rw [add_add]
  rw [List.append_nil] at hv
  have hv' := hcell i v hv
  exact (hb.cell (World.block_lt_of_cell? w _ hv')).trans hv'
theorem box1 (w : World) (a : Int) (t : TypeId) : Ints (w.alloc (.cells #[.int .i64 a] t)) .i64 (some ⟨w.heap.size, 0, none⟩) 1 [a] :=
  Ints.of_blk (Blk.new w t [.int .i64 a]) (by intro j y hy; match j with | 0 => simpa using hy | j + 1 => simp at hy)
theorem beyond1 (a : Nat) (w : World) (t : TypeId) (ha : a ≤ 140737488351232) (x : Bool) (hx : decide (1048576 < a) = x) : Calls Try.prog 25 #[.slice (some ⟨w.heap.size, 0, none⟩) 1 1] (w.alloc (.cells #[.int .i64 (a : Int)] t)) fun e w' => e = .returned (.bool x) ∧ w.alloc (.cells #[.int .i64 (a : Int)] t) = w' := by
  refine (beyond_c [(a : Int)] _ 1 1 _ (box1 w a t) (by simp; omega) (by decide)).mono fun e w' ⟨h, k⟩ => ⟨?_, k⟩
  rw [h]
  subst hx
  congr 2
  have e : tot [(a : Int)] = (a : Int) := by simp [tot]
  rw [e, decide_eq_decide]
  omega
end Go.Proofs.Ythcjkdmlaahpbaa.Win
