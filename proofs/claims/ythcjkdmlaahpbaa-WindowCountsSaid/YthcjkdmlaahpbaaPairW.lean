/- Two windows side by side, the program's and the document's: which blocks they have, and what a call of both does to them. -/
import Derived.Test.YthcjkdmlaahpbaaPlayP
import Derived.Test.YthcjkdmlaahpbaaDivW
namespace Go.Proofs.Ythcjkdmlaahpbaa.Win
open Go.RowKit Go.Proofs.Ythcjkdmlaahpbaa.Aid Go.Proofs.Ythcjkdmlaahpbaa.Mem Go.Proofs.Ythcjkdmlaahpbaa.Keep Go.Proofs.Ythcjkdmlaahpbaa.Nums Go.Proofs.Ythcjkdmlaahpbaa.Fl
set_option linter.unusedVariables false
/-- The blocks of both. -/
def FP (g r : Nat) (v u : Value) (b : Nat) : Prop := (b = g ∨ v.ownBlock = some b) ∨ FR r u b
structure PairW (W : World) (g r B : Nat) (wd ck sm : Int) (l All : List (Int × Int)) (v u : Value) : Prop where
  bg : Blk W g 71 [.int .i64 wd, .int .i64 ck, .int .i64 sm, v]
  og : Own W B 83 2 v l.length (cellsA l)
  ref : RefW W r B wd ck u All
  rel : Rel wd ck sm l All
  dis : ∀ b, (b = g ∨ v.ownBlock = some b) → ¬ FR r u b
  gB : g < B
  rB : r < B
  BW : B ≤ W.heap.size
  w0 : 0 < wd
  w1 : wd ≤ 1048576
theorem own_at {W W' : World} {B : Nat} {e : TypeId} {s n : Nat} {v : Value} {l : List Value} (h : Own W B e s v n l) (hk : ∀ b, v.ownBlock = some b → W'.heap[b]? = W.heap[b]?) : Own W' B e s v n l := by
  refine ⟨h.1, ?_⟩
  rcases h.2 with h0 | ⟨b, cap, cur, rfl, hb, hh, h1, h2, h3, h4⟩
  · exact .inl h0
  · exact .inr ⟨b, cap, cur, rfl, hb, (hk b rfl).trans hh, h1, h2, h3, h4⟩
section
variable {W W' w1 w2 : World} {g r B k : Nat} {wd ck sm ck' sm' : Int} {l All l' All' : List (Int × Int)} {v u u' : Value}
theorem PairW.lt (h : PairW W g r B wd ck sm l All v u) {b : Nat} (hb : FP g r v u b) : b < W.heap.size := by
  rcases hb with (rfl | hb) | (rfl | hb)
  · exact h.bg.lt
  · exact h.og.lt b hb
  · exact h.ref.blk.lt
  · exact h.ref.own.lt b hb
theorem PairW.at_ (h : PairW W g r B wd ck sm l All v u) (hk : ∀ b, FP g r v u b → W'.heap[b]? = W.heap[b]?) (hs : W.heap.size ≤ W'.heap.size) : PairW W' g r B wd ck sm l All v u where
  bg := (hk g (.inl (.inl rfl))).trans h.bg
  og := own_at h.og (fun b hb => hk b (.inl (.inr hb)))
  ref := ⟨(hk r (.inr (.inl rfl))).trans h.ref.blk, own_at h.ref.own (fun b hb => hk b (.inr (.inr hb)))⟩
  rel := h.rel
  dis := h.dis
  gB := h.gB
  rB := h.rB
  BW := Nat.le_trans h.BW hs
  w0 := h.w0
  w1 := h.w1
theorem PairW.below (h : PairW W g r B wd ck sm l All v u) (hb : Below W.heap.size W W') : PairW W' g r B wd ck sm l All v u := h.at_ (fun b hF => hb.block b (h.lt hF)) hb.size
theorem PairW.dr (h : PairW W g r B wd ck sm l All v u) (hb : Dr W W') : PairW W' g r B wd ck sm l All v u := by
  obtain ⟨n, rfl⟩ := hb
  exact h.at_ (fun _ _ => rfl) (Nat.le_refl _)
theorem PairW.chg {F : Nat → Prop} (h : PairW W g r B wd ck sm l All v u) (hc : ChgS F W W') (hF : ∀ b, FP g r v u b → ¬ F b) : PairW W' g r B wd ck sm l All v u := h.at_ (fun b hb => hc.keep b (h.lt hb) (hF b hb)) hc.size
theorem PairW.win (h : PairW W g r B wd ck sm l All v u) : Win W g B wd ck sm l := ⟨v, h.bg, h.og⟩
theorem PairW.ask (h : PairW W g r B wd ck sm l All v u) {t : Int} (ha : atE wd ck t = 0) (hl : All.length ≤ 4294967296) : ck ≤ t ∧ Ask W g B wd ck sm l t ∧ RAsk All wd t := by
  have w0 := h.w0
  unfold atE at ha
  rw [if_neg (by omega)] at ha
  by_cases h1 : t < 0 ∨ 1099511627776 < t
  · rw [if_pos h1] at ha; omega
  · rw [if_neg h1] at ha
    by_cases h2 : t < ck
    · rw [if_pos h2] at ha; omega
    · have hc : ck ≤ t := by omega
      refine ⟨hc, ⟨h.win, h.gB, h.BW, h.rel.lok, Nat.le_trans h.rel.len hl, h.rel.sum, by omega, by omega, w0, h.w1, hc⟩, h.rel.rask hc (by omega) (by omega) w0 h.w1 hl⟩
/-- Both, whatever they hold; F: the blocks that are theirs. -/
def St (W : World) (g r B : Nat) (wd : Int) (k : Nat) (F : Nat → Prop) : Prop := ∃ ck sm l All v u, PairW W g r B wd ck sm l All v u ∧ All.length ≤ k ∧ F = FP g r v u
/-- What a call of both leaves. -/
def Goes (W : World) (g r B : Nat) (wd : Int) (k : Nat) (F : Nat → Prop) (W' : World) : Prop := ∃ F', St W' g r B wd k F' ∧ ChgS F W W' ∧ ∀ b, F' b → F b ∨ W.heap.size ≤ b
theorem pair_step (h : PairW W g r B wd ck sm l All v u) (hw : Win w1 g W.heap.size wd ck' sm' l') (hc : Chg g W w1) (hr : RefW w2 r B wd ck' u' All') (hat : u'.ownBlock = u.ownBlock ∨ ∃ b, u'.ownBlock = some b ∧ w1.heap.size ≤ b)
    (hs : ChgS (FR r u) w1 w2) (hrel : Rel wd ck' sm' l' All') (hl : All'.length ≤ k) : Goes W g r B wd k (FP g r v u) w2 := by
  obtain ⟨v', b1, o1⟩ := hw
  have hg := h.dis g (.inl rfl)
  have hgr : g ≠ r := fun e => hg (.inl e)
  have gW := h.bg.lt
  have rW := h.ref.blk.lt
  have s1 := hc.size
  have uW : ∀ b, u.ownBlock = some b → b < W.heap.size := fun b hb => h.ref.own.lt b hb
  have vlo : ∀ b, v'.ownBlock = some b → W.heap.size ≤ b := fun b hb => o1.base_le b hb
  have vhi : ∀ b, v'.ownBlock = some b → b < w1.heap.size := fun b hb => o1.lt b hb
  have nF : ∀ b, v'.ownBlock = some b → ¬ FR r u b := fun b hb hF => by
    have := vlo b hb
    rcases hF with rfl | hF
    · omega
    · have := uW b hF; omega
  have hcg : ∀ b, b < W.heap.size → ¬ FP g r v u b → w2.heap[b]? = W.heap[b]? := fun b hb hF =>
    (hs.keep b (Nat.lt_of_lt_of_le hb s1) (fun x => hF (.inr x))).trans (hc.keep b hb (fun e => hF (.inl (.inl e))))
  refine ⟨FP g r v' u', ⟨ck', sm', l', All', v', u', ⟨?_, ?_, hr, hrel, ?_, h.gB, h.rB, Nat.le_trans h.BW (Nat.le_trans s1 hs.size), h.w0, h.w1⟩, hl, rfl⟩, ⟨Nat.le_trans s1 hs.size, hcg, hs.os.trans hc.os, hs.tape.trans hc.tape, hs.output.trans hc.output⟩, ?_⟩
  · exact (hs.keep g (Nat.lt_of_lt_of_le gW s1) hg).trans b1
  · exact own_mono (own_at o1 (fun b hb => hs.keep b (vhi b hb) (nF b hb))) h.BW
  · intro b hb hF
    rcases hb with rfl | hb
    · rcases hF with e | hF
      · exact hgr e
      · rcases hat with e | ⟨c, e, hc2⟩
        · exact hg (.inr (e ▸ hF))
        · rw [e] at hF
          have := Option.some.inj hF
          omega
    · rcases hF with rfl | hF
      · have := vlo _ hb; omega
      · rcases hat with e | ⟨c, e, hc2⟩
        · exact nF b hb (.inr (e ▸ hF))
        · rw [e] at hF
          have := Option.some.inj hF
          have := vhi b hb
          omega
  · intro b hb
    rcases hb with (rfl | hb) | (rfl | hb)
    · exact .inl (.inl (.inl rfl))
    · exact .inr (vlo b hb)
    · exact .inl (.inr (.inl rfl))
    · rcases hat with e | ⟨c, e, hc2⟩
      · exact .inl (.inr (.inr (e ▸ hb)))
      · rw [e] at hb
        have := Option.some.inj hb
        exact .inr (by omega)
theorem pair_same (h : PairW W g r B wd ck sm l All v u) (hd : Dr W w2) (hl : All.length ≤ k) : Goes W g r B wd k (FP g r v u) w2 :=
  ⟨_, ⟨ck, sm, l, All, v, u, h.dr hd, hl, rfl⟩, ChgS.of_dr hd, fun _ hb => .inl hb⟩
theorem Goes.alloc {F : Nat → Prop} {o : Obj} (h : Goes (W.alloc o) g r B wd k F w2) : Goes W g r B wd k F w2 := by
  obtain ⟨F', h1, h2, h3⟩ := h
  refine ⟨F', h1, ⟨?_, fun b hb hF => ?_, h2.os, h2.tape, h2.output⟩, fun b hb => ?_⟩
  · have := h2.size
    rw [size_alloc] at this
    omega
  · exact (h2.keep b (by rw [size_alloc]; omega) hF).trans (Below.heap_alloc W o b hb)
  · rcases h3 b hb with h | h
    · exact .inl h
    · rw [size_alloc] at h
      exact .inr (by omega)
theorem Goes.drew {F : Nat → Prop} (h : Goes W.drew g r B wd k F w2) : Goes W g r B wd k F w2 := by
  obtain ⟨F', h1, h2, h3⟩ := h
  exact ⟨F', h1, ⟨h2.size, h2.keep, h2.os, h2.tape, h2.output⟩, h3⟩
theorem Goes.dr {F : Nat → Prop} (h : Goes W g r B wd k F w1) (hd : Dr w1 w2) : Goes W g r B wd k F w2 := by
  obtain ⟨F', ⟨ck, sm, l, All, v, u, hp, hl, e⟩, h2, h3⟩ := h
  exact ⟨F', ⟨ck, sm, l, All, v, u, hp.dr hd, hl, e⟩, h2.trans (ChgS.of_dr hd), h3⟩
theorem St.chg {F FA : Nat → Prop} (h : St W g r B wd k F) (hc : ChgS FA W W') (hd : ∀ b, F b → ¬ FA b) : St W' g r B wd k F := by
  obtain ⟨ck, sm, l, All, v, u, hp, hl, rfl⟩ := h
  exact ⟨ck, sm, l, All, v, u, hp.chg hc hd, hl, rfl⟩
theorem St.lt {F : Nat → Prop} (h : St W g r B wd k F) {b : Nat} (hb : F b) : b < W.heap.size := by
  obtain ⟨ck, sm, l, All, v, u, hp, hl, rfl⟩ := h
  exact hp.lt hb
theorem St.more {F : Nat → Prop} {k' : Nat} (h : St W g r B wd k F) (hk : k ≤ k') : St W g r B wd k' F := by
  obtain ⟨ck, sm, l, All, v, u, hp, hl, e⟩ := h
  exact ⟨ck, sm, l, All, v, u, hp, Nat.le_trans hl hk, e⟩
theorem St.below {F : Nat → Prop} (h : St W g r B wd k F) (hb : Below W.heap.size W W') : St W' g r B wd k F := by
  obtain ⟨ck, sm, l, All, v, u, hp, hl, e⟩ := h
  exact ⟨ck, sm, l, All, v, u, hp.below hb, hl, e⟩
theorem chg_cell (hc : Chg g W W') {a : Addr} {x : Value} (h : W.cell? a = some x) (hne : a.block ≠ g) : W'.cell? a = some x :=
  (World.cell?_of_block (hc.keep a.block (World.block_lt_of_cell? W a h) hne)).trans h
theorem chgs_cell {F : Nat → Prop} (hc : ChgS F W W') {a : Addr} {x : Value} (h : W.cell? a = some x) (hne : ¬ F a.block) : W'.cell? a = some x :=
  (World.cell?_of_block (hc.keep a.block (World.block_lt_of_cell? W a h) hne)).trans h
end
theorem rate_q (s wd : Int) (s0 : 0 ≤ s) (s1 : s ≤ 4611686018427387903) (w0 : 0 < wd) (w1 : wd ≤ 1048576) : ∃ q, floatBits .quo .f64 (floatOfInt .f64 s) (floatOfInt .f64 wd) = some q ∧ (FloatKind.f64.format.order q q == some .eq) = true := by
  obtain ⟨a, e1, i1⟩ := int_isN s
  obtain ⟨b, e2, i2⟩ := int_isN wd
  rw [decide_eq_false (by omega)] at e1 e2
  obtain ⟨a1, _⟩ := int_rung i1 (by omega)
  obtain ⟨b1, b2⟩ := int_rung i2 (by omega)
  obtain ⟨p, d1, d2⟩ := div_word false false a b (by omega) (by omega) (b2 (by omega))
  rw [show (false ^^ false) = false from rfl, word_f p] at d1
  refine ⟨p, by rw [e1, e2]; exact d1, ?_⟩
  have o : FloatKind.f64.format.order (Ieee.double.word false p) (Ieee.double.word false p) = _ := ord false false p p d2.le d2.le
  rw [word_f, if_neg (by omega), if_pos rfl] at o
  rw [o]
  rfl
end Go.Proofs.Ythcjkdmlaahpbaa.Win
