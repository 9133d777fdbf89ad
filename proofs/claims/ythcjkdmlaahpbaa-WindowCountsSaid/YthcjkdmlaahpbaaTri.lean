/- WindowCounts: three windows and the list of steps. -/
import Derived.Test.YthcjkdmlaahpbaaLater
namespace Go.Proofs.Ythcjkdmlaahpbaa.Win
open Go.RowKit Go.Proofs.Ythcjkdmlaahpbaa.Aid Go.Proofs.Ythcjkdmlaahpbaa.Mem Go.Proofs.Ythcjkdmlaahpbaa.Keep Go.Proofs.Ythcjkdmlaahpbaa.Nums Go.Proofs.Ythcjkdmlaahpbaa.Fl
set_option linter.unusedVariables false
/-- Each amount in two pieces. -/
def hv : List (Int × Int) → List (Int × Int)
  | [] => []
  | p :: l => (p.1, p.2.tdiv 3) :: (p.1, p.2 - p.2.tdiv 3) :: hv l
theorem hv_gt (x : Int) : ∀ l, gt x (hv l) = gt x l
  | [] => rfl
  | p :: l => by
    rw [hv, gt, gt, gt, hv_gt x l]
    dsimp only
    split <;> omega
theorem hv_app (b : List (Int × Int)) : ∀ a, hv (a ++ b) = hv a ++ hv b
  | [] => rfl
  | p :: a => by rw [List.cons_append, hv, hv, hv_app b a]; rfl
theorem hv_len : ∀ l, (hv l).length = 2 * l.length
  | [] => rfl
  | p :: l => by rw [hv, List.length_cons, List.length_cons, List.length_cons, hv_len l]; omega
theorem take_snoc {L : List (Int × Int)} {k : Nat} {p : Int × Int} (h : L[k]? = some p) : L.take (k + 1) = L.take k ++ [p] := by rw [List.take_add_one, h]; rfl
theorem lastT_snoc (l : List (Int × Int)) (p : Int × Int) : lastT (l ++ [p]) = p.1 := by unfold lastT; rw [List.getLast?_concat]
theorem lastT_take {L : List (Int × Int)} {k m : Nat} {T : Int} {p : Int × Int} (h : Bro L m T) (hp : L[k]? = some p) : lastT (L.take k) ≤ p.1 := by
  have hk := (List.getElem?_eq_some_iff.1 hp).1
  cases k with
  | zero => simpa [lastT] using (h.el p (List.mem_of_getElem? hp)).1
  | succ j =>
    have hj : L[j]? = some L[j] := List.getElem?_eq_getElem (by omega)
    rw [take_snoc hj, lastT_snoc]
    have hk2 := List.pairwise_iff_getElem.1 h.srt j (j + 1) (by omega) hk (Nat.lt_succ_self _)
    have e : L[j + 1] = p := by
      have := hp
      rw [List.getElem?_eq_getElem hk] at this
      exact Option.some.inj this
    rw [e] at hk2
    exact hk2
/-- Three windows and the list. -/
structure Tri (w0 W : World) (g1 g2 g3 B : Nat) (n : Int) (v : Value) (L : List (Int × Int)) (c1 s1 c2 s2 c3 s3 : Int) (A1 A2 A3 : List (Int × Int)) : Prop where
  p1 : LP W g1 B n c1 s1 A1
  p2 : LP W g2 B n c2 s2 A2
  p3 : LP W g3 B 1048576 c3 s3 A3
  row : Own W 0 66 2 v L.length (cellsA L)
  far : ∀ b, v.ownBlock = some b → b ≠ g1 ∧ b ≠ g2 ∧ b ≠ g3
  bel : Below w0.heap.size w0 W
  o1 : w0.heap.size ≤ g1
  o2 : g1 < g2
  o3 : g2 < g3
  o4 : g3 < B
  BW : B ≤ W.heap.size
  n0 : 1 ≤ n
  n1 : n ≤ 1048576
theorem LP.chg {W W' : World} {g g' B : Nat} {wd c s : Int} {A : List (Int × Int)} (h : LP W g B wd c s A) (hc : Chg g' W W') (hne : g ≠ g') (hg : g' < B) : LP W' g B wd c s A := by
  obtain ⟨l, hw, hr⟩ := h
  exact ⟨l, hc.win hw hne hg, hr⟩
theorem LP.dr {W : World} {g B : Nat} {wd c s : Int} {A : List (Int × Int)} (h : LP W g B wd c s A) (nd : Nat) : LP (W.drewN nd) g B wd c s A := by
  obtain ⟨l, hw, hr⟩ := h
  exact ⟨l, hw.drewN nd, hr⟩
theorem row_chg {W W' : World} {g : Nat} {v : Value} {n : Nat} {l : List Value} {e : TypeId} {s B : Nat} (h : Own W B e s v n l) (hc : Chg g W W') (hb : ∀ b, v.ownBlock = some b → b ≠ g) : Own W' B e s v n l :=
  own_at h (fun b e => hc.keep b (h.lt b e) (hb b e))
section
variable {w0 W W' : World} {g1 g2 g3 B : Nat} {n : Int} {v : Value} {L : List (Int × Int)} {c1 s1 c2 s2 c3 s3 : Int} {A1 A2 A3 : List (Int × Int)}
theorem Tri.dr (h : Tri w0 W g1 g2 g3 B n v L c1 s1 c2 s2 c3 s3 A1 A2 A3) (nd : Nat) : Tri w0 (W.drewN nd) g1 g2 g3 B n v L c1 s1 c2 s2 c3 s3 A1 A2 A3 :=
  ⟨h.p1.dr nd, h.p2.dr nd, h.p3.dr nd, h.row.drewN nd, h.far, below_drewN h.bel nd, h.o1, h.o2, h.o3, h.o4, h.BW, h.n0, h.n1⟩
/-- What a call of one window wants. -/
structure Can (wd c t : Int) (A : List (Int × Int)) : Prop where
  ck : c ≤ t
  t0 : 0 ≤ t
  t1 : t ≤ 1099511627776
  len : A.length ≤ 4294967296
theorem add_all {g : Nat} {wd c s t m : Int} {A : List (Int × Int)} (h : LP W g B wd c s A) (gB : g < B) (BW : B ≤ W.heap.size) (w0 : 1 ≤ wd) (w1 : wd ≤ 1048576) (hc : Can wd c t A) (m0 : 0 ≤ m) (m1 : m ≤ 4611686018427387903) (hf : gt (t - wd) A + m ≤ 4611686018427387903) :
    Calls Try.prog 12 #[.pointer (some ⟨g, 0, none⟩), .int .i64 t, .int .i64 m] W fun x w' => x = .returned (.int .i64 0) ∧ LP w' g B wd t (gt (t - wd) A + m) (A ++ [(t, m)]) ∧ Chg g W w' := by
  obtain ⟨l, hw, hr⟩ := h
  have ha := rel_ask hw hr gB BW (by omega) w1 hc.len hc.ck hc.t0 hc.t1
  have now := hr.now hc.ck
  refine (add_ok W g B wd c s l t m ha m0 m1 (by rw [now]; exact hf)).mono fun x w' ⟨e, hw', hc'⟩ => ⟨e, ?_, hc'⟩
  have hr' := hr.added hc.ck hc.t0 hc.t1 m0 (by rw [now]; exact hf)
  rw [now] at hw' hr'
  exact ⟨_, hw'.mono BW, hr'⟩
theorem sum_one {g : Nat} {wd c s t S : Int} {A : List (Int × Int)} (h : LP W g B wd c s A) (gB : g < B) (BW : B ≤ W.heap.size) (w0 : 1 ≤ wd) (w1 : wd ≤ 1048576) (hc : Can wd c t A) (hS : Hid (gt (t - wd) A = S)) :
    Calls Try.prog 14 #[.pointer (some ⟨g, 0, none⟩), .int .i64 t] W fun x w' => x = .returned (.tuple #[.int .i64 S, .int .i64 0]) ∧ LP w' g B wd t S A ∧ Chg g W w' := by
  obtain ⟨l, hw, hr⟩ := h
  have ha := rel_ask hw hr gB BW (by omega) w1 hc.len hc.ck hc.t0 hc.t1
  exact sum_all ha hr hS
theorem Tri.put1 (h : Tri w0 W g1 g2 g3 B n v L c1 s1 c2 s2 c3 s3 A1 A2 A3) {c s : Int} {A : List (Int × Int)} (hp : LP W' g1 B n c s A) (hc : Chg g1 W W') : Tri w0 W' g1 g2 g3 B n v L c s c2 s2 c3 s3 A A2 A3 := by
  have o1 := h.o1; have o2 := h.o2; have o3 := h.o3; have o4 := h.o4
  exact ⟨hp, h.p2.chg hc (by omega) (by omega), h.p3.chg hc (by omega) (by omega), row_chg h.row hc (fun b e => (h.far b e).1), h.far, Chg.below h.bel hc o1 h.bel.size, o1, o2, o3, o4, Nat.le_trans h.BW hc.size, h.n0, h.n1⟩
theorem Tri.put2 (h : Tri w0 W g1 g2 g3 B n v L c1 s1 c2 s2 c3 s3 A1 A2 A3) {c s : Int} {A : List (Int × Int)} (hp : LP W' g2 B n c s A) (hc : Chg g2 W W') : Tri w0 W' g1 g2 g3 B n v L c1 s1 c s c3 s3 A1 A A3 := by
  have o1 := h.o1; have o2 := h.o2; have o3 := h.o3; have o4 := h.o4
  exact ⟨h.p1.chg hc (by omega) (by omega), hp, h.p3.chg hc (by omega) (by omega), row_chg h.row hc (fun b e => (h.far b e).2.1), h.far, Chg.below h.bel hc (by omega) h.bel.size, o1, o2, o3, o4, Nat.le_trans h.BW hc.size, h.n0, h.n1⟩
theorem Tri.put3 (h : Tri w0 W g1 g2 g3 B n v L c1 s1 c2 s2 c3 s3 A1 A2 A3) {c s : Int} {A : List (Int × Int)} (hp : LP W' g3 B 1048576 c s A) (hc : Chg g3 W W') : Tri w0 W' g1 g2 g3 B n v L c1 s1 c2 s2 c s A1 A2 A := by
  have o1 := h.o1; have o2 := h.o2; have o3 := h.o3; have o4 := h.o4
  exact ⟨h.p1.chg hc (by omega) (by omega), h.p2.chg hc (by omega) (by omega), hp, row_chg h.row hc (fun b e => (h.far b e).2.2), h.far, Chg.below h.bel hc (by omega) h.bel.size, o1, o2, o3, o4, Nat.le_trans h.BW hc.size, h.n0, h.n1⟩
theorem add_1 (h : Tri w0 W g1 g2 g3 B n v L c1 s1 c2 s2 c3 s3 A1 A2 A3) {t m : Int} (hc : Can n c1 t A1) (m0 : 0 ≤ m) (m1 : m ≤ 4611686018427387903) (hf : gt (t - n) A1 + m ≤ 4611686018427387903) :
    Calls Try.prog 12 #[.pointer (some ⟨g1, 0, none⟩), .int .i64 t, .int .i64 m] W fun x w' => x = .returned (.int .i64 0) ∧ Tri w0 w' g1 g2 g3 B n v L t (gt (t - n) A1 + m) c2 s2 c3 s3 (A1 ++ [(t, m)]) A2 A3 :=
  (add_all h.p1 (by have := h.o2; have := h.o3; have := h.o4; omega) h.BW h.n0 h.n1 hc m0 m1 hf).mono fun x w' ⟨e, hp, hg⟩ => ⟨e, h.put1 hp hg⟩
theorem add_2 (h : Tri w0 W g1 g2 g3 B n v L c1 s1 c2 s2 c3 s3 A1 A2 A3) {t m : Int} (hc : Can n c2 t A2) (m0 : 0 ≤ m) (m1 : m ≤ 4611686018427387903) (hf : gt (t - n) A2 + m ≤ 4611686018427387903) :
    Calls Try.prog 12 #[.pointer (some ⟨g2, 0, none⟩), .int .i64 t, .int .i64 m] W fun x w' => x = .returned (.int .i64 0) ∧ Tri w0 w' g1 g2 g3 B n v L c1 s1 t (gt (t - n) A2 + m) c3 s3 A1 (A2 ++ [(t, m)]) A3 :=
  (add_all h.p2 (by have := h.o2; have := h.o3; have := h.o4; omega) h.BW h.n0 h.n1 hc m0 m1 hf).mono fun x w' ⟨e, hp, hg⟩ => ⟨e, h.put2 hp hg⟩
theorem add_3 (h : Tri w0 W g1 g2 g3 B n v L c1 s1 c2 s2 c3 s3 A1 A2 A3) {t m : Int} (hc : Can 1048576 c3 t A3) (m0 : 0 ≤ m) (m1 : m ≤ 4611686018427387903) (hf : gt (t - 1048576) A3 + m ≤ 4611686018427387903) :
    Calls Try.prog 12 #[.pointer (some ⟨g3, 0, none⟩), .int .i64 t, .int .i64 m] W fun x w' => x = .returned (.int .i64 0) ∧ Tri w0 w' g1 g2 g3 B n v L c1 s1 c2 s2 t (gt (t - 1048576) A3 + m) A1 A2 (A3 ++ [(t, m)]) :=
  (add_all h.p3 h.o4 h.BW (by decide) (by decide) hc m0 m1 hf).mono fun x w' ⟨e, hp, hg⟩ => ⟨e, h.put3 hp hg⟩
theorem sum_1 (h : Tri w0 W g1 g2 g3 B n v L c1 s1 c2 s2 c3 s3 A1 A2 A3) {t S : Int} (hc : Can n c1 t A1) (hS : Hid (gt (t - n) A1 = S)) :
    Calls Try.prog 14 #[.pointer (some ⟨g1, 0, none⟩), .int .i64 t] W fun x w' => x = .returned (.tuple #[.int .i64 S, .int .i64 0]) ∧ Tri w0 w' g1 g2 g3 B n v L t S c2 s2 c3 s3 A1 A2 A3 :=
  (sum_one h.p1 (by have := h.o2; have := h.o3; have := h.o4; omega) h.BW h.n0 h.n1 hc hS).mono fun x w' ⟨e, hp, hg⟩ => ⟨e, h.put1 hp hg⟩
theorem sum_2 (h : Tri w0 W g1 g2 g3 B n v L c1 s1 c2 s2 c3 s3 A1 A2 A3) {t S : Int} (hc : Can n c2 t A2) (hS : Hid (gt (t - n) A2 = S)) :
    Calls Try.prog 14 #[.pointer (some ⟨g2, 0, none⟩), .int .i64 t] W fun x w' => x = .returned (.tuple #[.int .i64 S, .int .i64 0]) ∧ Tri w0 w' g1 g2 g3 B n v L c1 s1 t S c3 s3 A1 A2 A3 :=
  (sum_one h.p2 (by have := h.o2; have := h.o3; have := h.o4; omega) h.BW h.n0 h.n1 hc hS).mono fun x w' ⟨e, hp, hg⟩ => ⟨e, h.put2 hp hg⟩
theorem sum_3 (h : Tri w0 W g1 g2 g3 B n v L c1 s1 c2 s2 c3 s3 A1 A2 A3) {t S : Int} (hc : Can 1048576 c3 t A3) (hS : Hid (gt (t - 1048576) A3 = S)) :
    Calls Try.prog 14 #[.pointer (some ⟨g3, 0, none⟩), .int .i64 t] W fun x w' => x = .returned (.tuple #[.int .i64 S, .int .i64 0]) ∧ Tri w0 w' g1 g2 g3 B n v L c1 s1 c2 s2 t S A1 A2 A3 :=
  (sum_one h.p3 h.o4 h.BW (by decide) (by decide) hc hS).mono fun x w' ⟨e, hp, hg⟩ => ⟨e, h.put3 hp hg⟩
end
theorem LP.new {W : World} {g B : Nat} {wd : Int} (h : Win W g B wd 0 0 []) : LP W g B wd 0 0 [] := ⟨[], h, Rel.nil wd⟩
end Go.Proofs.Ythcjkdmlaahpbaa.Win
