/- A slice of records (structs whose parts are slices): how an argument reads, and how long its inner lists can be. -/
import Derived.Test.YtbplgjocammnbaaGreatWR0
namespace Go.Proofs.YtbplgjocammnbaaGreat.RecAny
open Go.RowKit Go.Proofs.YtbplgjocammnbaaGreat.Aid Go.Proofs.YtbplgjocammnbaaGreat.Mem Go.Proofs.YtbplgjocammnbaaGreat.Keep Go.Proofs.YtbplgjocammnbaaGreat.Recs Go.Proofs.YtbplgjocammnbaaGreat.Shape Go.Proofs.YtbplgjocammnbaaGreat.Types Go.Proofs.YtbplgjocammnbaaGreat.Waits Go.Proofs.YtbplgjocammnbaaGreat.TwinR Go.Proofs.YtbplgjocammnbaaGreat.WR Go.ChangeShapes Go.WideShapes Go.Deep
set_option linter.unusedVariables false
section
variable {H : Type} {enc : TypeId × Value → H} {P : Program} {w : World} {base : Nat} {spare : Nat → Bool} {held : Bool}
theorem weightsAll_mem {e : TypeId} {d : DataW H} {n : Nat} : ∀ {l : List (DataW H)}, d ∈ l → n ∈ d.weights P e → n ∈ DataW.weightsAll P e l
  | a :: l, h, hn => by
    rw [DataW.weightsAll, List.mem_append]
    rcases List.mem_cons.1 h with rfl | h
    · exact .inl hn
    · exact .inr (weightsAll_mem h hn)
/-- A cell that is a slice: it reads as one, and what it weighs is within what the whole weighs. -/
theorem slice_at : ∀ (n : Nat) (t : TypeId) (i : Nat) (t' : TypeId) (cs : List Value) (x : DataW H × List MemPlace) (fuel : Nat), cellAt P n t i = some (.other t') → DataW.trod enc P w base spare held fuel t cs = some x →
    ∃ v d p, cs[i]? = some v ∧ DataW.Trod enc P w base spare held t' v d p ∧ (∃ a l c, v = .slice a l c) ∧ ∀ m ∈ d.weights P t', m ∈ x.1.weights P t := by
  intro n
  induction n with
  | zero => intro t i t' cs x fuel h _; simp [cellAt] at h
  | succ n ih =>
    intro t i t' cs x fuel h hx
    unfold cellAt at h
    split at h
    · next k hu => split at h <;> simp at h
    · next hu => split at h <;> simp at h
    · next hu => split at h <;> simp at h
    · next e hu =>
      have hv : ∃ a l c, cs = [.slice a l c] := by
        rcases DataW.trod_slice hu hx with ⟨rfl, _⟩ | ⟨a, l, c, _, _, _, _, rfl, _⟩
        · exact ⟨none, 0, 0, rfl⟩
        · exact ⟨some a, l, c, rfl⟩
      obtain ⟨a, l, c, rfl⟩ := hv
      split at h <;> simp at h
      subst h; subst_vars
      exact ⟨_, x.1, x.2, rfl, ⟨fuel, by simpa [Value.cells] using hx⟩, ⟨a, l, c, rfl⟩, fun m hm => hm⟩
    · next c e hu =>
      obtain ⟨xs, m, _, ex, hl, hn, hc⟩ := DataW.trod_array hu hx
      split at h
      · next hi =>
        have h1 := hc _ hi.1
        rw [List.getElem?_eq_getElem (by omega)] at h1
        obtain ⟨v, d, p, hv, hk, hs, hw⟩ := ih _ _ _ _ _ _ h h1
        rw [List.getElem?_take_of_lt (Nat.mod_lt _ hi.2), List.getElem?_drop, Nat.mul_comm, Nat.div_add_mod] at hv
        refine ⟨v, d, p, hv, hk, hs, fun q hq => ?_⟩
        rw [ex]
        simp only [DataW.weights, hu]
        exact weightsAll_mem (List.mem_map.2 ⟨_, List.getElem_mem _, rfl⟩) (hw q hq)
      · simp at h
    · next fs hu =>
      obtain ⟨xs, m, _, ex, hl, hn, hc⟩ := DataW.trod_struct hu hx
      split at h
      · next f hf =>
        have hp := List.find?_some hf
        simp at hp
        obtain ⟨j, hj⟩ := List.getElem?_of_mem (List.mem_of_find?_eq_some hf)
        have hj2 : fs[j]? = some f := by simpa using hj
        have h1 := hc j f hj2
        have hjl : j < fs.size := by
          rcases Nat.lt_or_ge j fs.size with h' | h'
          · exact h'
          · rw [Array.getElem?_eq_none h'] at hj2; cases hj2
        have hxj : xs[j]? = some (xs[j]'(by omega)) := List.getElem?_eq_getElem (by omega)
        rw [hxj] at h1
        obtain ⟨v, d, p, hv, hk, hs, hw⟩ := ih _ _ _ _ _ _ h h1
        rw [List.getElem?_take_of_lt (by omega), List.getElem?_drop, Nat.add_sub_cancel' hp.1] at hv
        refine ⟨v, d, p, hv, hk, hs, fun q hq => ?_⟩
        rw [ex]
        simp only [DataW.weights, hu]
        exact DataW.weights_mem_each (j := j) (t := f.type) (d := (xs[j]'(by omega)).1) (by rw [List.getElem?_map, hj]; rfl) (by rw [List.getElem?_map, hxj]; rfl) q (hw q hq)
      · simp at h
    · simp at h
/-- How long a slice can be whose weight is within bounds. -/
theorem len_of {t e : TypeId} {a : Option Addr} {len cap : Nat} {d : DataW H} {ps : List MemPlace} (hu : P.underlying t = some (.slice e)) (h : DataW.Trod enc P w base spare held t (.slice a len cap) d ps) (hw : ∀ m ∈ d.weights P t, m ≤ 140737488351232) : len * P.bytesOf e ≤ 140737488351232 := by
  obtain ⟨fuel, hf⟩ := h
  rcases open_slice hu hf with ⟨hcs, _⟩ | ⟨a', len', cap', m, n, D, Pl, hcs, _, _, _, _, hx, _⟩
  · simp [Value.cells] at hcs
    obtain ⟨rfl, rfl, rfl⟩ := hcs
    simp
  · simp [Value.cells] at hcs
    obtain ⟨rfl, rfl, rfl⟩ := hcs
    obtain ⟨hx, _⟩ := Prod.mk.inj hx
    subst hx
    have z := hw ((len + (m - len)) * P.bytesOf e) (by simp [DataW.weights, hu])
    exact Nat.le_trans (Nat.mul_le_mul_right _ (Nat.le_add_right _ _)) z
end
section
variable {H : Type} {enc : TypeId × Value → H} {W : World} {base : Nat} {spare : Nat → Bool} {held : Bool}
/-- One record's cells. -/
theorem rec_any {fuel : Nat} {cs : List Value} {x : DataW H × List MemPlace} (hl : cs.length = 9) (h : DataW.trod enc Tryz.prog W base spare held fuel 68 cs = some x) (hw : ∀ m ∈ x.1.weights Tryz.prog 68, m ≤ 140737488351232) :
    ∃ (r : Row) (y : Rec), cs = r.list ∧ Full W r y ∧ Bnd r := by
  match cs, hl with
  | [u0, u1, u2, u3, u4, u5, u6, u7, u8], _ =>
    obtain ⟨_, e0, tick, rfl, w0⟩ := cell_at 6 68 0 (.int .i64) _ _ _ (by kernel_rfl) h
    obtain ⟨_, d1, p1, e1, t1, ⟨wa, wn, wc, rfl⟩, k1⟩ := slice_at 6 68 1 59 _ _ _ (by kernel_rfl) h
    obtain ⟨_, d2, p2, e2, t2, ⟨ia, idn, ic, rfl⟩, k2⟩ := slice_at 6 68 2 60 _ _ _ (by kernel_rfl) h
    obtain ⟨_, e3, rows, rfl, w3⟩ := cell_at 6 68 3 (.int .i64) _ _ _ (by kernel_rfl) h
    obtain ⟨_, e4, cols, rfl, w4⟩ := cell_at 6 68 4 (.int .i64) _ _ _ (by kernel_rfl) h
    obtain ⟨_, d5, p5, e5, t5, ⟨ea, en, ec, rfl⟩, k5⟩ := slice_at 6 68 5 61 _ _ _ (by kernel_rfl) h
    obtain ⟨_, d6, p6, e6, t6, ⟨pa, pn, pc, rfl⟩, k6⟩ := slice_at 6 68 6 64 _ _ _ (by kernel_rfl) h
    obtain ⟨_, d7, p7, e7, t7, ⟨ya, yn, yc, rfl⟩, k7⟩ := slice_at 6 68 7 25 _ _ _ (by kernel_rfl) h
    obtain ⟨_, d8, p8, e8, t8, ⟨za, zn, zc, rfl⟩, k8⟩ := slice_at 6 68 8 25 _ _ _ (by kernel_rfl) h
    simp only [List.getElem?_cons_zero, List.getElem?_cons_succ, Option.some.injEq] at e0 e1 e2 e3 e4 e5 e6 e7 e8
    subst e0; subst e1; subst e2; subst e3; subst e4; subst e5; subst e6; subst e7; subst e8
    obtain ⟨l1, r1, c1, z1⟩ := recs_any Tryz.underlying59 t1
    obtain ⟨x1, rfl, wx1⟩ := list_choose (f := Wai.list) (p := Wai.wf) (fun l hl => Wai.of_cells (z1 l hl).1 (z1 l hl).2)
    obtain ⟨l2, r2, c2, z2⟩ := recs_any Tryz.underlying60 t2
    obtain ⟨x2, rfl, wx2⟩ := list_choose (f := Idl.list) (p := Idl.wf) (fun l hl => Idl.of_cells (z2 l hl).1 (z2 l hl).2)
    obtain ⟨l5, r5, c5, z5⟩ := recs_any Tryz.underlying61 t5
    obtain ⟨x5, rfl, wx5⟩ := list_choose (f := Edg.list) (p := Edg.wf) (fun l hl => Edg.of_cells (z5 l hl).1 (z5 l hl).2)
    obtain ⟨l6, r6, c6, z6⟩ := recs_any Tryz.underlying64 t6
    obtain ⟨x6, rfl, wx6⟩ := list_choose (f := Pai.list) (p := Pai.wf) (fun l hl => Pai.of_cells (z6 l hl).1 (z6 l hl).2)
    obtain ⟨x7, r7, c7, z7⟩ := RowAid.ints_any Tryz.underlying25 Tryz.underlying3 (by kernel_rfl) t7
    obtain ⟨x8, r8, c8, z8⟩ := RowAid.ints_any Tryz.underlying25 Tryz.underlying3 (by kernel_rfl) t8
    have b1 := len_of Tryz.underlying59 t1 (fun m hm => hw m (k1 m hm))
    have b2 := len_of Tryz.underlying60 t2 (fun m hm => hw m (k2 m hm))
    have b5 := len_of Tryz.underlying61 t5 (fun m hm => hw m (k5 m hm))
    have b6 := len_of Tryz.underlying64 t6 (fun m hm => hw m (k6 m hm))
    have b7 := len_of Tryz.underlying25 t7 (fun m hm => hw m (k7 m hm))
    have b8 := len_of Tryz.underlying25 t8 (fun m hm => hw m (k8 m hm))
    rw [show Tryz.prog.bytesOf 81 = 56 from by kernel_rfl] at b1
    rw [show Tryz.prog.bytesOf 160 = 32 from by kernel_rfl] at b2
    rw [show Tryz.prog.bytesOf 168 = 24 from by kernel_rfl] at b5
    rw [show Tryz.prog.bytesOf 72 = 16 from by kernel_rfl] at b6
    rw [show Tryz.prog.bytesOf 3 = 8 from by kernel_rfl] at b7 b8
    rw [show Tryz.prog.cellsOf 81 = 18 from by kernel_rfl] at r1
    rw [show Tryz.prog.cellsOf 160 = 14 from by kernel_rfl] at r2
    rw [show Tryz.prog.cellsOf 168 = 3 from by kernel_rfl] at r5
    rw [show Tryz.prog.cellsOf 72 = 2 from by kernel_rfl] at r6
    obtain ⟨q1, q2⟩ := wf64 w0
    exact ⟨⟨tick, wa, wn, wc, ia, idn, ic, rows, cols, ea, en, ec, pa, pn, pc, ya, yn, yc, za, zn, zc⟩, ⟨x1, x2, x5, x6, x7, x8⟩, rfl, ⟨r1, r2, r5, r6, r7, r8⟩, ⟨q1, q2, by show wn ≤ _; omega, by show idn ≤ _; omega, by show en ≤ _; omega, by show pn ≤ _; omega, by show yn ≤ _; omega, by show zn ≤ _; omega⟩⟩
/-- A slice of records. -/
theorem records_any {a : Option Addr} {len cap : Nat} {d : DataW H} {ps : List MemPlace} {ts : List TypeId} {ds : List (DataW H)} {j : Nat} (hsz : (DataW.weightsEach Tryz.prog ts ds).all (· ≤ reachBytes) = true) (ht : ts[j]? = some 22) (hd : ds[j]? = some d)
    (h : DataW.Trod enc Tryz.prog W base spare held 22 (.slice a len cap) d ps) :
    ∃ (rs : List Row) (xs : List Rec), Recs W 9 a len (rs.map Row.list) ∧ xs.length = len ∧ (∀ (j : Nat) r x, rs[j]? = some r → xs[j]? = some x → Full W r x) ∧ ∀ r ∈ rs, Bnd r := by
  have hwt : ∀ m ∈ d.weights Tryz.prog 22, m ≤ 140737488351232 := fun m hm => by
    have := List.all_eq_true.1 hsz m (DataW.weights_mem_each ht hd m hm)
    exact of_decide_eq_true this
  obtain ⟨fuel, hf⟩ := h
  rcases open_slice Tryz.underlying22 hf with ⟨hcs, _⟩ | ⟨a', len', cap', m, n, D, Pl, hcs, _, hl, _, hm, hD, hx⟩
  · simp [Value.cells] at hcs
    obtain ⟨rfl, rfl, rfl⟩ := hcs
    exact ⟨[], [], Recs.nil, rfl, by simp, by simp⟩
  · simp [Value.cells] at hcs
    obtain ⟨rfl, rfl, rfl⟩ := hcs
    have hlm : len ≤ m := by rw [hm]; split <;> omega
    obtain ⟨hD1, _⟩ := Prod.mk.inj hD
    haveI : Inhabited (Row × Rec) := ⟨(⟨0, none, 0, 0, none, 0, 0, 0, 0, none, 0, 0, none, 0, 0, none, 0, 0, none, 0, 0⟩, ⟨[], [], [], [], [], []⟩)⟩
    obtain ⟨V, hV⟩ := choose_lt (α := Row × Rec) (p := fun i v => W.cells? base (a'.add (i * 9)) 9 = some v.1.list ∧ Full W v.1 v.2 ∧ Bnd v.1) (n := len) (fun i hi => by
      obtain ⟨cs', h1, h2⟩ := hx i (by omega)
      rw [show Tryz.prog.cellsOf 68 = 9 from by kernel_rfl] at h1
      obtain ⟨_, h3, _⟩ := World.cells?_some h1
      obtain ⟨r, y, rfl, hF, hB⟩ := rec_any h3 h2 (fun q hq => hwt q (by
        rw [hD1]
        simp only [DataW.weights, Tryz.underlying22, List.mem_cons, List.mem_append]
        exact .inr (.inl (weightsAll_mem (List.mem_map.2 ⟨i, List.mem_range.2 hi, rfl⟩) hq))))
      exact ⟨(r, y), h1, hF, hB⟩)
    refine ⟨(List.range len).map fun i => (V i).1, (List.range len).map fun i => (V i).2, ⟨by simp, fun _ => ⟨a', rfl, fun j l hj => ?_⟩⟩, by simp, fun j r x h1 h2 => ?_, fun r hr => ?_⟩
    · rw [List.getElem?_map, List.getElem?_map] at hj
      have hjl : j < len := by
        rcases Nat.lt_or_ge j len with h | h
        · exact h
        · rw [List.getElem?_eq_none (by simpa using h)] at hj; simp at hj
      rw [List.getElem?_range hjl] at hj
      simp at hj; subst hj
      obtain ⟨h1, _⟩ := hV j hjl
      obtain ⟨_, h2, h3⟩ := World.cells?_some h1
      refine ⟨rfl, fun i v hv => ?_⟩
      have hi : i < 9 := by have := (List.getElem?_eq_some_iff.1 hv).1; simpa using this
      rw [← Recs.add_add, h3 i hi, hv]
    · rw [List.getElem?_map] at h1 h2
      have hjl : j < len := by
        rcases Nat.lt_or_ge j len with h | h
        · exact h
        · rw [List.getElem?_eq_none (by simpa using h)] at h1; simp at h1
      rw [List.getElem?_range hjl] at h1 h2
      simp at h1 h2; subst h1; subst h2
      exact (hV j hjl).2.1
    · obtain ⟨i, hi, rfl⟩ := List.mem_map.1 hr
      exact (hV i (List.mem_range.1 hi)).2.2
end
end Go.Proofs.YtbplgjocammnbaaGreat.RecAny
