/- The Book's functions on lists of structs that it holds: fill. -/
import Derived.Test.YtkpdomnmlinomabGreatHeld
import Derived.Test.YtkpdomnmlinomabGreatTwinS
import Derived.Test.YtkpdomnmlinomabGreatRows
import Derived.WalkKit
import Derived.WalkSpells
import Derived.Lib.Hide
import Derived.LoopTactic
import Derived.Deep.RegionHeld3
namespace Go.Proofs.YtkpdomnmlinomabGreat.BookS
open Go.RowKit Go.Proofs.YtkpdomnmlinomabGreat.Aid Go.Proofs.YtkpdomnmlinomabGreat.Mem Go.Proofs.YtkpdomnmlinomabGreat.Keep Go.Proofs.YtkpdomnmlinomabGreat.Recs Go.Proofs.YtkpdomnmlinomabGreat.TwinS
set_option linter.unusedSimpArgs false
set_option linter.unusedVariables false
set_option maxRecDepth 100000
abbrev tH : TypeId := 167
abbrev tB : TypeId := 67
abbrev tE : TypeId := 97
/-- A book's cells: how many lists it has, and the one row of lists. -/
abbrev bookL (m : Int) (v : Value) : List Value := [Value.int .i64 m] ++ List.replicate 13 (Value.slice none 0 0) ++ [v] ++ List.replicate 11 (Value.slice none 0 0)
def mrk (i : Nat) : Int := -1000 - ((i : Int) + 1)
/-- The mark of the i-th list. -/
def mkc (i : Nat) : List Value := [.int .i64 0, .int .i64 0, .int .i64 (mrk i)]
theorem mkc_len (i : Nat) : (mkc i).length = 3 := rfl
theorem mkc_one (i : Nat) : ∀ v ∈ mkc i, v.oneCell' = true := by
  intro v hv
  simp only [mkc, List.mem_cons, List.not_mem_nil, or_false] at hv
  rcases hv with rfl | rfl | rfl <;> rfl
/-- A book that holds m lists, and no others. -/
structure Bk (W : World) (g hb cap m : Nat) (ad : Addr) (V L : Nat → Value) : Prop where
  eq : ad = ⟨hb, 0, none⟩
  m2 : m ≤ 1000
  book : Blk W g tB (bookL m (.slice (some ad) m cap))
  held : ∃ B H, Own W B tH 3 (.slice (some ⟨hb, 0, none⟩) m cap) m H ∧ ∀ k, k < m → H[k * 3]? = some (V k) ∧ H[k * 3 + 1]? = some (L k) ∧ H[k * 3 + 2]? = some (.int .i64 ((k : Int) + 1))
theorem add_lit (b i j : Nat) : (⟨b, i, none⟩ : Addr).add j = ⟨b, i + j, none⟩ := by unfold Addr.add; split <;> simp_all
section
variable {W W' : World} {g hb cap m : Nat} {ad : Addr} {V L : Nat → Value}
theorem Bk.c1 (h : Bk W g hb cap m ad V L) : W.cell? ⟨g, 14, none⟩ = some (.slice (some ad) m cap) := h.book.cellv (i := 14) rfl
theorem own_cell {B e s n c : Nat} {l : List Value} {b : Nat} (h : Own W B e s (.slice (some ⟨b, 0, none⟩) n c) n l) (j : Nat) (u : Value) (hu : l[j]? = some u) : W.cell? ⟨b, j, none⟩ = some u := by
  have := World.ownsRow.cells h (g := b) rfl j u hu
  rwa [add_at] at this
theorem Bk.la (h : Bk W g hb cap m ad V L) {k : Nat} (hk : k < m) : (LA tH (.pointer (some (ad.add (k * 3))))).run Tryz.prog W = .ok (.agg #[V k, L k, .int .i64 ((k : Int) + 1)]) W := by
  obtain ⟨B, H, ho, hc⟩ := h.held
  obtain ⟨c0, c1, c2⟩ := hc k hk
  have e := h.eq
  refine loads_at (l := [V k, L k, .int .i64 ((k : Int) + 1)]) (s := []) Tryz.underlying167 rfl (by show _ = some 3; kernel_rfl) fun i v hv => ?_
  rw [e, add_at, add_lit]
  refine own_cell ho _ _ ?_
  match i with
  | 0 => cases hv; exact c0
  | 1 => cases hv; exact c1
  | 2 => cases hv; exact c2
  | i + 3 => simp at hv
theorem Bk.chg {F : Nat → Prop} (h : Bk W g hb cap m ad V L) (hc : ChgS F W W') (h1 : ¬ F g) (h2 : ¬ F hb) : Bk W' g hb cap m ad V L := by
  obtain ⟨B, H, ho, hl⟩ := h.held
  exact ⟨h.eq, h.m2, hc.blk h.book h1, B, H, ho.chg hc (fun b e => by cases e; exact h2), hl⟩
theorem Bk.below (h : Bk W g hb cap m ad V L) (hw : Below W.heap.size W W') : Bk W' g hb cap m ad V L :=
  h.chg (ChgS.of_below (F := fun _ => False) hw) (fun h => h) (fun h => h)
/-- The k-th long list is put down. -/
theorem Bk.put (h : Bk W g hb cap m ad V L) {k : Nat} (hk : k < m) (x : Value) : Bk (W.setCell ⟨(ad.add (k * 3)).block, (ad.add (k * 3)).off + 1, none⟩ x) g hb cap m ad V (fun j => if j = k then x else L j) := by
  obtain ⟨B, H, ho, hl⟩ := h.held
  have e := h.eq
  have hlen : H.length = m * 3 := ho.1
  have e1 : (⟨(ad.add (k * 3)).block, (ad.add (k * 3)).off + 1, none⟩ : Addr) = ⟨hb, k * 3 + 1, none⟩ := by rw [e, add_at]
  have hne : g ≠ hb := by
    rintro rfl
    have := ho.kind rfl h.book
    exact absurd this (by decide)
  refine ⟨e, h.m2, by rw [e1]; exact h.book.far (p := ⟨hb, k * 3 + 1, none⟩) hne x, B, H.set (k * 3 + 1) x, by rw [e1]; exact ho.put (by omega) x, fun j hj => ?_⟩
  obtain ⟨c0, c1, c2⟩ := hl j hj
  refine ⟨by rw [List.getElem?_set_ne (by omega)]; exact c0, ?_, by rw [List.getElem?_set_ne (by omega)]; exact c2⟩
  by_cases ej : j = k
  · subst ej
    rw [if_pos rfl, List.getElem?_set_self (by omega)]
  · rw [if_neg ej, List.getElem?_set_ne (by omega)]; exact c1
theorem Bk.free (h : Bk W g hb cap m ad V L) (k : Nat) : W.frozen? ⟨(ad.add (k * 3)).block, (ad.add (k * 3)).off + 1, none⟩ = false := by
  obtain ⟨B, H, ho, hl⟩ := h.held
  rw [h.eq, add_at]
  exact ho.free _
theorem Bk.cell1 (h : Bk W g hb cap m ad V L) {k : Nat} (hk : k < m) : W.cell? ⟨(ad.add (k * 3)).block, (ad.add (k * 3)).off + 1, none⟩ = some (L k) := by
  obtain ⟨B, H, ho, hl⟩ := h.held
  rw [h.eq, add_at]
  exact own_cell ho _ _ (hl k hk).2.1
/-- Rows of structs, each as its cells. -/
def Rows (W : World) (B m : Nat) (V : Nat → Value) (N : Nat → Nat) (Q : Nat → List Value → Prop) : Prop := ∀ i, i < m → ∃ l : List Value, Own W B tE 3 (V i) (N i) l ∧ N i ≤ 1099511627776 ∧ Q i l
def Dis (m : Nat) (V : Nat → Value) : Prop := ∀ i j, i < m → j < m → i ≠ j → ∀ b, (V i).ownBlock = some b → (V j).ownBlock ≠ some b
def FB (m : Nat) (V : Nat → Value) (b : Nat) : Prop := ∃ i, i < m ∧ (V i).ownBlock = some b
variable {B : Nat} {N : Nat → Nat} {Q R : Nat → List Value → Prop}
theorem Rows.no (h : Rows W B m V N Q) {b : Nat} {t : TypeId} {l : List Value} (hb : Blk W b t l) (ht : t ≠ tE) : ¬ FB m V b := by
  rintro ⟨i, hi, e⟩
  obtain ⟨l, ho, _⟩ := h i hi
  exact ht (ho.kind e hb)
theorem Rows.no2 (h : Rows W B m V N Q) {B' n c b s : Nat} {t : TypeId} {l : List Value} (hb : Own W B' t s (.slice (some ⟨b, 0, none⟩) n c) n l) (ht : t ≠ tE) : ¬ FB m V b := by
  rintro ⟨i, hi, e⟩
  obtain ⟨l, ho, _⟩ := h i hi
  rcases hb.2 with ⟨h0, _⟩ | ⟨b', cap, cur, e1, _, hh, _⟩
  · cases h0
  · cases e1
    rcases ho.2 with ⟨h0, _⟩ | ⟨b', cap, cur, e1, _, hh2, _⟩
    · rw [h0] at e; cases e
    · rw [e1] at e
      cases e
      rw [hh] at hh2
      cases hh2
      exact ht rfl
theorem Rows.chg {F : Nat → Prop} (h : Rows W B m V N Q) (hc : ChgS F W W') (hF : ∀ b, F b → ¬ FB m V b) : Rows W' B m V N Q := fun i hi => by
  obtain ⟨l, ho, hq⟩ := h i hi
  exact ⟨l, ho.chg hc fun b e x => hF b x ⟨i, hi, e⟩, hq⟩
theorem Rows.below (h : Rows W B m V N Q) (hw : Below W.heap.size W W') : Rows W' B m V N Q := h.chg (ChgS.of_below (F := fun _ => False) hw) (fun _ h => h.elim)
theorem Rows.imp (h : Rows W B m V N Q) (hq : ∀ i l, i < m → l.length = N i * 3 → Q i l → R i l) : Rows W B m V N R := fun i hi => by
  obtain ⟨l, ho, hn, h1⟩ := h i hi
  exact ⟨l, ho, hn, hq i l hi ho.1 h1⟩
theorem Rows.lt (h : Rows W B m V N Q) {b : Nat} (hb : FB m V b) : b < W.heap.size := by
  obtain ⟨i, hi, e⟩ := hb
  obtain ⟨l, ho, _⟩ := h i hi
  exact ho.lt b e
/-- Cells that are written over, one behind the other. -/
def sets : List Value → Nat → List Value → List Value
  | l, _, [] => l
  | l, o, v :: r => sets (l.set o v) (o + 1) r
theorem sets_len : ∀ (r : List Value) (o : Nat) (l : List Value), (sets l o r).length = l.length
  | [], _, _ => rfl
  | v :: r, o, l => by rw [sets, sets_len r]; simp
theorem sets_in : ∀ (r : List Value) (o : Nat) (l : List Value), o + r.length ≤ l.length → ∀ i v, r[i]? = some v → (sets l o r)[o + i]? = some v
  | [], _, _, _, i, v, h => by simp at h
  | x :: r, o, l, hl, 0, v, h => by
    rw [sets]
    simp only [List.length_cons] at hl
    have : ∀ (r : List Value) (o' : Nat) (l : List Value), o < o' → (sets l o' r)[o]? = l[o]? := by
      intro r
      induction r with
      | nil => intro o' l _; rfl
      | cons y r ih =>
        intro o' l ho
        rw [sets, ih _ _ (by omega), List.getElem?_set_ne (by omega)]
    show (sets (l.set o x) (o + 1) r)[o]? = _
    rw [this r (o + 1) _ (by omega), List.getElem?_set_self (by omega)]
    simpa using h
  | x :: r, o, l, hl, i + 1, v, h => by
    rw [sets]
    simp only [List.length_cons] at hl
    have := sets_in r (o + 1) (l.set o x) (by simp; omega) i v (by simpa using h)
    rwa [show o + 1 + i = o + (i + 1) by omega] at this
theorem sets_out : ∀ (r : List Value) (o : Nat) (l : List Value) (i : Nat), i < o ∨ o + r.length ≤ i → (sets l o r)[i]? = l[i]?
  | [], _, _, _, _ => rfl
  | x :: r, o, l, i, h => by
    simp only [List.length_cons] at h
    rw [sets, sets_out r (o + 1) _ i (by omega), List.getElem?_set_ne (by omega)]
theorem own_sets {W : World} {B : Nat} {e : TypeId} {s n g c : Nat} : ∀ (r : List Value) (o : Nat) (W : World) (l : List Value), Own W B e s (.slice (some ⟨g, 0, none⟩) n c) n l → o + r.length ≤ l.length → Own (W.setCells g o r) B e s (.slice (some ⟨g, 0, none⟩) n c) n (sets l o r)
  | [], _, _, _, h, _ => h
  | v :: r, o, W, l, h, hl => by
    simp only [List.length_cons] at hl
    exact own_sets (W := W) r (o + 1) _ _ (h.put (i := o) (by omega) v) (by simp; omega)
theorem chg_sets {F : Nat → Prop} {g : Nat} (hF : F g) : ∀ (r : List Value) (o : Nat) (W : World), ChgS F W (W.setCells g o r)
  | [], _, W => ChgS.refl F W
  | v :: r, o, W => (ChgS.set (p := ⟨g, o, none⟩) v hF).trans (chg_sets hF r (o + 1) _)
theorem stores_own {t : TypeId} {B n c b o : Nat} {l cs : List Value} {e : TypeId} {s : Nat} (h : Own W B e s (.slice (some ⟨b, 0, none⟩) n c) n l) (ho : o + cs.length ≤ l.length) (hi : (Tryz.prog.info? t).map (·.size) = some cs.length) (h1 : ∀ v ∈ cs, v.oneCell' = true) :
    (SA t (.pointer (some ⟨b, o, none⟩)) (.agg cs.toArray)).run Tryz.prog W = .ok () (W.setCells b o cs) := by
  have := run_storeAt_mid (P := Tryz.prog) W b o t cs.toArray (fun j hj => ?_) (by simpa using hi) (all_oneCell_toArray h1)
  · simpa [SA] using this
  · have hj' : j < cs.length := by simpa using hj
    exact ⟨by rw [own_cell h _ _ (List.getElem?_eq_getElem (by omega))]; rfl, h.free _⟩
/-- One mark is written. -/
theorem Rows.put (h : Rows W B m V N Q) (hd : Dis m V) {k j b c : Nat} (hk : k < m) (hV : V k = .slice (some ⟨b, 0, none⟩) (N k) c) (hj : j < N k) (h1 : ∀ i l, i ≠ k → Q i l → R i l) (h2 : ∀ l, l.length = N k * 3 → Q k l → R k (sets l (j * 3) (mkc k))) :
    ∃ W', (SA tE (.pointer (some ⟨b, j * 3, none⟩)) (.agg (mkc k).toArray)).run Tryz.prog W = .ok () W' ∧ Rows W' B m V N R ∧ ChgS (FB m V) W W' := by
  have hS : j * 3 + 3 ≤ N k * 3 := by omega
  obtain ⟨l0, ho0, _, _⟩ := h k hk
  rw [hV] at ho0
  refine ⟨W.setCells b (j * 3) (mkc k), stores_own ho0 (by rw [mkc_len, ho0.1]; exact hS) (by kernel_rfl) (mkc_one k), fun i hi => ?_, chg_sets ⟨k, hk, by rw [hV]; rfl⟩ _ _ _⟩
  obtain ⟨l, ho, hn, hq⟩ := h i hi
  by_cases e : i = k
  · subst e
    have hl : l.length = N i * 3 := ho.1
    rw [hV] at ho ⊢
    exact ⟨_, own_sets (W := W) (mkc i) (j * 3) W l ho (by rw [mkc_len, hl]; exact hS), hn, h2 l hl hq⟩
  · refine ⟨l, own_at ho fun b' hb' => (chg_sets (F := fun x => x = b) rfl (mkc k) (j * 3) W).keep b' (ho.lt b' hb') ?_, hn, h1 i l e hq⟩
    have := hd i k hi hk e b' hb'
    rw [hV] at this
    rintro rfl
    exact this rfl
end
/-- All marks. -/
def reps (n : Nat) (i : Nat) : List Value := (List.replicate n (mkc i)).flatten
theorem reps_len (n i : Nat) : (reps n i).length = n * 3 := by
  induction n with
  | zero => simp [reps]
  | succ n ih =>
    have : reps (n + 1) i = mkc i ++ reps n i := by simp [reps, List.replicate_succ]
    rw [this, List.length_append, ih, mkc_len]; omega
theorem reps_at : ∀ {n j r i : Nat}, j < n → r < 3 → (reps n i)[j * 3 + r]? = (mkc i)[r]?
  | 0, _, _, _, h, _ => absurd h (by omega)
  | n + 1, 0, r, i, _, hr => by
    have : reps (n + 1) i = mkc i ++ reps n i := by simp [reps, List.replicate_succ]
    rw [this, List.getElem?_append_left (by rw [mkc_len]; omega)]
    congr 1; omega
  | n + 1, j + 1, r, i, h, hr => by
    have : reps (n + 1) i = mkc i ++ reps n i := by simp [reps, List.replicate_succ]
    rw [this, List.getElem?_append_right (by rw [mkc_len]; omega), mkc_len, show (j + 1) * 3 + r - 3 = j * 3 + r by omega]
    exact reps_at (by omega) hr
theorem reps_snoc (n i : Nat) : reps n i ++ mkc i = reps (n + 1) i := by
  unfold reps
  rw [List.replicate_succ', List.flatten_append]
  simp
theorem rep_of {l : List Value} {n i : Nat} (hl : l.length = n * 3) (h : ∀ t r, t < n → r < 3 → l[t * 3 + r]? = (mkc i)[r]?) : l = reps n i := by
  apply List.ext_getElem?
  intro j
  by_cases hj : j < n * 3
  · have h1 := Nat.div_add_mod j 3
    have h2 : j % 3 < 3 := Nat.mod_lt _ (by omega)
    have h3 : j / 3 < n := by omega
    have e : j = j / 3 * 3 + j % 3 := by omega
    rw [e, h _ _ h3 h2, reps_at h3 h2]
  · rw [List.getElem?_eq_none (by omega), List.getElem?_eq_none (by rw [reps_len]; omega)]
theorem load_held (v : Value) : Instr.loadAt tH v = LA tH v := rfl
theorem load_el (v : Value) : Instr.loadAt tE v = LA tE v := rfl
theorem store_el (p v : Value) : Instr.storeAt tE p v = SA tE p v := rfl
section
attribute [local go_sem ↓] load_el store_el
theorem mark_c (i : Nat) (w : World) (hi : i ≤ 1000) : Calls Tryz.prog 127 #[.int .i64 ((i : Int) + 1)] w fun e w' => e = .returned (.agg (mkc i).toArray) ∧ Below w.heap.size w w' := by
  have hb := Blk.new w tE [.int .i64 0, .int .i64 0, .int .i64 0]
  have hst : (SA tE (.pointer (some ⟨w.heap.size, 0, none⟩)) (.agg #[.int .i64 0, .int .i64 0, .int .i64 (-1000 - ((i : Int) + 1))])).run Tryz.prog (w.alloc (.cells #[.int .i64 0, .int .i64 0, .int .i64 0] tE)) = .ok () ((w.alloc (.cells #[.int .i64 0, .int .i64 0, .int .i64 0] tE)).setCells w.heap.size 0 (mkc i)) :=
    stores_mid (cs := mkc i) hb (by show 0 + 3 ≤ 3; omega) (by kernel_rfl) (mkc_one i)
  have hb2 := Blk.puts (t := tE) (mkc i) 0 _ _ hb (by show 0 + 3 ≤ 3; omega)
  have hlv : (loadVar tE ⟨w.heap.size, 0, none⟩).run Tryz.prog ((w.alloc (.cells #[.int .i64 0, .int .i64 0, .int .i64 0] tE)).setCells w.heap.size 0 (mkc i)) = .ok (.agg (mkc i).toArray) ((w.alloc (.cells #[.int .i64 0, .int .i64 0, .int .i64 0] tE)).setCells w.heap.size 0 (mkc i)) :=
    run_loadVar_mid _ _ _ _ _ _ (fun j v hv => by rw [Nat.zero_add]; exact hb2.cellv (by rw [List.take_zero, List.nil_append, List.getElem?_append_left (List.getElem?_eq_some_iff.1 hv).1, hv])) Tryz.underlying97 rfl (by kernel_rfl)
  have hbl := Lib.hid (below_sets (Nat.le_refl w.heap.size) (mkc i) 0 _ (alloc_below w (.cells #[.int .i64 0, .int .i64 0, .int .i64 0] tE)))
  have HST := Lib.hid hst
  have HLV := Lib.hid hlv
  clear hb hb2 hst hlv
  go_enter Tryz.func127, Tryz.ntmps127
  go_wp2_with (first | (rw [HST.out]; clear HST; generalize World.setCells _ _ _ _ = W at *))
  (try simp only [Exit.inBlock, Exit.then])
  refine bodyPost_ret (v := .agg (mkc i).toArray) ((results_cell rfl _ _ _).trans ?_) rfl ?_
  · exact HLV.out
  · exact ⟨rfl, hbl⟩
end
end Go.Proofs.YtkpdomnmlinomabGreat.BookS
