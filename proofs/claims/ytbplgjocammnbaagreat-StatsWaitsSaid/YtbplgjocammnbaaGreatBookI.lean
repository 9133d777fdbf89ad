/- The Book's functions on lists of ints that it holds: fill. -/
import Derived.Test.YtbplgjocammnbaaGreatHeld
import Derived.Test.YtbplgjocammnbaaGreatRows
import Derived.WalkKit
import Derived.WalkSpells
import Derived.Lib.Hide
import Derived.LoopTactic
import Derived.Deep.RegionHeld3
namespace Go.Proofs.YtbplgjocammnbaaGreat.BookI
open Go.RowKit Go.Proofs.YtbplgjocammnbaaGreat.Aid Go.Proofs.YtbplgjocammnbaaGreat.Mem Go.Proofs.YtbplgjocammnbaaGreat.Keep
set_option linter.unusedSimpArgs false
set_option linter.unusedVariables false
set_option maxRecDepth 100000
abbrev tH : TypeId := 105
abbrev tB : TypeId := 55
abbrev zB : List Value := List.replicate 24 (.slice none 0 0)
/-- A book that holds m lists of ints, and no others. -/
structure Bk (W : World) (g hb cap m : Nat) (ad : Addr) (V L : Nat → Value) : Prop where
  eq : ad = ⟨hb, 0, none⟩
  m2 : m ≤ 1000
  book : Blk W g tB ([.int .i64 m, .slice (some ad) m cap] ++ zB)
  held : ∃ B H, Own W B tH 3 (.slice (some ⟨hb, 0, none⟩) m cap) m H ∧ ∀ k, k < m → H[k * 3]? = some (V k) ∧ H[k * 3 + 1]? = some (L k) ∧ H[k * 3 + 2]? = some (.int .i64 ((k : Int) + 1))
theorem add_lit (b i j : Nat) : (⟨b, i, none⟩ : Addr).add j = ⟨b, i + j, none⟩ := by unfold Addr.add; split <;> simp_all
section
variable {W W' : World} {g hb cap m : Nat} {ad : Addr} {V L : Nat → Value}
theorem Bk.c1 (h : Bk W g hb cap m ad V L) : W.cell? ⟨g, 1, none⟩ = some (.slice (some ad) m cap) := h.book.cellv (i := 1) rfl
theorem Bk.lt (h : Bk W g hb cap m ad V L) : g < W.heap.size ∧ hb < W.heap.size := by
  obtain ⟨B, H, ho, _⟩ := h.held
  exact ⟨h.book.lt, ho.lt hb rfl⟩
theorem own_cell {B e s n c : Nat} {l : List Value} {b : Nat} (h : Own W B e s (.slice (some ⟨b, 0, none⟩) n c) n l) (j : Nat) (u : Value) (hu : l[j]? = some u) : W.cell? ⟨b, j, none⟩ = some u := by
  have := World.ownsRow.cells h (g := b) rfl j u hu
  rwa [add_at] at this
theorem Bk.la (h : Bk W g hb cap m ad V L) {k : Nat} (hk : k < m) : (LA tH (.pointer (some (ad.add (k * 3))))).run Tryz.prog W = .ok (.agg #[V k, L k, .int .i64 ((k : Int) + 1)]) W := by
  obtain ⟨B, H, ho, hc⟩ := h.held
  obtain ⟨c0, c1, c2⟩ := hc k hk
  have e := h.eq
  refine loads_at (l := [V k, L k, .int .i64 ((k : Int) + 1)]) (s := []) Tryz.underlying105 rfl (by show _ = some 3; kernel_rfl) fun i v hv => ?_
  rw [e, add_at, add_lit]
  refine own_cell ho _ _ ?_
  match i with
  | 0 => cases hv; exact c0
  | 1 => cases hv; exact c1
  | 2 => cases hv; exact c2
  | i + 3 => simp at hv
theorem Bk.chg {F : Nat → Prop} (h : Bk W g hb cap m ad V L) (hc : ChgS F W W') (h1 : ¬ F g) (h2 : ¬ F hb) : Bk W' g hb cap m ad V L := by
  obtain ⟨B, H, ho, hl⟩ := h.held
  exact ⟨h.eq, h.m2, hc.blk h.book h1, B, H, ho.chg hc (fun b e => by cases e; exact h2), hl⟩
/-- The k-th long list is put down. -/
theorem Bk.put (h : Bk W g hb cap m ad V L) {k : Nat} (hk : k < m) (x : Value) : Bk (W.setCell ⟨(ad.add (k * 3)).block, (ad.add (k * 3)).off + 1, none⟩ x) g hb cap m ad V (fun j => if j = k then x else L j) := by
  obtain ⟨B, H, ho, hl⟩ := h.held
  have e := h.eq
  have hlen : H.length = m * 3 := ho.1
  have e1 : (⟨(ad.add (k * 3)).block, (ad.add (k * 3)).off + 1, none⟩ : Addr) = ⟨hb, k * 3 + 1, none⟩ := by rw [e, add_at]
  have hne : g ≠ hb := by
    rintro rfl
    have := ho.kind rfl h.book
    exact absurd this (by decide)
  refine ⟨e, h.m2, by rw [e1]; exact h.book.far (p := ⟨hb, k * 3 + 1, none⟩) hne x, B, H.set (k * 3 + 1) x, by rw [e1]; exact ho.put (by omega) x, fun j hj => ?_⟩
  obtain ⟨c0, c1, c2⟩ := hl j hj
  refine ⟨by rw [List.getElem?_set_ne (by omega)]; exact c0, ?_, by rw [List.getElem?_set_ne (by omega)]; exact c2⟩
  by_cases ej : j = k
  · subst ej
    rw [if_pos rfl, List.getElem?_set_self (by omega)]
  · rw [if_neg ej, List.getElem?_set_ne (by omega)]; exact c1
theorem Bk.free (h : Bk W g hb cap m ad V L) (k : Nat) : W.frozen? ⟨(ad.add (k * 3)).block, (ad.add (k * 3)).off + 1, none⟩ = false := by
  obtain ⟨B, H, ho, hl⟩ := h.held
  rw [h.eq, add_at]
  exact ho.free _
theorem Bk.cell1 (h : Bk W g hb cap m ad V L) {k : Nat} (hk : k < m) : W.cell? ⟨(ad.add (k * 3)).block, (ad.add (k * 3)).off + 1, none⟩ = some (L k) := by
  obtain ⟨B, H, ho, hl⟩ := h.held
  rw [h.eq, add_at]
  exact own_cell ho _ _ (hl k hk).2.1
/-- Rows of whole numbers. -/
def Rows (W : World) (B m : Nat) (V : Nat → Value) (N : Nat → Nat) (Q : Nat → List Int → Prop) : Prop := ∀ i, i < m → ∃ l : List Int, Own W B 3 1 (V i) (N i) (nums .i64 l) ∧ N i ≤ 1099511627776 ∧ Q i l
def Dis (m : Nat) (V : Nat → Value) : Prop := ∀ i j, i < m → j < m → i ≠ j → ∀ b, (V i).ownBlock = some b → (V j).ownBlock ≠ some b
def FB (m : Nat) (V : Nat → Value) (b : Nat) : Prop := ∃ i, i < m ∧ (V i).ownBlock = some b
def mrk (i : Nat) : Int := -1000 - ((i : Int) + 1)
variable {B : Nat} {N : Nat → Nat} {Q R : Nat → List Int → Prop}
theorem Rows.no (h : Rows W B m V N Q) {b : Nat} {t : TypeId} {l : List Value} (hb : Blk W b t l) (ht : t ≠ 3) : ¬ FB m V b := by
  rintro ⟨i, hi, e⟩
  obtain ⟨l, ho, _⟩ := h i hi
  exact ht (ho.kind e hb)
theorem Rows.no2 (h : Rows W B m V N Q) {B' n c b s : Nat} {t : TypeId} {l : List Value} (hb : Own W B' t s (.slice (some ⟨b, 0, none⟩) n c) n l) (ht : t ≠ 3) : ¬ FB m V b := by
  rintro ⟨i, hi, e⟩
  obtain ⟨l, ho, _⟩ := h i hi
  rcases hb.2 with ⟨h0, _⟩ | ⟨b', cap, cur, e1, _, hh, _⟩
  · cases h0
  · cases e1
    rcases ho.2 with ⟨h0, _⟩ | ⟨b', cap, cur, e1, _, hh2, _⟩
    · rw [h0] at e; cases e
    · rw [e1] at e
      cases e
      rw [hh] at hh2
      cases hh2
      exact ht rfl
theorem Rows.chg {F : Nat → Prop} (h : Rows W B m V N Q) (hc : ChgS F W W') (hF : ∀ b, F b → ¬ FB m V b) : Rows W' B m V N Q := fun i hi => by
  obtain ⟨l, ho, hq⟩ := h i hi
  exact ⟨l, ho.chg hc fun b e x => hF b x ⟨i, hi, e⟩, hq⟩
theorem Rows.imp (h : Rows W B m V N Q) (hq : ∀ i l, i < m → l.length = N i → Q i l → R i l) : Rows W B m V N R := fun i hi => by
  obtain ⟨l, ho, hn, h1⟩ := h i hi
  exact ⟨l, ho, hn, hq i l hi (by have := ho.1; simpa [nums] using this) h1⟩
/-- One number is written over. -/
theorem Rows.put (h : Rows W B m V N Q) (hd : Dis m V) {k j b c : Nat} (hk : k < m) (hV : V k = .slice (some ⟨b, 0, none⟩) (N k) c) (hj : j < N k) (x : Int) (h1 : ∀ i l, i ≠ k → Q i l → R i l) (h2 : ∀ l, l.length = N k → Q k l → R k (l.set j x)) : Rows (W.setCell ⟨b, j, none⟩ (.int .i64 x)) B m V N R := fun i hi => by
  obtain ⟨l, ho, hn, hq⟩ := h i hi
  by_cases e : i = k
  · subst e
    have hl : l.length = N i := by have := ho.1; simpa [nums] using this
    rw [hV] at ho
    refine ⟨l.set j x, ?_, hn, h2 l hl hq⟩
    have := ho.put (i := j) (by have := ho.1; omega) (.int .i64 x)
    rw [hV]
    unfold nums at this ⊢
    rwa [List.map_set]
  · refine ⟨l, own_at ho fun b' hb' => Below.heap_setCell W _ _ b' ?_, hn, h1 i l e hq⟩
    have := hd i k hi hk e b' hb'
    rw [hV] at this
    rintro rfl
    exact this rfl
end
theorem Rows.lt {W : World} {B m : Nat} {V : Nat → Value} {N : Nat → Nat} {Q : Nat → List Int → Prop} (h : Rows W B m V N Q) {b : Nat} (hb : FB m V b) : b < W.heap.size := by
  obtain ⟨i, hi, e⟩ := hb
  obtain ⟨l, ho, _⟩ := h i hi
  exact ho.lt b e
theorem Rows.at_ {W : World} {B m : Nat} {V : Nat → Value} {N : Nat → Nat} {Q : Nat → List Int → Prop} (h : Rows W B m V N Q) {k j b c : Nat} (hk : k < m) (hV : V k = .slice (some ⟨b, 0, none⟩) (N k) c) (hj : j < N k) : (∃ x, W.cell? ⟨b, j, none⟩ = some (.int .i64 x)) ∧ W.frozen? ⟨b, j, none⟩ = false := by
  obtain ⟨l, ho, _⟩ := h k hk
  rw [hV] at ho
  have hl : l.length = N k := by have := ho.1; simpa [nums] using this
  refine ⟨⟨l[j], own_cell ho j _ ?_⟩, ho.free j⟩
  unfold nums
  rw [List.getElem?_map, List.getElem?_eq_getElem (by omega)]
  rfl
theorem rep_of {l : List Int} {n : Nat} {x : Int} (hl : l.length = n) (h : ∀ t, t < n → l[t]? = some x) : l = List.replicate n x := by
  apply List.ext_getElem?
  intro i
  rw [List.getElem?_replicate]
  by_cases hi : i < n
  · rw [if_pos hi, h i hi]
  · rw [if_neg hi, List.getElem?_eq_none (by omega)]
theorem mark_c (n : Int) (w : World) (h : 0 ≤ n) (h' : n ≤ 4294967296) : Calls Tryz.prog 105 #[.int .i64 n] w fun e w' => e = .returned (.int .i64 (-1000 - n)) ∧ w = w' := by
  go_enter Tryz.func105, Tryz.ntmps105
  go_wp2
  go_ret
  exact ⟨by rfl, rfl⟩
theorem load_held (v : Value) : Instr.loadAt tH v = LA tH v := rfl
attribute [local go_sem ↓] load_held
def Z (_ : Nat) : Value := .slice none 0 0
set_option maxHeartbeats 4000000 in
theorem fill_ints (W : World) (g hb cap m : Nat) (ad : Addr) (V : Nat → Value) (B : Nat) (N : Nat → Nat) (Q : Nat → List Int → Prop) (hk : Bk W g hb cap m ad V Z) (hr : Rows W B m V N Q) (hd : Dis m V) :
    Calls Tryz.prog 19 #[.pointer (some ⟨g, 0, none⟩)] W fun e w' => e = .returned (.tuple #[]) ∧ Bk w' g hb cap m ad V Z ∧ Rows w' B m V N (fun i l => l = List.replicate (N i) (mrk i)) ∧ ChgS (FB m V) W w' := by
  have HD := Lib.hid hd
  have HK := Lib.hid hk
  have HR := Lib.hid hr
  have m2 := hk.m2
  have nG : ¬ FB m V g := hr.no hk.book (by decide)
  have nH : ¬ FB m V hb := by
    obtain ⟨B', H, ho, _⟩ := hk.held
    exact hr.no2 ho (by decide)
  have NG := Lib.hid nG
  have NH := Lib.hid nH
  clear hd hr nG nH
  have c1 := hk.c1
  clear hk
  go_enter Tryz.func19, Tryz.ntmps19
  go_wp2
  go_loopw [2] (fun i wr => ∃ k : Nat, k ≤ m ∧ i = .int .i64 k ∧ Hid (Bk wr g hb cap m ad V Z) ∧ Hid (Rows wr B m V N (fun i l => i < k → l = List.replicate (N i) (mrk i))) ∧ Hid (ChgS (FB m V) W wr)) (fun i _ => m - (intOf i).toNat)
  case atStart => exact ⟨0, Nat.zero_le _, rfl, HK, Lib.hid (HR.out.imp fun i l _ _ _ h => absurd h (by omega)), Lib.hid (ChgS.refl _ _)⟩
  case round =>
    obtain ⟨k, hk, rfl, HK, HR, HC⟩ := hrel
    have c1 := HK.out.c1
    by_cases hlt : k < m
    · have la := HK.out.la hlt
      obtain ⟨l0, ho, hn, _⟩ := HR.out k hlt
      obtain ⟨A, c, hV, hnc, hA⟩ := ho.form
      rw [hV] at la
      replace la : (LA tH (.pointer (some (ad.add (k * 3))))).run Tryz.prog wr = .ok (.agg #[.slice A (N k) c, .slice none 0 0, .int .i64 ((k : Int) + 1)]) wr := la
      have HV := Lib.hid hV
      have HA := Lib.hid hA
      clear ho hA hV
      have AF : Hid (0 < N k → ∃ b, A = some ⟨b, 0, none⟩) := Lib.hid (fun h => by obtain ⟨b, e, _⟩ := HA.out h; exact ⟨b, e⟩)
      clear HA
      go_wp2
      have HB0 := Lib.hid (Blk.new wr tH [.slice A (N k) c, .slice none 0 0, .int .i64 ((k : Int) + 1)])
      have CA : ChgS (fun _ => False) wr (wr.alloc (.cells #[.slice A (N k) c, .slice none 0 0, .int .i64 ((k : Int) + 1)] tH)) := ChgS.of_below (alloc_below _ _)
      have HK1 := Lib.hid (HK.out.chg CA (fun h => h) (fun h => h))
      have HR1 := Lib.hid (HR.out.chg CA (fun _ h => h.elim))
      have HC1 := Lib.hid (HC.out.then CA (fun _ h => h.elim))
      have NP : Hid (¬ FB m V wr.heap.size) := Lib.hid (fun h => Nat.lt_irrefl _ (HR.out.lt h))
      generalize wr.alloc _ = w0 at *
      generalize wr.heap.size = p at *
      clear CA la HK HR HC c1
      go_loopw [4] (fun i wi => ∃ j : Nat, j ≤ N k ∧ i = .int .i64 j ∧ Hid (Bk wi g hb cap m ad V Z) ∧ Hid (Rows wi B m V N (fun i l => (i < k → l = List.replicate (N i) (mrk i)) ∧ (i = k → ∀ t, t < j → l[t]? = some (mrk k)))) ∧ Hid (ChgS (FB m V) W wi) ∧ Hid (Blk wi p tH [.slice A (N k) c, .slice none 0 0, .int .i64 ((k : Int) + 1)])) (fun i _ => N k - (intOf i).toNat)
      case atStart => exact ⟨0, Nat.zero_le _, rfl, HK1, Lib.hid (HR1.out.imp fun i l _ _ h => ⟨h, fun _ t ht => absurd ht (by omega)⟩), HC1, HB0⟩
      case round =>
        obtain ⟨j, hj, rfl, HK, HR, HC, HB⟩ := hrel
        clear HK1 HR1 HC1 HB0
        have q1 := HB.out.cellv (i := 0) rfl
        have q2 := HB.out.cellv (i := 2) rfl
        by_cases hl2 : j < N k
        · obtain ⟨b, rfl⟩ := AF.out (by omega)
          obtain ⟨⟨x0, q3⟩, q4⟩ := HR.out.at_ hlt HV.out hl2
          have PB : p ≠ b := fun e => NP.out ⟨k, hlt, by rw [HV.out, e]; rfl⟩
          have CS : ChgS (FB m V) wr (wr.setCell ⟨b, j, none⟩ (.int .i64 (mrk k))).drew := (ChgS.set _ ⟨k, hlt, by rw [HV.out]; rfl⟩).drew
          have HB2 := Lib.hid (HB.out.far (p := ⟨b, j, none⟩) PB (.int .i64 (mrk k)))
          have HR2 := Lib.hid (HR.out.put (R := fun i l => (i < k → l = List.replicate (N i) (mrk i)) ∧ (i = k → ∀ t, t < j + 1 → l[t]? = some (mrk k))) HD.out hlt HV.out hl2 (mrk k) (fun i l e h => ⟨h.1, fun e' => absurd e' e⟩) (fun l hl h => ⟨fun h' => absurd h' (Nat.lt_irrefl _), fun _ t ht => by
            by_cases e : t = j
            · subst e; rw [List.getElem?_set_self (by omega)]
            · rw [List.getElem?_set_ne (by omega)]; exact h.2 rfl t (by omega)⟩))
          have HK2 := Lib.hid (HK.out.chg CS NG.out NH.out)
          have HC2 := Lib.hid (HC.out.trans CS)
          have r1 := HB2.out.cellv (i := 0) rfl
          have r2 := HB2.out.cellv (i := 2) rfl
          clear HB HR HK HC CS
          go_wp2
          go_region_held3 (fun w' => w'.cell? ⟨p, 0, none⟩ = some (.slice (some ⟨b, 0, none⟩) (N k) c) ∧ w'.cell? ⟨p, 2, none⟩ = some (.int .i64 ((k : Int) + 1))) (first | exact ⟨q1, q2⟩ | exact ⟨r1, r2⟩) (first | (go_at_call 105; (with_reducible refine (mark_c _ _ (by omega) (by omega)).mono ?_); rintro e w' ⟨rfl, rfl⟩))
          go_wp2
          go_roundw
          case rel => exact ⟨j + 1, by omega, by go_num, HK2, HR2, HC2, HB2⟩
          case measure => simp [intOf]; omega
        · obtain rfl : j = N k := by omega
          go_wp2
          go_roundw
          case rel => exact ⟨k + 1, by omega, by go_num, HK, Lib.hid (HR.out.imp fun i l hi hl h hik => by
            by_cases e : i = k
            · subst e; exact rep_of hl (h.2 rfl)
            · exact h.1 (by omega)), HC⟩
          case measure => simp [intOf]; omega
    · obtain rfl : k = m := by omega
      go_wp2
      go_end0
      exact ⟨rfl, HK.out, HR.out.imp fun i l hi _ h => h hi, HC.out⟩
end Go.Proofs.YtbplgjocammnbaaGreat.BookI
