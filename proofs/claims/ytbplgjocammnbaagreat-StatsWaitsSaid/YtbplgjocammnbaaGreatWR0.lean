/- Waits' contracts at the records and at their copies. -/
import Derived.Test.YtbplgjocammnbaaGreatRefWt
import Derived.Test.YtbplgjocammnbaaGreatLeftR
import Derived.Test.YtbplgjocammnbaaGreatTwo
namespace Go.Proofs.YtbplgjocammnbaaGreat.WR
open Go.RowKit Go.Proofs.YtbplgjocammnbaaGreat.Aid Go.Proofs.YtbplgjocammnbaaGreat.Mem Go.Proofs.YtbplgjocammnbaaGreat.Types Go.Proofs.YtbplgjocammnbaaGreat.Keep Go.Proofs.YtbplgjocammnbaaGreat.Recs Go.Proofs.YtbplgjocammnbaaGreat.Twin Go.Proofs.YtbplgjocammnbaaGreat.Two Go.Proofs.YtbplgjocammnbaaGreat.Waits Go.Proofs.YtbplgjocammnbaaGreat.TwinR
set_option linter.unusedSimpArgs false
set_option linter.unusedVariables false
set_option maxRecDepth 100000
def rc (x : Rec) : Rc := ⟨x.ws.map (·.since), x.ps.map fun p => (p.r, p.c)⟩
theorem rat {w : World} {r : Row} {x : Rec} (h : Full w r x) : RAt w r (rc x) where
  wn := by have := h.h1.1; simpa [rc] using this
  ws := fun k s hs => by
    simp only [rc, List.getElem?_map] at hs
    obtain ⟨y, hy, rfl⟩ := Option.map_eq_some_iff.1 hs
    have hk : k < r.wn := by
      have h1 := (List.getElem?_eq_some_iff.1 hy).1
      have h2 := h.h1.1
      simp at h2; omega
    obtain ⟨ad, l, e, hl, _, hc⟩ := h.h1.at_ hk
    rw [List.getElem?_map, hy] at hl
    obtain rfl : y.list = l := by simpa using hl
    exact ⟨ad, e, hc 16 _ rfl⟩
  pr := by
    have e : (rc x).ps.map pl = x.ps.map Pai.list := by simp [rc, pl, Function.comp_def]
    rw [e]
    exact h.h4
theorem rat_twin {w : World} {r : Row} {x : Rec} {g : Nat → Nat} {w0 : World} (h : Full w0 r x) (hc : Cop w x g) : RAt w (twin r g) (rc x) where
  wn := by have := h.h1.1; simpa [rc, twin] using this
  ws := fun k s hs => by
    simp only [rc, List.getElem?_map] at hs
    obtain ⟨y, hy, rfl⟩ := Option.map_eq_some_iff.1 hs
    have hl : x.ws.length = r.wn := by have := h.h1.1; simpa using this
    have hk : k < r.wn := by have h1 := (List.getElem?_eq_some_iff.1 hy).1; omega
    obtain ⟨ad, l, e, hl, _, hc⟩ := (SameS.recs_wai hc.h1 hl).at_ hk
    rw [List.getElem?_map, hy] at hl
    obtain rfl : y.list = l := by simpa using hl
    exact ⟨ad, e, hc 16 _ rfl⟩
  pr := by
    have e : (rc x).ps.map pl = x.ps.map Pai.list := by simp [rc, pl, Function.comp_def]
    have hl : x.ps.length = r.pn := by have := h.h4.1; simpa using this
    rw [e]
    exact SameS.recs_pai hc.h4 hl
theorem waitA_ticks : ∀ {rs ts : List Row} {xs : List Rc}, ts.length = rs.length → (∀ (j : Nat) r t, rs[j]? = some r → ts[j]? = some t → t.tick = r.tick) → waitA ts xs = waitA rs xs
  | [], [], _, _, _ => rfl
  | r :: rs, t :: ts, [], _, _ => rfl
  | r :: rs, t :: ts, x :: xs, hl, h => by
    simp only [waitA]
    rw [h 0 r t rfl rfl, waitA_ticks (by simpa using hl) fun j a b ha hb => h (j + 1) a b (by simpa using ha) (by simpa using hb)]
  | [], t :: ts, _, hl, _ => by simp at hl
  | r :: rs, [], _, hl, _ => by simp at hl
theorem waitA_size {W : World} : ∀ {rs : List Row} {xs : List Rec}, (∀ (j : Nat) r x, rs[j]? = some r → xs[j]? = some x → Full W r x) → (waitA rs (xs.map rc)).length ≤ sizeA rs
  | [], _, _ => by simp [waitA]
  | r :: rs, [], _ => by simp [waitA]
  | r :: rs, x :: xs, h => by
    have ih := waitA_size (rs := rs) (xs := xs) fun j a b ha hb => h (j + 1) a b (by simpa using ha) (by simpa using hb)
    have h0 := (h 0 r x rfl rfl).h4.1
    simp only [List.map_cons, waitA, List.length_append]
    have hw := waitR_le r.tick (rc x) (rc x).ps.length
    have e : (rc x).ps.length = r.pn := by simpa [rc] using h0
    have hs : sizeA (r :: rs) = sizeR r + sizeA rs := rfl
    rw [hs, sizeR]
    omega
structure Bnd (r : Row) : Prop where
  t1 : -9223372036854775808 ≤ r.tick
  t2 : r.tick ≤ 9223372036854775807
  n1 : r.wn ≤ 140737488351232
  n2 : r.idn ≤ 140737488351232
  n3 : r.en ≤ 140737488351232
  n4 : r.pn ≤ 140737488351232
  n5 : r.yn ≤ 140737488351232
  n6 : r.zn ≤ 140737488351232
/-- What came in: the records' cells, what their lists hold. -/
structure Inp (w : World) (A : Option Addr) (n : Nat) (rs : List Row) (xs : List Rec) : Prop where
  recs : Recs w 9 A n (rs.map Row.list)
  len : xs.length = n
  full : ∀ (j : Nat) r x, rs[j]? = some r → xs[j]? = some x → Full w r x
  bnd : ∀ r ∈ rs, Bnd r
  size : sizeA rs ≤ 1048576
theorem Inp.keep {w w' : World} {A : Option Addr} {n : Nat} {rs : List Row} {xs : List Rec} (h : Inp w A n rs xs) (hb : Below w.heap.size w w') : Inp w' A n rs xs :=
  ⟨h.recs.keep hb, h.len, fun j r x h1 h2 => (h.full j r x h1 h2).keep hb, h.bnd, h.size⟩
theorem sizeA_mem : ∀ {rs : List Row} {r : Row}, r ∈ rs → sizeR r ≤ sizeA rs
  | [], _, h => by simp at h
  | a :: rs, r, h => by
    have hs : sizeA (a :: rs) = sizeR a + sizeA rs := rfl
    rcases List.mem_cons.1 h with rfl | h
    · omega
    · have := sizeA_mem h; omega
theorem sizeA_len : ∀ (rs : List Row), rs.length ≤ sizeA rs
  | [] => by simp [sizeA]
  | a :: rs => by
    have hs : sizeA (a :: rs) = sizeR a + sizeA rs := rfl
    have := sizeA_len rs
    rw [hs, List.length_cons, sizeR]; omega
theorem Inp.small {w : World} {A : Option Addr} {n : Nat} {rs : List Row} {xs : List Rec} (h : Inp w A n rs xs) {r : Row} (hr : r ∈ rs) : Small r := by
  have h1 := sizeA_mem hr
  have h2 := h.size
  unfold sizeR at h1
  exact ⟨by omega, by omega, by omega, by omega, by omega, by omega⟩
theorem Inp.n {w : World} {A : Option Addr} {n : Nat} {rs : List Row} {xs : List Rec} (h : Inp w A n rs xs) : n ≤ 1048576 := by
  have h1 := sizeA_len rs
  have h2 := h.size
  have h3 := h.recs.1
  rw [List.length_map] at h3
  omega
/-- The copies stand in this block. -/
structure Twn (W : World) (w0 : World) (G n : Nat) (rs ts : List Row) (xs : List Rec) : Prop where
  blk : Blk W G 68 ((ts.map Row.list).flatten ++ markrec)
  len : ts.length = n
  cops : Cops W (G + 1) rs ts xs
theorem Twn.keep {W W' w0 : World} {G n : Nat} {rs ts : List Row} {xs : List Rec} (h : Twn W w0 G n rs ts xs) (hb : Below W.heap.size W W') : Twn W' w0 G n rs ts xs := ⟨h.blk.keep hb, h.len, h.cops.keep hb⟩
theorem twin_v (rs : List Row) (xs : List Rec) (A : Option Addr) (n c : Nat) (w0 w : World) (h : Inp w A n rs xs) :
    Calls Tryz.prog 5 #[.slice A n c] w fun e w' => (∃ ts, e = .returned (.slice (some ⟨w.heap.size, 0, none⟩) n (n + 1)) ∧ Twn w' w0 w.heap.size n rs ts xs) ∧ Below w.heap.size w w' := by
  refine (twins_c rs xs A n c w h.recs h.len (fun j r x h1 h2 => ⟨h.full j r x h1 h2, h.small (List.mem_of_getElem? h1)⟩) h.n).mono ?_
  rintro e w' ⟨rfl, ts, h1, h2, h3, h4⟩
  exact ⟨⟨ts, rfl, h2, h1, h3⟩, h4⟩
theorem left_v (rs ts : List Row) (xs : List Rec) (A : Option Addr) (n c G : Nat) (w0 w : World) (h : Inp w A n rs xs) (ht : Twn w w0 G n rs ts xs) :
    Calls Tryz.prog 9 #[.slice (some ⟨G, 0, none⟩) n (n + 1), .slice A n c] w fun e w' => e = .returned (.bool true) ∧ Below w.heap.size w w' :=
  lefts_c rs ts xs G A n c w h.recs h.len (fun j r x h1 h2 => ⟨h.full j r x h1 h2, h.small (List.mem_of_getElem? h1)⟩) h.n ht.len ht.blk ht.cops
theorem row_at {w : World} {A : Option Addr} {n : Nat} {rs : List Row} {xs : List Rec} (h : Inp w A n rs xs) : rs.length = n := by
  have := h.recs.1
  rwa [List.length_map] at this
/-- Waits of the copies. -/
theorem waits_v (rs ts : List Row) (xs : List Rec) (A : Option Addr) (n G : Nat) (w0 w : World) (h : Inp w A n rs xs) (ht : Twn w w0 G n rs ts xs) (l : List Int) (hl : Hid (waitA rs (xs.map rc) = l)) :
    Calls Tryz.prog 6 #[.slice (some ⟨G, 0, none⟩) n (n + 1)] w fun e w' => (∃ A' c', e = .returned (.slice A' l.length c') ∧ Own w' w.heap.size 3 1 (.slice A' l.length c') l.length (nums .i64 l)) ∧ Below w.heap.size w w' := by
  obtain rfl := hl.out
  have hn := row_at h
  have tk : ∀ (j : Nat) r t, rs[j]? = some r → ts[j]? = some t → ∃ x g, xs[j]? = some x ∧ t = twin r g ∧ Cop w x g := fun j r t h1 h2 => by
    have hj := (List.getElem?_eq_some_iff.1 h1).1
    obtain ⟨x, hx⟩ : ∃ x, xs[j]? = some x := ⟨_, List.getElem?_eq_getElem (by rw [h.len]; omega)⟩
    obtain ⟨g, e, hc, _⟩ := ht.cops j r x t h1 hx h2
    exact ⟨x, g, hx, e, hc⟩
  have ew : waitA ts (xs.map rc) = waitA rs (xs.map rc) := waitA_ticks (by rw [ht.len, hn]) fun j r t h1 h2 => by
    obtain ⟨x, g, _, rfl, _⟩ := tk j r t h1 h2
    rfl
  have hs := waitA_size (rs := rs) (xs := xs) (W := w) h.full
  refine (waits_c ts (xs.map rc) _ n (n + 1) w (recs_row ht.blk ht.len) (by rw [List.length_map, h.len]) (fun j t x h1 h2 => ?_) (by have := h.n; omega) (by rw [ew]; have := h.size; omega)).mono ?_
  · have hj := (List.getElem?_eq_some_iff.1 h1).1
    obtain ⟨r, hr⟩ : ∃ r, rs[j]? = some r := ⟨_, List.getElem?_eq_getElem (by rw [hn, ← ht.len]; exact hj)⟩
    obtain ⟨x', g, hx, rfl, hc⟩ := tk j r t hr h1
    rw [List.getElem?_map, hx] at h2
    obtain rfl : rc x' = x := by simpa using h2
    have hm := List.mem_of_getElem? hr
    have hb := h.bnd r hm
    have hsm := h.small hm
    exact ⟨rat_twin (h.full j r x' hr hx) hc, by have := hsm.n4; show r.pn ≤ _; omega, by have := hsm.n1; show r.wn ≤ _; omega, hb.t1, hb.t2⟩
  · rintro e w' ⟨v, rfl, hO, hb⟩
    rw [ew] at hO
    obtain ⟨A', c', rfl, _⟩ := hO.form
    exact ⟨⟨A', c', rfl, hO⟩, hb⟩
/-- The document's Waits. -/
theorem rwaits_v (rs : List Row) (xs : List Rec) (A : Option Addr) (n c : Nat) (w : World) (h : Inp w A n rs xs) (l : List Int) (hl : Hid (waitA rs (xs.map rc) = l)) :
    Calls Tryz.prog 7 #[.slice A n c] w fun e w' => (∃ A' c', e = .returned (.slice A' l.length c') ∧ Ints w' .i64 A' l.length l) ∧ Below w.heap.size w w' := by
  obtain rfl := hl.out
  have hs := waitA_size (rs := rs) (xs := xs) (W := w) h.full
  refine (rwaits_c rs (xs.map rc) A n c w h.recs (by rw [List.length_map, h.len]) (fun j r x h1 h2 => ?_) (by have := h.n; omega) (by have := h.size; omega)).mono ?_
  · rw [List.getElem?_map] at h2
    obtain ⟨x', hx, rfl⟩ := Option.map_eq_some_iff.1 h2
    have hm := List.mem_of_getElem? h1
    have hb := h.bnd r hm
    have hsm := h.small hm
    exact ⟨rat (h.full j r x' h1 hx), by have := hsm.n4; omega, by have := hsm.n1; omega, hb.t1, hb.t2⟩
  · rintro e w' ⟨v, rfl, hO, hb⟩
    obtain ⟨A', c', rfl, hI⟩ := hO.ints
    exact ⟨⟨A', c', rfl, hI⟩, hb⟩
theorem bey_v (rs : List Row) (A : Option Addr) (n c : Nat) (w : World) (h : Recs w 9 A n (rs.map Row.list)) (hb : ∀ r ∈ rs, Bnd r) (hn : n ≤ 140737488351232) (b : Bool) (hB : decide (1048576 < sizeA rs) = b) :
    Calls Tryz.prog 4 #[.slice A n c] w fun e w' => e = .returned (.bool b) ∧ Below w.heap.size w w' := by
  subst hB
  exact beyR_c rs A n c w h (fun r hr => ⟨(hb r hr).n1, (hb r hr).n2, (hb r hr).n3, (hb r hr).n4, (hb r hr).n5, (hb r hr).n6⟩) hn
end Go.Proofs.YtbplgjocammnbaaGreat.WR
