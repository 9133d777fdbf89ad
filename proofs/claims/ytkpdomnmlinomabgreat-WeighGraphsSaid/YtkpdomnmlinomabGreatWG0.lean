/- What WeighGraphs asks of its callees, told at once for all inputs; the boxes. -/
import Derived.Test.YtkpdomnmlinomabGreatGrV
import Derived.Test.YtkpdomnmlinomabGreatRGraphC
import Derived.Test.YtkpdomnmlinomabGreatTwo
import Derived.Test.YtkpdomnmlinomabGreatSameW
import Derived.Test.YtkpdomnmlinomabGreatSameI
import Derived.Test.YtkpdomnmlinomabGreatSameE
import Derived.Test.YtkpdomnmlinomabGreatBey
namespace Go.Proofs.YtkpdomnmlinomabGreat.WG
open Go.RowKit Go.Proofs.YtkpdomnmlinomabGreat.Aid Go.Proofs.YtkpdomnmlinomabGreat.Mem Go.Proofs.YtkpdomnmlinomabGreat.Keep Go.Proofs.YtkpdomnmlinomabGreat.Recs Go.Proofs.YtkpdomnmlinomabGreat.Types Go.Proofs.YtkpdomnmlinomabGreat.TwinS Go.Proofs.YtkpdomnmlinomabGreat.SameS Go.Proofs.YtkpdomnmlinomabGreat.PairsG Go.Proofs.YtkpdomnmlinomabGreat.BookS Go.Proofs.YtkpdomnmlinomabGreat.GrV
open Go.Proofs.YtkpdomnmlinomabGreat.Graph (lc_blk zG)
open Go.Proofs.YtkpdomnmlinomabGreat.GraphB (wts wAt cellsE)
open Go.Proofs.YtkpdomnmlinomabGreat.Weight (ca)
set_option linter.unusedSimpArgs false
set_option linter.unusedVariables false
set_option maxRecDepth 100000
theorem wai_one (xs : List Wai) : ∀ l ∈ xs.map Wai.list, ∀ v ∈ l, v.oneCell' = true := by
  intro l hl v hv
  obtain ⟨x, _, rfl⟩ := List.mem_map.1 hl
  simp only [Wai.list, List.mem_cons, List.not_mem_nil, or_false] at hv
  rcases hv with rfl | rfl | rfl | rfl | rfl | rfl | rfl | rfl | rfl | rfl | rfl | rfl | rfl | rfl | rfl | rfl | rfl | rfl <;> rfl
theorem idl_one (xs : List Idl) : ∀ l ∈ xs.map Idl.list, ∀ v ∈ l, v.oneCell' = true := by
  intro l hl v hv
  obtain ⟨x, _, rfl⟩ := List.mem_map.1 hl
  simp only [Idl.list, List.mem_cons, List.not_mem_nil, or_false] at hv
  rcases hv with rfl | rfl | rfl | rfl | rfl | rfl | rfl | rfl | rfl | rfl | rfl | rfl | rfl | rfl <;> rfl
theorem box2 (w : World) (a b : Int) (t : TypeId) : Ints (w.alloc (.cells #[.int .i64 a, .int .i64 b] t)) .i64 (some ⟨w.heap.size, 0, none⟩) 2 [a, b] :=
  Ints.of_blk (Blk.new w t [.int .i64 a, .int .i64 b]) (by intro j y hy; match j with | 0 => simpa using hy | 1 => simpa using hy | j + 2 => simp at hy)
theorem beyond2 (a b : Nat) (w : World) (t : TypeId) (ha : a ≤ 140737488351232) (hb : b ≤ 140737488351232) (x : Bool) (hx : decide (1048576 < a + b) = x) : Calls Tryz.prog 4 #[.slice (some ⟨w.heap.size, 0, none⟩) 2 2] (w.alloc (.cells #[.int .i64 (a : Int), .int .i64 (b : Int)] t)) fun e w' => e = .returned (.bool x) ∧ w.alloc (.cells #[.int .i64 (a : Int), .int .i64 (b : Int)] t) = w' := by
  refine (Twin.beyond_c [(a : Int), (b : Int)] _ 2 2 _ (box2 w a b t) (by simp; omega) (by decide)).mono fun e w' ⟨h, k⟩ => ⟨?_, k⟩
  rw [h]
  subst hx
  congr 2
  have e : tot [(a : Int), (b : Int)] = (a : Int) + b := by simp [tot]
  rw [e, decide_eq_decide]
  omega
theorem flat_at {c : Nat} : ∀ (xs : List (List Value)) (j : Nat) (l : List Value) (i : Nat) (v : Value), (∀ l ∈ xs, l.length = c) → xs[j]? = some l → l[i]? = some v → xs.flatten[j * c + i]? = some v
  | [], j, l, i, v, _, h, _ => by simp at h
  | a :: xs, 0, l, i, v, hc, h, hi => by
    simp at h; subst h
    rw [List.flatten_cons, Nat.zero_mul, Nat.zero_add, List.getElem?_append_left (List.getElem?_eq_some_iff.1 hi).1]
    exact hi
  | a :: xs, j + 1, l, i, v, hc, h, hi => by
    have ha := hc a (by simp)
    rw [List.flatten_cons, List.getElem?_append_right (by rw [ha, Nat.add_mul]; omega), ha, show (j + 1) * c + i - c = j * c + i by rw [Nat.add_mul]; omega]
    exact flat_at xs j l i v (fun l hl => hc l (by simp [hl])) (by simpa using h) hi
def toEdg (ws : List Int) (ps : List (Nat × Nat)) : List Edg := ps.map fun p => ⟨p.1, p.2, wAt ws p.1⟩
theorem cells_flat (ws : List Int) (ps : List (Nat × Nat)) : ((toEdg ws ps).map Edg.list).flatten = cellsE ws ps := by
  unfold toEdg cellsE
  rw [List.flatMap_def, List.map_map]
  rfl
theorem own_recs {W : World} {B n c : Nat} {A : Option Addr} {ws : List Int} {ps : List (Nat × Nat)} (h : Own W B tE 3 (.slice A n c) n (cellsE ws ps)) (hn : ps.length = n) : Recs W 3 A n ((toEdg ws ps).map Edg.list) := by
  refine ⟨by simp [toEdg, hn], fun hp => ?_⟩
  obtain ⟨A', c', e, _, hA⟩ := h.form
  cases e
  obtain ⟨g, rfl, _, _, hc⟩ := hA hp
  refine ⟨_, rfl, fun j l hl => ⟨len_edg _ l (List.mem_of_getElem? hl), fun i v hv => ?_⟩⟩
  rw [add_at]
  refine hc _ _ ?_
  rw [← cells_flat]
  exact flat_at _ j l i v (len_edg _) hl hv
theorem kba2 {w : World} (o p : Obj) : Below w.heap.size w ((w.alloc o).alloc p) := kba (kba (Below.refl _ _) _) _
theorem sameG (R C : Int) (ws : List Int) (ps : List (Nat × Nat)) (A B : Option Addr) (c d : Nat) (w : World) {b1 b2 : Nat} (h : Own w b1 tE 3 (.slice A ps.length c) ps.length (cellsE ws ps)) (h' : Own w b2 tE 3 (.slice B ps.length d) ps.length (cellsE ws ps)) (hn : ps.length ≤ 1099511627776) :
    Calls Tryz.prog 9 #[.agg #[.int .i64 R, .int .i64 C, .slice A ps.length c], .agg #[.int .i64 R, .int .i64 C, .slice B ps.length d]] w fun e w' => e = .returned (.bool true) ∧ Below w.heap.size w w' := by
  have H := Lib.hid (own_recs h rfl)
  have H' := Lib.hid (own_recs h' rfl)
  have q1 : (R == R) = true := by simp
  have q2 : (C == C) = true := by simp
  clear h h'
  go_enter Tryz.func9, Tryz.ntmps9
  go_wp2_with (first | (go_at_call 26; (with_reducible refine (same_edg (toEdg ws ps) A B ps.length c d _ (H.out.keep (kba2 _ _)) (H'.out.keep (kba2 _ _)) hn).mono ?_); rintro e w1 ⟨rfl, hb⟩; have HB1 := Lib.hid (kbt (kba2 _ _) hb)))
  go_ret
  exact ⟨rfl, HB1.out⟩
theorem graph_w (c : Cfg) (now : Int) (xs : List Wai) (ys : List Idl) (A B : Option Addr) (n m a b : Nat) (w : World) (R C E : Int) (ws : List Int) (l : List (Nat × Nat)) (hx : Recs w 18 A n (xs.map Wai.list)) (hy : Recs w 14 B m (ys.map Idl.list)) (wx : Hid (∀ x ∈ xs, x.wf)) (wy : Hid (∀ y ∈ ys, y.wf)) (hn : n ≤ 140737488351232) (hm : m ≤ 140737488351232)
    (hg : Hid (gN c now xs ys n m n = R ∧ gN c now xs ys n m m = C ∧ gE c now xs ys n m = E ∧ wts c now xs = ws ∧ gL c now xs ys n m = l)) :
    Calls Tryz.prog 8 #[c.val, .int .i64 now, .slice A n a, .slice B m b] w fun e w' => (∃ A' c', e = .returned (.tuple #[.agg #[.int .i64 R, .int .i64 C, .slice A' l.length c'], .int .i64 E]) ∧ Own w' w.heap.size tE 3 (.slice A' l.length c') l.length (cellsE ws l)) ∧ Below w.heap.size w w' := by
  obtain ⟨rfl, rfl, rfl, rfl, rfl⟩ := hg.out
  exact graph_v c now xs ys A B n m a b w hx hy wx wy hn hm
theorem rgraph_w (c : Cfg) (now : Int) (xs : List Wai) (ys : List Idl) (A B : Option Addr) (n m a b : Nat) (w : World) (R C E : Int) (ws : List Int) (l : List (Nat × Nat)) (hx : Recs w 18 A n (xs.map Wai.list)) (hy : Recs w 14 B m (ys.map Idl.list)) (wx : Hid (∀ x ∈ xs, x.wf)) (wy : Hid (∀ y ∈ ys, y.wf)) (hn : n ≤ 140737488351232) (hm : m ≤ 140737488351232)
    (hg : Hid (gN c now xs ys n m n = R ∧ gN c now xs ys n m m = C ∧ gE c now xs ys n m = E ∧ wts c now xs = ws ∧ gL c now xs ys n m = l)) :
    Calls Tryz.prog 7 #[c.val, .int .i64 now, .slice A n a, .slice B m b] w fun e w' => (∃ A' c', e = .returned (.tuple #[.agg #[.int .i64 R, .int .i64 C, .slice A' l.length c'], .int .i64 E]) ∧ Own w' w.heap.size tE 3 (.slice A' l.length c') l.length (cellsE ws l)) ∧ Below w.heap.size w w' := by
  obtain ⟨rfl, rfl, rfl, rfl, rfl⟩ := hg.out
  exact RGraph.rgraph_v c now xs ys A B n m a b w hx hy wx wy hn hm
theorem gl_len {c : Cfg} {now : Int} {xs : List Wai} {ys : List Idl} {n m : Nat} {l : List (Nat × Nat)} (hy : ys.length = m) (hb : n + m ≤ 1048576) (h : gL c now xs ys n m = l) : l.length ≤ 1099511627776 := by
  subst h
  unfold gL
  split
  · have h := all_le xs ys n
    rw [hy] at h
    have : n * m ≤ 1048576 * 1048576 := Nat.mul_le_mul (by omega) (by omega)
    omega
  · exact Nat.zero_le _
theorem half_set {α : Type} (f : α → α) {xs : List α} {k : Nat} {x : α} (h : xs[k]? = some x) : ((xs.take k).map f ++ xs.drop k).set k (f x) = (xs.take (k + 1)).map f ++ xs.drop (k + 1) := by
  have hk := (List.getElem?_eq_some_iff.1 h).1
  rw [List.set_append_right _ _ (by simp; omega)]
  rw [show k - ((xs.take k).map f).length = 0 by simp; omega, List.drop_eq_getElem_cons hk, List.set_cons_zero, take_snoc xs k x h, List.map_append, List.append_assoc]
  rfl
theorem half_get {α : Type} (f : α → α) {xs : List α} {k : Nat} {x : α} (h : xs[k]? = some x) : ((xs.take k).map f ++ xs.drop k)[k]? = some x := by
  have hk := (List.getElem?_eq_some_iff.1 h).1
  rw [List.getElem?_append_right (by simp; omega), List.getElem?_drop]
  rw [show k + (k - ((xs.take k).map f).length) = k by simp; omega, h]
theorem set_flat {c : Nat} : ∀ (ls : List (List Value)) (k i : Nat) (l : List Value) (v : Value) (r : List Value), (∀ l ∈ ls, l.length = c) → ls[k]? = some l → i < c → (ls.flatten ++ r).set (k * c + i) v = (ls.set k (l.set i v)).flatten ++ r
  | [], k, i, l, v, r, _, h, _ => by simp at h
  | a :: ls, 0, i, l, v, r, hc, h, hi => by
    simp at h; subst h
    have ha := hc a (by simp)
    rw [List.flatten_cons, Nat.zero_mul, Nat.zero_add, List.append_assoc, List.set_append_left _ _ (by omega), List.set_cons_zero, List.flatten_cons, List.append_assoc]
  | a :: ls, k + 1, i, l, v, r, hc, h, hi => by
    have ha := hc a (by simp)
    rw [List.flatten_cons, List.append_assoc, List.set_append_right _ _ (by rw [ha, Nat.add_mul]; omega), ha, show (k + 1) * c + i - c = k * c + i by rw [Nat.add_mul]; omega]
    rw [set_flat ls k i l v r (fun l hl => hc l (by simp [hl])) (by simpa using h) hi, List.set_cons_succ, List.flatten_cons, List.append_assoc]
theorem cell_flat {c : Nat} {W : World} {g : Nat} {t : TypeId} {ls : List (List Value)} {r : List Value} {k i : Nat} {l : List Value} {v : Value} (h : Blk W g t (ls.flatten ++ r)) (hc : ∀ l ∈ ls, l.length = c) (hk : ls[k]? = some l) (hi : l[i]? = some v) : W.cell? ⟨g, k * c + i, none⟩ = some v := by
  have h1 := flat_at ls k l i v hc hk hi
  exact h.cellv (by rw [List.getElem?_append_left (List.getElem?_eq_some_iff.1 h1).1]; exact h1)
theorem blk_ne {W : World} {a b : Nat} {t t' : TypeId} {l l' : List Value} (h : Blk W a t l) (h' : Blk W b t' l') (ht : t ≠ t') : a ≠ b := by
  rintro rfl
  unfold Blk at h h'
  rw [h] at h'
  cases h'
  exact ht rfl
theorem beyond_k (w : World) (c : Cfg) (A : Option Addr) (n a : Nat) (B : Option Addr) (m b : Nat) (hn : n ≤ 140737488351232) (hm : m ≤ 140737488351232) (x : Bool) (hx : decide (1048576 < n + m) = x) : Calls Tryz.prog 4 #[.slice (some ⟨w.heap.size + 1 + 1, 0, none⟩) 2 2] (((w.alloc (.cells (ca c) 23)).alloc (.cells #[.slice A n a, .slice B m b] 27)).alloc (.cells #[.int .i64 (n : Int), .int .i64 (m : Int)] 3)) fun e w' => e = .returned (.bool x) ∧ ((w.alloc (.cells (ca c) 23)).alloc (.cells #[.slice A n a, .slice B m b] 27)).alloc (.cells #[.int .i64 (n : Int), .int .i64 (m : Int)] 3) = w' := by
  have h := beyond2 n m ((w.alloc (.cells (ca c) 23)).alloc (.cells #[.slice A n a, .slice B m b] 27)) 3 hn hm x hx
  rwa [size_alloc, size_alloc] at h
/-- The boxes of the configuration and of the two lists. -/
structure KL (w : World) (c : Cfg) (A : Option Addr) (n a : Nat) (B : Option Addr) (m b : Nat) (W : World) : Prop where
  cfg : Blk W w.heap.size 23 (ca c).toList
  lst : Blk W (w.heap.size + 1) 27 [.slice A n a, .slice B m b]
  bel : Below w.heap.size w W
section
variable {w W W' : World} {c : Cfg} {A B : Option Addr} {n a m b : Nat}
theorem KL.start (w : World) (c : Cfg) (A : Option Addr) (n a : Nat) (B : Option Addr) (m b : Nat) : KL w c A n a B m b ((w.alloc (.cells (ca c) 23)).alloc (.cells #[.slice A n a, .slice B m b] 27)) := by
  refine ⟨(Blk.new w 23 (ca c).toList).alloc _, ?_, kba2 _ _⟩
  have := Blk.new (w.alloc (.cells (ca c) 23)) 27 [.slice A n a, .slice B m b]
  rwa [size_alloc] at this
theorem KL.keep (h : KL w c A n a B m b W) (hb : Below W.heap.size W W') : KL w c A n a B m b W' := ⟨h.cfg.keep hb, h.lst.keep hb, kbt h.bel hb⟩
theorem KL.chg {F : Nat → Prop} (h : KL w c A n a B m b W) (hc : ChgS F W W') (hF : ∀ b, F b → w.heap.size + 1 < b) : KL w c A n a B m b W' :=
  ⟨hc.blk h.cfg (fun x => by have := hF _ x; omega), hc.blk h.lst (fun x => by have := hF _ x; omega), below_chg h.bel hc (fun b x => by have := hF _ x; omega)⟩
theorem KL.lc (h : KL w c A n a B m b W) : (LA 23 (.pointer (some ⟨w.heap.size, 0, none⟩))).run Tryz.prog W = .ok (.agg (ca c)) W := lc_blk c h.cfg
theorem KL.c0 (h : KL w c A n a B m b W) : W.cell? ⟨w.heap.size + 1, 0, none⟩ = some (.slice A n a) := h.lst.cellv (i := 0) rfl
theorem KL.c1 (h : KL w c A n a B m b W) : W.cell? ⟨w.heap.size + 1, 1, none⟩ = some (.slice B m b) := h.lst.cellv (i := 1) rfl
end
theorem la_gr {W : World} {g : Nat} {x y z : Value} (h : Blk W g 33 [x, y, z]) : (LA 33 (.pointer (some ⟨g, 0, none⟩))).run Tryz.prog W = .ok (.agg #[x, y, z]) W :=
  loads_box (v := #[x, y, z]) Tryz.underlying33 rfl (by show _ = some 3; kernel_rfl) (fun i => (h.cell i).trans (by simp))
theorem load_gr (v : Value) : Instr.loadAt 33 v = LA 33 v := rfl
section
attribute [local go_sem ↓] load_gr
theorem keepG_first (W : World) (g : Nat) (R C : Int) (A : Option Addr) (n c : Nat) (hb : Bk0 W g) :
    Calls Tryz.prog 12 #[.pointer (some ⟨g, 0, none⟩), .agg #[.int .i64 R, .int .i64 C, .slice A n c]] W fun e w' => e = .returned (.tuple #[]) ∧ ∃ h0 cap, Bk w' g h0 cap 1 ⟨h0, 0, none⟩ (fun _ => .slice A n c) (fun _ => .slice none 0 0) ∧ ChgS (fun b => b = g) W w' ∧ W.heap.size ≤ h0 := by
  have HB : Hid (∀ o, Bk0 (W.alloc o) g) := Lib.hid (fun o => Blk.alloc hb o)
  clear hb
  go_enter Tryz.func12, Tryz.ntmps12
  go_wp2_with (first | (go_at_call 31; (with_reducible refine (keep_first _ g A n c (HB.out _)).mono ?_); rintro e w1 ⟨rfl, h0, cap, hk, hc, hh⟩; have HK := Lib.hid hk; have HC := Lib.hid hc; have HH := Lib.hid hh; clear hk hc hh))
  go_end0
  have hh := HH.out
  rw [size_alloc] at hh
  exact ⟨rfl, h0, cap, HK.out, (ChgS.of_below (alloc_below _ _)).trans HC.out, by omega⟩
theorem keepG_next (W : World) (g hb cap m : Nat) (ad : Addr) (V : Nat → Value) (R C : Int) (A : Option Addr) (n c : Nat) (h : Bk W g hb cap m ad V (fun _ => .slice none 0 0)) (hm : m < 1000) :
    Calls Tryz.prog 12 #[.pointer (some ⟨g, 0, none⟩), .agg #[.int .i64 R, .int .i64 C, .slice A n c]] W fun e w' => e = .returned (.tuple #[]) ∧ ∃ h0 cap, Bk w' g h0 cap (m + 1) ⟨h0, 0, none⟩ (fun j => if j = m then .slice A n c else V j) (fun _ => .slice none 0 0) ∧ ChgS (fun b => b = g ∨ b = hb) W w' ∧ (h0 = hb ∨ W.heap.size ≤ h0) := by
  have HB := Lib.hid h
  clear h
  go_enter Tryz.func12, Tryz.ntmps12
  go_wp2_with (first | (go_at_call 31; (with_reducible refine (keep_next _ g hb cap m ad V A n c (HB.out.below (alloc_below _ _)) hm).mono ?_); rintro e w1 ⟨rfl, h0, cp, hk, hc, hh⟩; have HK := Lib.hid hk; have HC := Lib.hid hc; have HH := Lib.hid hh; clear hk hc hh))
  go_end0
  have hh := HH.out
  rw [size_alloc] at hh
  exact ⟨rfl, h0, cp, HK.out, (ChgS.of_below (alloc_below _ _)).trans HC.out, by omega⟩
end
theorem gb_blk {W : World} {g hb cap m : Nat} {ad : Addr} {V L : Nat → Value} {B : Nat} {N : Nat → Nat} {Q : Nat → List Value → Prop} (hk : Bk W g hb cap m ad V L) (hr : BookS.Rows W B m V N Q) {b : Nat} {t : TypeId} {l : List Value} (h : Blk W b t l) (h1 : t ≠ tE) (h2 : t ≠ tH) : ¬ GB m hb V b := by
  rintro (h3 | rfl)
  · exact hr.no h h1 h3
  · obtain ⟨B', H, ho, _⟩ := hk.held
    exact h2 (ho.kind rfl h)
/-- All that is there behind the book: the boxes, the copies, the two graphs' boxes. -/
structure KQ (w : World) (c : Cfg) (A : Option Addr) (n a : Nat) (B : Option Addr) (m b GX GY bw ba : Nat) (xs : List Wai) (ys : List Idl) (W : World) : Prop where
  k : KL w c A n a B m b W
  hx : Blk W GX 78 ((xs.map Wai.list).flatten ++ markwai)
  hy : Blk W GY 82 ((ys.map Idl.list).flatten ++ markidl)
  bwb : ∃ x y z, Blk W bw 33 [.int .i64 x, .int .i64 y, z]
  bab : ∃ x y z, Blk W ba 33 [.int .i64 x, .int .i64 y, z]
section
variable {w W W' : World} {c : Cfg} {A B : Option Addr} {n a m b GX GY bw ba : Nat} {xs : List Wai} {ys : List Idl}
theorem kq_start {W : World} {g hb cap : Nat} {ad : Addr} {V L : Nat → Value} {B0 : Nat} {N : Nat → Nat} {Q : Nat → List Value → Prop} {x1 y1 x2 y2 : Int} {z1 z2 : Value} (k : KL w c A n a B m b W) (hx : Blk W GX 78 ((xs.map Wai.list).flatten ++ markwai)) (hy : Blk W GY 82 ((ys.map Idl.list).flatten ++ markidl)) (h3 : Blk W bw 33 [.int .i64 x1, .int .i64 y1, z1]) (h4 : Blk W ba 33 [.int .i64 x2, .int .i64 y2, z2]) (hk : Bk W g hb cap 2 ad V L) (hr : BookS.Rows W B0 2 V N Q) (hc : ChgS (GB 2 hb V) W W') (hg : ∀ b, GB 2 hb V b → bw + 1 ≤ b) (lw : w.heap.size + 1 < bw) : KQ w c A n a B m b GX GY bw ba xs ys W' :=
  ⟨⟨hc.blk k.cfg (gb_blk hk hr k.cfg (by decide) (by decide)), hc.blk k.lst (gb_blk hk hr k.lst (by decide) (by decide)), below_chg k.bel hc (fun b h => by have := hg b h; omega)⟩, hc.blk hx (gb_blk hk hr hx (by decide) (by decide)), hc.blk hy (gb_blk hk hr hy (by decide) (by decide)), ⟨x1, y1, z1, hc.blk h3 (gb_blk hk hr h3 (by decide) (by decide))⟩, ⟨x2, y2, z2, hc.blk h4 (gb_blk hk hr h4 (by decide) (by decide))⟩⟩
theorem KQ.below0 (h : KQ w c A n a B m b GX GY bw ba xs ys W) : Below w.heap.size w W := h.k.bel
theorem KQ.keep (h : KQ w c A n a B m b GX GY bw ba xs ys W) (hb : Below W.heap.size W W') : KQ w c A n a B m b GX GY bw ba xs ys W' := by
  obtain ⟨x1, y1, z1, h1⟩ := h.bwb
  obtain ⟨x2, y2, z2, h2⟩ := h.bab
  exact ⟨h.k.keep hb, h.hx.keep hb, h.hy.keep hb, ⟨x1, y1, z1, h1.keep hb⟩, ⟨x2, y2, z2, h2.keep hb⟩⟩
/-- Facts on a graph's box, for a store. -/
theorem box_facts {g : Nat} (h : ∃ x y z, Blk W g 33 [.int .i64 x, .int .i64 y, z]) : (∃ x, W.cell? ⟨g, 0, none⟩ = some (.int .i64 x)) ∧ (∃ x, W.cell? ⟨g, 1, none⟩ = some (.int .i64 x)) ∧ (∃ x, W.cell? ⟨g, 2, none⟩ = some x) ∧ W.frozen? ⟨g, 0, none⟩ = false ∧ W.frozen? ⟨g, 1, none⟩ = false ∧ W.frozen? ⟨g, 2, none⟩ = false := by
  obtain ⟨x, y, z, h⟩ := h
  exact ⟨⟨x, h.cellv (i := 0) rfl⟩, ⟨y, h.cellv (i := 1) rfl⟩, ⟨z, h.cellv (i := 2) rfl⟩, h.free 0, h.free 1, h.free 2⟩
def set3 (W : World) (g : Nat) (x y z : Value) : World := ((W.setCell ⟨g, 0, none⟩ x).setCell ⟨g, 1, none⟩ y).setCell ⟨g, 2, none⟩ z
theorem blk_set3 {g : Nat} (h : ∃ x y z, Blk W g 33 [.int .i64 x, .int .i64 y, z]) (x y z : Value) : Blk (set3 W g x y z) g 33 [x, y, z] := by
  obtain ⟨x0, y0, z0, h⟩ := h
  exact ((h.put 0 x).put 1 y).put 2 z
theorem far_set3 {g g' : Nat} {t : TypeId} {l : List Value} (h : Blk W g' t l) (hg : g' ≠ g) (x y z : Value) : Blk (set3 W g x y z) g' t l := ((h.far (p := ⟨g, 0, none⟩) hg x).far (p := ⟨g, 1, none⟩) hg y).far (p := ⟨g, 2, none⟩) hg z
theorem own_set3 {g B0 s k : Nat} {v : Value} {l : List Value} (h : Own W B0 tE s v k l) (hg : ∃ x y z, Blk W g 33 [.int .i64 x, .int .i64 y, z]) (x y z : Value) : Own (set3 W g x y z) B0 tE s v k l := by
  obtain ⟨x0, y0, z0, hg⟩ := hg
  exact own_at h fun b e => (ChgS.trans (ChgS.trans (ChgS.set (F := fun b => b = g) (p := ⟨g, 0, none⟩) x rfl) (ChgS.set (F := fun b => b = g) (p := ⟨g, 1, none⟩) y rfl)) (ChgS.set (F := fun b => b = g) (p := ⟨g, 2, none⟩) z rfl)).keep b (h.lt b e) (fun e' => by subst e'; exact absurd (h.kind e hg) (by decide))
theorem chg_set3 {g : Nat} (x y z : Value) : ChgS (fun b => b = g) W (set3 W g x y z) := ((ChgS.set (F := fun b => b = g) (p := ⟨g, 0, none⟩) x rfl).trans (ChgS.set (F := fun b => b = g) (p := ⟨g, 1, none⟩) y rfl)).trans (ChgS.set (F := fun b => b = g) (p := ⟨g, 2, none⟩) z rfl)
theorem KQ.setw (h : KQ w c A n a B m b GX GY bw ba xs ys W) (lw : w.heap.size + 1 < bw) (hne : bw ≠ ba) (x y : Int) (z : Value) : KQ w c A n a B m b GX GY bw ba xs ys (set3 W bw (.int .i64 x) (.int .i64 y) z) := by
  obtain ⟨x1, y1, z1, h1⟩ := h.bwb
  obtain ⟨x2, y2, z2, h2⟩ := h.bab
  exact ⟨h.k.chg (chg_set3 _ _ _) (fun b e => by rw [e]; exact lw), far_set3 h.hx (blk_ne h.hx h1 (by decide)) _ _ _, far_set3 h.hy (blk_ne h.hy h1 (by decide)) _ _ _, ⟨x, y, z, blk_set3 h.bwb _ _ _⟩, ⟨x2, y2, z2, far_set3 h2 (fun e => hne e.symm) _ _ _⟩⟩
theorem KQ.putx (h : KQ w c A n a B m b GX GY bw ba xs ys W) (lx : w.heap.size + 1 < GX) {k : Nat} {x x' : Wai} (hx : xs[k]? = some x) (v : Int) (e : x'.list = x.list.set 16 (.int .i64 v)) : KQ w c A n a B m b GX GY bw ba (xs.set k x') ys (W.setCell ⟨GX, k * 18 + 16, none⟩ (.int .i64 v)) := by
  obtain ⟨x1, y1, z1, h1⟩ := h.bwb
  obtain ⟨x2, y2, z2, h2⟩ := h.bab
  have hlk : (xs.map Wai.list)[k]? = some x.list := by rw [List.getElem?_map, hx]; rfl
  have h3 := h.hx.put (k * 18 + 16) (.int .i64 v)
  rw [set_flat _ k 16 _ _ _ (len_wai _) hlk (by omega), ← e, ← List.map_set] at h3
  exact ⟨h.k.chg (ChgS.set (F := fun b => b = GX) (p := ⟨GX, k * 18 + 16, none⟩) _ rfl) (fun b e => by rw [e]; exact lx), h3, h.hy.far (p := ⟨GX, k * 18 + 16, none⟩) (blk_ne h.hy h.hx (by decide)) _, ⟨x1, y1, z1, h1.far (p := ⟨GX, k * 18 + 16, none⟩) (blk_ne h1 h.hx (by decide)) _⟩, ⟨x2, y2, z2, h2.far (p := ⟨GX, k * 18 + 16, none⟩) (blk_ne h2 h.hx (by decide)) _⟩⟩
theorem KQ.puty (h : KQ w c A n a B m b GX GY bw ba xs ys W) (lx : w.heap.size + 1 < GY) {k : Nat} {y y' : Idl} (hy : ys[k]? = some y) (v : Int) (e : y'.list = y.list.set 12 (.int .i64 v)) : KQ w c A n a B m b GX GY bw ba xs (ys.set k y') (W.setCell ⟨GY, k * 14 + 12, none⟩ (.int .i64 v)) := by
  obtain ⟨x1, y1, z1, h1⟩ := h.bwb
  obtain ⟨x2, y2, z2, h2⟩ := h.bab
  have hlk : (ys.map Idl.list)[k]? = some y.list := by rw [List.getElem?_map, hy]; rfl
  have h3 := h.hy.put (k * 14 + 12) (.int .i64 v)
  rw [set_flat _ k 12 _ _ _ (len_idl _) hlk (by omega), ← e, ← List.map_set] at h3
  exact ⟨h.k.chg (ChgS.set (F := fun b => b = GY) (p := ⟨GY, k * 14 + 12, none⟩) _ rfl) (fun b e => by rw [e]; exact lx), h.hx.far (p := ⟨GY, k * 14 + 12, none⟩) (blk_ne h.hx h.hy (by decide)) _, h3, ⟨x1, y1, z1, h1.far (p := ⟨GY, k * 14 + 12, none⟩) (blk_ne h1 h.hy (by decide)) _⟩, ⟨x2, y2, z2, h2.far (p := ⟨GY, k * 14 + 12, none⟩) (blk_ne h2 h.hy (by decide)) _⟩⟩
theorem KQ.cx (h : KQ w c A n a B m b GX GY bw ba xs ys W) {k : Nat} {x : Wai} (hx : xs[k]? = some x) : W.cell? ⟨GX, k * 18 + 16, none⟩ = some (.int .i64 x.since) := cell_flat h.hx (len_wai _) (by rw [List.getElem?_map, hx]; rfl) rfl
theorem KQ.cy (h : KQ w c A n a B m b GX GY bw ba xs ys W) {k : Nat} {y : Idl} (hy : ys[k]? = some y) : W.cell? ⟨GY, k * 14 + 12, none⟩ = some (.int .i64 y.radius) := cell_flat h.hy (len_idl _) (by rw [List.getElem?_map, hy]; rfl) rfl
end
end Go.Proofs.YtkpdomnmlinomabGreat.WG
