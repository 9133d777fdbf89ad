/- What FitPairs asks of its callees, told at once for all inputs. -/
import Derived.Test.YtkpdomnmlinomaaGreatRPairs
import Derived.Test.YtkpdomnmlinomaaGreatTwo
import Derived.Test.YtkpdomnmlinomaaGreatSameW
import Derived.Test.YtkpdomnmlinomaaGreatSameI
import Derived.Test.YtkpdomnmlinomaaGreatSameP
import Derived.Test.YtkpdomnmlinomaaGreatBey
namespace Go.Proofs.YtkpdomnmlinomaaGreat.FP
open Go.RowKit Go.Proofs.YtkpdomnmlinomaaGreat.Aid Go.Proofs.YtkpdomnmlinomaaGreat.Mem Go.Proofs.YtkpdomnmlinomaaGreat.Keep Go.Proofs.YtkpdomnmlinomaaGreat.Recs Go.Proofs.YtkpdomnmlinomaaGreat.Types Go.Proofs.YtkpdomnmlinomaaGreat.TwinS Go.Proofs.YtkpdomnmlinomaaGreat.SameS Go.Proofs.YtkpdomnmlinomaaGreat.PairsG Go.Proofs.YtkpdomnmlinomaaGreat.BookS
set_option linter.unusedSimpArgs false
set_option linter.unusedVariables false
set_option maxRecDepth 100000
theorem wai_one (xs : List Wai) : ∀ l ∈ xs.map Wai.list, ∀ v ∈ l, v.oneCell' = true := by
  intro l hl v hv
  obtain ⟨x, _, rfl⟩ := List.mem_map.1 hl
  simp only [Wai.list, List.mem_cons, List.not_mem_nil, or_false] at hv
  rcases hv with rfl | rfl | rfl | rfl | rfl | rfl | rfl | rfl | rfl | rfl | rfl | rfl | rfl | rfl | rfl | rfl | rfl | rfl <;> rfl
theorem idl_one (xs : List Idl) : ∀ l ∈ xs.map Idl.list, ∀ v ∈ l, v.oneCell' = true := by
  intro l hl v hv
  obtain ⟨x, _, rfl⟩ := List.mem_map.1 hl
  simp only [Idl.list, List.mem_cons, List.not_mem_nil, or_false] at hv
  rcases hv with rfl | rfl | rfl | rfl | rfl | rfl | rfl | rfl | rfl | rfl | rfl | rfl | rfl | rfl <;> rfl
theorem box2 (w : World) (a b : Int) (t : TypeId) : Ints (w.alloc (.cells #[.int .i64 a, .int .i64 b] t)) .i64 (some ⟨w.heap.size, 0, none⟩) 2 [a, b] :=
  Ints.of_blk (Blk.new w t [.int .i64 a, .int .i64 b]) (by intro j y hy; match j with | 0 => simpa using hy | 1 => simpa using hy | j + 2 => simp at hy)
theorem beyond2 (a b : Nat) (w : World) (t : TypeId) (ha : a ≤ 140737488351232) (hb : b ≤ 140737488351232) (x : Bool) (hx : decide (1048576 < a + b) = x) : Calls Tryz.prog 4 #[.slice (some ⟨w.heap.size, 0, none⟩) 2 2] (w.alloc (.cells #[.int .i64 (a : Int), .int .i64 (b : Int)] t)) fun e w' => e = .returned (.bool x) ∧ w.alloc (.cells #[.int .i64 (a : Int), .int .i64 (b : Int)] t) = w' := by
  refine (Twin.beyond_c [(a : Int), (b : Int)] _ 2 2 _ (box2 w a b t) (by simp; omega) (by decide)).mono fun e w' ⟨h, k⟩ => ⟨?_, k⟩
  rw [h]
  subst hx
  congr 2
  have e : tot [(a : Int), (b : Int)] = (a : Int) + b := by simp [tot]
  rw [e, decide_eq_decide]
  omega
theorem pairs_v (xs : List Wai) (ys : List Idl) (A B : Option Addr) (n m ca cb : Nat) (w : World) (ps : List (Nat × Nat)) (hx : Recs w 18 A n (xs.map Wai.list)) (hy : Recs w 14 B m (ys.map Idl.list)) (wx : Hid (∀ x ∈ xs, x.wf)) (wy : Hid (∀ y ∈ ys, y.wf)) (hn : n ≤ 1048576) (hm : m ≤ 1048576) (hp : Hid (allP xs ys n = ps)) :
    Calls Tryz.prog 8 #[.slice A n ca, .slice B m cb] w fun e w' => (∃ A' c', e = .returned (.slice A' ps.length c') ∧ Own w' w.heap.size tE 2 (.slice A' ps.length c') ps.length (cellsP ps)) ∧ Below w.heap.size w w' := by
  obtain rfl := hp.out
  refine (pairs_c xs ys A B n m ca cb w hx hy wx.out wy.out hn hm).mono ?_
  rintro e w' ⟨v, rfl, ho, hb⟩
  obtain ⟨A', c', rfl, _⟩ := ho.form
  exact ⟨⟨_, _, rfl, ho⟩, hb⟩
theorem rpairs_v (xs : List Wai) (ys : List Idl) (A B : Option Addr) (n m ca cb : Nat) (w : World) (ps : List (Nat × Nat)) (hx : Recs w 18 A n (xs.map Wai.list)) (hy : Recs w 14 B m (ys.map Idl.list)) (wx : Hid (∀ x ∈ xs, x.wf)) (wy : Hid (∀ y ∈ ys, y.wf)) (hn : n ≤ 1048576) (hm : m ≤ 1048576) (hp : Hid (allP xs ys n = ps)) :
    Calls Tryz.prog 7 #[.slice A n ca, .slice B m cb] w fun e w' => (∃ A' c', e = .returned (.slice A' ps.length c') ∧ Own w' w.heap.size tE 2 (.slice A' ps.length c') ps.length (cellsP ps)) ∧ Below w.heap.size w w' := by
  obtain rfl := hp.out
  refine (rpairs_c xs ys A B n m ca cb w hx hy wx.out wy.out hn hm).mono ?_
  rintro e w' ⟨v, rfl, ho, hb⟩
  obtain ⟨A', c', rfl, _⟩ := ho.form
  exact ⟨⟨_, _, rfl, ho⟩, hb⟩
def toPai (ps : List (Nat × Nat)) : List Pai := ps.map fun p => ⟨p.1, p.2⟩
theorem flat_at {c : Nat} : ∀ (xs : List (List Value)) (j : Nat) (l : List Value) (i : Nat) (v : Value), (∀ l ∈ xs, l.length = c) → xs[j]? = some l → l[i]? = some v → xs.flatten[j * c + i]? = some v
  | [], j, l, i, v, _, h, _ => by simp at h
  | a :: xs, 0, l, i, v, hc, h, hi => by
    simp at h; subst h
    rw [List.flatten_cons, Nat.zero_mul, Nat.zero_add, List.getElem?_append_left (List.getElem?_eq_some_iff.1 hi).1]
    exact hi
  | a :: xs, j + 1, l, i, v, hc, h, hi => by
    have ha := hc a (by simp)
    rw [List.flatten_cons, List.getElem?_append_right (by rw [ha, Nat.add_mul]; omega), ha, show (j + 1) * c + i - c = j * c + i by rw [Nat.add_mul]; omega]
    exact flat_at xs j l i v (fun l hl => hc l (by simp [hl])) (by simpa using h) hi
theorem cells_flat (ps : List (Nat × Nat)) : ((toPai ps).map Pai.list).flatten = cellsP ps := by
  unfold toPai cellsP
  rw [List.flatMap_def, List.map_map]
  rfl
theorem own_recs {W : World} {B n c : Nat} {A : Option Addr} {ps : List (Nat × Nat)} (h : Own W B tE 2 (.slice A n c) n (cellsP ps)) (hn : ps.length = n) : Recs W 2 A n ((toPai ps).map Pai.list) := by
  refine ⟨by simp [toPai, hn], fun hp => ?_⟩
  obtain ⟨A', c', e, _, hA⟩ := h.form
  cases e
  obtain ⟨g, rfl, _, _, hc⟩ := hA hp
  refine ⟨_, rfl, fun j l hl => ⟨len_pai _ l (List.mem_of_getElem? hl), fun i v hv => ?_⟩⟩
  rw [add_at]
  refine hc _ _ ?_
  rw [← cells_flat]
  exact flat_at _ j l i v (len_pai _) hl hv
theorem sameP (ps : List (Nat × Nat)) (A B : Option Addr) (c d : Nat) (w : World) {b1 b2 : Nat} (h : Own w b1 tE 2 (.slice A ps.length c) ps.length (cellsP ps)) (h' : Own w b2 tE 2 (.slice B ps.length d) ps.length (cellsP ps)) (hn : ps.length ≤ 1099511627776) :
    Calls Tryz.prog 9 #[.slice A ps.length c, .slice B ps.length d] w fun e w' => e = .returned (.bool true) ∧ Below w.heap.size w w' :=
  same_pai (toPai ps) A B ps.length c d w (own_recs h rfl) (own_recs h' rfl) hn
theorem ps_len {xs : List Wai} {ys : List Idl} {n m : Nat} {ps : List (Nat × Nat)} (hy : ys.length = m) (hb : n + m ≤ 1048576) (hp : allP xs ys n = ps) : ps.length ≤ 1099511627776 := by
  have h := all_le xs ys n
  rw [hp, hy] at h
  have : n * m ≤ 1048576 * 1048576 := Nat.mul_le_mul (by omega) (by omega)
  omega
theorem half_set {α : Type} (f : α → α) {xs : List α} {k : Nat} {x : α} (h : xs[k]? = some x) : ((xs.take k).map f ++ xs.drop k).set k (f x) = (xs.take (k + 1)).map f ++ xs.drop (k + 1) := by
  have hk := (List.getElem?_eq_some_iff.1 h).1
  rw [List.set_append_right _ _ (by simp; omega)]
  rw [show k - ((xs.take k).map f).length = 0 by simp; omega, List.drop_eq_getElem_cons hk, List.set_cons_zero, take_snoc xs k x h, List.map_append, List.append_assoc]
  rfl
theorem half_get {α : Type} (f : α → α) {xs : List α} {k : Nat} {x : α} (h : xs[k]? = some x) : ((xs.take k).map f ++ xs.drop k)[k]? = some x := by
  have hk := (List.getElem?_eq_some_iff.1 h).1
  rw [List.getElem?_append_right (by simp; omega), List.getElem?_drop]
  rw [show k + (k - ((xs.take k).map f).length) = k by simp; omega, h]
theorem set_flat {c : Nat} : ∀ (ls : List (List Value)) (k i : Nat) (l : List Value) (v : Value) (r : List Value), (∀ l ∈ ls, l.length = c) → ls[k]? = some l → i < c → (ls.flatten ++ r).set (k * c + i) v = (ls.set k (l.set i v)).flatten ++ r
  | [], k, i, l, v, r, _, h, _ => by simp at h
  | a :: ls, 0, i, l, v, r, hc, h, hi => by
    simp at h; subst h
    have ha := hc a (by simp)
    rw [List.flatten_cons, Nat.zero_mul, Nat.zero_add, List.append_assoc, List.set_append_left _ _ (by omega), List.set_cons_zero, List.flatten_cons, List.append_assoc]
  | a :: ls, k + 1, i, l, v, r, hc, h, hi => by
    have ha := hc a (by simp)
    rw [List.flatten_cons, List.append_assoc, List.set_append_right _ _ (by rw [ha, Nat.add_mul]; omega), ha, show (k + 1) * c + i - c = k * c + i by rw [Nat.add_mul]; omega]
    rw [set_flat ls k i l v r (fun l hl => hc l (by simp [hl])) (by simpa using h) hi, List.set_cons_succ, List.flatten_cons, List.append_assoc]
theorem cell_flat {c : Nat} {W : World} {g : Nat} {t : TypeId} {ls : List (List Value)} {r : List Value} {k i : Nat} {l : List Value} {v : Value} (h : Blk W g t (ls.flatten ++ r)) (hc : ∀ l ∈ ls, l.length = c) (hk : ls[k]? = some l) (hi : l[i]? = some v) : W.cell? ⟨g, k * c + i, none⟩ = some v := by
  have h1 := flat_at ls k l i v hc hk hi
  exact h.cellv (by rw [List.getElem?_append_left (List.getElem?_eq_some_iff.1 h1).1]; exact h1)
end Go.Proofs.YtkpdomnmlinomaaGreat.FP
