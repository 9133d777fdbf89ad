/- Contracts of SameEdges, isEdge, LeftEdges: two lists are the same; a copy is still that, its mark too. -/
import Derived.Test.YtbplgjocammnbaaGreatTwinE
import Derived.Test.YtbplgjocammnbaaGreatTypes
import Derived.Deep.RegionHeld3
namespace Go.Proofs.YtbplgjocammnbaaGreat.SameS
open Go.RowKit Go.Proofs.YtbplgjocammnbaaGreat.Aid Go.Proofs.YtbplgjocammnbaaGreat.Mem Go.Proofs.YtbplgjocammnbaaGreat.Keep Go.Proofs.YtbplgjocammnbaaGreat.Recs Go.Proofs.YtbplgjocammnbaaGreat.Types Go.Proofs.YtbplgjocammnbaaGreat.TwinS
set_option linter.unusedSimpArgs false
set_option linter.unusedVariables false
set_option maxRecDepth 100000
theorem kba_edg {B : Nat} {a w : World} (h : Below B a w) (o : Obj) (hB : B ≤ a.heap.size := by exact Nat.le_refl _) : Below B a (w.alloc o) := h.alloc (Nat.le_trans hB h.size) o
theorem load_edg' (v : Value) : Instr.loadAt 168 v = LA 168 v := rfl
theorem edg_at {w : World} {A : Option Addr} {n : Nat} {es : List Edg} (h : Recs w 3 A n (es.map Edg.list)) {j : Nat} (hj : j < n) : ∃ ad x, A = some ad ∧ es[j]? = some x ∧ ∀ w', Below w.heap.size w w' → (LA 168 (.pointer (some (ad.add (j * 3))))).run Tryz.prog w' = .ok (.agg #[.int .i64 x.r, .int .i64 x.c, .int .i64 x.w]) w' := by
  obtain ⟨ad, l, rfl, hl, hc, hcell⟩ := h.at_ hj
  rw [List.getElem?_map] at hl
  obtain ⟨x, hx, rfl⟩ := Option.map_eq_some_iff.1 hl
  refine ⟨ad, x, rfl, hx, fun w' hb => loads_at (l := x.list) (s := []) Tryz.underlying168 rfl (by show _ = some 3; kernel_rfl) fun i v hv => ?_⟩
  rw [add_add]
  rw [List.append_nil] at hv
  have hv' := hcell i v hv
  exact (hb.cell (World.block_lt_of_cell? w _ hv')).trans hv'
theorem len_edg (xs : List Edg) : ∀ l ∈ xs.map Edg.list, l.length = 3 := by
  intro l hl; obtain ⟨x, _, rfl⟩ := List.mem_map.1 hl; rfl
theorem recs_edg {w : World} {G n : Nat} {t : TypeId} {xs : List Edg} {r : List Value} (h : Blk w G t ((xs.map Edg.list).flatten ++ r)) (hn : xs.length = n) : Recs w 3 (some ⟨G, 0, none⟩) n (xs.map Edg.list) := by
  have := Recs.of_blk (len_edg xs) h
  rwa [List.length_map, hn] at this
attribute [local go_sem ↓] load_edg'
theorem la_new_edg (w : World) : (LA 168 (.pointer (some ⟨w.heap.size, 0, none⟩))).run Tryz.prog (w.alloc (.cells #[.int .i64 0, .int .i64 0, .int .i64 (-8777)] 168)) = .ok (.agg #[.int .i64 0, .int .i64 0, .int .i64 (-8777)]) (w.alloc (.cells #[.int .i64 0, .int .i64 0, .int .i64 (-8777)] 168)) :=
  loads_box Tryz.underlying168 rfl (by show _ = some 3; kernel_rfl) (fun i => World.cell?_alloc_new w _ _ i)
theorem is_edg (n : Int) (w : World) (hn : n = 7777) : Calls Tryz.prog 142 #[.agg #[.int .i64 0, .int .i64 0, .int .i64 (-8777)], .int .i64 n] w fun e w' => e = .returned (.bool true) ∧ Below w.heap.size w w' := by
  subst hn
  have la := la_new_edg w
  go_enter Tryz.func142, Tryz.ntmps142
  go_wp2
  go_ret
  exact ⟨by simp, kba_edg (Below.refl _ _) _⟩
set_option maxHeartbeats 2000000 in
theorem same_edg (xs : List Edg) (A B : Option Addr) (n c d : Nat) (w : World) (h : Recs w 3 A n (xs.map Edg.list)) (h' : Recs w 3 B n (xs.map Edg.list)) (hn : n ≤ 1048576) :
    Calls Tryz.prog 175 #[.slice A n c, .slice B n d] w fun e w' => e = .returned (.bool true) ∧ Below w.heap.size w w' := by
  have H := Lib.hid h
  have H' := Lib.hid h'
  clear h h'
  go_enter Tryz.func175, Tryz.ntmps175
  go_wp2_with (fail)
  go_loopw [5] (fun i wr => ∃ k : Nat, k ≤ n ∧ i = .int .i64 k ∧ Hid (Below w.heap.size w wr)) (fun i _ => n - (intOf i).toNat)
  case atStart => exact ⟨0, Nat.zero_le _, rfl, Lib.hid (Below.refl _ _)⟩
  case round =>
    obtain ⟨k, hk, rfl, HB⟩ := hrel
    by_cases hlt : k < n
    · obtain ⟨ad, x, rfl, hx, hc⟩ := edg_at H.out hlt
      obtain ⟨bd, y, rfl, hy, hc'⟩ := edg_at H'.out hlt
      obtain rfl : x = y := by rw [hx] at hy; injection hy
      have EXT : Hid (∀ W, Below w.heap.size w W → (fun W => Below w.heap.size w W ∧ (LA 168 (.pointer (some (ad.add (k * 3))))).run Tryz.prog W = .ok (.agg #[.int .i64 x.r, .int .i64 x.c, .int .i64 x.w]) W ∧ (LA 168 (.pointer (some (bd.add (k * 3))))).run Tryz.prog W = .ok (.agg #[.int .i64 x.r, .int .i64 x.c, .int .i64 x.w]) W) W) := Lib.hid (fun W h => ⟨h, hc W h, hc' W h⟩)
      dsimp only at EXT
      clear hx hy hc hc'
      go_wp2
      go_region_held3 (fun W => Below w.heap.size w W ∧ (LA 168 (.pointer (some (ad.add (k * 3))))).run Tryz.prog W = .ok (.agg #[.int .i64 x.r, .int .i64 x.c, .int .i64 x.w]) W ∧ (LA 168 (.pointer (some (bd.add (k * 3))))).run Tryz.prog W = .ok (.agg #[.int .i64 x.r, .int .i64 x.c, .int .i64 x.w]) W) (first | exact EXT.out _ (HB.out.drew)) (fail)
      obtain ⟨h8, _, _⟩ := ‹_ ∧ _ ∧ _›
      go_wp2
      go_roundw
      case rel => exact ⟨k + 1, by omega, by go_num, Lib.hid h8⟩
      case measure => simp [intOf]; omega
    · obtain rfl : k = n := by omega
      go_wp2
      go_ret
      exact ⟨rfl, HB.out⟩
theorem la_mark_edg {W : World} {G n : Nat} {es : List Edg} (h : Blk W G 168 ((es.map Edg.list).flatten ++ markedg)) (hn : es.length = n) : (LA 168 (.pointer (some ⟨G, n * 3, none⟩))).run Tryz.prog W = .ok (.agg #[.int .i64 0, .int .i64 0, .int .i64 (-8777)]) W := by
  refine loads_at (l := markedg) (s := []) Tryz.underlying168 rfl (by show _ = some 3; kernel_rfl) fun j v hv => ?_
  rw [Addr.add_mid]
  refine h.cellv ?_
  have e : ((es.map Edg.list).flatten).length = n * 3 := by
    have := flat_take (len_edg es) (k := n) (by simp; omega)
    rwa [List.take_of_length_le (by simp; omega)] at this
  rw [List.getElem?_append_right (by omega), e, Nat.add_sub_cancel_left]
  simpa using hv
/-- LeftEdges: the copy is still that, its mark too. -/
theorem left_edg (es : List Edg) (G : Nat) (A : Option Addr) (n c : Nat) (w : World) (hg : Blk w G 168 ((es.map Edg.list).flatten ++ markedg)) (h : Recs w 3 A n (es.map Edg.list)) (hn : n ≤ 1048576) :
    Calls Tryz.prog 169 #[.slice (some ⟨G, 0, none⟩) n (n + 1), .slice A n c] w fun e w' => e = .returned (.bool true) ∧ Below w.heap.size w w' := by
  have hl : es.length = n := by have := h.1; simpa using this
  have H := Lib.hid h
  have H2 := Lib.hid (recs_edg hg hl)
  have HM := Lib.hid (fun (W : World) (hb : Below w.heap.size w W) => la_mark_edg (hg.keep hb) hl)
  clear h hl hg
  go_enter Tryz.func169, Tryz.ntmps169
  go_wp2_with (first | (go_at_call 175; (with_reducible refine (same_edg es _ A n _ c _ H2.out H.out hn).mono ?_); rintro e w1 ⟨rfl, hb⟩; have lm := HM.out w1 hb; have HB1 := Lib.hid hb; clear hb) | (go_at_call 142; (with_reducible refine (is_edg 7777 _ rfl).mono ?_); rintro e w2 ⟨rfl, hb⟩; have HB2 := Lib.hid (kbt HB1.out hb)))
  go_ret
  exact ⟨rfl, HB2.out⟩
end Go.Proofs.YtbplgjocammnbaaGreat.SameS
