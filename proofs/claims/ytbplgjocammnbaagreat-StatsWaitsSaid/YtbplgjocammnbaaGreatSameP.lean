/- Contracts of SamePairs, isPair, LeftPairs: two lists are the same; a copy is still that, its mark too. -/
import Derived.Test.YtbplgjocammnbaaGreatTwinP
import Derived.Test.YtbplgjocammnbaaGreatTypes
import Derived.Deep.RegionHeld3
namespace Go.Proofs.YtbplgjocammnbaaGreat.SameS
open Go.RowKit Go.Proofs.YtbplgjocammnbaaGreat.Aid Go.Proofs.YtbplgjocammnbaaGreat.Mem Go.Proofs.YtbplgjocammnbaaGreat.Keep Go.Proofs.YtbplgjocammnbaaGreat.Recs Go.Proofs.YtbplgjocammnbaaGreat.Types Go.Proofs.YtbplgjocammnbaaGreat.TwinS
set_option linter.unusedSimpArgs false
set_option linter.unusedVariables false
set_option maxRecDepth 100000
theorem kba_pai {B : Nat} {a w : World} (h : Below B a w) (o : Obj) (hB : B ≤ a.heap.size := by exact Nat.le_refl _) : Below B a (w.alloc o) := h.alloc (Nat.le_trans hB h.size) o
theorem load_pai' (v : Value) : Instr.loadAt 72 v = LA 72 v := rfl
theorem pai_at {w : World} {A : Option Addr} {n : Nat} {es : List Pai} (h : Recs w 2 A n (es.map Pai.list)) {j : Nat} (hj : j < n) : ∃ ad x, A = some ad ∧ es[j]? = some x ∧ ∀ w', Below w.heap.size w w' → (LA 72 (.pointer (some (ad.add (j * 2))))).run Tryz.prog w' = .ok (.agg #[.int .i64 x.r, .int .i64 x.c]) w' := by
  obtain ⟨ad, l, rfl, hl, hc, hcell⟩ := h.at_ hj
  rw [List.getElem?_map] at hl
  obtain ⟨x, hx, rfl⟩ := Option.map_eq_some_iff.1 hl
  refine ⟨ad, x, rfl, hx, fun w' hb => loads_at (l := x.list) (s := []) Tryz.underlying72 rfl (by show _ = some 2; kernel_rfl) fun i v hv => ?_⟩
  rw [add_add]
  rw [List.append_nil] at hv
  have hv' := hcell i v hv
  exact (hb.cell (World.block_lt_of_cell? w _ hv')).trans hv'
theorem len_pai (xs : List Pai) : ∀ l ∈ xs.map Pai.list, l.length = 2 := by
  intro l hl; obtain ⟨x, _, rfl⟩ := List.mem_map.1 hl; rfl
theorem recs_pai {w : World} {G n : Nat} {t : TypeId} {xs : List Pai} {r : List Value} (h : Blk w G t ((xs.map Pai.list).flatten ++ r)) (hn : xs.length = n) : Recs w 2 (some ⟨G, 0, none⟩) n (xs.map Pai.list) := by
  have := Recs.of_blk (len_pai xs) h
  rwa [List.length_map, hn] at this
attribute [local go_sem ↓] load_pai'
theorem la_new_pai (w : World) : (LA 72 (.pointer (some ⟨w.heap.size, 0, none⟩))).run Tryz.prog (w.alloc (.cells #[.int .i64 (-8777), .int .i64 0] 72)) = .ok (.agg #[.int .i64 (-8777), .int .i64 0]) (w.alloc (.cells #[.int .i64 (-8777), .int .i64 0] 72)) :=
  loads_box Tryz.underlying72 rfl (by show _ = some 2; kernel_rfl) (fun i => World.cell?_alloc_new w _ _ i)
theorem is_pai (n : Int) (w : World) (hn : n = 7777) : Calls Tryz.prog 141 #[.agg #[.int .i64 (-8777), .int .i64 0], .int .i64 n] w fun e w' => e = .returned (.bool true) ∧ Below w.heap.size w w' := by
  subst hn
  have la := la_new_pai w
  go_enter Tryz.func141, Tryz.ntmps141
  go_wp2
  go_ret
  exact ⟨by simp, kba_pai (Below.refl _ _) _⟩
set_option maxHeartbeats 2000000 in
theorem same_pai (xs : List Pai) (A B : Option Addr) (n c d : Nat) (w : World) (h : Recs w 2 A n (xs.map Pai.list)) (h' : Recs w 2 B n (xs.map Pai.list)) (hn : n ≤ 1048576) :
    Calls Tryz.prog 176 #[.slice A n c, .slice B n d] w fun e w' => e = .returned (.bool true) ∧ Below w.heap.size w w' := by
  have H := Lib.hid h
  have H' := Lib.hid h'
  clear h h'
  go_enter Tryz.func176, Tryz.ntmps176
  go_wp2_with (fail)
  go_loopw [5] (fun i wr => ∃ k : Nat, k ≤ n ∧ i = .int .i64 k ∧ Hid (Below w.heap.size w wr)) (fun i _ => n - (intOf i).toNat)
  case atStart => exact ⟨0, Nat.zero_le _, rfl, Lib.hid (Below.refl _ _)⟩
  case round =>
    obtain ⟨k, hk, rfl, HB⟩ := hrel
    by_cases hlt : k < n
    · obtain ⟨ad, x, rfl, hx, hc⟩ := pai_at H.out hlt
      obtain ⟨bd, y, rfl, hy, hc'⟩ := pai_at H'.out hlt
      obtain rfl : x = y := by rw [hx] at hy; injection hy
      have EXT : Hid (∀ W, Below w.heap.size w W → (fun W => Below w.heap.size w W ∧ (LA 72 (.pointer (some (ad.add (k * 2))))).run Tryz.prog W = .ok (.agg #[.int .i64 x.r, .int .i64 x.c]) W ∧ (LA 72 (.pointer (some (bd.add (k * 2))))).run Tryz.prog W = .ok (.agg #[.int .i64 x.r, .int .i64 x.c]) W) W) := Lib.hid (fun W h => ⟨h, hc W h, hc' W h⟩)
      dsimp only at EXT
      clear hx hy hc hc'
      go_wp2
      go_region_held3 (fun W => Below w.heap.size w W ∧ (LA 72 (.pointer (some (ad.add (k * 2))))).run Tryz.prog W = .ok (.agg #[.int .i64 x.r, .int .i64 x.c]) W ∧ (LA 72 (.pointer (some (bd.add (k * 2))))).run Tryz.prog W = .ok (.agg #[.int .i64 x.r, .int .i64 x.c]) W) (first | exact EXT.out _ (HB.out.drew)) (fail)
      obtain ⟨h8, _, _⟩ := ‹_ ∧ _ ∧ _›
      go_wp2
      go_roundw
      case rel => exact ⟨k + 1, by omega, by go_num, Lib.hid h8⟩
      case measure => simp [intOf]; omega
    · obtain rfl : k = n := by omega
      go_wp2
      go_ret
      exact ⟨rfl, HB.out⟩
theorem la_mark_pai {W : World} {G n : Nat} {es : List Pai} (h : Blk W G 72 ((es.map Pai.list).flatten ++ markpai)) (hn : es.length = n) : (LA 72 (.pointer (some ⟨G, n * 2, none⟩))).run Tryz.prog W = .ok (.agg #[.int .i64 (-8777), .int .i64 0]) W := by
  refine loads_at (l := markpai) (s := []) Tryz.underlying72 rfl (by show _ = some 2; kernel_rfl) fun j v hv => ?_
  rw [Addr.add_mid]
  refine h.cellv ?_
  have e : ((es.map Pai.list).flatten).length = n * 2 := by
    have := flat_take (len_pai es) (k := n) (by simp; omega)
    rwa [List.take_of_length_le (by simp; omega)] at this
  rw [List.getElem?_append_right (by omega), e, Nat.add_sub_cancel_left]
  simpa using hv
/-- LeftPairs: the copy is still that, its mark too. -/
theorem left_pai (es : List Pai) (G : Nat) (A : Option Addr) (n c : Nat) (w : World) (hg : Blk w G 72 ((es.map Pai.list).flatten ++ markpai)) (h : Recs w 2 A n (es.map Pai.list)) (hn : n ≤ 1048576) :
    Calls Tryz.prog 170 #[.slice (some ⟨G, 0, none⟩) n (n + 1), .slice A n c] w fun e w' => e = .returned (.bool true) ∧ Below w.heap.size w w' := by
  have hl : es.length = n := by have := h.1; simpa using this
  have H := Lib.hid h
  have H2 := Lib.hid (recs_pai hg hl)
  have HM := Lib.hid (fun (W : World) (hb : Below w.heap.size w W) => la_mark_pai (hg.keep hb) hl)
  clear h hl hg
  go_enter Tryz.func170, Tryz.ntmps170
  go_wp2_with (first | (go_at_call 176; (with_reducible refine (same_pai es _ A n _ c _ H2.out H.out hn).mono ?_); rintro e w1 ⟨rfl, hb⟩; have lm := HM.out w1 hb; have HB1 := Lib.hid hb; clear hb) | (go_at_call 141; (with_reducible refine (is_pai 7777 _ rfl).mono ?_); rintro e w2 ⟨rfl, hb⟩; have HB2 := Lib.hid (kbt HB1.out hb)))
  go_ret
  exact ⟨rfl, HB2.out⟩
end Go.Proofs.YtbplgjocammnbaaGreat.SameS
