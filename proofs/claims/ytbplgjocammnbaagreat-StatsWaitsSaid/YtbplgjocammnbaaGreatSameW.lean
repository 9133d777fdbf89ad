/- Contracts of SameWaitings, isWaiting, LeftWaitings: two lists are the same; a copy is still that, its mark too. -/
import Derived.Test.YtbplgjocammnbaaGreatTwinS
import Derived.Test.YtbplgjocammnbaaGreatTypes
import Derived.Test.YtbplgjocammnbaaGreatIdEq
import Derived.Deep.RegionHeld3
namespace Go.Proofs.YtbplgjocammnbaaGreat.SameS
open Go.RowKit Go.Proofs.YtbplgjocammnbaaGreat.Aid Go.Proofs.YtbplgjocammnbaaGreat.Mem Go.Proofs.YtbplgjocammnbaaGreat.Keep Go.Proofs.YtbplgjocammnbaaGreat.Recs Go.Proofs.YtbplgjocammnbaaGreat.Types Go.Proofs.YtbplgjocammnbaaGreat.TwinS
set_option linter.unusedSimpArgs false
set_option linter.unusedVariables false
set_option maxRecDepth 100000
theorem kba_wai {B : Nat} {a w : World} (h : Below B a w) (o : Obj) (hB : B ≤ a.heap.size := by exact Nat.le_refl _) : Below B a (w.alloc o) := h.alloc (Nat.le_trans hB h.size) o
theorem load_wai' (v : Value) : Instr.loadAt 81 v = LA 81 v := rfl
theorem wai_at {w : World} {A : Option Addr} {n : Nat} {es : List Wai} (h : Recs w 18 A n (es.map Wai.list)) {j : Nat} (hj : j < n) : ∃ ad x, A = some ad ∧ es[j]? = some x ∧ ∀ w', Below w.heap.size w w' → (LA 81 (.pointer (some (ad.add (j * 18))))).run Tryz.prog w' = .ok (.agg #[.int .u8 x.i0, .int .u8 x.i1, .int .u8 x.i2, .int .u8 x.i3, .int .u8 x.i4, .int .u8 x.i5, .int .u8 x.i6, .int .u8 x.i7, .int .i16 x.fx, .int .i16 x.fy, .int .i16 x.tx, .int .i16 x.ty, .int .u8 x.seats, .int .u8 x.classes, .int .i64 x.base, .int .i64 x.ttl, .int .i64 x.since, .int .i64 x.number]) w' := by
  obtain ⟨ad, l, rfl, hl, hc, hcell⟩ := h.at_ hj
  rw [List.getElem?_map] at hl
  obtain ⟨x, hx, rfl⟩ := Option.map_eq_some_iff.1 hl
  refine ⟨ad, x, rfl, hx, fun w' hb => loads_at (l := x.list) (s := []) Tryz.underlying81 rfl (by show _ = some 18; kernel_rfl) fun i v hv => ?_⟩
  rw [add_add]
  rw [List.append_nil] at hv
  have hv' := hcell i v hv
  exact (hb.cell (World.block_lt_of_cell? w _ hv')).trans hv'
theorem len_wai (xs : List Wai) : ∀ l ∈ xs.map Wai.list, l.length = 18 := by
  intro l hl; obtain ⟨x, _, rfl⟩ := List.mem_map.1 hl; rfl
theorem recs_wai {w : World} {G n : Nat} {t : TypeId} {xs : List Wai} {r : List Value} (h : Blk w G t ((xs.map Wai.list).flatten ++ r)) (hn : xs.length = n) : Recs w 18 (some ⟨G, 0, none⟩) n (xs.map Wai.list) := by
  have := Recs.of_blk (len_wai xs) h
  rwa [List.length_map, hn] at this
attribute [local go_sem ↓] load_wai'
theorem la_new_wai (w : World) : (LA 81 (.pointer (some ⟨w.heap.size, 0, none⟩))).run Tryz.prog (w.alloc (.cells #[.int .u8 0, .int .u8 0, .int .u8 0, .int .u8 0, .int .u8 0, .int .u8 0, .int .u8 0, .int .u8 0, .int .i16 0, .int .i16 0, .int .i16 0, .int .i16 0, .int .u8 0, .int .u8 0, .int .i64 0, .int .i64 0, .int .i64 0, .int .i64 (-8777)] 81)) = .ok (.agg #[.int .u8 0, .int .u8 0, .int .u8 0, .int .u8 0, .int .u8 0, .int .u8 0, .int .u8 0, .int .u8 0, .int .i16 0, .int .i16 0, .int .i16 0, .int .i16 0, .int .u8 0, .int .u8 0, .int .i64 0, .int .i64 0, .int .i64 0, .int .i64 (-8777)]) (w.alloc (.cells #[.int .u8 0, .int .u8 0, .int .u8 0, .int .u8 0, .int .u8 0, .int .u8 0, .int .u8 0, .int .u8 0, .int .i16 0, .int .i16 0, .int .i16 0, .int .i16 0, .int .u8 0, .int .u8 0, .int .i64 0, .int .i64 0, .int .i64 0, .int .i64 (-8777)] 81)) :=
  loads_box Tryz.underlying81 rfl (by show _ = some 18; kernel_rfl) (fun i => World.cell?_alloc_new w _ _ i)
theorem is_wai (n : Int) (w : World) (hn : n = 7777) : Calls Tryz.prog 139 #[.agg #[.int .u8 0, .int .u8 0, .int .u8 0, .int .u8 0, .int .u8 0, .int .u8 0, .int .u8 0, .int .u8 0, .int .i16 0, .int .i16 0, .int .i16 0, .int .i16 0, .int .u8 0, .int .u8 0, .int .i64 0, .int .i64 0, .int .i64 0, .int .i64 (-8777)], .int .i64 n] w fun e w' => e = .returned (.bool true) ∧ Below w.heap.size w w' := by
  subst hn
  have la := la_new_wai w
  have hid := fun W => id_same W 0 0 0 0 0 0 0 0
  go_enter Tryz.func139, Tryz.ntmps139
  go_wp2
  go_ret
  exact ⟨by simp, kba_wai (Below.refl _ _) _⟩
set_option maxHeartbeats 2000000 in
theorem same_wai (xs : List Wai) (A B : Option Addr) (n c d : Nat) (w : World) (h : Recs w 18 A n (xs.map Wai.list)) (h' : Recs w 18 B n (xs.map Wai.list)) (hn : n ≤ 1048576) :
    Calls Tryz.prog 167 #[.slice A n c, .slice B n d] w fun e w' => e = .returned (.bool true) ∧ Below w.heap.size w w' := by
  have H := Lib.hid h
  have H' := Lib.hid h'
  clear h h'
  go_enter Tryz.func167, Tryz.ntmps167
  go_wp2_with (fail)
  go_loopw [5] (fun i wr => ∃ k : Nat, k ≤ n ∧ i = .int .i64 k ∧ Hid (Below w.heap.size w wr)) (fun i _ => n - (intOf i).toNat)
  case atStart => exact ⟨0, Nat.zero_le _, rfl, Lib.hid (Below.refl _ _)⟩
  case round =>
    obtain ⟨k, hk, rfl, HB⟩ := hrel
    by_cases hlt : k < n
    · obtain ⟨ad, x, rfl, hx, hc⟩ := wai_at H.out hlt
      obtain ⟨bd, y, rfl, hy, hc'⟩ := wai_at H'.out hlt
      obtain rfl : x = y := by rw [hx] at hy; injection hy
      have hid := fun W => id_same W x.i0 x.i1 x.i2 x.i3 x.i4 x.i5 x.i6 x.i7
      have EXT : Hid (∀ W, Below w.heap.size w W → (fun W => Below w.heap.size w W ∧ (LA 81 (.pointer (some (ad.add (k * 18))))).run Tryz.prog W = .ok (.agg #[.int .u8 x.i0, .int .u8 x.i1, .int .u8 x.i2, .int .u8 x.i3, .int .u8 x.i4, .int .u8 x.i5, .int .u8 x.i6, .int .u8 x.i7, .int .i16 x.fx, .int .i16 x.fy, .int .i16 x.tx, .int .i16 x.ty, .int .u8 x.seats, .int .u8 x.classes, .int .i64 x.base, .int .i64 x.ttl, .int .i64 x.since, .int .i64 x.number]) W ∧ (LA 81 (.pointer (some (bd.add (k * 18))))).run Tryz.prog W = .ok (.agg #[.int .u8 x.i0, .int .u8 x.i1, .int .u8 x.i2, .int .u8 x.i3, .int .u8 x.i4, .int .u8 x.i5, .int .u8 x.i6, .int .u8 x.i7, .int .i16 x.fx, .int .i16 x.fy, .int .i16 x.tx, .int .i16 x.ty, .int .u8 x.seats, .int .u8 x.classes, .int .i64 x.base, .int .i64 x.ttl, .int .i64 x.since, .int .i64 x.number]) W) W) := Lib.hid (fun W h => ⟨h, hc W h, hc' W h⟩)
      dsimp only at EXT
      clear hx hy hc hc'
      go_wp2
      go_region_held3 (fun W => Below w.heap.size w W ∧ (LA 81 (.pointer (some (ad.add (k * 18))))).run Tryz.prog W = .ok (.agg #[.int .u8 x.i0, .int .u8 x.i1, .int .u8 x.i2, .int .u8 x.i3, .int .u8 x.i4, .int .u8 x.i5, .int .u8 x.i6, .int .u8 x.i7, .int .i16 x.fx, .int .i16 x.fy, .int .i16 x.tx, .int .i16 x.ty, .int .u8 x.seats, .int .u8 x.classes, .int .i64 x.base, .int .i64 x.ttl, .int .i64 x.since, .int .i64 x.number]) W ∧ (LA 81 (.pointer (some (bd.add (k * 18))))).run Tryz.prog W = .ok (.agg #[.int .u8 x.i0, .int .u8 x.i1, .int .u8 x.i2, .int .u8 x.i3, .int .u8 x.i4, .int .u8 x.i5, .int .u8 x.i6, .int .u8 x.i7, .int .i16 x.fx, .int .i16 x.fy, .int .i16 x.tx, .int .i16 x.ty, .int .u8 x.seats, .int .u8 x.classes, .int .i64 x.base, .int .i64 x.ttl, .int .i64 x.since, .int .i64 x.number]) W) (first | exact EXT.out _ (HB.out.drew)) (fail)
      obtain ⟨h8, _, _⟩ := ‹_ ∧ _ ∧ _›
      go_wp2
      go_roundw
      case rel => exact ⟨k + 1, by omega, by go_num, Lib.hid h8⟩
      case measure => simp [intOf]; omega
    · obtain rfl : k = n := by omega
      go_wp2
      go_ret
      exact ⟨rfl, HB.out⟩
theorem la_mark_wai {W : World} {G n : Nat} {es : List Wai} (h : Blk W G 81 ((es.map Wai.list).flatten ++ markwai)) (hn : es.length = n) : (LA 81 (.pointer (some ⟨G, n * 18, none⟩))).run Tryz.prog W = .ok (.agg #[.int .u8 0, .int .u8 0, .int .u8 0, .int .u8 0, .int .u8 0, .int .u8 0, .int .u8 0, .int .u8 0, .int .i16 0, .int .i16 0, .int .i16 0, .int .i16 0, .int .u8 0, .int .u8 0, .int .i64 0, .int .i64 0, .int .i64 0, .int .i64 (-8777)]) W := by
  refine loads_at (l := markwai) (s := []) Tryz.underlying81 rfl (by show _ = some 18; kernel_rfl) fun j v hv => ?_
  rw [Addr.add_mid]
  refine h.cellv ?_
  have e : ((es.map Wai.list).flatten).length = n * 18 := by
    have := flat_take (len_wai es) (k := n) (by simp; omega)
    rwa [List.take_of_length_le (by simp; omega)] at this
  rw [List.getElem?_append_right (by omega), e, Nat.add_sub_cancel_left]
  simpa using hv
/-- LeftWaitings: the copy is still that, its mark too. -/
theorem left_wai (es : List Wai) (G : Nat) (A : Option Addr) (n c : Nat) (w : World) (hg : Blk w G 81 ((es.map Wai.list).flatten ++ markwai)) (h : Recs w 18 A n (es.map Wai.list)) (hn : n ≤ 1048576) :
    Calls Tryz.prog 101 #[.slice (some ⟨G, 0, none⟩) n (n + 1), .slice A n c] w fun e w' => e = .returned (.bool true) ∧ Below w.heap.size w w' := by
  have hl : es.length = n := by have := h.1; simpa using this
  have H := Lib.hid h
  have H2 := Lib.hid (recs_wai hg hl)
  have HM := Lib.hid (fun (W : World) (hb : Below w.heap.size w W) => la_mark_wai (hg.keep hb) hl)
  clear h hl hg
  go_enter Tryz.func101, Tryz.ntmps101
  go_wp2_with (first | (go_at_call 167; (with_reducible refine (same_wai es _ A n _ c _ H2.out H.out hn).mono ?_); rintro e w1 ⟨rfl, hb⟩; have lm := HM.out w1 hb; have HB1 := Lib.hid hb; clear hb) | (go_at_call 139; (with_reducible refine (is_wai 7777 _ rfl).mono ?_); rintro e w2 ⟨rfl, hb⟩; have HB2 := Lib.hid (kbt HB1.out hb)))
  go_ret
  exact ⟨rfl, HB2.out⟩
end Go.Proofs.YtbplgjocammnbaaGreat.SameS
