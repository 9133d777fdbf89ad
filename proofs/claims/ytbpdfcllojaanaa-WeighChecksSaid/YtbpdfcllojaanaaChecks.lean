/- The walk of WeighChecks. -/
import Derived.Test.YtbpdfcllojaanaaRefCheck
import Derived.Test.YtbpdfcllojaanaaHas
import Derived.Test.YtbpdfcllojaanaaBey
import Derived.Deep.RegionHeld3
namespace Go.Proofs.Ytbpdfcllojaanaa.Checks
open Go.RowKit Go.Proofs.Ytbpdfcllojaanaa.Aid Go.Proofs.Ytbpdfcllojaanaa.Mem Go.Proofs.Ytbpdfcllojaanaa.Types Go.Proofs.Ytbpdfcllojaanaa.Keep Go.Proofs.Ytbpdfcllojaanaa.Recs Go.Proofs.Ytbpdfcllojaanaa.TwinS Go.Proofs.Ytbpdfcllojaanaa.Check Go.Proofs.Ytbpdfcllojaanaa.Has Go.Proofs.Ytbpdfcllojaanaa.Twin
set_option linter.unusedSimpArgs false
set_option linter.unusedVariables false
set_option maxRecDepth 100000
theorem load_gr (v : Value) : Instr.loadAt 24 v = LA 24 v := rfl
theorem store_gr (p v : Value) : Instr.storeAt 24 p v = SA 24 p v := rfl
attribute [local go_sem ↓] Check.load_edg
theorem edg_one (xs : List Edg) : ∀ l ∈ xs.map Edg.list, ∀ v ∈ l, v.oneCell' = true := by
  intro l hl v hv
  obtain ⟨x, _, rfl⟩ := List.mem_map.1 hl
  simp only [Edg.list, List.mem_cons, List.not_mem_nil, or_false] at hv
  rcases hv with rfl | rfl | rfl <;> rfl
theorem edg_len (xs : List Edg) : ∀ l ∈ xs.map Edg.list, l.length = 3 := by
  intro l hl; obtain ⟨x, _, rfl⟩ := List.mem_map.1 hl; rfl
theorem edg_recs {w : World} {G n : Nat} {t : TypeId} {xs : List Edg} {r : List Value} (h : Blk w G t ((xs.map Edg.list).flatten ++ r)) (hn : xs.length = n) : Recs w 3 (some ⟨G, 0, none⟩) n (xs.map Edg.list) := by
  have := Recs.of_blk (edg_len xs) h
  rwa [List.length_map, hn] at this
theorem la_gr {W : World} {g : Nat} {x y z : Value} (h : Blk W g 24 [x, y, z]) : (LA 24 (.pointer (some ⟨g, 0, none⟩))).run Try.prog W = .ok (.agg #[x, y, z]) W :=
  loads_box (v := #[x, y, z]) Try.underlying24 rfl (by show _ = some 3; kernel_rfl) (fun i => (h.cell i).trans (by simp))
theorem la_ed {W : World} {g : Nat} {x : Edg} (h : Blk W g 26 x.list) : (LA 26 (.pointer (some ⟨g, 0, none⟩))).run Try.prog W = .ok (.agg #[.int .i64 x.r, .int .i64 x.c, .int .i64 x.w]) W :=
  loads_box (v := #[.int .i64 x.r, .int .i64 x.c, .int .i64 x.w]) Try.underlying26 rfl (by show _ = some 3; kernel_rfl) (fun i => (h.cell i).trans (by simp [Edg.list]))
theorem la_mark {W : World} {G n : Nat} {es : List Edg} (h : Blk W G 26 ((es.map Edg.list).flatten ++ markedg)) (hn : es.length = n) : (LA 26 (.pointer (some ⟨G, n * 3, none⟩))).run Try.prog W = .ok (.agg #[.int .i64 0, .int .i64 0, .int .i64 (-8777)]) W := by
  refine loads_at (l := markedg) (s := []) Try.underlying26 rfl (by show _ = some 3; kernel_rfl) fun j v hv => ?_
  rw [Addr.add_mid]
  refine h.cellv ?_
  have e : ((es.map Edg.list).flatten).length = n * 3 := by
    have := flat_take (edg_len es) (k := n) (by simp; omega)
    rwa [List.take_of_length_le (by simp; omega)] at this
  rw [List.getElem?_append_right (by omega), e, Nat.add_sub_cancel_left]
  simpa using hv
/-- LeftEdges: the copy is still that, its mark too. -/
theorem leftE_c (es : List Edg) (G : Nat) (A : Option Addr) (n c : Nat) (w : World) (hg : Blk w G 26 ((es.map Edg.list).flatten ++ markedg)) (h : Recs w 3 A n (es.map Edg.list)) (hn : n ≤ 1048576) :
    Calls Try.prog 27 #[.slice (some ⟨G, 0, none⟩) n (n + 1), .slice A n c] w fun e w' => e = .returned (.bool true) ∧ Below w.heap.size w w' := by
  have hl : es.length = n := by have := h.1; simpa using this
  have H := Lib.hid h
  have H2 := Lib.hid (edg_recs hg hl)
  have HM := Lib.hid (fun (W : World) (hb : Below w.heap.size w W) => la_mark (hg.keep hb) hl)
  clear h hl hg
  go_enter Try.func27, Try.ntmps27
  go_wp2_with (first | (go_at_call 40; (with_reducible refine (sameE_c es _ A n _ c _ H2.out H.out hn).mono ?_); rintro e w1 ⟨rfl, hb⟩; have lm := HM.out w1 hb; have HB1 := Lib.hid hb; clear hb) | (go_at_call 41; (with_reducible refine (isEdge_c ⟨0, 0, -8777⟩ 7777 _ rfl rfl).mono ?_); rintro e w2 ⟨rfl, hb⟩; have HB2 := Lib.hid (kbt HB1.out hb)))
  go_ret
  exact ⟨rfl, HB2.out⟩
/-- LeftGraph. -/
theorem leftG_c (R C : Int) (es : List Edg) (G : Nat) (A : Option Addr) (n c : Nat) (w : World) (hg : Blk w G 26 ((es.map Edg.list).flatten ++ markedg)) (h : Recs w 3 A n (es.map Edg.list)) (hn : n ≤ 1048576) :
    Calls Try.prog 14 #[.agg #[.int .i64 R, .int .i64 C, .slice (some ⟨G, 0, none⟩) n (n + 1)], .agg #[.int .i64 R, .int .i64 C, .slice A n c]] w fun e w' => e = .returned (.bool true) ∧ Below w.heap.size w w' := by
  have H := Lib.hid h
  have HG := Lib.hid hg
  have q1 : (R == R) = true := by simp
  have q2 : (C == C) = true := by simp
  clear h hg
  go_enter Try.func14, Try.ntmps14
  go_wp2_with (first | (go_at_call 27; (with_reducible refine (leftE_c es G A n c _ ((HG.out.alloc _).alloc _) (H.out.keep (kba (kba (Below.refl _ _) _) _)) hn).mono ?_); rintro e w1 ⟨rfl, hb⟩; have HB1 := Lib.hid (kbt (kba (kba (Below.refl _ _) _) _) hb)))
  go_ret
  exact ⟨rfl, HB1.out⟩
theorem tg_store {w0 w9 : World} {s : Nat} {R C : Int} {x : Value} (h1 : Blk w9 s 24 [.int .i64 R, .int .i64 C, x]) (h2 : Blk w9 (s + 1) 24 [.int .i64 0, .int .i64 0, .slice none 0 0]) (v : Value) (hv : v.oneCell' = true) (hs : w0.heap.size = s) (hb : Below w0.heap.size w0 w9) :
    ∃ w10, (SA 24 (.pointer (some ⟨s + 1, 0, none⟩)) (.agg #[.int .i64 R, .int .i64 C, v])).run Try.prog (w9.setCell ⟨s, 2, none⟩ v) = .ok () w10 ∧ Blk w10 (s + 1) 24 [.int .i64 R, .int .i64 C, v] ∧ Below w0.heap.size w0 w10 ∧ ∀ g t l, s + 1 < g → Blk w9 g t l → Blk w10 g t l := by
  have h3 : Blk (w9.setCell ⟨s, 2, none⟩ v) (s + 1) 24 [.int .i64 0, .int .i64 0, .slice none 0 0] := h2.far (p := ⟨s, 2, none⟩) (by simp) v
  refine ⟨_, stores_mid (cs := [.int .i64 R, .int .i64 C, v]) h3 (by simp) (by show _ = some 3; kernel_rfl) (by intro u hu; simp only [List.mem_cons, List.not_mem_nil, or_false] at hu; rcases hu with rfl | rfl | rfl <;> first | rfl | assumption), Blk.puts [.int .i64 R, .int .i64 C, v] 0 _ _ h3 (by simp), below_sets (by omega) _ _ _ (hb.setCell (p := ⟨s, 2, none⟩) (by show w0.heap.size ≤ s; omega) v), fun g t l hg h => Blk.fars (by omega) _ _ _ (h.far (p := ⟨s, 2, none⟩) (by show g ≠ s; omega) v)⟩
section
attribute [local go_sem ↓] load_gr store_gr
/-- TwinGraph: the copy's edges have memory of their own. -/
theorem twinG_c (R C : Int) (es : List Edg) (A : Option Addr) (n c : Nat) (w : World) (h : Recs w 3 A n (es.map Edg.list)) (hn : n ≤ 1048576) :
    Calls Try.prog 11 #[.agg #[.int .i64 R, .int .i64 C, .slice A n c]] w fun e w' => ∃ G, e = .returned (.agg #[.int .i64 R, .int .i64 C, .slice (some ⟨G, 0, none⟩) n (n + 1)]) ∧ w.heap.size ≤ G ∧ Blk w' G 26 ((es.map Edg.list).flatten ++ markedg) ∧ Below w.heap.size w w' := by
  have H := Lib.hid h
  have HB1 := Lib.hid ((Blk.new w 24 [.int .i64 R, .int .i64 C, .slice A n c]).alloc (.cells #[.int .i64 0, .int .i64 0, .slice none 0 0] 24))
  have HB2 := Lib.hid (blk_next w (.cells #[.int .i64 R, .int .i64 C, .slice A n c] 24) 24 [.int .i64 0, .int .i64 0, .slice none 0 0])
  have HS : ((w.alloc (.cells #[.int .i64 R, .int .i64 C, .slice A n c] 24)).alloc (.cells #[.int .i64 0, .int .i64 0, .slice none 0 0] 24)).heap.size = w.heap.size + 1 + 1 := by rw [size_alloc, size_alloc]
  clear h
  go_enter Try.func11, Try.ntmps11
  go_wp2_with (first | (go_at_call 26; (with_reducible refine (twin_edg (es.map Edg.list) A n c _ (w.heap.size + 1 + 1) HS (H.out.keep (kba (kba (Below.refl _ _) _) _)) (edg_one es) hn).mono ?_); rintro e w9 ⟨rfl, hB, hb⟩; have b1 := HB1.out.keep hb; have b2 := HB2.out.keep hb; have f1 := b1.cellv (i := 2) rfl; have f2 := b1.free 2; have l1 := la_gr (b1.put 2 (.slice (some ⟨w.heap.size + 1 + 1, 0, none⟩) n (n + 1))); (refine Exists.elim (tg_store (w0 := w) b1 b2 (.slice (some ⟨w.heap.size + 1 + 1, 0, none⟩) n (n + 1)) rfl rfl (kbt (kba (kba (Below.refl _ _) _) _) hb)) ?_); rintro w10 ⟨hst, h10, hbl, hfar⟩; have HF := Lib.hid (hfar _ _ _ (by omega) hB); have HL := Lib.hid hbl; have H10 := Lib.hid h10; clear b1 b2 hB hb hfar h10 hbl))
  (try simp only [Exit.inBlock, Exit.then])
  have HLV : (loadVar 24 ⟨w.heap.size + 1, 0, none⟩).run Try.prog w10 = .ok (.agg #[.int .i64 R, .int .i64 C, .slice (some ⟨w.heap.size + 1 + 1, 0, none⟩) n (n + 1)]) w10 :=
    run_loadVar_mid (cs := [.int .i64 R, .int .i64 C, .slice (some ⟨w.heap.size + 1 + 1, 0, none⟩) n (n + 1)]) _ _ _ _ _ (fun j v hv => by rw [Nat.zero_add]; exact H10.out.cellv hv) Try.underlying24 rfl (by kernel_rfl)
  refine bodyPost_ret (v := .agg #[.int .i64 R, .int .i64 C, .slice (some ⟨w.heap.size + 1 + 1, 0, none⟩) n (n + 1)]) ((results_cell rfl _ _ _).trans ?_) rfl ?_
  · exact HLV
  · exact ⟨_, rfl, by omega, HF.out, HL.out⟩
end
theorem one_box (w : World) (a : Int) (t : TypeId) : Ints (w.alloc (.cells #[.int .i64 a] t)) .i64 (some ⟨w.heap.size, 0, none⟩) 1 [a] := box_reads w .i64 a t
theorem beyond1 (a : Nat) (w : World) (t : TypeId) (ha : a ≤ 140737488351232) (x : Bool) (hx : decide (1048576 < a) = x) : Calls Try.prog 10 #[.slice (some ⟨w.heap.size, 0, none⟩) 1 1] (w.alloc (.cells #[.int .i64 (a : Int)] t)) fun e w' => e = .returned (.bool x) ∧ w.alloc (.cells #[.int .i64 (a : Int)] t) = w' := by
  refine (beyond_c [(a : Int)] _ 1 1 _ (one_box w a t) (by simp; omega) (by decide)).mono fun e w' ⟨h, k⟩ => ⟨?_, k⟩
  rw [h]
  subst hx
  congr 2
  have e : tot [(a : Int)] = (a : Int) := by simp [tot]
  rw [e, decide_eq_decide]
  omega
/-- The boxes of the graph, of the edge, of the copy, and the copy's edges. -/
def K1 (w0 : World) (R C : Int) (A : Option Addr) (n c : Nat) (x : Edg) (W : World) : Prop :=
  Has w0 [(w0.heap.size + 1, 26, x.list), (w0.heap.size, 24, [.int .i64 R, .int .i64 C, .slice A n c])] W
def K2 (w0 : World) (R C : Int) (A : Option Addr) (n c : Nat) (x : Edg) (G tb : Nat) (es : List Edg) (W : World) : Prop :=
  K1 w0 R C A n c x W ∧ Blk W tb 24 [.int .i64 R, .int .i64 C, .slice (some ⟨G, 0, none⟩) n (n + 1)] ∧ Blk W G 26 ((es.map Edg.list).flatten ++ markedg) ∧ es.length = n ∧ w0.heap.size + 1 < G ∧ G < tb
section
variable {w0 w w' : World} {R C : Int} {A : Option Addr} {n c : Nat} {x : Edg} {G tb : Nat} {es : List Edg}
theorem K1.start (w : World) (R C : Int) (A : Option Addr) (n c : Nat) (x : Edg) : K1 w R C A n c x ((w.alloc (.cells #[.int .i64 R, .int .i64 C, .slice A n c] 24)).alloc (.cells #[.int .i64 x.r, .int .i64 x.c, .int .i64 x.w] 26)) := by
  have h := ((Has.nil w).new 24 [.int .i64 R, .int .i64 C, .slice A n c]).new 26 x.list
  rw [size_alloc] at h
  exact h
theorem K1.keep (h : K1 w0 R C A n c x w) (hb : Below w.heap.size w w') : K1 w0 R C A n c x w' := Has.keep h hb
theorem K1.bel (h : K1 w0 R C A n c x w) : Below w0.heap.size w0 w := Has.bel h
theorem K1.lg (h : K1 w0 R C A n c x w) : (LA 24 (.pointer (some ⟨w0.heap.size, 0, none⟩))).run Try.prog w = .ok (.agg #[.int .i64 R, .int .i64 C, .slice A n c]) w := la_gr (h.1 _ (List.mem_cons_of_mem _ (List.mem_cons_self ..)))
theorem K1.c2 (h : K1 w0 R C A n c x w) : w.cell? ⟨w0.heap.size, 2, none⟩ = some (.slice A n c) := Blk.cellv (h.1 _ (List.mem_cons_of_mem _ (List.mem_cons_self ..))) rfl
theorem K1.le (h : K1 w0 R C A n c x w) : (LA 26 (.pointer (some ⟨w0.heap.size + 1, 0, none⟩))).run Try.prog w = .ok (.agg #[.int .i64 x.r, .int .i64 x.c, .int .i64 x.w]) w := la_ed (h.1 _ (List.mem_cons_self ..))
theorem K1.lt (h : K1 w0 R C A n c x w) : w0.heap.size + 1 < w.heap.size := Blk.lt (h.1 _ (List.mem_cons_self ..))
theorem K2.keep (h : K2 w0 R C A n c x G tb es w) (hb : Below w.heap.size w w') : K2 w0 R C A n c x G tb es w' := ⟨K1.keep h.1 hb, h.2.1.keep hb, h.2.2.1.keep hb, h.2.2.2⟩
theorem K2.lt' (h : K2 w0 R C A n c x G tb es w) : (LA 24 (.pointer (some ⟨tb, 0, none⟩))).run Try.prog w = .ok (.agg #[.int .i64 R, .int .i64 C, .slice (some ⟨G, 0, none⟩) n (n + 1)]) w := la_gr h.2.1
theorem K2.t2 (h : K2 w0 R C A n c x G tb es w) : w.cell? ⟨tb, 2, none⟩ = some (.slice (some ⟨G, 0, none⟩) n (n + 1)) := h.2.1.cellv rfl
theorem K2.bel (h : K2 w0 R C A n c x G tb es w) : Below w0.heap.size w0 w := K1.bel h.1
theorem K2.tw (h : K2 w0 R C A n c x G tb es w) : Blk w G 26 ((es.map Edg.list).flatten ++ markedg) := h.2.2.1
theorem K2.lg (h : K2 w0 R C A n c x G tb es w) : (LA 24 (.pointer (some ⟨w0.heap.size, 0, none⟩))).run Try.prog w = .ok (.agg #[.int .i64 R, .int .i64 C, .slice A n c]) w := K1.lg h.1
theorem K2.recs (h : K2 w0 R C A n c x G tb es w) : Recs w 3 (some ⟨G, 0, none⟩) n (es.map Edg.list) := edg_recs h.2.2.1 h.2.2.2.1
/-- Behind TwinGraph's call: the copy gets its box. -/
theorem K2.start (h : K1 w0 R C A n c x w) (hb : Below w.heap.size w w') (hG : w.heap.size ≤ G) (hB : Blk w' G 26 ((es.map Edg.list).flatten ++ markedg)) (hn : es.length = n) : K2 w0 R C A n c x G w'.heap.size es (w'.alloc (.cells #[.int .i64 R, .int .i64 C, .slice (some ⟨G, 0, none⟩) n (n + 1)] 24)) :=
  ⟨K1.keep (K1.keep h hb) (alloc_below _ _), Blk.new w' 24 [.int .i64 R, .int .i64 C, .slice (some ⟨G, 0, none⟩) n (n + 1)], hB.alloc _, hn, by have := K1.lt h; omega, hB.lt⟩
theorem flat_set : ∀ (es : List Edg) (j : Nat) (x : Edg) (r : List Value), j < es.length → ((es.map Edg.list).flatten ++ r).take (j * 3) ++ x.list ++ ((es.map Edg.list).flatten ++ r).drop (j * 3 + 3) = ((es.set j x).map Edg.list).flatten ++ r
  | [], j, x, r, h => by simp at h
  | e :: es, 0, x, r, h => by simp [Edg.list]
  | e :: es, j + 1, x, r, h => by
    have ih := flat_set es j x r (by simpa using h)
    rw [List.map_cons, List.flatten_cons, List.set_cons_succ, List.map_cons, List.flatten_cons, List.append_assoc e.list, List.append_assoc e.list, ← ih, show (j + 1) * 3 = e.list.length + j * 3 by show _ = 3 + j * 3; omega, List.take_length_add_append, Nat.add_assoc, List.drop_length_add_append]
    simp
/-- An edge is written into the copy. -/
theorem K2.put (h : K2 w0 R C A n c x G tb es w) (j : Nat) (hj : j < n) : ∃ w', (SA 26 (.pointer (some ⟨G, j * 3, none⟩)) (.agg #[.int .i64 x.r, .int .i64 x.c, .int .i64 x.w])).run Try.prog w = .ok () w' ∧ K2 w0 R C A n c x G tb (es.set j x) w' := by
  obtain ⟨h1, h2, h3, h4, h5, h6⟩ := h
  have e : ((es.map Edg.list).flatten).length = n * 3 := by
    have := flat_take (edg_len es) (k := n) (by simp; omega)
    rwa [List.take_of_length_le (by simp; omega)] at this
  have hle : j * 3 + x.list.length ≤ ((es.map Edg.list).flatten ++ markedg).length := by
    rw [List.length_append, e]; show j * 3 + 3 ≤ _; omega
  refine ⟨_, stores_mid (cs := x.list) h3 hle (by show _ = some 3; kernel_rfl) (by intro u hu; simp only [Edg.list, List.mem_cons, List.not_mem_nil, or_false] at hu; rcases hu with rfl | rfl | rfl <;> rfl), ⟨fun u hu => ?_, below_sets (by omega) _ _ _ h1.2⟩, Blk.fars (by omega) _ _ _ h2, ?_, by simpa using h4, h5, h6⟩
  · refine Blk.fars ?_ _ _ _ (h1.1 u hu)
    simp only [List.mem_cons, List.not_mem_nil, or_false] at hu
    rcases hu with rfl | rfl <;> simp <;> omega
  · have := Blk.puts x.list (j * 3) _ _ h3 hle
    rw [show x.list.length = 3 from rfl, flat_set es j x markedg (by omega)] at this
    exact this
end
end Go.Proofs.Ytbpdfcllojaanaa.Checks
