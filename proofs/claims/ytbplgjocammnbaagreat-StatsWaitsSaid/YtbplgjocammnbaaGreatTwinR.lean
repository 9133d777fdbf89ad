/- TwinCert, TwinGraph, TwinRecord: a record's copy, its parts in memory of their own. -/
import Derived.Test.YtbplgjocammnbaaGreatSameW
import Derived.Test.YtbplgjocammnbaaGreatSameI
import Derived.Test.YtbplgjocammnbaaGreatSameE
import Derived.Test.YtbplgjocammnbaaGreatSameP
import Derived.Test.YtbplgjocammnbaaGreatHas
import Derived.Test.YtbplgjocammnbaaGreatLeft
import Derived.Test.YtbplgjocammnbaaGreatWaits
import Derived.Deep.RegionHeld3
namespace Go.Proofs.YtbplgjocammnbaaGreat.TwinR
open Go.RowKit Go.Proofs.YtbplgjocammnbaaGreat.Aid Go.Proofs.YtbplgjocammnbaaGreat.Mem Go.Proofs.YtbplgjocammnbaaGreat.Types Go.Proofs.YtbplgjocammnbaaGreat.Keep Go.Proofs.YtbplgjocammnbaaGreat.Recs Go.Proofs.YtbplgjocammnbaaGreat.TwinS Go.Proofs.YtbplgjocammnbaaGreat.SameS Go.Proofs.YtbplgjocammnbaaGreat.Has Go.Proofs.YtbplgjocammnbaaGreat.Twin
open Go.Proofs.YtbplgjocammnbaaGreat.Waits (Row Rc RAt waitA)
set_option linter.unusedSimpArgs false
set_option linter.unusedVariables false
set_option maxRecDepth 100000
theorem load_gr (v : Value) : Instr.loadAt 63 v = LA 63 v := rfl
theorem store_gr (p v : Value) : Instr.storeAt 63 p v = SA 63 p v := rfl
theorem load_ce (v : Value) : Instr.loadAt 66 v = LA 66 v := rfl
theorem store_ce (p v : Value) : Instr.storeAt 66 p v = SA 66 p v := rfl
theorem load_re (v : Value) : Instr.loadAt 68 v = LA 68 v := rfl
theorem store_re (p v : Value) : Instr.storeAt 68 p v = SA 68 p v := rfl
theorem fill {P : Program} {t : TypeId} {w0 W : World} {b : Nat} {old new : List Value} (h0 : Blk W b t old) (hB : Below w0.heap.size w0 W) (hb : w0.heap.size ≤ b) (hl : new.length = old.length) (hi : (P.info? t).map (·.size) = some new.length) (h1 : ∀ v ∈ new, v.oneCell' = true) :
    ∃ W9, (SA t (.pointer (some ⟨b, 0, none⟩)) (.agg new.toArray)).run P W = .ok () W9 ∧ Blk W9 b t new ∧ Below w0.heap.size w0 W9 ∧ (∀ g t' l, g ≠ b → Blk W g t' l → Blk W9 g t' l) ∧ W9.heap.size = W.heap.size := by
  refine ⟨_, stores_mid h0 (by simp; omega) hi h1, ?_, below_sets hb _ _ _ hB, fun g t' l hg h => Blk.fars hg _ _ _ h, size_sets _ _ _⟩
  have := Blk.puts new 0 W old h0 (by simp; omega)
  rw [List.take_zero, List.nil_append, Nat.zero_add, hl, List.drop_length, List.append_nil] at this
  exact this
abbrev cz : List Value := [.slice none 0 0, .slice none 0 0, .slice none 0 0]
theorem start_ce (w : World) (a b c : Value) : Has w [(w.heap.size, 66, [a, b, c])] ((w.alloc (.cells #[a, b, c] 66)).alloc (.cells #[.slice none 0 0, .slice none 0 0, .slice none 0 0] 66)) ∧ Blk ((w.alloc (.cells #[a, b, c] 66)).alloc (.cells #[.slice none 0 0, .slice none 0 0, .slice none 0 0] 66)) (w.heap.size + 1) 66 cz := by
  refine ⟨((Has.nil w).new 66 [a, b, c]).alloc _, ?_⟩
  have h := Blk.new (w.alloc (.cells #[a, b, c] 66)) 66 cz
  rw [size_alloc] at h
  exact h
theorem fill_ce {w W : World} {L : List (Nat × TypeId × List Value)} (a b c : Value) (h0 : Blk W (w.heap.size + 1) 66 cz) (h : Has w L W) (hn : ∀ x ∈ L, x.1 ≠ w.heap.size + 1) (ha : a.oneCell' = true) (hb : b.oneCell' = true) (hc : c.oneCell' = true) :
    ∃ W9, (SA 66 (.pointer (some ⟨w.heap.size + 1, 0, none⟩)) (.agg #[a, b, c])).run Tryz.prog W = .ok () W9 ∧ Blk W9 (w.heap.size + 1) 66 [a, b, c] ∧ Has w L W9 ∧ (∀ g t' l, g ≠ w.heap.size + 1 → Blk W g t' l → Blk W9 g t' l) := by
  obtain ⟨W9, e, hB, hL, hF, _⟩ := fill (new := [a, b, c]) h0 h.2 (by omega) rfl (by show _ = some 3; kernel_rfl) (by intro v hv; simp only [List.mem_cons, List.not_mem_nil, or_false] at hv; rcases hv with rfl | rfl | rfl <;> assumption)
  exact ⟨W9, e, hB, ⟨fun x hx => hF _ _ _ (hn x hx) (h.1 x hx), hL⟩, hF⟩
theorem pai_one (xs : List Pai) : ∀ l ∈ xs.map Pai.list, ∀ v ∈ l, v.oneCell' = true := by
  intro l hl v hv
  obtain ⟨x, _, rfl⟩ := List.mem_map.1 hl
  simp only [Pai.list, List.mem_cons, List.not_mem_nil, or_false] at hv
  rcases hv with rfl | rfl <;> rfl
theorem edg_one (xs : List Edg) : ∀ l ∈ xs.map Edg.list, ∀ v ∈ l, v.oneCell' = true := by
  intro l hl v hv
  obtain ⟨x, _, rfl⟩ := List.mem_map.1 hl
  simp only [Edg.list, List.mem_cons, List.not_mem_nil, or_false] at hv
  rcases hv with rfl | rfl | rfl <;> rfl
theorem twinp_e (ps : List Pai) (A : Option Addr) (n c : Nat) (w : World) (h : Recs w 2 A n (ps.map Pai.list)) (hn : n ≤ 1048576) :
    Calls Tryz.prog 165 #[.slice A n c] w fun e w' => ∃ G, e = .returned (.slice (some ⟨G, 0, none⟩) n (n + 1)) ∧ w.heap.size ≤ G ∧ Blk w' G 72 ((ps.map Pai.list).flatten ++ markpai) ∧ Below w.heap.size w w' :=
  (twin_pai _ A n c w _ rfl h (pai_one ps) hn).mono fun e w' ⟨a, b, d⟩ => ⟨_, a, Nat.le_refl _, b, d⟩
theorem twini_e (xs : List Int) (A : Option Addr) (n c : Nat) (w : World) (h : Ints w .i64 A n xs) (hn : n ≤ 1048576) :
    Calls Tryz.prog 166 #[.slice A n c] w fun e w' => ∃ G, e = .returned (.slice (some ⟨G, 0, none⟩) n (n + 1)) ∧ w.heap.size ≤ G ∧ Blk w' G 3 (nums .i64 xs ++ [.int .i64 (-8777)]) ∧ Below w.heap.size w w' :=
  (twin_c xs A n c w _ rfl h hn).mono fun e w' ⟨a, b, d, _⟩ => ⟨_, a, Nat.le_refl _, b, d⟩
section
attribute [local go_sem ↓] load_ce store_ce
set_option maxHeartbeats 4000000 in
theorem twinc_e (ps : List Pai) (ys zs : List Int) (pa ya za : Option Addr) (pn pc yn yc zn zc : Nat) (w : World) (h1 : Recs w 2 pa pn (ps.map Pai.list)) (h2 : Ints w .i64 ya yn ys) (h3 : Ints w .i64 za zn zs) (n1 : pn ≤ 1048576) (n2 : yn ≤ 1048576) (n3 : zn ≤ 1048576) :
    Calls Tryz.prog 100 #[.agg #[.slice pa pn pc, .slice ya yn yc, .slice za zn zc]] w fun e w' => ∃ G1 G2 G3, e = .returned (.agg #[.slice (some ⟨G1, 0, none⟩) pn (pn + 1), .slice (some ⟨G2, 0, none⟩) yn (yn + 1), .slice (some ⟨G3, 0, none⟩) zn (zn + 1)]) ∧
      w.heap.size ≤ G1 ∧ Blk w' G1 72 ((ps.map Pai.list).flatten ++ markpai) ∧ w.heap.size ≤ G2 ∧ Blk w' G2 3 (nums .i64 ys ++ [.int .i64 (-8777)]) ∧ w.heap.size ≤ G3 ∧ Blk w' G3 3 (nums .i64 zs ++ [.int .i64 (-8777)]) ∧ Below w.heap.size w w' := by
  have H1 := Lib.hid h1
  have H2 := Lib.hid h2
  have H3 := Lib.hid h3
  have K := Lib.hid (start_ce w (.slice pa pn pc) (.slice ya yn yc) (.slice za zn zc)).1
  have KZ := Lib.hid (start_ce w (.slice pa pn pc) (.slice ya yn yc) (.slice za zn zc)).2.drew
  have EXT : Hid (∀ W, Has w [(w.heap.size, 66, [.slice pa pn pc, .slice ya yn yc, .slice za zn zc])] W → (Has w [(w.heap.size, 66, [.slice pa pn pc, .slice ya yn yc, .slice za zn zc])] W ∧ W.cell? ⟨w.heap.size, 0, none⟩ = some (.slice pa pn pc) ∧ W.cell? ⟨w.heap.size, 1, none⟩ = some (.slice ya yn yc) ∧ W.cell? ⟨w.heap.size, 2, none⟩ = some (.slice za zn zc))) :=
    Lib.hid (fun W h => ⟨h, Has.cell h List.mem_cons_self 0, Has.cell h List.mem_cons_self 1, Has.cell h List.mem_cons_self 2⟩)
  clear h1 h2 h3
  go_enter Tryz.func100, Tryz.ntmps100
  go_wp2_with (fail)
  go_region_held3 (fun W => Has w [(w.heap.size, 66, [.slice pa pn pc, .slice ya yn yc, .slice za zn zc])] W ∧ W.cell? ⟨w.heap.size, 0, none⟩ = some (.slice pa pn pc) ∧ W.cell? ⟨w.heap.size, 1, none⟩ = some (.slice ya yn yc) ∧ W.cell? ⟨w.heap.size, 2, none⟩ = some (.slice za zn zc)) (first | exact EXT.out _ (Has.drew K.out) | with_reducible exact EXT.out _ (Has.keep (And.left (by assumption)) hb) | exact EXT.out _ HLL.out | assumption) (first | (go_at_call 165; (with_reducible refine (twinp_e ps pa pn pc _ (H1.out.keep (Has.bel (And.left (by assumption)))) n1).mono ?_); rintro e w4 ⟨G1, rfl, g1, hB, hb⟩; have q1 : w.heap.size + 1 < G1 := Nat.lt_of_lt_of_le (Blk.lt KZ.out) g1; clear g1; have k4 := Has.keep (And.left (by assumption)) hb; have KZ := Lib.hid (KZ.out.keep hb); have hB1 := Lib.hid hB; clear hB) | (go_at_call 166; (with_reducible refine (twini_e ys ya yn yc _ (H2.out.keep (Has.bel (And.left (by assumption)))) n2).mono ?_); rintro e w5 ⟨G2, rfl, g2, hB, hb⟩; have q2 : w.heap.size + 1 < G2 := Nat.lt_of_lt_of_le (Blk.lt KZ.out) g2; clear g2; have k4 := Has.keep (And.left (by assumption)) hb; have KZ := Lib.hid (KZ.out.keep hb); have hB1 := Lib.hid (hB1.out.keep hb); have hB2 := Lib.hid hB; clear hB) | (go_at_call 166; (with_reducible refine (twini_e zs za zn zc _ (H3.out.keep (Has.bel (And.left (by assumption)))) n3).mono ?_); rintro e w6 ⟨G3, rfl, g3, hB, hb⟩; have q3 : w.heap.size + 1 < G3 := Nat.lt_of_lt_of_le (Blk.lt KZ.out) g3; clear g3; have k4 := Has.keep (And.left (by assumption)) hb; have KZ := Lib.hid (KZ.out.keep hb); have hB1 := Lib.hid (hB1.out.keep hb); have hB2 := Lib.hid (hB2.out.keep hb); have hB3 := Lib.hid hB; clear hB; obtain ⟨w9, hst, hr, hL, hF⟩ := fill_ce (.slice (some ⟨G1, 0, none⟩) pn (pn + 1)) (.slice (some ⟨G2, 0, none⟩) yn (yn + 1)) (.slice (some ⟨G3, 0, none⟩) zn (zn + 1)) KZ.out k4 (by intro x hx; simp at hx; subst hx; simp) rfl rfl rfl; have HRR := Lib.hid hr; have HLL := Lib.hid hL; have HFF := Lib.hid hF; clear hr hL hF))
  go_wp2_with (fail)
  (try simp only [Exit.inBlock, Exit.then])
  have HLV : (loadVar 66 ⟨w.heap.size + 1, 0, none⟩).run Tryz.prog w9 = .ok (.agg #[.slice (some ⟨G1, 0, none⟩) pn (pn + 1), .slice (some ⟨G2, 0, none⟩) yn (yn + 1), .slice (some ⟨G3, 0, none⟩) zn (zn + 1)]) w9 :=
    run_loadVar_mid (cs := [.slice (some ⟨G1, 0, none⟩) pn (pn + 1), .slice (some ⟨G2, 0, none⟩) yn (yn + 1), .slice (some ⟨G3, 0, none⟩) zn (zn + 1)]) _ _ _ _ _ (fun j v hv => by rw [Nat.zero_add]; exact HRR.out.cellv hv) Tryz.underlying66 rfl (by kernel_rfl)
  refine bodyPost_ret (v := .agg #[.slice (some ⟨G1, 0, none⟩) pn (pn + 1), .slice (some ⟨G2, 0, none⟩) yn (yn + 1), .slice (some ⟨G3, 0, none⟩) zn (zn + 1)]) ((results_cell rfl _ _ _).trans ?_) rfl ?_
  · exact HLV
  · exact ⟨G1, G2, G3, rfl, by omega, HFF.out _ _ _ (by omega) hB1.out, by omega, HFF.out _ _ _ (by omega) hB2.out, by omega, HFF.out _ _ _ (by omega) hB3.out, HLL.out.2⟩
end
theorem blk_next (w : World) (o : Obj) (t : TypeId) (l : List Value) : Blk ((w.alloc o).alloc (.cells l.toArray t)) (w.heap.size + 1) t l := by
  have h := Blk.new (w.alloc o) t l
  rwa [size_alloc] at h
theorem la_gr {W : World} {g : Nat} {x y z : Value} (h : Blk W g 63 [x, y, z]) : (LA 63 (.pointer (some ⟨g, 0, none⟩))).run Tryz.prog W = .ok (.agg #[x, y, z]) W :=
  loads_box (v := #[x, y, z]) Tryz.underlying63 rfl (by show _ = some 3; kernel_rfl) (fun i => (h.cell i).trans (by simp))
theorem tg_store {w0 w9 : World} {s : Nat} {R C : Int} {x : Value} (h1 : Blk w9 s 63 [.int .i64 R, .int .i64 C, x]) (h2 : Blk w9 (s + 1) 63 [.int .i64 0, .int .i64 0, .slice none 0 0]) (v : Value) (hv : v.oneCell' = true) (hs : w0.heap.size = s) (hb : Below w0.heap.size w0 w9) :
    ∃ w10, (SA 63 (.pointer (some ⟨s + 1, 0, none⟩)) (.agg #[.int .i64 R, .int .i64 C, v])).run Tryz.prog (w9.setCell ⟨s, 2, none⟩ v) = .ok () w10 ∧ Blk w10 (s + 1) 63 [.int .i64 R, .int .i64 C, v] ∧ Below w0.heap.size w0 w10 ∧ ∀ g t l, s + 1 < g → Blk w9 g t l → Blk w10 g t l := by
  have h3 : Blk (w9.setCell ⟨s, 2, none⟩ v) (s + 1) 63 [.int .i64 0, .int .i64 0, .slice none 0 0] := h2.far (p := ⟨s, 2, none⟩) (by simp) v
  refine ⟨_, stores_mid (cs := [.int .i64 R, .int .i64 C, v]) h3 (by simp) (by show _ = some 3; kernel_rfl) (by intro u hu; simp only [List.mem_cons, List.not_mem_nil, or_false] at hu; rcases hu with rfl | rfl | rfl <;> first | rfl | assumption), Blk.puts [.int .i64 R, .int .i64 C, v] 0 _ _ h3 (by simp), below_sets (by omega) _ _ _ (hb.setCell (p := ⟨s, 2, none⟩) (by show w0.heap.size ≤ s; omega) v), fun g t l hg h => Blk.fars (by omega) _ _ _ (h.far (p := ⟨s, 2, none⟩) (by show g ≠ s; omega) v)⟩
section
attribute [local go_sem ↓] load_gr store_gr
/-- TwinGraph: the copy's edges have memory of their own. -/
theorem twinG_c (R C : Int) (es : List Edg) (A : Option Addr) (n c : Nat) (w : World) (h : Recs w 3 A n (es.map Edg.list)) (hn : n ≤ 1048576) :
    Calls Tryz.prog 99 #[.agg #[.int .i64 R, .int .i64 C, .slice A n c]] w fun e w' => ∃ G, e = .returned (.agg #[.int .i64 R, .int .i64 C, .slice (some ⟨G, 0, none⟩) n (n + 1)]) ∧ w.heap.size ≤ G ∧ Blk w' G 168 ((es.map Edg.list).flatten ++ markedg) ∧ Below w.heap.size w w' := by
  have H := Lib.hid h
  have HB1 := Lib.hid ((Blk.new w 63 [.int .i64 R, .int .i64 C, .slice A n c]).alloc (.cells #[.int .i64 0, .int .i64 0, .slice none 0 0] 63))
  have HB2 := Lib.hid (blk_next w (.cells #[.int .i64 R, .int .i64 C, .slice A n c] 63) 63 [.int .i64 0, .int .i64 0, .slice none 0 0])
  have HS : ((w.alloc (.cells #[.int .i64 R, .int .i64 C, .slice A n c] 63)).alloc (.cells #[.int .i64 0, .int .i64 0, .slice none 0 0] 63)).heap.size = w.heap.size + 1 + 1 := by rw [size_alloc, size_alloc]
  clear h
  go_enter Tryz.func99, Tryz.ntmps99
  go_wp2_with (first | (go_at_call 164; (with_reducible refine (twin_edg (es.map Edg.list) A n c _ (w.heap.size + 1 + 1) HS (H.out.keep (kba (kba (Below.refl _ _) _) _)) (edg_one es) hn).mono ?_); rintro e w9 ⟨rfl, hB, hb⟩; have b1 := HB1.out.keep hb; have b2 := HB2.out.keep hb; have f1 := b1.cellv (i := 2) rfl; have f2 := b1.free 2; have l1 := la_gr (b1.put 2 (.slice (some ⟨w.heap.size + 1 + 1, 0, none⟩) n (n + 1))); (refine Exists.elim (tg_store (w0 := w) b1 b2 (.slice (some ⟨w.heap.size + 1 + 1, 0, none⟩) n (n + 1)) rfl rfl (kbt (kba (kba (Below.refl _ _) _) _) hb)) ?_); rintro w10 ⟨hst, h10, hbl, hfar⟩; have HF := Lib.hid (hfar _ _ _ (by omega) hB); have HL := Lib.hid hbl; have H10 := Lib.hid h10; clear b1 b2 hB hb hfar h10 hbl))
  (try simp only [Exit.inBlock, Exit.then])
  have HLV : (loadVar 63 ⟨w.heap.size + 1, 0, none⟩).run Tryz.prog w10 = .ok (.agg #[.int .i64 R, .int .i64 C, .slice (some ⟨w.heap.size + 1 + 1, 0, none⟩) n (n + 1)]) w10 :=
    run_loadVar_mid (cs := [.int .i64 R, .int .i64 C, .slice (some ⟨w.heap.size + 1 + 1, 0, none⟩) n (n + 1)]) _ _ _ _ _ (fun j v hv => by rw [Nat.zero_add]; exact H10.out.cellv hv) Tryz.underlying63 rfl (by kernel_rfl)
  refine bodyPost_ret (v := .agg #[.int .i64 R, .int .i64 C, .slice (some ⟨w.heap.size + 1 + 1, 0, none⟩) n (n + 1)]) ((results_cell rfl _ _ _).trans ?_) rfl ?_
  · exact HLV
  · exact ⟨_, rfl, by omega, HF.out, HL.out⟩
end
abbrev rz : List Value := [.int .i64 0, .slice none 0 0, .slice none 0 0, .int .i64 0, .int .i64 0, .slice none 0 0, .slice none 0 0, .slice none 0 0, .slice none 0 0]
theorem wai_one (xs : List Wai) : ∀ l ∈ xs.map Wai.list, ∀ v ∈ l, v.oneCell' = true := by
  intro l hl v hv
  obtain ⟨x, _, rfl⟩ := List.mem_map.1 hl
  simp only [Wai.list, List.mem_cons, List.not_mem_nil, or_false] at hv
  rcases hv with rfl | rfl | rfl | rfl | rfl | rfl | rfl | rfl | rfl | rfl | rfl | rfl | rfl | rfl | rfl | rfl | rfl | rfl <;> rfl
theorem idl_one (xs : List Idl) : ∀ l ∈ xs.map Idl.list, ∀ v ∈ l, v.oneCell' = true := by
  intro l hl v hv
  obtain ⟨x, _, rfl⟩ := List.mem_map.1 hl
  simp only [Idl.list, List.mem_cons, List.not_mem_nil, or_false] at hv
  rcases hv with rfl | rfl | rfl | rfl | rfl | rfl | rfl | rfl | rfl | rfl | rfl | rfl | rfl | rfl <;> rfl
theorem twinw_e (ps : List Wai) (A : Option Addr) (n c : Nat) (w : World) (h : Recs w 18 A n (ps.map Wai.list)) (hn : n ≤ 1048576) :
    Calls Tryz.prog 97 #[.slice A n c] w fun e w' => ∃ G, e = .returned (.slice (some ⟨G, 0, none⟩) n (n + 1)) ∧ w.heap.size ≤ G ∧ Blk w' G 81 ((ps.map Wai.list).flatten ++ markwai) ∧ Below w.heap.size w w' :=
  (twin_wai _ A n c w _ rfl h (wai_one ps) hn).mono fun e w' ⟨a, b, d⟩ => ⟨_, a, Nat.le_refl _, b, d⟩
theorem twinl_e (ps : List Idl) (A : Option Addr) (n c : Nat) (w : World) (h : Recs w 14 A n (ps.map Idl.list)) (hn : n ≤ 1048576) :
    Calls Tryz.prog 98 #[.slice A n c] w fun e w' => ∃ G, e = .returned (.slice (some ⟨G, 0, none⟩) n (n + 1)) ∧ w.heap.size ≤ G ∧ Blk w' G 160 ((ps.map Idl.list).flatten ++ markidl) ∧ Below w.heap.size w w' :=
  (twin_idl _ A n c w _ rfl h (idl_one ps) hn).mono fun e w' ⟨a, b, d⟩ => ⟨_, a, Nat.le_refl _, b, d⟩
/-- What a record's lists hold. -/
structure Rec where
  ws : List Wai
  ys : List Idl
  es : List Edg
  ps : List Pai
  y : List Int
  z : List Int
structure Full (w : World) (r : Row) (x : Rec) : Prop where
  h1 : Recs w 18 r.wa r.wn (x.ws.map Wai.list)
  h2 : Recs w 14 r.ia r.idn (x.ys.map Idl.list)
  h3 : Recs w 3 r.ea r.en (x.es.map Edg.list)
  h4 : Recs w 2 r.pa r.pn (x.ps.map Pai.list)
  h5 : Ints w .i64 r.ya r.yn x.y
  h6 : Ints w .i64 r.za r.zn x.z
theorem Full.keep {w w' : World} {r : Row} {x : Rec} (h : Full w r x) (hb : Below w.heap.size w w') : Full w' r x := ⟨h.h1.keep hb, h.h2.keep hb, h.h3.keep hb, h.h4.keep hb, h.h5.keep hb, h.h6.keep hb⟩
/-- Not too long. -/
structure Small (r : Row) : Prop where
  n1 : r.wn ≤ 1048576
  n2 : r.idn ≤ 1048576
  n3 : r.en ≤ 1048576
  n4 : r.pn ≤ 1048576
  n5 : r.yn ≤ 1048576
  n6 : r.zn ≤ 1048576
/-- The copy's cells. -/
def twin (r : Row) (g : Nat → Nat) : Row := ⟨r.tick, some ⟨g 0, 0, none⟩, r.wn, r.wn + 1, some ⟨g 1, 0, none⟩, r.idn, r.idn + 1, r.rows, r.cols, some ⟨g 2, 0, none⟩, r.en, r.en + 1, some ⟨g 3, 0, none⟩, r.pn, r.pn + 1, some ⟨g 4, 0, none⟩, r.yn, r.yn + 1, some ⟨g 5, 0, none⟩, r.zn, r.zn + 1⟩
/-- The copy's parts, marks and all. -/
structure Cop (W : World) (x : Rec) (g : Nat → Nat) : Prop where
  h1 : Blk W (g 0) 81 ((x.ws.map Wai.list).flatten ++ markwai)
  h2 : Blk W (g 1) 160 ((x.ys.map Idl.list).flatten ++ markidl)
  h3 : Blk W (g 2) 168 ((x.es.map Edg.list).flatten ++ markedg)
  h4 : Blk W (g 3) 72 ((x.ps.map Pai.list).flatten ++ markpai)
  h5 : Blk W (g 4) 3 (nums .i64 x.y ++ [.int .i64 (-8777)])
  h6 : Blk W (g 5) 3 (nums .i64 x.z ++ [.int .i64 (-8777)])
theorem Cop.keep {w w' : World} {x : Rec} {g : Nat → Nat} (h : Cop w x g) (hb : Below w.heap.size w w') : Cop w' x g := ⟨h.h1.keep hb, h.h2.keep hb, h.h3.keep hb, h.h4.keep hb, h.h5.keep hb, h.h6.keep hb⟩
def six (a b c d e f : Nat) : Nat → Nat
  | 0 => a
  | 1 => b
  | 2 => c
  | 3 => d
  | 4 => e
  | _ => f
theorem start_re (w : World) (r : Row) : Has w [(w.heap.size, 68, r.list)] ((w.alloc (.cells r.arr 68)).alloc (.cells #[.int .i64 0, .slice none 0 0, .slice none 0 0, .int .i64 0, .int .i64 0, .slice none 0 0, .slice none 0 0, .slice none 0 0, .slice none 0 0] 68)) ∧ Blk ((w.alloc (.cells r.arr 68)).alloc (.cells #[.int .i64 0, .slice none 0 0, .slice none 0 0, .int .i64 0, .int .i64 0, .slice none 0 0, .slice none 0 0, .slice none 0 0, .slice none 0 0] 68)) (w.heap.size + 1) 68 rz := by
  refine ⟨((Has.nil w).new 68 r.list).alloc _, ?_⟩
  have h := Blk.new (w.alloc (.cells r.arr 68)) 68 rz
  rw [size_alloc] at h
  exact h
theorem fill_re {w W : World} {L : List (Nat × TypeId × List Value)} (r : Row) (h0 : Blk W (w.heap.size + 1) 68 rz) (h : Has w L W) (hn : ∀ x ∈ L, x.1 ≠ w.heap.size + 1) :
    ∃ W9, (SA 68 (.pointer (some ⟨w.heap.size + 1, 0, none⟩)) (.agg r.arr)).run Tryz.prog W = .ok () W9 ∧ Blk W9 (w.heap.size + 1) 68 r.list ∧ Has w L W9 ∧ (∀ g t' l, g ≠ w.heap.size + 1 → Blk W g t' l → Blk W9 g t' l) := by
  obtain ⟨W9, e, hB, hL, hF, _⟩ := fill (new := r.list) h0 h.2 (by omega) rfl (by show _ = some 9; kernel_rfl) (by intro v hv; simp only [List.mem_cons, List.not_mem_nil, or_false] at hv; rcases hv with rfl | rfl | rfl | rfl | rfl | rfl | rfl | rfl | rfl <;> rfl)
  exact ⟨W9, e, hB, ⟨fun x hx => hF _ _ _ (hn x hx) (h.1 x hx), hL⟩, hF⟩
/-- The loads of the record's box. -/
def RS (w : World) (r : Row) (W : World) : Prop := Has w [(w.heap.size, 68, r.list)] W ∧ W.cell? ⟨w.heap.size, 0, none⟩ = some (.int .i64 r.tick) ∧ W.cell? ⟨w.heap.size, 1, none⟩ = some (.slice r.wa r.wn r.wc) ∧ W.cell? ⟨w.heap.size, 2, none⟩ = some (.slice r.ia r.idn r.ic) ∧
  (LA 63 (.pointer (some ⟨w.heap.size, 3, none⟩))).run Tryz.prog W = .ok (.agg #[.int .i64 r.rows, .int .i64 r.cols, .slice r.ea r.en r.ec]) W ∧
  (LA 66 (.pointer (some ⟨w.heap.size, 6, none⟩))).run Tryz.prog W = .ok (.agg #[.slice r.pa r.pn r.pc, .slice r.ya r.yn r.yc, .slice r.za r.zn r.zc]) W
theorem rs_of {w W : World} {r : Row} (h : Has w [(w.heap.size, 68, r.list)] W) : RS w r W :=
  ⟨h, h.cell List.mem_cons_self 0, h.cell List.mem_cons_self 1, h.cell List.mem_cons_self 2,
    loads_at (l := [.int .i64 r.rows, .int .i64 r.cols, .slice r.ea r.en r.ec]) (s := []) Tryz.underlying63 rfl (by show _ = some 3; kernel_rfl) fun j v hv => by
      rw [Addr.add_mid]
      exact (h.1 _ List.mem_cons_self).cellv (by rw [List.append_nil] at hv; rcases j with _ | _ | _ | j <;> simp at hv ⊢ <;> exact hv),
    loads_at (l := [.slice r.pa r.pn r.pc, .slice r.ya r.yn r.yc, .slice r.za r.zn r.zc]) (s := []) Tryz.underlying66 rfl (by show _ = some 3; kernel_rfl) fun j v hv => by
      rw [Addr.add_mid]
      exact (h.1 _ List.mem_cons_self).cellv (by rw [List.append_nil] at hv; rcases j with _ | _ | _ | j <;> simp at hv ⊢ <;> exact hv)⟩
section
attribute [local go_sem ↓] load_ce load_gr store_re
set_option maxHeartbeats 8000000 in
theorem twinr_e (r : Row) (x : Rec) (w : World) (h : Full w r x) (hs : Small r) :
    Calls Tryz.prog 14 #[.agg r.arr] w fun e w' => ∃ g, e = .returned (.agg (twin r g).arr) ∧ (∀ i, i < 6 → w.heap.size ≤ g i) ∧ Cop w' x g ∧ Below w.heap.size w w' := by
  have H := Lib.hid h
  have K := Lib.hid (start_re w r).1
  have KZ := Lib.hid (start_re w r).2.drew
  obtain ⟨n1, n2, n3, n4, n5, n6⟩ := hs
  obtain ⟨tick, wa, wn, wc, ia, idn, ic, rows, cols, ea, en, ec, pa, pn, pc, ya, yn, yc, za, zn, zc⟩ := r
  simp only [Row.arr] at *
  have EXT : Hid (∀ W, Has w [(w.heap.size, 68, [.int .i64 tick, .slice wa wn wc, .slice ia idn ic, .int .i64 rows, .int .i64 cols, .slice ea en ec, .slice pa pn pc, .slice ya yn yc, .slice za zn zc])] W → (Has w [(w.heap.size, 68, [.int .i64 tick, .slice wa wn wc, .slice ia idn ic, .int .i64 rows, .int .i64 cols, .slice ea en ec, .slice pa pn pc, .slice ya yn yc, .slice za zn zc])] W ∧ W.cell? ⟨w.heap.size, 0, none⟩ = some (.int .i64 tick) ∧ W.cell? ⟨w.heap.size, 1, none⟩ = some (.slice wa wn wc) ∧ W.cell? ⟨w.heap.size, 2, none⟩ = some (.slice ia idn ic) ∧ (LA 63 (.pointer (some ⟨w.heap.size, 3, none⟩))).run Tryz.prog W = .ok (.agg #[.int .i64 rows, .int .i64 cols, .slice ea en ec]) W ∧ (LA 66 (.pointer (some ⟨w.heap.size, 6, none⟩))).run Tryz.prog W = .ok (.agg #[.slice pa pn pc, .slice ya yn yc, .slice za zn zc]) W)) :=
    Lib.hid (fun W h => rs_of (r := ⟨tick, wa, wn, wc, ia, idn, ic, rows, cols, ea, en, ec, pa, pn, pc, ya, yn, yc, za, zn, zc⟩) h)
  clear h
  go_enter Tryz.func14, Tryz.ntmps14
  go_wp2_with (fail)
  go_region_held3 (fun W => Has w [(w.heap.size, 68, [.int .i64 tick, .slice wa wn wc, .slice ia idn ic, .int .i64 rows, .int .i64 cols, .slice ea en ec, .slice pa pn pc, .slice ya yn yc, .slice za zn zc])] W ∧ W.cell? ⟨w.heap.size, 0, none⟩ = some (.int .i64 tick) ∧ W.cell? ⟨w.heap.size, 1, none⟩ = some (.slice wa wn wc) ∧ W.cell? ⟨w.heap.size, 2, none⟩ = some (.slice ia idn ic) ∧ (LA 63 (.pointer (some ⟨w.heap.size, 3, none⟩))).run Tryz.prog W = .ok (.agg #[.int .i64 rows, .int .i64 cols, .slice ea en ec]) W ∧ (LA 66 (.pointer (some ⟨w.heap.size, 6, none⟩))).run Tryz.prog W = .ok (.agg #[.slice pa pn pc, .slice ya yn yc, .slice za zn zc]) W) (first | exact EXT.out _ (Has.drew K.out) | with_reducible exact EXT.out _ (Has.keep (And.left (by assumption)) hb) | exact EXT.out _ HLL.out | assumption) (first | (go_at_call 97; (with_reducible refine (twinw_e x.ws wa wn wc _ (H.out.h1.keep (Has.bel (And.left (by assumption)))) n1).mono ?_); rintro e w4 ⟨G1, rfl, g1, hB, hb⟩; have q1 : w.heap.size + 1 < G1 := Nat.lt_of_lt_of_le (Blk.lt KZ.out) g1; clear g1; have k4 := Has.keep (And.left (by assumption)) hb; have KZ := Lib.hid (KZ.out.keep hb); have hB1 := Lib.hid hB; clear hB) | (go_at_call 98; (with_reducible refine (twinl_e x.ys ia idn ic _ (H.out.h2.keep (Has.bel (And.left (by assumption)))) n2).mono ?_); rintro e w5 ⟨G2, rfl, g1, hB, hb⟩; have q2 : w.heap.size + 1 < G2 := Nat.lt_of_lt_of_le (Blk.lt KZ.out) g1; clear g1; have k4 := Has.keep (And.left (by assumption)) hb; have KZ := Lib.hid (KZ.out.keep hb); have hB1 := Lib.hid (hB1.out.keep hb); have hB2 := Lib.hid hB; clear hB) | (go_at_call 99; (with_reducible refine (twinG_c rows cols x.es ea en ec _ (H.out.h3.keep (Has.bel (And.left (by assumption)))) n3).mono ?_); rintro e w6 ⟨G3, rfl, g1, hB, hb⟩; have q3 : w.heap.size + 1 < G3 := Nat.lt_of_lt_of_le (Blk.lt KZ.out) g1; clear g1; have k4 := Has.keep (And.left (by assumption)) hb; have KZ := Lib.hid (KZ.out.keep hb); have hB1 := Lib.hid (hB1.out.keep hb); have hB2 := Lib.hid (hB2.out.keep hb); have hB3 := Lib.hid hB; clear hB) | (go_at_call 100; (with_reducible refine (twinc_e x.ps x.y x.z pa ya za pn pc yn yc zn zc _ (H.out.h4.keep (Has.bel (And.left (by assumption)))) (H.out.h5.keep (Has.bel (And.left (by assumption)))) (H.out.h6.keep (Has.bel (And.left (by assumption)))) n4 n5 n6).mono ?_); rintro e w7 ⟨G4, G5, G6, rfl, g1, hB4, g2, hB5, g3, hB6, hb⟩; have q4 : w.heap.size + 1 < G4 := Nat.lt_of_lt_of_le (Blk.lt KZ.out) g1; have q5 : w.heap.size + 1 < G5 := Nat.lt_of_lt_of_le (Blk.lt KZ.out) g2; have q6 : w.heap.size + 1 < G6 := Nat.lt_of_lt_of_le (Blk.lt KZ.out) g3; clear g1 g2 g3; have k4 := Has.keep (And.left (by assumption)) hb; have KZ := Lib.hid (KZ.out.keep hb); have hC := Lib.hid (Cop.mk (x := x) (g := six G1 G2 G3 G4 G5 G6) (hB1.out.keep hb) (hB2.out.keep hb) (hB3.out.keep hb) hB4 hB5 hB6); clear hB4 hB5 hB6 hB1 hB2 hB3; obtain ⟨w9, hst, hr, hL, hF⟩ := fill_re (⟨tick, some ⟨G1, 0, none⟩, wn, wn + 1, some ⟨G2, 0, none⟩, idn, idn + 1, rows, cols, some ⟨G3, 0, none⟩, en, en + 1, some ⟨G4, 0, none⟩, pn, pn + 1, some ⟨G5, 0, none⟩, yn, yn + 1, some ⟨G6, 0, none⟩, zn, zn + 1⟩) KZ.out k4 (by intro x hx; simp at hx; subst hx; simp); have HRR := Lib.hid hr; have HLL := Lib.hid hL; have HFF := Lib.hid hF; clear hr hL hF; simp only [Row.arr] at hst))
  go_wp2_with (fail)
  (try simp only [Exit.inBlock, Exit.then])
  have HLV : (loadVar 68 ⟨w.heap.size + 1, 0, none⟩).run Tryz.prog w9 = .ok (.agg #[.int .i64 tick, .slice (some ⟨G1, 0, none⟩) wn (wn + 1), .slice (some ⟨G2, 0, none⟩) idn (idn + 1), .int .i64 rows, .int .i64 cols, .slice (some ⟨G3, 0, none⟩) en (en + 1), .slice (some ⟨G4, 0, none⟩) pn (pn + 1), .slice (some ⟨G5, 0, none⟩) yn (yn + 1), .slice (some ⟨G6, 0, none⟩) zn (zn + 1)]) w9 :=
    run_loadVar_mid (cs := [.int .i64 tick, .slice (some ⟨G1, 0, none⟩) wn (wn + 1), .slice (some ⟨G2, 0, none⟩) idn (idn + 1), .int .i64 rows, .int .i64 cols, .slice (some ⟨G3, 0, none⟩) en (en + 1), .slice (some ⟨G4, 0, none⟩) pn (pn + 1), .slice (some ⟨G5, 0, none⟩) yn (yn + 1), .slice (some ⟨G6, 0, none⟩) zn (zn + 1)]) _ _ _ _ _ (fun j v hv => by rw [Nat.zero_add]; exact HRR.out.cellv hv) Tryz.underlying68 rfl (by kernel_rfl)
  refine bodyPost_ret (v := .agg #[.int .i64 tick, .slice (some ⟨G1, 0, none⟩) wn (wn + 1), .slice (some ⟨G2, 0, none⟩) idn (idn + 1), .int .i64 rows, .int .i64 cols, .slice (some ⟨G3, 0, none⟩) en (en + 1), .slice (some ⟨G4, 0, none⟩) pn (pn + 1), .slice (some ⟨G5, 0, none⟩) yn (yn + 1), .slice (some ⟨G6, 0, none⟩) zn (zn + 1)]) ((results_cell rfl _ _ _).trans ?_) rfl ?_
  · exact HLV
  · refine ⟨six G1 G2 G3 G4 G5 G6, rfl, fun i hi => ?_, ⟨HFF.out _ _ _ ?_ hC.out.h1, HFF.out _ _ _ ?_ hC.out.h2, HFF.out _ _ _ ?_ hC.out.h3, HFF.out _ _ _ ?_ hC.out.h4, HFF.out _ _ _ ?_ hC.out.h5, HFF.out _ _ _ ?_ hC.out.h6⟩, HLL.out.2⟩
    · rcases i with _ | _ | _ | _ | _ | _ | i <;> simp only [six] <;> omega
    all_goals (simp only [six]; omega)
end
end Go.Proofs.YtbplgjocammnbaaGreat.TwinR
