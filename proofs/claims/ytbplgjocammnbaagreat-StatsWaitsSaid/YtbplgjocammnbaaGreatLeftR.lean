/- LeftRecords: the copies are still that, all marks too. RecordSize, BeyondRecords. -/
import Derived.Test.YtbplgjocammnbaaGreatTwinRs
namespace Go.Proofs.YtbplgjocammnbaaGreat.TwinR
open Go.RowKit Go.Proofs.YtbplgjocammnbaaGreat.Aid Go.Proofs.YtbplgjocammnbaaGreat.Mem Go.Proofs.YtbplgjocammnbaaGreat.Types Go.Proofs.YtbplgjocammnbaaGreat.Keep Go.Proofs.YtbplgjocammnbaaGreat.Recs Go.Proofs.YtbplgjocammnbaaGreat.TwinS Go.Proofs.YtbplgjocammnbaaGreat.SameS Go.Proofs.YtbplgjocammnbaaGreat.Has Go.Proofs.YtbplgjocammnbaaGreat.Twin
open Go.Proofs.YtbplgjocammnbaaGreat.Waits (Row Rc RAt waitA)
set_option linter.unusedSimpArgs false
set_option linter.unusedVariables false
set_option maxRecDepth 100000
/-- LeftGraph. -/
theorem leftG_c (R C : Int) (es : List Edg) (G : Nat) (A : Option Addr) (n c : Nat) (w : World) (hg : Blk w G 168 ((es.map Edg.list).flatten ++ markedg)) (h : Recs w 3 A n (es.map Edg.list)) (hn : n ≤ 1048576) :
    Calls Tryz.prog 103 #[.agg #[.int .i64 R, .int .i64 C, .slice (some ⟨G, 0, none⟩) n (n + 1)], .agg #[.int .i64 R, .int .i64 C, .slice A n c]] w fun e w' => e = .returned (.bool true) ∧ Below w.heap.size w w' := by
  have H := Lib.hid h
  have HG := Lib.hid hg
  have q1 : (R == R) = true := by simp
  have q2 : (C == C) = true := by simp
  clear h hg
  go_enter Tryz.func103, Tryz.ntmps103
  go_wp2_with (first | (go_at_call 169; (with_reducible refine (left_edg es G A n c _ ((HG.out.alloc _).alloc _) (H.out.keep (kba (kba (Below.refl _ _) _) _)) hn).mono ?_); rintro e w1 ⟨rfl, hb⟩; have HB1 := Lib.hid (kbt (kba (kba (Below.refl _ _) _) _) hb)))
  go_ret
  exact ⟨rfl, HB1.out⟩
theorem leftC_c (ps : List Pai) (ys zs : List Int) (G1 G2 G3 : Nat) (pa ya za : Option Addr) (pn pc yn yc zn zc : Nat) (w : World)
    (g1 : Blk w G1 72 ((ps.map Pai.list).flatten ++ markpai)) (g2 : Blk w G2 3 (nums .i64 ys ++ [.int .i64 (-8777)])) (g3 : Blk w G3 3 (nums .i64 zs ++ [.int .i64 (-8777)]))
    (h1 : Recs w 2 pa pn (ps.map Pai.list)) (h2 : Ints w .i64 ya yn ys) (h3 : Ints w .i64 za zn zs) (n1 : pn ≤ 1048576) (n2 : yn ≤ 1048576) (n3 : zn ≤ 1048576) :
    Calls Tryz.prog 104 #[.agg #[.slice (some ⟨G1, 0, none⟩) pn (pn + 1), .slice (some ⟨G2, 0, none⟩) yn (yn + 1), .slice (some ⟨G3, 0, none⟩) zn (zn + 1)], .agg #[.slice pa pn pc, .slice ya yn yc, .slice za zn zc]] w fun e w' => e = .returned (.bool true) ∧ Below w.heap.size w w' := by
  have HG1 := Lib.hid g1
  have HG2 := Lib.hid g2
  have HG3 := Lib.hid g3
  have H1 := Lib.hid h1
  have H2 := Lib.hid h2
  have H3 := Lib.hid h3
  have K := Lib.hid (((Has.nil w).new 66 [.slice (some ⟨G1, 0, none⟩) pn (pn + 1), .slice (some ⟨G2, 0, none⟩) yn (yn + 1), .slice (some ⟨G3, 0, none⟩) zn (zn + 1)]).new 66 [.slice pa pn pc, .slice ya yn yc, .slice za zn zc])
  rw [size_alloc] at K
  have CC := fun (W : World) (h : Has w [(w.heap.size + 1, 66, [.slice pa pn pc, .slice ya yn yc, .slice za zn zc]), (w.heap.size, 66, [.slice (some ⟨G1, 0, none⟩) pn (pn + 1), .slice (some ⟨G2, 0, none⟩) yn (yn + 1), .slice (some ⟨G3, 0, none⟩) zn (zn + 1)])] W) =>
    And.intro (Has.cell h (List.mem_cons_of_mem _ List.mem_cons_self) 1) (And.intro (Has.cell h (List.mem_cons_of_mem _ List.mem_cons_self) 2) (And.intro (Has.cell h List.mem_cons_self 1) (Has.cell h List.mem_cons_self 2)))
  have HCC := Lib.hid CC
  clear g1 g2 g3 h1 h2 h3 CC
  go_enter Tryz.func104, Tryz.ntmps104
  go_wp2_with (first | (go_at_call 170; (with_reducible refine (left_pai ps G1 pa pn pc _ ((HG1.out.alloc _).alloc _) (H1.out.keep (kba (kba (Below.refl _ _) _) _)) n1).mono ?_); rintro e w1 ⟨rfl, hb⟩; have K1 := Lib.hid (Has.keep K.out hb); obtain ⟨c1, c2, c3, c4⟩ := HCC.out _ K1.out; simp only [List.getElem?_cons_succ, List.getElem?_cons_zero] at c1 c2 c3 c4; clear hb) | (go_at_call 171; (with_reducible refine (left_c ys G2 ya yn yc _ (HG2.out.keep K1.out.bel) (H2.out.keep K1.out.bel) n2).mono ?_); rintro e w2 ⟨rfl, nd, rfl⟩; have K2 := Lib.hid (Has.keep K1.out (below_drewN (Below.refl _ _) nd))) | (go_at_call 171; (with_reducible refine (left_c zs G3 za zn zc _ (HG3.out.keep K2.out.bel) (H3.out.keep K2.out.bel) n3).mono ?_); rintro e w3 ⟨rfl, nd2, rfl⟩; have K3 := Lib.hid (Has.keep K2.out (below_drewN (Below.refl _ _) nd2))))
  go_ret
  exact ⟨rfl, below_drewN K1.out.bel _⟩
theorem cop_left {w : World} {x : Rec} {g : Nat → Nat} (h : Cop w x g) : True := trivial
section
attribute [local go_sem ↓] load_gr load_ce
set_option maxHeartbeats 4000000 in
theorem leftR_c (r : Row) (x : Rec) (g : Nat → Nat) (w : World) (h : Full w r x) (hc : Cop w x g) (hs : Small r) :
    Calls Tryz.prog 17 #[.agg (twin r g).arr, .agg r.arr] w fun e w' => e = .returned (.bool true) ∧ Below w.heap.size w w' := by
  have H := Lib.hid h
  have HC := Lib.hid hc
  have K := Lib.hid (((Has.nil w).new 68 (twin r g).list).new 68 r.list)
  rw [size_alloc] at K
  have CC := fun (W : World) (h : Has w [(w.heap.size + 1, 68, r.list), (w.heap.size, 68, (twin r g).list)] W) =>
    And.intro (Has.cell h (List.mem_cons_of_mem _ List.mem_cons_self) 2) (And.intro (Has.cell h List.mem_cons_self 2) (And.intro
      (show (LA 63 (.pointer (some ⟨w.heap.size, 3, none⟩))).run Tryz.prog W = .ok (.agg #[.int .i64 r.rows, .int .i64 r.cols, .slice (some ⟨g 2, 0, none⟩) r.en (r.en + 1)]) W from loads_at (l := [.int .i64 r.rows, .int .i64 r.cols, .slice (some ⟨g 2, 0, none⟩) r.en (r.en + 1)]) (s := []) Tryz.underlying63 rfl (by show _ = some 3; kernel_rfl) fun j v hv => by
        rw [Addr.add_mid]
        exact (h.1 _ (List.mem_cons_of_mem _ List.mem_cons_self)).cellv (by rw [List.append_nil] at hv; rcases j with _ | _ | _ | j <;> simp [twin] at hv ⊢ <;> exact hv)) (And.intro
      (show (LA 63 (.pointer (some ⟨w.heap.size + 1, 3, none⟩))).run Tryz.prog W = .ok (.agg #[.int .i64 r.rows, .int .i64 r.cols, .slice r.ea r.en r.ec]) W from loads_at (l := [.int .i64 r.rows, .int .i64 r.cols, .slice r.ea r.en r.ec]) (s := []) Tryz.underlying63 rfl (by show _ = some 3; kernel_rfl) fun j v hv => by
        rw [Addr.add_mid]
        exact (h.1 _ List.mem_cons_self).cellv (by rw [List.append_nil] at hv; rcases j with _ | _ | _ | j <;> simp at hv ⊢ <;> exact hv)) (And.intro
      (show (LA 66 (.pointer (some ⟨w.heap.size, 6, none⟩))).run Tryz.prog W = .ok (.agg #[.slice (some ⟨g 3, 0, none⟩) r.pn (r.pn + 1), .slice (some ⟨g 4, 0, none⟩) r.yn (r.yn + 1), .slice (some ⟨g 5, 0, none⟩) r.zn (r.zn + 1)]) W from loads_at (l := [.slice (some ⟨g 3, 0, none⟩) r.pn (r.pn + 1), .slice (some ⟨g 4, 0, none⟩) r.yn (r.yn + 1), .slice (some ⟨g 5, 0, none⟩) r.zn (r.zn + 1)]) (s := []) Tryz.underlying66 rfl (by show _ = some 3; kernel_rfl) fun j v hv => by
        rw [Addr.add_mid]
        exact (h.1 _ (List.mem_cons_of_mem _ List.mem_cons_self)).cellv (by rw [List.append_nil] at hv; rcases j with _ | _ | _ | j <;> simp [twin] at hv ⊢ <;> exact hv))
      (show (LA 66 (.pointer (some ⟨w.heap.size + 1, 6, none⟩))).run Tryz.prog W = .ok (.agg #[.slice r.pa r.pn r.pc, .slice r.ya r.yn r.yc, .slice r.za r.zn r.zc]) W from loads_at (l := [.slice r.pa r.pn r.pc, .slice r.ya r.yn r.yc, .slice r.za r.zn r.zc]) (s := []) Tryz.underlying66 rfl (by show _ = some 3; kernel_rfl) fun j v hv => by
        rw [Addr.add_mid]
        exact (h.1 _ List.mem_cons_self).cellv (by rw [List.append_nil] at hv; rcases j with _ | _ | _ | j <;> simp at hv ⊢ <;> exact hv))))))
  have HCC := Lib.hid CC
  have e1 : (r.tick == r.tick) = true := by simp
  obtain ⟨n1, n2, n3, n4, n5, n6⟩ := hs
  obtain ⟨tick, wa, wn, wc, ia, idn, ic, rows, cols, ea, en, ec, pa, pn, pc, ya, yn, yc, za, zn, zc⟩ := r
  simp only [Row.arr, twin, Row.list] at *
  clear h hc CC
  go_enter Tryz.func17, Tryz.ntmps17
  go_wp2_with (first | (go_at_call 101; (with_reducible refine (left_wai x.ws (g 0) wa wn wc _ ((HC.out.h1.alloc _).alloc _) (H.out.h1.keep (kba (kba (Below.refl _ _) _) _)) n1).mono ?_); rintro e w1 ⟨rfl, hb⟩; have K1 := Lib.hid (Has.keep K.out hb); obtain ⟨c1, c2, _, _, _, _⟩ := HCC.out _ K1.out; simp only [List.getElem?_cons_succ, List.getElem?_cons_zero] at c1 c2; clear hb) | (go_at_call 102; (with_reducible refine (left_idl x.ys (g 1) ia idn ic _ (HC.out.h2.keep K1.out.bel) (H.out.h2.keep K1.out.bel) n2).mono ?_); rintro e w2 ⟨rfl, hb⟩; have K2 := Lib.hid (Has.keep K1.out hb); obtain ⟨_, _, c3, c4, _, _⟩ := HCC.out _ K2.out; clear hb) | (go_at_call 103; (with_reducible refine (leftG_c rows cols x.es (g 2) ea en ec _ (HC.out.h3.keep K2.out.bel) (H.out.h3.keep K2.out.bel) n3).mono ?_); rintro e w3 ⟨rfl, hb⟩; have K3 := Lib.hid (Has.keep K2.out hb); obtain ⟨_, _, _, _, c5, c6⟩ := HCC.out _ K3.out; clear hb) | (go_at_call 104; (with_reducible refine (leftC_c x.ps x.y x.z (g 3) (g 4) (g 5) pa ya za pn pc yn yc zn zc _ (HC.out.h4.keep K3.out.bel) (HC.out.h5.keep K3.out.bel) (HC.out.h6.keep K3.out.bel) (H.out.h4.keep K3.out.bel) (H.out.h5.keep K3.out.bel) (H.out.h6.keep K3.out.bel) n4 n5 n6).mono ?_); rintro e w4 ⟨rfl, hb⟩; have K4 := Lib.hid (Has.keep K3.out hb); clear hb))
  go_ret
  exact ⟨rfl, K4.out.bel⟩
end
section
attribute [local go_sem ↓] load_gr load_ce
theorem isrec_c (n : Int) (w : World) (hn : n = 7777) : Calls Tryz.prog 16 #[.agg markrec.toArray, .int .i64 n] w fun e w' => e = .returned (.bool true) ∧ Below w.heap.size w w' := by
  subst hn
  unfold markrec
  go_enter Tryz.func16, Tryz.ntmps16
  go_wp2
  go_ret
  exact ⟨by simp, alloc_below _ _⟩
end
theorem la_mark_rec {W : World} {G n : Nat} {ts : List Row} (h : Blk W G 68 ((ts.map Row.list).flatten ++ markrec)) (hn : ts.length = n) : (LA 68 (.pointer (some ⟨G, n * 9, none⟩))).run Tryz.prog W = .ok (.agg markrec.toArray) W := by
  refine loads_at (l := markrec) (s := []) Tryz.underlying68 rfl (by show _ = some 9; kernel_rfl) fun j v hv => ?_
  rw [Addr.add_mid]
  refine h.cellv ?_
  rw [List.getElem?_append_right (by rw [len_flat, hn]; omega), len_flat, hn, Nat.add_sub_cancel_left]
  simpa using hv
theorem recs_row {w : World} {G n : Nat} {t : TypeId} {ts : List Row} {r : List Value} (h : Blk w G t ((ts.map Row.list).flatten ++ r)) (hn : ts.length = n) : Recs w 9 (some ⟨G, 0, none⟩) n (ts.map Row.list) := by
  have := Recs.of_blk (row_len ts) h
  rwa [List.length_map, hn] at this
section
attribute [local go_sem ↓] load_re
set_option maxHeartbeats 4000000 in
theorem lefts_c (rs ts : List Row) (xs : List Rec) (G : Nat) (A : Option Addr) (n c : Nat) (w : World) (h : Recs w 9 A n (rs.map Row.list)) (hx : xs.length = n) (hf : ∀ (j : Nat) r x, rs[j]? = some r → xs[j]? = some x → Full w r x ∧ Small r) (hn : n ≤ 1048576) (ht : ts.length = n) (hB : Blk w G 68 ((ts.map Row.list).flatten ++ markrec)) (hC : Cops w (G + 1) rs ts xs) :
    Calls Tryz.prog 9 #[.slice (some ⟨G, 0, none⟩) n (n + 1), .slice A n c] w fun e w' => e = .returned (.bool true) ∧ Below w.heap.size w w' := by
  have H := Lib.hid h
  have HX := Lib.hid hx
  have HF := Lib.hid hf
  have HC := Lib.hid hC
  have H2 := Lib.hid (recs_row hB ht)
  have lm := la_mark_rec hB ht
  have HT := Lib.hid ht
  clear h hx hf hC hB ht
  go_enter Tryz.func9, Tryz.ntmps9
  go_wp2_with (first | (go_at_call 16; (with_reducible refine (isrec_c 7777 _ rfl).mono ?_); rintro e w2 ⟨rfl, hb⟩; have HB2 := Lib.hid hb; clear hb lm))
  go_loopw [5] (fun i wr => ∃ k : Nat, k ≤ n ∧ i = .int .i64 k ∧ Hid (Below w.heap.size w wr)) (fun i _ => n - (intOf i).toNat)
  case atStart => exact ⟨0, Nat.zero_le _, rfl, HB2⟩
  case round =>
    clear HB2
    obtain ⟨k, hk, rfl, HB⟩ := hrel
    by_cases hlt : k < n
    · obtain ⟨ad, r, rfl, hr, hld⟩ := Waits.at_r H.out hlt
      obtain ⟨bd, t, ebd, htt, hld2⟩ := Waits.at_r H2.out hlt
      obtain rfl : ⟨G, 0, none⟩ = bd := by injection ebd
      obtain ⟨x, hx⟩ : ∃ x, xs[k]? = some x := ⟨_, List.getElem?_eq_getElem (by rw [HX.out]; exact hlt)⟩
      obtain ⟨g, rfl, hcop, _⟩ := HC.out k r x t hr hx htt
      have HFR := Lib.hid (HF.out k r x hr hx)
      have HCP := Lib.hid hcop
      rw [add_at] at hld2
      have EXT : Hid (∀ W, Below w.heap.size w W → (Below w.heap.size w W ∧ (LA 68 (.pointer (some (ad.add (k * 9))))).run Tryz.prog W = .ok (.agg r.arr) W ∧ (LA 68 (.pointer (some ⟨G, k * 9, none⟩))).run Tryz.prog W = .ok (.agg (twin r g).arr) W)) := Lib.hid (fun W h => ⟨h, hld W h, hld2 W h⟩)
      have LR := Lib.hid (fun W (hb : Below w.heap.size w W) => leftR_c r x g W (HFR.out.1.keep hb) (HCP.out.keep hb) HFR.out.2)
      clear hr hx hcop hld hld2 htt ebd
      obtain ⟨R, hR⟩ : ∃ R, r.arr = R := ⟨_, rfl⟩
      obtain ⟨R2, hR2⟩ : ∃ R2, (twin r g).arr = R2 := ⟨_, rfl⟩
      rw [hR, hR2] at EXT LR
      clear hR hR2
      go_wp2_with (fail)
      go_region_held3 (fun W => Below w.heap.size w W ∧ (LA 68 (.pointer (some (ad.add (k * 9))))).run Tryz.prog W = .ok (.agg R) W ∧ (LA 68 (.pointer (some ⟨G, k * 9, none⟩))).run Tryz.prog W = .ok (.agg R2) W) (first | exact EXT.out _ (HB.out.drew) | with_reducible exact EXT.out _ (kbt (And.left (by assumption)) hb) | assumption) (first | (go_at_call 17; (with_reducible refine (LR.out _ (And.left (by assumption))).mono ?_); rintro e w3 ⟨rfl, hb⟩))
      obtain ⟨h8, _, _⟩ := ‹_ ∧ _ ∧ _›
      have H8 := Lib.hid h8
      go_wp2_with (fail)
      go_roundw
      case rel => exact ⟨k + 1, by omega, by go_num, H8⟩
      case measure => simp [intOf]; omega
    · obtain rfl : k = n := by omega
      go_wp2
      go_ret
      exact ⟨rfl, HB.out⟩
end
/-- How many things a record's lists hold, itself counted. -/
def sizeR (r : Row) : Nat := 1 + r.wn + r.idn + r.en + r.pn + r.yn + r.zn
theorem sizeR_c (r : Row) (w : World) (h1 : r.wn ≤ 140737488351232) (h2 : r.idn ≤ 140737488351232) (h3 : r.en ≤ 140737488351232) (h4 : r.pn ≤ 140737488351232) (h5 : r.yn ≤ 140737488351232) (h6 : r.zn ≤ 140737488351232) :
    Calls Tryz.prog 13 #[.agg r.arr] w fun e w' => e = .returned (.int .i64 (sizeR r)) ∧ Below w.heap.size w w' := by
  obtain ⟨tick, wa, wn, wc, ia, idn, ic, rows, cols, ea, en, ec, pa, pn, pc, ya, yn, yc, za, zn, zc⟩ := r
  simp only [Row.arr] at *
  go_enter Tryz.func13, Tryz.ntmps13
  go_wp2
  go_ret
  exact ⟨by simp only [sizeR]; congr 2, alloc_below _ _⟩
def sizeA (rs : List Row) : Nat := rs.foldr (fun r n => sizeR r + n) 0
theorem sizeA_app (a b : List Row) : sizeA (a ++ b) = sizeA a + sizeA b := by
  induction a with
  | nil => simp [sizeA]
  | cons r a ih =>
    have : sizeA (r :: a ++ b) = sizeR r + sizeA (a ++ b) := rfl
    have h2 : sizeA (r :: a) = sizeR r + sizeA a := rfl
    rw [this, ih, h2]; omega
theorem sizeA_next {rs : List Row} {k : Nat} {r : Row} (h : rs[k]? = some r) : sizeA (rs.take (k + 1)) = sizeA (rs.take k) + sizeR r := by
  rw [take_snoc rs k r h, sizeA_app]
  simp [sizeA]
theorem sizeA_pre (rs : List Row) (k : Nat) : sizeA (rs.take k) ≤ sizeA rs := by
  have := sizeA_app (rs.take k) (rs.drop k)
  rw [List.take_append_drop] at this
  omega
section
attribute [local go_sem ↓] load_re
set_option maxHeartbeats 4000000 in
theorem beyR_c (rs : List Row) (A : Option Addr) (n c : Nat) (w : World) (h : Recs w 9 A n (rs.map Row.list)) (hf : ∀ r ∈ rs, r.wn ≤ 140737488351232 ∧ r.idn ≤ 140737488351232 ∧ r.en ≤ 140737488351232 ∧ r.pn ≤ 140737488351232 ∧ r.yn ≤ 140737488351232 ∧ r.zn ≤ 140737488351232) (hn : n ≤ 140737488351232) :
    Calls Tryz.prog 4 #[.slice A n c] w fun e w' => e = .returned (.bool (decide (1048576 < sizeA rs))) ∧ Below w.heap.size w w' := by
  have H := Lib.hid h
  have HF := Lib.hid hf
  have HN : Hid (rs.length = n) := Lib.hid (by have := h.1; simpa using this)
  clear h hf
  go_enter Tryz.func4, Tryz.ntmps4
  go_wp2
  go_loopw [3, 4] (fun s i wr => ∃ k : Nat, k ≤ n ∧ i = .int .i64 k ∧ ∃ m : Nat, s = .int .i64 m ∧ Hid (sizeA (rs.take k) = m) ∧ m ≤ 1048576 ∧ Hid (Below w.heap.size w wr)) (fun _ i _ => n - (intOf i).toNat)
  case atStart => exact ⟨0, Nat.zero_le _, rfl, 0, rfl, Lib.hid (by simp [sizeA]), by omega, Lib.hid (Below.refl _ _)⟩
  case round =>
    obtain ⟨k, hk, rfl, m, rfl, HM, hm, HB⟩ := hrel
    by_cases hlt : k < n
    · obtain ⟨ad, r, rfl, hr, hld⟩ := Waits.at_r H.out hlt
      have ld := hld _ HB.out
      have HS := Lib.hid (sizeA_next hr)
      have HLE := Lib.hid (sizeA_pre rs (k + 1))
      obtain ⟨q1, q2, q3, q4, q5, q6⟩ := HF.out r (List.mem_of_getElem? hr)
      obtain ⟨z, hz⟩ : ∃ z, sizeR r = z := ⟨_, rfl⟩
      have hz2 : z ≤ 1000000000000000 := by rw [← hz]; unfold sizeR; omega
      have HSC := Lib.hid (sizeR_c r wr q1 q2 q3 q4 q5 q6)
      rw [hz] at HS HSC
      obtain ⟨R, hR⟩ : ∃ R, r.arr = R := ⟨_, rfl⟩
      rw [hR] at ld HSC
      clear hr hld q1 q2 q3 q4 q5 q6 hR hz
      by_cases hbig : 1048576 < m + z
      · have HT : Hid (decide (1048576 < sizeA rs) = true) := Lib.hid (decide_eq_true (by have := HS.out; have := HM.out; have := HLE.out; omega))
        go_wp2_with (first | (go_at_call 13; (with_reducible refine (HSC.out).mono ?_); rintro e w2 ⟨rfl, hb⟩; have HB2 := Lib.hid (kbt HB.out hb); clear hb))
        go_ret
        exact ⟨by rw [HT.out]; rfl, HB2.out⟩
      · go_wp2_with (first | (go_at_call 13; (with_reducible refine (HSC.out).mono ?_); rintro e w2 ⟨rfl, hb⟩; have HB2 := Lib.hid (kbt HB.out hb); clear hb))
        go_roundw
        case rel => exact ⟨k + 1, by omega, by go_num, m + z, by go_num, Lib.hid (by rw [HS.out, HM.out]), by omega, HB2⟩
        case measure => simp [intOf]; omega
    · obtain rfl : k = n := by omega
      have HT : Hid (decide (1048576 < sizeA rs) = false) := Lib.hid (decide_eq_false (by have h := HM.out; rw [List.take_of_length_le (by rw [HN.out]; exact Nat.le_refl _)] at h; omega))
      go_wp2
      go_ret
      exact ⟨by rw [HT.out]; rfl, HB.out⟩
end
end Go.Proofs.YtbplgjocammnbaaGreat.TwinR
