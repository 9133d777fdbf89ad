/- WeighChecks: the walk's cases, and the law. -/
import Derived.Test.YtbpdfcllojaanaaChecks
namespace Go.Proofs.Ytbpdfcllojaanaa.Checks
open Go.RowKit Go.Proofs.Ytbpdfcllojaanaa.Aid Go.Proofs.Ytbpdfcllojaanaa.Mem Go.Proofs.Ytbpdfcllojaanaa.Types Go.Proofs.Ytbpdfcllojaanaa.Keep Go.Proofs.Ytbpdfcllojaanaa.Recs Go.Proofs.Ytbpdfcllojaanaa.TwinS Go.Proofs.Ytbpdfcllojaanaa.Check Go.Proofs.Ytbpdfcllojaanaa.Has Go.Proofs.Ytbpdfcllojaanaa.Twin
set_option linter.unusedSimpArgs false
set_option linter.unusedVariables false
set_option maxRecDepth 100000
theorem drew_below (w : World) : Below w.heap.size w w.drew := (Below.refl _ _).drew
theorem ret_t {a b : Int} (h : a = b) : Ending.returned (.bool (a == b)) = Ending.returned (.bool true) := by rw [h]; simp
theorem store_ed (p v : Value) : Instr.storeAt 26 p v = SA 26 p v := rfl
attribute [local go_sem ↓] Check.load_edg load_gr
theorem beyond1' (a : Nat) (w : World) (G : Nat) (hG : w.heap.size = G) (t : TypeId) (ha : a ≤ 140737488351232) (x : Bool) (hx : decide (1048576 < a) = x) : Calls Try.prog 10 #[.slice (some ⟨G, 0, none⟩) 1 1] (w.alloc (.cells #[.int .i64 (a : Int)] t)) fun e w' => e = .returned (.bool x) ∧ w.alloc (.cells #[.int .i64 (a : Int)] t) = w' := by
  subst hG; exact beyond1 a w t ha x hx
theorem chk_v (R C : Int) (es : List Edg) (A : Option Addr) (n c : Nat) (w : World) (h : Recs w 3 A n (es.map Edg.list)) (hn : n ≤ 1048576) (v : Int) (hv : Hid (gErr R C es = v)) : Calls Try.prog 12 #[.agg #[.int .i64 R, .int .i64 C, .slice A n c]] w fun e w' => e = .returned (.int .i64 v) ∧ Below w.heap.size w w' := by
  obtain rfl := hv.out
  exact check_c R C es A n c w h (by omega)
theorem ref_v (R C : Int) (es : List Edg) (A : Option Addr) (n c : Nat) (w : World) (h : Recs w 3 A n (es.map Edg.list)) (hn : n ≤ 1048576) (v : Int) (hv : Hid (gErr R C es = v)) : Calls Try.prog 13 #[.agg #[.int .i64 R, .int .i64 C, .slice A n c]] w fun e w' => e = .returned (.int .i64 v) ∧ Below w.heap.size w w' := by
  obtain rfl := hv.out
  exact refcheck_c R C es A n c w h (by omega)
set_option maxHeartbeats 8000000 in
theorem checks_far (R C : Int) (es : List Edg) (A : Option Addr) (n c : Nat) (x : Edg) (j : Int) (w : World) (hn : n ≤ 140737488351232) (HBE : Hid (decide (1048576 < n) = true)) :
    Calls Try.prog 3 #[.agg #[.int .i64 R, .int .i64 C, .slice A n c], .agg #[.int .i64 x.r, .int .i64 x.c, .int .i64 x.w], .int .i64 j] w fun e w' => e = .returned (.bool true) ∧ Below w.heap.size w w' := by
  have k := K1.start w R C A n c x
  have c2 := K1.c2 k
  have HK := Lib.hid (K1.keep k (alloc_below _ (.cells #[.int .i64 (n : Int)] 3)))
  clear k
  go_enter Try.func3, Try.ntmps3
  go_wp2_with (first | (go_at_call 10; with_reducible refine (beyond1' n _ _ (by rw [size_alloc, size_alloc]) _ hn true HBE.out).mono ?_; rintro e w2 ⟨rfl, rfl⟩))
  go_ret
  exact ⟨rfl, K1.bel HK.out⟩
set_option maxHeartbeats 8000000 in
theorem checks_lo (R C : Int) (es : List Edg) (A : Option Addr) (n c : Nat) (x : Edg) (j : Int) (w : World) (h : Recs w 3 A n (es.map Edg.list)) (hn : n ≤ 140737488351232) (HBE : Hid (decide (1048576 < n) = false)) (hn2 : n ≤ 1048576) (hj : j < 0) (v : Int) (HV : Hid (gErr R C es = v)) (v2 : Int) (HV2 : Hid (gErr R C (es) = v2)) :
    Calls Try.prog 3 #[.agg #[.int .i64 R, .int .i64 C, .slice A n c], .agg #[.int .i64 x.r, .int .i64 x.c, .int .i64 x.w], .int .i64 j] w fun e w' => e = .returned (.bool true) ∧ Below w.heap.size w w' := by
  have HX := Lib.hid h
  have HN : Hid (es.length = n) := Lib.hid (by have := h.1; simpa using this)
  have HN2 : Hid ((es).length = n) := Lib.hid (by have := HN.out; simpa using this)
  clear h
  have k := K1.start w R C A n c x
  have c2 := K1.c2 k
  have vv : (v != v) = false := by simp
  go_enter Try.func3, Try.ntmps3
  go_wp2_with (first | (go_at_call 10; (with_reducible refine (beyond1' n _ _ (by rw [size_alloc, size_alloc]) _ hn false HBE.out).mono ?_); rintro e w2 ⟨rfl, rfl⟩; replace k := K1.keep k (alloc_below _ (.cells #[.int .i64 (n : Int)] 3)); clear c2; have lg := K1.lg k) | (go_at_call 11; (with_reducible refine (twinG_c R C es A n c _ (HX.out.keep (K1.bel k)) hn2).mono ?_); rintro e w3 ⟨G, rfl, hG, hB, hb⟩; have k2 := K2.start k hb hG hB HN.out; have HT := Lib.hid (show w3.heap.size = w3.heap.size from rfl); clear lg k hb hG hB; have lt := K2.lt' k2) | (go_at_call 12; (with_reducible refine (chk_v R C es _ n _ _ (K2.recs k2) hn2 v HV).mono ?_); rintro e w4 ⟨rfl, hb⟩; replace k2 := K2.keep k2 hb; clear lt hb; have lg := K2.lg k2) | (go_at_call 13; (with_reducible refine (ref_v R C es A n c _ (HX.out.keep (K2.bel k2)) hn2 v HV).mono ?_); rintro e w5 ⟨rfl, hb⟩; replace k2 := K2.keep k2 hb; clear lg hb; have lg := K2.lg k2; have lt := K2.lt' k2) | (go_at_call 14; (with_reducible refine (leftG_c R C es G A n c _ (K2.tw k2) (HX.out.keep (K2.bel k2)) hn2).mono ?_); rintro e w6 ⟨rfl, hb⟩; replace k2 := K2.keep k2 hb; clear lg lt hb; have t2 := K2.t2 k2; skip))
  generalize w3.heap.size = tb at *
  have K := Lib.hid k2
  clear k2 HT
  have EXT : Hid (∀ W, K2 w R C A n c x G tb (es) W → (fun W => K2 w R C A n c x G tb (es) W ∧ (LA 24 (.pointer (some ⟨tb, 0, none⟩))).run Try.prog W = .ok (.agg #[.int .i64 R, .int .i64 C, .slice (some ⟨G, 0, none⟩) n (n + 1)]) W) W) := Lib.hid (fun W h => ⟨h, K2.lt' h⟩)
  dsimp only at EXT
  go_region_held3 (fun W => K2 w R C A n c x G tb (es) W ∧ (LA 24 (.pointer (some ⟨tb, 0, none⟩))).run Try.prog W = .ok (.agg #[.int .i64 R, .int .i64 C, .slice (some ⟨G, 0, none⟩) n (n + 1)]) W) (first | exact EXT.out _ (K2.keep K.out (drew_below _)) | exact EXT.out _ (K2.keep (And.left (by assumption)) hb)) (first | (go_at_call 12; refine (chk_v R C _ _ n _ _ (K2.recs (And.left (by assumption))) hn2 v2 HV2).mono ?_; rintro e w7 ⟨rfl, hb⟩; have hbc := hb) | (go_at_call 11; refine (twinG_c R C _ _ n _ _ (K2.recs (And.left (by assumption))) hn2).mono ?_; rintro e w8 ⟨G2, rfl, hG2, hB2, hb⟩) | (go_at_call 13; refine (ref_v R C _ _ n _ _ (by first | exact edg_recs hB2 HN2.out | exact edg_recs (hB2.keep hbc) HN2.out) hn2 v2 HV2).mono ?_; rintro e w9 ⟨rfl, hb⟩))
  all_goals (obtain ⟨h8, _⟩ := ‹_ ∧ _›; go_wp2; go_ret; exact ⟨by first | rfl | exact ret_t rfl, K2.bel h8⟩)
set_option maxHeartbeats 8000000 in
theorem checks_hi (R C : Int) (es : List Edg) (A : Option Addr) (n c : Nat) (x : Edg) (j : Int) (w : World) (h : Recs w 3 A n (es.map Edg.list)) (hn : n ≤ 140737488351232) (HBE : Hid (decide (1048576 < n) = false)) (hn2 : n ≤ 1048576) (hj0 : 0 ≤ j) (hj : (n : Int) ≤ j) (v : Int) (HV : Hid (gErr R C es = v)) (v2 : Int) (HV2 : Hid (gErr R C (es) = v2)) :
    Calls Try.prog 3 #[.agg #[.int .i64 R, .int .i64 C, .slice A n c], .agg #[.int .i64 x.r, .int .i64 x.c, .int .i64 x.w], .int .i64 j] w fun e w' => e = .returned (.bool true) ∧ Below w.heap.size w w' := by
  have HX := Lib.hid h
  have HN : Hid (es.length = n) := Lib.hid (by have := h.1; simpa using this)
  have HN2 : Hid ((es).length = n) := Lib.hid (by have := HN.out; simpa using this)
  clear h
  have k := K1.start w R C A n c x
  have c2 := K1.c2 k
  have vv : (v != v) = false := by simp
  go_enter Try.func3, Try.ntmps3
  go_wp2_with (first | (go_at_call 10; (with_reducible refine (beyond1' n _ _ (by rw [size_alloc, size_alloc]) _ hn false HBE.out).mono ?_); rintro e w2 ⟨rfl, rfl⟩; replace k := K1.keep k (alloc_below _ (.cells #[.int .i64 (n : Int)] 3)); clear c2; have lg := K1.lg k) | (go_at_call 11; (with_reducible refine (twinG_c R C es A n c _ (HX.out.keep (K1.bel k)) hn2).mono ?_); rintro e w3 ⟨G, rfl, hG, hB, hb⟩; have k2 := K2.start k hb hG hB HN.out; have HT := Lib.hid (show w3.heap.size = w3.heap.size from rfl); clear lg k hb hG hB; have lt := K2.lt' k2) | (go_at_call 12; (with_reducible refine (chk_v R C es _ n _ _ (K2.recs k2) hn2 v HV).mono ?_); rintro e w4 ⟨rfl, hb⟩; replace k2 := K2.keep k2 hb; clear lt hb; have lg := K2.lg k2) | (go_at_call 13; (with_reducible refine (ref_v R C es A n c _ (HX.out.keep (K2.bel k2)) hn2 v HV).mono ?_); rintro e w5 ⟨rfl, hb⟩; replace k2 := K2.keep k2 hb; clear lg hb; have lg := K2.lg k2; have lt := K2.lt' k2) | (go_at_call 14; (with_reducible refine (leftG_c R C es G A n c _ (K2.tw k2) (HX.out.keep (K2.bel k2)) hn2).mono ?_); rintro e w6 ⟨rfl, hb⟩; replace k2 := K2.keep k2 hb; clear lg lt hb; have t2 := K2.t2 k2; skip))
  generalize w3.heap.size = tb at *
  have K := Lib.hid k2
  clear k2 HT
  have EXT : Hid (∀ W, K2 w R C A n c x G tb (es) W → (fun W => K2 w R C A n c x G tb (es) W ∧ (LA 24 (.pointer (some ⟨tb, 0, none⟩))).run Try.prog W = .ok (.agg #[.int .i64 R, .int .i64 C, .slice (some ⟨G, 0, none⟩) n (n + 1)]) W) W) := Lib.hid (fun W h => ⟨h, K2.lt' h⟩)
  dsimp only at EXT
  go_region_held3 (fun W => K2 w R C A n c x G tb (es) W ∧ (LA 24 (.pointer (some ⟨tb, 0, none⟩))).run Try.prog W = .ok (.agg #[.int .i64 R, .int .i64 C, .slice (some ⟨G, 0, none⟩) n (n + 1)]) W) (first | exact EXT.out _ (K2.keep K.out (drew_below _)) | exact EXT.out _ (K2.keep (And.left (by assumption)) hb)) (first | (go_at_call 12; refine (chk_v R C _ _ n _ _ (K2.recs (And.left (by assumption))) hn2 v2 HV2).mono ?_; rintro e w7 ⟨rfl, hb⟩; have hbc := hb) | (go_at_call 11; refine (twinG_c R C _ _ n _ _ (K2.recs (And.left (by assumption))) hn2).mono ?_; rintro e w8 ⟨G2, rfl, hG2, hB2, hb⟩) | (go_at_call 13; refine (ref_v R C _ _ n _ _ (by first | exact edg_recs hB2 HN2.out | exact edg_recs (hB2.keep hbc) HN2.out) hn2 v2 HV2).mono ?_; rintro e w9 ⟨rfl, hb⟩))
  all_goals (obtain ⟨h8, _⟩ := ‹_ ∧ _›; go_wp2; go_ret; exact ⟨by first | rfl | exact ret_t rfl, K2.bel h8⟩)
section
attribute [local go_sem ↓] store_ed
set_option maxHeartbeats 8000000 in
theorem checks_at (R C : Int) (es : List Edg) (A : Option Addr) (n c : Nat) (x : Edg) (j : Int) (w : World) (h : Recs w 3 A n (es.map Edg.list)) (hn : n ≤ 140737488351232) (HBE : Hid (decide (1048576 < n) = false)) (hn2 : n ≤ 1048576) (i : Nat) (hi : i < n) (hj : j = (i : Int)) (v : Int) (HV : Hid (gErr R C es = v)) (v2 : Int) (HV2 : Hid (gErr R C (es.set i x) = v2)) :
    Calls Try.prog 3 #[.agg #[.int .i64 R, .int .i64 C, .slice A n c], .agg #[.int .i64 x.r, .int .i64 x.c, .int .i64 x.w], .int .i64 j] w fun e w' => e = .returned (.bool true) ∧ Below w.heap.size w w' := by
  have HX := Lib.hid h
  have HN : Hid (es.length = n) := Lib.hid (by have := h.1; simpa using this)
  have HN2 : Hid ((es.set i x).length = n) := Lib.hid (by have := HN.out; simpa using this)
  clear h
  have k := K1.start w R C A n c x
  have c2 := K1.c2 k
  have vv : (v != v) = false := by simp
  subst hj
  go_enter Try.func3, Try.ntmps3
  go_wp2_with (first | (go_at_call 10; (with_reducible refine (beyond1' n _ _ (by rw [size_alloc, size_alloc]) _ hn false HBE.out).mono ?_); rintro e w2 ⟨rfl, rfl⟩; replace k := K1.keep k (alloc_below _ (.cells #[.int .i64 (n : Int)] 3)); clear c2; have lg := K1.lg k) | (go_at_call 11; (with_reducible refine (twinG_c R C es A n c _ (HX.out.keep (K1.bel k)) hn2).mono ?_); rintro e w3 ⟨G, rfl, hG, hB, hb⟩; have k2 := K2.start k hb hG hB HN.out; have HT := Lib.hid (show w3.heap.size = w3.heap.size from rfl); clear lg k hb hG hB; have lt := K2.lt' k2) | (go_at_call 12; (with_reducible refine (chk_v R C es _ n _ _ (K2.recs k2) hn2 v HV).mono ?_); rintro e w4 ⟨rfl, hb⟩; replace k2 := K2.keep k2 hb; clear lt hb; have lg := K2.lg k2) | (go_at_call 13; (with_reducible refine (ref_v R C es A n c _ (HX.out.keep (K2.bel k2)) hn2 v HV).mono ?_); rintro e w5 ⟨rfl, hb⟩; replace k2 := K2.keep k2 hb; clear lg hb; have lg := K2.lg k2; have lt := K2.lt' k2) | (go_at_call 14; (with_reducible refine (leftG_c R C es G A n c _ (K2.tw k2) (HX.out.keep (K2.bel k2)) hn2).mono ?_); rintro e w6 ⟨rfl, hb⟩; replace k2 := K2.keep k2 hb; clear lg lt hb; have t2 := K2.t2 k2; have le := K1.le k2.1; (refine Exists.elim (K2.put k2 i hi) ?_); rintro w7 ⟨hst, k3⟩; replace k2 := k3; clear k3))
  generalize w3.heap.size = tb at *
  have K := Lib.hid k2
  clear k2 HT
  have EXT : Hid (∀ W, K2 w R C A n c x G tb (es.set i x) W → (fun W => K2 w R C A n c x G tb (es.set i x) W ∧ (LA 24 (.pointer (some ⟨tb, 0, none⟩))).run Try.prog W = .ok (.agg #[.int .i64 R, .int .i64 C, .slice (some ⟨G, 0, none⟩) n (n + 1)]) W) W) := Lib.hid (fun W h => ⟨h, K2.lt' h⟩)
  dsimp only at EXT
  go_region_held3 (fun W => K2 w R C A n c x G tb (es.set i x) W ∧ (LA 24 (.pointer (some ⟨tb, 0, none⟩))).run Try.prog W = .ok (.agg #[.int .i64 R, .int .i64 C, .slice (some ⟨G, 0, none⟩) n (n + 1)]) W) (first | exact EXT.out _ (K2.keep K.out (drew_below _)) | exact EXT.out _ (K2.keep (And.left (by assumption)) hb)) (first | (go_at_call 12; refine (chk_v R C _ _ n _ _ (K2.recs (And.left (by assumption))) hn2 v2 HV2).mono ?_; rintro e w7 ⟨rfl, hb⟩; have hbc := hb) | (go_at_call 11; refine (twinG_c R C _ _ n _ _ (K2.recs (And.left (by assumption))) hn2).mono ?_; rintro e w8 ⟨G2, rfl, hG2, hB2, hb⟩) | (go_at_call 13; refine (ref_v R C _ _ n _ _ (by first | exact edg_recs hB2 HN2.out | exact edg_recs (hB2.keep hbc) HN2.out) hn2 v2 HV2).mono ?_; rintro e w9 ⟨rfl, hb⟩))
  all_goals (obtain ⟨h8, _⟩ := ‹_ ∧ _›; go_wp2; go_ret; exact ⟨by first | rfl | exact ret_t rfl, K2.bel h8⟩)
end
theorem checks (R C : Int) (es : List Edg) (A : Option Addr) (n c : Nat) (x : Edg) (j : Int) (w : World) (h : Recs w 3 A n (es.map Edg.list)) (hc : n ≤ c) (hn : n ≤ 140737488351232) :
    Calls Try.prog 3 #[.agg #[.int .i64 R, .int .i64 C, .slice A n c], .agg #[.int .i64 x.r, .int .i64 x.c, .int .i64 x.w], .int .i64 j] w fun e w' => e = .returned (.bool true) ∧ Below w.heap.size w w' := by
  by_cases hb : 1048576 < n
  · exact checks_far R C es A n c x j w hn (Lib.hid (decide_eq_true hb))
  have HBE := Lib.hid (decide_eq_false hb)
  have hn2 : n ≤ 1048576 := by omega
  by_cases h1 : j < 0
  · exact checks_lo R C es A n c x j w h hn HBE hn2 h1 _ (Lib.hid rfl) _ (Lib.hid rfl)
  by_cases h2 : (n : Int) ≤ j
  · exact checks_hi R C es A n c x j w h hn HBE hn2 (by omega) h2 _ (Lib.hid rfl) _ (Lib.hid rfl)
  exact checks_at R C es A n c x j w h hn HBE hn2 j.toNat (by omega) (by omega) _ (Lib.hid rfl) _ (Lib.hid rfl)
/-- The same, for the row. -/
theorem checks_row (R C : Int) (es : List Edg) (A : Option Addr) (n c : Nat) (x : Edg) (j : Int) (w : World) (h : Recs w 3 A n (es.map Edg.list)) (hc : n ≤ c) (hn : n ≤ 140737488351232) (_ : x.wf) (_ : (Lit.int .i64 j).wf = true) :
    Calls Try.prog 3 #[.agg #[.int .i64 R, .int .i64 C, .slice A n c], .agg #[.int .i64 x.r, .int .i64 x.c, .int .i64 x.w], .int .i64 j] w fun e w' => e = .returned (.bool true) ∧ Below w.heap.size w w' := checks R C es A n c x j w h hc hn
end Go.Proofs.Ytbpdfcllojaanaa.Checks
