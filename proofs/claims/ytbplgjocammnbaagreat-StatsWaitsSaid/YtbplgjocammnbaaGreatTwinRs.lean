/- TwinRecords: copies of records, a mark behind them. -/
import Derived.Test.YtbplgjocammnbaaGreatTwinR
namespace Go.Proofs.YtbplgjocammnbaaGreat.TwinR
open Go.RowKit Go.Proofs.YtbplgjocammnbaaGreat.Aid Go.Proofs.YtbplgjocammnbaaGreat.Mem Go.Proofs.YtbplgjocammnbaaGreat.Types Go.Proofs.YtbplgjocammnbaaGreat.Keep Go.Proofs.YtbplgjocammnbaaGreat.Recs Go.Proofs.YtbplgjocammnbaaGreat.TwinS Go.Proofs.YtbplgjocammnbaaGreat.SameS Go.Proofs.YtbplgjocammnbaaGreat.Has Go.Proofs.YtbplgjocammnbaaGreat.Twin
open Go.Proofs.YtbplgjocammnbaaGreat.Waits (Row Rc RAt waitA)
set_option linter.unusedSimpArgs false
set_option linter.unusedVariables false
set_option maxRecDepth 100000
def markrec : List Value := [.int .i64 (-8777), .slice none 0 0, .slice none 0 0, .int .i64 0, .int .i64 0, .slice none 0 0, .slice none 0 0, .slice none 0 0, .slice none 0 0]
section
attribute [local go_sem ↓] load_re store_re
theorem markrec_c (n : Int) (w : World) (hn : n = 7777) : Calls Tryz.prog 15 #[.int .i64 n] w fun e w' => e = .returned (.agg (markrec).toArray) ∧ Below w.heap.size w w' := by
  subst hn
  have hb := Blk.new w 68 [.int .i64 0, .slice none 0 0, .slice none 0 0, .int .i64 0, .int .i64 0, .slice none 0 0, .slice none 0 0, .slice none 0 0, .slice none 0 0]
  have hst : (SA 68 (.pointer (some ⟨w.heap.size, 0, none⟩)) (.agg #[.int .i64 (-8777), .slice none 0 0, .slice none 0 0, .int .i64 0, .int .i64 0, .slice none 0 0, .slice none 0 0, .slice none 0 0, .slice none 0 0])).run Tryz.prog (w.alloc (.cells #[.int .i64 0, .slice none 0 0, .slice none 0 0, .int .i64 0, .int .i64 0, .slice none 0 0, .slice none 0 0, .slice none 0 0, .slice none 0 0] 68)) = .ok () ((w.alloc (.cells #[.int .i64 0, .slice none 0 0, .slice none 0 0, .int .i64 0, .int .i64 0, .slice none 0 0, .slice none 0 0, .slice none 0 0, .slice none 0 0] 68)).setCells w.heap.size 0 markrec) :=
    stores_mid (cs := markrec) hb (by show 0 + 9 ≤ 9; omega) (by kernel_rfl) (by decide)
  have hb2 := Blk.puts (t := 68) markrec 0 _ _ hb (by show 0 + 9 ≤ 9; omega)
  have hlv : (loadVar 68 ⟨w.heap.size, 0, none⟩).run Tryz.prog ((w.alloc (.cells #[.int .i64 0, .slice none 0 0, .slice none 0 0, .int .i64 0, .int .i64 0, .slice none 0 0, .slice none 0 0, .slice none 0 0, .slice none 0 0] 68)).setCells w.heap.size 0 markrec) = .ok (.agg (markrec).toArray) ((w.alloc (.cells #[.int .i64 0, .slice none 0 0, .slice none 0 0, .int .i64 0, .int .i64 0, .slice none 0 0, .slice none 0 0, .slice none 0 0, .slice none 0 0] 68)).setCells w.heap.size 0 markrec) :=
    run_loadVar_mid _ _ _ _ _ _ (fun j v hv => by rw [Nat.zero_add]; exact hb2.cellv (by rw [List.take_zero, List.nil_append, List.getElem?_append_left (List.getElem?_eq_some_iff.1 hv).1, hv])) Tryz.underlying68 rfl (by kernel_rfl)
  have hbl := Lib.hid (below_sets (Nat.le_refl w.heap.size) markrec 0 _ (alloc_below w (.cells #[.int .i64 0, .slice none 0 0, .slice none 0 0, .int .i64 0, .int .i64 0, .slice none 0 0, .slice none 0 0, .slice none 0 0, .slice none 0 0] 68)))
  have HST := Lib.hid hst
  have HLV := Lib.hid hlv
  clear hb hb2 hst hlv
  go_enter Tryz.func15, Tryz.ntmps15
  go_wp2_with (first | (rw [HST.out]; clear HST; generalize World.setCells _ _ _ _ = W at *))
  (try simp only [Exit.inBlock, Exit.then])
  refine bodyPost_ret (v := .agg (markrec).toArray) ((results_cell rfl _ _ _).trans ?_) rfl ?_
  · exact HLV.out
  · exact ⟨rfl, hbl⟩
end
theorem info_rec : (Tryz.prog.info? 68).map (fun i => (i.zero, i.size, i.bytes)) = some (some (.agg #[.int .i64 0, .slice none 0 0, .slice none 0 0, .int .i64 0, .int .i64 0, .slice none 0 0, .slice none 0 0, .slice none 0 0, .slice none 0 0]), 9, 168) := by kernel_rfl
theorem make_rec (m : Nat) (hm : m ≤ 2097152) (W : World) : (Instr.makeSlice 22 (.int .i64 (m : Int)) (.int .i64 (m : Int))).run Tryz.prog W = .ok (.slice (some ⟨W.heap.size, 0, none⟩) m m) (W.alloc (.cells (madeCells #[.int .i64 0, .slice none 0 0, .slice none 0 0, .int .i64 0, .int .i64 0, .slice none 0 0, .slice none 0 0, .slice none 0 0, .slice none 0 0] (m * 9)) 68)) := by
  obtain ⟨i, hi, hz⟩ := Option.map_eq_some_iff.1 info_rec
  simp only [Prod.mk.injEq] at hz
  obtain ⟨h1, h2, h3⟩ := hz
  have := run_make (P := Tryz.prog) W 22 68 i _ Tryz.underlying22 hi h1 .i64 .i64 (m : Int) (m : Int) (by omega) (by omega) (by rw [h3]; omega) (by omega)
  rw [h2] at this
  simpa [Value.cells] using this
section
attribute [local go_sem ↓] load_re store_re
set_option maxHeartbeats 2000000 in
/-- The copies, row by row. -/
def Cops (W : World) (B : Nat) (rs ts : List Row) (xs : List Rec) : Prop := ∀ (j : Nat) r x t, rs[j]? = some r → xs[j]? = some x → ts[j]? = some t → ∃ g, t = twin r g ∧ Cop W x g ∧ ∀ i, i < 6 → B ≤ g i
theorem Cops.keep {W W' : World} {B : Nat} {rs ts : List Row} {xs : List Rec} (h : Cops W B rs ts xs) (hb : Below W.heap.size W W') : Cops W' B rs ts xs := fun j r x t h1 h2 h3 => by
  obtain ⟨g, e, hc, hl⟩ := h j r x t h1 h2 h3
  exact ⟨g, e, hc.keep hb, hl⟩
theorem Cop.fars {W : World} {x : Rec} {g : Nat → Nat} {G : Nat} (h : Cop W x g) (hl : ∀ i, i < 6 → G + 1 ≤ g i) (vs : List Value) (o : Nat) : Cop (W.setCells G o vs) x g := by
  have q : ∀ i, i < 6 → g i ≠ G := fun i hi => by have := hl i hi; omega
  exact ⟨Blk.fars (q 0 (by omega)) _ _ _ h.h1, Blk.fars (q 1 (by omega)) _ _ _ h.h2, Blk.fars (q 2 (by omega)) _ _ _ h.h3, Blk.fars (q 3 (by omega)) _ _ _ h.h4, Blk.fars (q 4 (by omega)) _ _ _ h.h5, Blk.fars (q 5 (by omega)) _ _ _ h.h6⟩
theorem Cops.fars {W : World} {G : Nat} {rs ts : List Row} {xs : List Rec} (h : Cops W (G + 1) rs ts xs) (vs : List Value) (o : Nat) : Cops (W.setCells G o vs) (G + 1) rs ts xs := fun j r x t h1 h2 h3 => by
  obtain ⟨g, e, hc, hl⟩ := h j r x t h1 h2 h3
  exact ⟨g, e, hc.fars hl vs o, hl⟩
theorem Cops.snoc {W : World} {B : Nat} {rs ts : List Row} {xs : List Rec} {r : Row} {x : Rec} {g : Nat → Nat} (h : Cops W B rs ts xs) (hr : rs[ts.length]? = some r) (hx : xs[ts.length]? = some x) (hc : Cop W x g) (hl : ∀ i, i < 6 → B ≤ g i) : Cops W B rs (ts ++ [twin r g]) xs := fun j r' x' t h1 h2 h3 => by
  rcases Nat.lt_or_ge j ts.length with hj | hj
  · rw [List.getElem?_append_left hj] at h3
    exact h j r' x' t h1 h2 h3
  · rw [List.getElem?_append_right hj] at h3
    obtain rfl : j = ts.length := by
      have := (List.getElem?_eq_some_iff.1 h3).1
      simp at this; omega
    rw [hr] at h1; rw [hx] at h2
    injection h1 with h1; injection h2 with h2
    simp at h3
    subst h1; subst h2; subst h3
    exact ⟨g, rfl, hc, hl⟩
theorem row_len (ts : List Row) : ∀ l ∈ ts.map Row.list, l.length = 9 := by
  intro l hl
  obtain ⟨x, _, rfl⟩ := List.mem_map.1 hl
  rfl
theorem twin_ones (r : Row) : ∀ v ∈ r.list, v.oneCell' = true := by
  intro v hv
  simp only [List.mem_cons, List.not_mem_nil, or_false] at hv
  rcases hv with rfl | rfl | rfl | rfl | rfl | rfl | rfl | rfl | rfl <;> rfl
theorem len_flat (ts : List Row) : ((ts.map Row.list).flatten).length = ts.length * 9 := by
  have := flat_take (row_len ts) (k := ts.length) (by simp)
  rwa [List.take_of_length_le (by simp)] at this
set_option maxHeartbeats 2000000 in
theorem twins_c (rs : List Row) (xs : List Rec) (A : Option Addr) (n c : Nat) (w : World) (h : Recs w 9 A n (rs.map Row.list)) (hx : xs.length = n) (hf : ∀ (j : Nat) r x, rs[j]? = some r → xs[j]? = some x → Full w r x ∧ Small r) (hn : n ≤ 1048576) :
    Calls Tryz.prog 5 #[.slice A n c] w fun e w' => e = .returned (.slice (some ⟨w.heap.size, 0, none⟩) n (n + 1)) ∧ ∃ ts : List Row, ts.length = n ∧ Blk w' w.heap.size 68 ((ts.map Row.list).flatten ++ markrec) ∧ Cops w' (w.heap.size + 1) rs ts xs ∧ Below w.heap.size w w' := by
  have H := Lib.hid h
  have HX := Lib.hid hx
  have HF := Lib.hid hf
  clear h hx hf
  have hmk := make_rec (n + 1) (by omega)
  rw [show ((n + 1 : Nat) : Int) = (n : Int) + 1 by omega] at hmk
  go_enter Tryz.func5, Tryz.ntmps5
  go_wp2_with (fail)
  obtain ⟨Z, hZ⟩ : ∃ Z, Z = (madeCells #[.int .i64 0, .slice none 0 0, .slice none 0 0, .int .i64 0, .int .i64 0, .slice none 0 0, .slice none 0 0, .slice none 0 0, .slice none 0 0] ((n + 1) * 9)).toList := ⟨_, rfl⟩
  have hZl : Z.length = (n + 1) * 9 := by rw [hZ, made_size]
  have eZ : madeCells #[.int .i64 0, .slice none 0 0, .slice none 0 0, .int .i64 0, .int .i64 0, .slice none 0 0, .slice none 0 0, .slice none 0 0, .slice none 0 0] ((n + 1) * 9) = Z.toArray := by rw [hZ]
  rw [eZ]
  have HZl := Lib.hid hZl
  clear hZ hZl eZ hmk
  have HB0 := Lib.hid (Blk.new w 68 Z)
  have HL0 := Lib.hid ((Below.refl w.heap.size w).alloc (Nat.le_refl _) (.cells Z.toArray 68))
  generalize w.alloc (.cells Z.toArray 68) = w0 at *
  go_loopw [4] (fun i wr => ∃ k : Nat, k ≤ n ∧ i = .int .i64 k ∧ ∃ ts : List Row, Hid (ts.length = k) ∧ Hid (Blk wr w.heap.size 68 ((ts.map Row.list).flatten ++ Z.drop (k * 9))) ∧ Hid (Cops wr (w.heap.size + 1) rs ts xs) ∧ Hid (Below w.heap.size w wr)) (fun i _ => n - (intOf i).toNat)
  case atStart => exact ⟨0, Nat.zero_le _, rfl, [], Lib.hid rfl, by simpa using HB0, Lib.hid (fun j r x t _ _ h => by simp at h), HL0⟩
  case round =>
    obtain ⟨k, hk, rfl, ts, HT, HB, HC, HL⟩ := hrel
    clear HB0 HL0
    by_cases hlt : k < n
    · obtain ⟨ad, r, rfl, hr, hld⟩ := Waits.at_r H.out hlt
      obtain ⟨x, hx⟩ : ∃ x, xs[k]? = some x := ⟨_, List.getElem?_eq_getElem (by rw [HX.out]; exact hlt)⟩
      have ld := hld _ HL.out
      have HFR := Lib.hid (HF.out k r x hr hx)
      have HR := Lib.hid hr
      have HXX := Lib.hid hx
      have HA : Hid (((ts.map Row.list).flatten).length = k * 9) := Lib.hid (by rw [len_flat, HT.out])
      have HST := Lib.hid (fun (g : Nat → Nat) (w9 : World) (hb : Below wr.heap.size wr w9) => show (SA 68 (.pointer (some ⟨w.heap.size, k * 9, none⟩)) (.agg (twin r g).list.toArray)).run Tryz.prog w9 = .ok () (w9.setCells w.heap.size (k * 9) (twin r g).list) from
        stores_mid (HB.out.keep hb) (by rw [List.length_append, HA.out, List.length_drop, HZl.out]; show _ + 9 ≤ _; omega) (by show _ = some 9; kernel_rfl) (twin_ones _))
      clear hr hx hld
      go_wp2_with (first | (go_at_call 14; (with_reducible refine (twinr_e r x wr (HFR.out.1.keep HL.out) HFR.out.2).mono ?_); rintro e w9 ⟨g, rfl, hg, hC, hb⟩; have hst := HST.out g w9 hb; simp only [twin, Row.list, Row.arr] at hst ⊢; have HG := Lib.hid hg; have HC9 := Lib.hid hC; have HB9 := Lib.hid (puts_step (l := (twin r g).list) (c := 9) HA.out (HB.out.keep hb) rfl (by rw [List.length_drop, HZl.out]; omega)); have HCS := Lib.hid (HC.out.keep hb); have HL9 := Lib.hid (kbt HL.out hb); clear hg hC hb))
      go_roundw
      case rel =>
        refine ⟨k + 1, by omega, by go_num, ts ++ [twin r g], Lib.hid (by rw [List.length_append, HT.out]; rfl), Lib.hid ?_, Lib.hid ?_, Lib.hid (below_sets (Nat.le_refl _) _ _ _ HL9.out)⟩
        · have h := HB9.out
          rw [List.drop_drop] at h
          rw [List.map_append, List.flatten_append, Nat.add_mul, Nat.one_mul]
          change Blk (w9.setCells w.heap.size (k * 9) (twin r g).list) _ _ _
          simpa using h
        · have hz := (HL.out).size
          have h := Cops.fars (HCS.out) (twin r g).list (k * 9)
          refine Cops.snoc h (by rw [HT.out]; exact HR.out) (by rw [HT.out]; exact HXX.out) (HC9.out.fars (fun i hi => ?_) _ _) (fun i hi => ?_)
          · have := HG.out i hi; have := HB.out.lt; omega
          · have := HG.out i hi; have := HB.out.lt; omega
      case measure => simp [intOf]; omega
    · obtain rfl : k = n := by omega
      have HA : Hid (((ts.map Row.list).flatten).length = k * 9) := Lib.hid (by rw [len_flat, HT.out])
      have HS := fun (w9 : World) (hb : Below wr.heap.size wr w9) => puts_step (l := markrec) HA.out (HB.out.keep hb) (show (markrec).length = 9 from rfl) (show 9 ≤ (Z.drop (k * 9)).length by rw [List.length_drop, HZl.out]; omega)
      have hst := fun (w9 : World) (hb : Below wr.heap.size wr w9) => show (SA 68 (.pointer (some ⟨w.heap.size, k * 9, none⟩)) (.agg (markrec).toArray)).run Tryz.prog w9 = .ok () (w9.setCells w.heap.size (k * 9) markrec) from
        stores_mid (HB.out.keep hb) (by rw [List.length_append, HA.out, List.length_drop, HZl.out, show (markrec).length = 9 from rfl]; omega) (by kernel_rfl) (by decide)
      go_wp2_with (first | (go_at_call 15; (with_reducible refine (markrec_c _ _ rfl).mono ?_); rintro e w9 ⟨rfl, hb⟩; replace hst := hst w9 hb; replace HS := Lib.hid (HS w9 hb); have HL9 := Lib.hid (kbt HL.out hb); have HCS := Lib.hid (HC.out.keep hb)))
      go_ret
      refine ⟨rfl, ts, HT.out, ?_, HCS.out.fars _ _, below_sets (Nat.le_refl _) _ _ _ HL9.out⟩
      have h := HS.out
      rw [List.drop_drop, List.drop_eq_nil_of_le (by rw [HZl.out]; omega), List.append_nil] at h
      exact h
end
end Go.Proofs.YtbplgjocammnbaaGreat.TwinR
