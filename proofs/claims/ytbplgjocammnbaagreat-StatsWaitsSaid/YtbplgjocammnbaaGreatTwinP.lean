/- Contract of TwinPairs: a copy in memory of its own, a mark behind it. -/
import Derived.Test.YtbplgjocammnbaaGreatTwinS
namespace Go.Proofs.YtbplgjocammnbaaGreat.TwinS
open Go.RowKit Go.Proofs.YtbplgjocammnbaaGreat.Aid Go.Proofs.YtbplgjocammnbaaGreat.Mem Go.Proofs.YtbplgjocammnbaaGreat.Keep Go.Proofs.YtbplgjocammnbaaGreat.Recs
set_option linter.unusedSimpArgs false
set_option linter.unusedVariables false
set_option maxRecDepth 100000
def markpai : List Value := [.int .i64 (-8777), .int .i64 0]
theorem load_pai (v : Value) : Instr.loadAt 72 v = LA 72 v := rfl
theorem store_pai (p v : Value) : Instr.storeAt 72 p v = SA 72 p v := rfl
section
attribute [local go_sem ↓] load_pai store_pai
theorem markpai_c (n : Int) (w : World) (hn : n = 7777) : Calls Tryz.prog 117 #[.int .i64 n] w fun e w' => e = .returned (.agg (markpai).toArray) ∧ Below w.heap.size w w' := by
  subst hn
  have hb := Blk.new w 72 [.int .i64 0, .int .i64 0]
  have hst : (SA 72 (.pointer (some ⟨w.heap.size, 0, none⟩)) (.agg #[.int .i64 (-8777), .int .i64 0])).run Tryz.prog (w.alloc (.cells #[.int .i64 0, .int .i64 0] 72)) = .ok () ((w.alloc (.cells #[.int .i64 0, .int .i64 0] 72)).setCells w.heap.size 0 markpai) :=
    stores_mid (cs := markpai) hb (by show 0 + 2 ≤ 2; omega) (by kernel_rfl) (by decide)
  have hb2 := Blk.puts (t := 72) markpai 0 _ _ hb (by show 0 + 2 ≤ 2; omega)
  have hlv : (loadVar 72 ⟨w.heap.size, 0, none⟩).run Tryz.prog ((w.alloc (.cells #[.int .i64 0, .int .i64 0] 72)).setCells w.heap.size 0 markpai) = .ok (.agg (markpai).toArray) ((w.alloc (.cells #[.int .i64 0, .int .i64 0] 72)).setCells w.heap.size 0 markpai) :=
    run_loadVar_mid _ _ _ _ _ _ (fun j v hv => by rw [Nat.zero_add]; exact hb2.cellv (by rw [List.take_zero, List.nil_append, List.getElem?_append_left (List.getElem?_eq_some_iff.1 hv).1, hv])) Tryz.underlying72 rfl (by kernel_rfl)
  have hbl := Lib.hid (below_sets (Nat.le_refl w.heap.size) markpai 0 _ (alloc_below w (.cells #[.int .i64 0, .int .i64 0] 72)))
  have HST := Lib.hid hst
  have HLV := Lib.hid hlv
  clear hb hb2 hst hlv
  go_enter Tryz.func117, Tryz.ntmps117
  go_wp2_with (first | (rw [HST.out]; clear HST; generalize World.setCells _ _ _ _ = W at *))
  (try simp only [Exit.inBlock, Exit.then])
  refine bodyPost_ret (v := .agg (markpai).toArray) ((results_cell rfl _ _ _).trans ?_) rfl ?_
  · exact HLV.out
  · exact ⟨rfl, hbl⟩
end
theorem info_pai : (Tryz.prog.info? 72).map (fun i => (i.zero, i.size, i.bytes)) = some (some (.agg #[.int .i64 0, .int .i64 0]), 2, 16) := by kernel_rfl
theorem make_pai (m : Nat) (hm : m ≤ 2097152) (W : World) : (Instr.makeSlice 64 (.int .i64 (m : Int)) (.int .i64 (m : Int))).run Tryz.prog W = .ok (.slice (some ⟨W.heap.size, 0, none⟩) m m) (W.alloc (.cells (madeCells #[.int .i64 0, .int .i64 0] (m * 2)) 72)) := by
  obtain ⟨i, hi, hz⟩ := Option.map_eq_some_iff.1 info_pai
  simp only [Prod.mk.injEq] at hz
  obtain ⟨h1, h2, h3⟩ := hz
  have := run_make (P := Tryz.prog) W 64 72 i _ Tryz.underlying64 hi h1 .i64 .i64 (m : Int) (m : Int) (by omega) (by omega) (by rw [h3]; omega) (by omega)
  rw [h2] at this
  simpa [Value.cells] using this
section
attribute [local go_sem ↓] load_pai store_pai
set_option maxHeartbeats 2000000 in
theorem twin_pai (xs : List (List Value)) (A : Option Addr) (n c : Nat) (w : World) (G : Nat) (hG : w.heap.size = G) (h : Recs w 2 A n xs) (h1 : ∀ l ∈ xs, ∀ v ∈ l, v.oneCell' = true) (hn : n ≤ 1048576) :
    Calls Tryz.prog 165 #[.slice A n c] w fun e w' => e = .returned (.slice (some ⟨G, 0, none⟩) n (n + 1)) ∧ Blk w' G 72 (xs.flatten ++ markpai) ∧ Below w.heap.size w w' := by
  subst hG
  have H := Lib.hid h
  have H1 := Lib.hid h1
  have HC : Hid (∀ l ∈ xs, l.length = 2) := Lib.hid (fun l hl => by
    obtain ⟨j, hj⟩ := List.getElem?_of_mem hl
    have hjn : j < n := by have := (List.getElem?_eq_some_iff.1 hj).1; have := h.1; omega
    obtain ⟨ad, l', _, hl', hc, _⟩ := h.at_ hjn
    rw [hj] at hl'; injection hl' with hl'; rw [hl', hc])
  clear h h1
  have hmk := make_pai (n + 1) (by omega)
  rw [show ((n + 1 : Nat) : Int) = (n : Int) + 1 by omega] at hmk
  go_enter Tryz.func165, Tryz.ntmps165
  go_wp2_with (fail)
  obtain ⟨Z, hZ⟩ : ∃ Z, Z = (madeCells #[.int .i64 0, .int .i64 0] ((n + 1) * 2)).toList := ⟨_, rfl⟩
  have hZl : Z.length = (n + 1) * 2 := by rw [hZ, made_size]
  have eZ : madeCells #[.int .i64 0, .int .i64 0] ((n + 1) * 2) = Z.toArray := by rw [hZ]
  rw [eZ]
  have HZl := Lib.hid hZl
  clear hZ hZl eZ hmk
  have HB0 := Lib.hid (Blk.new w 72 Z)
  have HL0 := Lib.hid ((Below.refl w.heap.size w).alloc (Nat.le_refl _) (.cells Z.toArray 72))
  generalize w.alloc (.cells Z.toArray 72) = w0 at *
  go_loopw [4] (fun i wr => ∃ k : Nat, k ≤ n ∧ i = .int .i64 k ∧ Hid (Blk wr w.heap.size 72 ((xs.take k).flatten ++ Z.drop (k * 2))) ∧ Hid (Below w.heap.size w wr)) (fun i _ => n - (intOf i).toNat)
  case atStart => exact ⟨0, Nat.zero_le _, rfl, by simpa using HB0, HL0⟩
  case round =>
    obtain ⟨k, hk, rfl, HB, HL⟩ := hrel
    clear HB0 HL0
    by_cases hlt : k < n
    · obtain ⟨ad, l, rfl, hx, hlc, hc0⟩ := H.out.at_ hlt
      have HA := Lib.hid (flat_take HC.out (k := k) (by have := H.out.1; omega))
      have hld : (LA 72 (.pointer (some (ad.add (k * 2))))).run Tryz.prog wr = .ok (.agg l.toArray) wr :=
        loads_at (s := []) Tryz.underlying72 rfl (by rw [hlc]; kernel_rfl) (fun i v hv => by rw [add_add]; rw [List.append_nil] at hv; exact (HL.out.cell (World.block_lt_of_cell? w _ (hc0 i v hv))).trans (hc0 i v hv))
      have hst : (SA 72 (.pointer (some ⟨w.heap.size, k * 2, none⟩)) (.agg l.toArray)).run Tryz.prog wr = .ok () (wr.setCells w.heap.size (k * 2) l) :=
        stores_mid HB.out (by rw [List.length_append, HA.out, List.length_drop, HZl.out, hlc]; omega) (by rw [hlc]; kernel_rfl) (H1.out l (List.mem_of_getElem? hx))
      have HS := Lib.hid (puts_step HA.out HB.out hlc (by rw [List.length_drop, HZl.out]; omega))
      have HX := Lib.hid hx
      clear hx hlc hc0
      go_wp2
      go_roundw
      case rel =>
        refine ⟨k + 1, by omega, by go_num, Lib.hid ?_, below_sets (Nat.le_refl _) _ _ _ HL.out⟩
        have h := HS.out
        rw [List.drop_drop] at h
        rw [take_snoc xs k l HX.out, List.flatten_append, Nat.add_mul, Nat.one_mul]
        simpa using h
      case measure => simp [intOf]; omega
    · obtain rfl : k = n := by omega
      have ht : xs.take k = xs := List.take_of_length_le (by have := H.out.1; omega)
      have HA := Lib.hid (flat_take HC.out (k := k) (by have := H.out.1; omega))
      rw [ht] at HA HB
      have HS := fun (w9 : World) (hb : Below wr.heap.size wr w9) => puts_step (l := markpai) HA.out (HB.out.keep hb) (show (markpai).length = 2 from rfl) (show 2 ≤ (Z.drop (k * 2)).length by rw [List.length_drop, HZl.out]; omega)
      have hst := fun (w9 : World) (hb : Below wr.heap.size wr w9) => show (SA 72 (.pointer (some ⟨w.heap.size, k * 2, none⟩)) (.agg (markpai).toArray)).run Tryz.prog w9 = .ok () (w9.setCells w.heap.size (k * 2) markpai) from
        stores_mid (HB.out.keep hb) (by rw [List.length_append, HA.out, List.length_drop, HZl.out, show (markpai).length = 2 from rfl]; omega) (by kernel_rfl) (by decide)
      go_wp2_with (first | (go_at_call 117; (with_reducible refine (markpai_c _ _ rfl).mono ?_); rintro e w9 ⟨rfl, hb⟩; replace hst := hst w9 hb; replace HS := Lib.hid (HS w9 hb); have HL9 := Lib.hid (kbt HL.out hb)))
      go_ret
      refine ⟨rfl, ?_, below_sets (Nat.le_refl _) _ _ _ HL9.out⟩
      have h := HS.out
      rw [List.drop_drop, List.drop_eq_nil_of_le (by rw [HZl.out]; omega), List.append_nil] at h
      exact h
end
end Go.Proofs.YtbplgjocammnbaaGreat.TwinS
