/- Contracts of TwinWaitings and TwinIdles: a copy in memory of its own, a mark behind it. -/
import Derived.Test.YtbplgjocammnbaaGreatRecs
import Derived.Test.YtbplgjocammnbaaGreatTypes
import Derived.Test.YtbplgjocammnbaaGreatRows
import Derived.WalkSpells
import Derived.Lib.Hide
import Derived.LoopTactic
import Derived.Laws.MakeOwn
import Derived.Deep.OwnRows
import Derived.Handy
namespace Go.Proofs.YtbplgjocammnbaaGreat.TwinS
open Go.RowKit Go.Proofs.YtbplgjocammnbaaGreat.Aid Go.Proofs.YtbplgjocammnbaaGreat.Mem Go.Proofs.YtbplgjocammnbaaGreat.Keep Go.Proofs.YtbplgjocammnbaaGreat.Recs
set_option linter.unusedSimpArgs false
set_option linter.unusedVariables false
set_option maxRecDepth 100000
theorem flat_take {xs : List (List Value)} {k c : Nat} (h : ∀ l ∈ xs, l.length = c) (hk : k ≤ xs.length) : (xs.take k).flatten.length = k * c := by
  induction k with
  | zero => simp
  | succ k ih =>
    obtain ⟨l, hl⟩ : ∃ l, xs[k]? = some l := ⟨xs[k], List.getElem?_eq_getElem (by omega)⟩
    rw [take_snoc xs k l hl, List.flatten_append, List.length_append, ih (by omega)]
    have := h l (List.mem_of_getElem? hl)
    simp only [List.flatten_cons, List.flatten_nil, List.append_nil, this, Nat.add_mul]; omega
theorem made_size (cs : Array Value) (n : Nat) : (madeCells cs n).toList.length = n := by simp [madeCells]
theorem puts_step {w : World} {g : Nat} {t : TypeId} {A Z l : List Value} {o c : Nat} (hA : A.length = o) (h : Blk w g t (A ++ Z)) (hl : l.length = c) (hz : c ≤ Z.length) : Blk (w.setCells g o l) g t ((A ++ l) ++ Z.drop c) := by
  have := Blk.puts l o w (A ++ Z) h (by rw [List.length_append, hA]; omega)
  rw [List.take_left' hA, hl, List.drop_append, List.drop_eq_nil_of_le (by omega), List.nil_append, show o + c - A.length = c by omega] at this
  exact this
theorem results_cell {fn : Func} {p : Tmp} {ty : TypeId} (h : fn.results = #[.cell p ty]) (tmps : Array Value) (P : Program) (w : World) :
    (results fn tmps).run P w = ((asAddr (tmps.getD p undef)).run P w).andThen fun a w1 => (loadVar ty a).run P w1 := by
  simp only [results, h]
  simp [Sem.run_bind, Result.andThen]
def markwai : List Value := [.int .u8 0, .int .u8 0, .int .u8 0, .int .u8 0, .int .u8 0, .int .u8 0, .int .u8 0, .int .u8 0, .int .i16 0, .int .i16 0, .int .i16 0, .int .i16 0, .int .u8 0, .int .u8 0, .int .i64 0, .int .i64 0, .int .i64 0, .int .i64 (-8777)]
theorem load_wai (v : Value) : Instr.loadAt 81 v = LA 81 v := rfl
theorem store_wai (p v : Value) : Instr.storeAt 81 p v = SA 81 p v := rfl
section
attribute [local go_sem ↓] load_wai store_wai
theorem markwai_c (n : Int) (w : World) (hn : n = 7777) : Calls Tryz.prog 115 #[.int .i64 n] w fun e w' => e = .returned (.agg (markwai).toArray) ∧ Below w.heap.size w w' := by
  subst hn
  have hb := Blk.new w 81 [.int .u8 0, .int .u8 0, .int .u8 0, .int .u8 0, .int .u8 0, .int .u8 0, .int .u8 0, .int .u8 0, .int .i16 0, .int .i16 0, .int .i16 0, .int .i16 0, .int .u8 0, .int .u8 0, .int .i64 0, .int .i64 0, .int .i64 0, .int .i64 0]
  have hst : (SA 81 (.pointer (some ⟨w.heap.size, 0, none⟩)) (.agg #[.int .u8 0, .int .u8 0, .int .u8 0, .int .u8 0, .int .u8 0, .int .u8 0, .int .u8 0, .int .u8 0, .int .i16 0, .int .i16 0, .int .i16 0, .int .i16 0, .int .u8 0, .int .u8 0, .int .i64 0, .int .i64 0, .int .i64 0, .int .i64 (-8777)])).run Tryz.prog (w.alloc (.cells #[.int .u8 0, .int .u8 0, .int .u8 0, .int .u8 0, .int .u8 0, .int .u8 0, .int .u8 0, .int .u8 0, .int .i16 0, .int .i16 0, .int .i16 0, .int .i16 0, .int .u8 0, .int .u8 0, .int .i64 0, .int .i64 0, .int .i64 0, .int .i64 0] 81)) = .ok () ((w.alloc (.cells #[.int .u8 0, .int .u8 0, .int .u8 0, .int .u8 0, .int .u8 0, .int .u8 0, .int .u8 0, .int .u8 0, .int .i16 0, .int .i16 0, .int .i16 0, .int .i16 0, .int .u8 0, .int .u8 0, .int .i64 0, .int .i64 0, .int .i64 0, .int .i64 0] 81)).setCells w.heap.size 0 markwai) :=
    stores_mid (cs := markwai) hb (by show 0 + 18 ≤ 18; omega) (by kernel_rfl) (by decide)
  have hb2 := Blk.puts (t := 81) markwai 0 _ _ hb (by show 0 + 18 ≤ 18; omega)
  have hlv : (loadVar 81 ⟨w.heap.size, 0, none⟩).run Tryz.prog ((w.alloc (.cells #[.int .u8 0, .int .u8 0, .int .u8 0, .int .u8 0, .int .u8 0, .int .u8 0, .int .u8 0, .int .u8 0, .int .i16 0, .int .i16 0, .int .i16 0, .int .i16 0, .int .u8 0, .int .u8 0, .int .i64 0, .int .i64 0, .int .i64 0, .int .i64 0] 81)).setCells w.heap.size 0 markwai) = .ok (.agg (markwai).toArray) ((w.alloc (.cells #[.int .u8 0, .int .u8 0, .int .u8 0, .int .u8 0, .int .u8 0, .int .u8 0, .int .u8 0, .int .u8 0, .int .i16 0, .int .i16 0, .int .i16 0, .int .i16 0, .int .u8 0, .int .u8 0, .int .i64 0, .int .i64 0, .int .i64 0, .int .i64 0] 81)).setCells w.heap.size 0 markwai) :=
    run_loadVar_mid _ _ _ _ _ _ (fun j v hv => by rw [Nat.zero_add]; exact hb2.cellv (by rw [List.take_zero, List.nil_append, List.getElem?_append_left (List.getElem?_eq_some_iff.1 hv).1, hv])) Tryz.underlying81 rfl (by kernel_rfl)
  have hbl := Lib.hid (below_sets (Nat.le_refl w.heap.size) markwai 0 _ (alloc_below w (.cells #[.int .u8 0, .int .u8 0, .int .u8 0, .int .u8 0, .int .u8 0, .int .u8 0, .int .u8 0, .int .u8 0, .int .i16 0, .int .i16 0, .int .i16 0, .int .i16 0, .int .u8 0, .int .u8 0, .int .i64 0, .int .i64 0, .int .i64 0, .int .i64 0] 81)))
  have HST := Lib.hid hst
  have HLV := Lib.hid hlv
  clear hb hb2 hst hlv
  go_enter Tryz.func115, Tryz.ntmps115
  go_wp2_with (first | (rw [HST.out]; clear HST; generalize World.setCells _ _ _ _ = W at *))
  (try simp only [Exit.inBlock, Exit.then])
  refine bodyPost_ret (v := .agg (markwai).toArray) ((results_cell rfl _ _ _).trans ?_) rfl ?_
  · exact HLV.out
  · exact ⟨rfl, hbl⟩
end
theorem info_wai : (Tryz.prog.info? 81).map (fun i => (i.zero, i.size, i.bytes)) = some (some (.agg #[.int .u8 0, .int .u8 0, .int .u8 0, .int .u8 0, .int .u8 0, .int .u8 0, .int .u8 0, .int .u8 0, .int .i16 0, .int .i16 0, .int .i16 0, .int .i16 0, .int .u8 0, .int .u8 0, .int .i64 0, .int .i64 0, .int .i64 0, .int .i64 0]), 18, 56) := by kernel_rfl
theorem make_wai (m : Nat) (hm : m ≤ 2097152) (W : World) : (Instr.makeSlice 59 (.int .i64 (m : Int)) (.int .i64 (m : Int))).run Tryz.prog W = .ok (.slice (some ⟨W.heap.size, 0, none⟩) m m) (W.alloc (.cells (madeCells #[.int .u8 0, .int .u8 0, .int .u8 0, .int .u8 0, .int .u8 0, .int .u8 0, .int .u8 0, .int .u8 0, .int .i16 0, .int .i16 0, .int .i16 0, .int .i16 0, .int .u8 0, .int .u8 0, .int .i64 0, .int .i64 0, .int .i64 0, .int .i64 0] (m * 18)) 81)) := by
  obtain ⟨i, hi, hz⟩ := Option.map_eq_some_iff.1 info_wai
  simp only [Prod.mk.injEq] at hz
  obtain ⟨h1, h2, h3⟩ := hz
  have := run_make (P := Tryz.prog) W 59 81 i _ Tryz.underlying59 hi h1 .i64 .i64 (m : Int) (m : Int) (by omega) (by omega) (by rw [h3]; omega) (by omega)
  rw [h2] at this
  simpa [Value.cells] using this
section
attribute [local go_sem ↓] load_wai store_wai
set_option maxHeartbeats 2000000 in
theorem twin_wai (xs : List (List Value)) (A : Option Addr) (n c : Nat) (w : World) (G : Nat) (hG : w.heap.size = G) (h : Recs w 18 A n xs) (h1 : ∀ l ∈ xs, ∀ v ∈ l, v.oneCell' = true) (hn : n ≤ 1048576) :
    Calls Tryz.prog 97 #[.slice A n c] w fun e w' => e = .returned (.slice (some ⟨G, 0, none⟩) n (n + 1)) ∧ Blk w' G 81 (xs.flatten ++ markwai) ∧ Below w.heap.size w w' := by
  subst hG
  have H := Lib.hid h
  have H1 := Lib.hid h1
  have HC : Hid (∀ l ∈ xs, l.length = 18) := Lib.hid (fun l hl => by
    obtain ⟨j, hj⟩ := List.getElem?_of_mem hl
    have hjn : j < n := by have := (List.getElem?_eq_some_iff.1 hj).1; have := h.1; omega
    obtain ⟨ad, l', _, hl', hc, _⟩ := h.at_ hjn
    rw [hj] at hl'; injection hl' with hl'; rw [hl', hc])
  clear h h1
  have hmk := make_wai (n + 1) (by omega)
  rw [show ((n + 1 : Nat) : Int) = (n : Int) + 1 by omega] at hmk
  go_enter Tryz.func97, Tryz.ntmps97
  go_wp2_with (fail)
  obtain ⟨Z, hZ⟩ : ∃ Z, Z = (madeCells #[.int .u8 0, .int .u8 0, .int .u8 0, .int .u8 0, .int .u8 0, .int .u8 0, .int .u8 0, .int .u8 0, .int .i16 0, .int .i16 0, .int .i16 0, .int .i16 0, .int .u8 0, .int .u8 0, .int .i64 0, .int .i64 0, .int .i64 0, .int .i64 0] ((n + 1) * 18)).toList := ⟨_, rfl⟩
  have hZl : Z.length = (n + 1) * 18 := by rw [hZ, made_size]
  have eZ : madeCells #[.int .u8 0, .int .u8 0, .int .u8 0, .int .u8 0, .int .u8 0, .int .u8 0, .int .u8 0, .int .u8 0, .int .i16 0, .int .i16 0, .int .i16 0, .int .i16 0, .int .u8 0, .int .u8 0, .int .i64 0, .int .i64 0, .int .i64 0, .int .i64 0] ((n + 1) * 18) = Z.toArray := by rw [hZ]
  rw [eZ]
  have HZl := Lib.hid hZl
  clear hZ hZl eZ hmk
  have HB0 := Lib.hid (Blk.new w 81 Z)
  have HL0 := Lib.hid ((Below.refl w.heap.size w).alloc (Nat.le_refl _) (.cells Z.toArray 81))
  generalize w.alloc (.cells Z.toArray 81) = w0 at *
  go_loopw [4] (fun i wr => ∃ k : Nat, k ≤ n ∧ i = .int .i64 k ∧ Hid (Blk wr w.heap.size 81 ((xs.take k).flatten ++ Z.drop (k * 18))) ∧ Hid (Below w.heap.size w wr)) (fun i _ => n - (intOf i).toNat)
  case atStart => exact ⟨0, Nat.zero_le _, rfl, by simpa using HB0, HL0⟩
  case round =>
    obtain ⟨k, hk, rfl, HB, HL⟩ := hrel
    clear HB0 HL0
    by_cases hlt : k < n
    · obtain ⟨ad, l, rfl, hx, hlc, hc0⟩ := H.out.at_ hlt
      have HA := Lib.hid (flat_take HC.out (k := k) (by have := H.out.1; omega))
      have hld : (LA 81 (.pointer (some (ad.add (k * 18))))).run Tryz.prog wr = .ok (.agg l.toArray) wr :=
        loads_at (s := []) Tryz.underlying81 rfl (by rw [hlc]; kernel_rfl) (fun i v hv => by rw [add_add]; rw [List.append_nil] at hv; exact (HL.out.cell (World.block_lt_of_cell? w _ (hc0 i v hv))).trans (hc0 i v hv))
      have hst : (SA 81 (.pointer (some ⟨w.heap.size, k * 18, none⟩)) (.agg l.toArray)).run Tryz.prog wr = .ok () (wr.setCells w.heap.size (k * 18) l) :=
        stores_mid HB.out (by rw [List.length_append, HA.out, List.length_drop, HZl.out, hlc]; omega) (by rw [hlc]; kernel_rfl) (H1.out l (List.mem_of_getElem? hx))
      have HS := Lib.hid (puts_step HA.out HB.out hlc (by rw [List.length_drop, HZl.out]; omega))
      have HX := Lib.hid hx
      clear hx hlc hc0
      go_wp2
      go_roundw
      case rel =>
        refine ⟨k + 1, by omega, by go_num, Lib.hid ?_, below_sets (Nat.le_refl _) _ _ _ HL.out⟩
        have h := HS.out
        rw [List.drop_drop] at h
        rw [take_snoc xs k l HX.out, List.flatten_append, Nat.add_mul, Nat.one_mul]
        simpa using h
      case measure => simp [intOf]; omega
    · obtain rfl : k = n := by omega
      have ht : xs.take k = xs := List.take_of_length_le (by have := H.out.1; omega)
      have HA := Lib.hid (flat_take HC.out (k := k) (by have := H.out.1; omega))
      rw [ht] at HA HB
      have HS := fun (w9 : World) (hb : Below wr.heap.size wr w9) => puts_step (l := markwai) HA.out (HB.out.keep hb) (show (markwai).length = 18 from rfl) (show 18 ≤ (Z.drop (k * 18)).length by rw [List.length_drop, HZl.out]; omega)
      have hst := fun (w9 : World) (hb : Below wr.heap.size wr w9) => show (SA 81 (.pointer (some ⟨w.heap.size, k * 18, none⟩)) (.agg (markwai).toArray)).run Tryz.prog w9 = .ok () (w9.setCells w.heap.size (k * 18) markwai) from
        stores_mid (HB.out.keep hb) (by rw [List.length_append, HA.out, List.length_drop, HZl.out, show (markwai).length = 18 from rfl]; omega) (by kernel_rfl) (by decide)
      go_wp2_with (first | (go_at_call 115; (with_reducible refine (markwai_c _ _ rfl).mono ?_); rintro e w9 ⟨rfl, hb⟩; replace hst := hst w9 hb; replace HS := Lib.hid (HS w9 hb); have HL9 := Lib.hid (kbt HL.out hb)))
      go_ret
      refine ⟨rfl, ?_, below_sets (Nat.le_refl _) _ _ _ HL9.out⟩
      have h := HS.out
      rw [List.drop_drop, List.drop_eq_nil_of_le (by rw [HZl.out]; omega), List.append_nil] at h
      exact h
end
def markidl : List Value := [.int .u8 0, .int .u8 0, .int .u8 0, .int .u8 0, .int .u8 0, .int .u8 0, .int .u8 0, .int .u8 0, .int .i16 0, .int .i16 0, .int .u8 0, .int .u8 0, .int .i64 0, .int .i64 (-8777)]
theorem load_idl (v : Value) : Instr.loadAt 160 v = LA 160 v := rfl
theorem store_idl (p v : Value) : Instr.storeAt 160 p v = SA 160 p v := rfl
section
attribute [local go_sem ↓] load_idl store_idl
theorem markidl_c (n : Int) (w : World) (hn : n = 7777) : Calls Tryz.prog 116 #[.int .i64 n] w fun e w' => e = .returned (.agg (markidl).toArray) ∧ Below w.heap.size w w' := by
  subst hn
  have hb := Blk.new w 160 [.int .u8 0, .int .u8 0, .int .u8 0, .int .u8 0, .int .u8 0, .int .u8 0, .int .u8 0, .int .u8 0, .int .i16 0, .int .i16 0, .int .u8 0, .int .u8 0, .int .i64 0, .int .i64 0]
  have hst : (SA 160 (.pointer (some ⟨w.heap.size, 0, none⟩)) (.agg #[.int .u8 0, .int .u8 0, .int .u8 0, .int .u8 0, .int .u8 0, .int .u8 0, .int .u8 0, .int .u8 0, .int .i16 0, .int .i16 0, .int .u8 0, .int .u8 0, .int .i64 0, .int .i64 (-8777)])).run Tryz.prog (w.alloc (.cells #[.int .u8 0, .int .u8 0, .int .u8 0, .int .u8 0, .int .u8 0, .int .u8 0, .int .u8 0, .int .u8 0, .int .i16 0, .int .i16 0, .int .u8 0, .int .u8 0, .int .i64 0, .int .i64 0] 160)) = .ok () ((w.alloc (.cells #[.int .u8 0, .int .u8 0, .int .u8 0, .int .u8 0, .int .u8 0, .int .u8 0, .int .u8 0, .int .u8 0, .int .i16 0, .int .i16 0, .int .u8 0, .int .u8 0, .int .i64 0, .int .i64 0] 160)).setCells w.heap.size 0 markidl) :=
    stores_mid (cs := markidl) hb (by show 0 + 14 ≤ 14; omega) (by kernel_rfl) (by decide)
  have hb2 := Blk.puts (t := 160) markidl 0 _ _ hb (by show 0 + 14 ≤ 14; omega)
  have hlv : (loadVar 160 ⟨w.heap.size, 0, none⟩).run Tryz.prog ((w.alloc (.cells #[.int .u8 0, .int .u8 0, .int .u8 0, .int .u8 0, .int .u8 0, .int .u8 0, .int .u8 0, .int .u8 0, .int .i16 0, .int .i16 0, .int .u8 0, .int .u8 0, .int .i64 0, .int .i64 0] 160)).setCells w.heap.size 0 markidl) = .ok (.agg (markidl).toArray) ((w.alloc (.cells #[.int .u8 0, .int .u8 0, .int .u8 0, .int .u8 0, .int .u8 0, .int .u8 0, .int .u8 0, .int .u8 0, .int .i16 0, .int .i16 0, .int .u8 0, .int .u8 0, .int .i64 0, .int .i64 0] 160)).setCells w.heap.size 0 markidl) :=
    run_loadVar_mid _ _ _ _ _ _ (fun j v hv => by rw [Nat.zero_add]; exact hb2.cellv (by rw [List.take_zero, List.nil_append, List.getElem?_append_left (List.getElem?_eq_some_iff.1 hv).1, hv])) Tryz.underlying160 rfl (by kernel_rfl)
  have hbl := Lib.hid (below_sets (Nat.le_refl w.heap.size) markidl 0 _ (alloc_below w (.cells #[.int .u8 0, .int .u8 0, .int .u8 0, .int .u8 0, .int .u8 0, .int .u8 0, .int .u8 0, .int .u8 0, .int .i16 0, .int .i16 0, .int .u8 0, .int .u8 0, .int .i64 0, .int .i64 0] 160)))
  have HST := Lib.hid hst
  have HLV := Lib.hid hlv
  clear hb hb2 hst hlv
  go_enter Tryz.func116, Tryz.ntmps116
  go_wp2_with (first | (rw [HST.out]; clear HST; generalize World.setCells _ _ _ _ = W at *))
  (try simp only [Exit.inBlock, Exit.then])
  refine bodyPost_ret (v := .agg (markidl).toArray) ((results_cell rfl _ _ _).trans ?_) rfl ?_
  · exact HLV.out
  · exact ⟨rfl, hbl⟩
end
theorem info_idl : (Tryz.prog.info? 160).map (fun i => (i.zero, i.size, i.bytes)) = some (some (.agg #[.int .u8 0, .int .u8 0, .int .u8 0, .int .u8 0, .int .u8 0, .int .u8 0, .int .u8 0, .int .u8 0, .int .i16 0, .int .i16 0, .int .u8 0, .int .u8 0, .int .i64 0, .int .i64 0]), 14, 32) := by kernel_rfl
theorem make_idl (m : Nat) (hm : m ≤ 2097152) (W : World) : (Instr.makeSlice 60 (.int .i64 (m : Int)) (.int .i64 (m : Int))).run Tryz.prog W = .ok (.slice (some ⟨W.heap.size, 0, none⟩) m m) (W.alloc (.cells (madeCells #[.int .u8 0, .int .u8 0, .int .u8 0, .int .u8 0, .int .u8 0, .int .u8 0, .int .u8 0, .int .u8 0, .int .i16 0, .int .i16 0, .int .u8 0, .int .u8 0, .int .i64 0, .int .i64 0] (m * 14)) 160)) := by
  obtain ⟨i, hi, hz⟩ := Option.map_eq_some_iff.1 info_idl
  simp only [Prod.mk.injEq] at hz
  obtain ⟨h1, h2, h3⟩ := hz
  have := run_make (P := Tryz.prog) W 60 160 i _ Tryz.underlying60 hi h1 .i64 .i64 (m : Int) (m : Int) (by omega) (by omega) (by rw [h3]; omega) (by omega)
  rw [h2] at this
  simpa [Value.cells] using this
section
attribute [local go_sem ↓] load_idl store_idl
set_option maxHeartbeats 2000000 in
theorem twin_idl (xs : List (List Value)) (A : Option Addr) (n c : Nat) (w : World) (G : Nat) (hG : w.heap.size = G) (h : Recs w 14 A n xs) (h1 : ∀ l ∈ xs, ∀ v ∈ l, v.oneCell' = true) (hn : n ≤ 1048576) :
    Calls Tryz.prog 98 #[.slice A n c] w fun e w' => e = .returned (.slice (some ⟨G, 0, none⟩) n (n + 1)) ∧ Blk w' G 160 (xs.flatten ++ markidl) ∧ Below w.heap.size w w' := by
  subst hG
  have H := Lib.hid h
  have H1 := Lib.hid h1
  have HC : Hid (∀ l ∈ xs, l.length = 14) := Lib.hid (fun l hl => by
    obtain ⟨j, hj⟩ := List.getElem?_of_mem hl
    have hjn : j < n := by have := (List.getElem?_eq_some_iff.1 hj).1; have := h.1; omega
    obtain ⟨ad, l', _, hl', hc, _⟩ := h.at_ hjn
    rw [hj] at hl'; injection hl' with hl'; rw [hl', hc])
  clear h h1
  have hmk := make_idl (n + 1) (by omega)
  rw [show ((n + 1 : Nat) : Int) = (n : Int) + 1 by omega] at hmk
  go_enter Tryz.func98, Tryz.ntmps98
  go_wp2_with (fail)
  obtain ⟨Z, hZ⟩ : ∃ Z, Z = (madeCells #[.int .u8 0, .int .u8 0, .int .u8 0, .int .u8 0, .int .u8 0, .int .u8 0, .int .u8 0, .int .u8 0, .int .i16 0, .int .i16 0, .int .u8 0, .int .u8 0, .int .i64 0, .int .i64 0] ((n + 1) * 14)).toList := ⟨_, rfl⟩
  have hZl : Z.length = (n + 1) * 14 := by rw [hZ, made_size]
  have eZ : madeCells #[.int .u8 0, .int .u8 0, .int .u8 0, .int .u8 0, .int .u8 0, .int .u8 0, .int .u8 0, .int .u8 0, .int .i16 0, .int .i16 0, .int .u8 0, .int .u8 0, .int .i64 0, .int .i64 0] ((n + 1) * 14) = Z.toArray := by rw [hZ]
  rw [eZ]
  have HZl := Lib.hid hZl
  clear hZ hZl eZ hmk
  have HB0 := Lib.hid (Blk.new w 160 Z)
  have HL0 := Lib.hid ((Below.refl w.heap.size w).alloc (Nat.le_refl _) (.cells Z.toArray 160))
  generalize w.alloc (.cells Z.toArray 160) = w0 at *
  go_loopw [4] (fun i wr => ∃ k : Nat, k ≤ n ∧ i = .int .i64 k ∧ Hid (Blk wr w.heap.size 160 ((xs.take k).flatten ++ Z.drop (k * 14))) ∧ Hid (Below w.heap.size w wr)) (fun i _ => n - (intOf i).toNat)
  case atStart => exact ⟨0, Nat.zero_le _, rfl, by simpa using HB0, HL0⟩
  case round =>
    obtain ⟨k, hk, rfl, HB, HL⟩ := hrel
    clear HB0 HL0
    by_cases hlt : k < n
    · obtain ⟨ad, l, rfl, hx, hlc, hc0⟩ := H.out.at_ hlt
      have HA := Lib.hid (flat_take HC.out (k := k) (by have := H.out.1; omega))
      have hld : (LA 160 (.pointer (some (ad.add (k * 14))))).run Tryz.prog wr = .ok (.agg l.toArray) wr :=
        loads_at (s := []) Tryz.underlying160 rfl (by rw [hlc]; kernel_rfl) (fun i v hv => by rw [add_add]; rw [List.append_nil] at hv; exact (HL.out.cell (World.block_lt_of_cell? w _ (hc0 i v hv))).trans (hc0 i v hv))
      have hst : (SA 160 (.pointer (some ⟨w.heap.size, k * 14, none⟩)) (.agg l.toArray)).run Tryz.prog wr = .ok () (wr.setCells w.heap.size (k * 14) l) :=
        stores_mid HB.out (by rw [List.length_append, HA.out, List.length_drop, HZl.out, hlc]; omega) (by rw [hlc]; kernel_rfl) (H1.out l (List.mem_of_getElem? hx))
      have HS := Lib.hid (puts_step HA.out HB.out hlc (by rw [List.length_drop, HZl.out]; omega))
      have HX := Lib.hid hx
      clear hx hlc hc0
      go_wp2
      go_roundw
      case rel =>
        refine ⟨k + 1, by omega, by go_num, Lib.hid ?_, below_sets (Nat.le_refl _) _ _ _ HL.out⟩
        have h := HS.out
        rw [List.drop_drop] at h
        rw [take_snoc xs k l HX.out, List.flatten_append, Nat.add_mul, Nat.one_mul]
        simpa using h
      case measure => simp [intOf]; omega
    · obtain rfl : k = n := by omega
      have ht : xs.take k = xs := List.take_of_length_le (by have := H.out.1; omega)
      have HA := Lib.hid (flat_take HC.out (k := k) (by have := H.out.1; omega))
      rw [ht] at HA HB
      have HS := fun (w9 : World) (hb : Below wr.heap.size wr w9) => puts_step (l := markidl) HA.out (HB.out.keep hb) (show (markidl).length = 14 from rfl) (show 14 ≤ (Z.drop (k * 14)).length by rw [List.length_drop, HZl.out]; omega)
      have hst := fun (w9 : World) (hb : Below wr.heap.size wr w9) => show (SA 160 (.pointer (some ⟨w.heap.size, k * 14, none⟩)) (.agg (markidl).toArray)).run Tryz.prog w9 = .ok () (w9.setCells w.heap.size (k * 14) markidl) from
        stores_mid (HB.out.keep hb) (by rw [List.length_append, HA.out, List.length_drop, HZl.out, show (markidl).length = 14 from rfl]; omega) (by kernel_rfl) (by decide)
      go_wp2_with (first | (go_at_call 116; (with_reducible refine (markidl_c _ _ rfl).mono ?_); rintro e w9 ⟨rfl, hb⟩; replace hst := hst w9 hb; replace HS := Lib.hid (HS w9 hb); have HL9 := Lib.hid (kbt HL.out hb)))
      go_ret
      refine ⟨rfl, ?_, below_sets (Nat.le_refl _) _ _ _ HL9.out⟩
      have h := HS.out
      rw [List.drop_drop, List.drop_eq_nil_of_le (by rw [HZl.out]; omega), List.append_nil] at h
      exact h
end
end Go.Proofs.YtbplgjocammnbaaGreat.TwinS
