/- The document's Pairs of any two lists: just those that fit, each once, in their order. -/
import Derived.Test.YtkpdomnmlinomabGreatPairsG
namespace Go.Proofs.YtkpdomnmlinomabGreat.PairsG
open Go.RowKit Go.Proofs.YtkpdomnmlinomabGreat.Aid Go.Proofs.YtkpdomnmlinomabGreat.Mem Go.Proofs.YtkpdomnmlinomabGreat.Dist Go.Proofs.YtkpdomnmlinomabGreat.Types Go.Proofs.YtkpdomnmlinomabGreat.Fit Go.Proofs.YtkpdomnmlinomabGreat.RefFit Go.Proofs.YtkpdomnmlinomabGreat.Fits Go.Proofs.YtkpdomnmlinomabGreat.Keep Go.Proofs.YtkpdomnmlinomabGreat.Pair1 Go.Proofs.YtkpdomnmlinomabGreat.Recs
set_option linter.unusedSimpArgs false
set_option linter.unusedVariables false
theorem rfits_v (r : Req) (d : Drv) (w : World) (hr : Rok r) (hd : Dok d) (b : Bool) (hb : Hid (fits r d = b)) :
    Calls Tryz.prog 109 #[r.val, d.val] w fun e w' => e = .returned (.bool b) ∧ Below w.heap.size w w' := by
  obtain rfl := hb.out
  exact refFits_c r d w hr hd
attribute [local go_sem ↓] Keep.load_req Keep.load_drv
set_option maxHeartbeats 8000000 in
set_option maxRecDepth 100000 in
theorem rpairs_c (xs : List Wai) (ys : List Idl) (A B : Option Addr) (n m ca cb : Nat) (w : World) (hx : Recs w 18 A n (xs.map Wai.list)) (hy : Recs w 14 B m (ys.map Idl.list)) (wx : ∀ x ∈ xs, x.wf) (wy : ∀ y ∈ ys, y.wf) (hn : n ≤ 1048576) (hm : m ≤ 1048576) :
    Calls Tryz.prog 20 #[.slice A n ca, .slice B m cb] w fun e w' => ∃ v, e = .returned v ∧ Own w' w.heap.size 95 2 v (allP xs ys n).length (cellsP (allP xs ys n)) ∧ Below w.heap.size w w' := by
  have HX := Lib.hid hx
  have HY := Lib.hid hy
  have WX := Lib.hid wx
  have WY := Lib.hid wy
  have HM : Hid (ys.length = m) := Lib.hid (by have := hy.1; simpa using this)
  clear hx hy wx wy
  go_enter Tryz.func20, Tryz.ntmps20
  go_wp2
  go_loopw [5, 6] (fun v i wr => ∃ k : Nat, k ≤ n ∧ i = .int .i64 k ∧ Hid (Own wr w.heap.size 95 2 v (allP xs ys k).length (cellsP (allP xs ys k))) ∧ Hid (Below w.heap.size w wr)) (fun _ i _ => n - (intOf i).toNat)
  case atStart => exact ⟨0, Nat.zero_le _, rfl, Own.nil _ _ _ _, Below.refl _ _⟩
  case round =>
    obtain ⟨i, hi, rfl, HO, HB⟩ := hrel
    by_cases hlt : i < n
    · obtain ⟨ad, x, rfl, hx, hlx⟩ := at_w HX.out hlt
      have HXI := Lib.hid hx
      have HLX := Lib.hid hlx
      clear hx hlx
      go_wp2
      go_loopw [5, 7] (fun v j wr => ∃ k : Nat, k ≤ m ∧ j = .int .i64 k ∧ Hid (Own wr w.heap.size 95 2 v (allP xs ys i ++ innerP xs ys i k).length (cellsP (allP xs ys i ++ innerP xs ys i k))) ∧ Hid (Below w.heap.size w wr)) (fun _ j _ => m - (intOf j).toNat)
      case atStart => exact ⟨0, Nat.zero_le _, rfl, by simpa [innerP] using HO, HB⟩
      case round =>
        obtain ⟨k, hk, rfl, HO2, HB2⟩ := hrel
        clear HO HB
        by_cases hl2 : k < m
        · obtain ⟨bd, y, rfl, hy, hly⟩ := at_i HY.out hl2
          have HYI := Lib.hid hy
          have hh := hit_at HXI.out hy
          have hr := Rok.of (req_wf (WX.out x (List.mem_of_getElem? HXI.out)))
          have hd := Dok.of (drv_wf (WY.out y (List.mem_of_getElem? hy)))
          have HL : Hid ((allP xs ys i ++ innerP xs ys i k).length ≤ 1099511627776) := Lib.hid (by
            have h1 := all_le xs ys i
            have h2 := inner_le xs ys i k
            have h3 : i * ys.length ≤ 1048575 * 1048576 := Nat.mul_le_mul (by omega) (by rw [HM.out]; exact hm)
            rw [List.length_append]
            omega)
          have ext : ∀ W, (Own W w.heap.size 95 2 u5 (allP xs ys i ++ innerP xs ys i k).length (cellsP (allP xs ys i ++ innerP xs ys i k)) ∧ Below w.heap.size w W) → ((Own W w.heap.size 95 2 u5 (allP xs ys i ++ innerP xs ys i k).length (cellsP (allP xs ys i ++ innerP xs ys i k)) ∧ Below w.heap.size w W) ∧ (LA 76 (.pointer (some (ad.add (i * 18))))).run Tryz.prog W = .ok (.agg (rl (reqOf x)).toArray) W ∧ (LA 80 (.pointer (some (bd.add (k * 14))))).run Tryz.prog W = .ok (.agg (dl (drvOf y)).toArray) W) :=
            fun W h => ⟨h, HLX.out _ h.2, hly _ h.2⟩
          have EXT := Lib.hid ext
          clear hy hly ext
          by_cases hf : fits (reqOf x) (drvOf y) = true
          · rw [hf] at hh
            have HH := Lib.hid (inner_t hh)
            have HF := Lib.hid hf
            clear hf hh
            go_wp2
            go_region_held3 (fun W => (Own W w.heap.size 95 2 u5 (allP xs ys i ++ innerP xs ys i k).length (cellsP (allP xs ys i ++ innerP xs ys i k)) ∧ Below w.heap.size w W) ∧ (LA 76 (.pointer (some (ad.add (i * 18))))).run Tryz.prog W = .ok (.agg (rl (reqOf x)).toArray) W ∧ (LA 80 (.pointer (some (bd.add (k * 14))))).run Tryz.prog W = .ok (.agg (dl (drvOf y)).toArray) W) (first | exact EXT.out _ ⟨own_drew HO2.out, HB2.out.drew⟩ | exact EXT.out _ (keepG hb (And.left (by assumption)))) (first | (go_at_call 109; refine (rfits_v (reqOf x) (drvOf y) _ hr hd true HF).mono ?_; rintro e w' ⟨rfl, hb⟩))
            obtain ⟨⟨h1, h2⟩, _, _⟩ := ‹_ ∧ _ ∧ _›
            have HO1 := Lib.hid h1
            have HBW := Lib.hid h2
            have HBA := Lib.hid h2.size
            have HMX : Hid ((allP xs ys i ++ innerP xs ys i k).length + 1 ≤ maxLen) := Lib.hid (by have := HL.out; unfold maxLen; omega)
            have HBY : Hid (((allP xs ys i ++ innerP xs ys i k).length + 1) * 16 ≤ 140737488355328) := Lib.hid (by have := HL.out; omega)
            clear h1 h2
            go_wp2_with (first | (at_builtin; (refine app_one (w0 := w) (W := w') w.heap.size rfl _ _ 92 95 (.agg #[.int .i64 0, .int .i64 0]) 2 16 rfl Tryz.underlying92 infoP rfl (by decide) u5 _ _ [.int .i64 (i : Int), .int .i64 (k : Int)] rfl rfl rfl (one2 _ _) HO1.out HBW.out HBA.out HMX.out HBY.out ?_); intro v1 w9 hO hB _ _ _; have HO9 := Lib.hid hO; have HBW9 := Lib.hid hB; clear hO hB))
            go_roundw
            case rel =>
              refine ⟨k + 1, by omega, by go_num, ?_, HBW9⟩
              rw [HH.out, ← List.append_assoc, cells_snoc, List.length_append]
              exact HO9
            case measure => simp [intOf]; omega
          · have hf' : fits (reqOf x) (drvOf y) = false := by simpa using hf
            rw [hf'] at hh
            have HH := Lib.hid (inner_f hh)
            have HF := Lib.hid hf'
            clear hf hf' hh
            go_wp2
            go_region_held3 (fun W => (Own W w.heap.size 95 2 u5 (allP xs ys i ++ innerP xs ys i k).length (cellsP (allP xs ys i ++ innerP xs ys i k)) ∧ Below w.heap.size w W) ∧ (LA 76 (.pointer (some (ad.add (i * 18))))).run Tryz.prog W = .ok (.agg (rl (reqOf x)).toArray) W ∧ (LA 80 (.pointer (some (bd.add (k * 14))))).run Tryz.prog W = .ok (.agg (dl (drvOf y)).toArray) W) (first | exact EXT.out _ ⟨own_drew HO2.out, HB2.out.drew⟩ | exact EXT.out _ (keepG hb (And.left (by assumption)))) (first | (go_at_call 109; refine (rfits_v (reqOf x) (drvOf y) _ hr hd false HF).mono ?_; rintro e w' ⟨rfl, hb⟩))
            go_wp2
            go_roundw
            case rel =>
              obtain ⟨⟨h1, h2⟩, _, _⟩ := ‹_ ∧ _ ∧ _›
              exact ⟨k + 1, by omega, by go_num, by rw [HH.out]; exact h1, h2⟩
            case measure => simp [intOf]; omega
        · obtain rfl : k = m := by omega
          have HO3 := HO2.out
          rw [← HM.out, ← all_succ] at HO3
          replace HO3 := Lib.hid HO3
          go_wp2
          go_roundw
          case rel => exact ⟨i + 1, by omega, by go_num, HO3, HB2⟩
          case measure => simp [intOf]; omega
    · obtain rfl : i = n := by omega
      go_wp2
      go_ret
      exact ⟨_, rfl, HO.out, HB.out⟩
end Go.Proofs.YtkpdomnmlinomabGreat.PairsG
