/- fit.Pairs of any two lists: just those that fit, each once, in their order. -/
import Derived.Test.YtkpdomnmlinomabGreatPair1
import Derived.Test.YtkpdomnmlinomabGreatRecs
import Derived.Test.YtkpdomnmlinomabGreatApp
import Derived.LoopTactic
namespace Go.Proofs.YtkpdomnmlinomabGreat.PairsG
open Go.RowKit Go.Proofs.YtkpdomnmlinomabGreat.Aid Go.Proofs.YtkpdomnmlinomabGreat.Mem Go.Proofs.YtkpdomnmlinomabGreat.Dist Go.Proofs.YtkpdomnmlinomabGreat.Types Go.Proofs.YtkpdomnmlinomabGreat.Fit Go.Proofs.YtkpdomnmlinomabGreat.RefFit Go.Proofs.YtkpdomnmlinomabGreat.Fits Go.Proofs.YtkpdomnmlinomabGreat.Keep Go.Proofs.YtkpdomnmlinomabGreat.Pair1 Go.Proofs.YtkpdomnmlinomabGreat.Recs
set_option linter.unusedSimpArgs false
set_option linter.unusedVariables false
def reqOf (x : Wai) : Req := ⟨x.i0, x.i1, x.i2, x.i3, x.i4, x.i5, x.i6, x.i7, x.fx, x.fy, x.tx, x.ty, x.seats, x.classes, x.base, x.ttl⟩
def drvOf (y : Idl) : Drv := ⟨y.i0, y.i1, y.i2, y.i3, y.i4, y.i5, y.i6, y.i7, y.ax, y.ay, y.seats, y.cls, y.radius⟩
theorem wai_list (x : Wai) : x.list = rl (reqOf x) ++ [.int .i64 x.since, .int .i64 x.number] := rfl
theorem idl_list (y : Idl) : y.list = dl (drvOf y) ++ [.int .i64 y.number] := rfl
theorem req_wf {x : Wai} (h : x.wf) : (reqOf x).wf := ⟨h.i0, h.i1, h.i2, h.i3, h.i4, h.i5, h.i6, h.i7, h.fx, h.fy, h.tx, h.ty, h.seats, h.classes, h.base, h.ttl⟩
theorem drv_wf {y : Idl} (h : y.wf) : (drvOf y).wf := ⟨h.i0, h.i1, h.i2, h.i3, h.i4, h.i5, h.i6, h.i7, h.ax, h.ay, h.seats, h.cls, h.radius⟩
/-- Does the request at one place fit the driver at another? -/
def hit (xs : List Wai) (ys : List Idl) (i j : Nat) : Bool := match xs[i]?, ys[j]? with
  | some x, some y => fits (reqOf x) (drvOf y)
  | _, _ => false
theorem hit_at {xs : List Wai} {ys : List Idl} {i j : Nat} {x : Wai} {y : Idl} (hx : xs[i]? = some x) (hy : ys[j]? = some y) : hit xs ys i j = fits (reqOf x) (drvOf y) := by unfold hit; rw [hx, hy]
def innerP (xs : List Wai) (ys : List Idl) (i k : Nat) : List (Nat × Nat) := ((List.range k).filter (hit xs ys i)).map fun j => (i, j)
def allP (xs : List Wai) (ys : List Idl) (i : Nat) : List (Nat × Nat) := (List.range i).flatMap fun a => innerP xs ys a ys.length
def cellsP (l : List (Nat × Nat)) : List Value := l.flatMap fun p => [.int .i64 (p.1 : Int), .int .i64 (p.2 : Int)]
theorem inner_t {xs : List Wai} {ys : List Idl} {i k : Nat} (h : hit xs ys i k = true) : innerP xs ys i (k + 1) = innerP xs ys i k ++ [(i, k)] := by
  unfold innerP; rw [List.range_succ, List.filter_append, List.map_append]; simp [h]
theorem inner_f {xs : List Wai} {ys : List Idl} {i k : Nat} (h : hit xs ys i k = false) : innerP xs ys i (k + 1) = innerP xs ys i k := by
  unfold innerP; rw [List.range_succ, List.filter_append, List.map_append]; simp [h]
theorem all_succ (xs : List Wai) (ys : List Idl) (i : Nat) : allP xs ys (i + 1) = allP xs ys i ++ innerP xs ys i ys.length := by
  unfold allP; rw [List.range_succ, List.flatMap_append]; simp
theorem inner_le (xs : List Wai) (ys : List Idl) (i k : Nat) : (innerP xs ys i k).length ≤ k := by
  unfold innerP; rw [List.length_map]; exact Nat.le_trans (List.length_filter_le ..) (by simp)
theorem all_le (xs : List Wai) (ys : List Idl) : ∀ i, (allP xs ys i).length ≤ i * ys.length
  | 0 => by simp [allP]
  | i + 1 => by
    rw [all_succ, List.length_append, Nat.add_mul, Nat.one_mul]
    exact Nat.add_le_add (all_le xs ys i) (inner_le _ _ _ _)
theorem cells_snoc (l : List (Nat × Nat)) (i k : Nat) : cellsP (l ++ [(i, k)]) = cellsP l ++ [.int .i64 (i : Int), .int .i64 (k : Int)] := by
  unfold cellsP; rw [List.flatMap_append]; simp
theorem infoP : (Tryz.prog.info? 95).map (fun i => (i.zero, i.size, i.bytes)) = some (some (.agg #[.int .i64 0, .int .i64 0]), 2, 16) := by kernel_rfl
theorem at_w {w : World} {A : Option Addr} {n : Nat} {xs : List Wai} (h : Recs w 18 A n (xs.map Wai.list)) {j : Nat} (hj : j < n) : ∃ ad x, A = some ad ∧ xs[j]? = some x ∧ ∀ w', Below w.heap.size w w' → (LA 76 (.pointer (some (ad.add (j * 18))))).run Tryz.prog w' = .ok (.agg (rl (reqOf x)).toArray) w' := by
  obtain ⟨ad, l, rfl, hl, hc, hcell⟩ := h.at_ hj
  rw [List.getElem?_map] at hl
  obtain ⟨x, hx, rfl⟩ := Option.map_eq_some_iff.1 hl
  refine ⟨ad, x, rfl, hx, fun w' hb => loads_at (s := [.int .i64 x.since, .int .i64 x.number]) Tryz.underlying76 rfl (by show _ = some 16; kernel_rfl) fun i v hv => ?_⟩
  rw [add_add]
  have hv' := hcell i v hv
  exact (hb.cell (World.block_lt_of_cell? w _ hv')).trans hv'
theorem at_i {w : World} {A : Option Addr} {n : Nat} {ys : List Idl} (h : Recs w 14 A n (ys.map Idl.list)) {j : Nat} (hj : j < n) : ∃ ad y, A = some ad ∧ ys[j]? = some y ∧ ∀ w', Below w.heap.size w w' → (LA 80 (.pointer (some (ad.add (j * 14))))).run Tryz.prog w' = .ok (.agg (dl (drvOf y)).toArray) w' := by
  obtain ⟨ad, l, rfl, hl, hc, hcell⟩ := h.at_ hj
  rw [List.getElem?_map] at hl
  obtain ⟨y, hy, rfl⟩ := Option.map_eq_some_iff.1 hl
  refine ⟨ad, y, rfl, hy, fun w' hb => loads_at (s := [.int .i64 y.number]) Tryz.underlying80 rfl (by show _ = some 13; kernel_rfl) fun i v hv => ?_⟩
  rw [add_add]
  have hv' := hcell i v hv
  exact (hb.cell (World.block_lt_of_cell? w _ hv')).trans hv'
theorem one2 (a b : Int) : ∀ u ∈ [Value.int .i64 a, Value.int .i64 b], u.oneCell' = true := by
  intro u hu; simp at hu; rcases hu with rfl | rfl <;> rfl
attribute [local go_sem ↓] Keep.load_req Keep.load_drv
theorem keepG {w0 w w' : World} {base : Nat} {e : TypeId} {size n : Nat} {v : Value} {l : List Value} (hb : Below w.heap.size w w') (h : Own w base e size v n l ∧ Below w0.heap.size w0 w) : Own w' base e size v n l ∧ Below w0.heap.size w0 w' := ⟨h.1.keep hb, kbt h.2 hb⟩
theorem own_drew {w : World} {base : Nat} {e : TypeId} {size n : Nat} {v : Value} {l : List Value} (h : Own w base e size v n l) : Own w.drew base e size v n l := h
set_option maxHeartbeats 8000000 in
set_option maxRecDepth 100000 in
theorem pairs_c (xs : List Wai) (ys : List Idl) (A B : Option Addr) (n m ca cb : Nat) (w : World) (hx : Recs w 18 A n (xs.map Wai.list)) (hy : Recs w 14 B m (ys.map Idl.list)) (wx : ∀ x ∈ xs, x.wf) (wy : ∀ y ∈ ys, y.wf) (hn : n ≤ 1048576) (hm : m ≤ 1048576) :
    Calls Tryz.prog 25 #[.slice A n ca, .slice B m cb] w fun e w' => ∃ v, e = .returned v ∧ Own w' w.heap.size 95 2 v (allP xs ys n).length (cellsP (allP xs ys n)) ∧ Below w.heap.size w w' := by
  have HX := Lib.hid hx
  have HY := Lib.hid hy
  have WX := Lib.hid wx
  have WY := Lib.hid wy
  have HM : Hid (ys.length = m) := Lib.hid (by have := hy.1; simpa using this)
  clear hx hy wx wy
  go_enter Tryz.func25, Tryz.ntmps25
  go_wp2
  go_loopw [5, 10] (fun v i wr => ∃ k : Nat, k ≤ n ∧ i = .int .i64 k ∧ Hid (Own wr w.heap.size 95 2 v (allP xs ys k).length (cellsP (allP xs ys k))) ∧ Hid (Below w.heap.size w wr)) (fun _ i _ => n - (intOf i).toNat)
  case atStart => exact ⟨0, Nat.zero_le _, rfl, Own.nil _ _ _ _, Below.refl _ _⟩
  case round =>
    obtain ⟨i, hi, rfl, HO, HB⟩ := hrel
    by_cases hlt : i < n
    · obtain ⟨ad, x, rfl, hx, hlx⟩ := at_w HX.out hlt
      have HXI := Lib.hid hx
      have HLX := Lib.hid hlx
      clear hx hlx
      go_wp2
      go_loopw [5, 15] (fun v j wr => ∃ k : Nat, k ≤ m ∧ j = .int .i64 k ∧ Hid (Own wr w.heap.size 95 2 v (allP xs ys i ++ innerP xs ys i k).length (cellsP (allP xs ys i ++ innerP xs ys i k))) ∧ Hid (Below w.heap.size w wr)) (fun _ j _ => m - (intOf j).toNat)
      case atStart => exact ⟨0, Nat.zero_le _, rfl, by simpa [innerP] using HO, HB⟩
      case round =>
        obtain ⟨k, hk, rfl, HO2, HB2⟩ := hrel
        clear HO HB
        by_cases hl2 : k < m
        · obtain ⟨bd, y, rfl, hy, hly⟩ := at_i HY.out hl2
          have HYI := Lib.hid hy
          have hh := hit_at HXI.out hy
          have hr := Rok.of (req_wf (WX.out x (List.mem_of_getElem? HXI.out)))
          have hd := Dok.of (drv_wf (WY.out y (List.mem_of_getElem? hy)))
          have HL : Hid ((allP xs ys i ++ innerP xs ys i k).length ≤ 1099511627776) := Lib.hid (by
            have h1 := all_le xs ys i
            have h2 := inner_le xs ys i k
            have h3 : i * ys.length ≤ 1048575 * 1048576 := Nat.mul_le_mul (by omega) (by rw [HM.out]; exact hm)
            rw [List.length_append]
            omega)
          have ext : ∀ W, (Own W w.heap.size 95 2 u5 (allP xs ys i ++ innerP xs ys i k).length (cellsP (allP xs ys i ++ innerP xs ys i k)) ∧ Below w.heap.size w W) → ((Own W w.heap.size 95 2 u5 (allP xs ys i ++ innerP xs ys i k).length (cellsP (allP xs ys i ++ innerP xs ys i k)) ∧ Below w.heap.size w W) ∧ (LA 76 (.pointer (some (ad.add (i * 18))))).run Tryz.prog W = .ok (.agg (rl (reqOf x)).toArray) W ∧ (LA 80 (.pointer (some (bd.add (k * 14))))).run Tryz.prog W = .ok (.agg (dl (drvOf y)).toArray) W) :=
            fun W h => ⟨h, HLX.out _ h.2, hly _ h.2⟩
          have EXT := Lib.hid ext
          clear hy hly ext
          by_cases hf : fits (reqOf x) (drvOf y) = true
          · rw [hf] at hh
            have HH := Lib.hid (inner_t hh)
            have HF := Lib.hid hf
            clear hf hh
            go_wp2
            go_region_held3 (fun W => (Own W w.heap.size 95 2 u5 (allP xs ys i ++ innerP xs ys i k).length (cellsP (allP xs ys i ++ innerP xs ys i k)) ∧ Below w.heap.size w W) ∧ (LA 76 (.pointer (some (ad.add (i * 18))))).run Tryz.prog W = .ok (.agg (rl (reqOf x)).toArray) W ∧ (LA 80 (.pointer (some (bd.add (k * 14))))).run Tryz.prog W = .ok (.agg (dl (drvOf y)).toArray) W) (first | exact EXT.out _ ⟨own_drew HO2.out, HB2.out.drew⟩ | exact EXT.out _ (keepG hb (And.left (by assumption)))) (first | (go_at_call 114; refine (fits_v (reqOf x) (drvOf y) _ hr hd true HF).mono ?_; rintro e w' ⟨rfl, hb⟩))
            obtain ⟨⟨h1, h2⟩, _, _⟩ := ‹_ ∧ _ ∧ _›
            have HO1 := Lib.hid h1
            have HBW := Lib.hid h2
            have HBA := Lib.hid h2.size
            have HMX : Hid ((allP xs ys i ++ innerP xs ys i k).length + 1 ≤ maxLen) := Lib.hid (by have := HL.out; unfold maxLen; omega)
            have HBY : Hid (((allP xs ys i ++ innerP xs ys i k).length + 1) * 16 ≤ 140737488355328) := Lib.hid (by have := HL.out; omega)
            clear h1 h2
            go_wp2_with (first | (at_builtin; (refine app_one (w0 := w) (W := w') w.heap.size rfl _ _ 92 95 (.agg #[.int .i64 0, .int .i64 0]) 2 16 rfl Tryz.underlying92 infoP rfl (by decide) u5 _ _ [.int .i64 (i : Int), .int .i64 (k : Int)] rfl rfl rfl (one2 _ _) HO1.out HBW.out HBA.out HMX.out HBY.out ?_); intro v1 w9 hO hB _ _ _; have HO9 := Lib.hid hO; have HBW9 := Lib.hid hB; clear hO hB))
            go_roundw
            case rel =>
              refine ⟨k + 1, by omega, by go_num, ?_, HBW9⟩
              rw [HH.out, ← List.append_assoc, cells_snoc, List.length_append]
              exact HO9
            case measure => simp [intOf]; omega
          · have hf' : fits (reqOf x) (drvOf y) = false := by simpa using hf
            rw [hf'] at hh
            have HH := Lib.hid (inner_f hh)
            have HF := Lib.hid hf'
            clear hf hf' hh
            go_wp2
            go_region_held3 (fun W => (Own W w.heap.size 95 2 u5 (allP xs ys i ++ innerP xs ys i k).length (cellsP (allP xs ys i ++ innerP xs ys i k)) ∧ Below w.heap.size w W) ∧ (LA 76 (.pointer (some (ad.add (i * 18))))).run Tryz.prog W = .ok (.agg (rl (reqOf x)).toArray) W ∧ (LA 80 (.pointer (some (bd.add (k * 14))))).run Tryz.prog W = .ok (.agg (dl (drvOf y)).toArray) W) (first | exact EXT.out _ ⟨own_drew HO2.out, HB2.out.drew⟩ | exact EXT.out _ (keepG hb (And.left (by assumption)))) (first | (go_at_call 114; refine (fits_v (reqOf x) (drvOf y) _ hr hd false HF).mono ?_; rintro e w' ⟨rfl, hb⟩))
            go_wp2
            go_roundw
            case rel =>
              obtain ⟨⟨h1, h2⟩, _, _⟩ := ‹_ ∧ _ ∧ _›
              exact ⟨k + 1, by omega, by go_num, by rw [HH.out]; exact h1, h2⟩
            case measure => simp [intOf]; omega
        · obtain rfl : k = m := by omega
          have HO3 := HO2.out
          rw [← HM.out, ← all_succ] at HO3
          replace HO3 := Lib.hid HO3
          go_wp2
          go_roundw
          case rel => exact ⟨i + 1, by omega, by go_num, HO3, HB2⟩
          case measure => simp [intOf]; omega
    · obtain rfl : i = n := by omega
      go_wp2
      go_ret
      exact ⟨_, rfl, HO.out, HB.out⟩
end Go.Proofs.YtkpdomnmlinomabGreat.PairsG
