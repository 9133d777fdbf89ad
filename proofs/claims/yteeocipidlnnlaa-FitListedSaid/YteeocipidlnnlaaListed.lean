/- The walk of FitListed, and the law. -/
import Derived.Test.YteeocipidlnnlaaPairsG
import Derived.Test.YteeocipidlnnlaaTwinS
import Derived.Test.YteeocipidlnnlaaBey
import Derived.Test.YteeocipidlnnlaaAliveF
namespace Go.Proofs.Yteeocipidlnnlaa.Listed
open Go.RowKit Go.Proofs.Yteeocipidlnnlaa.Aid Go.Proofs.Yteeocipidlnnlaa.Mem Go.Proofs.Yteeocipidlnnlaa.Dist Go.Proofs.Yteeocipidlnnlaa.Types Go.Proofs.Yteeocipidlnnlaa.Fit Go.Proofs.Yteeocipidlnnlaa.RefFit Go.Proofs.Yteeocipidlnnlaa.Fits Go.Proofs.Yteeocipidlnnlaa.Keep Go.Proofs.Yteeocipidlnnlaa.Pair1 Go.Proofs.Yteeocipidlnnlaa.Recs Go.Proofs.Yteeocipidlnnlaa.PairsG Go.Proofs.Yteeocipidlnnlaa.TwinS Go.Proofs.Yteeocipidlnnlaa.Twin Go.Proofs.Yteeocipidlnnlaa.AliveF
set_option linter.unusedSimpArgs false
set_option linter.unusedVariables false
theorem all_pre (xs : List Wai) (ys : List Idl) (i : Nat) : ∀ n, i ≤ n → ∃ r, allP xs ys n = allP xs ys i ++ r
  | 0, h => ⟨[], by obtain rfl : i = 0 := by omega
                    simp⟩
  | n + 1, h => by
    rcases Nat.lt_or_ge n i with h1 | h1
    · obtain rfl : i = n + 1 := by omega
      exact ⟨[], by simp⟩
    · obtain ⟨r, e⟩ := all_pre xs ys i n h1
      exact ⟨r ++ innerP xs ys n ys.length, by rw [all_succ, e, List.append_assoc]⟩
theorem inner_pre (xs : List Wai) (ys : List Idl) (i k : Nat) : ∀ m, k ≤ m → ∃ r, innerP xs ys i m = innerP xs ys i k ++ r
  | 0, h => ⟨[], by obtain rfl : k = 0 := by omega
                    simp⟩
  | m + 1, h => by
    rcases Nat.lt_or_ge m k with h1 | h1
    · obtain rfl : k = m + 1 := by omega
      exact ⟨[], by simp⟩
    · obtain ⟨r, e⟩ := inner_pre xs ys i k m h1
      cases hh : hit xs ys i m
      · exact ⟨r, by rw [inner_f hh, e]⟩
      · exact ⟨r ++ [(i, m)], by rw [inner_t hh, e, List.append_assoc]⟩
theorem pre_at {xs : List Wai} {ys : List Idl} {i k n : Nat} (hi : i < n) (hk : k < ys.length) (h : hit xs ys i k = true) : ∃ r, allP xs ys n = (allP xs ys i ++ innerP xs ys i k) ++ (i, k) :: r := by
  obtain ⟨r1, e1⟩ := inner_pre xs ys i (k + 1) ys.length hk
  obtain ⟨r2, e2⟩ := all_pre xs ys (i + 1) n hi
  refine ⟨r1 ++ r2, ?_⟩
  rw [e2, all_succ, e1, inner_t h]
  simp
theorem cells_len (l : List (Nat × Nat)) : (cellsP l).length = l.length * 2 := by
  induction l with
  | nil => rfl
  | cons p l ih => unfold cellsP at *; rw [List.flatMap_cons, List.length_append, ih, List.length_cons]; simp; omega
theorem cells_app (l r : List (Nat × Nat)) : cellsP (l ++ r) = cellsP l ++ cellsP r := by unfold cellsP; rw [List.flatMap_append]
theorem wai_one (xs : List Wai) : ∀ l ∈ xs.map Wai.list, ∀ v ∈ l, v.oneCell' = true := by
  intro l hl v hv
  obtain ⟨x, _, rfl⟩ := List.mem_map.1 hl
  simp only [Wai.list, List.mem_cons, List.not_mem_nil, or_false] at hv
  rcases hv with rfl | rfl | rfl | rfl | rfl | rfl | rfl | rfl | rfl | rfl | rfl | rfl | rfl | rfl | rfl | rfl | rfl | rfl <;> rfl
theorem idl_one (xs : List Idl) : ∀ l ∈ xs.map Idl.list, ∀ v ∈ l, v.oneCell' = true := by
  intro l hl v hv
  obtain ⟨x, _, rfl⟩ := List.mem_map.1 hl
  simp only [Idl.list, List.mem_cons, List.not_mem_nil, or_false] at hv
  rcases hv with rfl | rfl | rfl | rfl | rfl | rfl | rfl | rfl | rfl | rfl | rfl | rfl | rfl | rfl <;> rfl
theorem wai_len (xs : List Wai) : ∀ l ∈ xs.map Wai.list, l.length = 18 := by
  intro l hl; obtain ⟨x, _, rfl⟩ := List.mem_map.1 hl; rfl
theorem idl_len (xs : List Idl) : ∀ l ∈ xs.map Idl.list, l.length = 14 := by
  intro l hl; obtain ⟨x, _, rfl⟩ := List.mem_map.1 hl; rfl
theorem wai_recs {w : World} {G n : Nat} {t : TypeId} {xs : List Wai} {r : List Value} (h : Blk w G t ((xs.map Wai.list).flatten ++ r)) (hn : xs.length = n) : Recs w 18 (some ⟨G, 0, none⟩) n (xs.map Wai.list) := by
  have := Recs.of_blk (wai_len xs) h
  rwa [List.length_map, hn] at this
theorem idl_recs {w : World} {G n : Nat} {t : TypeId} {xs : List Idl} {r : List Value} (h : Blk w G t ((xs.map Idl.list).flatten ++ r)) (hn : xs.length = n) : Recs w 14 (some ⟨G, 0, none⟩) n (xs.map Idl.list) := by
  have := Recs.of_blk (idl_len xs) h
  rwa [List.length_map, hn] at this
theorem box2 (w : World) (a b : Int) (t : TypeId) : Ints (w.alloc (.cells #[.int .i64 a, .int .i64 b] t)) .i64 (some ⟨w.heap.size, 0, none⟩) 2 [a, b] :=
  Ints.of_blk (Blk.new w t [.int .i64 a, .int .i64 b]) (by intro j y hy; match j with | 0 => simpa using hy | 1 => simpa using hy | j + 2 => simp at hy)
theorem beyond2 (a b : Nat) (w : World) (t : TypeId) (ha : a ≤ 140737488351232) (hb : b ≤ 140737488351232) (x : Bool) (hx : decide (1048576 < a + b) = x) : Calls Try.prog 21 #[.slice (some ⟨w.heap.size, 0, none⟩) 2 2] (w.alloc (.cells #[.int .i64 (a : Int), .int .i64 (b : Int)] t)) fun e w' => e = .returned (.bool x) ∧ w.alloc (.cells #[.int .i64 (a : Int), .int .i64 (b : Int)] t) = w' := by
  refine (beyond_c [(a : Int), (b : Int)] _ 2 2 _ (box2 w a b t) (by simp; omega) (by decide)).mono fun e w' ⟨h, k⟩ => ⟨?_, k⟩
  rw [h]
  subst hx
  congr 2
  have e : tot [(a : Int), (b : Int)] = (a : Int) + b := by simp [tot]
  rw [e, decide_eq_decide]
  omega
def cnt (xs : List Wai) (ys : List Idl) (i k : Nat) : Nat := (allP xs ys i ++ innerP xs ys i k).length
def cnt0 (xs : List Wai) (ys : List Idl) (i : Nat) : Nat := (allP xs ys i).length
theorem cnt_0 (xs : List Wai) (ys : List Idl) (i : Nat) : cnt xs ys i 0 = cnt0 xs ys i := by simp [cnt, cnt0, innerP]
theorem cnt_t {xs : List Wai} {ys : List Idl} {i k : Nat} (h : hit xs ys i k = true) : cnt xs ys i (k + 1) = cnt xs ys i k + 1 := by unfold cnt; rw [inner_t h, ← List.append_assoc, List.length_append]; rfl
theorem cnt_f {xs : List Wai} {ys : List Idl} {i k : Nat} (h : hit xs ys i k = false) : cnt xs ys i (k + 1) = cnt xs ys i k := by unfold cnt; rw [inner_f h]
theorem cnt_e {xs : List Wai} {ys : List Idl} {i m : Nat} (h : ys.length = m) : cnt xs ys i m = cnt0 xs ys (i + 1) := by unfold cnt cnt0; rw [all_succ, h]
theorem own_at {wr : World} {base n c i k : Nat} {e : TypeId} {P9 : Option Addr} {xs : List Wai} {ys : List Idl} (h : Own wr base e 2 (.slice P9 (allP xs ys n).length c) (allP xs ys n).length (cellsP (allP xs ys n))) (hi : i < n) (hk : k < ys.length) (hh : hit xs ys i k = true) :
    ∃ g, P9 = some ⟨g, 0, none⟩ ∧ cnt xs ys i k < (allP xs ys n).length ∧ (LA 61 (.pointer (some ⟨g, cnt xs ys i k * 2, none⟩))).run Try.prog wr = .ok (.agg #[.int .i64 (i : Int), .int .i64 (k : Int)]) wr := by
  obtain ⟨r, e1⟩ := pre_at hi hk hh
  have hl : cnt xs ys i k < (allP xs ys n).length := by rw [e1]; unfold cnt; simp
  obtain ⟨A, c', e2, _, hf⟩ := h.form
  injection e2 with e2 e3 e4
  obtain ⟨g, e5, _, _, hcell⟩ := hf (by omega)
  refine ⟨g, by rw [e2, e5], hl, loads_at (l := [.int .i64 (i : Int), .int .i64 (k : Int)]) (s := []) Try.underlying61 rfl (by kernel_rfl) fun j v hv => ?_⟩
  rw [Addr.add_mid]
  refine hcell _ v ?_
  show (cellsP (allP xs ys n))[(allP xs ys i ++ innerP xs ys i k).length * 2 + j]? = some v
  rw [e1, cells_app, List.getElem?_append_right (by rw [cells_len]; omega), cells_len, Nat.add_sub_cancel_left]
  unfold cellsP
  rw [List.flatMap_cons, List.getElem?_append_left (by have := (List.getElem?_eq_some_iff.1 hv).1; simpa using this)]
  simpa using hv
theorem load_pair (v : Value) : Instr.loadAt 61 v = LA 61 v := rfl
attribute [local go_sem ↓] Keep.load_req Keep.load_drv load_pair
set_option maxHeartbeats 8000000 in
set_option maxRecDepth 100000 in
theorem listed (xs : List Wai) (A : Option Addr) (n c : Nat) (ys : List Idl) (B : Option Addr) (m d : Nat) (w : World) (hx : Recs w 18 A n (xs.map Wai.list)) (hc : n ≤ c) (hn : n ≤ 140737488351232) (wx : ∀ x ∈ xs, x.wf)
    (hy : Recs w 14 B m (ys.map Idl.list)) (hd : m ≤ d) (hm : m ≤ 140737488351232) (wy : ∀ y ∈ ys, y.wf) :
    Calls Try.prog 8 #[.slice A n c, .slice B m d] w fun e w' => e = .returned (.bool true) ∧ Below w.heap.size w w' := by
  have HX := Lib.hid hx
  have HY := Lib.hid hy
  have WX := Lib.hid wx
  have WY := Lib.hid wy
  have HNx : Hid (xs.length = n) := Lib.hid (by have := hx.1; simpa using this)
  have HM : Hid (ys.length = m) := Lib.hid (by have := hy.1; simpa using this)
  clear hx hy wx wy
  by_cases hbey : 1048576 < n + m
  · have HBE := Lib.hid (decide_eq_true hbey)
    clear hbey
    go_enter Try.func8, Try.ntmps8
    go_wp2_with (first | (go_at_call 20; with_reducible refine (alive_c _).mono ?_; rintro e w3 ⟨rfl, hb⟩; have HB2 := Lib.hid (kbt (kba HB1.out _) hb); clear hb) | (go_at_call 20; with_reducible refine (alive_c _).mono ?_; rintro e w1 ⟨rfl, hb⟩; have HB1 := Lib.hid hb; clear hb) | (go_at_call 21; with_reducible refine (beyond2 n m _ _ hn hm true HBE.out).mono ?_; rintro e w2 ⟨rfl, rfl⟩))
    go_ret
    exact ⟨rfl, HB2.out⟩
  · have HBE := Lib.hid (decide_eq_false hbey)
    have hnm : n ≤ 1048576 ∧ m ≤ 1048576 := by omega
    obtain ⟨hn2, hm2⟩ := hnm
    clear hbey
    go_enter Try.func8, Try.ntmps8
    go_wp2_with (first | (go_at_call 20; with_reducible refine (alive_c _).mono ?_; rintro e w1 ⟨rfl, hb⟩; have HB1 := Lib.hid hb; clear hb) | (go_at_call 21; with_reducible refine (beyond2 n m _ _ hn hm false HBE.out).mono ?_; rintro e w2 ⟨rfl, rfl⟩) | (go_at_call 23; with_reducible refine (twin_wai (xs.map Wai.list) A n c _ (w1.heap.size + 1) (size_alloc _ _) (HX.out.keep (kba HB1.out _)) (wai_one xs) hn2).mono ?_; rintro e w3 ⟨rfl, hb3, hl3⟩; have HT3 := Lib.hid hb3; have HB3 := Lib.hid (kbt (kba HB1.out _) hl3); clear hb3 hl3) | (go_at_call 24; with_reducible refine (twin_idl (ys.map Idl.list) B m d _ _ rfl (HY.out.keep HB3.out) (idl_one ys) hm2).mono ?_; rintro e w4 ⟨rfl, hb4, hl4⟩; have HT4 := Lib.hid hb4; have HT5 := Lib.hid (HT3.out.keep hl4); have HB4 := Lib.hid (kbt HB3.out hl4); clear hb4 hl4) | (go_at_call 22; with_reducible refine (pairs_c xs ys _ _ n m _ _ _ (wai_recs HT5.out HNx.out) (idl_recs HT4.out HM.out) WX.out WY.out hn2 hm2).mono ?_; rintro e w5 ⟨v, rfl, hO, hB⟩; have HO := Lib.hid hO; have HB5 := Lib.hid (kbt HB4.out hB); have HW := Lib.hid HB4.out.size; clear hO hB))
    clear HT3 HT4 HT5 HB1 HB3 HB4
    generalize w4.heap.size = base at *
    obtain ⟨P9, c9, rfl, _, _⟩ := HO.out.form
    have HF := Lib.hid (fun (wr : World) (h : Own wr base 61 2 (.slice P9 (allP xs ys n).length c9) (allP xs ys n).length (cellsP (allP xs ys n))) (i k : Nat) (hi : i < n) (hk : k < ys.length) (hh : hit xs ys i k = true) => own_at h hi hk hh)
    go_loopw [6, 7] (fun q i wr => ∃ k : Nat, k ≤ n ∧ i = .int .i64 k ∧ q = .int .i64 (cnt0 xs ys k : Nat) ∧ Hid (Own wr base 61 2 (.slice P9 (allP xs ys n).length c9) (allP xs ys n).length (cellsP (allP xs ys n))) ∧ Hid (Below w.heap.size w wr)) (fun _ i _ => n - (intOf i).toNat)
    case atStart => exact ⟨0, Nat.zero_le _, rfl, rfl, HO, HB5⟩
    case round =>
      obtain ⟨i, hi, rfl, rfl, HO1, HB⟩ := hrel
      clear HO HB5
      by_cases hlt : i < n
      · obtain ⟨ad, x, rfl, hx, hlx⟩ := at_w HX.out hlt
        have HXI := Lib.hid hx
        have HLX := Lib.hid hlx
        clear hx hlx
        go_wp2
        go_loopw [6, 8] (fun q j wr => ∃ k : Nat, k ≤ m ∧ j = .int .i64 k ∧ q = .int .i64 (cnt xs ys i k : Nat) ∧ Hid (Own wr base 61 2 (.slice P9 (allP xs ys n).length c9) (allP xs ys n).length (cellsP (allP xs ys n))) ∧ Hid (Below w.heap.size w wr)) (fun _ j _ => m - (intOf j).toNat)
        case atStart => exact ⟨0, Nat.zero_le _, rfl, by rw [cnt_0], HO1, HB⟩
        case round =>
          obtain ⟨k, hk, rfl, rfl, HO2, HB2⟩ := hrel
          clear HO1 HB
          by_cases hl2 : k < m
          · obtain ⟨bd, y, rfl, hy, hly⟩ := at_i HY.out hl2
            have hh := hit_at HXI.out hy
            have hr := Rok.of (req_wf (WX.out x (List.mem_of_getElem? HXI.out)))
            have hd := Dok.of (drv_wf (WY.out y (List.mem_of_getElem? hy)))
            have ext : ∀ W, (Own W base 61 2 (.slice P9 (allP xs ys n).length c9) (allP xs ys n).length (cellsP (allP xs ys n)) ∧ Below w.heap.size w W) → ((Own W base 61 2 (.slice P9 (allP xs ys n).length c9) (allP xs ys n).length (cellsP (allP xs ys n)) ∧ Below w.heap.size w W) ∧ (LA 28 (.pointer (some (ad.add (i * 18))))).run Try.prog W = .ok (.agg (rl (reqOf x)).toArray) W ∧ (LA 30 (.pointer (some (bd.add (k * 14))))).run Try.prog W = .ok (.agg (dl (drvOf y)).toArray) W) :=
              fun W h => ⟨h, HLX.out _ h.2, hly _ h.2⟩
            have EXT := Lib.hid ext
            clear hy hly ext
            by_cases hf : fits (reqOf x) (drvOf y) = true
            · rw [hf] at hh
              have hat := HF.out
              have HH := Lib.hid (cnt_t hh)
              have HHI := Lib.hid hh
              have HF2 := Lib.hid hf
              clear hf hh hat
              go_wp2
              go_region_held3 (fun W => (Own W base 61 2 (.slice P9 (allP xs ys n).length c9) (allP xs ys n).length (cellsP (allP xs ys n)) ∧ Below w.heap.size w W) ∧ (LA 28 (.pointer (some (ad.add (i * 18))))).run Try.prog W = .ok (.agg (rl (reqOf x)).toArray) W ∧ (LA 30 (.pointer (some (bd.add (k * 14))))).run Try.prog W = .ok (.agg (dl (drvOf y)).toArray) W) (first | exact EXT.out _ ⟨own_drew HO2.out, HB2.out.drew⟩ | exact EXT.out _ (keepG hb (And.left (by assumption)))) (first | (go_at_call 12; refine (fits_v (reqOf x) (drvOf y) _ hr hd true HF2).mono ?_; rintro e w' ⟨rfl, hb⟩))
              obtain ⟨⟨h1, h2⟩, _, _⟩ := ‹_ ∧ _ ∧ _›
              have HO3 := Lib.hid h1
              have HB3 := Lib.hid h2
              obtain ⟨g, rfl, hlp, hcl⟩ := own_at h1 hlt (show k < ys.length by rw [HM.out]; exact hl2) HHI.out
              clear h1 h2
              have hlp2 : ¬ (allP xs ys n).length ≤ cnt xs ys i k := by omega
              have hsz : (allP xs ys n).length ≤ 1099511627776 := Nat.le_trans (all_le xs ys n) (by have := Nat.mul_le_mul hn2 (show ys.length ≤ 1048576 by rw [HM.out]; exact hm2); omega)
              go_wp2
              go_roundw
              case rel => exact ⟨k + 1, by omega, by go_num, by rw [HH.out]; push_cast; rfl, HO3, HB3⟩
              case measure => simp [intOf]; omega
            · have hf' : fits (reqOf x) (drvOf y) = false := by simpa using hf
              rw [hf'] at hh
              have HH := Lib.hid (cnt_f hh)
              have HF2 := Lib.hid hf'
              clear hf hf' hh
              go_wp2
              go_region_held3 (fun W => (Own W base 61 2 (.slice P9 (allP xs ys n).length c9) (allP xs ys n).length (cellsP (allP xs ys n)) ∧ Below w.heap.size w W) ∧ (LA 28 (.pointer (some (ad.add (i * 18))))).run Try.prog W = .ok (.agg (rl (reqOf x)).toArray) W ∧ (LA 30 (.pointer (some (bd.add (k * 14))))).run Try.prog W = .ok (.agg (dl (drvOf y)).toArray) W) (first | exact EXT.out _ ⟨own_drew HO2.out, HB2.out.drew⟩ | exact EXT.out _ (keepG hb (And.left (by assumption)))) (first | (go_at_call 12; refine (fits_v (reqOf x) (drvOf y) _ hr hd false HF2).mono ?_; rintro e w' ⟨rfl, hb⟩))
              go_wp2
              go_roundw
              case rel =>
                obtain ⟨⟨h1, h2⟩, _, _⟩ := ‹_ ∧ _ ∧ _›
                exact ⟨k + 1, by omega, by go_num, by rw [HH.out], h1, h2⟩
              case measure => simp [intOf]; omega
          · obtain rfl : k = m := by omega
            have HE := Lib.hid (cnt_e (xs := xs) (i := i) HM.out)
            go_wp2
            go_roundw
            case rel => exact ⟨i + 1, by omega, by go_num, by rw [HE.out], HO2, HB2⟩
            case measure => simp [intOf]; omega
      · obtain rfl : i = n := by omega
        go_wp2
        go_ret
        refine ⟨?_, HB.out⟩
        have e : ((cnt0 xs ys i : Nat) : Int) = (((allP xs ys i).length : Nat) : Int) := rfl
        simp [e]
end Go.Proofs.Yteeocipidlnnlaa.Listed
