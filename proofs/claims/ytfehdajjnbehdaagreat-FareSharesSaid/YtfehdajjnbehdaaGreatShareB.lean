/- Contract of Share, where the parts are told. -/
import Derived.Test.YtfehdajjnbehdaaGreatShare
import Derived.BigRegion
namespace Go.Proofs.YtfehdajjnbehdaaGreat.Share
open Go.RowKit Go.Proofs.YtfehdajjnbehdaaGreat.Aid Go.Proofs.YtfehdajjnbehdaaGreat.Mem Go.Proofs.YtfehdajjnbehdaaGreat.Keep Go.Proofs.YtfehdajjnbehdaaGreat.ShareP Go.Proofs.YtfehdajjnbehdaaGreat.Nums
set_option linter.unusedSimpArgs false
set_option linter.unusedVariables false
set_option maxRecDepth 100000
theorem qs_take (a t : Int) (ws : List Int) (k : Nat) : (qs a t ws).take k = qs a t (ws.take k) := by unfold qs; rw [List.map_take]
theorem left_in {a : Int} {ws : List Int} (hg : good a ws = true) (k : Nat) : 0 ≤ a - tot ((qs a (tot ws) ws).take k) ∧ a - tot ((qs a (tot ws) ws).take k) ≤ a := by
  obtain ⟨h1, h2, h3⟩ := good_iff.1 hg
  have h0 : ∀ w ∈ ws, 0 ≤ w := fun w hw => (h2 w hw).1
  have ht := tot_nonneg ws h0
  obtain ⟨t1, t2⟩ := tot_take_le h0 k
  have e := qr_tot a (tot ws) (ws.take k)
  rw [qs_take]
  have hr : 0 ≤ tot (rs a (tot ws) (ws.take k)) := tot_nonneg _ fun x hx => by
    unfold rs at hx
    obtain ⟨w, _, rfl⟩ := List.mem_map.1 hx
    exact Int.emod_nonneg _ h3
  have hq : 0 ≤ tot (qs a (tot ws) (ws.take k)) := tot_nonneg _ fun x hx => by
    unfold qs at hx
    obtain ⟨w, hw, rfl⟩ := List.mem_map.1 hx
    exact Int.ediv_nonneg (Int.mul_nonneg h1.1 (h0 w (List.mem_of_mem_take hw))) ht
  have hm : a * tot (ws.take k) ≤ a * tot ws := Int.mul_le_mul_of_nonneg_left t2 h1.1
  refine ⟨?_, by omega⟩
  refine Int.not_lt.1 fun hc => ?_
  have : tot ws * (a + 1) ≤ tot ws * tot (qs a (tot ws) (ws.take k)) := Int.mul_le_mul_of_nonneg_left (by omega) ht
  rw [Int.mul_add, Int.mul_comm (tot ws) a] at this
  omega
theorem prod_in {a x : Int} (ha : 0 ≤ a ∧ a ≤ 1099511627776) (hx : 0 ≤ x ∧ x ≤ 1048576) : 0 ≤ a * x ∧ a * x ≤ 1152921504606846976 :=
  ⟨Int.mul_nonneg ha.1 hx.1, Int.le_trans (Int.mul_le_mul ha.2 hx.2 hx.1 (by omega)) (by decide)⟩
/-- What is in the lists behind j cents. -/
theorem many_in {a : Int} {ws : List Int} (hg : good a ws = true) (j : Nat) (hj : (j : Int) ≤ leftN a ws) (i : Nat) (hi : i < ws.length) :
    0 ≤ nth (many j (qs a (tot ws) ws, rs a (tot ws) ws)).1 i ∧ nth (many j (qs a (tot ws) ws, rs a (tot ws) ws)).1 i ≤ 1152921504606846977 := by
  obtain ⟨h1, h2, h3⟩ := good_iff.1 hg
  have ht := tot_nonneg ws fun w hw => (h2 w hw).1
  have hI := (inv_many (Q := qs a (tot ws) ws) (R := rs a (tot ws) ws) (t := tot ws) (L := leftN a ws) (by simp [qs, rs]) (fun i hi => ?_) ?_ (by omega) j hj).1
  · have he := hI.each i (by simp [qs]; exact hi)
    rw [qs_nth hi] at he
    obtain ⟨p0, p1⟩ := prod_in h1 (h2 _ (nth_mem hi))
    have q0 : 0 ≤ a * nth ws i / tot ws := Int.ediv_nonneg p0 ht
    have q1 : a * nth ws i / tot ws ≤ a * nth ws i := Int.ediv_le_self _ p0
    rcases he with ⟨_, e, _⟩ | ⟨_, e⟩ <;> omega
  · have hi' : i < ws.length := by simpa [qs] using hi
    rw [rs_nth hi']
    exact ⟨Int.emod_nonneg _ h3, Int.emod_lt_of_pos _ (by omega)⟩
  · rw [pos_of _ fun x hx => ?_, rs_tot]
    · exact Int.le_refl _
    · unfold rs at hx
      obtain ⟨w, _, rfl⟩ := List.mem_map.1 hx
      exact Int.emod_nonneg _ h3
theorem fill_zero (l : List Int) (n : Nat) : fill l n 0 = List.replicate n (.int .i64 0) := by simp [fill, nums]
theorem two_new (w : World) (k : Nat) : ∃ W0 g0 g1, ((w.alloc (.cells (madeCells #[.int .i64 0] k) 3)).alloc (.cells (madeCells #[.int .i64 0] k) 3)).drew = W0 ∧ w.heap.size = g0 ∧ w.heap.size + 1 = g1 ∧ Blk W0 g0 3 (List.replicate k (.int .i64 0)) ∧ Blk W0 g1 3 (List.replicate k (.int .i64 0)) ∧ Below w.heap.size w W0 ∧ w.heap.size ≤ g0 ∧ w.heap.size ≤ g1 ∧ g0 ≠ g1 := by
  refine ⟨_, _, _, rfl, rfl, rfl, ?_, ?_, (kba (kba (Below.refl _ _) _) _).drew, Nat.le_refl _, by omega, by omega⟩
  · rw [made_list]; exact ((Blk.new w 3 (List.replicate k (.int .i64 0))).alloc _).drew
  · rw [made_list]
    have := Blk.new (w.alloc (.cells (List.replicate k (Value.int .i64 0)).toArray 3)) 3 (List.replicate k (.int .i64 0))
    rw [size_alloc] at this
    exact this.drew
theorem floor_v (a b q r : Int) (w : World) (ha : 0 ≤ a ∧ a ≤ 4611686018427387903) (hb : 0 < b ∧ b ≤ 4611686018427387903) (hq : Hid (a / b = q)) (hr : Hid (a % b = r)) :
    Calls Tryz.prog 13 #[.int .i64 a, .int .i64 b] w fun e w' => e = .returned (.tuple #[.int .i64 q, .int .i64 r, .bool true]) ∧ Dr w w' := by
  obtain rfl := hq.out
  obtain rfl := hr.out
  exact floor_c a b w ha hb
theorem bst_in {cs : List Int} {m k : Nat} (hm : m ≤ k) (hk : 0 < k) : bst cs m < k := by
  rcases Nat.eq_zero_or_pos m with h | h
  · subst h; exact hk
  · have := bst_lt cs m h; omega
theorem fill_at {l : List Int} {n k : Nat} {x : Int} (hx : l[k]? = some x) : (fill l n (k + 1))[k]? = some (.int .i64 x) := by
  unfold fill
  have hk := (List.getElem?_eq_some_iff.1 hx).1
  rw [List.getElem?_append_left (by simp [nums]; omega)]
  unfold nums
  rw [List.getElem?_map, List.getElem?_take_of_lt (by omega), hx]; rfl
set_option maxHeartbeats 4000000 in
theorem share_ok (a : Int) (ws : List Int) (A : Option Addr) (n c : Nat) (w : World) (h : Ints w .i64 A n ws) (hn : n ≤ 1048576) (hg : good a ws = true) :
    Calls Tryz.prog 7 #[.int .i64 a, .slice A n c] w fun e w' => (∃ g, e = .returned (.tuple #[.slice (some ⟨g, 0, none⟩) n n, .int .i64 0]) ∧ w.heap.size ≤ g ∧ Blk w' g 3 (nums .i64 (share a ws))) ∧ Below w.heap.size w w' := by
  have H := Lib.hid h
  have HG := Lib.hid hg
  have HL : Hid (ws.length = n) := Lib.hid h.1
  obtain ⟨⟨a0, a1⟩, HA, hz0⟩ := good_iff.1 hg
  have hz : (tot ws == 0) = false := by simpa using hz0
  have HA := Lib.hid HA
  have mk := make_ints n (by omega)
  clear h hg hz0
  go_enter Tryz.func7, Tryz.ntmps7
  go_wp2_with (fail)
  go_loop [6, 19] (fun t i => ∃ k : Nat, k ≤ n ∧ i = .int .i64 k ∧ t = .int .i64 (tot (ws.take k)) ∧ 0 ≤ tot (ws.take k) ∧ tot (ws.take k) ≤ 1048576 * k) (fun _ i => n - (intOf i).toNat)
  case atStart => exact ⟨0, Nat.zero_le _, rfl, by simp [tot], by simp [tot], by simp [tot]⟩
  case round =>
    obtain ⟨k, hk, rfl, rfl, s0, s1⟩ := hrel
    by_cases hlt : k < n
    · obtain ⟨ad, x, rfl, hx, hc⟩ := H.out.at_ hlt
      have hs := tot_snoc ws k x hx
      obtain ⟨x0, x1⟩ := HA.out x (List.mem_of_getElem? hx)
      clear hx
      go_wp2
      go_round
      case rel => exact ⟨k + 1, by omega, by go_num, by go_num, by omega, by push_cast; omega⟩
      case measure => simp [intOf]; omega
    · obtain rfl : k = n := by omega
      have ht : ws.take k = ws := List.take_of_length_le (by have := HL.out; omega)
      rw [ht] at s0 s1 ⊢
      go_wp2
      go_region
      · refine Exists.elim (two_new w k) ?_
        rintro W0 ⟨gO, gC, eW, e0, e1, hbO, hbC, hbel, leO, leC, hne⟩
        rw [eW, e1, e0]
        clear eW e0 e1
        have NE : Hid (gO ≠ gC) := Lib.hid (by omega)
        have HBO : Hid (Blk W0 gO 3 (fill (qs a (tot ws) ws) k 0)) := Lib.hid (by rw [fill_zero]; exact hbO)
        have HBC : Hid (Blk W0 gC 3 (fill (rs a (tot ws) ws) k 0)) := Lib.hid (by rw [fill_zero]; exact hbC)
        have HBL := Lib.hid hbel
        have LE := Lib.hid (And.intro leO leC)
        have LQ : Hid ((qs a (tot ws) ws).length = k) := Lib.hid (by have := HL.out; simpa [qs] using this)
        have LR : Hid ((rs a (tot ws) ws).length = k) := Lib.hid (by have := HL.out; simpa [rs] using this)
        have hT : 0 < tot ws ∧ tot ws ≤ 4611686018427387903 := by
          have : tot ws ≠ 0 := by simpa using hz
          omega
        clear hbO hbC hbel hne leO leC
        go_wp2
        go_loopw [11, 52] (fun l i wr => ∃ j : Nat, j ≤ k ∧ i = .int .i64 j ∧ l = .int .i64 (a - tot ((qs a (tot ws) ws).take j)) ∧ Hid (Blk wr gO 3 (fill (qs a (tot ws) ws) k j)) ∧ Hid (Blk wr gC 3 (fill (rs a (tot ws) ws) k j)) ∧ Hid (Below w.heap.size w wr)) (fun _ i _ => k - (intOf i).toNat)
        case atStart => exact ⟨0, Nat.zero_le _, rfl, by simp [tot], HBO, HBC, HBL⟩
        case round =>
          obtain ⟨j, hj, rfl, rfl, HO, HC, HB⟩ := hrel
          clear HBO HBC HBL
          by_cases hl2 : j < k
          · obtain ⟨ad, x, rfl, hx, hc0⟩ := H.out.at_ hl2
            have hc := (HB.out.cell (World.block_lt_of_cell? w _ hc0)).trans hc0
            have hP := prod_in ⟨a0, a1⟩ (HA.out x (List.mem_of_getElem? hx))
            have hw : IntKind.i64.wrap (a * x) = a * x := wrap_in (by omega) (by omega)
            obtain ⟨P, eP⟩ : ∃ P, a * x = P := ⟨_, rfl⟩
            obtain ⟨q, eq⟩ : ∃ q, P / tot ws = q := ⟨_, rfl⟩
            obtain ⟨r, er⟩ : ∃ r, P % tot ws = r := ⟨_, rfl⟩
            have EQ := Lib.hid eq
            have ER := Lib.hid er
            have hxq : (qs a (tot ws) ws)[j]? = some q := by unfold qs; rw [List.getElem?_map, hx, ← eq, ← eP]; rfl
            have hxr : (rs a (tot ws) ws)[j]? = some r := by unfold rs; rw [List.getElem?_map, hx, ← er, ← eP]; rfl
            have hs := tot_snoc _ j q hxq
            have l1 := left_in HG.out j
            have l2 := left_in HG.out (j + 1)
            rw [eP] at hw hP
            have hw' : IntKind.i64.wrap (a * x) = P := by rw [eP]; exact hw
            have HQX := Lib.hid hxq
            have HRX := Lib.hid hxr
            have hP2 : 0 ≤ P ∧ P ≤ 4611686018427387903 := by omega
            clear eq er hxq hxr hx hc0 hw
            go_wp2_with (first | (go_at_call 13; (with_reducible refine (floor_v P (tot ws) q r _ hP2 hT EQ ER).mono ?_); rintro e w' ⟨rfl, nd, rfl⟩; have o1 := HO.out.drewN nd; have c1 := HC.out.drewN nd; have f1 := o1.cellv (fill_cell hl2 LQ.out); have f2 := o1.free j; have c2 := c1.far (p := ⟨gO, j, none⟩) (fun e => NE.out e.symm) (.int .i64 q); have f3 := c2.cellv (fill_cell hl2 LR.out); have f4 := c2.free j; have o2 := o1.put j (.int .i64 q); have o3 := o2.far (p := ⟨gC, j, none⟩) NE.out (.int .i64 r); have c3 := c2.put j (.int .i64 r); rw [fill_set HQX.out hl2 LQ.out] at o3; rw [fill_set HRX.out hl2 LR.out] at c3; have f5 := o3.cellv (fill_at HQX.out); have HO3 := Lib.hid o3; have HC3 := Lib.hid c3; have HB3 := Lib.hid (((below_drewN HB.out nd).setCell (p := ⟨gO, j, none⟩) LE.out.1 (.int .i64 q)).setCell (p := ⟨gC, j, none⟩) LE.out.2 (.int .i64 r)); clear o1 c1 c2 o2 o3 c3))
            go_roundw
            case rel => exact ⟨j + 1, by omega, by go_num, by go_num, HO3, HC3, HB3⟩
            case measure => simp [intOf]; omega
          · obtain rfl : j = k := by omega
            have eQ := fill_done LQ.out
            have eR := fill_done LR.out
            have eL : a - tot ((qs a (tot ws) ws).take j) = leftN a ws := by rw [List.take_of_length_le (by rw [LQ.out]; omega)]; rfl
            rw [eQ] at HO
            rw [eR] at HC
            rw [eL]
            have lp := leftN_pos HG.out
            have hk0 : 0 < j := by
              rcases Nat.eq_zero_or_pos j with h0 | h0
              · have : ws = [] := List.length_eq_zero_iff.1 (by rw [HL.out, h0])
                rw [this] at hT
                simp [tot] at hT
              · exact h0
            clear eQ eR
            have lm : leftN a ws ≤ a := by rw [← eL]; exact (left_in HG.out j).2
            clear eL
            go_wp2
            go_loopw [80] (fun i wr => ∃ m : Nat, (m : Int) ≤ leftN a ws ∧ i = .int .i64 m ∧ Hid (Blk wr gO 3 (nums .i64 (many m ((qs a (tot ws) ws), (rs a (tot ws) ws))).1)) ∧ Hid (Blk wr gC 3 (nums .i64 (many m ((qs a (tot ws) ws), (rs a (tot ws) ws))).2)) ∧ Hid (Below w.heap.size w wr)) (fun i _ => (leftN a ws).toNat - (intOf i).toNat)
            case atStart => exact ⟨0, by simpa using lp, rfl, HO, HC, HB⟩
            case round =>
              obtain ⟨m, hm, rfl, HO, HC, HB⟩ := hrel
              by_cases hl3 : (m : Int) < leftN a ws
              · have hin := many_in HG.out m hm
                have hlen := many_len ((qs a (tot ws) ws), (rs a (tot ws) ws)) m
                obtain ⟨os, cs, es⟩ : ∃ os cs, many m ((qs a (tot ws) ws), (rs a (tot ws) ws)) = (os, cs) := ⟨_, _, rfl⟩
                rw [es] at HO HC hin hlen
                have HM : Hid (many (m + 1) ((qs a (tot ws) ws), (rs a (tot ws) ws)) = one (os, cs)) := Lib.hid (by show one (many m _) = _; rw [es])
                have lo : os.length = j := hlen.1.trans LQ.out
                have lc : cs.length = j := hlen.2.trans LR.out
                clear es hlen
                go_wp2
                go_loopw [14, 84] (fun b i wr' => ∃ t : Nat, t ≤ j ∧ i = .int .i64 t ∧ b = .int .i64 ((bst cs t : Nat) : Int) ∧ wr' = wr) (fun _ i _ => j - (intOf i).toNat)
                case atStart => exact ⟨0, Nat.zero_le _, rfl, rfl, rfl⟩
                case round =>
                  obtain ⟨t, ht, rfl, rfl, rfl⟩ := hrel
                  have hbt := bst_in (cs := cs) ht hk0
                  have g2 := HC.out.cellv (nums_nth (show bst cs t < cs.length by omega))
                  by_cases hl4 : t < j
                  · have g1 := HC.out.cellv (nums_nth (show t < cs.length by omega))
                    by_cases hcm : nth cs (bst cs t) < nth cs t
                    · have hb1 : bst cs (t + 1) = t := if_pos hcm
                      go_wp2
                      go_roundw
                      case rel => exact ⟨t + 1, by omega, by go_num, by rw [hb1], trivial⟩
                      case measure => simp [intOf]; omega
                    · have hb1 : bst cs (t + 1) = bst cs t := if_neg hcm
                      go_wp2
                      go_roundw
                      case rel => exact ⟨t + 1, by omega, by go_num, by rw [hb1], trivial⟩
                      case measure => simp [intOf]; omega
                  · obtain rfl : t = j := by omega
                    have hbw := hin (bst cs t) (by rw [HL.out]; omega)
                    have hone : one (os, cs) = (os.set (bst cs t) (nth os (bst cs t) + 1), cs.set (bst cs t) (-1)) := by unfold one; dsimp only; rw [lc]
                    obtain ⟨b, eb⟩ : ∃ b, bst cs t = b := ⟨_, rfl⟩
                    rw [eb] at hbt hbw hone g2 ⊢
                    have o1 := HO.out
                    have g3 := o1.cellv (nums_nth (show b < os.length by omega))
                    have g4 := o1.free b
                    have c2 := HC.out.far (p := ⟨gO, b, none⟩) (fun e => NE.out e.symm) (.int .i64 (nth os b + 1))
                    have g5 := c2.cellv (nums_nth (show b < cs.length by omega))
                    have g6 := c2.free b
                    have HO3 := Lib.hid ((o1.put b (.int .i64 (nth os b + 1))).far (p := ⟨gC, b, none⟩) NE.out (.int .i64 (-1)))
                    have HC3 := Lib.hid (c2.put b (.int .i64 (-1)))
                    rw [nums_set] at HO3 HC3
                    have HB3 := Lib.hid ((HB.out.setCell (p := ⟨gO, b, none⟩) LE.out.1 (.int .i64 (nth os b + 1))).setCell (p := ⟨gC, b, none⟩) LE.out.2 (.int .i64 (-1)))
                    rw [hone] at HM
                    clear hin hone o1 c2 eb
                    obtain ⟨y, ey⟩ : ∃ y, nth os b = y := ⟨_, rfl⟩
                    rw [ey] at *
                    go_wp2
                    go_roundw
                    case rel => exact ⟨m + 1, by push_cast; omega, by go_num, by rw [HM.out]; exact HO3, by rw [HM.out]; exact HC3, HB3⟩
                    case measure => simp [intOf]; omega
              · have em : m = (leftN a ws).toNat := by omega
                have HS : Hid (Blk wr gO 3 (nums .i64 (share a ws))) := Lib.hid (by have := HO.out; rw [em] at this; exact this)
                go_wp2
                go_ret2
                exact ⟨⟨gO, rfl, LE.out.1, HS.out⟩, HB.out⟩
      · refine Exists.elim (two_new w k) ?_
        rintro W0 ⟨gC, gO, eW, e0, e1, hbC, hbO, hbel, leC, leO, hne⟩
        rw [eW, e1, e0]
        clear eW e0 e1
        have NE : Hid (gO ≠ gC) := Lib.hid (by omega)
        have HBO : Hid (Blk W0 gO 3 (fill (qs a (tot ws) ws) k 0)) := Lib.hid (by rw [fill_zero]; exact hbO)
        have HBC : Hid (Blk W0 gC 3 (fill (rs a (tot ws) ws) k 0)) := Lib.hid (by rw [fill_zero]; exact hbC)
        have HBL := Lib.hid hbel
        have LE := Lib.hid (And.intro leO leC)
        have LQ : Hid ((qs a (tot ws) ws).length = k) := Lib.hid (by have := HL.out; simpa [qs] using this)
        have LR : Hid ((rs a (tot ws) ws).length = k) := Lib.hid (by have := HL.out; simpa [rs] using this)
        have hT : 0 < tot ws ∧ tot ws ≤ 4611686018427387903 := by
          have : tot ws ≠ 0 := by simpa using hz
          omega
        clear hbO hbC hbel hne leO leC
        go_wp2
        go_loopw [11, 52] (fun l i wr => ∃ j : Nat, j ≤ k ∧ i = .int .i64 j ∧ l = .int .i64 (a - tot ((qs a (tot ws) ws).take j)) ∧ Hid (Blk wr gO 3 (fill (qs a (tot ws) ws) k j)) ∧ Hid (Blk wr gC 3 (fill (rs a (tot ws) ws) k j)) ∧ Hid (Below w.heap.size w wr)) (fun _ i _ => k - (intOf i).toNat)
        case atStart => exact ⟨0, Nat.zero_le _, rfl, by simp [tot], HBO, HBC, HBL⟩
        case round =>
          obtain ⟨j, hj, rfl, rfl, HO, HC, HB⟩ := hrel
          clear HBO HBC HBL
          by_cases hl2 : j < k
          · obtain ⟨ad, x, rfl, hx, hc0⟩ := H.out.at_ hl2
            have hc := (HB.out.cell (World.block_lt_of_cell? w _ hc0)).trans hc0
            have hP := prod_in ⟨a0, a1⟩ (HA.out x (List.mem_of_getElem? hx))
            have hw : IntKind.i64.wrap (a * x) = a * x := wrap_in (by omega) (by omega)
            obtain ⟨P, eP⟩ : ∃ P, a * x = P := ⟨_, rfl⟩
            obtain ⟨q, eq⟩ : ∃ q, P / tot ws = q := ⟨_, rfl⟩
            obtain ⟨r, er⟩ : ∃ r, P % tot ws = r := ⟨_, rfl⟩
            have EQ := Lib.hid eq
            have ER := Lib.hid er
            have hxq : (qs a (tot ws) ws)[j]? = some q := by unfold qs; rw [List.getElem?_map, hx, ← eq, ← eP]; rfl
            have hxr : (rs a (tot ws) ws)[j]? = some r := by unfold rs; rw [List.getElem?_map, hx, ← er, ← eP]; rfl
            have hs := tot_snoc _ j q hxq
            have l1 := left_in HG.out j
            have l2 := left_in HG.out (j + 1)
            rw [eP] at hw hP
            have hw' : IntKind.i64.wrap (a * x) = P := by rw [eP]; exact hw
            have HQX := Lib.hid hxq
            have HRX := Lib.hid hxr
            have hP2 : 0 ≤ P ∧ P ≤ 4611686018427387903 := by omega
            clear eq er hxq hxr hx hc0 hw
            go_wp2_with (first | (go_at_call 13; (with_reducible refine (floor_v P (tot ws) q r _ hP2 hT EQ ER).mono ?_); rintro e w' ⟨rfl, nd, rfl⟩; have o1 := HO.out.drewN nd; have c1 := HC.out.drewN nd; have f1 := o1.cellv (fill_cell hl2 LQ.out); have f2 := o1.free j; have c2 := c1.far (p := ⟨gO, j, none⟩) (fun e => NE.out e.symm) (.int .i64 q); have f3 := c2.cellv (fill_cell hl2 LR.out); have f4 := c2.free j; have o2 := o1.put j (.int .i64 q); have o3 := o2.far (p := ⟨gC, j, none⟩) NE.out (.int .i64 r); have c3 := c2.put j (.int .i64 r); rw [fill_set HQX.out hl2 LQ.out] at o3; rw [fill_set HRX.out hl2 LR.out] at c3; have f5 := o3.cellv (fill_at HQX.out); have HO3 := Lib.hid o3; have HC3 := Lib.hid c3; have HB3 := Lib.hid (((below_drewN HB.out nd).setCell (p := ⟨gO, j, none⟩) LE.out.1 (.int .i64 q)).setCell (p := ⟨gC, j, none⟩) LE.out.2 (.int .i64 r)); clear o1 c1 c2 o2 o3 c3))
            go_roundw
            case rel => exact ⟨j + 1, by omega, by go_num, by go_num, HO3, HC3, HB3⟩
            case measure => simp [intOf]; omega
          · obtain rfl : j = k := by omega
            have eQ := fill_done LQ.out
            have eR := fill_done LR.out
            have eL : a - tot ((qs a (tot ws) ws).take j) = leftN a ws := by rw [List.take_of_length_le (by rw [LQ.out]; omega)]; rfl
            rw [eQ] at HO
            rw [eR] at HC
            rw [eL]
            have lp := leftN_pos HG.out
            have hk0 : 0 < j := by
              rcases Nat.eq_zero_or_pos j with h0 | h0
              · have : ws = [] := List.length_eq_zero_iff.1 (by rw [HL.out, h0])
                rw [this] at hT
                simp [tot] at hT
              · exact h0
            clear eQ eR
            have lm : leftN a ws ≤ a := by rw [← eL]; exact (left_in HG.out j).2
            clear eL
            go_wp2
            go_loopw [80] (fun i wr => ∃ m : Nat, (m : Int) ≤ leftN a ws ∧ i = .int .i64 m ∧ Hid (Blk wr gO 3 (nums .i64 (many m ((qs a (tot ws) ws), (rs a (tot ws) ws))).1)) ∧ Hid (Blk wr gC 3 (nums .i64 (many m ((qs a (tot ws) ws), (rs a (tot ws) ws))).2)) ∧ Hid (Below w.heap.size w wr)) (fun i _ => (leftN a ws).toNat - (intOf i).toNat)
            case atStart => exact ⟨0, by simpa using lp, rfl, HO, HC, HB⟩
            case round =>
              obtain ⟨m, hm, rfl, HO, HC, HB⟩ := hrel
              by_cases hl3 : (m : Int) < leftN a ws
              · have hin := many_in HG.out m hm
                have hlen := many_len ((qs a (tot ws) ws), (rs a (tot ws) ws)) m
                obtain ⟨os, cs, es⟩ : ∃ os cs, many m ((qs a (tot ws) ws), (rs a (tot ws) ws)) = (os, cs) := ⟨_, _, rfl⟩
                rw [es] at HO HC hin hlen
                have HM : Hid (many (m + 1) ((qs a (tot ws) ws), (rs a (tot ws) ws)) = one (os, cs)) := Lib.hid (by show one (many m _) = _; rw [es])
                have lo : os.length = j := hlen.1.trans LQ.out
                have lc : cs.length = j := hlen.2.trans LR.out
                clear es hlen
                go_wp2
                go_loopw [14, 84] (fun b i wr' => ∃ t : Nat, t ≤ j ∧ i = .int .i64 t ∧ b = .int .i64 ((bst cs t : Nat) : Int) ∧ wr' = wr) (fun _ i _ => j - (intOf i).toNat)
                case atStart => exact ⟨0, Nat.zero_le _, rfl, rfl, rfl⟩
                case round =>
                  obtain ⟨t, ht, rfl, rfl, rfl⟩ := hrel
                  have hbt := bst_in (cs := cs) ht hk0
                  have g2 := HC.out.cellv (nums_nth (show bst cs t < cs.length by omega))
                  by_cases hl4 : t < j
                  · have g1 := HC.out.cellv (nums_nth (show t < cs.length by omega))
                    by_cases hcm : nth cs (bst cs t) < nth cs t
                    · have hb1 : bst cs (t + 1) = t := if_pos hcm
                      go_wp2
                      go_roundw
                      case rel => exact ⟨t + 1, by omega, by go_num, by rw [hb1], trivial⟩
                      case measure => simp [intOf]; omega
                    · have hb1 : bst cs (t + 1) = bst cs t := if_neg hcm
                      go_wp2
                      go_roundw
                      case rel => exact ⟨t + 1, by omega, by go_num, by rw [hb1], trivial⟩
                      case measure => simp [intOf]; omega
                  · obtain rfl : t = j := by omega
                    have hbw := hin (bst cs t) (by rw [HL.out]; omega)
                    have hone : one (os, cs) = (os.set (bst cs t) (nth os (bst cs t) + 1), cs.set (bst cs t) (-1)) := by unfold one; dsimp only; rw [lc]
                    obtain ⟨b, eb⟩ : ∃ b, bst cs t = b := ⟨_, rfl⟩
                    rw [eb] at hbt hbw hone g2 ⊢
                    have o1 := HO.out
                    have g3 := o1.cellv (nums_nth (show b < os.length by omega))
                    have g4 := o1.free b
                    have c2 := HC.out.far (p := ⟨gO, b, none⟩) (fun e => NE.out e.symm) (.int .i64 (nth os b + 1))
                    have g5 := c2.cellv (nums_nth (show b < cs.length by omega))
                    have g6 := c2.free b
                    have HO3 := Lib.hid ((o1.put b (.int .i64 (nth os b + 1))).far (p := ⟨gC, b, none⟩) NE.out (.int .i64 (-1)))
                    have HC3 := Lib.hid (c2.put b (.int .i64 (-1)))
                    rw [nums_set] at HO3 HC3
                    have HB3 := Lib.hid ((HB.out.setCell (p := ⟨gO, b, none⟩) LE.out.1 (.int .i64 (nth os b + 1))).setCell (p := ⟨gC, b, none⟩) LE.out.2 (.int .i64 (-1)))
                    rw [hone] at HM
                    clear hin hone o1 c2 eb
                    obtain ⟨y, ey⟩ : ∃ y, nth os b = y := ⟨_, rfl⟩
                    rw [ey] at *
                    go_wp2
                    go_roundw
                    case rel => exact ⟨m + 1, by push_cast; omega, by go_num, by rw [HM.out]; exact HO3, by rw [HM.out]; exact HC3, HB3⟩
                    case measure => simp [intOf]; omega
              · have em : m = (leftN a ws).toNat := by omega
                have HS : Hid (Blk wr gO 3 (nums .i64 (share a ws))) := Lib.hid (by have := HO.out; rw [em] at this; exact this)
                go_wp2
                go_ret2
                exact ⟨⟨gO, rfl, LE.out.1, HS.out⟩, HB.out⟩
end Go.Proofs.YtfehdajjnbehdaaGreat.Share
