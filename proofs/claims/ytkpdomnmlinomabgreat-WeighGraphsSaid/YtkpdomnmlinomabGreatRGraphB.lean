/- Contract of the document's Graph, where configuration, tick and sizes may be. -/
import Derived.Test.YtkpdomnmlinomabGreatRGraph
import Derived.Test.YtkpdomnmlinomabGreatGrV
import Derived.RegionTactic
import Derived.BigRegion
namespace Go.Proofs.YtkpdomnmlinomabGreat.RGraph
open Go.RowKit Go.Proofs.YtkpdomnmlinomabGreat.Aid Go.Proofs.YtkpdomnmlinomabGreat.Mem Go.Proofs.YtkpdomnmlinomabGreat.Types Go.Proofs.YtkpdomnmlinomabGreat.Fit Go.Proofs.YtkpdomnmlinomabGreat.Mays Go.Proofs.YtkpdomnmlinomabGreat.Keep Go.Proofs.YtkpdomnmlinomabGreat.Weight Go.Proofs.YtkpdomnmlinomabGreat.Weights Go.Proofs.YtkpdomnmlinomabGreat.Recs Go.Proofs.YtkpdomnmlinomabGreat.PairsG Go.Proofs.YtkpdomnmlinomabGreat.Graph Go.Proofs.YtkpdomnmlinomabGreat.GraphB Go.Proofs.YtkpdomnmlinomabGreat.GrV
set_option linter.unusedSimpArgs false
set_option linter.unusedVariables false
set_option maxRecDepth 100000
theorem load_pair (v : Value) : Instr.loadAt 95 v = LA 95 v := rfl
attribute [local go_sem ↓] Keep.load_req Keep.load_drv Keep.load_cfg Weights.load_wai TwinS.load_idl ap_eq
theorem rcd_v (d : Drv) (w : World) (s0 : 0 ≤ d.seats) (e : Int) (he : Hid (drvErr d = e)) : Calls Tryz.prog 19 #[d.val] w fun r w' => r = .returned (.int .i64 e) ∧ Below w.heap.size w w' := by
  obtain ⟨b3, hb3⟩ : ∃ b, decide (0 ≤ d.radius ∧ d.radius ≤ 131070) = b := ⟨_, rfl⟩
  obtain rfl := he.out
  have H3 := Lib.hid hb3
  by_cases h1 : 0 < d.seats
  · by_cases h2 : d.cls ≤ 7
    · cases b3 with
      | true =>
        have e0 : drvErr d = 0 := (drvErr_yes ⟨h1, h2, by simpa using hb3⟩).symm
        rw [e0]
        clear hb3 e0
        go_enter Tryz.func19, Tryz.ntmps19
        go_wp2_with (first | (go_at_call 107; (with_reducible refine (within_c d.radius 0 131070 _ true H3.out).mono ?_); rintro e w9 ⟨rfl, rfl⟩))
        go_ret
        exact ⟨rfl, by repeat' (first | exact Below.refl _ _ | apply below_drewN | apply ba)⟩
      | false =>
        have e0 : drvErr d = 1 := (drvErr_no (fun h => by have := h.2.2; simp [this] at hb3)).symm
        rw [e0]
        clear hb3 e0
        go_enter Tryz.func19, Tryz.ntmps19
        go_wp2_with (first | (go_at_call 107; (with_reducible refine (within_c d.radius 0 131070 _ false H3.out).mono ?_); rintro e w9 ⟨rfl, rfl⟩))
        go_ret
        exact ⟨rfl, by repeat' (first | exact Below.refl _ _ | apply below_drewN | apply ba)⟩
    · have e0 : drvErr d = 1 := (drvErr_no (fun h => h2 h.2.1)).symm
      rw [e0]
      have d2 : decide (d.cls ≤ 7) = false := decide_eq_false h2
      have h2' : 7 < d.cls := by omega
      clear hb3 e0 H3
      go_enter Tryz.func19, Tryz.ntmps19
      go_wp2
      go_ret
      exact ⟨rfl, by repeat' (first | exact Below.refl _ _ | apply below_drewN | apply ba)⟩
  · have e0 : drvErr d = 1 := (drvErr_no (fun h => h1 h.1)).symm
    rw [e0]
    have h1' : d.seats = 0 := by omega
    clear hb3 e0 H3
    go_enter Tryz.func19, Tryz.ntmps19
    go_wp2
    go_ret
    exact ⟨rfl, by repeat' (first | exact Below.refl _ _ | apply below_drewN | apply ba)⟩
theorem r_v (c : Cfg) (now : Int) (x : Wai) (w : World) (hx : x.wf) (v e : Int) (hv : Hid (wV c now x = v)) (he : Hid (wE c now x = e)) : Calls Tryz.prog 18 #[c.val, .int .i64 now, x.val] w fun r w' => r = .returned (.tuple #[.int .i64 v, .int .i64 e]) ∧ Below w.heap.size w w' := by
  have h := r_c c now x w hx
  rw [hv.out, he.out] at h
  exact h
theorem wts_take {c : Cfg} {now : Int} {xs : List Wai} {k : Nat} {x : Wai} (hx : xs[k]? = some x) : nums .i64 ((wts c now xs).take k) ++ [.int .i64 (wV c now x)] = nums .i64 ((wts c now xs).take (k + 1)) := by
  have hw : (wts c now xs)[k]? = some (wV c now x) := by unfold wts; rw [List.getElem?_map, hx]; rfl
  rw [take_snoc _ k _ hw]
  simp [nums]
set_option maxHeartbeats 8000000 in
theorem own_ne {W : World} {B B' s s' n n' : Nat} {t t' : TypeId} {v u : Value} {l l' : List Value} (h : Own W B t s v n l) (h' : Own W B' t' s' u n' l') (ht : t ≠ t') : ∀ b, v.ownBlock = some b → u.ownBlock ≠ some b := by
  intro b e e'
  rcases h.2 with ⟨h0, _⟩ | ⟨g, cap, cur, rfl, _, hh, _⟩
  · rw [h0] at e; cases e
  · rcases h'.2 with ⟨h0, _⟩ | ⟨g', cap', cur', rfl, _, hh', _⟩
    · rw [h0] at e'; cases e'
    · cases e; cases e'
      rw [hh] at hh'
      cases hh'
      exact ht rfl
theorem own_put3 {W : World} {B s n g : Nat} {t : TypeId} {v : Value} {l : List Value} (h : Own W B t s v n l) (hg : ∀ b, v.ownBlock = some b → b ≠ g) (x y z : Value) : Own (((W.setCell ⟨g, 0, none⟩ x).setCell ⟨g, 1, none⟩ y).setCell ⟨g, 2, none⟩ z) B t s v n l :=
  own_at (own_at (own_at h fun b e => Below.heap_setCell W ⟨g, 0, none⟩ x b (hg b e)) fun b e => Below.heap_setCell _ ⟨g, 1, none⟩ y b (hg b e)) fun b e => Below.heap_setCell _ ⟨g, 2, none⟩ z b (hg b e)
theorem st_chg {c : Cfg} {w W w1 : World} {F : Nat → Prop} (h : St c w W) (hc : ChgS F W w1) (hF : ∀ b, F b → w.heap.size + 1 < b) : St c w w1 :=
  ⟨hc.blk h.cfg (fun x => by have := hF _ x; omega), hc.blk h.res (fun x => by have := hF _ x; omega), ⟨hc.os.trans h.bel.os, hc.tape.trans h.bel.tape, hc.output.trans h.bel.output, Nat.le_trans h.bel.size hc.size, fun b hlt => (hc.keep b (Nat.lt_of_lt_of_le hlt h.bel.size) (fun x => by have := hF b x; omega)).trans (h.bel.block b hlt)⟩, Nat.lt_of_lt_of_le h.lt hc.size⟩
theorem pair_cells {W : World} {B c s : Nat} {P9 : Option Addr} {l : List (Nat × Nat)} (h : Own W B 95 2 (.slice P9 l.length c) l.length (cellsP l)) (hs : s < l.length) : ∃ g i j, P9 = some ⟨g, 0, none⟩ ∧ l[s]? = some (i, j) ∧ W.cell? ⟨g, s * 2, none⟩ = some (.int .i64 (i : Int)) ∧ W.cell? ⟨g, s * 2 + 1, none⟩ = some (.int .i64 (j : Int)) := by
  obtain ⟨A, c', e2, _, hf⟩ := h.form
  injection e2 with e2 e3 e4
  obtain ⟨g, e5, h6, h7, hcell⟩ := hf (by omega)
  have hl : l[s]? = some ((l[s]).1, (l[s]).2) := List.getElem?_eq_getElem hs
  exact ⟨g, (l[s]).1, (l[s]).2, by rw [e2, e5], hl, hcell _ _ (cellsP_at hl 0 _ rfl), hcell _ _ (cellsP_at hl 1 _ rfl)⟩
theorem w_cell {W : World} {B g k cW i : Nat} {c : Cfg} {now : Int} {xs : List Wai} (h : Own W B 3 1 (.slice (some ⟨g, 0, none⟩) k cW) k (nums .i64 (wts c now xs))) (hi : i < k) (hl : xs.length = k) : W.cell? ⟨g, i, none⟩ = some (.int .i64 (wAt (wts c now xs) i)) := by
  have := World.ownsRow.cells h (g := g) rfl i _ (wts_at (c := c) (now := now) hi hl)
  rwa [add_at] at this
theorem app_edge {W : World} {B G : Nat} {v : Value} {l : List Value} {k : Nat} (hG : W.heap.size = G) (hO : Own W B 97 3 v k l) (hB : B ≤ W.heap.size) (hn : k ≤ 4096) (x y z : Int) :
    ∃ A9 c9 w9, (AP #[31, 31] 31 #[v, .slice (some ⟨G, 0, none⟩) 1 1]).run Tryz.prog (W.alloc (.cells #[.int .i64 x, .int .i64 y, .int .i64 z] 97)) = .ok (.slice A9 (k + 1) c9) w9 ∧
      Own w9 B 97 3 (.slice A9 (k + 1) c9) (k + 1) (l ++ [.int .i64 x, .int .i64 y, .int .i64 z]) ∧ ChgS (fun b => v.ownBlock = some b) W w9 := by
  subst hG
  obtain ⟨i0, hi, hzz⟩ := Option.map_eq_some_iff.1 infoE
  simp only [Prod.mk.injEq] at hzz
  obtain ⟨hz0, hz1, hz2⟩ := hzz
  have hnew := Blk.new W 97 [.int .i64 x, .int .i64 y, .int .i64 z]
  obtain ⟨v', w', hr, h2, h3, _, h5⟩ := run_append_own_at (P := Tryz.prog) (W.alloc (.cells #[.int .i64 x, .int .i64 y, .int .i64 z] 97)) B 31 31 97 i0 _ 3 24 Tryz.underlying31 hi hz0 hz1 hz2 rfl (by decide) v k l (World.ownsRow.alloc hO _) ⟨W.heap.size, 0, none⟩ 1 1 [.int .i64 x, .int .i64 y, .int .i64 z] rfl (fun j u hu => by rw [add_at]; exact hnew.cellv hu) (one3 _ _ _) (by unfold maxLen; omega) (by omega) (by rw [size_alloc]; omega)
  have h2' : Own w' B 97 3 v' (k + 1) (l ++ [.int .i64 x, .int .i64 y, .int .i64 z]) := h2
  obtain ⟨A7, c7, rfl, _, hA⟩ := h2'.form
  exact ⟨A7, c7, w', hr, h2', ChgS.grown (World.grownBy.trans (World.grownBy_alloc W _ _) h3) fun b e => e⟩
theorem st_app {c : Cfg} {w W w1 : World} {v v1 : Value} {k : Nat} {l : List Value} (h : St c w W) (ho : Own W (w.heap.size + 1 + 1) 3 1 v k l) (hat : (v1.ownBlock = v.ownBlock ∧ W.grownBy w1 v.ownBlock) ∨ (∃ b, v1.ownBlock = some b ∧ W.heap.size ≤ b ∧ W.grownBy w1 none)) (hs : W.heap.size ≤ w1.heap.size) : St c w w1 := by
  have hb : Below (w.heap.size + 1 + 1) W w1 := by
    rcases hat with ⟨_, hg⟩ | ⟨_, _, _, hg⟩
    · exact (Below.refl _ _).grown hg h.lt fun k hk => ho.base_le k hk
    · exact (Below.refl _ _).grown hg h.lt fun k hk => by cases hk
  exact ⟨h.cfg.below hb (by omega), h.res.below hb (by omega), h.bel.trans (hb.mono (by omega)), Nat.lt_of_lt_of_le h.lt hs⟩
set_option maxHeartbeats 8000000 in
theorem rg_main (c : Cfg) (now : Int) (xs : List Wai) (ys : List Idl) (A B : Option Addr) (n m a b : Nat) (w : World) (hx : Recs w 18 A n (xs.map Wai.list)) (hy : Recs w 14 B m (ys.map Idl.list)) (wx : ∀ x ∈ xs, x.wf) (wy : ∀ y ∈ ys, y.wf)
    (h : Hid (cfgErr c = 0)) (t1 : 0 ≤ now) (t2 : now ≤ 1099511627776) (hn : n ≤ 64) (hm : m ≤ 64) :
    Calls Tryz.prog 7 #[c.val, .int .i64 now, .slice A n a, .slice B m b] w (GP c now xs ys n m w) := by
  have HX := Lib.hid hx
  have HY := Lib.hid hy
  have WX := Lib.hid wx
  have WY := Lib.hid wy
  have HNx : Hid (xs.length = n) := Lib.hid (by have := hx.1; simpa using this)
  have HM : Hid (ys.length = m) := Lib.hid (by have := hy.1; simpa using this)
  clear hx hy wx wy
  have lc0 := lc_start c w
  go_enter Tryz.func7, Tryz.ntmps7
  go_wp2_with (first | (go_at_call 16; with_reducible refine (refConfig_v c _ 0 h).mono ?_; rintro e w1 ⟨rfl, o, e1⟩; have hst := st_at c w o e1; have P := Lib.hid hst; have lc := lc_blk c hst.cfg; have z0 := hst.res.free 0; have z1 := hst.res.free 1; have z2 := hst.res.free 2; have y0 := hst.res.cellv (i := 0) rfl; have y1 := hst.res.cellv (i := 1) rfl; have y2 := hst.res.cellv (i := 2) rfl; clear hst e1) | (go_at_call 17; (with_reducible refine (rtick_t now _ t1 t2).mono ?_); rintro e w' ⟨rfl, rfl⟩))
  clear lc lc0 z0 z1 z2 y0 y1 y2
  go_loopw [11, 12] (fun vw i wr => ∃ k : Nat, k ≤ n ∧ i = .int .i64 k ∧ Hid (St c w wr) ∧ Hid (Own wr (w.heap.size + 1 + 1) 3 1 vw k (nums .i64 ((wts c now xs).take k))) ∧ Hid (∀ (j : Nat) y, j < k → xs[j]? = some y → wE c now y = 0)) (fun _ i _ => n - (intOf i).toNat)
  case atStart => exact ⟨0, Nat.zero_le _, rfl, P, Lib.hid (Own.nil _ _ _ _), Lib.hid (fun j y hj => absurd hj (by omega))⟩
  case round =>
    clear P
    obtain ⟨k, hk, rfl, P, HO, KE⟩ := hrel
    by_cases hlt : k < n
    · obtain ⟨ad, x, rfl, hx, hlx⟩ := at_wai HX.out hlt
      have HXK := Lib.hid hx
      have WF := Lib.hid (WX.out x (List.mem_of_getElem? hx))
      have EXT : Hid (∀ W, Below wr.heap.size wr W → Below wr.heap.size wr W ∧ (LA 23 (.pointer (some ⟨w.heap.size, 0, none⟩))).run Tryz.prog W = .ok (.agg (ca c)) W ∧ (LA 78 (.pointer (some (ad.add (k * 18))))).run Tryz.prog W = .ok (.agg (xa x)) W) := Lib.hid (fun W hb => ⟨hb, lc_blk c (P.out.keep hb).cfg, hlx W (P.out.keep hb).bel⟩)
      clear hx hlx
      have HV : Hid (wV c now x = wV c now x) := Lib.hid rfl
      obtain ⟨ee, hee⟩ : ∃ ee, wE c now x = ee := ⟨_, rfl⟩
      have HE := Lib.hid hee
      have TEST : Hid (∀ W, Calls Tryz.prog 18 #[c.val, .int .i64 now, x.val] W fun r w' => r = .returned (.tuple #[.int .i64 (wV c now x), .int .i64 ee]) ∧ Below W.heap.size W w') := Lib.hid (fun W => r_v c now x W WF.out _ ee HV HE)
      clear hee
      go_wp2
      go_region_held3 (fun W => Below wr.heap.size wr W ∧ (LA 23 (.pointer (some ⟨w.heap.size, 0, none⟩))).run Tryz.prog W = .ok (.agg (ca c)) W ∧ (LA 78 (.pointer (some (ad.add (k * 18))))).run Tryz.prog W = .ok (.agg (xa x)) W) (first | exact EXT.out _ (Below.refl _ _).drew | exact EXT.out _ (kbt (And.left (by assumption)) hb)) (first | (go_at_call 18; refine (TEST.out _).mono ?_; rintro r w8 ⟨rfl, hb⟩))
      obtain ⟨hb8, _, _⟩ := ‹_ ∧ _ ∧ _›
      have P8 := Lib.hid (P.out.keep hb8)
      have HO8 := Lib.hid (HO.out.keep hb8)
      have HBW : Hid (w.heap.size + 1 + 1 ≤ w8.heap.size) := Lib.hid P8.out.lt
      have HMX : Hid (k + 1 ≤ maxLen) := Lib.hid (by unfold maxLen; omega)
      have HBY : Hid ((k + 1) * 8 ≤ 140737488355328) := Lib.hid (by omega)
      clear P HO hb8 EXT
      by_cases hE : ee = 0
      · subst hE
        go_wp2_with (first | (at_builtin; (refine app_keep (W := w8) (w.heap.size + 1 + 1) rfl _ _ 84 3 (.int .i64 0) 1 8 rfl Tryz.underlying84 infoInt rfl (by decide) u11 _ _ [.int .i64 (wV c now x)] rfl rfl rfl (one_int _ _) HO8.out HBW.out HMX.out HBY.out ?_); intro v1 w9 hO hs hat; have HO9 := Lib.hid hO; have P9 := Lib.hid (st_app P8.out HO8.out hat hs); clear hO hs hat))
        go_roundw
        case rel =>
          refine ⟨k + 1, by omega, by go_num, P9, by rw [← wts_take HXK.out]; exact HO9, Lib.hid (fun j y hj hy => ?_)⟩
          rcases Nat.lt_or_ge j k with h' | h'
          · exact KE.out j y h' hy
          · obtain rfl : j = k := by omega
            rw [HXK.out] at hy; injection hy with hy; rw [← hy]; exact HE.out
        case measure => simp [intOf]; omega
      · have hnb : (ee != 0) = true := by simp [hE]
        have NE := Lib.hid hE
        have z0 := P8.out.res.free 0
        have z1 := P8.out.res.free 1
        have z2 := P8.out.res.free 2
        have y0 := P8.out.res.cellv (i := 0) rfl
        have y1 := P8.out.res.cellv (i := 1) rfl
        have y2 := P8.out.res.cellv (i := 2) rfl
        clear hE
        go_wp2
        (try simp only [Exit.inBlock, Exit.then])
        exact bodyPost_ret (res_graph rfl _ _ (w.heap.size + 1) zG.toList _ rfl rfl (zero3 P8.out.res) rfl) rfl ⟨zero3b (Nat.le_succ _) P8.out.bel, .inl ⟨k, x, HXK.out, by rw [HE.out]; exact NE.out, fun j y hj hy => KE.out j y hj hy, by rw [HE.out]; rfl⟩⟩
    · obtain rfl : k = n := by omega
      have HA : Hid (∀ (j : Nat) y, xs[j]? = some y → wE c now y = 0) := Lib.hid (fun j y hj => KE.out j y (by have := (List.getElem?_eq_some_iff.1 hj).1; have := HNx.out; omega) hj)
      have ew : (wts c now xs).take k = wts c now xs := List.take_of_length_le (by unfold wts; rw [List.length_map, HNx.out]; exact Nat.le_refl _)
      rw [ew] at HO
      clear ew KE
      obtain ⟨AW, cW, rfl, _, hAW⟩ := HO.out.form
      have HAW : Hid (0 < k → ∃ g, AW = some ⟨g, 0, none⟩) := Lib.hid (fun h => by obtain ⟨g, e, _⟩ := hAW h; exact ⟨g, e⟩)
      clear hAW
      go_wp2
      go_loopw [15] (fun i wr => ∃ q : Nat, q ≤ m ∧ i = .int .i64 q ∧ Hid (St c w wr) ∧ Hid (Own wr (w.heap.size + 1 + 1) 3 1 (.slice AW k cW) k (nums .i64 (wts c now xs))) ∧ Hid (∀ (j : Nat) y, j < q → ys[j]? = some y → drvErr (drvOf y) = 0)) (fun i _ => m - (intOf i).toNat)
      case atStart => exact ⟨0, Nat.zero_le _, rfl, P, HO, Lib.hid (fun j y hj => absurd hj (by omega))⟩
      case round =>
        clear P HO
        obtain ⟨q, hq, rfl, P, HO, KD⟩ := hrel
        by_cases hlt2 : q < m
        · obtain ⟨bd, y, rfl, hy, hly⟩ := at_i HY.out hlt2
          have ly := hly _ P.out.bel
          have HYK := Lib.hid hy
          have WFY := Lib.hid (Dok.of (drv_wf (WY.out y (List.mem_of_getElem? hy)))).seats.1
          clear hy hly
          by_cases hE : drvErr (drvOf y) = 0
          · have HE := Lib.hid hE
            clear hE
            go_wp2_with (first | (go_at_call 19; with_reducible refine (rcd_v (drvOf y) _ WFY.out 0 HE).mono ?_; rintro r w9 ⟨rfl, hb⟩; have P9 := Lib.hid (P.out.keep hb); have HO9 := Lib.hid (HO.out.keep hb); clear hb))
            go_roundw
            case rel =>
              refine ⟨q + 1, by omega, by go_num, P9, HO9, Lib.hid (fun j z hj hz => ?_)⟩
              rcases Nat.lt_or_ge j q with h' | h'
              · exact KD.out j z h' hz
              · obtain rfl : j = q := by omega
                rw [HYK.out] at hz; injection hz with hz; rw [← hz]; exact HE.out
            case measure => simp [intOf]; omega
          · have HE : Hid (drvErr (drvOf y) = 1) := Lib.hid (by unfold drvErr at hE ⊢; split <;> simp_all)
            clear hE
            go_wp2_with (first | (go_at_call 19; with_reducible refine (rcd_v (drvOf y) _ WFY.out 1 HE).mono ?_; rintro r w9 ⟨rfl, hb⟩; have P8 := Lib.hid (P.out.keep hb); have z0 := P8.out.res.free 0; have z1 := P8.out.res.free 1; have z2 := P8.out.res.free 2; have y0 := P8.out.res.cellv (i := 0) rfl; have y1 := P8.out.res.cellv (i := 1) rfl; have y2 := P8.out.res.cellv (i := 2) rfl; clear hb))
            (try simp only [Exit.inBlock, Exit.then])
            exact bodyPost_ret (res_graph rfl _ _ (w.heap.size + 1) zG.toList _ rfl rfl (zero3 P8.out.res) rfl) rfl ⟨zero3b (Nat.le_succ _) P8.out.bel, .inr ⟨HA.out, .inl ⟨q, y, HYK.out, by rw [HE.out]; decide, rfl⟩⟩⟩
        · obtain rfl : q = m := by omega
          have HD : Hid (∀ (j : Nat) y, ys[j]? = some y → drvErr (drvOf y) = 0) := Lib.hid (fun j y hj => KD.out j y (by have := (List.getElem?_eq_some_iff.1 hj).1; have := HM.out; omega) hj)
          clear KD
          go_wp2_with (first | (go_at_call 20; with_reducible refine (rpairs_c xs ys _ _ k q _ _ _ (HX.out.keep (kba P.out.bel _)) (HY.out.keep (kba P.out.bel _)) WX.out WY.out (by omega) (by omega)).mono ?_; rintro r w9 ⟨v, rfl, hO, hb⟩; obtain ⟨P9, c9, rfl, _, _⟩ := hO.form; have HOP := Lib.hid hO; have B9 := Lib.hid hb; clear hO hb))
          have LG := Lib.hid ((Blk.new wr 33 [.int .i64 (k : Int), .int .i64 (q : Int), .slice none 0 0]).keep B9.out)
          have PG := Lib.hid ((P.out.keep (alloc_below wr (.cells #[.int .i64 (k : Int), .int .i64 (q : Int), .slice none 0 0] 33))).keep B9.out)
          have HOW := Lib.hid ((HO.out.keep (alloc_below wr (.cells #[.int .i64 (k : Int), .int .i64 (q : Int), .slice none 0 0] 33))).keep B9.out)
          have HGB : Hid (w.heap.size + 1 < wr.heap.size) := Lib.hid P.out.lt
          clear P HO B9
          obtain ⟨ps, hps⟩ : ∃ ps, allP xs ys k = ps := ⟨_, rfl⟩
          have HPS := Lib.hid hps
          have HPL : Hid (ps.length ≤ 4096) := Lib.hid (by rw [← hps]; exact Nat.le_trans (all_le xs ys k) (by rw [HM.out]; have := Nat.mul_le_mul hn hm; omega))
          have HMEM : Hid (∀ i j, (i, j) ∈ ps → i < k) := Lib.hid (fun i j h => by rw [← hps] at h; exact all_mem h)
          rw [hps] at HOP
          simp only [hps]
          clear hps
          generalize wr.heap.size = gB at *
          go_loopw [19] (fun i w3 => ∃ (s : Nat) (ev : Value), s ≤ ps.length ∧ i = .int .i64 s ∧ Hid (Blk w3 gB 33 [.int .i64 (k : Int), .int .i64 (q : Int), ev]) ∧ Hid (Own w3 (w.heap.size + 1 + 1) 97 3 ev s (cellsE (wts c now xs) (ps.take s))) ∧ Hid (St c w w3) ∧ Hid (Own w3 (w.heap.size + 1 + 1) 3 1 (.slice AW k cW) k (nums .i64 (wts c now xs))) ∧ Hid (∃ bb, Own w3 bb 95 2 (.slice P9 ps.length c9) ps.length (cellsP ps))) (fun i _ => ps.length - (intOf i).toNat)
          case atStart => exact ⟨0, _, Nat.zero_le _, rfl, LG, Lib.hid (by simpa [cellsE] using Own.nil w9 (w.heap.size + 1 + 1) 97 3), PG, HOW, ⟨_, HOP.out⟩⟩
          case round =>
            clear LG PG HOW HOP
            obtain ⟨s, ev, hs, rfl, LG, HOE, PG, HOW, HOP⟩ := hrel
            by_cases hlt3 : s < ps.length
            · obtain ⟨bb, hop⟩ := HOP.out
              obtain ⟨gp, i, j, rfl, hij, p0, p1⟩ := pair_cells hop hlt3
              have hik := HMEM.out i j (List.mem_of_getElem? hij)
              obtain ⟨gW, rfl⟩ := HAW.out (by omega)
              have wc : wr.cell? ⟨gW, i, none⟩ = some (.int .i64 (wAt (wts c now xs) i)) := w_cell HOW.out hik HNx.out
              have lg : wr.cell? ⟨gB, 2, none⟩ = some ev := LG.out.cellv (i := 2) rfl
              have HIJ := Lib.hid hij
              have HOP2 := Lib.hid hop
              have hik64 : i < 64 := by omega
              have hpl := HPL.out
              refine Exists.elim (app_edge (W := wr.drew) (G := wr.heap.size) rfl HOE.out PG.out.lt (by omega) (i : Int) (j : Int) (wAt (wts c now xs) i)) ?_
              rintro A9 ⟨c8, w8, hap, hO8, hC8⟩
              replace hC8 : ChgS (fun b => ev.ownBlock = some b) wr w8 := ⟨hC8.size, hC8.keep, hC8.os, hC8.tape, hC8.output⟩
              replace hap : (AP _ _ _).run Tryz.prog (wr.alloc (.cells #[.int .i64 (i : Int), .int .i64 (j : Int), .int .i64 (wAt (wts c now xs) i)] 97)).drew = _ := hap
              have lg2 : (wr.alloc (.cells #[.int .i64 (i : Int), .int .i64 (j : Int), .int .i64 (wAt (wts c now xs) i)] 97)).drew.cell? ⟨gB, 2, none⟩ = some ev := (LG.out.alloc (.cells #[.int .i64 (i : Int), .int .i64 (j : Int), .int .i64 (wAt (wts c now xs) i)] 97)).cellv (i := 2) rfl
              have LG8 := Lib.hid (hC8.blk LG.out (fun e => absurd (HOE.out.kind e LG.out) (by decide)))
              have PG8 := Lib.hid (st_chg PG.out hC8 (fun b e => HOE.out.base_le b e))
              have HW8 := Lib.hid (Own.chg HOW.out hC8 (fun b e e' => own_ne HOE.out HOW.out (by decide) b e' e))
              have HP8 := Lib.hid (Own.chg hop hC8 (fun b e e' => own_ne HOE.out hop (by decide) b e' e))
              have HO8 := Lib.hid hO8
              have x1 := LG8.out.cellv (i := 2) rfl
              have x2 := LG8.out.free 2
              clear hij hop hC8 hO8
              go_wp2
              go_region
              go_wp2
              go_roundw
              case rel =>
                have n1 : ∀ b, (Value.slice A9 (s + 1) c8).ownBlock = some b → b ≠ gB := fun b e e' => by subst e'; exact absurd (HO8.out.kind e LG8.out) (by decide)
                have n2 : ∀ b, (Value.slice (some ⟨gW, 0, none⟩) k cW).ownBlock = some b → b ≠ gB := fun b e e' => by subst e'; exact absurd (HW8.out.kind e LG8.out) (by decide)
                have n3 : ∀ b, (Value.slice (some ⟨gp, 0, none⟩) ps.length c9).ownBlock = some b → b ≠ gB := fun b e e' => by subst e'; exact absurd (HP8.out.kind e LG8.out) (by decide)
                refine ⟨s + 1, _, by omega, by go_num, Lib.hid (LG8.out.put 2 _), Lib.hid ?_, Lib.hid (st_chg PG8.out (ChgS.set (F := fun b => b = gB) (p := ⟨gB, 2, none⟩) _ rfl) (fun b e => by rw [e]; exact HGB.out)), Lib.hid (own_at HW8.out fun b e => Below.heap_setCell w8 ⟨gB, 2, none⟩ _ b (n2 b e)), ⟨bb, own_at HP8.out fun b e => Below.heap_setCell w8 ⟨gB, 2, none⟩ _ b (n3 b e)⟩⟩
                rw [take_snoc _ s _ HIJ.out, cellsE_snoc]
                exact own_at HO8.out fun b e => Below.heap_setCell w8 ⟨gB, 2, none⟩ _ b (n1 b e)
              case measure => simp [intOf]; omega
            · obtain rfl : s = ps.length := by omega
              rw [List.take_length] at HOE
              obtain ⟨A1, c1, rfl, _, _⟩ := HOE.out.form
              have y1 := LG.out.cellv (i := 0) rfl
              have y2 := LG.out.cellv (i := 1) rfl
              have y3 := LG.out.cellv (i := 2) rfl
              have r1 := PG.out.res.cellv (i := 0) rfl
              have r2 := PG.out.res.cellv (i := 1) rfl
              have r3 := PG.out.res.cellv (i := 2) rfl
              have s1 := PG.out.res.free 0
              have s2 := PG.out.res.free 1
              have s3 := PG.out.res.free 2
              have NE : ∀ b, (Value.slice A1 ps.length c1).ownBlock = some b → b ≠ w.heap.size + 1 := fun b e e' => by subst e'; exact absurd (HOE.out.kind e PG.out.res) (by decide)
              go_wp2
              (try simp only [Exit.inBlock, Exit.then])
              refine bodyPost_ret (res_graph rfl _ _ (w.heap.size + 1) [.int .i64 (k : Int), .int .i64 (q : Int), .slice A1 ps.length c1] _ rfl rfl (put3g PG.out.res _ _ _) rfl) rfl ⟨bel3g (Nat.le_succ _) PG.out.bel _ _ _, .inr ⟨HA.out, .inr ⟨HD.out, _, rfl, ?_⟩⟩⟩
              rw [HPS.out]
              exact own_mono (own_put3 HOE.out NE _ _ _) (by omega)
end Go.Proofs.YtkpdomnmlinomabGreat.RGraph
