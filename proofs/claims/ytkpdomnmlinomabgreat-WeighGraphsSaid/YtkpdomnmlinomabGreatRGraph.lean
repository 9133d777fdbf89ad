/- Contract of the document's Graph: the ways out with an error. -/
import Derived.Test.YtkpdomnmlinomabGreatGraphB
import Derived.Test.YtkpdomnmlinomabGreatRPairs
import Derived.Test.YtkpdomnmlinomabGreatHeld
import Derived.Deep.RegionHeld3
namespace Go.Proofs.YtkpdomnmlinomabGreat.RGraph
open Go.RowKit Go.Proofs.YtkpdomnmlinomabGreat.Aid Go.Proofs.YtkpdomnmlinomabGreat.Mem Go.Proofs.YtkpdomnmlinomabGreat.Types Go.Proofs.YtkpdomnmlinomabGreat.Fit Go.Proofs.YtkpdomnmlinomabGreat.Mays Go.Proofs.YtkpdomnmlinomabGreat.Keep Go.Proofs.YtkpdomnmlinomabGreat.Weight Go.Proofs.YtkpdomnmlinomabGreat.Weights Go.Proofs.YtkpdomnmlinomabGreat.Recs Go.Proofs.YtkpdomnmlinomabGreat.PairsG Go.Proofs.YtkpdomnmlinomabGreat.Graph Go.Proofs.YtkpdomnmlinomabGreat.GraphB
set_option linter.unusedSimpArgs false
set_option linter.unusedVariables false
set_option maxRecDepth 100000
attribute [local go_sem ↓] Keep.load_req Keep.load_drv Keep.load_cfg Weights.load_wai TwinS.load_idl
/-- Behind the configuration's check: the boxes. -/
structure St (c : Cfg) (w W : World) : Prop where
  cfg : Blk W w.heap.size 23 (ca c).toList
  res : Blk W (w.heap.size + 1) 33 zG.toList
  bel : Below w.heap.size w W
  lt : w.heap.size + 1 < W.heap.size
theorem St.start (c : Cfg) (w : World) (o : Obj) : St c w (((w.alloc (.cells (ca c) 23)).alloc (.cells zG 33)).alloc o) :=
  ⟨((Blk.new w 23 (ca c).toList).alloc _).alloc o, (blk_next w _ 33 zG.toList).alloc o, kba (kba (kba (Below.refl w.heap.size w) _) _) _, by simp⟩
theorem St.keep {c : Cfg} {w W W' : World} (h : St c w W) (hb : Below W.heap.size W W') : St c w W' := ⟨h.cfg.keep hb, h.res.keep hb, kbt h.bel hb, Nat.lt_of_lt_of_le h.lt hb.size⟩
def LC (c : Cfg) (w W : World) : Prop := (LA 23 (.pointer (some ⟨w.heap.size, 0, none⟩))).run Tryz.prog W = .ok (.agg (ca c)) W
theorem st_at (c : Cfg) (w : World) (o : Obj) {w1 : World} (e : w1 = ((w.alloc (.cells (ca c) 23)).alloc (.cells zG 33)).alloc o) : St c w w1 := by rw [e]; exact St.start c w o
theorem lc_start (c : Cfg) (w : World) : (LA 23 (.pointer (some ⟨w.heap.size, 0, none⟩))).run Tryz.prog ((w.alloc (.cells (ca c) 23)).alloc (.cells zG 33)) = .ok (.agg (ca c)) ((w.alloc (.cells (ca c) 23)).alloc (.cells zG 33)) :=
  lc_blk c ((Blk.new w 23 (ca c).toList).alloc (.cells zG 33))
set_option maxHeartbeats 4000000 in
theorem rg_cfg (c : Cfg) (now : Int) (A B : Option Addr) (n m a b : Nat) (w : World) (bn : n ≤ 140737488351232) (bm : m ≤ 140737488351232) (h : Hid (cfgErr c = 160)) :
    Calls Tryz.prog 7 #[c.val, .int .i64 now, .slice A n a, .slice B m b] w fun e w' => e = .returned (.tuple #[.agg zG, .int .i64 160]) ∧ Below w.heap.size w w' := by
  have lc0 := lc_start c w
  go_enter Tryz.func7, Tryz.ntmps7
  go_wp2_with (first | (go_at_call 16; with_reducible refine (refConfig_v c _ 160 h).mono ?_; rintro e w1 ⟨rfl, o, e1⟩; have hst := st_at c w o e1; have P := Lib.hid hst; have lc := lc_blk c hst.cfg; have z0 := hst.res.free 0; have z1 := hst.res.free 1; have z2 := hst.res.free 2; have y0 := hst.res.cellv (i := 0) rfl; have y1 := hst.res.cellv (i := 1) rfl; have y2 := hst.res.cellv (i := 2) rfl; clear hst e1))
  (try simp only [Exit.inBlock, Exit.then])
  exact bodyPost_ret (res_graph rfl _ _ (w.heap.size + 1) zG.toList _ rfl rfl (zero3 P.out.res) rfl) rfl ⟨rfl, zero3b (Nat.le_succ _) P.out.bel⟩
set_option maxHeartbeats 4000000 in
theorem rg_tick0 (c : Cfg) (now : Int) (A B : Option Addr) (n m a b : Nat) (w : World) (bn : n ≤ 140737488351232) (bm : m ≤ 140737488351232) (h : Hid (cfgErr c = 0)) (ht : now < 0) :
    Calls Tryz.prog 7 #[c.val, .int .i64 now, .slice A n a, .slice B m b] w fun e w' => e = .returned (.tuple #[.agg zG, .int .i64 1]) ∧ Below w.heap.size w w' := by
  have lc0 := lc_start c w
  go_enter Tryz.func7, Tryz.ntmps7
  go_wp2_with (first | (go_at_call 16; with_reducible refine (refConfig_v c _ 0 h).mono ?_; rintro e w1 ⟨rfl, o, e1⟩; have hst := st_at c w o e1; have P := Lib.hid hst; have lc := lc_blk c hst.cfg; have z0 := hst.res.free 0; have z1 := hst.res.free 1; have z2 := hst.res.free 2; have y0 := hst.res.cellv (i := 0) rfl; have y1 := hst.res.cellv (i := 1) rfl; have y2 := hst.res.cellv (i := 2) rfl; clear hst e1) | (go_at_call 17; (with_reducible refine (rtick_f now _ (.inl ht)).mono ?_); rintro e w' ⟨rfl, rfl⟩))
  (try simp only [Exit.inBlock, Exit.then])
  exact bodyPost_ret (res_graph rfl _ _ (w.heap.size + 1) zG.toList _ rfl rfl (zero3 P.out.res) rfl) rfl ⟨rfl, zero3b (Nat.le_succ _) P.out.bel⟩
set_option maxHeartbeats 4000000 in
theorem rg_tick1 (c : Cfg) (now : Int) (A B : Option Addr) (n m a b : Nat) (w : World) (bn : n ≤ 140737488351232) (bm : m ≤ 140737488351232) (h : Hid (cfgErr c = 0)) (ht : 1099511627776 < now) :
    Calls Tryz.prog 7 #[c.val, .int .i64 now, .slice A n a, .slice B m b] w fun e w' => e = .returned (.tuple #[.agg zG, .int .i64 1]) ∧ Below w.heap.size w w' := by
  have lc0 := lc_start c w
  go_enter Tryz.func7, Tryz.ntmps7
  go_wp2_with (first | (go_at_call 16; with_reducible refine (refConfig_v c _ 0 h).mono ?_; rintro e w1 ⟨rfl, o, e1⟩; have hst := st_at c w o e1; have P := Lib.hid hst; have lc := lc_blk c hst.cfg; have z0 := hst.res.free 0; have z1 := hst.res.free 1; have z2 := hst.res.free 2; have y0 := hst.res.cellv (i := 0) rfl; have y1 := hst.res.cellv (i := 1) rfl; have y2 := hst.res.cellv (i := 2) rfl; clear hst e1) | (go_at_call 17; (with_reducible refine (rtick_f now _ (.inr ht)).mono ?_); rintro e w' ⟨rfl, rfl⟩))
  (try simp only [Exit.inBlock, Exit.then])
  exact bodyPost_ret (res_graph rfl _ _ (w.heap.size + 1) zG.toList _ rfl rfl (zero3 P.out.res) rfl) rfl ⟨rfl, zero3b (Nat.le_succ _) P.out.bel⟩
set_option maxHeartbeats 4000000 in
theorem rg_size0 (c : Cfg) (now : Int) (A B : Option Addr) (n m a b : Nat) (w : World) (bn : n ≤ 140737488351232) (bm : m ≤ 140737488351232) (h : Hid (cfgErr c = 0)) (t1 : 0 ≤ now) (t2 : now ≤ 1099511627776) (hs : 64 < n) :
    Calls Tryz.prog 7 #[c.val, .int .i64 now, .slice A n a, .slice B m b] w fun e w' => e = .returned (.tuple #[.agg zG, .int .i64 3]) ∧ Below w.heap.size w w' := by
  have lc0 := lc_start c w
  go_enter Tryz.func7, Tryz.ntmps7
  go_wp2_with (first | (go_at_call 16; with_reducible refine (refConfig_v c _ 0 h).mono ?_; rintro e w1 ⟨rfl, o, e1⟩; have hst := st_at c w o e1; have P := Lib.hid hst; have lc := lc_blk c hst.cfg; have z0 := hst.res.free 0; have z1 := hst.res.free 1; have z2 := hst.res.free 2; have y0 := hst.res.cellv (i := 0) rfl; have y1 := hst.res.cellv (i := 1) rfl; have y2 := hst.res.cellv (i := 2) rfl; clear hst e1) | (go_at_call 17; (with_reducible refine (rtick_t now _ t1 t2).mono ?_); rintro e w' ⟨rfl, rfl⟩))
  (try simp only [Exit.inBlock, Exit.then])
  exact bodyPost_ret (res_graph rfl _ _ (w.heap.size + 1) zG.toList _ rfl rfl (zero3 P.out.res) rfl) rfl ⟨rfl, zero3b (Nat.le_succ _) P.out.bel⟩
set_option maxHeartbeats 4000000 in
theorem rg_size1 (c : Cfg) (now : Int) (A B : Option Addr) (n m a b : Nat) (w : World) (bn : n ≤ 140737488351232) (bm : m ≤ 140737488351232) (h : Hid (cfgErr c = 0)) (t1 : 0 ≤ now) (t2 : now ≤ 1099511627776) (hn : n ≤ 64) (hs : 64 < m) :
    Calls Tryz.prog 7 #[c.val, .int .i64 now, .slice A n a, .slice B m b] w fun e w' => e = .returned (.tuple #[.agg zG, .int .i64 3]) ∧ Below w.heap.size w w' := by
  have lc0 := lc_start c w
  go_enter Tryz.func7, Tryz.ntmps7
  go_wp2_with (first | (go_at_call 16; with_reducible refine (refConfig_v c _ 0 h).mono ?_; rintro e w1 ⟨rfl, o, e1⟩; have hst := st_at c w o e1; have P := Lib.hid hst; have lc := lc_blk c hst.cfg; have z0 := hst.res.free 0; have z1 := hst.res.free 1; have z2 := hst.res.free 2; have y0 := hst.res.cellv (i := 0) rfl; have y1 := hst.res.cellv (i := 1) rfl; have y2 := hst.res.cellv (i := 2) rfl; clear hst e1) | (go_at_call 17; (with_reducible refine (rtick_t now _ t1 t2).mono ?_); rintro e w' ⟨rfl, rfl⟩))
  (try simp only [Exit.inBlock, Exit.then])
  exact bodyPost_ret (res_graph rfl _ _ (w.heap.size + 1) zG.toList _ rfl rfl (zero3 P.out.res) rfl) rfl ⟨rfl, zero3b (Nat.le_succ _) P.out.bel⟩
theorem within_c (n l h : Int) (w : World) (b : Bool) (hb : decide (l ≤ n ∧ n ≤ h) = b) : Calls Tryz.prog 107 #[.int .i64 n, .int .i64 l, .int .i64 h] w fun e w' => e = .returned (.bool b) ∧ w' = w := by
  by_cases h1 : l ≤ n
  · by_cases h2 : n ≤ h
    · rw [decide_eq_true ⟨h1, h2⟩] at hb
      subst hb
      go_enter Tryz.func107, Tryz.ntmps107
      go_wp2
      go_ret
      exact ⟨by simp [h1, h2], rfl⟩
    · rw [decide_eq_false (fun x => h2 x.2)] at hb
      subst hb
      go_enter Tryz.func107, Tryz.ntmps107
      go_wp2
      go_ret
      exact ⟨by simp [h1, h2], rfl⟩
  · rw [decide_eq_false (fun x => h1 x.1)] at hb
    subst hb
    have h1' : n < l := by omega
    go_enter Tryz.func107, Tryz.ntmps107
    go_wp2
    go_ret
    exact ⟨by simp [h1], rfl⟩
end Go.Proofs.YtkpdomnmlinomabGreat.RGraph
