/- The contract of weigh.Graph: the ways out with an error, and the graph. -/
import Derived.Test.YtkpdomnmlinomabGreatWeights
import Derived.Test.YtkpdomnmlinomabGreatPairsG
import Derived.Test.YtkpdomnmlinomabGreatTwinS
import Derived.Test.YtkpdomnmlinomabGreatCheck
import Derived.Laws.ResultCell
import Derived.Handy
namespace Go.Proofs.YtkpdomnmlinomabGreat.Graph
open Go.RowKit Go.Proofs.YtkpdomnmlinomabGreat.Aid Go.Proofs.YtkpdomnmlinomabGreat.Mem Go.Proofs.YtkpdomnmlinomabGreat.Types Go.Proofs.YtkpdomnmlinomabGreat.Mays Go.Proofs.YtkpdomnmlinomabGreat.Keep Go.Proofs.YtkpdomnmlinomabGreat.Weight Go.Proofs.YtkpdomnmlinomabGreat.Weights Go.Proofs.YtkpdomnmlinomabGreat.Recs Go.Proofs.YtkpdomnmlinomabGreat.PairsG
set_option linter.unusedSimpArgs false
set_option linter.unusedVariables false
set_option maxRecDepth 100000
abbrev zG : Array Value := #[.int .i64 0, .int .i64 0, .slice none 0 0]
attribute [local go_sem ↓] Keep.load_req Keep.load_drv Keep.load_cfg Weights.load_wai TwinS.load_idl
theorem lc_blk (c : Cfg) {W : World} {b : Nat} (h : Blk W b 23 (ca c).toList) : (LA 23 (.pointer (some ⟨b, 0, none⟩))).run Tryz.prog W = .ok (.agg (ca c)) W :=
  loads_box Tryz.underlying23 rfl (by show _ = some 5; kernel_rfl) (fun i => by rw [h.cell]; simp)
theorem res_graph {fn : Func} (hf : fn.results = #[.cell 8 33, .tmp 9]) (tmps : Array Value) (W : World) (b : Nat) (l : List Value) (e : Value) {t : TypeId} (h8 : tmps.getD 8 undef = .pointer (some ⟨b, 0, none⟩)) (h9 : tmps.getD 9 undef = e) (hb : Blk W b t l) (hl : l.length = 3) :
    (results fn tmps).run Tryz.prog W = .ok (.tuple #[.agg l.toArray, e]) W := by
  rw [results_cell_tmp hf, h8, h9]
  have := run_loadVar_mid (P := Tryz.prog) W b 0 33 l _ (fun j v hv => by rw [Nat.zero_add]; exact hb.cellv hv) Tryz.underlying33 rfl (by rw [hl]; kernel_rfl)
  show (Sem.run Tryz.prog (loadVar 33 ⟨b, 0, none⟩) W).andThen _ = _
  rw [this]; rfl
theorem blk_next (w : World) (o : Obj) (t : TypeId) (l : List Value) : Blk ((w.alloc o).alloc (.cells l.toArray t)) (w.heap.size + 1) t l := by
  have := Blk.new (w.alloc o) t l
  rwa [size_alloc] at this
def OkT (now : Int) : Prop := 0 ≤ now ∧ now ≤ 1099511627776
set_option maxHeartbeats 4000000 in
theorem g_cfg (c : Cfg) (now : Int) (A B : Option Addr) (n m a b : Nat) (w : World) (bn : n ≤ 140737488351232) (bm : m ≤ 140737488351232) (h : Hid (cfgErr c = 160)) :
    Calls Tryz.prog 8 #[c.val, .int .i64 now, .slice A n a, .slice B m b] w fun e w' => e = .returned (.tuple #[.agg zG, .int .i64 160]) ∧ Below w.heap.size w w' := by
  have lc := lc_blk c ((Blk.new w 23 (ca c).toList).alloc (.cells zG 33))
  go_enter Tryz.func8, Tryz.ntmps8
  go_wp2_with (first | (go_at_call 21; with_reducible refine (config_v c _ _ h).mono ?_; rintro e w1 ⟨rfl, o, rfl⟩))
  (try simp only [Exit.inBlock, Exit.then])
  exact bodyPost_ret (res_graph rfl _ _ (w.heap.size + 1) zG.toList _ rfl rfl ((blk_next w _ _ zG.toList).alloc _) rfl) rfl ⟨rfl, ((alloc_below w _).alloc (by simp) _).alloc (by simp; omega) _⟩
set_option maxHeartbeats 4000000 in
theorem g_tick0 (c : Cfg) (now : Int) (A B : Option Addr) (n m a b : Nat) (w : World) (bn : n ≤ 140737488351232) (bm : m ≤ 140737488351232) (h : Hid (cfgErr c = 0)) (ht : now < 0) :
    Calls Tryz.prog 8 #[c.val, .int .i64 now, .slice A n a, .slice B m b] w fun e w' => e = .returned (.tuple #[.agg zG, .int .i64 1]) ∧ Below w.heap.size w w' := by
  have lc := lc_blk c ((Blk.new w 23 (ca c).toList).alloc (.cells zG 33))
  go_enter Tryz.func8, Tryz.ntmps8
  go_wp2_with (first | (go_at_call 21; with_reducible refine (config_v c _ _ h).mono ?_; rintro e w1 ⟨rfl, o, rfl⟩) | (go_at_call 22; (with_reducible refine (tick_f now _ (.inl ht)).mono ?_); rintro e w' ⟨rfl, rfl⟩))
  (try simp only [Exit.inBlock, Exit.then])
  exact bodyPost_ret (res_graph rfl _ _ (w.heap.size + 1) zG.toList _ rfl rfl ((blk_next w _ _ zG.toList).alloc _) rfl) rfl ⟨rfl, ((alloc_below w _).alloc (by simp) _).alloc (by simp; omega) _⟩
set_option maxHeartbeats 4000000 in
theorem g_tick1 (c : Cfg) (now : Int) (A B : Option Addr) (n m a b : Nat) (w : World) (bn : n ≤ 140737488351232) (bm : m ≤ 140737488351232) (h : Hid (cfgErr c = 0)) (ht : 1099511627776 < now) :
    Calls Tryz.prog 8 #[c.val, .int .i64 now, .slice A n a, .slice B m b] w fun e w' => e = .returned (.tuple #[.agg zG, .int .i64 1]) ∧ Below w.heap.size w w' := by
  have lc := lc_blk c ((Blk.new w 23 (ca c).toList).alloc (.cells zG 33))
  go_enter Tryz.func8, Tryz.ntmps8
  go_wp2_with (first | (go_at_call 21; with_reducible refine (config_v c _ _ h).mono ?_; rintro e w1 ⟨rfl, o, rfl⟩) | (go_at_call 22; (with_reducible refine (tick_f now _ (.inr ht)).mono ?_); rintro e w' ⟨rfl, rfl⟩))
  (try simp only [Exit.inBlock, Exit.then])
  exact bodyPost_ret (res_graph rfl _ _ (w.heap.size + 1) zG.toList _ rfl rfl ((blk_next w _ _ zG.toList).alloc _) rfl) rfl ⟨rfl, ((alloc_below w _).alloc (by simp) _).alloc (by simp; omega) _⟩
set_option maxHeartbeats 4000000 in
theorem g_size0 (c : Cfg) (now : Int) (A B : Option Addr) (n m a b : Nat) (w : World) (bn : n ≤ 140737488351232) (bm : m ≤ 140737488351232) (h : Hid (cfgErr c = 0)) (t1 : 0 ≤ now) (t2 : now ≤ 1099511627776) (hs : 64 < n) :
    Calls Tryz.prog 8 #[c.val, .int .i64 now, .slice A n a, .slice B m b] w fun e w' => e = .returned (.tuple #[.agg zG, .int .i64 3]) ∧ Below w.heap.size w w' := by
  have lc := lc_blk c ((Blk.new w 23 (ca c).toList).alloc (.cells zG 33))
  go_enter Tryz.func8, Tryz.ntmps8
  go_wp2_with (first | (go_at_call 21; with_reducible refine (config_v c _ _ h).mono ?_; rintro e w1 ⟨rfl, o, rfl⟩) | (go_at_call 22; (with_reducible refine (tick_t now _ t1 t2).mono ?_); rintro e w' ⟨rfl, rfl⟩))
  (try simp only [Exit.inBlock, Exit.then])
  exact bodyPost_ret (res_graph rfl _ _ (w.heap.size + 1) zG.toList _ rfl rfl ((blk_next w _ _ zG.toList).alloc _) rfl) rfl ⟨rfl, ((alloc_below w _).alloc (by simp) _).alloc (by simp; omega) _⟩
set_option maxHeartbeats 4000000 in
theorem g_size1 (c : Cfg) (now : Int) (A B : Option Addr) (n m a b : Nat) (w : World) (bn : n ≤ 140737488351232) (bm : m ≤ 140737488351232) (h : Hid (cfgErr c = 0)) (t1 : 0 ≤ now) (t2 : now ≤ 1099511627776) (hn : n ≤ 64) (hs : 64 < m) :
    Calls Tryz.prog 8 #[c.val, .int .i64 now, .slice A n a, .slice B m b] w fun e w' => e = .returned (.tuple #[.agg zG, .int .i64 3]) ∧ Below w.heap.size w w' := by
  have lc := lc_blk c ((Blk.new w 23 (ca c).toList).alloc (.cells zG 33))
  go_enter Tryz.func8, Tryz.ntmps8
  go_wp2_with (first | (go_at_call 21; with_reducible refine (config_v c _ _ h).mono ?_; rintro e w1 ⟨rfl, o, rfl⟩) | (go_at_call 22; (with_reducible refine (tick_t now _ t1 t2).mono ?_); rintro e w' ⟨rfl, rfl⟩))
  (try simp only [Exit.inBlock, Exit.then])
  exact bodyPost_ret (res_graph rfl _ _ (w.heap.size + 1) zG.toList _ rfl rfl ((blk_next w _ _ zG.toList).alloc _) rfl) rfl ⟨rfl, ((alloc_below w _).alloc (by simp) _).alloc (by simp; omega) _⟩
end Go.Proofs.YtkpdomnmlinomabGreat.Graph
