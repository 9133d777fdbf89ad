/- The contract of weigh.Graph, where configuration, tick and sizes may be: the requests' weights, the drivers, the edges. -/
import Derived.Test.YtkpdomnmlinomabGreatGraph
import Derived.Deep.OwnRows
import Derived.Laws.MakeOwn
import Derived.Maps.AppendAt
import Derived.BigRegion
namespace Go.Proofs.YtkpdomnmlinomabGreat.GraphB
open Go.RowKit Go.Proofs.YtkpdomnmlinomabGreat.Aid Go.Proofs.YtkpdomnmlinomabGreat.Mem Go.Proofs.YtkpdomnmlinomabGreat.Types Go.Proofs.YtkpdomnmlinomabGreat.Fit Go.Proofs.YtkpdomnmlinomabGreat.Mays Go.Proofs.YtkpdomnmlinomabGreat.Keep Go.Proofs.YtkpdomnmlinomabGreat.Weight Go.Proofs.YtkpdomnmlinomabGreat.Weights Go.Proofs.YtkpdomnmlinomabGreat.Recs Go.Proofs.YtkpdomnmlinomabGreat.PairsG Go.Proofs.YtkpdomnmlinomabGreat.Graph
set_option linter.unusedSimpArgs false
set_option linter.unusedVariables false
set_option maxRecDepth 100000
theorem infoInt : (Tryz.prog.info? 3).map (fun i => (i.zero, i.size, i.bytes)) = some (some (.int .i64 0), 1, 8) := by kernel_rfl
theorem make_ints (m : Nat) (hm : m ≤ 2097152) (W : World) : (Instr.makeSlice 84 (.int .i64 (m : Int)) (.int .i64 (m : Int))).run Tryz.prog W = .ok (.slice (some ⟨W.heap.size, 0, none⟩) m m) (W.alloc (.cells (madeCells #[.int .i64 0] m) 3)) :=
  run_make_row' 84 3 (.int .i64 0) 8 Tryz.underlying84 infoInt rfl .i64 .i64 m (by omega) (by omega) W
theorem made_list (m : Nat) : madeCells #[Value.int .i64 0] m = (List.replicate m (Value.int .i64 0)).toArray := by
  apply Array.ext
  · simp [madeCells]
  · intro i h1 h2
    simp [madeCells, Nat.mod_one]
theorem la_wai (c : Cfg) (w : World) (x : Wai) : (LA 78 (.pointer (some ⟨w.heap.size, 0, none⟩))).run Tryz.prog (w.alloc (.cells (xa x) 78)) = .ok (.agg (xa x)) (w.alloc (.cells (xa x) 78)) :=
  loads_box Tryz.underlying78 rfl (by show _ = some 18; kernel_rfl) (fun i => World.cell?_alloc_new w _ _ i)
theorem at_wai {w : World} {A : Option Addr} {n : Nat} {xs : List Wai} (h : Recs w 18 A n (xs.map Wai.list)) {j : Nat} (hj : j < n) : ∃ ad x, A = some ad ∧ xs[j]? = some x ∧ ∀ w', Below w.heap.size w w' → (LA 78 (.pointer (some (ad.add (j * 18))))).run Tryz.prog w' = .ok (.agg (xa x)) w' := by
  obtain ⟨ad, l, rfl, hl, hc, hcell⟩ := h.at_ hj
  rw [List.getElem?_map] at hl
  obtain ⟨x, hx, rfl⟩ := Option.map_eq_some_iff.1 hl
  refine ⟨ad, x, rfl, hx, fun w' hb => loads_at (l := x.list) (s := []) Tryz.underlying78 rfl (by show _ = some 18; kernel_rfl) fun i v hv => ?_⟩
  rw [add_add]
  rw [List.append_nil] at hv
  have hv' := hcell i v hv
  exact (hb.cell (World.block_lt_of_cell? w _ hv')).trans hv'
abbrev ya (y : Idl) : Array Value := #[.int .u8 y.i0, .int .u8 y.i1, .int .u8 y.i2, .int .u8 y.i3, .int .u8 y.i4, .int .u8 y.i5, .int .u8 y.i6, .int .u8 y.i7, .int .i16 y.ax, .int .i16 y.ay, .int .u8 y.seats, .int .u8 y.cls, .int .i64 y.radius, .int .i64 y.number]
theorem at_idl {w : World} {A : Option Addr} {n : Nat} {ys : List Idl} (h : Recs w 14 A n (ys.map Idl.list)) {j : Nat} (hj : j < n) : ∃ ad y, A = some ad ∧ ys[j]? = some y ∧ ∀ w', Below w.heap.size w w' → (LA 82 (.pointer (some (ad.add (j * 14))))).run Tryz.prog w' = .ok (.agg (ya y)) w' := by
  obtain ⟨ad, l, rfl, hl, hc, hcell⟩ := h.at_ hj
  rw [List.getElem?_map] at hl
  obtain ⟨y, hy, rfl⟩ := Option.map_eq_some_iff.1 hl
  refine ⟨ad, y, rfl, hy, fun w' hb => loads_at (l := y.list) (s := []) Tryz.underlying82 rfl (by show _ = some 14; kernel_rfl) fun i v hv => ?_⟩
  rw [add_add]
  rw [List.append_nil] at hv
  have hv' := hcell i v hv
  exact (hb.cell (World.block_lt_of_cell? w _ hv')).trans hv'
theorem la_drv (w : World) (y : Idl) : (LA 80 (.pointer (some ⟨w.heap.size, 0, none⟩))).run Tryz.prog (w.alloc (.cells (ya y) 82)) = .ok (.agg (Pair1.dl (drvOf y)).toArray) (w.alloc (.cells (ya y) 82)) :=
  Pair1.loads_blk (l := Pair1.dl (drvOf y)) (s := [.int .i64 y.number]) Tryz.underlying80 rfl (by show _ = some 13; kernel_rfl) (Blk.new w 82 (ya y).toList)
theorem cd_v (d : Drv) (w : World) (s0 : 0 ≤ d.seats) (e : Int) (he : Hid (drvErr d = e)) : Calls Tryz.prog 24 #[d.val] w fun r w' => r = .returned (.int .i64 e) ∧ Below w.heap.size w w' := by
  have h := checkDriver_c d w s0
  rw [he.out] at h
  exact h
def wts (c : Cfg) (now : Int) (xs : List Wai) : List Int := xs.map (wV c now)
def wAt (ws : List Int) (i : Nat) : Int := (ws[i]?).getD 0
/-- The edges of pairs, cell by cell. -/
def cellsE (ws : List Int) (l : List (Nat × Nat)) : List Value := l.flatMap fun p => [.int .i64 (p.1 : Int), .int .i64 (p.2 : Int), .int .i64 (wAt ws p.1)]
theorem cellsE_snoc (ws : List Int) (l : List (Nat × Nat)) (i k : Nat) : cellsE ws (l ++ [(i, k)]) = cellsE ws l ++ [.int .i64 (i : Int), .int .i64 (k : Int), .int .i64 (wAt ws i)] := by
  unfold cellsE; rw [List.flatMap_append]; simp
theorem wts_at {c : Cfg} {now : Int} {xs : List Wai} {i n : Nat} (hi : i < n) (hl : xs.length = n) : (nums .i64 (wts c now xs))[i]? = some (.int .i64 (wAt (wts c now xs) i)) := by
  have h : i < (wts c now xs).length := by unfold wts; rw [List.length_map]; omega
  unfold nums wAt
  rw [List.getElem?_map, List.getElem?_eq_getElem h]; rfl
theorem all_mem {xs : List Wai} {ys : List Idl} {n i j : Nat} (h : (i, j) ∈ allP xs ys n) : i < n := by
  unfold allP at h
  obtain ⟨a, ha, hb⟩ := List.mem_flatMap.1 h
  unfold innerP at hb
  obtain ⟨b, _, e⟩ := List.mem_map.1 hb
  injection e with e1 e2
  have := List.mem_range.1 ha
  omega
theorem infoE : (Tryz.prog.info? 97).map (fun i => (i.zero, i.size, i.bytes)) = some (some (.agg #[.int .i64 0, .int .i64 0, .int .i64 0]), 3, 24) := by kernel_rfl
theorem one3 (a b c : Int) : ∀ u ∈ [Value.int .i64 a, Value.int .i64 b, Value.int .i64 c], u.oneCell' = true := by
  intro u hu; simp at hu; rcases hu with rfl | rfl | rfl <;> rfl
theorem load_pair (v : Value) : Instr.loadAt 95 v = LA 95 v := rfl
theorem cellsP_at {l : List (Nat × Nat)} {s i j : Nat} (h : l[s]? = some (i, j)) (u : Nat) (v : Value) (hv : [Value.int .i64 (i : Int), .int .i64 (j : Int)][u]? = some v) : (cellsP l)[s * 2 + u]? = some v := by
  have hu : u < 2 := by have := (List.getElem?_eq_some_iff.1 hv).1; simpa using this
  induction l generalizing s with
  | nil => simp at h
  | cons p l ih =>
    unfold cellsP at *
    rw [List.flatMap_cons]
    cases s with
    | zero =>
      simp at h; subst h
      rw [List.getElem?_append_left (by simp; omega), Nat.zero_mul, Nat.zero_add]
      exact hv
    | succ s =>
      rw [List.getElem?_append_right (by simp; omega)]
      have := ih (s := s) (by simpa using h)
      rw [← this]; congr 1
      simp; omega
theorem own_pair {W : World} {base c s : Nat} {e : TypeId} {P9 : Option Addr} {l : List (Nat × Nat)} (h : Own W base e 2 (.slice P9 l.length c) l.length (cellsP l)) (hs : s < l.length) :
    ∃ g i j, P9 = some ⟨g, 0, none⟩ ∧ l[s]? = some (i, j) ∧ (base ≤ g ∧ g < W.heap.size) ∧ ∀ w', Below W.heap.size W w' → (LA 95 (.pointer (some ⟨g, s * 2, none⟩))).run Tryz.prog w' = .ok (.agg #[.int .i64 (i : Int), .int .i64 (j : Int)]) w' := by
  obtain ⟨A, c', e2, _, hf⟩ := h.form
  injection e2 with e2 e3 e4
  obtain ⟨g, e5, h6, h7, hcell⟩ := hf (by omega)
  refine ⟨g, (l[s]).1, (l[s]).2, by rw [e2, e5], by rw [List.getElem?_eq_getElem hs], ⟨h6, h7⟩, fun w' hb => loads_at (l := [.int .i64 ((l[s]).1 : Int), .int .i64 ((l[s]).2 : Int)]) (s := []) Tryz.underlying95 rfl (by kernel_rfl) fun u v hv => ?_⟩
  rw [Addr.add_mid]
  have hc := hcell (s * 2 + u) v (cellsP_at (i := (l[s]).1) (j := (l[s]).2) (by rw [List.getElem?_eq_getElem hs]) u v (by simpa using hv))
  exact (hb.cell h7).trans hc
theorem own_far {W : World} {base : Nat} {e : TypeId} {size n : Nat} {v : Value} {l : List Value} (h : Own W base e size v n l) {p : Addr} (hp : p.block < base) (u : Value) : Own (W.setCell p u) base e size v n l := by
  refine ⟨h.1, ?_⟩
  rcases h.2 with h0 | ⟨g, cap, cur, rfl, hg, hh, h1, h2, h3, h4⟩
  · exact .inl h0
  · exact .inr ⟨g, cap, cur, rfl, hg, (Below.heap_setCell W p u g (by omega)).trans hh, h1, h2, h3, h4⟩
def AP (ts : Array TypeId) (ty : TypeId) (vs : Array Value) : Sem Value := Builtin.append_ ts ty vs
theorem ap_eq (ts : Array TypeId) (ty : TypeId) (vs : Array Value) : Builtin.append_ ts ty vs = AP ts ty vs := rfl
/-- append(v, x), run. -/
theorem app_run {P : Program} {w0 w : World} (base : Nat) (t ty e : TypeId) (z : Value) (size bytes : Nat)
    (ht : P.underlying t = some (.slice e)) (hinfo : (P.info? e).map (fun i => (i.zero, i.size, i.bytes)) = some (some z, size, bytes)) (hz : z.cells.size = size) (hs0 : 0 < size)
    (v : Value) (n : Nat) (l news : List Value) (g : Nat) (hn : news.length = size) (h1 : ∀ u ∈ news, u.oneCell' = true)
    (HO : Own w base e size v n l) (HB : Below base w0 w) (hbase : base ≤ w.heap.size) (hnews : ∀ j u, news[j]? = some u → w.cell? ((⟨g, 0, none⟩ : Addr).add j) = some u) (hm : n + 1 ≤ maxLen) (hl : (n + 1) * bytes ≤ 140737488355328) :
    ∃ v1 w1, (AP #[t, t] ty #[v, .slice (some ⟨g, 0, none⟩) 1 1]).run P w = .ok v1 w1 ∧ Own w1 base e size v1 (n + 1) (l ++ news) ∧ Below base w0 w1 ∧ w.grownBy w1 v.ownBlock := by
  obtain ⟨i0, hi, hzz⟩ := Option.map_eq_some_iff.1 hinfo
  simp only [Prod.mk.injEq] at hzz
  obtain ⟨hz0, hz1, hz2⟩ := hzz
  obtain ⟨v', w', hr, h2, h3, _, _⟩ := run_append_own_at (P := P) w base t ty e i0 z size bytes ht hi hz0 hz1 hz2 hz hs0 v n l HO ⟨g, 0, none⟩ 1 1 news (by rw [hn]; omega) hnews h1 hm hl hbase
  exact ⟨v', w', hr, h2, HB.grown h3 hbase (fun k hk => HO.base_le k hk), h3⟩
theorem far_cell {w1 : World} {p q : Addr} {u : Value} (h : q.block ≠ p.block) : (w1.setCell p u).cell? q = w1.cell? q := by
  have h1 := Below.heap_setCell w1 p u q.block h
  simp [World.cell?, h1]
theorem own_below {W W' : World} {B base : Nat} {e : TypeId} {size n : Nat} {v : Value} {l : List Value} (h : Own W base e size v n l) (hk : ∀ k, v.ownBlock = some k → k < B) (hb : Below B W W') : Own W' base e size v n l := by
  refine ⟨h.1, ?_⟩
  rcases h.2 with h0 | ⟨g, cap, cur, rfl, hg, hh, h1, h2, h3, h4⟩
  · exact .inl h0
  · exact .inr ⟨g, cap, cur, rfl, hg, (hb.block g (hk g rfl)).trans hh, h1, h2, h3, h4⟩
theorem own_mono {W : World} {base b' : Nat} {e : TypeId} {size n : Nat} {v : Value} {l : List Value} (h : Own W base e size v n l) (hb : b' ≤ base) : Own W b' e size v n l := by
  refine ⟨h.1, ?_⟩
  rcases h.2 with h0 | ⟨g, cap, cur, rfl, hg, hh, h1, h2, h3, h4⟩
  · exact .inl h0
  · exact .inr ⟨g, cap, cur, rfl, Nat.le_trans hb hg, hh, h1, h2, h3, h4⟩
theorem size_set (W : World) (p : Addr) (u : Value) : (W.setCell p u).heap.size = W.heap.size := by simp [World.setCell]
theorem own_far3 {W : World} {base g : Nat} {e : TypeId} {size n : Nat} {v : Value} {l : List Value} (h : Own W base e size v n l) (hp : g < base) (x y z : Value) : Own (((W.setCell ⟨g, 0, none⟩ x).setCell ⟨g, 1, none⟩ y).setCell ⟨g, 2, none⟩ z) base e size v n l :=
  own_far (own_far (own_far h (p := ⟨g, 0, none⟩) hp x) (p := ⟨g, 1, none⟩) hp y) (p := ⟨g, 2, none⟩) hp z
theorem put3g {W : World} {g : Nat} {t : TypeId} (h : Blk W g t zG.toList) (x y z : Value) : Blk (((W.setCell ⟨g, 0, none⟩ x).setCell ⟨g, 1, none⟩ y).setCell ⟨g, 2, none⟩ z) g t [x, y, z] := ((h.put 0 x).put 1 y).put 2 z
theorem bel3g {a W : World} {g : Nat} (hg : a.heap.size ≤ g) (h : Below a.heap.size a W) (x y z : Value) : Below a.heap.size a (((W.setCell ⟨g, 0, none⟩ x).setCell ⟨g, 1, none⟩ y).setCell ⟨g, 2, none⟩ z) := ((h.setCell (p := ⟨g, 0, none⟩) hg _).setCell (p := ⟨g, 1, none⟩) hg _).setCell (p := ⟨g, 2, none⟩) hg _
/-- What Graph tells, where configuration, tick and sizes may be. -/
def GP (c : Cfg) (now : Int) (xs : List Wai) (ys : List Idl) (n m : Nat) (w : World) (e : Ending) (w' : World) : Prop :=
  Below w.heap.size w w' ∧ ((∃ (i : Nat) (x : Wai), xs[i]? = some x ∧ wE c now x ≠ 0 ∧ (∀ j y, j < i → xs[j]? = some y → wE c now y = 0) ∧ e = .returned (.tuple #[.agg zG, .int .i64 (wE c now x)])) ∨
  ((∀ (j : Nat) y, xs[j]? = some y → wE c now y = 0) ∧ ((∃ (i : Nat) (y : Idl), ys[i]? = some y ∧ drvErr (drvOf y) ≠ 0 ∧ e = .returned (.tuple #[.agg zG, .int .i64 1])) ∨
    ((∀ (j : Nat) y, ys[j]? = some y → drvErr (drvOf y) = 0) ∧ ∃ v, e = .returned (.tuple #[.agg #[.int .i64 (n : Int), .int .i64 (m : Int), v], .int .i64 0]) ∧ Own w' w.heap.size 97 3 v (allP xs ys n).length (cellsE (wts c now xs) (allP xs ys n))))))
attribute [local go_sem ↓] Keep.load_req Keep.load_drv Keep.load_cfg Weights.load_wai TwinS.load_idl load_pair ap_eq
theorem start_g (c : Cfg) (n : Nat) (w : World) (o : Obj) : ∃ W0, ((((w.alloc (.cells #[.int .i64 c.q, .int .i64 c.d, .int .i64 c.w, .int .i64 c.ttl, .int .i64 c.b] 23)).alloc (.cells zG 33)).alloc o).alloc (.cells (List.replicate n (Value.int .i64 0)).toArray 3)) = W0 ∧
    Blk W0 w.heap.size 23 (ca c).toList ∧ Blk W0 (w.heap.size + 1) 33 zG.toList ∧ Blk W0 (w.heap.size + 1 + 1 + 1) 3 (List.replicate n (Value.int .i64 0)) ∧ Below w.heap.size w W0 := by
  refine ⟨_, rfl, (((Blk.new w 23 (ca c).toList).alloc _).alloc o).alloc _, ((blk_next w _ 33 zG.toList).alloc o).alloc _, ?_, kba (kba (kba (kba (Below.refl w.heap.size w) _) _) _) _⟩
  have := Blk.new (((w.alloc (.cells #[.int .i64 c.q, .int .i64 c.d, .int .i64 c.w, .int .i64 c.ttl, .int .i64 c.b] 23)).alloc (.cells zG 33)).alloc o) 3 (List.replicate n (Value.int .i64 0))
  rwa [size_alloc, size_alloc, size_alloc] at this
theorem w_v (c : Cfg) (now : Int) (x : Wai) (w : World) (hx : x.wf) (v e : Int) (hv : Hid (wV c now x = v)) (he : Hid (wE c now x = e)) : Calls Tryz.prog 23 #[c.val, .int .i64 now, x.val] w fun r w' => r = .returned (.tuple #[.int .i64 v, .int .i64 e]) ∧ Below w.heap.size w w' := by
  have h := w_c c now x w hx
  rw [hv.out, he.out] at h
  exact h
theorem zero3 {W : World} {g : Nat} {t : TypeId} (h : Blk W g t zG.toList) : Blk (((W.setCell ⟨g, 0, none⟩ (.int .i64 0)).setCell ⟨g, 1, none⟩ (.int .i64 0)).setCell ⟨g, 2, none⟩ (.slice none 0 0)) g t zG.toList := ((h.put 0 (.int .i64 0)).put 1 (.int .i64 0)).put 2 (.slice none 0 0)
theorem zero3b {a W : World} {g : Nat} (hg : a.heap.size ≤ g) (h : Below a.heap.size a W) : Below a.heap.size a (((W.setCell ⟨g, 0, none⟩ (.int .i64 0)).setCell ⟨g, 1, none⟩ (.int .i64 0)).setCell ⟨g, 2, none⟩ (.slice none 0 0)) := ((h.setCell (p := ⟨g, 0, none⟩) hg _).setCell (p := ⟨g, 1, none⟩) hg _).setCell (p := ⟨g, 2, none⟩) hg _
theorem wts_snoc (c : Cfg) (now : Int) {xs : List Wai} {k n : Nat} {x : Wai} (hx : xs[k]? = some x) (hk : k < n) (hl : xs.length = n) : (nums .i64 ((wts c now xs).take k) ++ List.replicate (n - k) (Value.int .i64 0)).set k (.int .i64 (wV c now x)) = nums .i64 ((wts c now xs).take (k + 1)) ++ List.replicate (n - (k + 1)) (Value.int .i64 0) := by
  have hlen : (nums .i64 ((wts c now xs).take k)).length = k := by simp [nums, wts]; omega
  obtain ⟨d, hd⟩ : ∃ d, n - k = d + 1 := ⟨n - k - 1, by omega⟩
  have hw : (wts c now xs)[k]? = some (wV c now x) := by unfold wts; rw [List.getElem?_map, hx]; rfl
  have e := set_mid (nums .i64 ((wts c now xs).take k)) (List.replicate d (Value.int .i64 0)) (.int .i64 0) (.int .i64 (wV c now x))
  rw [hlen] at e
  rw [hd, List.replicate_succ, e, take_snoc _ k _ hw, show n - (k + 1) = d by omega]
  simp [nums]
theorem wts_cell (c : Cfg) (now : Int) {xs : List Wai} {k n : Nat} (hk : k < n) (hl : xs.length = n) : (nums .i64 ((wts c now xs).take k) ++ List.replicate (n - k) (Value.int .i64 0))[k]? = some (.int .i64 0) := by
  have hlen : (nums .i64 ((wts c now xs).take k)).length = k := by simp [nums, wts]; omega
  rw [List.getElem?_append_right (by omega), hlen, Nat.sub_self]
  obtain ⟨d, hd⟩ : ∃ d, n - k = d + 1 := ⟨n - k - 1, by omega⟩
  rw [hd]; rfl
set_option maxHeartbeats 8000000 in
theorem g_main (c : Cfg) (now : Int) (xs : List Wai) (ys : List Idl) (A B : Option Addr) (n m a b : Nat) (w : World) (hx : Recs w 18 A n (xs.map Wai.list)) (hy : Recs w 14 B m (ys.map Idl.list)) (wx : ∀ x ∈ xs, x.wf) (wy : ∀ y ∈ ys, y.wf)
    (h : Hid (cfgErr c = 0)) (t1 : 0 ≤ now) (t2 : now ≤ 1099511627776) (hn : n ≤ 64) (hm : m ≤ 64) :
    Calls Tryz.prog 8 #[c.val, .int .i64 now, .slice A n a, .slice B m b] w (GP c now xs ys n m w) := by
  have HX := Lib.hid hx
  have HY := Lib.hid hy
  have WX := Lib.hid wx
  have WY := Lib.hid wy
  have HNx : Hid (xs.length = n) := Lib.hid (by have := hx.1; simpa using this)
  have HM : Hid (ys.length = m) := Lib.hid (by have := hy.1; simpa using this)
  clear hx hy wx wy
  have lc := lc_blk c ((Blk.new w 23 (ca c).toList).alloc (.cells zG 33))
  have hmk := make_ints n (by omega)
  go_enter Tryz.func8, Tryz.ntmps8
  go_wp2_with (first | (go_at_call 21; with_reducible refine (config_v c _ _ h).mono ?_; rintro e w1 ⟨rfl, o, rfl⟩) | (go_at_call 22; (with_reducible refine (tick_t now _ t1 t2).mono ?_); rintro e w' ⟨rfl, rfl⟩))
  rw [made_list]
  obtain ⟨W0, hW, k1, k2, k3, k4⟩ := start_g c n w o
  rw [hW]
  have K1 := Lib.hid k1
  have K2 := Lib.hid k2
  have K3 := Lib.hid k3
  have K4 := Lib.hid k4
  clear hW k1 k2 k3 k4 lc hmk
  go_loopw [10, 45] (fun e i wr => ∃ k : Nat, k ≤ n ∧ e = .int .i64 0 ∧ i = .int .i64 k ∧ Hid (Blk wr w.heap.size 23 (ca c).toList) ∧ Hid (Blk wr (w.heap.size + 1) 33 zG.toList) ∧ Hid (Blk wr (w.heap.size + 1 + 1 + 1) 3 (nums .i64 ((wts c now xs).take k) ++ List.replicate (n - k) (Value.int .i64 0))) ∧ Hid (Below w.heap.size w wr) ∧ Hid (∀ j y, j < k → xs[j]? = some y → wE c now y = 0)) (fun _ i _ => n - (intOf i).toNat)
  case atStart => exact ⟨0, Nat.zero_le _, rfl, rfl, K1, K2, by simpa [nums] using K3, K4, fun j y hj => absurd hj (by omega)⟩
  case round =>
    clear K1 K2 K3 K4
    obtain ⟨k, hk, rfl, rfl, K1, K2, K3, K4, KE⟩ := hrel
    by_cases hlt : k < n
    · obtain ⟨ad, x, rfl, hx, hlx⟩ := at_wai HX.out hlt
      have lx := hlx _ K4.out
      have la := la_wai c wr x
      have lc := lc_blk c (K1.out.alloc (.cells (xa x) 78))
      have HXK := Lib.hid hx
      have WF := Lib.hid (WX.out x (List.mem_of_getElem? hx))
      clear hx hlx
      have HV : Hid (wV c now x = wV c now x) := Lib.hid rfl
      by_cases hE : wE c now x = 0
      · have HE := Lib.hid hE
        clear hE
        go_wp2_with (first | (go_at_call 23; with_reducible refine (w_v c now x _ WF.out _ 0 HV HE).mono ?_; rintro r w9 ⟨rfl, hb⟩; have B9 := Lib.hid hb; have q1 := ((K3.out.alloc (.cells (xa x) 78)).keep hb).cellv (wts_cell c now hlt HNx.out); have q2 := ((K3.out.alloc (.cells (xa x) 78)).keep hb).free k; have P3 := Lib.hid (((K3.out.alloc (.cells (xa x) 78)).keep hb).put k (.int .i64 (wV c now x))); have P2 := Lib.hid ((K2.out.alloc (.cells (xa x) 78)).keep hb); have P1 := Lib.hid ((K1.out.alloc (.cells (xa x) 78)).keep hb); have r1 := P2.out.cellv (i := 0) rfl; have r2 := P2.out.cellv (i := 1) rfl; have r3 := P2.out.cellv (i := 2) rfl; have s1 := P2.out.free 0; have s2 := P2.out.free 1; have s3 := P2.out.free 2; have K9 := Lib.hid (kbt (kba K4.out (.cells (xa x) 78)) hb); clear hb))
        go_roundw
        case rel =>
          refine ⟨k + 1, by omega, rfl, by go_num, Lib.hid (P1.out.far (by simp; omega) _), Lib.hid (P2.out.far (by simp) _), Lib.hid ?_, K9.out.setCell (by simp; omega) _, Lib.hid (fun j y hj hy => ?_)⟩
          · rw [← wts_snoc c now HXK.out hlt HNx.out]; exact P3.out
          · rcases Nat.lt_or_ge j k with h' | h'
            · exact KE.out j y h' hy
            · obtain rfl : j = k := by omega
              rw [HXK.out] at hy; injection hy with hy; rw [← hy]; exact HE.out
        case measure => simp [intOf]; omega
      · obtain ⟨ee, hee⟩ : ∃ ee, wE c now x = ee := ⟨_, rfl⟩
        have HE := Lib.hid hee
        have hne : ¬ ee = 0 := by rw [← hee]; exact hE
        have hnb : (ee != 0) = true := by simp [hne]
        clear hee hE
        go_wp2_with (first | (go_at_call 23; with_reducible refine (w_v c now x _ WF.out _ ee HV HE).mono ?_; rintro r w9 ⟨rfl, hb⟩; have B9 := Lib.hid hb; have q1 := ((K3.out.alloc (.cells (xa x) 78)).keep hb).cellv (wts_cell c now hlt HNx.out); have q2 := ((K3.out.alloc (.cells (xa x) 78)).keep hb).free k; have P3 := Lib.hid (((K3.out.alloc (.cells (xa x) 78)).keep hb).put k (.int .i64 (wV c now x))); have P2 := Lib.hid ((K2.out.alloc (.cells (xa x) 78)).keep hb); have P1 := Lib.hid ((K1.out.alloc (.cells (xa x) 78)).keep hb); have r1 := P2.out.cellv (i := 0) rfl; have r2 := P2.out.cellv (i := 1) rfl; have r3 := P2.out.cellv (i := 2) rfl; have s1 := P2.out.free 0; have s2 := P2.out.free 1; have s3 := P2.out.free 2; have K9 := Lib.hid (kbt (kba K4.out (.cells (xa x) 78)) hb); clear hb))
        exact bodyPost_ret (res_graph rfl _ _ (w.heap.size + 1) zG.toList _ rfl rfl (zero3 (P2.out.far (by simp) _)) rfl) rfl ⟨zero3b (by simp) (K9.out.setCell (by simp; omega) _), .inl ⟨k, x, HXK.out, by rw [HE.out]; exact hne, fun j y hj hy => KE.out j y hj hy, by rw [HE.out]; rfl⟩⟩
    · obtain rfl : k = n := by omega
      have HA : Hid (∀ (j : Nat) y, xs[j]? = some y → wE c now y = 0) := Lib.hid (fun j y hj => KE.out j y (by have := (List.getElem?_eq_some_iff.1 hj).1; have := HNx.out; omega) hj)
      have ew : nums .i64 ((wts c now xs).take k) ++ List.replicate (k - k) (Value.int .i64 0) = nums .i64 (wts c now xs) := by
        rw [Nat.sub_self, List.take_of_length_le (by unfold wts; rw [List.length_map, HNx.out]; exact Nat.le_refl _)]; simp
      rw [ew] at K3
      clear ew KE K1
      go_wp2
      go_loopw [67] (fun i wr => ∃ q : Nat, q ≤ m ∧ i = .int .i64 q ∧ Hid (Blk wr (w.heap.size + 1) 33 zG.toList) ∧ Hid (Blk wr (w.heap.size + 1 + 1 + 1) 3 (nums .i64 (wts c now xs))) ∧ Hid (Below w.heap.size w wr) ∧ Hid (∀ j y, j < q → ys[j]? = some y → drvErr (drvOf y) = 0)) (fun i _ => m - (intOf i).toNat)
      case atStart => exact ⟨0, Nat.zero_le _, rfl, K2, K3, K4, fun j y hj => absurd hj (by omega)⟩
      case round =>
        clear K2 K3 K4
        obtain ⟨q, hq, rfl, K2, K3, K4, KD⟩ := hrel
        by_cases hlt2 : q < m
        · obtain ⟨bd, y, rfl, hy, hly⟩ := at_idl HY.out hlt2
          have ly := hly _ K4.out
          have lb := la_drv wr y
          have HYK := Lib.hid hy
          have WFY := Lib.hid (Dok.of (drv_wf (WY.out y (List.mem_of_getElem? hy)))).seats.1
          clear hy hly
          by_cases hE : drvErr (drvOf y) = 0
          · have HE := Lib.hid hE
            clear hE
            go_wp2_with (first | (go_at_call 24; with_reducible refine (cd_v (drvOf y) _ WFY.out 0 HE).mono ?_; rintro r w9 ⟨rfl, hb⟩; have B9 := Lib.hid hb; clear hb))
            go_roundw
            case rel =>
              refine ⟨q + 1, by omega, by go_num, Lib.hid ((K2.out.alloc _).keep B9.out), Lib.hid ((K3.out.alloc _).keep B9.out), Lib.hid (kbt (kba K4.out _) B9.out), Lib.hid (fun j z hj hz => ?_)⟩
              rcases Nat.lt_or_ge j q with h' | h'
              · exact KD.out j z h' hz
              · obtain rfl : j = q := by omega
                rw [HYK.out] at hz; injection hz with hz; rw [← hz]; exact HE.out
            case measure => simp [intOf]; omega
          · have HE : Hid (drvErr (drvOf y) = 1) := Lib.hid (by unfold drvErr at hE ⊢; split <;> simp_all)
            clear hE
            go_wp2_with (first | (go_at_call 24; with_reducible refine (cd_v (drvOf y) _ WFY.out 1 HE).mono ?_; rintro r w9 ⟨rfl, hb⟩; have B9 := Lib.hid hb; have P2 := Lib.hid ((K2.out.alloc (.cells (ya y) 82)).keep hb); have r1 := P2.out.cellv (i := 0) rfl; have r2 := P2.out.cellv (i := 1) rfl; have r3 := P2.out.cellv (i := 2) rfl; have s1 := P2.out.free 0; have s2 := P2.out.free 1; have s3 := P2.out.free 2; clear hb))
            exact bodyPost_ret (res_graph rfl _ _ (w.heap.size + 1) zG.toList _ rfl rfl (zero3 P2.out) rfl) rfl ⟨zero3b (by simp) (kbt (kba K4.out _) B9.out), .inr ⟨HA.out, .inl ⟨q, y, HYK.out, by rw [HE.out]; decide, rfl⟩⟩⟩
        · obtain rfl : q = m := by omega
          have HD : Hid (∀ (j : Nat) y, ys[j]? = some y → drvErr (drvOf y) = 0) := Lib.hid (fun j y hj => KD.out j y (by have := (List.getElem?_eq_some_iff.1 hj).1; have := HM.out; omega) hj)
          clear KD
          have KG := Lib.hid (Blk.new wr 33 [.int .i64 (k : Int), .int .i64 (q : Int), .slice none 0 0])
          go_wp2_with (first | (go_at_call 25; with_reducible refine (pairs_c xs ys _ _ k q _ _ _ (HX.out.keep (kba K4.out _)) (HY.out.keep (kba K4.out _)) WX.out WY.out (by omega) (by omega)).mono ?_; rintro r w9 ⟨v, rfl, hO, hb⟩; obtain ⟨P9, c9, rfl, _, _⟩ := hO.form; have B9 := Lib.hid hb; have HO := Lib.hid hO; clear hO hb))
          have L2 := Lib.hid ((K2.out.alloc (.cells #[.int .i64 (k : Int), .int .i64 (q : Int), .slice none 0 0] 33)).keep B9.out)
          have L3 := Lib.hid ((K3.out.alloc (.cells #[.int .i64 (k : Int), .int .i64 (q : Int), .slice none 0 0] 33)).keep B9.out)
          have LG := Lib.hid (KG.out.keep B9.out)
          have L4 := Lib.hid (kbt (kba K4.out _) B9.out)
          have HS1 : Hid (wr.heap.size + 1 ≤ w9.heap.size) := Lib.hid (by have := B9.out.size; rwa [size_alloc] at this)
          have HS2 : Hid (w.heap.size + 1 + 1 + 1 < wr.heap.size) := Lib.hid K3.out.lt
          rw [size_alloc] at HO
          clear K2 K3 K4 KG B9
          generalize wr.heap.size = gB at *
          obtain ⟨b2, hb2⟩ : ∃ b2, b2 = w9.heap.size := ⟨_, rfl⟩
          rw [← hb2] at HS1
          have HB2 := Lib.hid hb2
          have HPB : Hid (∀ k_1, (Value.slice P9 (allP xs ys k).length c9).ownBlock = some k_1 → k_1 < b2) := Lib.hid (fun k_1 hk_1 => by rw [hb2]; exact HO.out.lt k_1 hk_1)
          clear hb2
          go_loopw [88] (fun i w3 => ∃ (s : Nat) (ev : Value), s ≤ (allP xs ys k).length ∧ i = .int .i64 s ∧ Hid (Blk w3 gB 33 [.int .i64 (k : Int), .int .i64 (q : Int), ev]) ∧ Hid (Own w3 b2 97 3 ev s (cellsE (wts c now xs) ((allP xs ys k).take s))) ∧ Hid (Blk w3 (w.heap.size + 1) 33 zG.toList) ∧ Hid (Blk w3 (w.heap.size + 1 + 1 + 1) 3 (nums .i64 (wts c now xs))) ∧ Hid (Own w3 (gB + 1) 95 2 (.slice P9 (allP xs ys k).length c9) (allP xs ys k).length (cellsP (allP xs ys k))) ∧ Hid (Below w.heap.size w w3) ∧ Hid (b2 ≤ w3.heap.size)) (fun i _ => (allP xs ys k).length - (intOf i).toNat)
          case atStart => exact ⟨0, _, Nat.zero_le _, rfl, LG, Lib.hid (by simpa [cellsE] using Own.nil w9 b2 97 3), L2, L3, HO, L4, Lib.hid (by rw [HB2.out]; exact Nat.le_refl _)⟩
          case round =>
            clear L2 L3 LG HO L4
            obtain ⟨s, ev, hs, rfl, LG, HOE, L2, L3, HO, L4, L5⟩ := hrel
            by_cases hlt3 : s < (allP xs ys k).length
            · obtain ⟨g, i, j, rfl, hij, hgb, hlp⟩ := own_pair HO.out hlt3
              have hik := all_mem (List.mem_of_getElem? hij)
              have hwc : wr.cell? ⟨w.heap.size + 1 + 1 + 1, i, none⟩ = some (.int .i64 (wAt (wts c now xs) i)) := L3.out.cellv (wts_at hik HNx.out)
              have la := hlp _ (Below.refl _ _)
              have lg : wr.cell? ⟨gB, 2, none⟩ = some ev := LG.out.cellv rfl
              have lgt : gB < wr.heap.size := LG.out.lt
              have lwt : w.heap.size + 1 + 1 + 1 < wr.heap.size := L3.out.lt
              have lwt2 : w.heap.size + 1 + 1 < wr.heap.size := by omega
              have lwt3 : w.heap.size + 1 < wr.heap.size := by omega
              have hsN : (allP xs ys k).length ≤ 4096 := Nat.le_trans (all_le xs ys k) (by rw [HM.out]; have := Nat.mul_le_mul hn hm; omega)
              have hik64 : i < 64 := by omega
              have HIJ := Lib.hid hij
              have HOA := Lib.hid (own_drew (HOE.out.keep (alloc_below wr (.cells #[.int .i64 (i : Int), .int .i64 (j : Int)] 95))))
              have HBB := Lib.hid (((Below.refl b2 wr).alloc L5.out (.cells #[.int .i64 (i : Int), .int .i64 (j : Int)] 95)).drew)
              have HBA := Lib.hid (Nat.le_trans L5.out HBB.out.size)
              have HMX : Hid (s + 1 ≤ maxLen) := Lib.hid (by unfold maxLen; omega)
              have HBY : Hid ((s + 1) * 24 ≤ 140737488355328) := Lib.hid (by omega)
              have x1 : (wr.alloc (.cells #[.int .i64 (i : Int), .int .i64 (j : Int)] 95)).cell? ⟨gB, 2, none⟩ = some ev := (LG.out.alloc _).cellv rfl
              have x2 : (wr.alloc (.cells #[.int .i64 (i : Int), .int .i64 (j : Int)] 95)).cell? ⟨wr.heap.size, 0, none⟩ = some (.int .i64 (i : Int)) := (Blk.new wr 95 [.int .i64 (i : Int), .int .i64 (j : Int)]).cellv rfl
              have x3 : (wr.alloc (.cells #[.int .i64 (i : Int), .int .i64 (j : Int)] 95)).cell? ⟨wr.heap.size, 1, none⟩ = some (.int .i64 (j : Int)) := (Blk.new wr 95 [.int .i64 (i : Int), .int .i64 (j : Int)]).cellv rfl
              have x4 : (wr.alloc (.cells #[.int .i64 (i : Int), .int .i64 (j : Int)] 95)).cell? ⟨w.heap.size + 1 + 1 + 1, i, none⟩ = some (.int .i64 (wAt (wts c now xs) i)) := (L3.out.alloc _).cellv (wts_at hik HNx.out)
              clear hij hlp lg hwc
              have HO1 := Lib.hid (HOE.out.keep (alloc_below wr (.cells #[.int .i64 (i : Int), .int .i64 (j : Int)] 95)))
              have HB1 := Lib.hid ((Below.refl b2 wr).alloc L5.out (.cells #[.int .i64 (i : Int), .int .i64 (j : Int)] 95))
              have x5 : w.heap.size + 1 + 1 + 1 < (wr.alloc (.cells #[.int .i64 (i : Int), .int .i64 (j : Int)] 95)).heap.size := by rw [size_alloc]; omega
              have x6 : wr.heap.size < (wr.alloc (.cells #[.int .i64 (i : Int), .int .i64 (j : Int)] 95)).heap.size := by rw [size_alloc]; omega
              have x7 : gB < (wr.alloc (.cells #[.int .i64 (i : Int), .int .i64 (j : Int)] 95)).heap.size := by rw [size_alloc]; omega
              clear HOA HBB HBA
              go_wp2
              obtain ⟨w1, hPB⟩ : ∃ w1, wr.alloc (.cells #[.int .i64 (i : Int), .int .i64 (j : Int)] 95) = w1 := ⟨_, rfl⟩
              rw [hPB] at x1 x2 x3 x4 x5 x6 x7 HO1 HB1 ⊢
              have HO9 := own_drew (HO1.out.keep (alloc_below w1 (.cells #[.int .i64 (i : Int), .int .i64 (j : Int), .int .i64 (wAt (wts c now xs) i)] 97)))
              have HB9 := (HB1.out.alloc (Nat.le_trans L5.out HB1.out.size) (.cells #[.int .i64 (i : Int), .int .i64 (j : Int), .int .i64 (wAt (wts c now xs) i)] 97)).drew
              have HNW : ∀ j_1 u, [Value.int .i64 (i : Int), .int .i64 (j : Int), .int .i64 (wAt (wts c now xs) i)][j_1]? = some u → (w1.alloc (.cells #[.int .i64 (i : Int), .int .i64 (j : Int), .int .i64 (wAt (wts c now xs) i)] 97)).drew.cell? ((⟨w1.heap.size, 0, none⟩ : Addr).add j_1) = some u := fun a u hu => by rw [add_at]; exact (Blk.new w1 97 [.int .i64 (i : Int), .int .i64 (j : Int), .int .i64 (wAt (wts c now xs) i)]).drew.cellv hu
              obtain ⟨v1, w8, hrun, hO, hB, hg⟩ := app_run (w0 := wr) b2 31 31 97 (.agg #[.int .i64 0, .int .i64 0, .int .i64 0]) 3 24 Tryz.underlying31 infoE rfl (by decide) ev s _ [.int .i64 (i : Int), .int .i64 (j : Int), .int .i64 (wAt (wts c now xs) i)] w1.heap.size rfl (one3 _ _ _) HO9 HB9 (Nat.le_trans L5.out HB9.size) HNW HMX.out HBY.out
              obtain ⟨A1, c1, rfl, _, _⟩ := hO.form
              have HO8 := Lib.hid hO
              have HB8 := Lib.hid hB
              have LG8 := Lib.hid (LG.out.below hB (Nat.lt_of_lt_of_le (Nat.lt_succ_self gB) HS1.out))
              have z1 := LG8.out.cellv (i := 2) rfl
              have z2 := LG8.out.free 2
              clear hPB HO9 HB9 HNW hO hB hg
              go_region
              go_wp2
              go_roundw
              case rel =>
                have hs1 : gB < b2 := Nat.lt_of_lt_of_le (Nat.lt_succ_self gB) HS1.out
                have hs3 : w.heap.size + 1 + 1 + 1 < gB := HS2.out
                refine ⟨s + 1, _, by omega, by go_num, Lib.hid (LG8.out.put 2 _), Lib.hid ?_, Lib.hid ((L2.out.below HB8.out (by omega)).far (p := ⟨gB, 2, none⟩) (by show w.heap.size + 1 ≠ gB; omega) _), Lib.hid ((L3.out.below HB8.out (by omega)).far (p := ⟨gB, 2, none⟩) (by show w.heap.size + 1 + 1 + 1 ≠ gB; omega) _), Lib.hid (own_far (own_below HO.out HPB.out HB8.out) (p := ⟨gB, 2, none⟩) (Nat.lt_succ_self gB) _), Lib.hid ((L4.out.trans (HB8.out.mono (by omega))).setCell (p := ⟨gB, 2, none⟩) (by show w.heap.size ≤ gB; omega) _), Lib.hid (by rw [size_set]; exact Nat.le_trans L5.out HB8.out.size)⟩
                rw [take_snoc _ s _ HIJ.out, cellsE_snoc]
                exact own_far HO8.out (p := ⟨gB, 2, none⟩) hs1 _
              case measure => simp [intOf]; omega
            · obtain rfl : s = (allP xs ys k).length := by omega
              have hs1 : gB < b2 := Nat.lt_of_lt_of_le (Nat.lt_succ_self gB) HS1.out
              have hs3 : w.heap.size + 1 + 1 + 1 < gB := HS2.out
              rw [List.take_length] at HOE
              obtain ⟨A1, c1, rfl, _, _⟩ := HOE.out.form
              have y1 := LG.out.cellv (i := 0) rfl
              have y2 := LG.out.cellv (i := 1) rfl
              have y3 := LG.out.cellv (i := 2) rfl
              have r1 := L2.out.cellv (i := 0) rfl
              have r2 := L2.out.cellv (i := 1) rfl
              have r3 := L2.out.cellv (i := 2) rfl
              have s1 := L2.out.free 0
              have s2 := L2.out.free 1
              have s3 := L2.out.free 2
              go_wp2
              exact bodyPost_ret (res_graph rfl _ _ (w.heap.size + 1) [.int .i64 (k : Int), .int .i64 (q : Int), .slice A1 (allP xs ys k).length c1] _ rfl rfl (put3g L2.out _ _ _) rfl) rfl ⟨bel3g (by omega) L4.out _ _ _, .inr ⟨HA.out, .inr ⟨HD.out, _, rfl, own_mono (own_far3 HOE.out (show w.heap.size + 1 < b2 by omega) _ _ _) (by omega)⟩⟩⟩
end Go.Proofs.YtkpdomnmlinomabGreat.GraphB
