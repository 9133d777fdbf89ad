/- WeighRows: where the graph is answered. -/
import Derived.Test.YtbpdfcllojaanaaRowsE
import Derived.Test.YtbpdfcllojaanaaRowsQ
namespace Go.Proofs.Ytbpdfcllojaanaa.First
open Go.RowKit Go.Proofs.Ytbpdfcllojaanaa.Aid Go.Proofs.Ytbpdfcllojaanaa.Mem Go.Proofs.Ytbpdfcllojaanaa.Types Go.Proofs.Ytbpdfcllojaanaa.Keep Go.Proofs.Ytbpdfcllojaanaa.Mays Go.Proofs.Ytbpdfcllojaanaa.Weight Go.Proofs.Ytbpdfcllojaanaa.Weights Go.Proofs.Ytbpdfcllojaanaa.Recs Go.Proofs.Ytbpdfcllojaanaa.TwinS Go.Proofs.Ytbpdfcllojaanaa.Twin Go.Proofs.Ytbpdfcllojaanaa.AliveW Go.Proofs.Ytbpdfcllojaanaa.Has Go.Proofs.Ytbpdfcllojaanaa.Graph Go.Proofs.Ytbpdfcllojaanaa.GraphB Go.Proofs.Ytbpdfcllojaanaa.PairsG Go.Proofs.Ytbpdfcllojaanaa.RowsP Go.Proofs.Ytbpdfcllojaanaa.Check Go.Proofs.Ytbpdfcllojaanaa.Fit Go.Proofs.Ytbpdfcllojaanaa.Fits Go.Proofs.Ytbpdfcllojaanaa.Pair1
set_option linter.unusedSimpArgs false
set_option linter.unusedVariables false
set_option maxRecDepth 100000
attribute [local go_sem ↓] Keep.load_cfg store_g Weights.load_wai Keep.load_drv Keep.load_req
theorem own_sets {base g : Nat} {e : TypeId} {size n : Nat} {v : Value} {l : List Value} (hne : ∀ k, v.ownBlock = some k → k ≠ g) : ∀ (vs : List Value) (o : Nat) (W : World), Own W base e size v n l → Own (W.setCells g o vs) base e size v n l
  | [], _, _, h => h
  | u :: r, o, W, h => by
    refine own_sets hne r (o + 1) _ ?_
    refine ⟨h.1, ?_⟩
    rcases h.2 with h0 | ⟨g', cap, cur, rfl, hg, hh, h1, h2, h3, h4⟩
    · exact .inl h0
    · exact .inr ⟨g', cap, cur, rfl, hg, (Below.heap_setCell W ⟨g, o, none⟩ u g' (hne g' rfl)).trans hh, h1, h2, h3, h4⟩
theorem own_ne1 {W : World} {base g : Nat} {e : TypeId} {size n : Nat} {v : Value} {l : List Value} (h : Own W base e size v n l) (hg : g < base) : ∀ k, v.ownBlock = some k → k ≠ g := fun k hk => by have := h.base_le k hk; omega
theorem KL.storeC {w0 w : World} {c : Cfg} {A B : Option Addr} {n a m b : Nat} {g : Nat} {base : Nat} {e : TypeId} {size N : Nat} {l : List Value} (h : KL w0 c A n a B m b w) (hz : Blk w g 24 zB) (hg : w0.heap.size + 1 < g) (x y z : Value) (h1 : x.oneCell' = true) (h2 : y.oneCell' = true) (h3 : z.oneCell' = true) (hO : Own w base e size z N l) (hne : ∀ k, z.ownBlock = some k → k ≠ g) :
    ∃ w', (SA 24 (.pointer (some ⟨g, 0, none⟩)) (.agg #[x, y, z])).run Try.prog w = .ok () w' ∧ KL w0 c A n a B m b w' ∧ Blk w' g 24 [x, y, z] ∧ Own w' base e size z N l := by
  refine ⟨_, stores_mid (cs := [x, y, z]) hz (by simp) (by show _ = some 3; kernel_rfl) (by intro v hv; simp only [List.mem_cons, List.not_mem_nil, or_false] at hv; rcases hv with rfl | rfl | rfl <;> assumption), ⟨fun u hu => ?_, below_sets (by omega) _ _ _ h.2⟩, Blk.puts [x, y, z] 0 _ _ hz (by simp), own_sets hne _ _ _ hO⟩
  refine Blk.fars ?_ _ _ _ (h.1 u hu)
  simp only [List.mem_cons, List.not_mem_nil, or_false] at hu
  rcases hu with rfl | rfl <;> simp <;> omega
theorem KL.storeC_new {w0 w : World} {c : Cfg} {A B : Option Addr} {n a m b : Nat} {base : Nat} {e : TypeId} {size N : Nat} {l : List Value} (h : KL w0 c A n a B m b w) (x y z : Value) (h1 : x.oneCell' = true) (h2 : y.oneCell' = true) (h3 : z.oneCell' = true) (hO : Own w base e size z N l) :
    ∃ w', (SA 24 (.pointer (some ⟨w.heap.size, 0, none⟩)) (.agg #[x, y, z])).run Try.prog (w.alloc (.cells #[.int .i64 0, .int .i64 0, .slice none 0 0] 24)) = .ok () w' ∧ KL w0 c A n a B m b w' ∧ Blk w' w.heap.size 24 [x, y, z] ∧ Own w' base e size z N l :=
  KL.storeC (KL.keep h (alloc_below _ _)) (Blk.new w 24 zB) (KL.lt h) x y z h1 h2 h3 (hO.keep (alloc_below _ _)) (fun k hk => by have := hO.lt k hk; omega)
/-- The boxes, the graph's box, and its edges. -/
def KG (w0 : World) (c : Cfg) (A : Option Addr) (n a : Nat) (B : Option Addr) (m b g base : Nat) (P9 : Option Addr) (c9 : Nat) (ws : List Int) (l : List (Nat × Nat)) (W : World) : Prop :=
  KL w0 c A n a B m b W ∧ Blk W g 24 [.int .i64 (n : Int), .int .i64 (m : Int), .slice P9 l.length c9] ∧ Own W base 26 3 (.slice P9 l.length c9) l.length (cellsE ws l)
section
variable {w0 w w' : World} {c : Cfg} {A B P9 : Option Addr} {n a m b g base c9 : Nat} {ws : List Int} {l : List (Nat × Nat)}
theorem KG.keep (h : KG w0 c A n a B m b g base P9 c9 ws l w) (hb : Below w.heap.size w w') : KG w0 c A n a B m b g base P9 c9 ws l w' := ⟨KL.keep h.1 hb, h.2.1.keep hb, h.2.2.keep hb⟩
theorem KG.bel (h : KG w0 c A n a B m b g base P9 c9 ws l w) : Below w0.heap.size w0 w := Has.bel h.1
theorem KG.lc (h : KG w0 c A n a B m b g base P9 c9 ws l w) : (LA 34 (.pointer (some ⟨w0.heap.size, 0, none⟩))).run Try.prog w = .ok c.val w := KL.lc h.1
theorem KG.c0 (h : KG w0 c A n a B m b g base P9 c9 ws l w) : w.cell? ⟨w0.heap.size + 1, 0, none⟩ = some (.slice A n a) := KL.c0 h.1
theorem KG.c1 (h : KG w0 c A n a B m b g base P9 c9 ws l w) : w.cell? ⟨w0.heap.size + 1, 1, none⟩ = some (.slice B m b) := KL.c1 h.1
theorem KG.z0 (h : KG w0 c A n a B m b g base P9 c9 ws l w) : w.cell? ⟨g, 0, none⟩ = some (.int .i64 (n : Int)) := h.2.1.cellv rfl
theorem KG.z1 (h : KG w0 c A n a B m b g base P9 c9 ws l w) : w.cell? ⟨g, 1, none⟩ = some (.int .i64 (m : Int)) := h.2.1.cellv rfl
theorem KG.z2 (h : KG w0 c A n a B m b g base P9 c9 ws l w) : w.cell? ⟨g, 2, none⟩ = some (.slice P9 l.length c9) := h.2.1.cellv rfl
theorem KG.check {R C : Int} (h : KG w0 c A n a B m b g base P9 c9 ws l w) (hl : l.length ≤ 140737488351232) (v : Int) (hv : Hid (gErr R C (edgs ws l) = v)) : Calls Try.prog 12 #[.agg #[.int .i64 R, .int .i64 C, .slice P9 l.length c9]] w fun e w' => e = .returned (.int .i64 v) ∧ Below w.heap.size w w' := by
  obtain ⟨A', c', e, hc, hr, _⟩ := own_recs h.2.2 rfl
  injection e with e1 e2 e3
  subst e1 e3
  obtain rfl := hv.out
  exact check_c R C _ _ _ _ w hr hl
end
theorem edgs_at {ws : List Int} {l : List (Nat × Nat)} {j i k : Nat} (h : l[j]? = some (i, k)) (u : Nat) (v : Value) (hv : [Value.int .i64 (i : Int), .int .i64 (k : Int), .int .i64 (wAt ws i)][u]? = some v) : (cellsE ws l)[j * 3 + u]? = some v := by
  rw [← edgs_flat]
  exact flat_at _ (edgs_len3 ws l) j u _ v (by unfold edgs; rw [List.map_map, List.getElem?_map, h]; rfl) hv
def cnt (xs : List Wai) (ys : List Idl) (i k : Nat) : Nat := (allP xs ys i ++ innerP xs ys i k).length
def cnt0 (xs : List Wai) (ys : List Idl) (i : Nat) : Nat := (allP xs ys i).length
theorem cnt_0 (xs : List Wai) (ys : List Idl) (i : Nat) : cnt xs ys i 0 = cnt0 xs ys i := by simp [cnt, cnt0, innerP]
theorem cnt_t {xs : List Wai} {ys : List Idl} {i k : Nat} (h : hit xs ys i k = true) : cnt xs ys i (k + 1) = cnt xs ys i k + 1 := by unfold cnt; rw [inner_t h, ← List.append_assoc, List.length_append]; rfl
theorem cnt_f {xs : List Wai} {ys : List Idl} {i k : Nat} (h : hit xs ys i k = false) : cnt xs ys i (k + 1) = cnt xs ys i k := by unfold cnt; rw [inner_f h]
theorem cnt_e {xs : List Wai} {ys : List Idl} {i m : Nat} (h : ys.length = m) : cnt xs ys i m = cnt0 xs ys (i + 1) := by unfold cnt cnt0; rw [all_succ, h]
theorem all_pre (xs : List Wai) (ys : List Idl) (i : Nat) : ∀ n, i ≤ n → ∃ r, allP xs ys n = allP xs ys i ++ r
  | 0, h => ⟨[], by obtain rfl : i = 0 := by omega
                    simp⟩
  | n + 1, h => by
    rcases Nat.lt_or_ge n i with h1 | h1
    · obtain rfl : i = n + 1 := by omega
      exact ⟨[], by simp⟩
    · obtain ⟨r, e⟩ := all_pre xs ys i n h1
      exact ⟨r ++ innerP xs ys n ys.length, by rw [all_succ, e, List.append_assoc]⟩
theorem inner_pre (xs : List Wai) (ys : List Idl) (i k : Nat) : ∀ m, k ≤ m → ∃ r, innerP xs ys i m = innerP xs ys i k ++ r
  | 0, h => ⟨[], by obtain rfl : k = 0 := by omega
                    simp⟩
  | m + 1, h => by
    rcases Nat.lt_or_ge m k with h1 | h1
    · obtain rfl : k = m + 1 := by omega
      exact ⟨[], by simp⟩
    · obtain ⟨r, e⟩ := inner_pre xs ys i k m h1
      cases hh : hit xs ys i m
      · exact ⟨r, by rw [inner_f hh, e]⟩
      · exact ⟨r ++ [(i, m)], by rw [inner_t hh, e, List.append_assoc]⟩
theorem pre_at {xs : List Wai} {ys : List Idl} {i k n : Nat} (hi : i < n) (hk : k < ys.length) (h : hit xs ys i k = true) : ∃ r, allP xs ys n = (allP xs ys i ++ innerP xs ys i k) ++ (i, k) :: r := by
  obtain ⟨r1, e1⟩ := inner_pre xs ys i (k + 1) ys.length hk
  obtain ⟨r2, e2⟩ := all_pre xs ys (i + 1) n hi
  refine ⟨r1 ++ r2, ?_⟩
  rw [e2, all_succ, e1, inner_t h]
  simp
theorem KG.at_ {w0 W : World} {c : Cfg} {A B P9 : Option Addr} {n a m b g base c9 i k nn : Nat} {ws : List Int} {xs : List Wai} {ys : List Idl} (h : KG w0 c A n a B m b g base P9 c9 ws (allP xs ys nn) W) (hi : i < nn) (hk : k < ys.length) (hh : hit xs ys i k = true) (V : Int) (hV : wAt ws i = V) :
    ∃ q, P9 = some ⟨q, 0, none⟩ ∧ cnt xs ys i k < (allP xs ys nn).length ∧ (LA 26 (.pointer (some ⟨q, cnt xs ys i k * 3, none⟩))).run Try.prog W = .ok (.agg #[.int .i64 (i : Int), .int .i64 (k : Int), .int .i64 V]) W := by
  subst hV
  obtain ⟨r, e1⟩ := pre_at hi hk hh
  have hl : cnt xs ys i k < (allP xs ys nn).length := by rw [e1]; unfold cnt; simp
  have hj : (allP xs ys nn)[cnt xs ys i k]? = some (i, k) := by rw [e1]; unfold cnt; simp
  obtain ⟨A', c', e2, _, hf⟩ := h.2.2.form
  injection e2 with e2 e3 e4
  obtain ⟨q, e5, _, _, hcell⟩ := hf (by omega)
  refine ⟨q, by rw [e2, e5], hl, loads_at (l := [.int .i64 (i : Int), .int .i64 (k : Int), .int .i64 (wAt ws i)]) (s := []) Try.underlying26 rfl (by kernel_rfl) fun j v hv => ?_⟩
  rw [Addr.add_mid]
  exact hcell _ v (edgs_at hj j v (by simpa using hv))
theorem w_at {c : Cfg} {now : Int} {xs : List Wai} {i : Nat} {x : Wai} (h : xs[i]? = some x) : wAt (wts c now xs) i = wV c now x := by unfold wAt wts; rw [List.getElem?_map, h]; rfl
theorem KG.mk' {w0 W : World} {c : Cfg} {A B P9 : Option Addr} {n a m b g base c9 : Nat} {ws : List Int} {l : List (Nat × Nat)} (h : KL w0 c A n a B m b W) (hb : Blk W g 24 [.int .i64 (n : Int), .int .i64 (m : Int), .slice P9 l.length c9]) (ho : Own W base 26 3 (.slice P9 l.length c9) l.length (cellsE ws l)) : ∃ gB base, g = gB ∧ KG w0 c A n a B m b gB base P9 c9 ws l W := ⟨_, _, rfl, h, hb, ho⟩
theorem ret_be {a b : Int} (h : a = b) : Ending.returned (.bool (a == b)) = Ending.returned (.bool true) := by rw [h]; simp
attribute [local go_sem ↓] load_edg
set_option maxHeartbeats 8000000 in
theorem rows_ok (c : Cfg) (now : Int) (xs : List Wai) (A : Option Addr) (n a : Nat) (ys : List Idl) (B : Option Addr) (m b : Nat) (w : World) (hx : Recs w 18 A n (xs.map Wai.list)) (hn : n ≤ 140737488351232) (hy : Recs w 14 B m (ys.map Idl.list)) (hm : m ≤ 140737488351232) (ha : n ≤ a) (hb : m ≤ b)
    (HBE : Hid (decide (1048576 < n + m) = false)) (hn2 : n ≤ 1048576) (hm2 : m ≤ 1048576) (HG : Hid (∀ (A' B' : Option Addr) (a' b' : Nat) (W : World), Recs W 18 A' n (xs.map Wai.list) → Recs W 14 B' m (ys.map Idl.list) → Calls Try.prog 19 #[c.val, .int .i64 now, .slice A' n a', .slice B' m b'] W fun e w' => (∃ v, e = .returned (.tuple #[.agg #[.int .i64 (n : Int), .int .i64 (m : Int), v], .int .i64 0]) ∧ Own w' W.heap.size 26 3 v (allP xs ys n).length (cellsE (wts c now xs) (allP xs ys n))) ∧ Below W.heap.size W w')) (WX : ∀ x ∈ xs, x.wf) (WS : Hid (∀ y ∈ ys, y.wf)) (WE : ∀ (i : Nat) (x : Wai), xs[i]? = some x → Hid (wE c now x = 0)) (GE : Hid (gErr (n : Int) (m : Int) (edgs (wts c now xs) (allP xs ys n)) = 0)) (NN : n ≤ 64) (MM : m ≤ 64) :
    Calls Try.prog 7 #[c.val, .int .i64 now, .agg #[.slice A n a, .slice B m b]] w fun e w' => e = .returned (.bool true) ∧ Below w.heap.size w w' := by
  have HX := Lib.hid hx
  have HY := Lib.hid hy
  clear hx hy
  have k := KL.start w c A n a B m b
  go_enter Try.func7, Try.ntmps7
  go_wp2_with (first | (go_at_call 17; with_reducible refine (alive_c _).mono ?_; rintro e w1 ⟨rfl, hb⟩; replace k := KL.keep k hb; have k0 := KL.c0 k; have k1 := KL.c1 k; clear hb) | (go_at_call 10; with_reducible refine (beyond2 n m _ _ hn hm false HBE.out).mono ?_; rintro e w2 ⟨rfl, rfl⟩; replace k := KL.keep k (alloc_below _ (.cells #[.int .i64 (n : Int), .int .i64 (m : Int)] 3)); clear k0 k1))
  have HNx : Hid (xs.length = n) := Lib.hid (by have := HX.out.1; simpa using this)
  have HM : Hid (ys.length = m) := Lib.hid (by have := HY.out.1; simpa using this)
  have EXT : Hid (∀ W, KL w c A n a B m b W → (fun W => KL w c A n a B m b W ∧ (LA 34 (.pointer (some ⟨w.heap.size, 0, none⟩))).run Try.prog W = .ok (.agg #[.int .i64 c.q, .int .i64 c.d, .int .i64 c.w, .int .i64 c.ttl, .int .i64 c.b]) W ∧ W.cell? ⟨w.heap.size + 1, 0, none⟩ = some (.slice A n a) ∧ W.cell? ⟨w.heap.size + 1, 1, none⟩ = some (.slice B m b)) W) := Lib.hid (fun W h => ⟨h, KL.lc h, KL.c0 h, KL.c1 h⟩)
  have K := Lib.hid k
  clear k
  dsimp only at EXT
  generalize hW2 : w1.alloc _ = w2 at K ⊢
  clear hW2
  go_region_held3 (fun W => KL w c A n a B m b W ∧ (LA 34 (.pointer (some ⟨w.heap.size, 0, none⟩))).run Try.prog W = .ok (.agg #[.int .i64 c.q, .int .i64 c.d, .int .i64 c.w, .int .i64 c.ttl, .int .i64 c.b]) W ∧ W.cell? ⟨w.heap.size + 1, 0, none⟩ = some (.slice A n a) ∧ W.cell? ⟨w.heap.size + 1, 1, none⟩ = some (.slice B m b)) (first | exact EXT.out _ (KL.keep K.out (drew_below _)) | exact EXT.out _ (KL.keep (And.left (by assumption)) hb) | exact EXT.out _ (KL.keep (And.left (by assumption)) (alloc_below _ _)) | exact EXT.out _ (KL.keep k5 (alloc_below _ _)) | exact EXT.out _ k6 | exact EXT.out _ (KL.keep k4 (alloc_below _ _)) | exact EXT.out _ (KL.keep k3 (alloc_below _ _)) | exact EXT.out _ (KL.keep (KL.keep K.out (drew_below _)) (alloc_below _ _))) (first | (go_at_call 20; refine (twin_wai (xs.map Wai.list) A n a _ _ rfl (HX.out.keep (Has.bel (And.left (by assumption)))) (wai_one xs) hn2).mono ?_; rintro e w3 ⟨rfl, hB3, hb⟩; (try rw [size_ad] at hB3); (try rw [size_alloc] at hB3); have hb3 := hb; have k3 := KL.keep (And.left (by assumption)) hb) | (go_at_call 21; refine (twin_idl (ys.map Idl.list) B m b _ _ rfl (HY.out.keep (Has.bel (And.left (by assumption)))) (idl_one ys) hm2).mono ?_; rintro e w4 ⟨rfl, hB4, hb⟩; (try rw [size_ad] at hB4); (try rw [size_alloc] at hB4); have hb4 := hb; have k4 := KL.keep (And.left (by assumption)) hb) | (go_at_call 19; refine (HG.out _ _ _ _ _ (by first | exact wai_recs (hB3.keep hb4) HNx.out | exact wai_recs ((hB3.keep hb4).alloc _) HNx.out | exact wai_recs ((hB3.alloc _).keep hb4) HNx.out) (by first | exact idl_recs hB4 HM.out | exact idl_recs (hB4.alloc _) HM.out)).mono ?_; rintro e w5 ⟨⟨v, rfl, hO⟩, hb⟩; (refine Exists.elim hO.form ?_); rintro P9 ⟨c9, rfl, hc9, hF9⟩; have k5 := KL.keep (And.left (by assumption)) hb; (first | (refine Exists.elim (KL.storeC k5 ((Blk.new w4 24 zB).keep hb) (KL.lt k4) (.int .i64 (n : Int)) (.int .i64 (m : Int)) (.slice P9 _ c9) rfl rfl rfl hO (own_ne1 hO (by simp))) ?_; rintro w6 ⟨hst, k6, b6, o6⟩) | (refine Exists.elim (KL.storeC k5 (((Blk.new w3 24 zB).keep hb4).keep hb) (KL.lt k3) (.int .i64 (n : Int)) (.int .i64 (m : Int)) (.slice P9 _ c9) rfl rfl rfl hO (own_ne1 hO (by have := hb4.size; simp at this; omega))) ?_; rintro w6 ⟨hst, k6, b6, o6⟩) | (refine Exists.elim (KL.storeC (g := w2.heap.size) k5 ((((Blk.new w2.drew 24 zB).keep hb3).keep hb4).keep hb) (KL.lt K.out) (.int .i64 (n : Int)) (.int .i64 (m : Int)) (.slice P9 _ c9) rfl rfl rfl hO (own_ne1 hO (by have := hb4.size; have := hb3.size; simp at *; omega))) ?_; rintro w6 ⟨hst, k6, b6, o6⟩) | (refine Exists.elim (KL.storeC_new k5 (.int .i64 (n : Int)) (.int .i64 (m : Int)) (.slice P9 _ c9) rfl rfl rfl hO) ?_; rintro w6 ⟨hst, k6, b6, o6⟩))))
  all_goals (refine Exists.elim (KG.mk' k6 b6 o6) ?_; rintro gB ⟨base, HgB, K6a⟩; rw [HgB]; have K6 := Lib.hid K6a; clear K6a HgB)
  all_goals (clear hst hB3 hB4 hb3 hb4 hb k3 k4 k5 k6 b6 o6 hO hF9 hc9 HG EXT K)
  all_goals (have q0 := KG.c0 K6.out; have q1 := KG.c1 K6.out; have z0 := KG.z0 K6.out; have z1 := KG.z1 K6.out; have z2 := KG.z2 K6.out)
  all_goals (have HSZ : (allP xs ys n).length ≤ 4096 := Nat.le_trans (all_le xs ys n) (by rw [HM.out]; exact Nat.le_trans (Nat.mul_le_mul NN MM) (by decide)))
  all_goals (go_wp2_with (first | (go_at_call 12; with_reducible refine (KG.check K6.out (by omega) 0 GE).mono ?_; rintro e w7 ⟨rfl, hb⟩; have K7 := Lib.hid (KG.keep K6.out hb); clear q0 q1 z0 z1 z2; have q0 := KG.c0 K7.out; have q1 := KG.c1 K7.out; have z0 := KG.z0 K7.out; have z1 := KG.z1 K7.out)))
  all_goals (clear q0 q1 z0 z1 K6 GE hb)
  all_goals (go_loopw [9, 10, 11, 12, 13] (fun q i _ _ _ wr => ∃ k : Nat, k ≤ n ∧ i = .int .i64 k ∧ q = .int .i64 (cnt0 xs ys k : Nat) ∧ Hid (KG w c A n a B m b gB base P9 c9 (wts c now xs) (allP xs ys n) wr)) (fun _ i _ _ _ _ => n - (intOf i).toNat); case atStart => exact ⟨0, Nat.zero_le _, rfl, rfl, K7⟩)
  all_goals (obtain ⟨i, hi, rfl, rfl, HK⟩ := hrel; clear K7)
  all_goals (
    rcases Nat.lt_or_ge i n with hlt | hlt
    · obtain ⟨ad, x, rfl, hx, hlx⟩ := at_wai HX.out hlt
      obtain ⟨ad', x', e1, hx', hlr⟩ := at_w HX.out hlt
      obtain rfl : ad = ad' := by simpa using e1
      obtain rfl : x = x' := by rw [hx] at hx'; simpa using hx'
      clear e1 hx'
      have HXI := Lib.hid hx
      have HLR := Lib.hid hlr
      have wf := WX x (List.mem_of_getElem? hx)
      have EX2 : Hid (∀ W, KG w c (some ad) n a B m b gB base P9 c9 (wts c now xs) (allP xs ys n) W → (fun W => KG w c (some ad) n a B m b gB base P9 c9 (wts c now xs) (allP xs ys n) W ∧ (LA 34 (.pointer (some ⟨w.heap.size, 0, none⟩))).run Try.prog W = .ok (.agg #[.int .i64 c.q, .int .i64 c.d, .int .i64 c.w, .int .i64 c.ttl, .int .i64 c.b]) W ∧ W.cell? ⟨w.heap.size + 1, 0, none⟩ = some (.slice (some ad) n a) ∧ (LA 43 (.pointer (some (ad.add (i * 18))))).run Try.prog W = .ok (.agg (xa x)) W) W) := Lib.hid (fun W h => ⟨h, KG.lc h, KG.c0 h, hlx W (KG.bel h)⟩)
      dsimp only at EX2
      have q0 := KG.c0 HK.out
      clear hlx hlr
      have HE := WE i x hx
      have HV := Lib.hid (w_at (c := c) (now := now) hx)
      go_wp2
      go_region_held3 (fun W => KG w c (some ad) n a B m b gB base P9 c9 (wts c now xs) (allP xs ys n) W ∧ (LA 34 (.pointer (some ⟨w.heap.size, 0, none⟩))).run Try.prog W = .ok (.agg #[.int .i64 c.q, .int .i64 c.d, .int .i64 c.w, .int .i64 c.ttl, .int .i64 c.b]) W ∧ W.cell? ⟨w.heap.size + 1, 0, none⟩ = some (.slice (some ad) n a) ∧ (LA 43 (.pointer (some (ad.add (i * 18))))).run Try.prog W = .ok (.agg (xa x)) W) (first | exact EX2.out _ (KG.keep HK.out (drew_below _)) | exact EX2.out _ (KG.keep (And.left (by assumption)) hb)) (first | (go_at_call 15; refine (w_v c now x _ wf _ 0 (Lib.hid rfl) HE).mono ?_; rintro r w8 ⟨rfl, hb⟩))
      obtain ⟨h8, _, _, _⟩ := ‹_ ∧ _ ∧ _ ∧ _›
      have HK1 := Lib.hid h8
      clear h8 HK EX2 q0
      go_wp2
      go_loopw [9, 13] (fun q j wr => ∃ k : Nat, k ≤ m ∧ j = .int .i64 k ∧ q = .int .i64 (cnt xs ys i k : Nat) ∧ Hid (KG w c (some ad) n a B m b gB base P9 c9 (wts c now xs) (allP xs ys n) wr)) (fun _ j _ => m - (intOf j).toNat)
      case atStart => exact ⟨0, Nat.zero_le _, rfl, by rw [cnt_0], HK1⟩
      case round =>
        obtain ⟨k, hk, rfl, rfl, HK2⟩ := hrel
        clear HK1
        rcases Nat.lt_or_ge k m with hl2 | hl2
        · obtain ⟨bd, y, rfl, hy, hly⟩ := at_i HY.out hl2
          have hh := hit_at HXI.out hy
          have hr := Rok.of (req_wf (WX x (List.mem_of_getElem? HXI.out)))
          have hd := Dok.of (drv_wf (WS.out y (List.mem_of_getElem? hy)))
          have EX3 : Hid (∀ W, KG w c (some ad) n a (some bd) m b gB base P9 c9 (wts c now xs) (allP xs ys n) W → (fun W => KG w c (some ad) n a (some bd) m b gB base P9 c9 (wts c now xs) (allP xs ys n) W ∧ W.cell? ⟨w.heap.size + 1, 0, none⟩ = some (.slice (some ad) n a) ∧ W.cell? ⟨w.heap.size + 1, 1, none⟩ = some (.slice (some bd) m b) ∧ (LA 41 (.pointer (some (ad.add (i * 18))))).run Try.prog W = .ok (.agg (rl (reqOf x)).toArray) W ∧ (LA 62 (.pointer (some (bd.add (k * 14))))).run Try.prog W = .ok (.agg (dl (drvOf y)).toArray) W) W) := Lib.hid (fun W h => ⟨h, KG.c0 h, KG.c1 h, HLR.out W (KG.bel h), hly W (KG.bel h)⟩)
          dsimp only at EX3
          have q1 := KG.c1 HK2.out
          clear hy hly
          by_cases hf : fits (reqOf x) (drvOf y) = true
          · rw [hf] at hh
            have HH := Lib.hid (cnt_t hh)
            have HHI := Lib.hid hh
            have HF2 := Lib.hid hf
            clear hf hh
            go_wp2
            go_region_held3 (fun W => KG w c (some ad) n a (some bd) m b gB base P9 c9 (wts c now xs) (allP xs ys n) W ∧ W.cell? ⟨w.heap.size + 1, 0, none⟩ = some (.slice (some ad) n a) ∧ W.cell? ⟨w.heap.size + 1, 1, none⟩ = some (.slice (some bd) m b) ∧ (LA 41 (.pointer (some (ad.add (i * 18))))).run Try.prog W = .ok (.agg (rl (reqOf x)).toArray) W ∧ (LA 62 (.pointer (some (bd.add (k * 14))))).run Try.prog W = .ok (.agg (dl (drvOf y)).toArray) W) (first | exact EX3.out _ (KG.keep HK2.out (drew_below _)) | exact EX3.out _ (KG.keep (And.left (by assumption)) hb)) (first | (go_at_call 22; refine (fits_v (reqOf x) (drvOf y) _ hr hd true HF2).mono ?_; rintro e w' ⟨rfl, hb⟩))
            obtain ⟨h8, _, _, _, _⟩ := ‹_ ∧ _ ∧ _ ∧ _ ∧ _›
            have HK3 := Lib.hid h8
            obtain ⟨qb, rfl, hlp, hcl⟩ := KG.at_ h8 hlt (show k < ys.length by rw [HM.out]; exact hl2) HHI.out _ HV.out
            have hlp2 : ¬ (allP xs ys n).length ≤ cnt xs ys i k := by omega
            have z2 := KG.z2 HK3.out
            clear h8 q1
            go_wp2
            go_roundw
            case rel => exact ⟨k + 1, by omega, by go_num, by rw [HH.out]; push_cast; rfl, HK3⟩
            case measure => simp [intOf]; omega
          · have hf' : fits (reqOf x) (drvOf y) = false := by simpa using hf
            rw [hf'] at hh
            have HH := Lib.hid (cnt_f hh)
            have HF2 := Lib.hid hf'
            clear hf hf' hh
            go_wp2
            go_region_held3 (fun W => KG w c (some ad) n a (some bd) m b gB base P9 c9 (wts c now xs) (allP xs ys n) W ∧ W.cell? ⟨w.heap.size + 1, 0, none⟩ = some (.slice (some ad) n a) ∧ W.cell? ⟨w.heap.size + 1, 1, none⟩ = some (.slice (some bd) m b) ∧ (LA 41 (.pointer (some (ad.add (i * 18))))).run Try.prog W = .ok (.agg (rl (reqOf x)).toArray) W ∧ (LA 62 (.pointer (some (bd.add (k * 14))))).run Try.prog W = .ok (.agg (dl (drvOf y)).toArray) W) (first | exact EX3.out _ (KG.keep HK2.out (drew_below _)) | exact EX3.out _ (KG.keep (And.left (by assumption)) hb)) (first | (go_at_call 22; refine (fits_v (reqOf x) (drvOf y) _ hr hd false HF2).mono ?_; rintro e w' ⟨rfl, hb⟩))
            obtain ⟨h8, _, _, _, _⟩ := ‹_ ∧ _ ∧ _ ∧ _ ∧ _›
            have HK3 := Lib.hid h8
            clear h8 q1
            go_wp2
            go_roundw
            case rel => exact ⟨k + 1, by omega, by go_num, by rw [HH.out], HK3⟩
            case measure => simp [intOf]; omega
        · obtain rfl : k = m := by omega
          have HE2 := Lib.hid (cnt_e (xs := xs) (i := i) HM.out)
          have q1 := KG.c1 HK2.out
          go_wp2
          go_roundw
          case rel => exact ⟨i + 1, by omega, by go_num, by rw [HE2.out], HK2⟩
          case measure => simp [intOf]; omega
    · obtain rfl : i = n := by omega
      have q0 := KG.c0 HK.out
      have z2 := KG.z2 HK.out
      go_wp2
      go_ret
      exact ⟨ret_be rfl, KG.bel HK.out⟩)
end Go.Proofs.Ytbpdfcllojaanaa.First
