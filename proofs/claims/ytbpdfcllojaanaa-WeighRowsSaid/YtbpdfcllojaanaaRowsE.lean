/- WeighRows: where an error is told (built clean). -/
import Derived.Test.YtbpdfcllojaanaaFirstB
namespace Go.Proofs.Ytbpdfcllojaanaa.First
open Go.RowKit Go.Proofs.Ytbpdfcllojaanaa.Aid Go.Proofs.Ytbpdfcllojaanaa.Mem Go.Proofs.Ytbpdfcllojaanaa.Types Go.Proofs.Ytbpdfcllojaanaa.Keep Go.Proofs.Ytbpdfcllojaanaa.Mays Go.Proofs.Ytbpdfcllojaanaa.Weight Go.Proofs.Ytbpdfcllojaanaa.Weights Go.Proofs.Ytbpdfcllojaanaa.Recs Go.Proofs.Ytbpdfcllojaanaa.TwinS Go.Proofs.Ytbpdfcllojaanaa.Twin Go.Proofs.Ytbpdfcllojaanaa.AliveW Go.Proofs.Ytbpdfcllojaanaa.Has Go.Proofs.Ytbpdfcllojaanaa.Graph Go.Proofs.Ytbpdfcllojaanaa.GraphB Go.Proofs.Ytbpdfcllojaanaa.PairsG
set_option linter.unusedSimpArgs false
set_option linter.unusedVariables false
set_option maxRecDepth 100000
attribute [local go_sem ↓] Keep.load_cfg store_g Weights.load_wai Keep.load_drv
theorem KL.storeB {w0 w : World} {c : Cfg} {A B : Option Addr} {n a m b : Nat} {g : Nat} (h : KL w0 c A n a B m b w) (hz : Blk w g 24 zB) (hg : w0.heap.size + 1 < g) (x y z : Value) (h1 : x.oneCell' = true) (h2 : y.oneCell' = true) (h3 : z.oneCell' = true) :
    ∃ w', (SA 24 (.pointer (some ⟨g, 0, none⟩)) (.agg #[x, y, z])).run Try.prog w = .ok () w' ∧ KL w0 c A n a B m b w' ∧ Blk w' g 24 [x, y, z] := by
  refine ⟨_, stores_mid (cs := [x, y, z]) hz (by simp) (by show _ = some 3; kernel_rfl) (by intro v hv; simp only [List.mem_cons, List.not_mem_nil, or_false] at hv; rcases hv with rfl | rfl | rfl <;> assumption), ⟨fun u hu => ?_, below_sets (by omega) _ _ _ h.2⟩, Blk.puts [x, y, z] 0 _ _ hz (by simp)⟩
  refine Blk.fars ?_ _ _ _ (h.1 u hu)
  simp only [List.mem_cons, List.not_mem_nil, or_false] at hu
  rcases hu with rfl | rfl <;> simp <;> omega
theorem KL.storeB_new {w0 w : World} {c : Cfg} {A B : Option Addr} {n a m b : Nat} (h : KL w0 c A n a B m b w) (x y z : Value) (h1 : x.oneCell' = true) (h2 : y.oneCell' = true) (h3 : z.oneCell' = true) :
    ∃ w', (SA 24 (.pointer (some ⟨w.heap.size, 0, none⟩)) (.agg #[x, y, z])).run Try.prog (w.alloc (.cells #[.int .i64 0, .int .i64 0, .slice none 0 0] 24)) = .ok () w' ∧ KL w0 c A n a B m b w' ∧ Blk w' w.heap.size 24 [x, y, z] :=
  KL.storeB (KL.keep h (alloc_below _ _)) (Blk.new w 24 zB) (KL.lt h) x y z h1 h2 h3
set_option maxHeartbeats 8000000 in
theorem rows_err (c : Cfg) (now : Int) (xs : List Wai) (A : Option Addr) (n a : Nat) (ys : List Idl) (B : Option Addr) (m b : Nat) (w : World) (hx : Recs w 18 A n (xs.map Wai.list)) (hn : n ≤ 140737488351232) (hy : Recs w 14 B m (ys.map Idl.list)) (hm : m ≤ 140737488351232) (ha : n ≤ a) (hb : m ≤ b)
    (HBE : Hid (decide (1048576 < n + m) = false)) (hn2 : n ≤ 1048576) (hm2 : m ≤ 1048576) (E : Int) (nE : (E != 0) = true) (HG : Hid (∀ (A' B' : Option Addr) (a' b' : Nat) (W : World), Recs W 18 A' n (xs.map Wai.list) → Recs W 14 B' m (ys.map Idl.list) → Calls Try.prog 19 #[c.val, .int .i64 now, .slice A' n a', .slice B' m b'] W fun e w' => e = .returned (.tuple #[.agg zG, .int .i64 E]) ∧ Below W.heap.size W w')) :
    Calls Try.prog 7 #[c.val, .int .i64 now, .agg #[.slice A n a, .slice B m b]] w fun e w' => e = .returned (.bool true) ∧ Below w.heap.size w w' := by
  have HX := Lib.hid hx
  have HY := Lib.hid hy
  clear hx hy
  have k := KL.start w c A n a B m b
  go_enter Try.func7, Try.ntmps7
  go_wp2_with (first | (go_at_call 17; with_reducible refine (alive_c _).mono ?_; rintro e w1 ⟨rfl, hb⟩; replace k := KL.keep k hb; have k0 := KL.c0 k; have k1 := KL.c1 k; clear hb) | (go_at_call 10; with_reducible refine (beyond2 n m _ _ hn hm false HBE.out).mono ?_; rintro e w2 ⟨rfl, rfl⟩; replace k := KL.keep k (alloc_below _ (.cells #[.int .i64 (n : Int), .int .i64 (m : Int)] 3)); clear k0 k1))
  have HNx : Hid (xs.length = n) := Lib.hid (by have := HX.out.1; simpa using this)
  have HM : Hid (ys.length = m) := Lib.hid (by have := HY.out.1; simpa using this)
  have EXT : Hid (∀ W, KL w c A n a B m b W → (fun W => KL w c A n a B m b W ∧ (LA 34 (.pointer (some ⟨w.heap.size, 0, none⟩))).run Try.prog W = .ok (.agg #[.int .i64 c.q, .int .i64 c.d, .int .i64 c.w, .int .i64 c.ttl, .int .i64 c.b]) W ∧ W.cell? ⟨w.heap.size + 1, 0, none⟩ = some (.slice A n a) ∧ W.cell? ⟨w.heap.size + 1, 1, none⟩ = some (.slice B m b)) W) := Lib.hid (fun W h => ⟨h, KL.lc h, KL.c0 h, KL.c1 h⟩)
  have K := Lib.hid k
  clear k
  dsimp only at EXT
  generalize hW2 : w1.alloc _ = w2 at K ⊢
  clear hW2
  go_region_held3 (fun W => KL w c A n a B m b W ∧ (LA 34 (.pointer (some ⟨w.heap.size, 0, none⟩))).run Try.prog W = .ok (.agg #[.int .i64 c.q, .int .i64 c.d, .int .i64 c.w, .int .i64 c.ttl, .int .i64 c.b]) W ∧ W.cell? ⟨w.heap.size + 1, 0, none⟩ = some (.slice A n a) ∧ W.cell? ⟨w.heap.size + 1, 1, none⟩ = some (.slice B m b)) (first | exact EXT.out _ (KL.keep K.out (drew_below _)) | exact EXT.out _ (KL.keep (And.left (by assumption)) hb) | exact EXT.out _ (KL.keep (And.left (by assumption)) (alloc_below _ _)) | exact EXT.out _ (KL.keep k5 (alloc_below _ _)) | exact EXT.out _ k6 | exact EXT.out _ (KL.keep k4 (alloc_below _ _)) | exact EXT.out _ (KL.keep k3 (alloc_below _ _)) | exact EXT.out _ (KL.keep (KL.keep K.out (drew_below _)) (alloc_below _ _))) (first | (go_at_call 20; refine (twin_wai (xs.map Wai.list) A n a _ _ rfl (HX.out.keep (Has.bel (And.left (by assumption)))) (wai_one xs) hn2).mono ?_; rintro e w3 ⟨rfl, hB3, hb⟩; (try rw [size_ad] at hB3); (try rw [size_alloc] at hB3); have hb3 := hb; have k3 := KL.keep (And.left (by assumption)) hb) | (go_at_call 21; refine (twin_idl (ys.map Idl.list) B m b _ _ rfl (HY.out.keep (Has.bel (And.left (by assumption)))) (idl_one ys) hm2).mono ?_; rintro e w4 ⟨rfl, hB4, hb⟩; (try rw [size_ad] at hB4); (try rw [size_alloc] at hB4); have hb4 := hb; have k4 := KL.keep (And.left (by assumption)) hb) | (go_at_call 19; refine (HG.out _ _ _ _ _ (by first | exact wai_recs (hB3.keep hb4) HNx.out | exact wai_recs ((hB3.keep hb4).alloc _) HNx.out | exact wai_recs ((hB3.alloc _).keep hb4) HNx.out) (by first | exact idl_recs hB4 HM.out | exact idl_recs (hB4.alloc _) HM.out)).mono ?_; rintro e w5 ⟨rfl, hb⟩; have k5 := KL.keep (And.left (by assumption)) hb; (first | (refine Exists.elim (KL.storeB k5 ((Blk.new w4 24 zB).keep hb) (KL.lt k4) (.int .i64 0) (.int .i64 0) (.slice none 0 0) rfl rfl rfl) ?_; rintro w6 ⟨hst, k6, b6⟩) | (refine Exists.elim (KL.storeB k5 (((Blk.new w3 24 zB).keep hb4).keep hb) (KL.lt k3) (.int .i64 0) (.int .i64 0) (.slice none 0 0) rfl rfl rfl) ?_; rintro w6 ⟨hst, k6, b6⟩) | (refine Exists.elim (KL.storeB (g := w2.heap.size) k5 ((((Blk.new w2.drew 24 zB).keep hb3).keep hb4).keep hb) (KL.lt K.out) (.int .i64 0) (.int .i64 0) (.slice none 0 0) rfl rfl rfl) ?_; rintro w6 ⟨hst, k6, b6⟩) | (refine Exists.elim (KL.storeB_new k5 (.int .i64 0) (.int .i64 0) (.slice none 0 0) rfl rfl rfl) ?_; rintro w6 ⟨hst, k6, b6⟩))))
  all_goals (have z0 := b6.cellv (i := 0) rfl; have z1 := b6.cellv (i := 1) rfl; have z2 := b6.cellv (i := 2) rfl; go_wp2)
  all_goals (go_ret; exact ⟨ret_b (by simp), Has.bel k6⟩)
end Go.Proofs.Ytbpdfcllojaanaa.First
