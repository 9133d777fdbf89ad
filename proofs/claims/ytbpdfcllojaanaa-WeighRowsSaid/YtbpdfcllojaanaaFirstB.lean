/- WeighFirst: the main case (under way: does not build clean yet). -/
import Derived.Test.YtbpdfcllojaanaaFirst
import Derived.Test.YtbpdfcllojaanaaGraphB
namespace Go.Proofs.Ytbpdfcllojaanaa.First
open Go.RowKit Go.Proofs.Ytbpdfcllojaanaa.Aid Go.Proofs.Ytbpdfcllojaanaa.Mem Go.Proofs.Ytbpdfcllojaanaa.Types Go.Proofs.Ytbpdfcllojaanaa.Keep Go.Proofs.Ytbpdfcllojaanaa.Mays Go.Proofs.Ytbpdfcllojaanaa.Weight Go.Proofs.Ytbpdfcllojaanaa.Weights Go.Proofs.Ytbpdfcllojaanaa.Recs Go.Proofs.Ytbpdfcllojaanaa.TwinS Go.Proofs.Ytbpdfcllojaanaa.Twin Go.Proofs.Ytbpdfcllojaanaa.AliveW Go.Proofs.Ytbpdfcllojaanaa.Has Go.Proofs.Ytbpdfcllojaanaa.Graph Go.Proofs.Ytbpdfcllojaanaa.GraphB Go.Proofs.Ytbpdfcllojaanaa.PairsG
set_option linter.unusedSimpArgs false
set_option linter.unusedVariables false
set_option maxRecDepth 100000
theorem size_ad (w : World) (o : Obj) : (w.alloc o).drew.heap.size = w.heap.size + 1 := size_alloc w o
attribute [local go_sem ↓] Keep.load_cfg store_g Weights.load_wai Keep.load_drv
theorem drv_v (d : Drv) (w : World) (s0 : 0 ≤ d.seats) (v : Int) (h : Hid (drvErr d = v)) : Calls Try.prog 23 #[d.val] w fun e w' => e = .returned (.int .i64 v) ∧ Below w.heap.size w w' := by
  obtain rfl := h.out
  exact checkDriver_c d w s0
set_option maxHeartbeats 8000000 in
theorem main_w (c : Cfg) (now : Int) (xs : List Wai) (A : Option Addr) (n a : Nat) (ys : List Idl) (B : Option Addr) (m b : Nat) (w : World) (hx : Recs w 18 A n (xs.map Wai.list)) (hn : n ≤ 140737488351232) (hy : Recs w 14 B m (ys.map Idl.list)) (hm : m ≤ 140737488351232) (ha : n ≤ a) (hb : m ≤ b)
    (HBE : Hid (decide (1048576 < n + m) = false)) (hn2 : n ≤ 1048576) (hm2 : m ≤ 1048576) (HC : Hid (cfgErr c = 0)) (t1 : 0 ≤ now) (t2 : now ≤ 1099511627776) (n64 : n ≤ 64) (m64 : m ≤ 64) (E : Int) (HG : Hid (∀ (A' B' : Option Addr) (a' b' : Nat) (W : World), Recs W 18 A' n (xs.map Wai.list) → Recs W 14 B' m (ys.map Idl.list) → Calls Try.prog 19 #[c.val, .int .i64 now, .slice A' n a', .slice B' m b'] W fun e w' => (∃ x y z, e = .returned (.tuple #[.agg #[x, y, z], .int .i64 E]) ∧ x.oneCell' = true ∧ y.oneCell' = true ∧ z.oneCell' = true) ∧ Below W.heap.size W w')) (WX : ∀ x ∈ xs, x.wf) (i0 : Nat) (hi0 : i0 < n) (WE : ∀ (i : Nat) (x : Wai), i ≤ i0 → xs[i]? = some x → Hid (wE c now x = if i = i0 then E else 0)) (nE : (E != 0) = true) :
    Calls Try.prog 8 #[c.val, .int .i64 now, .agg #[.slice A n a, .slice B m b]] w fun e w' => e = .returned (.bool true) ∧ Below w.heap.size w w' := by
  have HX := Lib.hid hx
  have HY := Lib.hid hy
  clear hx hy
  have k := KL.start w c A n a B m b
  have p0 : decide (now < 0) = false := decide_eq_false (by omega)
  have p1 : decide (1099511627776 < now) = false := decide_eq_false (by omega)
  have p2 : decide ((64 : Int) < (n : Int)) = false := decide_eq_false (by omega)
  have p3 : decide ((64 : Int) < (m : Int)) = false := decide_eq_false (by omega)
  go_enter Try.func8, Try.ntmps8
  go_wp2_with (first | (go_at_call 17; with_reducible refine (alive_c _).mono ?_; rintro e w1 ⟨rfl, hb⟩; replace k := KL.keep k hb; have k0 := KL.c0 k; have k1 := KL.c1 k; clear hb) | (go_at_call 10; with_reducible refine (beyond2 n m _ _ hn hm false HBE.out).mono ?_; rintro e w2 ⟨rfl, rfl⟩; replace k := KL.keep k (alloc_below _ (.cells #[.int .i64 (n : Int), .int .i64 (m : Int)] 3)); clear k0 k1))
  have HNx : Hid (xs.length = n) := Lib.hid (by have := HX.out.1; simpa using this)
  have HM : Hid (ys.length = m) := Lib.hid (by have := HY.out.1; simpa using this)
  have EXT : Hid (∀ W, KL w c A n a B m b W → (fun W => KL w c A n a B m b W ∧ (LA 34 (.pointer (some ⟨w.heap.size, 0, none⟩))).run Try.prog W = .ok (.agg #[.int .i64 c.q, .int .i64 c.d, .int .i64 c.w, .int .i64 c.ttl, .int .i64 c.b]) W ∧ W.cell? ⟨w.heap.size + 1, 0, none⟩ = some (.slice A n a) ∧ W.cell? ⟨w.heap.size + 1, 1, none⟩ = some (.slice B m b)) W) := Lib.hid (fun W h => ⟨h, KL.lc h, KL.c0 h, KL.c1 h⟩)
  have K := Lib.hid k
  clear k
  dsimp only at EXT
  generalize hW2 : w1.alloc _ = w2 at K ⊢
  clear hW2
  go_region_held3 (fun W => KL w c A n a B m b W ∧ (LA 34 (.pointer (some ⟨w.heap.size, 0, none⟩))).run Try.prog W = .ok (.agg #[.int .i64 c.q, .int .i64 c.d, .int .i64 c.w, .int .i64 c.ttl, .int .i64 c.b]) W ∧ W.cell? ⟨w.heap.size + 1, 0, none⟩ = some (.slice A n a) ∧ W.cell? ⟨w.heap.size + 1, 1, none⟩ = some (.slice B m b)) (first | exact EXT.out _ (KL.keep K.out (drew_below _)) | exact EXT.out _ (KL.keep (And.left (by assumption)) hb) | exact EXT.out _ (KL.keep (And.left (by assumption)) (alloc_below _ _)) | exact EXT.out _ (KL.keep k5 (alloc_below _ _)) | exact EXT.out _ k6 | exact EXT.out _ (KL.keep k4 (alloc_below _ _)) | exact EXT.out _ (KL.keep k3 (alloc_below _ _)) | exact EXT.out _ (KL.keep (KL.keep K.out (drew_below _)) (alloc_below _ _))) (first | (go_at_call 20; refine (twin_wai (xs.map Wai.list) A n a _ _ rfl (HX.out.keep (Has.bel (And.left (by assumption)))) (wai_one xs) hn2).mono ?_; rintro e w3 ⟨rfl, hB3, hb⟩; (try rw [size_ad] at hB3); (try rw [size_alloc] at hB3); have hb3 := hb; have k3 := KL.keep (And.left (by assumption)) hb) | (go_at_call 21; refine (twin_idl (ys.map Idl.list) B m b _ _ rfl (HY.out.keep (Has.bel (And.left (by assumption)))) (idl_one ys) hm2).mono ?_; rintro e w4 ⟨rfl, hB4, hb⟩; (try rw [size_ad] at hB4); (try rw [size_alloc] at hB4); have hb4 := hb; have k4 := KL.keep (And.left (by assumption)) hb) | (go_at_call 19; refine (HG.out _ _ _ _ _ (by first | exact wai_recs (hB3.keep hb4) HNx.out | exact wai_recs ((hB3.keep hb4).alloc _) HNx.out | exact wai_recs ((hB3.alloc _).keep hb4) HNx.out) (by first | exact idl_recs hB4 HM.out | exact idl_recs (hB4.alloc _) HM.out)).mono ?_; rintro e w5 ⟨⟨gx, gy, gz, rfl, o1, o2, o3⟩, hb⟩; have k5 := KL.keep (And.left (by assumption)) hb; (first | (refine Exists.elim (KL.store k5 ((Blk.new w4 24 zB).keep hb) (KL.lt k4) gx gy gz o1 o2 o3) ?_; rintro w6 ⟨hst, k6⟩) | (refine Exists.elim (KL.store k5 (((Blk.new w3 24 zB).keep hb4).keep hb) (KL.lt k3) gx gy gz o1 o2 o3) ?_; rintro w6 ⟨hst, k6⟩) | (refine Exists.elim (KL.store (g := w2.heap.size) k5 ((((Blk.new w2.drew 24 zB).keep hb3).keep hb4).keep hb) (KL.lt K.out) gx gy gz o1 o2 o3) ?_; rintro w6 ⟨hst, k6⟩) | (refine Exists.elim (KL.store_new k5 gx gy gz o1 o2 o3) ?_; rintro w6 ⟨hst, k6⟩))))
  all_goals (have K6 := Lib.hid k6)
  all_goals (clear hst hB3 hB4 hb3 hb4 hb k3 k4 k5 k6)
  all_goals (have lc := KL.lc K6.out; go_wp2_with (first | (go_at_call 18; with_reducible refine (config_v c _ _ HC).mono ?_; rintro e w7 ⟨rfl, o, rfl⟩; have K7 := Lib.hid (KL.keep K6.out (alloc_below _ o)); have q0 := KL.c0 K7.out; have q1 := KL.c1 K7.out; clear lc)))
  all_goals (clear q0 q1 K6)
  all_goals (go_loopw [9, 10, 11] (fun i _ _ wr => ∃ k : Nat, k ≤ i0 ∧ i = .int .i64 k ∧ Hid (KL w c A n a B m b wr)) (fun i _ _ _ => i0 + 1 - (intOf i).toNat); case atStart => exact ⟨0, Nat.zero_le _, rfl, K7⟩)
  all_goals (obtain ⟨i, hi, rfl, HK⟩ := hrel; have hin : i < n := by omega)
  all_goals (obtain ⟨ad, x, rfl, hx, hlx⟩ := at_wai HX.out hin)
  all_goals (have wf := WX x (List.mem_of_getElem? hx))
  all_goals (have EX2 : Hid (∀ W, KL w c (some ad) n a B m b W → (fun W => KL w c (some ad) n a B m b W ∧ (LA 34 (.pointer (some ⟨w.heap.size, 0, none⟩))).run Try.prog W = .ok (.agg #[.int .i64 c.q, .int .i64 c.d, .int .i64 c.w, .int .i64 c.ttl, .int .i64 c.b]) W ∧ W.cell? ⟨w.heap.size + 1, 0, none⟩ = some (.slice (some ad) n a) ∧ (LA 43 (.pointer (some (ad.add (i * 18))))).run Try.prog W = .ok (.agg (xa x)) W) W) := Lib.hid (fun W h => ⟨h, KL.lc h, KL.c0 h, hlx W (Has.bel h)⟩); dsimp only at EX2)
  all_goals (have q0 := KL.c0 HK.out; clear EXT K7 hlx)
  all_goals (
    rcases Nat.lt_or_ge i i0 with hlt | hlt
    · have HE : Hid (wE c now x = 0) := Lib.hid ((WE i x hi hx).out.trans (if_neg (by omega)))
      go_wp2
      go_region_held3 (fun W => KL w c (some ad) n a B m b W ∧ (LA 34 (.pointer (some ⟨w.heap.size, 0, none⟩))).run Try.prog W = .ok (.agg #[.int .i64 c.q, .int .i64 c.d, .int .i64 c.w, .int .i64 c.ttl, .int .i64 c.b]) W ∧ W.cell? ⟨w.heap.size + 1, 0, none⟩ = some (.slice (some ad) n a) ∧ (LA 43 (.pointer (some (ad.add (i * 18))))).run Try.prog W = .ok (.agg (xa x)) W) (first | exact EX2.out _ (KL.keep HK.out (drew_below _)) | exact EX2.out _ (KL.keep (And.left (by assumption)) hb)) (first | (go_at_call 15; refine (w_v c now x _ wf _ 0 (Lib.hid rfl) HE).mono ?_; rintro r w8 ⟨rfl, hb⟩))
      obtain ⟨h8, _, _, _⟩ := ‹_ ∧ _ ∧ _ ∧ _›
      go_wp2
      go_roundw
      case rel => exact ⟨i + 1, by omega, by go_num, Lib.hid h8⟩
      case measure => simp [intOf]; omega
    · have HE : Hid (wE c now x = E) := Lib.hid ((WE i x hi hx).out.trans (if_pos (by omega)))
      go_wp2
      go_region_held3 (fun W => KL w c (some ad) n a B m b W ∧ (LA 34 (.pointer (some ⟨w.heap.size, 0, none⟩))).run Try.prog W = .ok (.agg #[.int .i64 c.q, .int .i64 c.d, .int .i64 c.w, .int .i64 c.ttl, .int .i64 c.b]) W ∧ W.cell? ⟨w.heap.size + 1, 0, none⟩ = some (.slice (some ad) n a) ∧ (LA 43 (.pointer (some (ad.add (i * 18))))).run Try.prog W = .ok (.agg (xa x)) W) (first | exact EX2.out _ (KL.keep HK.out (drew_below _)) | exact EX2.out _ (KL.keep (And.left (by assumption)) hb)) (first | (go_at_call 15; refine (w_v c now x _ wf _ E (Lib.hid rfl) HE).mono ?_; rintro r w8 ⟨rfl, hb⟩))
      obtain ⟨h8, _, _, _⟩ := ‹_ ∧ _ ∧ _ ∧ _›
      go_wp2
      go_ret
      exact ⟨ret_b (by simp), Has.bel h8⟩)
set_option maxHeartbeats 8000000 in
theorem main_d (c : Cfg) (now : Int) (xs : List Wai) (A : Option Addr) (n a : Nat) (ys : List Idl) (B : Option Addr) (m b : Nat) (w : World) (hx : Recs w 18 A n (xs.map Wai.list)) (hn : n ≤ 140737488351232) (hy : Recs w 14 B m (ys.map Idl.list)) (hm : m ≤ 140737488351232) (ha : n ≤ a) (hb : m ≤ b)
    (HBE : Hid (decide (1048576 < n + m) = false)) (hn2 : n ≤ 1048576) (hm2 : m ≤ 1048576) (HC : Hid (cfgErr c = 0)) (t1 : 0 ≤ now) (t2 : now ≤ 1099511627776) (n64 : n ≤ 64) (m64 : m ≤ 64) (E : Int) (HG : Hid (∀ (A' B' : Option Addr) (a' b' : Nat) (W : World), Recs W 18 A' n (xs.map Wai.list) → Recs W 14 B' m (ys.map Idl.list) → Calls Try.prog 19 #[c.val, .int .i64 now, .slice A' n a', .slice B' m b'] W fun e w' => (∃ x y z, e = .returned (.tuple #[.agg #[x, y, z], .int .i64 E]) ∧ x.oneCell' = true ∧ y.oneCell' = true ∧ z.oneCell' = true) ∧ Below W.heap.size W w')) (WX : ∀ x ∈ xs, x.wf) (WS : ∀ y ∈ ys, 0 ≤ (drvOf y).seats) (i1 : Nat) (hi1 : i1 < m) (WE : ∀ (i : Nat) (x : Wai), xs[i]? = some x → Hid (wE c now x = 0)) (WD : ∀ (k : Nat) (y : Idl), k ≤ i1 → ys[k]? = some y → Hid (drvErr (drvOf y) = if k = i1 then 1 else 0)) (eE : (E == 1) = true) :
    Calls Try.prog 8 #[c.val, .int .i64 now, .agg #[.slice A n a, .slice B m b]] w fun e w' => e = .returned (.bool true) ∧ Below w.heap.size w w' := by
  have HX := Lib.hid hx
  have HY := Lib.hid hy
  clear hx hy
  have k := KL.start w c A n a B m b
  have p0 : decide (now < 0) = false := decide_eq_false (by omega)
  have p1 : decide (1099511627776 < now) = false := decide_eq_false (by omega)
  have p2 : decide ((64 : Int) < (n : Int)) = false := decide_eq_false (by omega)
  have p3 : decide ((64 : Int) < (m : Int)) = false := decide_eq_false (by omega)
  go_enter Try.func8, Try.ntmps8
  go_wp2_with (first | (go_at_call 17; with_reducible refine (alive_c _).mono ?_; rintro e w1 ⟨rfl, hb⟩; replace k := KL.keep k hb; have k0 := KL.c0 k; have k1 := KL.c1 k; clear hb) | (go_at_call 10; with_reducible refine (beyond2 n m _ _ hn hm false HBE.out).mono ?_; rintro e w2 ⟨rfl, rfl⟩; replace k := KL.keep k (alloc_below _ (.cells #[.int .i64 (n : Int), .int .i64 (m : Int)] 3)); clear k0 k1))
  have HNx : Hid (xs.length = n) := Lib.hid (by have := HX.out.1; simpa using this)
  have HM : Hid (ys.length = m) := Lib.hid (by have := HY.out.1; simpa using this)
  have EXT : Hid (∀ W, KL w c A n a B m b W → (fun W => KL w c A n a B m b W ∧ (LA 34 (.pointer (some ⟨w.heap.size, 0, none⟩))).run Try.prog W = .ok (.agg #[.int .i64 c.q, .int .i64 c.d, .int .i64 c.w, .int .i64 c.ttl, .int .i64 c.b]) W ∧ W.cell? ⟨w.heap.size + 1, 0, none⟩ = some (.slice A n a) ∧ W.cell? ⟨w.heap.size + 1, 1, none⟩ = some (.slice B m b)) W) := Lib.hid (fun W h => ⟨h, KL.lc h, KL.c0 h, KL.c1 h⟩)
  have K := Lib.hid k
  clear k
  dsimp only at EXT
  generalize hW2 : w1.alloc _ = w2 at K ⊢
  clear hW2
  go_region_held3 (fun W => KL w c A n a B m b W ∧ (LA 34 (.pointer (some ⟨w.heap.size, 0, none⟩))).run Try.prog W = .ok (.agg #[.int .i64 c.q, .int .i64 c.d, .int .i64 c.w, .int .i64 c.ttl, .int .i64 c.b]) W ∧ W.cell? ⟨w.heap.size + 1, 0, none⟩ = some (.slice A n a) ∧ W.cell? ⟨w.heap.size + 1, 1, none⟩ = some (.slice B m b)) (first | exact EXT.out _ (KL.keep K.out (drew_below _)) | exact EXT.out _ (KL.keep (And.left (by assumption)) hb) | exact EXT.out _ (KL.keep (And.left (by assumption)) (alloc_below _ _)) | exact EXT.out _ (KL.keep k5 (alloc_below _ _)) | exact EXT.out _ k6 | exact EXT.out _ (KL.keep k4 (alloc_below _ _)) | exact EXT.out _ (KL.keep k3 (alloc_below _ _)) | exact EXT.out _ (KL.keep (KL.keep K.out (drew_below _)) (alloc_below _ _))) (first | (go_at_call 20; refine (twin_wai (xs.map Wai.list) A n a _ _ rfl (HX.out.keep (Has.bel (And.left (by assumption)))) (wai_one xs) hn2).mono ?_; rintro e w3 ⟨rfl, hB3, hb⟩; (try rw [size_ad] at hB3); (try rw [size_alloc] at hB3); have hb3 := hb; have k3 := KL.keep (And.left (by assumption)) hb) | (go_at_call 21; refine (twin_idl (ys.map Idl.list) B m b _ _ rfl (HY.out.keep (Has.bel (And.left (by assumption)))) (idl_one ys) hm2).mono ?_; rintro e w4 ⟨rfl, hB4, hb⟩; (try rw [size_ad] at hB4); (try rw [size_alloc] at hB4); have hb4 := hb; have k4 := KL.keep (And.left (by assumption)) hb) | (go_at_call 19; refine (HG.out _ _ _ _ _ (by first | exact wai_recs (hB3.keep hb4) HNx.out | exact wai_recs ((hB3.keep hb4).alloc _) HNx.out | exact wai_recs ((hB3.alloc _).keep hb4) HNx.out) (by first | exact idl_recs hB4 HM.out | exact idl_recs (hB4.alloc _) HM.out)).mono ?_; rintro e w5 ⟨⟨gx, gy, gz, rfl, o1, o2, o3⟩, hb⟩; have k5 := KL.keep (And.left (by assumption)) hb; (first | (refine Exists.elim (KL.store k5 ((Blk.new w4 24 zB).keep hb) (KL.lt k4) gx gy gz o1 o2 o3) ?_; rintro w6 ⟨hst, k6⟩) | (refine Exists.elim (KL.store k5 (((Blk.new w3 24 zB).keep hb4).keep hb) (KL.lt k3) gx gy gz o1 o2 o3) ?_; rintro w6 ⟨hst, k6⟩) | (refine Exists.elim (KL.store (g := w2.heap.size) k5 ((((Blk.new w2.drew 24 zB).keep hb3).keep hb4).keep hb) (KL.lt K.out) gx gy gz o1 o2 o3) ?_; rintro w6 ⟨hst, k6⟩) | (refine Exists.elim (KL.store_new k5 gx gy gz o1 o2 o3) ?_; rintro w6 ⟨hst, k6⟩))))
  all_goals (have K6 := Lib.hid k6)
  all_goals (clear hst hB3 hB4 hb3 hb4 hb k3 k4 k5 k6)
  all_goals (have lc := KL.lc K6.out; go_wp2_with (first | (go_at_call 18; with_reducible refine (config_v c _ _ HC).mono ?_; rintro e w7 ⟨rfl, o, rfl⟩; have K7 := Lib.hid (KL.keep K6.out (alloc_below _ o)); have q0 := KL.c0 K7.out; have q1 := KL.c1 K7.out; clear lc)))
  all_goals (clear q0 q1 K6)
  all_goals (go_loopw [9, 10, 11] (fun i _ _ wr => ∃ k : Nat, k ≤ n ∧ i = .int .i64 k ∧ Hid (KL w c A n a B m b wr)) (fun i _ _ _ => n - (intOf i).toNat); case atStart => exact ⟨0, Nat.zero_le _, rfl, K7⟩)
  all_goals (obtain ⟨i, hi, rfl, HK⟩ := hrel; clear K7 EXT)
  all_goals (
    rcases Nat.lt_or_ge i n with hlt | hlt
    · obtain ⟨ad, x, rfl, hx, hlx⟩ := at_wai HX.out hlt
      have wf := WX x (List.mem_of_getElem? hx)
      have EX2 : Hid (∀ W, KL w c (some ad) n a B m b W → (fun W => KL w c (some ad) n a B m b W ∧ (LA 34 (.pointer (some ⟨w.heap.size, 0, none⟩))).run Try.prog W = .ok (.agg #[.int .i64 c.q, .int .i64 c.d, .int .i64 c.w, .int .i64 c.ttl, .int .i64 c.b]) W ∧ W.cell? ⟨w.heap.size + 1, 0, none⟩ = some (.slice (some ad) n a) ∧ (LA 43 (.pointer (some (ad.add (i * 18))))).run Try.prog W = .ok (.agg (xa x)) W) W) := Lib.hid (fun W h => ⟨h, KL.lc h, KL.c0 h, hlx W (Has.bel h)⟩)
      dsimp only at EX2
      have q0 := KL.c0 HK.out
      clear hlx
      have HE := WE i x hx
      go_wp2
      go_region_held3 (fun W => KL w c (some ad) n a B m b W ∧ (LA 34 (.pointer (some ⟨w.heap.size, 0, none⟩))).run Try.prog W = .ok (.agg #[.int .i64 c.q, .int .i64 c.d, .int .i64 c.w, .int .i64 c.ttl, .int .i64 c.b]) W ∧ W.cell? ⟨w.heap.size + 1, 0, none⟩ = some (.slice (some ad) n a) ∧ (LA 43 (.pointer (some (ad.add (i * 18))))).run Try.prog W = .ok (.agg (xa x)) W) (first | exact EX2.out _ (KL.keep HK.out (drew_below _)) | exact EX2.out _ (KL.keep (And.left (by assumption)) hb)) (first | (go_at_call 15; refine (w_v c now x _ wf _ 0 (Lib.hid rfl) HE).mono ?_; rintro r w8 ⟨rfl, hb⟩))
      obtain ⟨h8, _, _, _⟩ := ‹_ ∧ _ ∧ _ ∧ _›
      go_wp2
      go_roundw
      case rel => exact ⟨i + 1, by omega, by go_num, Lib.hid h8⟩
      case measure => simp [intOf]; omega
    · obtain rfl : i = n := by omega
      have q0 := KL.c0 HK.out
      have q1 := KL.c1 HK.out
      go_wp2
      go_loopw [12] (fun j wr => ∃ k : Nat, k ≤ i1 ∧ j = .int .i64 k ∧ Hid (KL w c A i a B m b wr)) (fun j _ => i1 + 1 - (intOf j).toNat)
      case atStart => exact ⟨0, Nat.zero_le _, rfl, HK⟩
      case round =>
        obtain ⟨k, hk, rfl, HK2⟩ := hrel
        have hkm : k < m := by omega
        obtain ⟨bd, y, rfl, hy, hly⟩ := at_i HY.out hkm
        have ld := hly _ (Has.bel HK2.out)
        clear q0 q1 hly
        have q1 := KL.c1 HK2.out
        have s0 := WS y (List.mem_of_getElem? hy)
        rcases Nat.lt_or_ge k i1 with h1 | h1
        · have HD : Hid (drvErr (drvOf y) = 0) := Lib.hid ((WD k y hk hy).out.trans (if_neg (by omega)))
          go_wp2_with (first | (go_at_call 23; refine (drv_v (drvOf y) _ s0 0 HD).mono ?_; rintro r w9 ⟨rfl, hb⟩; have K9 := Lib.hid (KL.keep HK2.out hb)))
          go_roundw
          case rel => exact ⟨k + 1, by omega, by go_num, K9⟩
          case measure => simp [intOf]; omega
        · have HD : Hid (drvErr (drvOf y) = 1) := Lib.hid ((WD k y hk hy).out.trans (if_pos (by omega)))
          go_wp2_with (first | (go_at_call 23; refine (drv_v (drvOf y) _ s0 1 HD).mono ?_; rintro r w9 ⟨rfl, hb⟩; have K9 := Lib.hid (KL.keep HK2.out hb)))
          go_ret
          exact ⟨ret_b (by simp), Has.bel K9.out⟩)
set_option maxHeartbeats 8000000 in
theorem main_ok (c : Cfg) (now : Int) (xs : List Wai) (A : Option Addr) (n a : Nat) (ys : List Idl) (B : Option Addr) (m b : Nat) (w : World) (hx : Recs w 18 A n (xs.map Wai.list)) (hn : n ≤ 140737488351232) (hy : Recs w 14 B m (ys.map Idl.list)) (hm : m ≤ 140737488351232) (ha : n ≤ a) (hb : m ≤ b)
    (HBE : Hid (decide (1048576 < n + m) = false)) (hn2 : n ≤ 1048576) (hm2 : m ≤ 1048576) (HC : Hid (cfgErr c = 0)) (t1 : 0 ≤ now) (t2 : now ≤ 1099511627776) (n64 : n ≤ 64) (m64 : m ≤ 64) (E : Int) (HG : Hid (∀ (A' B' : Option Addr) (a' b' : Nat) (W : World), Recs W 18 A' n (xs.map Wai.list) → Recs W 14 B' m (ys.map Idl.list) → Calls Try.prog 19 #[c.val, .int .i64 now, .slice A' n a', .slice B' m b'] W fun e w' => (∃ x y z, e = .returned (.tuple #[.agg #[x, y, z], .int .i64 E]) ∧ x.oneCell' = true ∧ y.oneCell' = true ∧ z.oneCell' = true) ∧ Below W.heap.size W w')) (WX : ∀ x ∈ xs, x.wf) (WS : ∀ y ∈ ys, 0 ≤ (drvOf y).seats) (WE : ∀ (i : Nat) (x : Wai), xs[i]? = some x → Hid (wE c now x = 0)) (WD : ∀ (k : Nat) (y : Idl), ys[k]? = some y → Hid (drvErr (drvOf y) = 0)) (eE : (E == 0) = true) :
    Calls Try.prog 8 #[c.val, .int .i64 now, .agg #[.slice A n a, .slice B m b]] w fun e w' => e = .returned (.bool true) ∧ Below w.heap.size w w' := by
  have HX := Lib.hid hx
  have HY := Lib.hid hy
  clear hx hy
  have k := KL.start w c A n a B m b
  have p0 : decide (now < 0) = false := decide_eq_false (by omega)
  have p1 : decide (1099511627776 < now) = false := decide_eq_false (by omega)
  have p2 : decide ((64 : Int) < (n : Int)) = false := decide_eq_false (by omega)
  have p3 : decide ((64 : Int) < (m : Int)) = false := decide_eq_false (by omega)
  go_enter Try.func8, Try.ntmps8
  go_wp2_with (first | (go_at_call 17; with_reducible refine (alive_c _).mono ?_; rintro e w1 ⟨rfl, hb⟩; replace k := KL.keep k hb; have k0 := KL.c0 k; have k1 := KL.c1 k; clear hb) | (go_at_call 10; with_reducible refine (beyond2 n m _ _ hn hm false HBE.out).mono ?_; rintro e w2 ⟨rfl, rfl⟩; replace k := KL.keep k (alloc_below _ (.cells #[.int .i64 (n : Int), .int .i64 (m : Int)] 3)); clear k0 k1))
  have HNx : Hid (xs.length = n) := Lib.hid (by have := HX.out.1; simpa using this)
  have HM : Hid (ys.length = m) := Lib.hid (by have := HY.out.1; simpa using this)
  have EXT : Hid (∀ W, KL w c A n a B m b W → (fun W => KL w c A n a B m b W ∧ (LA 34 (.pointer (some ⟨w.heap.size, 0, none⟩))).run Try.prog W = .ok (.agg #[.int .i64 c.q, .int .i64 c.d, .int .i64 c.w, .int .i64 c.ttl, .int .i64 c.b]) W ∧ W.cell? ⟨w.heap.size + 1, 0, none⟩ = some (.slice A n a) ∧ W.cell? ⟨w.heap.size + 1, 1, none⟩ = some (.slice B m b)) W) := Lib.hid (fun W h => ⟨h, KL.lc h, KL.c0 h, KL.c1 h⟩)
  have K := Lib.hid k
  clear k
  dsimp only at EXT
  generalize hW2 : w1.alloc _ = w2 at K ⊢
  clear hW2
  go_region_held3 (fun W => KL w c A n a B m b W ∧ (LA 34 (.pointer (some ⟨w.heap.size, 0, none⟩))).run Try.prog W = .ok (.agg #[.int .i64 c.q, .int .i64 c.d, .int .i64 c.w, .int .i64 c.ttl, .int .i64 c.b]) W ∧ W.cell? ⟨w.heap.size + 1, 0, none⟩ = some (.slice A n a) ∧ W.cell? ⟨w.heap.size + 1, 1, none⟩ = some (.slice B m b)) (first | exact EXT.out _ (KL.keep K.out (drew_below _)) | exact EXT.out _ (KL.keep (And.left (by assumption)) hb) | exact EXT.out _ (KL.keep (And.left (by assumption)) (alloc_below _ _)) | exact EXT.out _ (KL.keep k5 (alloc_below _ _)) | exact EXT.out _ k6 | exact EXT.out _ (KL.keep k4 (alloc_below _ _)) | exact EXT.out _ (KL.keep k3 (alloc_below _ _)) | exact EXT.out _ (KL.keep (KL.keep K.out (drew_below _)) (alloc_below _ _))) (first | (go_at_call 20; refine (twin_wai (xs.map Wai.list) A n a _ _ rfl (HX.out.keep (Has.bel (And.left (by assumption)))) (wai_one xs) hn2).mono ?_; rintro e w3 ⟨rfl, hB3, hb⟩; (try rw [size_ad] at hB3); (try rw [size_alloc] at hB3); have hb3 := hb; have k3 := KL.keep (And.left (by assumption)) hb) | (go_at_call 21; refine (twin_idl (ys.map Idl.list) B m b _ _ rfl (HY.out.keep (Has.bel (And.left (by assumption)))) (idl_one ys) hm2).mono ?_; rintro e w4 ⟨rfl, hB4, hb⟩; (try rw [size_ad] at hB4); (try rw [size_alloc] at hB4); have hb4 := hb; have k4 := KL.keep (And.left (by assumption)) hb) | (go_at_call 19; refine (HG.out _ _ _ _ _ (by first | exact wai_recs (hB3.keep hb4) HNx.out | exact wai_recs ((hB3.keep hb4).alloc _) HNx.out | exact wai_recs ((hB3.alloc _).keep hb4) HNx.out) (by first | exact idl_recs hB4 HM.out | exact idl_recs (hB4.alloc _) HM.out)).mono ?_; rintro e w5 ⟨⟨gx, gy, gz, rfl, o1, o2, o3⟩, hb⟩; have k5 := KL.keep (And.left (by assumption)) hb; (first | (refine Exists.elim (KL.store k5 ((Blk.new w4 24 zB).keep hb) (KL.lt k4) gx gy gz o1 o2 o3) ?_; rintro w6 ⟨hst, k6⟩) | (refine Exists.elim (KL.store k5 (((Blk.new w3 24 zB).keep hb4).keep hb) (KL.lt k3) gx gy gz o1 o2 o3) ?_; rintro w6 ⟨hst, k6⟩) | (refine Exists.elim (KL.store (g := w2.heap.size) k5 ((((Blk.new w2.drew 24 zB).keep hb3).keep hb4).keep hb) (KL.lt K.out) gx gy gz o1 o2 o3) ?_; rintro w6 ⟨hst, k6⟩) | (refine Exists.elim (KL.store_new k5 gx gy gz o1 o2 o3) ?_; rintro w6 ⟨hst, k6⟩))))
  all_goals (have K6 := Lib.hid k6)
  all_goals (clear hst hB3 hB4 hb3 hb4 hb k3 k4 k5 k6)
  all_goals (have lc := KL.lc K6.out; go_wp2_with (first | (go_at_call 18; with_reducible refine (config_v c _ _ HC).mono ?_; rintro e w7 ⟨rfl, o, rfl⟩; have K7 := Lib.hid (KL.keep K6.out (alloc_below _ o)); have q0 := KL.c0 K7.out; have q1 := KL.c1 K7.out; clear lc)))
  all_goals (clear q0 q1 K6)
  all_goals (go_loopw [9, 10, 11] (fun i _ _ wr => ∃ k : Nat, k ≤ n ∧ i = .int .i64 k ∧ Hid (KL w c A n a B m b wr)) (fun i _ _ _ => n - (intOf i).toNat); case atStart => exact ⟨0, Nat.zero_le _, rfl, K7⟩)
  all_goals (obtain ⟨i, hi, rfl, HK⟩ := hrel; clear K7 EXT)
  all_goals (
    rcases Nat.lt_or_ge i n with hlt | hlt
    · obtain ⟨ad, x, rfl, hx, hlx⟩ := at_wai HX.out hlt
      have wf := WX x (List.mem_of_getElem? hx)
      have EX2 : Hid (∀ W, KL w c (some ad) n a B m b W → (fun W => KL w c (some ad) n a B m b W ∧ (LA 34 (.pointer (some ⟨w.heap.size, 0, none⟩))).run Try.prog W = .ok (.agg #[.int .i64 c.q, .int .i64 c.d, .int .i64 c.w, .int .i64 c.ttl, .int .i64 c.b]) W ∧ W.cell? ⟨w.heap.size + 1, 0, none⟩ = some (.slice (some ad) n a) ∧ (LA 43 (.pointer (some (ad.add (i * 18))))).run Try.prog W = .ok (.agg (xa x)) W) W) := Lib.hid (fun W h => ⟨h, KL.lc h, KL.c0 h, hlx W (Has.bel h)⟩)
      dsimp only at EX2
      have q0 := KL.c0 HK.out
      clear hlx
      have HE := WE i x hx
      go_wp2
      go_region_held3 (fun W => KL w c (some ad) n a B m b W ∧ (LA 34 (.pointer (some ⟨w.heap.size, 0, none⟩))).run Try.prog W = .ok (.agg #[.int .i64 c.q, .int .i64 c.d, .int .i64 c.w, .int .i64 c.ttl, .int .i64 c.b]) W ∧ W.cell? ⟨w.heap.size + 1, 0, none⟩ = some (.slice (some ad) n a) ∧ (LA 43 (.pointer (some (ad.add (i * 18))))).run Try.prog W = .ok (.agg (xa x)) W) (first | exact EX2.out _ (KL.keep HK.out (drew_below _)) | exact EX2.out _ (KL.keep (And.left (by assumption)) hb)) (first | (go_at_call 15; refine (w_v c now x _ wf _ 0 (Lib.hid rfl) HE).mono ?_; rintro r w8 ⟨rfl, hb⟩))
      obtain ⟨h8, _, _, _⟩ := ‹_ ∧ _ ∧ _ ∧ _›
      go_wp2
      go_roundw
      case rel => exact ⟨i + 1, by omega, by go_num, Lib.hid h8⟩
      case measure => simp [intOf]; omega
    · obtain rfl : i = n := by omega
      have q0 := KL.c0 HK.out
      have q1 := KL.c1 HK.out
      go_wp2
      go_loopw [12] (fun j wr => ∃ k : Nat, k ≤ m ∧ j = .int .i64 k ∧ Hid (KL w c A i a B m b wr)) (fun j _ => m - (intOf j).toNat)
      case atStart => exact ⟨0, Nat.zero_le _, rfl, HK⟩
      case round =>
        obtain ⟨k, hk, rfl, HK2⟩ := hrel
        rcases Nat.lt_or_ge k m with h1 | h1
        · obtain ⟨bd, y, rfl, hy, hly⟩ := at_i HY.out h1
          have ld := hly _ (Has.bel HK2.out)
          clear q0 q1 hly
          have q1 := KL.c1 HK2.out
          have s0 := WS y (List.mem_of_getElem? hy)
          have HD := WD k y hy
          go_wp2_with (first | (go_at_call 23; refine (drv_v (drvOf y) _ s0 0 HD).mono ?_; rintro r w9 ⟨rfl, hb⟩; have K9 := Lib.hid (KL.keep HK2.out hb)))
          go_roundw
          case rel => exact ⟨k + 1, by omega, by go_num, K9⟩
          case measure => simp [intOf]; omega
        · obtain rfl : k = m := by omega
          clear q0 q1
          have q1 := KL.c1 HK2.out
          go_wp2
          go_ret
          exact ⟨ret_b (by simp), Has.bel HK2.out⟩)
end Go.Proofs.Ytbpdfcllojaanaa.First
