/- The walk of WeighFirst (under way: does not build yet). -/
import Derived.Test.YtbpdfcllojaanaaAliveW
import Derived.Test.YtbpdfcllojaanaaTwinS
import Derived.Test.YtbpdfcllojaanaaBey
import Derived.Test.YtbpdfcllojaanaaHas
import Derived.Deep.RegionHeld3
namespace Go.Proofs.Ytbpdfcllojaanaa.First
open Go.RowKit Go.Proofs.Ytbpdfcllojaanaa.Aid Go.Proofs.Ytbpdfcllojaanaa.Mem Go.Proofs.Ytbpdfcllojaanaa.Types Go.Proofs.Ytbpdfcllojaanaa.Keep Go.Proofs.Ytbpdfcllojaanaa.Mays Go.Proofs.Ytbpdfcllojaanaa.Recs Go.Proofs.Ytbpdfcllojaanaa.TwinS Go.Proofs.Ytbpdfcllojaanaa.Twin Go.Proofs.Ytbpdfcllojaanaa.AliveW Go.Proofs.Ytbpdfcllojaanaa.Has Go.Proofs.Ytbpdfcllojaanaa.Graph
set_option linter.unusedSimpArgs false
set_option linter.unusedVariables false
set_option maxRecDepth 100000
theorem wai_one (xs : List Wai) : ∀ l ∈ xs.map Wai.list, ∀ v ∈ l, v.oneCell' = true := by
  intro l hl v hv
  obtain ⟨x, _, rfl⟩ := List.mem_map.1 hl
  simp only [Wai.list, List.mem_cons, List.not_mem_nil, or_false] at hv
  rcases hv with rfl | rfl | rfl | rfl | rfl | rfl | rfl | rfl | rfl | rfl | rfl | rfl | rfl | rfl | rfl | rfl | rfl | rfl <;> rfl
theorem idl_one (xs : List Idl) : ∀ l ∈ xs.map Idl.list, ∀ v ∈ l, v.oneCell' = true := by
  intro l hl v hv
  obtain ⟨x, _, rfl⟩ := List.mem_map.1 hl
  simp only [Idl.list, List.mem_cons, List.not_mem_nil, or_false] at hv
  rcases hv with rfl | rfl | rfl | rfl | rfl | rfl | rfl | rfl | rfl | rfl | rfl | rfl | rfl | rfl <;> rfl
theorem wai_len (xs : List Wai) : ∀ l ∈ xs.map Wai.list, l.length = 18 := by
  intro l hl; obtain ⟨x, _, rfl⟩ := List.mem_map.1 hl; rfl
theorem idl_len (xs : List Idl) : ∀ l ∈ xs.map Idl.list, l.length = 14 := by
  intro l hl; obtain ⟨x, _, rfl⟩ := List.mem_map.1 hl; rfl
theorem wai_recs {w : World} {G n : Nat} {t : TypeId} {xs : List Wai} {r : List Value} (h : Blk w G t ((xs.map Wai.list).flatten ++ r)) (hn : xs.length = n) : Recs w 18 (some ⟨G, 0, none⟩) n (xs.map Wai.list) := by
  have := Recs.of_blk (wai_len xs) h
  rwa [List.length_map, hn] at this
theorem idl_recs {w : World} {G n : Nat} {t : TypeId} {xs : List Idl} {r : List Value} (h : Blk w G t ((xs.map Idl.list).flatten ++ r)) (hn : xs.length = n) : Recs w 14 (some ⟨G, 0, none⟩) n (xs.map Idl.list) := by
  have := Recs.of_blk (idl_len xs) h
  rwa [List.length_map, hn] at this
theorem box2 (w : World) (a b : Int) (t : TypeId) : Ints (w.alloc (.cells #[.int .i64 a, .int .i64 b] t)) .i64 (some ⟨w.heap.size, 0, none⟩) 2 [a, b] :=
  Ints.of_blk (Blk.new w t [.int .i64 a, .int .i64 b]) (by intro j y hy; match j with | 0 => simpa using hy | 1 => simpa using hy | j + 2 => simp at hy)
theorem beyond2 (a b : Nat) (w : World) (t : TypeId) (ha : a ≤ 140737488351232) (hb : b ≤ 140737488351232) (x : Bool) (hx : decide (1048576 < a + b) = x) : Calls Try.prog 10 #[.slice (some ⟨w.heap.size, 0, none⟩) 2 2] (w.alloc (.cells #[.int .i64 (a : Int), .int .i64 (b : Int)] t)) fun e w' => e = .returned (.bool x) ∧ w.alloc (.cells #[.int .i64 (a : Int), .int .i64 (b : Int)] t) = w' := by
  refine (beyond_c [(a : Int), (b : Int)] _ 2 2 _ (box2 w a b t) (by simp; omega) (by decide)).mono fun e w' ⟨h, k⟩ => ⟨?_, k⟩
  rw [h]
  subst hx
  congr 2
  have e : tot [(a : Int), (b : Int)] = (a : Int) + b := by simp [tot]
  rw [e, decide_eq_decide]
  omega
/-- The boxes of the configuration and of the two lists. -/
def KL (w0 : World) (c : Cfg) (A : Option Addr) (n a : Nat) (B : Option Addr) (m b : Nat) (W : World) : Prop :=
  Has w0 [(w0.heap.size + 1, 55, [.slice A n a, .slice B m b]), (w0.heap.size, 34, [.int .i64 c.q, .int .i64 c.d, .int .i64 c.w, .int .i64 c.ttl, .int .i64 c.b])] W
section
variable {w0 w w' : World} {c : Cfg} {A B : Option Addr} {n a m b : Nat}
theorem KL.start (w : World) (c : Cfg) (A : Option Addr) (n a : Nat) (B : Option Addr) (m b : Nat) : KL w c A n a B m b ((w.alloc (.cells #[.int .i64 c.q, .int .i64 c.d, .int .i64 c.w, .int .i64 c.ttl, .int .i64 c.b] 34)).alloc (.cells #[.slice A n a, .slice B m b] 55)) := by
  have h := ((Has.nil w).new 34 [.int .i64 c.q, .int .i64 c.d, .int .i64 c.w, .int .i64 c.ttl, .int .i64 c.b]).new 55 [.slice A n a, .slice B m b]
  rw [size_alloc] at h
  exact h
theorem KL.keep (h : KL w0 c A n a B m b w) (hb : Below w.heap.size w w') : KL w0 c A n a B m b w' := Has.keep h hb
theorem KL.lc (h : KL w0 c A n a B m b w) : (LA 34 (.pointer (some ⟨w0.heap.size, 0, none⟩))).run Try.prog w = .ok c.val w :=
  Has.load (t' := 34) (l := [.int .i64 c.q, .int .i64 c.d, .int .i64 c.w, .int .i64 c.ttl, .int .i64 c.b]) (s := []) h Try.underlying34 rfl (by show _ = some 5; kernel_rfl) (by simp)
theorem KL.c0 (h : KL w0 c A n a B m b w) : w.cell? ⟨w0.heap.size + 1, 0, none⟩ = some (.slice A n a) := (Has.cell h (t := 55) (l := [.slice A n a, .slice B m b]) (by simp) 0).trans rfl
theorem KL.c1 (h : KL w0 c A n a B m b w) : w.cell? ⟨w0.heap.size + 1, 1, none⟩ = some (.slice B m b) := (Has.cell h (t := 55) (l := [.slice A n a, .slice B m b]) (by simp) 1).trans rfl
end
theorem store_g (p v : Value) : Instr.storeAt 24 p v = SA 24 p v := rfl
attribute [local go_sem ↓] Keep.load_cfg store_g
abbrev zB : List Value := [.int .i64 0, .int .i64 0, .slice none 0 0]
theorem KL.lt {w0 w : World} {c : Cfg} {A B : Option Addr} {n a m b : Nat} (h : KL w0 c A n a B m b w) : w0.heap.size + 1 < w.heap.size := Has.lt h (b := w0.heap.size + 1) (t := 55) (l := [.slice A n a, .slice B m b]) (by simp)
/-- The graph's box takes its cells: the boxes stay. -/
theorem KL.store {w0 w : World} {c : Cfg} {A B : Option Addr} {n a m b : Nat} {g : Nat} (h : KL w0 c A n a B m b w) (hz : Blk w g 24 zB) (hg : w0.heap.size + 1 < g) (x y z : Value) (h1 : x.oneCell' = true) (h2 : y.oneCell' = true) (h3 : z.oneCell' = true) :
    ∃ w', (SA 24 (.pointer (some ⟨g, 0, none⟩)) (.agg #[x, y, z])).run Try.prog w = .ok () w' ∧ KL w0 c A n a B m b w' := by
  refine ⟨_, stores_mid (cs := [x, y, z]) hz (by simp) (by show _ = some 3; kernel_rfl) (by intro v hv; simp only [List.mem_cons, List.not_mem_nil, or_false] at hv; rcases hv with rfl | rfl | rfl <;> assumption), fun u hu => ?_, below_sets (by omega) _ _ _ h.2⟩
  refine Blk.fars ?_ _ _ _ (h.1 u hu)
  simp only [List.mem_cons, List.not_mem_nil, or_false] at hu
  rcases hu with rfl | rfl <;> simp <;> omega
theorem KL.store_new {w0 w : World} {c : Cfg} {A B : Option Addr} {n a m b : Nat} (h : KL w0 c A n a B m b w) (x y z : Value) (h1 : x.oneCell' = true) (h2 : y.oneCell' = true) (h3 : z.oneCell' = true) :
    ∃ w', (SA 24 (.pointer (some ⟨w.heap.size, 0, none⟩)) (.agg #[x, y, z])).run Try.prog (w.alloc (.cells #[.int .i64 0, .int .i64 0, .slice none 0 0] 24)) = .ok () w' ∧ KL w0 c A n a B m b w' :=
  KL.store (KL.keep h (alloc_below _ _)) (Blk.new w 24 zB) (KL.lt h) x y z h1 h2 h3
set_option maxHeartbeats 8000000 in
theorem first_cfg (c : Cfg) (now : Int) (xs : List Wai) (A : Option Addr) (n a : Nat) (ys : List Idl) (B : Option Addr) (m b : Nat) (w : World) (hx : Recs w 18 A n (xs.map Wai.list)) (hn : n ≤ 140737488351232) (hy : Recs w 14 B m (ys.map Idl.list)) (hm : m ≤ 140737488351232) (ha : n ≤ a) (hb : m ≤ b)
    (HBE : Hid (decide (1048576 < n + m) = false)) (hn2 : n ≤ 1048576) (hm2 : m ≤ 1048576) (HC : Hid (cfgErr c = 160)) :
    Calls Try.prog 8 #[c.val, .int .i64 now, .agg #[.slice A n a, .slice B m b]] w fun e w' => e = .returned (.bool true) ∧ Below w.heap.size w w' := by
  have HX := Lib.hid hx
  have HY := Lib.hid hy
  clear hx hy
  have k := KL.start w c A n a B m b
  go_enter Try.func8, Try.ntmps8
  go_wp2_with (first | (go_at_call 17; with_reducible refine (alive_c _).mono ?_; rintro e w1 ⟨rfl, hb⟩; replace k := KL.keep k hb; have k0 := KL.c0 k; have k1 := KL.c1 k; clear hb) | (go_at_call 10; with_reducible refine (beyond2 n m _ _ hn hm false HBE.out).mono ?_; rintro e w2 ⟨rfl, rfl⟩; replace k := KL.keep k (alloc_below _ (.cells #[.int .i64 (n : Int), .int .i64 (m : Int)] 3)); clear k0 k1))
  have HNx : Hid (xs.length = n) := Lib.hid (by have := HX.out.1; simpa using this)
  have HM : Hid (ys.length = m) := Lib.hid (by have := HY.out.1; simpa using this)
  have EXT : Hid (∀ W, KL w c A n a B m b W → (fun W => KL w c A n a B m b W ∧ (LA 34 (.pointer (some ⟨w.heap.size, 0, none⟩))).run Try.prog W = .ok (.agg #[.int .i64 c.q, .int .i64 c.d, .int .i64 c.w, .int .i64 c.ttl, .int .i64 c.b]) W ∧ W.cell? ⟨w.heap.size + 1, 0, none⟩ = some (.slice A n a) ∧ W.cell? ⟨w.heap.size + 1, 1, none⟩ = some (.slice B m b)) W) := Lib.hid (fun W h => ⟨h, KL.lc h, KL.c0 h, KL.c1 h⟩)
  have K := Lib.hid k
  clear k
  dsimp only at EXT
  generalize hW2 : w1.alloc _ = w2 at K ⊢
  clear hW2
  go_region_held3 (fun W => KL w c A n a B m b W ∧ (LA 34 (.pointer (some ⟨w.heap.size, 0, none⟩))).run Try.prog W = .ok (.agg #[.int .i64 c.q, .int .i64 c.d, .int .i64 c.w, .int .i64 c.ttl, .int .i64 c.b]) W ∧ W.cell? ⟨w.heap.size + 1, 0, none⟩ = some (.slice A n a) ∧ W.cell? ⟨w.heap.size + 1, 1, none⟩ = some (.slice B m b)) (first | exact EXT.out _ (KL.keep K.out (drew_below _)) | exact EXT.out _ (KL.keep (And.left (by assumption)) hb) | exact EXT.out _ (KL.keep (And.left (by assumption)) (alloc_below _ _)) | exact EXT.out _ (KL.keep k5 (alloc_below _ _)) | exact EXT.out _ k6 | exact EXT.out _ (KL.keep k4 (alloc_below _ _)) | exact EXT.out _ (KL.keep k3 (alloc_below _ _)) | exact EXT.out _ (KL.keep (KL.keep K.out (drew_below _)) (alloc_below _ _))) (first | (go_at_call 20; refine (twin_wai (xs.map Wai.list) A n a _ _ rfl (HX.out.keep (Has.bel (And.left (by assumption)))) (wai_one xs) hn2).mono ?_; rintro e w3 ⟨rfl, hB3, hb⟩; have hb3 := hb; have k3 := KL.keep (And.left (by assumption)) hb) | (go_at_call 21; refine (twin_idl (ys.map Idl.list) B m b _ _ rfl (HY.out.keep (Has.bel (And.left (by assumption)))) (idl_one ys) hm2).mono ?_; rintro e w4 ⟨rfl, hB4, hb⟩; have hb4 := hb; have k4 := KL.keep (And.left (by assumption)) hb) | (go_at_call 19; refine (g_cfg c now _ _ n m _ _ _ hn hm HC).mono ?_; rintro e w5 ⟨rfl, hb⟩; have k5 := KL.keep (And.left (by assumption)) hb; (first | (refine Exists.elim (KL.store k5 ((Blk.new w4 24 zB).keep hb) (KL.lt k4) (.int .i64 0) (.int .i64 0) (.slice none 0 0) rfl rfl rfl) ?_; rintro w6 ⟨hst, k6⟩) | (refine Exists.elim (KL.store k5 (((Blk.new w3 24 zB).keep hb4).keep hb) (KL.lt k3) (.int .i64 0) (.int .i64 0) (.slice none 0 0) rfl rfl rfl) ?_; rintro w6 ⟨hst, k6⟩) | (refine Exists.elim (KL.store (g := w2.heap.size) k5 ((((Blk.new w2.drew 24 zB).keep hb3).keep hb4).keep hb) (KL.lt K.out) (.int .i64 0) (.int .i64 0) (.slice none 0 0) rfl rfl rfl) ?_; rintro w6 ⟨hst, k6⟩) | (refine Exists.elim (KL.store_new k5 (.int .i64 0) (.int .i64 0) (.slice none 0 0) rfl rfl rfl) ?_; rintro w6 ⟨hst, k6⟩))))
  all_goals (have lc := KL.lc k6; go_wp2_with (first | (go_at_call 18; with_reducible refine (config_v c _ _ HC).mono ?_; rintro e w7 ⟨rfl, o, rfl⟩; replace k6 := KL.keep k6 (alloc_below _ o))))
  all_goals (go_ret; exact ⟨rfl, Has.bel k6⟩)
set_option maxHeartbeats 8000000 in
theorem first_tick0 (c : Cfg) (now : Int) (xs : List Wai) (A : Option Addr) (n a : Nat) (ys : List Idl) (B : Option Addr) (m b : Nat) (w : World) (hx : Recs w 18 A n (xs.map Wai.list)) (hn : n ≤ 140737488351232) (hy : Recs w 14 B m (ys.map Idl.list)) (hm : m ≤ 140737488351232) (ha : n ≤ a) (hb : m ≤ b)
    (HBE : Hid (decide (1048576 < n + m) = false)) (hn2 : n ≤ 1048576) (hm2 : m ≤ 1048576) (HC : Hid (cfgErr c = 0)) (t : now < 0) :
    Calls Try.prog 8 #[c.val, .int .i64 now, .agg #[.slice A n a, .slice B m b]] w fun e w' => e = .returned (.bool true) ∧ Below w.heap.size w w' := by
  have HX := Lib.hid hx
  have HY := Lib.hid hy
  clear hx hy
  have k := KL.start w c A n a B m b
  have p0 : decide (now < 0) = true := decide_eq_true t
  go_enter Try.func8, Try.ntmps8
  go_wp2_with (first | (go_at_call 17; with_reducible refine (alive_c _).mono ?_; rintro e w1 ⟨rfl, hb⟩; replace k := KL.keep k hb; have k0 := KL.c0 k; have k1 := KL.c1 k; clear hb) | (go_at_call 10; with_reducible refine (beyond2 n m _ _ hn hm false HBE.out).mono ?_; rintro e w2 ⟨rfl, rfl⟩; replace k := KL.keep k (alloc_below _ (.cells #[.int .i64 (n : Int), .int .i64 (m : Int)] 3)); clear k0 k1))
  have HNx : Hid (xs.length = n) := Lib.hid (by have := HX.out.1; simpa using this)
  have HM : Hid (ys.length = m) := Lib.hid (by have := HY.out.1; simpa using this)
  have EXT : Hid (∀ W, KL w c A n a B m b W → (fun W => KL w c A n a B m b W ∧ (LA 34 (.pointer (some ⟨w.heap.size, 0, none⟩))).run Try.prog W = .ok (.agg #[.int .i64 c.q, .int .i64 c.d, .int .i64 c.w, .int .i64 c.ttl, .int .i64 c.b]) W ∧ W.cell? ⟨w.heap.size + 1, 0, none⟩ = some (.slice A n a) ∧ W.cell? ⟨w.heap.size + 1, 1, none⟩ = some (.slice B m b)) W) := Lib.hid (fun W h => ⟨h, KL.lc h, KL.c0 h, KL.c1 h⟩)
  have K := Lib.hid k
  clear k
  dsimp only at EXT
  generalize hW2 : w1.alloc _ = w2 at K ⊢
  clear hW2
  go_region_held3 (fun W => KL w c A n a B m b W ∧ (LA 34 (.pointer (some ⟨w.heap.size, 0, none⟩))).run Try.prog W = .ok (.agg #[.int .i64 c.q, .int .i64 c.d, .int .i64 c.w, .int .i64 c.ttl, .int .i64 c.b]) W ∧ W.cell? ⟨w.heap.size + 1, 0, none⟩ = some (.slice A n a) ∧ W.cell? ⟨w.heap.size + 1, 1, none⟩ = some (.slice B m b)) (first | exact EXT.out _ (KL.keep K.out (drew_below _)) | exact EXT.out _ (KL.keep (And.left (by assumption)) hb) | exact EXT.out _ (KL.keep (And.left (by assumption)) (alloc_below _ _)) | exact EXT.out _ (KL.keep k5 (alloc_below _ _)) | exact EXT.out _ k6 | exact EXT.out _ (KL.keep k4 (alloc_below _ _)) | exact EXT.out _ (KL.keep k3 (alloc_below _ _)) | exact EXT.out _ (KL.keep (KL.keep K.out (drew_below _)) (alloc_below _ _))) (first | (go_at_call 20; refine (twin_wai (xs.map Wai.list) A n a _ _ rfl (HX.out.keep (Has.bel (And.left (by assumption)))) (wai_one xs) hn2).mono ?_; rintro e w3 ⟨rfl, hB3, hb⟩; have hb3 := hb; have k3 := KL.keep (And.left (by assumption)) hb) | (go_at_call 21; refine (twin_idl (ys.map Idl.list) B m b _ _ rfl (HY.out.keep (Has.bel (And.left (by assumption)))) (idl_one ys) hm2).mono ?_; rintro e w4 ⟨rfl, hB4, hb⟩; have hb4 := hb; have k4 := KL.keep (And.left (by assumption)) hb) | (go_at_call 19; refine (g_tick0 c now _ _ n m _ _ _ hn hm HC t).mono ?_; rintro e w5 ⟨rfl, hb⟩; have k5 := KL.keep (And.left (by assumption)) hb; (first | (refine Exists.elim (KL.store k5 ((Blk.new w4 24 zB).keep hb) (KL.lt k4) (.int .i64 0) (.int .i64 0) (.slice none 0 0) rfl rfl rfl) ?_; rintro w6 ⟨hst, k6⟩) | (refine Exists.elim (KL.store k5 (((Blk.new w3 24 zB).keep hb4).keep hb) (KL.lt k3) (.int .i64 0) (.int .i64 0) (.slice none 0 0) rfl rfl rfl) ?_; rintro w6 ⟨hst, k6⟩) | (refine Exists.elim (KL.store (g := w2.heap.size) k5 ((((Blk.new w2.drew 24 zB).keep hb3).keep hb4).keep hb) (KL.lt K.out) (.int .i64 0) (.int .i64 0) (.slice none 0 0) rfl rfl rfl) ?_; rintro w6 ⟨hst, k6⟩) | (refine Exists.elim (KL.store_new k5 (.int .i64 0) (.int .i64 0) (.slice none 0 0) rfl rfl rfl) ?_; rintro w6 ⟨hst, k6⟩))))
  all_goals (have lc := KL.lc k6; go_wp2_with (first | (go_at_call 18; with_reducible refine (config_v c _ _ HC).mono ?_; rintro e w7 ⟨rfl, o, rfl⟩; replace k6 := KL.keep k6 (alloc_below _ o))))
  all_goals (go_ret; exact ⟨rfl, Has.bel k6⟩)
set_option maxHeartbeats 8000000 in
theorem first_tick1 (c : Cfg) (now : Int) (xs : List Wai) (A : Option Addr) (n a : Nat) (ys : List Idl) (B : Option Addr) (m b : Nat) (w : World) (hx : Recs w 18 A n (xs.map Wai.list)) (hn : n ≤ 140737488351232) (hy : Recs w 14 B m (ys.map Idl.list)) (hm : m ≤ 140737488351232) (ha : n ≤ a) (hb : m ≤ b)
    (HBE : Hid (decide (1048576 < n + m) = false)) (hn2 : n ≤ 1048576) (hm2 : m ≤ 1048576) (HC : Hid (cfgErr c = 0)) (t : 1099511627776 < now) :
    Calls Try.prog 8 #[c.val, .int .i64 now, .agg #[.slice A n a, .slice B m b]] w fun e w' => e = .returned (.bool true) ∧ Below w.heap.size w w' := by
  have HX := Lib.hid hx
  have HY := Lib.hid hy
  clear hx hy
  have k := KL.start w c A n a B m b
  have p0 : decide (now < 0) = false := decide_eq_false (by omega)
  have p1 : decide (1099511627776 < now) = true := decide_eq_true t
  go_enter Try.func8, Try.ntmps8
  go_wp2_with (first | (go_at_call 17; with_reducible refine (alive_c _).mono ?_; rintro e w1 ⟨rfl, hb⟩; replace k := KL.keep k hb; have k0 := KL.c0 k; have k1 := KL.c1 k; clear hb) | (go_at_call 10; with_reducible refine (beyond2 n m _ _ hn hm false HBE.out).mono ?_; rintro e w2 ⟨rfl, rfl⟩; replace k := KL.keep k (alloc_below _ (.cells #[.int .i64 (n : Int), .int .i64 (m : Int)] 3)); clear k0 k1))
  have HNx : Hid (xs.length = n) := Lib.hid (by have := HX.out.1; simpa using this)
  have HM : Hid (ys.length = m) := Lib.hid (by have := HY.out.1; simpa using this)
  have EXT : Hid (∀ W, KL w c A n a B m b W → (fun W => KL w c A n a B m b W ∧ (LA 34 (.pointer (some ⟨w.heap.size, 0, none⟩))).run Try.prog W = .ok (.agg #[.int .i64 c.q, .int .i64 c.d, .int .i64 c.w, .int .i64 c.ttl, .int .i64 c.b]) W ∧ W.cell? ⟨w.heap.size + 1, 0, none⟩ = some (.slice A n a) ∧ W.cell? ⟨w.heap.size + 1, 1, none⟩ = some (.slice B m b)) W) := Lib.hid (fun W h => ⟨h, KL.lc h, KL.c0 h, KL.c1 h⟩)
  have K := Lib.hid k
  clear k
  dsimp only at EXT
  generalize hW2 : w1.alloc _ = w2 at K ⊢
  clear hW2
  go_region_held3 (fun W => KL w c A n a B m b W ∧ (LA 34 (.pointer (some ⟨w.heap.size, 0, none⟩))).run Try.prog W = .ok (.agg #[.int .i64 c.q, .int .i64 c.d, .int .i64 c.w, .int .i64 c.ttl, .int .i64 c.b]) W ∧ W.cell? ⟨w.heap.size + 1, 0, none⟩ = some (.slice A n a) ∧ W.cell? ⟨w.heap.size + 1, 1, none⟩ = some (.slice B m b)) (first | exact EXT.out _ (KL.keep K.out (drew_below _)) | exact EXT.out _ (KL.keep (And.left (by assumption)) hb) | exact EXT.out _ (KL.keep (And.left (by assumption)) (alloc_below _ _)) | exact EXT.out _ (KL.keep k5 (alloc_below _ _)) | exact EXT.out _ k6 | exact EXT.out _ (KL.keep k4 (alloc_below _ _)) | exact EXT.out _ (KL.keep k3 (alloc_below _ _)) | exact EXT.out _ (KL.keep (KL.keep K.out (drew_below _)) (alloc_below _ _))) (first | (go_at_call 20; refine (twin_wai (xs.map Wai.list) A n a _ _ rfl (HX.out.keep (Has.bel (And.left (by assumption)))) (wai_one xs) hn2).mono ?_; rintro e w3 ⟨rfl, hB3, hb⟩; have hb3 := hb; have k3 := KL.keep (And.left (by assumption)) hb) | (go_at_call 21; refine (twin_idl (ys.map Idl.list) B m b _ _ rfl (HY.out.keep (Has.bel (And.left (by assumption)))) (idl_one ys) hm2).mono ?_; rintro e w4 ⟨rfl, hB4, hb⟩; have hb4 := hb; have k4 := KL.keep (And.left (by assumption)) hb) | (go_at_call 19; refine (g_tick1 c now _ _ n m _ _ _ hn hm HC t).mono ?_; rintro e w5 ⟨rfl, hb⟩; have k5 := KL.keep (And.left (by assumption)) hb; (first | (refine Exists.elim (KL.store k5 ((Blk.new w4 24 zB).keep hb) (KL.lt k4) (.int .i64 0) (.int .i64 0) (.slice none 0 0) rfl rfl rfl) ?_; rintro w6 ⟨hst, k6⟩) | (refine Exists.elim (KL.store k5 (((Blk.new w3 24 zB).keep hb4).keep hb) (KL.lt k3) (.int .i64 0) (.int .i64 0) (.slice none 0 0) rfl rfl rfl) ?_; rintro w6 ⟨hst, k6⟩) | (refine Exists.elim (KL.store (g := w2.heap.size) k5 ((((Blk.new w2.drew 24 zB).keep hb3).keep hb4).keep hb) (KL.lt K.out) (.int .i64 0) (.int .i64 0) (.slice none 0 0) rfl rfl rfl) ?_; rintro w6 ⟨hst, k6⟩) | (refine Exists.elim (KL.store_new k5 (.int .i64 0) (.int .i64 0) (.slice none 0 0) rfl rfl rfl) ?_; rintro w6 ⟨hst, k6⟩))))
  all_goals (have lc := KL.lc k6; go_wp2_with (first | (go_at_call 18; with_reducible refine (config_v c _ _ HC).mono ?_; rintro e w7 ⟨rfl, o, rfl⟩; replace k6 := KL.keep k6 (alloc_below _ o))))
  all_goals (go_ret; exact ⟨rfl, Has.bel k6⟩)
set_option maxHeartbeats 8000000 in
theorem first_size0 (c : Cfg) (now : Int) (xs : List Wai) (A : Option Addr) (n a : Nat) (ys : List Idl) (B : Option Addr) (m b : Nat) (w : World) (hx : Recs w 18 A n (xs.map Wai.list)) (hn : n ≤ 140737488351232) (hy : Recs w 14 B m (ys.map Idl.list)) (hm : m ≤ 140737488351232) (ha : n ≤ a) (hb : m ≤ b)
    (HBE : Hid (decide (1048576 < n + m) = false)) (hn2 : n ≤ 1048576) (hm2 : m ≤ 1048576) (HC : Hid (cfgErr c = 0)) (t1 : 0 ≤ now) (t2 : now ≤ 1099511627776) (hs : 64 < n) :
    Calls Try.prog 8 #[c.val, .int .i64 now, .agg #[.slice A n a, .slice B m b]] w fun e w' => e = .returned (.bool true) ∧ Below w.heap.size w w' := by
  have HX := Lib.hid hx
  have HY := Lib.hid hy
  clear hx hy
  have k := KL.start w c A n a B m b
  have p0 : decide (now < 0) = false := decide_eq_false (by omega)
  have p1 : decide (1099511627776 < now) = false := decide_eq_false (by omega)
  have p2 : decide ((64 : Int) < (n : Int)) = true := decide_eq_true (by omega)
  go_enter Try.func8, Try.ntmps8
  go_wp2_with (first | (go_at_call 17; with_reducible refine (alive_c _).mono ?_; rintro e w1 ⟨rfl, hb⟩; replace k := KL.keep k hb; have k0 := KL.c0 k; have k1 := KL.c1 k; clear hb) | (go_at_call 10; with_reducible refine (beyond2 n m _ _ hn hm false HBE.out).mono ?_; rintro e w2 ⟨rfl, rfl⟩; replace k := KL.keep k (alloc_below _ (.cells #[.int .i64 (n : Int), .int .i64 (m : Int)] 3)); clear k0 k1))
  have HNx : Hid (xs.length = n) := Lib.hid (by have := HX.out.1; simpa using this)
  have HM : Hid (ys.length = m) := Lib.hid (by have := HY.out.1; simpa using this)
  have EXT : Hid (∀ W, KL w c A n a B m b W → (fun W => KL w c A n a B m b W ∧ (LA 34 (.pointer (some ⟨w.heap.size, 0, none⟩))).run Try.prog W = .ok (.agg #[.int .i64 c.q, .int .i64 c.d, .int .i64 c.w, .int .i64 c.ttl, .int .i64 c.b]) W ∧ W.cell? ⟨w.heap.size + 1, 0, none⟩ = some (.slice A n a) ∧ W.cell? ⟨w.heap.size + 1, 1, none⟩ = some (.slice B m b)) W) := Lib.hid (fun W h => ⟨h, KL.lc h, KL.c0 h, KL.c1 h⟩)
  have K := Lib.hid k
  clear k
  dsimp only at EXT
  generalize hW2 : w1.alloc _ = w2 at K ⊢
  clear hW2
  go_region_held3 (fun W => KL w c A n a B m b W ∧ (LA 34 (.pointer (some ⟨w.heap.size, 0, none⟩))).run Try.prog W = .ok (.agg #[.int .i64 c.q, .int .i64 c.d, .int .i64 c.w, .int .i64 c.ttl, .int .i64 c.b]) W ∧ W.cell? ⟨w.heap.size + 1, 0, none⟩ = some (.slice A n a) ∧ W.cell? ⟨w.heap.size + 1, 1, none⟩ = some (.slice B m b)) (first | exact EXT.out _ (KL.keep K.out (drew_below _)) | exact EXT.out _ (KL.keep (And.left (by assumption)) hb) | exact EXT.out _ (KL.keep (And.left (by assumption)) (alloc_below _ _)) | exact EXT.out _ (KL.keep k5 (alloc_below _ _)) | exact EXT.out _ k6 | exact EXT.out _ (KL.keep k4 (alloc_below _ _)) | exact EXT.out _ (KL.keep k3 (alloc_below _ _)) | exact EXT.out _ (KL.keep (KL.keep K.out (drew_below _)) (alloc_below _ _))) (first | (go_at_call 20; refine (twin_wai (xs.map Wai.list) A n a _ _ rfl (HX.out.keep (Has.bel (And.left (by assumption)))) (wai_one xs) hn2).mono ?_; rintro e w3 ⟨rfl, hB3, hb⟩; have hb3 := hb; have k3 := KL.keep (And.left (by assumption)) hb) | (go_at_call 21; refine (twin_idl (ys.map Idl.list) B m b _ _ rfl (HY.out.keep (Has.bel (And.left (by assumption)))) (idl_one ys) hm2).mono ?_; rintro e w4 ⟨rfl, hB4, hb⟩; have hb4 := hb; have k4 := KL.keep (And.left (by assumption)) hb) | (go_at_call 19; refine (g_size0 c now _ _ n m _ _ _ hn hm HC t1 t2 hs).mono ?_; rintro e w5 ⟨rfl, hb⟩; have k5 := KL.keep (And.left (by assumption)) hb; (first | (refine Exists.elim (KL.store k5 ((Blk.new w4 24 zB).keep hb) (KL.lt k4) (.int .i64 0) (.int .i64 0) (.slice none 0 0) rfl rfl rfl) ?_; rintro w6 ⟨hst, k6⟩) | (refine Exists.elim (KL.store k5 (((Blk.new w3 24 zB).keep hb4).keep hb) (KL.lt k3) (.int .i64 0) (.int .i64 0) (.slice none 0 0) rfl rfl rfl) ?_; rintro w6 ⟨hst, k6⟩) | (refine Exists.elim (KL.store (g := w2.heap.size) k5 ((((Blk.new w2.drew 24 zB).keep hb3).keep hb4).keep hb) (KL.lt K.out) (.int .i64 0) (.int .i64 0) (.slice none 0 0) rfl rfl rfl) ?_; rintro w6 ⟨hst, k6⟩) | (refine Exists.elim (KL.store_new k5 (.int .i64 0) (.int .i64 0) (.slice none 0 0) rfl rfl rfl) ?_; rintro w6 ⟨hst, k6⟩))))
  all_goals (have lc := KL.lc k6; go_wp2_with (first | (go_at_call 18; with_reducible refine (config_v c _ _ HC).mono ?_; rintro e w7 ⟨rfl, o, rfl⟩; replace k6 := KL.keep k6 (alloc_below _ o); have q0 := KL.c0 k6; have q1 := KL.c1 k6)))
  all_goals (go_ret; exact ⟨rfl, Has.bel k6⟩)
set_option maxHeartbeats 8000000 in
theorem first_size1 (c : Cfg) (now : Int) (xs : List Wai) (A : Option Addr) (n a : Nat) (ys : List Idl) (B : Option Addr) (m b : Nat) (w : World) (hx : Recs w 18 A n (xs.map Wai.list)) (hn : n ≤ 140737488351232) (hy : Recs w 14 B m (ys.map Idl.list)) (hm : m ≤ 140737488351232) (ha : n ≤ a) (hb : m ≤ b)
    (HBE : Hid (decide (1048576 < n + m) = false)) (hn2 : n ≤ 1048576) (hm2 : m ≤ 1048576) (HC : Hid (cfgErr c = 0)) (t1 : 0 ≤ now) (t2 : now ≤ 1099511627776) (hs0 : n ≤ 64) (hs : 64 < m) :
    Calls Try.prog 8 #[c.val, .int .i64 now, .agg #[.slice A n a, .slice B m b]] w fun e w' => e = .returned (.bool true) ∧ Below w.heap.size w w' := by
  have HX := Lib.hid hx
  have HY := Lib.hid hy
  clear hx hy
  have k := KL.start w c A n a B m b
  have p0 : decide (now < 0) = false := decide_eq_false (by omega)
  have p1 : decide (1099511627776 < now) = false := decide_eq_false (by omega)
  have p2 : decide ((64 : Int) < (n : Int)) = false := decide_eq_false (by omega)
  have p3 : decide ((64 : Int) < (m : Int)) = true := decide_eq_true (by omega)
  go_enter Try.func8, Try.ntmps8
  go_wp2_with (first | (go_at_call 17; with_reducible refine (alive_c _).mono ?_; rintro e w1 ⟨rfl, hb⟩; replace k := KL.keep k hb; have k0 := KL.c0 k; have k1 := KL.c1 k; clear hb) | (go_at_call 10; with_reducible refine (beyond2 n m _ _ hn hm false HBE.out).mono ?_; rintro e w2 ⟨rfl, rfl⟩; replace k := KL.keep k (alloc_below _ (.cells #[.int .i64 (n : Int), .int .i64 (m : Int)] 3)); clear k0 k1))
  have HNx : Hid (xs.length = n) := Lib.hid (by have := HX.out.1; simpa using this)
  have HM : Hid (ys.length = m) := Lib.hid (by have := HY.out.1; simpa using this)
  have EXT : Hid (∀ W, KL w c A n a B m b W → (fun W => KL w c A n a B m b W ∧ (LA 34 (.pointer (some ⟨w.heap.size, 0, none⟩))).run Try.prog W = .ok (.agg #[.int .i64 c.q, .int .i64 c.d, .int .i64 c.w, .int .i64 c.ttl, .int .i64 c.b]) W ∧ W.cell? ⟨w.heap.size + 1, 0, none⟩ = some (.slice A n a) ∧ W.cell? ⟨w.heap.size + 1, 1, none⟩ = some (.slice B m b)) W) := Lib.hid (fun W h => ⟨h, KL.lc h, KL.c0 h, KL.c1 h⟩)
  have K := Lib.hid k
  clear k
  dsimp only at EXT
  generalize hW2 : w1.alloc _ = w2 at K ⊢
  clear hW2
  go_region_held3 (fun W => KL w c A n a B m b W ∧ (LA 34 (.pointer (some ⟨w.heap.size, 0, none⟩))).run Try.prog W = .ok (.agg #[.int .i64 c.q, .int .i64 c.d, .int .i64 c.w, .int .i64 c.ttl, .int .i64 c.b]) W ∧ W.cell? ⟨w.heap.size + 1, 0, none⟩ = some (.slice A n a) ∧ W.cell? ⟨w.heap.size + 1, 1, none⟩ = some (.slice B m b)) (first | exact EXT.out _ (KL.keep K.out (drew_below _)) | exact EXT.out _ (KL.keep (And.left (by assumption)) hb) | exact EXT.out _ (KL.keep (And.left (by assumption)) (alloc_below _ _)) | exact EXT.out _ (KL.keep k5 (alloc_below _ _)) | exact EXT.out _ k6 | exact EXT.out _ (KL.keep k4 (alloc_below _ _)) | exact EXT.out _ (KL.keep k3 (alloc_below _ _)) | exact EXT.out _ (KL.keep (KL.keep K.out (drew_below _)) (alloc_below _ _))) (first | (go_at_call 20; refine (twin_wai (xs.map Wai.list) A n a _ _ rfl (HX.out.keep (Has.bel (And.left (by assumption)))) (wai_one xs) hn2).mono ?_; rintro e w3 ⟨rfl, hB3, hb⟩; have hb3 := hb; have k3 := KL.keep (And.left (by assumption)) hb) | (go_at_call 21; refine (twin_idl (ys.map Idl.list) B m b _ _ rfl (HY.out.keep (Has.bel (And.left (by assumption)))) (idl_one ys) hm2).mono ?_; rintro e w4 ⟨rfl, hB4, hb⟩; have hb4 := hb; have k4 := KL.keep (And.left (by assumption)) hb) | (go_at_call 19; refine (g_size1 c now _ _ n m _ _ _ hn hm HC t1 t2 hs0 hs).mono ?_; rintro e w5 ⟨rfl, hb⟩; have k5 := KL.keep (And.left (by assumption)) hb; (first | (refine Exists.elim (KL.store k5 ((Blk.new w4 24 zB).keep hb) (KL.lt k4) (.int .i64 0) (.int .i64 0) (.slice none 0 0) rfl rfl rfl) ?_; rintro w6 ⟨hst, k6⟩) | (refine Exists.elim (KL.store k5 (((Blk.new w3 24 zB).keep hb4).keep hb) (KL.lt k3) (.int .i64 0) (.int .i64 0) (.slice none 0 0) rfl rfl rfl) ?_; rintro w6 ⟨hst, k6⟩) | (refine Exists.elim (KL.store (g := w2.heap.size) k5 ((((Blk.new w2.drew 24 zB).keep hb3).keep hb4).keep hb) (KL.lt K.out) (.int .i64 0) (.int .i64 0) (.slice none 0 0) rfl rfl rfl) ?_; rintro w6 ⟨hst, k6⟩) | (refine Exists.elim (KL.store_new k5 (.int .i64 0) (.int .i64 0) (.slice none 0 0) rfl rfl rfl) ?_; rintro w6 ⟨hst, k6⟩))))
  all_goals (have lc := KL.lc k6; go_wp2_with (first | (go_at_call 18; with_reducible refine (config_v c _ _ HC).mono ?_; rintro e w7 ⟨rfl, o, rfl⟩; replace k6 := KL.keep k6 (alloc_below _ o); have q0 := KL.c0 k6; have q1 := KL.c1 k6)))
  all_goals (go_ret; exact ⟨rfl, Has.bel k6⟩)
set_option maxHeartbeats 8000000 in
theorem first_beyond (c : Cfg) (now : Int) (A : Option Addr) (n a : Nat) (B : Option Addr) (m b : Nat) (w : World) (hn : n ≤ 140737488351232) (hm : m ≤ 140737488351232)
    (HBE : Hid (decide (1048576 < n + m) = true)) :
    Calls Try.prog 8 #[c.val, .int .i64 now, .agg #[.slice A n a, .slice B m b]] w fun e w' => e = .returned (.bool true) ∧ Below w.heap.size w w' := by
  have k := KL.start w c A n a B m b
  go_enter Try.func8, Try.ntmps8
  go_wp2_with (first | (go_at_call 17; with_reducible refine (alive_c _).mono ?_; rintro e w1 ⟨rfl, hb⟩; replace k := KL.keep k hb; have k0 := KL.c0 k; have k1 := KL.c1 k; clear hb) | (go_at_call 10; with_reducible refine (beyond2 n m _ _ hn hm true HBE.out).mono ?_; rintro e w2 ⟨rfl, rfl⟩; replace k := KL.keep k (alloc_below _ (.cells #[.int .i64 (n : Int), .int .i64 (m : Int)] 3)); clear k0 k1))
  go_ret
  exact ⟨rfl, Has.bel k⟩
end Go.Proofs.Ytbpdfcllojaanaa.First
