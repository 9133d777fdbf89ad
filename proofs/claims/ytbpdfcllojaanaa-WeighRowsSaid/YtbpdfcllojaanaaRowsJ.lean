/- WeighRows: the join. -/
import Derived.Test.YtbpdfcllojaanaaRowsM
import Derived.Test.YtbpdfcllojaanaaLists
import Derived.Test.YtbpdfcllojaanaaFirstC
namespace Go.Proofs.Ytbpdfcllojaanaa.First
open Go.RowKit Go.Proofs.Ytbpdfcllojaanaa.Aid Go.Proofs.Ytbpdfcllojaanaa.Mem Go.Proofs.Ytbpdfcllojaanaa.Types Go.Proofs.Ytbpdfcllojaanaa.Keep Go.Proofs.Ytbpdfcllojaanaa.Mays Go.Proofs.Ytbpdfcllojaanaa.Weight Go.Proofs.Ytbpdfcllojaanaa.Weights Go.Proofs.Ytbpdfcllojaanaa.Recs Go.Proofs.Ytbpdfcllojaanaa.TwinS Go.Proofs.Ytbpdfcllojaanaa.Twin Go.Proofs.Ytbpdfcllojaanaa.AliveW Go.Proofs.Ytbpdfcllojaanaa.Has Go.Proofs.Ytbpdfcllojaanaa.Graph Go.Proofs.Ytbpdfcllojaanaa.GraphB Go.Proofs.Ytbpdfcllojaanaa.PairsG Go.Proofs.Ytbpdfcllojaanaa.RowsP
set_option linter.unusedSimpArgs false
set_option linter.unusedVariables false
set_option maxRecDepth 100000
theorem rw_w {c : Cfg} {now : Int} {xs : List Wai} {ys : List Idl} {n m : Nat} {w w' : World} {e : Ending} {i0 : Nat} {x0 : Wai} (hx : xs[i0]? = some x0) (hn : wE c now x0 ≠ 0) (hb : ∀ (j : Nat) (y : Wai), j < i0 → xs[j]? = some y → wE c now y = 0) (h : GP c now xs ys n m w e w') :
    e = .returned (.tuple #[.agg zG, .int .i64 (wE c now x0)]) ∧ Below w.heap.size w w' := by
  refine ⟨?_, h.1⟩
  rcases h.2 with ⟨i, x, h1, h2, h3, rfl⟩ | ⟨h1, _⟩
  · rcases Nat.lt_trichotomy i i0 with h4 | h4 | h4
    · exact absurd (hb i x h4 h1) h2
    · subst h4
      obtain rfl : x = x0 := by rw [hx] at h1; simpa using h1.symm
      rfl
    · exact absurd (h3 i0 x0 h4 hx) hn
  · exact absurd (h1 i0 x0 hx) hn
theorem rw_d {c : Cfg} {now : Int} {xs : List Wai} {ys : List Idl} {n m : Nat} {w w' : World} {e : Ending} {i1 : Nat} {y1 : Idl} (hz : ∀ (j : Nat) (y : Wai), xs[j]? = some y → wE c now y = 0) (hy : ys[i1]? = some y1) (hn : drvErr (drvOf y1) ≠ 0) (h : GP c now xs ys n m w e w') :
    e = .returned (.tuple #[.agg zG, .int .i64 1]) ∧ Below w.heap.size w w' := by
  refine ⟨?_, h.1⟩
  rcases h.2 with ⟨i, x, h1, h2, h3, rfl⟩ | ⟨h1, ⟨i, y, h2, h3, rfl⟩ | ⟨h2, _⟩⟩
  · exact absurd (hz i x h1) h2
  · rfl
  · exact absurd (h2 i1 y1 hy) hn
theorem rw_o {c : Cfg} {now : Int} {xs : List Wai} {ys : List Idl} {n m : Nat} {w w' : World} {e : Ending} (hz : ∀ (j : Nat) (y : Wai), xs[j]? = some y → wE c now y = 0) (hd : ∀ (j : Nat) (y : Idl), ys[j]? = some y → drvErr (drvOf y) = 0) (h : GP c now xs ys n m w e w') :
    (∃ v, e = .returned (.tuple #[.agg #[.int .i64 (n : Int), .int .i64 (m : Int), v], .int .i64 0]) ∧ Own w' w.heap.size 26 3 v (allP xs ys n).length (cellsE (wts c now xs) (allP xs ys n))) ∧ Below w.heap.size w w' := by
  refine ⟨?_, h.1⟩
  rcases h.2 with ⟨i, x, h1, h2, h3, rfl⟩ | ⟨h1, ⟨i, y, h2, h3, rfl⟩ | ⟨h2, v, rfl, hO⟩⟩
  · exact absurd (hz i x h1) h2
  · exact absurd (hd i y h2) h3
  · exact ⟨_, rfl, hO⟩
set_option maxHeartbeats 8000000 in
theorem rows_beyond (c : Cfg) (now : Int) (A : Option Addr) (n a : Nat) (B : Option Addr) (m b : Nat) (w : World) (hn : n ≤ 140737488351232) (hm : m ≤ 140737488351232)
    (HBE : Hid (decide (1048576 < n + m) = true)) :
    Calls Try.prog 7 #[c.val, .int .i64 now, .agg #[.slice A n a, .slice B m b]] w fun e w' => e = .returned (.bool true) ∧ Below w.heap.size w w' := by
  have k := KL.start w c A n a B m b
  go_enter Try.func7, Try.ntmps7
  go_wp2_with (first | (go_at_call 17; with_reducible refine (alive_c _).mono ?_; rintro e w1 ⟨rfl, hb⟩; replace k := KL.keep k hb; have k0 := KL.c0 k; have k1 := KL.c1 k; clear hb) | (go_at_call 10; with_reducible refine (beyond2 n m _ _ hn hm true HBE.out).mono ?_; rintro e w2 ⟨rfl, rfl⟩; replace k := KL.keep k (alloc_below _ (.cells #[.int .i64 (n : Int), .int .i64 (m : Int)] 3)); clear k0 k1))
  go_ret
  exact ⟨rfl, Has.bel k⟩
theorem rows (c : Cfg) (now : Int) (xs : List Wai) (A : Option Addr) (n a : Nat) (ys : List Idl) (B : Option Addr) (m b : Nat) (w : World) (hx : Recs w 18 A n (xs.map Wai.list)) (ha : n ≤ a) (hn : n ≤ 140737488351232) (wx : ∀ x ∈ xs, x.wf) (hy : Recs w 14 B m (ys.map Idl.list)) (hb : m ≤ b) (hm : m ≤ 140737488351232) (wy : ∀ y ∈ ys, y.wf) :
    Calls Try.prog 7 #[c.val, .int .i64 now, .agg #[.slice A n a, .slice B m b]] w fun e w' => e = .returned (.bool true) ∧ Below w.heap.size w w' := by
  by_cases hbey : 1048576 < n + m
  · exact rows_beyond c now A n a B m b w hn hm (Lib.hid (decide_eq_true hbey))
  have HBE := Lib.hid (decide_eq_false hbey)
  have hn2 : n ≤ 1048576 := by omega
  have hm2 : m ≤ 1048576 := by omega
  rcases cfgErr_or c with hc | hc
  · have HC := Lib.hid hc
    by_cases t1 : now < 0
    · exact rows_err c now xs A n a ys B m b w hx hn hy hm ha hb HBE hn2 hm2 1 (by decide) (Lib.hid fun A' B' a' b' W r1 r2 => g_tick0 c now A' B' n m a' b' W hn hm HC t1)
    by_cases t2 : 1099511627776 < now
    · exact rows_err c now xs A n a ys B m b w hx hn hy hm ha hb HBE hn2 hm2 1 (by decide) (Lib.hid fun A' B' a' b' W r1 r2 => g_tick1 c now A' B' n m a' b' W hn hm HC t2)
    by_cases n64 : 64 < n
    · exact rows_err c now xs A n a ys B m b w hx hn hy hm ha hb HBE hn2 hm2 3 (by decide) (Lib.hid fun A' B' a' b' W r1 r2 => g_size0 c now A' B' n m a' b' W hn hm HC (by omega) (by omega) n64)
    by_cases m64 : 64 < m
    · exact rows_err c now xs A n a ys B m b w hx hn hy hm ha hb HBE hn2 hm2 3 (by decide) (Lib.hid fun A' B' a' b' W r1 r2 => g_size1 c now A' B' n m a' b' W hn hm HC (by omega) (by omega) (by omega) m64)
    have lx : xs.length = n := by have := hx.1; simpa using this
    have ly : ys.length = m := by have := hy.1; simpa using this
    have G := fun (A' B' : Option Addr) (a' b' : Nat) (W : World) (h1 : Recs W 18 A' n (xs.map Wai.list)) (h2 : Recs W 14 B' m (ys.map Idl.list)) => g_main c now xs ys A' B' n m a' b' W h1 h2 wx wy HC (by omega) (by omega) (by omega) (by omega)
    rcases first_ne (wE c now) xs with hz | ⟨i0, x0, h0, hne, hbf⟩
    · rcases first_ne (fun y => drvErr (drvOf y)) ys with hd | ⟨i1, y1, h1, hne, hbf⟩
      · exact rows_ok c now xs A n a ys B m b w hx hn hy hm ha hb HBE hn2 hm2 (Lib.hid fun A' B' a' b' W r1 r2 => (G A' B' a' b' W r1 r2).mono fun e w' h => rw_o hz hd h) wx (Lib.hid wy) (fun i x h => Lib.hid (hz i x h)) (Lib.hid (graph_ok hc lx ly (by omega) (by omega) hz)) (by omega) (by omega)
      · exact rows_err c now xs A n a ys B m b w hx hn hy hm ha hb HBE hn2 hm2 1 (by decide) (Lib.hid fun A' B' a' b' W r1 r2 => (G A' B' a' b' W r1 r2).mono fun e w' h => rw_d hz h1 hne h)
    · exact rows_err c now xs A n a ys B m b w hx hn hy hm ha hb HBE hn2 hm2 (wE c now x0) (by simpa using hne) (Lib.hid fun A' B' a' b' W r1 r2 => (G A' B' a' b' W r1 r2).mono fun e w' h => rw_w h0 hne hbf h)
  · exact rows_err c now xs A n a ys B m b w hx hn hy hm ha hb HBE hn2 hm2 160 (by decide) (Lib.hid fun A' B' a' b' W r1 r2 => g_cfg c now A' B' n m a' b' W hn hm (Lib.hid hc))
/-- The same, for the row. -/
theorem rows_row (c : Cfg) (now : Int) (xs : List Wai) (A : Option Addr) (n a : Nat) (ys : List Idl) (B : Option Addr) (m b : Nat) (w : World) (_ : c.wf) (_ : (Lit.int .i64 now).wf = true) (hx : Recs w 18 A n (xs.map Wai.list)) (ha : n ≤ a) (hn : n ≤ 140737488351232) (wx : ∀ x ∈ xs, x.wf) (hy : Recs w 14 B m (ys.map Idl.list)) (hb : m ≤ b) (hm : m ≤ 140737488351232) (wy : ∀ y ∈ ys, y.wf) :
    Calls Try.prog 7 #[c.val, .int .i64 now, .agg #[.slice A n a, .slice B m b]] w fun e w' => e = .returned (.bool true) ∧ Below w.heap.size w w' := rows c now xs A n a ys B m b w hx ha hn wx hy hb hm wy
end Go.Proofs.Ytbpdfcllojaanaa.First
