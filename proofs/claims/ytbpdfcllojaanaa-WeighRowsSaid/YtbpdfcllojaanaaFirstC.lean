/- WeighFirst: the join. -/
import Derived.Test.YtbpdfcllojaanaaFirstB
import Derived.Test.YtbpdfcllojaanaaLists
namespace Go.Proofs.Ytbpdfcllojaanaa.First
open Go.RowKit Go.Proofs.Ytbpdfcllojaanaa.Aid Go.Proofs.Ytbpdfcllojaanaa.Mem Go.Proofs.Ytbpdfcllojaanaa.Types Go.Proofs.Ytbpdfcllojaanaa.Keep Go.Proofs.Ytbpdfcllojaanaa.Mays Go.Proofs.Ytbpdfcllojaanaa.Weight Go.Proofs.Ytbpdfcllojaanaa.Weights Go.Proofs.Ytbpdfcllojaanaa.Recs Go.Proofs.Ytbpdfcllojaanaa.TwinS Go.Proofs.Ytbpdfcllojaanaa.Twin Go.Proofs.Ytbpdfcllojaanaa.AliveW Go.Proofs.Ytbpdfcllojaanaa.Has Go.Proofs.Ytbpdfcllojaanaa.Graph Go.Proofs.Ytbpdfcllojaanaa.GraphB Go.Proofs.Ytbpdfcllojaanaa.PairsG
set_option linter.unusedSimpArgs false
set_option linter.unusedVariables false
theorem first_ne {α : Type} (f : α → Int) : ∀ xs : List α, (∀ (i : Nat) (x : α), xs[i]? = some x → f x = 0) ∨ ∃ (i : Nat) (x : α), xs[i]? = some x ∧ f x ≠ 0 ∧ ∀ (j : Nat) (y : α), j < i → xs[j]? = some y → f y = 0
  | [] => .inl (by simp)
  | a :: l => by
    by_cases h : f a = 0
    · rcases first_ne f l with h1 | ⟨i, x, hx, hn, hb⟩
      · refine .inl fun i x hx => ?_
        cases i with
        | zero => simp at hx; subst hx; exact h
        | succ i => exact h1 i x (by simpa using hx)
      · refine .inr ⟨i + 1, x, by simpa using hx, hn, fun j y hj hy => ?_⟩
        cases j with
        | zero => simp at hy; subst hy; exact h
        | succ j => exact hb j y (by omega) (by simpa using hy)
    · exact .inr ⟨0, a, rfl, h, fun j y hj => absurd hj (by omega)⟩
theorem zs {E : Int} : ∃ x y z, (Ending.returned (.tuple #[.agg zG, .int .i64 E]) : Ending) = .returned (.tuple #[.agg #[x, y, z], .int .i64 E]) ∧ x.oneCell' = true ∧ y.oneCell' = true ∧ z.oneCell' = true := ⟨_, _, _, rfl, rfl, rfl, rfl⟩
theorem gp_w {c : Cfg} {now : Int} {xs : List Wai} {ys : List Idl} {n m : Nat} {w w' : World} {e : Ending} {i0 : Nat} {x0 : Wai} (hx : xs[i0]? = some x0) (hn : wE c now x0 ≠ 0) (hb : ∀ (j : Nat) (y : Wai), j < i0 → xs[j]? = some y → wE c now y = 0) (h : GP c now xs ys n m w e w') :
    (∃ x y z, e = .returned (.tuple #[.agg #[x, y, z], .int .i64 (wE c now x0)]) ∧ x.oneCell' = true ∧ y.oneCell' = true ∧ z.oneCell' = true) ∧ Below w.heap.size w w' := by
  refine ⟨?_, h.1⟩
  rcases h.2 with ⟨i, x, h1, h2, h3, rfl⟩ | ⟨h1, _⟩
  · rcases Nat.lt_trichotomy i i0 with h4 | h4 | h4
    · exact absurd (hb i x h4 h1) h2
    · subst h4
      obtain rfl : x = x0 := by rw [hx] at h1; simpa using h1.symm
      exact zs
    · exact absurd (h3 i0 x0 h4 hx) hn
  · exact absurd (h1 i0 x0 hx) hn
theorem gp_d {c : Cfg} {now : Int} {xs : List Wai} {ys : List Idl} {n m : Nat} {w w' : World} {e : Ending} {i1 : Nat} {y1 : Idl} (hz : ∀ (j : Nat) (y : Wai), xs[j]? = some y → wE c now y = 0) (hy : ys[i1]? = some y1) (hn : drvErr (drvOf y1) ≠ 0) (h : GP c now xs ys n m w e w') :
    (∃ x y z, e = .returned (.tuple #[.agg #[x, y, z], .int .i64 1]) ∧ x.oneCell' = true ∧ y.oneCell' = true ∧ z.oneCell' = true) ∧ Below w.heap.size w w' := by
  refine ⟨?_, h.1⟩
  rcases h.2 with ⟨i, x, h1, h2, h3, rfl⟩ | ⟨h1, ⟨i, y, h2, h3, rfl⟩ | ⟨h2, _⟩⟩
  · exact absurd (hz i x h1) h2
  · exact zs
  · exact absurd (h2 i1 y1 hy) hn
theorem gp_o {c : Cfg} {now : Int} {xs : List Wai} {ys : List Idl} {n m : Nat} {w w' : World} {e : Ending} (hz : ∀ (j : Nat) (y : Wai), xs[j]? = some y → wE c now y = 0) (hd : ∀ (j : Nat) (y : Idl), ys[j]? = some y → drvErr (drvOf y) = 0) (h : GP c now xs ys n m w e w') :
    (∃ x y z, e = .returned (.tuple #[.agg #[x, y, z], .int .i64 0]) ∧ x.oneCell' = true ∧ y.oneCell' = true ∧ z.oneCell' = true) ∧ Below w.heap.size w w' := by
  refine ⟨?_, h.1⟩
  rcases h.2 with ⟨i, x, h1, h2, h3, rfl⟩ | ⟨h1, ⟨i, y, h2, h3, rfl⟩ | ⟨h2, v, rfl, hO⟩⟩
  · exact absurd (hz i x h1) h2
  · exact absurd (hd i y h2) h3
  · obtain ⟨A, c', rfl, _, _⟩ := hO.form
    exact ⟨_, _, _, rfl, rfl, rfl, rfl⟩
theorem drv01 (d : Drv) : drvErr d = 0 ∨ drvErr d = 1 := by unfold drvErr; split <;> simp
theorem first (c : Cfg) (now : Int) (xs : List Wai) (A : Option Addr) (n a : Nat) (ys : List Idl) (B : Option Addr) (m b : Nat) (w : World) (hx : Recs w 18 A n (xs.map Wai.list)) (ha : n ≤ a) (hn : n ≤ 140737488351232) (wx : ∀ x ∈ xs, x.wf) (hy : Recs w 14 B m (ys.map Idl.list)) (hb : m ≤ b) (hm : m ≤ 140737488351232) (wy : ∀ y ∈ ys, y.wf) :
    Calls Try.prog 8 #[c.val, .int .i64 now, .agg #[.slice A n a, .slice B m b]] w fun e w' => e = .returned (.bool true) ∧ Below w.heap.size w w' := by
  by_cases hbey : 1048576 < n + m
  · exact first_beyond c now A n a B m b w hn hm (Lib.hid (decide_eq_true hbey))
  have HBE := Lib.hid (decide_eq_false hbey)
  have hn2 : n ≤ 1048576 := by omega
  have hm2 : m ≤ 1048576 := by omega
  rcases cfgErr_or c with hc | hc
  · have HC := Lib.hid hc
    by_cases t1 : now < 0
    · exact first_tick0 c now xs A n a ys B m b w hx hn hy hm ha hb HBE hn2 hm2 HC t1
    by_cases t2 : 1099511627776 < now
    · exact first_tick1 c now xs A n a ys B m b w hx hn hy hm ha hb HBE hn2 hm2 HC t2
    by_cases n64 : 64 < n
    · exact first_size0 c now xs A n a ys B m b w hx hn hy hm ha hb HBE hn2 hm2 HC (by omega) (by omega) n64
    by_cases m64 : 64 < m
    · exact first_size1 c now xs A n a ys B m b w hx hn hy hm ha hb HBE hn2 hm2 HC (by omega) (by omega) (by omega) m64
    have lx : xs.length = n := by have := hx.1; simpa using this
    have ly : ys.length = m := by have := hy.1; simpa using this
    have ws : ∀ y ∈ ys, 0 ≤ (drvOf y).seats := fun y h => (bounds_u8 (drv_wf (wy y h)).seats).1
    have G := fun (A' B' : Option Addr) (a' b' : Nat) (W : World) (h1 : Recs W 18 A' n (xs.map Wai.list)) (h2 : Recs W 14 B' m (ys.map Idl.list)) => g_main c now xs ys A' B' n m a' b' W h1 h2 wx wy HC (by omega) (by omega) (by omega) (by omega)
    rcases first_ne (wE c now) xs with hz | ⟨i0, x0, h0, hne, hbf⟩
    · rcases first_ne (fun y => drvErr (drvOf y)) ys with hd | ⟨i1, y1, h1, hne, hbf⟩
      · exact main_ok c now xs A n a ys B m b w hx hn hy hm ha hb HBE hn2 hm2 HC (by omega) (by omega) (by omega) (by omega) 0 (Lib.hid fun A' B' a' b' W r1 r2 => (G A' B' a' b' W r1 r2).mono fun e w' h => gp_o hz hd h) wx ws (fun i x h => Lib.hid (hz i x h)) (fun k y h => Lib.hid (hd k y h)) rfl
      · refine main_d c now xs A n a ys B m b w hx hn hy hm ha hb HBE hn2 hm2 HC (by omega) (by omega) (by omega) (by omega) 1 (Lib.hid fun A' B' a' b' W r1 r2 => (G A' B' a' b' W r1 r2).mono fun e w' h => gp_d hz h1 hne h) wx ws i1 (by have := (List.getElem?_eq_some_iff.1 h1).1; omega) (fun i x h => Lib.hid (hz i x h)) (fun k y hk h => Lib.hid ?_) rfl
        by_cases e : k = i1
        · subst e
          obtain rfl : y = y1 := by rw [h1] at h; simpa using h.symm
          rw [if_pos rfl]
          rcases drv01 (drvOf y) with h5 | h5
          · exact absurd h5 hne
          · exact h5
        · rw [if_neg e]; exact hbf k y (by omega) h
    · refine main_w c now xs A n a ys B m b w hx hn hy hm ha hb HBE hn2 hm2 HC (by omega) (by omega) (by omega) (by omega) (wE c now x0) (Lib.hid fun A' B' a' b' W r1 r2 => (G A' B' a' b' W r1 r2).mono fun e w' h => gp_w h0 hne hbf h) wx i0 (by have := (List.getElem?_eq_some_iff.1 h0).1; omega) (fun i x hi h => Lib.hid ?_) (by simpa using hne)
      by_cases e : i = i0
      · subst e
        obtain rfl : x = x0 := by rw [h0] at h; simpa using h.symm
        rw [if_pos rfl]
      · rw [if_neg e]; exact hbf i x (by omega) h
  · exact first_cfg c now xs A n a ys B m b w hx hn hy hm ha hb HBE hn2 hm2 (Lib.hid hc)
end Go.Proofs.Ytbpdfcllojaanaa.First
