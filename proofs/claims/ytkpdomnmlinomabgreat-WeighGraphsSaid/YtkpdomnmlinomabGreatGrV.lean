/- What Graph tells, as one value. -/
import Derived.Test.YtkpdomnmlinomabGreatGraphB
namespace Go.Proofs.YtkpdomnmlinomabGreat.GrV
open Go.RowKit Go.Proofs.YtkpdomnmlinomabGreat.Aid Go.Proofs.YtkpdomnmlinomabGreat.Mem Go.Proofs.YtkpdomnmlinomabGreat.Types Go.Proofs.YtkpdomnmlinomabGreat.Fit Go.Proofs.YtkpdomnmlinomabGreat.Mays Go.Proofs.YtkpdomnmlinomabGreat.Keep Go.Proofs.YtkpdomnmlinomabGreat.Weight Go.Proofs.YtkpdomnmlinomabGreat.Weights Go.Proofs.YtkpdomnmlinomabGreat.Recs Go.Proofs.YtkpdomnmlinomabGreat.PairsG Go.Proofs.YtkpdomnmlinomabGreat.Graph Go.Proofs.YtkpdomnmlinomabGreat.GraphB
set_option linter.unusedSimpArgs false
set_option linter.unusedVariables false
/-- The first one that is not 0. -/
def firstE : List Int → Int
  | [] => 0
  | e :: l => if e = 0 then firstE l else e
theorem first_zero : ∀ {l : List Int}, (∀ e ∈ l, e = 0) → firstE l = 0
  | [], _ => rfl
  | e :: l, h => by
    unfold firstE
    rw [if_pos (h e (by simp))]
    exact first_zero fun x hx => h x (by simp [hx])
theorem first_at : ∀ {l : List Int} {i : Nat} {e : Int}, l[i]? = some e → e ≠ 0 → (∀ j x, j < i → l[j]? = some x → x = 0) → firstE l = e
  | [], i, e, h, _, _ => by simp at h
  | a :: l, 0, e, h, hn, _ => by
    simp at h; subst h
    unfold firstE
    rw [if_neg hn]
  | a :: l, i + 1, e, h, hn, hz => by
    unfold firstE
    rw [if_pos (hz 0 a (by omega) rfl)]
    exact first_at (i := i) (by simpa using h) hn fun j x hj hx => hz (j + 1) x (by omega) (by simpa using hx)
def gE (c : Cfg) (now : Int) (xs : List Wai) (ys : List Idl) (n m : Nat) : Int :=
  if cfgErr c ≠ 0 then 160 else if now < 0 ∨ 1099511627776 < now then 1 else if 64 < n ∨ 64 < m then 3 else
    if firstE (xs.map (wE c now)) ≠ 0 then firstE (xs.map (wE c now)) else if firstE (ys.map fun y => drvErr (drvOf y)) ≠ 0 then 1 else 0
def gL (c : Cfg) (now : Int) (xs : List Wai) (ys : List Idl) (n m : Nat) : List (Nat × Nat) := if gE c now xs ys n m = 0 then allP xs ys n else []
def gN (c : Cfg) (now : Int) (xs : List Wai) (ys : List Idl) (n m k : Nat) : Int := if gE c now xs ys n m = 0 then k else 0
/-- Its cells' form: rows, columns, edges, and the error. -/
def GV (R C E : Int) (ws : List Int) (l : List (Nat × Nat)) (w : World) (e : Ending) (w' : World) : Prop :=
  (∃ A c, e = .returned (.tuple #[.agg #[.int .i64 R, .int .i64 C, .slice A l.length c], .int .i64 E]) ∧ Own w' w.heap.size 97 3 (.slice A l.length c) l.length (cellsE ws l)) ∧ Below w.heap.size w w'
theorem gv_zero {w w' : World} {ws : List Int} {E : Int} {e : Ending} (he : e = .returned (.tuple #[.agg zG, .int .i64 E])) (hb : Below w.heap.size w w') : GV 0 0 E ws [] w e w' :=
  ⟨⟨none, 0, he, Own.nil _ _ _ _⟩, hb⟩
section
variable {c : Cfg} {now : Int} {xs : List Wai} {ys : List Idl} {n m : Nat}
abbrev GVof (c : Cfg) (now : Int) (xs : List Wai) (ys : List Idl) (n m : Nat) (w : World) (e : Ending) (w' : World) : Prop := GV (gN c now xs ys n m n) (gN c now xs ys n m m) (gE c now xs ys n m) (wts c now xs) (gL c now xs ys n m) w e w'
theorem gv_err {w w' : World} {e : Ending} {E : Int} (hE : gE c now xs ys n m = E) (h0 : E ≠ 0) (he : e = .returned (.tuple #[.agg zG, .int .i64 E])) (hb : Below w.heap.size w w') : GVof c now xs ys n m w e w' := by
  unfold GVof gN gL
  rw [hE, if_neg h0, if_neg h0, if_neg h0]
  exact gv_zero he hb
theorem gv_of {w w' : World} {e : Ending} (hc : cfgErr c = 0) (t1 : 0 ≤ now) (t2 : now ≤ 1099511627776) (hn : n ≤ 64) (hm : m ≤ 64) (h : GP c now xs ys n m w e w') : GVof c now xs ys n m w e w' := by
  have key : gE c now xs ys n m = if firstE (xs.map (wE c now)) ≠ 0 then firstE (xs.map (wE c now)) else if firstE (ys.map fun y => drvErr (drvOf y)) ≠ 0 then 1 else 0 := by
    unfold gE
    rw [if_neg (by rw [hc]; simp), if_neg (by omega), if_neg (by omega)]
  obtain ⟨hb, h | ⟨hz, h⟩⟩ := h
  · obtain ⟨i, x, hx, hne, hj, he⟩ := h
    have hf : firstE (xs.map (wE c now)) = wE c now x := first_at (i := i) (by rw [List.getElem?_map, hx]; rfl) hne fun j z hj' hz => by
      rw [List.getElem?_map] at hz
      obtain ⟨y, hy, rfl⟩ := Option.map_eq_some_iff.1 hz
      exact hj j y hj' hy
    exact gv_err (by rw [key, hf, if_pos hne]) hne he hb
  · have hf : firstE (xs.map (wE c now)) = 0 := first_zero fun e he => by
      obtain ⟨x, hx, rfl⟩ := List.mem_map.1 he
      obtain ⟨j, hj⟩ := List.getElem?_of_mem hx
      exact hz j x hj
    rcases h with ⟨i, y, hy, hne, he⟩ | ⟨hd, v, he, ho⟩
    · have hg : firstE (ys.map fun y => drvErr (drvOf y)) ≠ 0 := by
        intro h0
        have : ∀ (l : List Idl), firstE (l.map fun y => drvErr (drvOf y)) = 0 → ∀ y ∈ l, drvErr (drvOf y) = 0 := by
          intro l
          induction l with
          | nil => intro _ y hy; simp at hy
          | cons a l ih =>
            intro h y hy
            rw [List.map_cons] at h
            unfold firstE at h
            by_cases ha : drvErr (drvOf a) = 0
            · rw [if_pos ha] at h
              rcases List.mem_cons.1 hy with rfl | hy
              · exact ha
              · exact ih h y hy
            · rw [if_neg ha] at h; exact absurd h ha
        exact hne (this ys h0 y (List.mem_of_getElem? hy))
      exact gv_err (by rw [key, hf, if_neg (by simp), if_pos hg]) (by decide) he hb
    · have hg : firstE (ys.map fun y => drvErr (drvOf y)) = 0 := first_zero fun e he => by
        obtain ⟨x, hx, rfl⟩ := List.mem_map.1 he
        obtain ⟨j, hj⟩ := List.getElem?_of_mem hx
        exact hd j x hj
      have hE : gE c now xs ys n m = 0 := by rw [key, hf, if_neg (by simp), hg, if_neg (by simp)]
      unfold GVof gN gL
      rw [hE, if_pos rfl, if_pos rfl, if_pos rfl]
      obtain ⟨A, c', rfl, _⟩ := ho.form
      exact ⟨⟨A, c', he, ho⟩, hb⟩
theorem graph_v (c : Cfg) (now : Int) (xs : List Wai) (ys : List Idl) (A B : Option Addr) (n m a b : Nat) (w : World) (hx : Recs w 18 A n (xs.map Wai.list)) (hy : Recs w 14 B m (ys.map Idl.list)) (wx : Hid (∀ x ∈ xs, x.wf)) (wy : Hid (∀ y ∈ ys, y.wf)) (hn : n ≤ 140737488351232) (hm : m ≤ 140737488351232) :
    Calls Tryz.prog 8 #[c.val, .int .i64 now, .slice A n a, .slice B m b] w (GVof c now xs ys n m w) := by
  rcases cfgErr_or c with hc | hc
  · by_cases t0 : now < 0
    · exact (g_tick0 c now A B n m a b w hn hm (Lib.hid hc) t0).mono fun e w' ⟨he, hb⟩ => gv_err (by unfold gE; rw [if_neg (by rw [hc]; simp), if_pos (.inl t0)]) (by decide) he hb
    by_cases t1 : 1099511627776 < now
    · exact (g_tick1 c now A B n m a b w hn hm (Lib.hid hc) t1).mono fun e w' ⟨he, hb⟩ => gv_err (by unfold gE; rw [if_neg (by rw [hc]; simp), if_pos (.inr t1)]) (by decide) he hb
    by_cases s0 : 64 < n
    · exact (g_size0 c now A B n m a b w hn hm (Lib.hid hc) (by omega) (by omega) s0).mono fun e w' ⟨he, hb⟩ => gv_err (by unfold gE; rw [if_neg (by rw [hc]; simp), if_neg (by omega), if_pos (.inl s0)]) (by decide) he hb
    by_cases s1 : 64 < m
    · exact (g_size1 c now A B n m a b w hn hm (Lib.hid hc) (by omega) (by omega) (by omega) s1).mono fun e w' ⟨he, hb⟩ => gv_err (by unfold gE; rw [if_neg (by rw [hc]; simp), if_neg (by omega), if_pos (.inr s1)]) (by decide) he hb
    exact (g_main c now xs ys A B n m a b w hx hy wx.out wy.out (Lib.hid hc) (by omega) (by omega) (by omega) (by omega)).mono fun e w' h => gv_of hc (by omega) (by omega) (by omega) (by omega) h
  · exact (g_cfg c now A B n m a b w hn hm (Lib.hid hc)).mono fun e w' ⟨he, hb⟩ => gv_err (by unfold gE; rw [if_pos (by rw [hc]; decide)]) (by decide) he hb
end
end Go.Proofs.YtkpdomnmlinomabGreat.GrV
