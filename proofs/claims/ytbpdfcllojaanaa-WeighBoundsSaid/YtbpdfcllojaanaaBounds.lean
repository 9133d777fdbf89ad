/- WeighBounds: graphs of no edge, of one, of two. -/
import Derived.Test.YtbpdfcllojaanaaAliveW
import Derived.Test.YtbpdfcllojaanaaTypes2
namespace Go.Proofs.Ytbpdfcllojaanaa.Bounds
open Go.RowKit Go.Proofs.Ytbpdfcllojaanaa.Aid Go.Proofs.Ytbpdfcllojaanaa.Mem Go.Proofs.Ytbpdfcllojaanaa.Types Go.Proofs.Ytbpdfcllojaanaa.Keep Go.Proofs.Ytbpdfcllojaanaa.Recs Go.Proofs.Ytbpdfcllojaanaa.AliveW Go.Proofs.Ytbpdfcllojaanaa.Check Go.Proofs.Ytbpdfcllojaanaa.Has
set_option linter.unusedSimpArgs false
set_option linter.unusedVariables false
set_option maxRecDepth 100000
attribute [local go_sem ↓] Check.load_edg
abbrev fe (t : Edges2) : Edg := ⟨t.a_r, t.a_c, t.a_w⟩
abbrev se (t : Edges2) : Edg := ⟨t.b_r, t.b_c, t.b_w⟩
abbrev ta (t : Edges2) : Array Value := #[.int .i64 t.a_r, .int .i64 t.a_c, .int .i64 t.a_w, .int .i64 t.b_r, .int .i64 t.b_c, .int .i64 t.b_w]
def sizeB (R C : Int) : Bool := decide (0 ≤ R ∧ R ≤ 64 ∧ 0 ≤ C ∧ C ≤ 64)
def oneB (R C : Int) (x : Edg) : Bool := sizeB R C && decide (eOk R C x)
def twoB (R C : Int) (x y : Edg) : Bool := oneB R C x && (decide (eOk R C y) && decide (aft x y))
theorem ret_b {a b : Bool} (h : a = b) : Ending.returned (.bool a) = Ending.returned (.bool b) := by rw [h]
theorem within_c (x : Edg) (R C : Int) (w : World) : Calls Try.prog 24 #[.agg #[.int .i64 x.r, .int .i64 x.c, .int .i64 x.w], .int .i64 R, .int .i64 C] w fun e w' => e = .returned (.bool (decide (eOk R C x))) ∧ Below w.heap.size w w' := by
  by_cases h : eOk R C x
  · rw [decide_eq_true h]
    obtain ⟨h1, h2, h3, h4, h5, h6⟩ := h
    go_enter Try.func24, Try.ntmps24
    go_wp2
    go_ret
    exact ⟨rfl, alloc_below _ _⟩
  · rw [decide_eq_false h]
    unfold eOk at h
    by_cases c1 : x.r < 0
    · clear h
      go_enter Try.func24, Try.ntmps24
      go_wp2
      go_ret
      exact ⟨rfl, alloc_below _ _⟩
    · by_cases c2 : R ≤ x.r
      · clear h
        go_enter Try.func24, Try.ntmps24
        go_wp2
        go_ret
        exact ⟨rfl, alloc_below _ _⟩
      · by_cases c3 : x.c < 0
        · clear h
          go_enter Try.func24, Try.ntmps24
          go_wp2
          go_ret
          exact ⟨rfl, alloc_below _ _⟩
        · by_cases c4 : C ≤ x.c
          · clear h
            go_enter Try.func24, Try.ntmps24
            go_wp2
            go_ret
            exact ⟨rfl, alloc_below _ _⟩
          · by_cases c5 : x.w < 1
            · clear h
              go_enter Try.func24, Try.ntmps24
              go_wp2
              go_ret
              exact ⟨rfl, alloc_below _ _⟩
            · have c6 : 1099513724929 < x.w := by omega
              clear h
              have c7 : decide (x.w ≤ 1099513724929) = false := decide_eq_false (by omega)
              go_enter Try.func24, Try.ntmps24
              go_wp2
              go_ret
              exact ⟨ret_b (by first | rfl | exact c7 | simp [c7]), alloc_below _ _⟩
theorem within_v (x : Edg) (R C : Int) (w : World) (b : Bool) (h : Hid (decide (eOk R C x) = b)) : Calls Try.prog 24 #[.agg #[.int .i64 x.r, .int .i64 x.c, .int .i64 x.w], .int .i64 R, .int .i64 C] w fun e w' => e = .returned (.bool b) ∧ Below w.heap.size w w' := by
  have := within_c x R C w
  rwa [h.out] at this
theorem is_c (e : Int) (b : Bool) (w : World) (h : e = if b = true then 0 else 170) : Calls Try.prog 25 #[.int .i64 e, .bool b] w fun r w' => r = .returned (.bool true) ∧ w = w' := by
  subst h
  cases b <;> (go_enter Try.func25, Try.ntmps25; go_wp2; go_ret; exact ⟨rfl, rfl⟩)
theorem g0 (R C : Int) : gErr R C [] = if sizeB R C = true then 0 else 170 := by
  unfold gErr gOk sizeB; simp [okF]
theorem aft0 {R C : Int} {x : Edg} (h : eOk R C x) : aft e0 x := by
  obtain ⟨h1, h2, h3, h4, h5, h6⟩ := h
  unfold aft e0; simp only; omega
theorem g1 (R C : Int) (x : Edg) : gErr R C [x] = if oneB R C x = true then 0 else 170 := by
  unfold gErr gOk oneB sizeB
  congr 1
  simp only [okF, Bool.and_true, eq_iff_iff, Bool.and_eq_true, decide_eq_true_eq]
  exact ⟨fun h => ⟨h.1, h.2.1⟩, fun h => ⟨h.1, h.2, aft0 h.2⟩⟩
theorem g2 (R C : Int) (x y : Edg) : gErr R C [x, y] = if twoB R C x y = true then 0 else 170 := by
  unfold gErr gOk twoB oneB sizeB
  congr 1
  simp only [okF, Bool.and_true, eq_iff_iff, Bool.and_eq_true, decide_eq_true_eq]
  exact ⟨fun h => ⟨⟨h.1, h.2.1.1⟩, h.2.2⟩, fun h => ⟨h.1.1, ⟨h.1.2, aft0 h.1.2⟩, h.2⟩⟩
theorem chk0 (R C : Int) (w : World) (v : Int) (h : Hid (gErr R C [] = v)) : Calls Try.prog 12 #[.agg #[.int .i64 R, .int .i64 C, .slice none 0 0]] w fun e w' => e = .returned (.int .i64 v) ∧ Below w.heap.size w w' := by
  have := check_c R C [] none 0 0 w Recs.nil (by decide)
  rwa [h.out] at this
theorem chk1 (R C : Int) (x : Edg) (w : World) (G : Nat) (hG : w.heap.size = G) (v : Int) (h : Hid (gErr R C [x] = v)) : Calls Try.prog 12 #[.agg #[.int .i64 R, .int .i64 C, .slice (some ⟨G, 0, none⟩) 1 1]] (w.alloc (.cells #[.int .i64 x.r, .int .i64 x.c, .int .i64 x.w] 26)) fun e w' => e = .returned (.int .i64 v) ∧ Below (w.alloc (.cells #[.int .i64 x.r, .int .i64 x.c, .int .i64 x.w] 26)).heap.size (w.alloc (.cells #[.int .i64 x.r, .int .i64 x.c, .int .i64 x.w] 26)) w' := by
  subst hG
  have := check_c R C [x] _ 1 1 _ (Recs.of_blk (r := []) (xs := [x].map Edg.list) (by intro l hl; simp at hl; subst hl; rfl) (Blk.new w 26 x.list)) (by decide)
  rwa [h.out] at this
theorem chk2 (R C : Int) (x y : Edg) (w : World) (G : Nat) (hG : w.heap.size = G) (v : Int) (h : Hid (gErr R C [x, y] = v)) : Calls Try.prog 12 #[.agg #[.int .i64 R, .int .i64 C, .slice (some ⟨G, 0, none⟩) 2 2]] (w.alloc (.cells #[.int .i64 x.r, .int .i64 x.c, .int .i64 x.w, .int .i64 y.r, .int .i64 y.c, .int .i64 y.w] 26)) fun e w' => e = .returned (.int .i64 v) ∧ Below (w.alloc (.cells #[.int .i64 x.r, .int .i64 x.c, .int .i64 x.w, .int .i64 y.r, .int .i64 y.c, .int .i64 y.w] 26)).heap.size (w.alloc (.cells #[.int .i64 x.r, .int .i64 x.c, .int .i64 x.w, .int .i64 y.r, .int .i64 y.c, .int .i64 y.w] 26)) w' := by
  subst hG
  have := check_c R C [x, y] _ 2 2 _ (Recs.of_blk (r := []) (xs := [x, y].map Edg.list) (by intro l hl; simp at hl; rcases hl with rfl | rfl <;> rfl) (Blk.new w 26 (x.list ++ y.list))) (by decide)
  rwa [h.out] at this
/-- The parameter that is boxed. -/
def KB (w0 W : World) (t : Edges2) : Prop := Has w0 [(w0.heap.size, 68, (ta t).toList)] W
section
variable {w0 w w' : World} {t : Edges2}
theorem KB.start (w : World) (t : Edges2) : KB w (w.alloc (.cells (ta t) 68)) t := (Has.nil w).new 68 (ta t).toList
theorem KB.keep (h : KB w0 w t) (hb : Below w.heap.size w w') : KB w0 w' t := Has.keep h hb
theorem KB.la (h : KB w0 w t) : (LA 26 (.pointer (some ⟨w0.heap.size, 0, none⟩))).run Try.prog w = .ok (.agg #[.int .i64 t.a_r, .int .i64 t.a_c, .int .i64 t.a_w]) w :=
  Has.load (t' := 68) (l := [.int .i64 t.a_r, .int .i64 t.a_c, .int .i64 t.a_w]) (s := [.int .i64 t.b_r, .int .i64 t.b_c, .int .i64 t.b_w]) h Try.underlying26 rfl (by show _ = some 3; kernel_rfl) (by simp)
theorem KB.cell (h : KB w0 w t) (i : Nat) : w.cell? ⟨w0.heap.size, i, none⟩ = (ta t).toList[i]? := Has.cell h (t := 68) (l := (ta t).toList) (by simp) i
theorem KB.lb (h : KB w0 w t) : (LA 26 (.pointer (some ⟨w0.heap.size, 3, none⟩))).run Try.prog w = .ok (.agg #[.int .i64 t.b_r, .int .i64 t.b_c, .int .i64 t.b_w]) w :=
  loads_at (l := [.int .i64 t.b_r, .int .i64 t.b_c, .int .i64 t.b_w]) (s := []) Try.underlying26 rfl (by show _ = some 3; kernel_rfl) (fun i v hv => by
    rw [Addr.add_mid]
    refine (h.cell (3 + i)).trans ?_
    match i with
    | 0 => simpa using hv
    | 1 => simpa using hv
    | 2 => simpa using hv
    | i + 3 => simp at hv)
theorem KB.a0 (h : KB w0 w t) : w.cell? ⟨w0.heap.size, 0, none⟩ = some (.int .i64 t.a_r) := h.cell 0
theorem KB.a1 (h : KB w0 w t) : w.cell? ⟨w0.heap.size, 1, none⟩ = some (.int .i64 t.a_c) := h.cell 1
theorem KB.b0 (h : KB w0 w t) : w.cell? ⟨w0.heap.size, 3, none⟩ = some (.int .i64 t.b_r) := h.cell 3
theorem KB.b1 (h : KB w0 w t) : w.cell? ⟨w0.heap.size, 4, none⟩ = some (.int .i64 t.b_c) := h.cell 4
theorem KB.bel (h : KB w0 w t) : Below w0.heap.size w0 w := Has.bel h
end
theorem is_true (e : Int) (w : World) (h : Hid (e = 0)) : Calls Try.prog 25 #[.int .i64 e, .bool true] w fun r w' => r = .returned (.bool true) ∧ w = w' := is_c e true w h.out
theorem is_false (e : Int) (w : World) (h : Hid (e = 170)) : Calls Try.prog 25 #[.int .i64 e, .bool false] w fun r w' => r = .returned (.bool true) ∧ w = w' := is_c e false w h.out
set_option maxHeartbeats 16000000 in
theorem b0 (R C : Int) (t : Edges2) (w : World) (a b d : Int) (hs : R < 0) (HA : Hid (gErr R C [] = a)) (HB : Hid (gErr R C [fe t] = b)) (HD : Hid (gErr R C [fe t, se t] = d)) (H1 : Hid (a = 170)) (H2 : Hid (b = 170)) (H3 : Hid (d = 170)) :
    Calls Try.prog 9 #[.int .i64 R, .int .i64 C, t.val] w fun e w' => e = .returned (.bool true) ∧ Below w.heap.size w w' := by
  have k := KB.start w t
  have la := k.la
  have lb := k.lb
  have q1 := k.a0
  have q2 := k.a1
  have q3 := k.b0
  have q4 := k.b1
  go_enter Try.func9, Try.ntmps9
  go_wp2_with (first | (go_at_call 17; with_reducible refine (alive_c _).mono ?_; rintro r w2 ⟨rfl, hb⟩; replace k := KB.keep k hb; replace la := KB.la k; replace lb := KB.lb k; replace q1 := KB.a0 k; replace q2 := KB.a1 k; replace q3 := KB.b0 k; replace q4 := KB.b1 k; clear hb) | (go_at_call 12; with_reducible refine (chk0 R C _ a HA).mono ?_; rintro r w3 ⟨rfl, hb⟩; replace k := KB.keep k hb; replace la := KB.la k; replace lb := KB.lb k; replace q1 := KB.a0 k; replace q2 := KB.a1 k; replace q3 := KB.b0 k; replace q4 := KB.b1 k; clear hb; have k3 := KB.keep k (alloc_below _ (.cells #[.int .i64 t.a_r, .int .i64 t.a_c, .int .i64 t.a_w] 26))) | (go_at_call 12; with_reducible refine (chk1 R C (fe t) _ _ rfl b HB).mono ?_; rintro r w4 ⟨rfl, hb⟩; replace k := KB.keep k3 hb; clear k3; replace la := KB.la k; replace lb := KB.lb k; have k4 := KB.keep k (alloc_below _ (.cells #[.int .i64 t.a_r, .int .i64 t.a_c, .int .i64 t.a_w, .int .i64 t.b_r, .int .i64 t.b_c, .int .i64 t.b_w] 26)); clear hb) | (go_at_call 12; with_reducible refine (chk2 R C (fe t) (se t) _ _ rfl d HD).mono ?_; rintro r w5 ⟨rfl, hb⟩; replace k := KB.keep k4 hb; clear hb k4) | (go_at_call 25; (with_reducible refine (is_false a _ H1).mono ?_); rintro e w' ⟨rfl, rfl⟩) | (go_at_call 25; (with_reducible refine (is_false b _ H2).mono ?_); rintro e w' ⟨rfl, rfl⟩) | (go_at_call 25; (with_reducible refine (is_false d _ H3).mono ?_); rintro e w' ⟨rfl, rfl⟩))
  go_ret
  exact ⟨rfl, KB.bel k⟩
set_option maxHeartbeats 16000000 in
theorem b1 (R C : Int) (t : Edges2) (w : World) (a b d : Int) (hs0 : 0 ≤ R) (hs : 64 < R) (HA : Hid (gErr R C [] = a)) (HB : Hid (gErr R C [fe t] = b)) (HD : Hid (gErr R C [fe t, se t] = d)) (H1 : Hid (a = 170)) (H2 : Hid (b = 170)) (H3 : Hid (d = 170)) :
    Calls Try.prog 9 #[.int .i64 R, .int .i64 C, t.val] w fun e w' => e = .returned (.bool true) ∧ Below w.heap.size w w' := by
  have k := KB.start w t
  have la := k.la
  have lb := k.lb
  have q1 := k.a0
  have q2 := k.a1
  have q3 := k.b0
  have q4 := k.b1
  go_enter Try.func9, Try.ntmps9
  go_wp2_with (first | (go_at_call 17; with_reducible refine (alive_c _).mono ?_; rintro r w2 ⟨rfl, hb⟩; replace k := KB.keep k hb; replace la := KB.la k; replace lb := KB.lb k; replace q1 := KB.a0 k; replace q2 := KB.a1 k; replace q3 := KB.b0 k; replace q4 := KB.b1 k; clear hb) | (go_at_call 12; with_reducible refine (chk0 R C _ a HA).mono ?_; rintro r w3 ⟨rfl, hb⟩; replace k := KB.keep k hb; replace la := KB.la k; replace lb := KB.lb k; replace q1 := KB.a0 k; replace q2 := KB.a1 k; replace q3 := KB.b0 k; replace q4 := KB.b1 k; clear hb; have k3 := KB.keep k (alloc_below _ (.cells #[.int .i64 t.a_r, .int .i64 t.a_c, .int .i64 t.a_w] 26))) | (go_at_call 12; with_reducible refine (chk1 R C (fe t) _ _ rfl b HB).mono ?_; rintro r w4 ⟨rfl, hb⟩; replace k := KB.keep k3 hb; clear k3; replace la := KB.la k; replace lb := KB.lb k; have k4 := KB.keep k (alloc_below _ (.cells #[.int .i64 t.a_r, .int .i64 t.a_c, .int .i64 t.a_w, .int .i64 t.b_r, .int .i64 t.b_c, .int .i64 t.b_w] 26)); clear hb) | (go_at_call 12; with_reducible refine (chk2 R C (fe t) (se t) _ _ rfl d HD).mono ?_; rintro r w5 ⟨rfl, hb⟩; replace k := KB.keep k4 hb; clear hb k4) | (go_at_call 25; (with_reducible refine (is_false a _ H1).mono ?_); rintro e w' ⟨rfl, rfl⟩) | (go_at_call 25; (with_reducible refine (is_false b _ H2).mono ?_); rintro e w' ⟨rfl, rfl⟩) | (go_at_call 25; (with_reducible refine (is_false d _ H3).mono ?_); rintro e w' ⟨rfl, rfl⟩))
  go_ret
  exact ⟨rfl, KB.bel k⟩
set_option maxHeartbeats 16000000 in
theorem b2 (R C : Int) (t : Edges2) (w : World) (a b d : Int) (hs0 : 0 ≤ R) (hs1 : R ≤ 64) (hs : C < 0) (HA : Hid (gErr R C [] = a)) (HB : Hid (gErr R C [fe t] = b)) (HD : Hid (gErr R C [fe t, se t] = d)) (H1 : Hid (a = 170)) (H2 : Hid (b = 170)) (H3 : Hid (d = 170)) :
    Calls Try.prog 9 #[.int .i64 R, .int .i64 C, t.val] w fun e w' => e = .returned (.bool true) ∧ Below w.heap.size w w' := by
  have k := KB.start w t
  have la := k.la
  have lb := k.lb
  have q1 := k.a0
  have q2 := k.a1
  have q3 := k.b0
  have q4 := k.b1
  go_enter Try.func9, Try.ntmps9
  go_wp2_with (first | (go_at_call 17; with_reducible refine (alive_c _).mono ?_; rintro r w2 ⟨rfl, hb⟩; replace k := KB.keep k hb; replace la := KB.la k; replace lb := KB.lb k; replace q1 := KB.a0 k; replace q2 := KB.a1 k; replace q3 := KB.b0 k; replace q4 := KB.b1 k; clear hb) | (go_at_call 12; with_reducible refine (chk0 R C _ a HA).mono ?_; rintro r w3 ⟨rfl, hb⟩; replace k := KB.keep k hb; replace la := KB.la k; replace lb := KB.lb k; replace q1 := KB.a0 k; replace q2 := KB.a1 k; replace q3 := KB.b0 k; replace q4 := KB.b1 k; clear hb; have k3 := KB.keep k (alloc_below _ (.cells #[.int .i64 t.a_r, .int .i64 t.a_c, .int .i64 t.a_w] 26))) | (go_at_call 12; with_reducible refine (chk1 R C (fe t) _ _ rfl b HB).mono ?_; rintro r w4 ⟨rfl, hb⟩; replace k := KB.keep k3 hb; clear k3; replace la := KB.la k; replace lb := KB.lb k; have k4 := KB.keep k (alloc_below _ (.cells #[.int .i64 t.a_r, .int .i64 t.a_c, .int .i64 t.a_w, .int .i64 t.b_r, .int .i64 t.b_c, .int .i64 t.b_w] 26)); clear hb) | (go_at_call 12; with_reducible refine (chk2 R C (fe t) (se t) _ _ rfl d HD).mono ?_; rintro r w5 ⟨rfl, hb⟩; replace k := KB.keep k4 hb; clear hb k4) | (go_at_call 25; (with_reducible refine (is_false a _ H1).mono ?_); rintro e w' ⟨rfl, rfl⟩) | (go_at_call 25; (with_reducible refine (is_false b _ H2).mono ?_); rintro e w' ⟨rfl, rfl⟩) | (go_at_call 25; (with_reducible refine (is_false d _ H3).mono ?_); rintro e w' ⟨rfl, rfl⟩))
  go_ret
  exact ⟨rfl, KB.bel k⟩
set_option maxHeartbeats 16000000 in
theorem b3 (R C : Int) (t : Edges2) (w : World) (a b d : Int) (hs0 : 0 ≤ R) (hs1 : R ≤ 64) (hs2 : 0 ≤ C) (hs : 64 < C) (HA : Hid (gErr R C [] = a)) (HB : Hid (gErr R C [fe t] = b)) (HD : Hid (gErr R C [fe t, se t] = d)) (H1 : Hid (a = 170)) (H2 : Hid (b = 170)) (H3 : Hid (d = 170)) :
    Calls Try.prog 9 #[.int .i64 R, .int .i64 C, t.val] w fun e w' => e = .returned (.bool true) ∧ Below w.heap.size w w' := by
  have k := KB.start w t
  have la := k.la
  have lb := k.lb
  have q1 := k.a0
  have q2 := k.a1
  have q3 := k.b0
  have q4 := k.b1
  go_enter Try.func9, Try.ntmps9
  go_wp2_with (first | (go_at_call 17; with_reducible refine (alive_c _).mono ?_; rintro r w2 ⟨rfl, hb⟩; replace k := KB.keep k hb; replace la := KB.la k; replace lb := KB.lb k; replace q1 := KB.a0 k; replace q2 := KB.a1 k; replace q3 := KB.b0 k; replace q4 := KB.b1 k; clear hb) | (go_at_call 12; with_reducible refine (chk0 R C _ a HA).mono ?_; rintro r w3 ⟨rfl, hb⟩; replace k := KB.keep k hb; replace la := KB.la k; replace lb := KB.lb k; replace q1 := KB.a0 k; replace q2 := KB.a1 k; replace q3 := KB.b0 k; replace q4 := KB.b1 k; clear hb; have k3 := KB.keep k (alloc_below _ (.cells #[.int .i64 t.a_r, .int .i64 t.a_c, .int .i64 t.a_w] 26))) | (go_at_call 12; with_reducible refine (chk1 R C (fe t) _ _ rfl b HB).mono ?_; rintro r w4 ⟨rfl, hb⟩; replace k := KB.keep k3 hb; clear k3; replace la := KB.la k; replace lb := KB.lb k; have k4 := KB.keep k (alloc_below _ (.cells #[.int .i64 t.a_r, .int .i64 t.a_c, .int .i64 t.a_w, .int .i64 t.b_r, .int .i64 t.b_c, .int .i64 t.b_w] 26)); clear hb) | (go_at_call 12; with_reducible refine (chk2 R C (fe t) (se t) _ _ rfl d HD).mono ?_; rintro r w5 ⟨rfl, hb⟩; replace k := KB.keep k4 hb; clear hb k4) | (go_at_call 25; (with_reducible refine (is_false a _ H1).mono ?_); rintro e w' ⟨rfl, rfl⟩) | (go_at_call 25; (with_reducible refine (is_false b _ H2).mono ?_); rintro e w' ⟨rfl, rfl⟩) | (go_at_call 25; (with_reducible refine (is_false d _ H3).mono ?_); rintro e w' ⟨rfl, rfl⟩))
  go_ret
  exact ⟨rfl, KB.bel k⟩
set_option maxHeartbeats 16000000 in
theorem b4 (R C : Int) (t : Edges2) (w : World) (a b d : Int) (s1 : 0 ≤ R) (s2 : R ≤ 64) (s3 : 0 ≤ C) (s4 : C ≤ 64) (HWA : Hid (decide (eOk R C (fe t)) = false)) (HA : Hid (gErr R C [] = a)) (HB : Hid (gErr R C [fe t] = b)) (HD : Hid (gErr R C [fe t, se t] = d)) (H1 : Hid (a = 0)) (H2 : Hid (b = 170)) (H3 : Hid (d = 170)) :
    Calls Try.prog 9 #[.int .i64 R, .int .i64 C, t.val] w fun e w' => e = .returned (.bool true) ∧ Below w.heap.size w w' := by
  have k := KB.start w t
  have la := k.la
  have lb := k.lb
  have q1 := k.a0
  have q2 := k.a1
  have q3 := k.b0
  have q4 := k.b1
  go_enter Try.func9, Try.ntmps9
  go_wp2_with (first | (go_at_call 17; with_reducible refine (alive_c _).mono ?_; rintro r w2 ⟨rfl, hb⟩; replace k := KB.keep k hb; replace la := KB.la k; replace lb := KB.lb k; replace q1 := KB.a0 k; replace q2 := KB.a1 k; replace q3 := KB.b0 k; replace q4 := KB.b1 k; clear hb) | (go_at_call 24; with_reducible refine (within_v (fe t) R C _ false HWA).mono ?_; rintro r w6 ⟨rfl, hb⟩; replace k := KB.keep k hb; replace la := KB.la k; replace lb := KB.lb k; replace q1 := KB.a0 k; replace q2 := KB.a1 k; replace q3 := KB.b0 k; replace q4 := KB.b1 k; clear hb)  | (go_at_call 12; with_reducible refine (chk0 R C _ a HA).mono ?_; rintro r w3 ⟨rfl, hb⟩; replace k := KB.keep k hb; replace la := KB.la k; replace lb := KB.lb k; replace q1 := KB.a0 k; replace q2 := KB.a1 k; replace q3 := KB.b0 k; replace q4 := KB.b1 k; clear hb; have k3 := KB.keep k (alloc_below _ (.cells #[.int .i64 t.a_r, .int .i64 t.a_c, .int .i64 t.a_w] 26))) | (go_at_call 12; with_reducible refine (chk1 R C (fe t) _ _ rfl b HB).mono ?_; rintro r w4 ⟨rfl, hb⟩; replace k := KB.keep k3 hb; clear k3; replace la := KB.la k; replace lb := KB.lb k; have k4 := KB.keep k (alloc_below _ (.cells #[.int .i64 t.a_r, .int .i64 t.a_c, .int .i64 t.a_w, .int .i64 t.b_r, .int .i64 t.b_c, .int .i64 t.b_w] 26)); clear hb) | (go_at_call 12; with_reducible refine (chk2 R C (fe t) (se t) _ _ rfl d HD).mono ?_; rintro r w5 ⟨rfl, hb⟩; replace k := KB.keep k4 hb; clear hb k4) | (go_at_call 25; (with_reducible refine (is_true a _ H1).mono ?_); rintro e w' ⟨rfl, rfl⟩) | (go_at_call 25; (with_reducible refine (is_false b _ H2).mono ?_); rintro e w' ⟨rfl, rfl⟩) | (go_at_call 25; (with_reducible refine (is_false d _ H3).mono ?_); rintro e w' ⟨rfl, rfl⟩))
  go_ret
  exact ⟨rfl, KB.bel k⟩
set_option maxHeartbeats 16000000 in
theorem b5 (R C : Int) (t : Edges2) (w : World) (a b d : Int) (s1 : 0 ≤ R) (s2 : R ≤ 64) (s3 : 0 ≤ C) (s4 : C ≤ 64) (HWA : Hid (decide (eOk R C (fe t)) = true)) (HWB : Hid (decide (eOk R C (se t)) = false)) (HA : Hid (gErr R C [] = a)) (HB : Hid (gErr R C [fe t] = b)) (HD : Hid (gErr R C [fe t, se t] = d)) (H1 : Hid (a = 0)) (H2 : Hid (b = 0)) (H3 : Hid (d = 170)) :
    Calls Try.prog 9 #[.int .i64 R, .int .i64 C, t.val] w fun e w' => e = .returned (.bool true) ∧ Below w.heap.size w w' := by
  have k := KB.start w t
  have la := k.la
  have lb := k.lb
  have q1 := k.a0
  have q2 := k.a1
  have q3 := k.b0
  have q4 := k.b1
  go_enter Try.func9, Try.ntmps9
  go_wp2_with (first | (go_at_call 17; with_reducible refine (alive_c _).mono ?_; rintro r w2 ⟨rfl, hb⟩; replace k := KB.keep k hb; replace la := KB.la k; replace lb := KB.lb k; replace q1 := KB.a0 k; replace q2 := KB.a1 k; replace q3 := KB.b0 k; replace q4 := KB.b1 k; clear hb) | (go_at_call 24; with_reducible refine (within_v (fe t) R C _ true HWA).mono ?_; rintro r w6 ⟨rfl, hb⟩; replace k := KB.keep k hb; replace la := KB.la k; replace lb := KB.lb k; replace q1 := KB.a0 k; replace q2 := KB.a1 k; replace q3 := KB.b0 k; replace q4 := KB.b1 k; clear hb) | (go_at_call 24; with_reducible refine (within_v (se t) R C _ false HWB).mono ?_; rintro r w6 ⟨rfl, hb⟩; replace k := KB.keep k hb; replace la := KB.la k; replace lb := KB.lb k; replace q1 := KB.a0 k; replace q2 := KB.a1 k; replace q3 := KB.b0 k; replace q4 := KB.b1 k; clear hb) | (go_at_call 12; with_reducible refine (chk0 R C _ a HA).mono ?_; rintro r w3 ⟨rfl, hb⟩; replace k := KB.keep k hb; replace la := KB.la k; replace lb := KB.lb k; replace q1 := KB.a0 k; replace q2 := KB.a1 k; replace q3 := KB.b0 k; replace q4 := KB.b1 k; clear hb; have k3 := KB.keep k (alloc_below _ (.cells #[.int .i64 t.a_r, .int .i64 t.a_c, .int .i64 t.a_w] 26))) | (go_at_call 12; with_reducible refine (chk1 R C (fe t) _ _ rfl b HB).mono ?_; rintro r w4 ⟨rfl, hb⟩; replace k := KB.keep k3 hb; clear k3; replace la := KB.la k; replace lb := KB.lb k; have k4 := KB.keep k (alloc_below _ (.cells #[.int .i64 t.a_r, .int .i64 t.a_c, .int .i64 t.a_w, .int .i64 t.b_r, .int .i64 t.b_c, .int .i64 t.b_w] 26)); clear hb) | (go_at_call 12; with_reducible refine (chk2 R C (fe t) (se t) _ _ rfl d HD).mono ?_; rintro r w5 ⟨rfl, hb⟩; replace k := KB.keep k4 hb; clear hb k4) | (go_at_call 25; (with_reducible refine (is_true a _ H1).mono ?_); rintro e w' ⟨rfl, rfl⟩) | (go_at_call 25; (with_reducible refine (is_true b _ H2).mono ?_); rintro e w' ⟨rfl, rfl⟩) | (go_at_call 25; (with_reducible refine (is_false d _ H3).mono ?_); rintro e w' ⟨rfl, rfl⟩))
  go_ret
  exact ⟨rfl, KB.bel k⟩
set_option maxHeartbeats 16000000 in
theorem b6 (R C : Int) (t : Edges2) (w : World) (a b d : Int) (s1 : 0 ≤ R) (s2 : R ≤ 64) (s3 : 0 ≤ C) (s4 : C ≤ 64) (HWA : Hid (decide (eOk R C (fe t)) = true)) (HWB : Hid (decide (eOk R C (se t)) = true)) (hl : t.a_r < t.b_r) (HA : Hid (gErr R C [] = a)) (HB : Hid (gErr R C [fe t] = b)) (HD : Hid (gErr R C [fe t, se t] = d)) (H1 : Hid (a = 0)) (H2 : Hid (b = 0)) (H3 : Hid (d = 0)) :
    Calls Try.prog 9 #[.int .i64 R, .int .i64 C, t.val] w fun e w' => e = .returned (.bool true) ∧ Below w.heap.size w w' := by
  have k := KB.start w t
  have la := k.la
  have lb := k.lb
  have q1 := k.a0
  have q2 := k.a1
  have q3 := k.b0
  have q4 := k.b1
  go_enter Try.func9, Try.ntmps9
  go_wp2_with (first | (go_at_call 17; with_reducible refine (alive_c _).mono ?_; rintro r w2 ⟨rfl, hb⟩; replace k := KB.keep k hb; replace la := KB.la k; replace lb := KB.lb k; replace q1 := KB.a0 k; replace q2 := KB.a1 k; replace q3 := KB.b0 k; replace q4 := KB.b1 k; clear hb) | (go_at_call 24; with_reducible refine (within_v (fe t) R C _ true HWA).mono ?_; rintro r w6 ⟨rfl, hb⟩; replace k := KB.keep k hb; replace la := KB.la k; replace lb := KB.lb k; replace q1 := KB.a0 k; replace q2 := KB.a1 k; replace q3 := KB.b0 k; replace q4 := KB.b1 k; clear hb) | (go_at_call 24; with_reducible refine (within_v (se t) R C _ true HWB).mono ?_; rintro r w6 ⟨rfl, hb⟩; replace k := KB.keep k hb; replace la := KB.la k; replace lb := KB.lb k; replace q1 := KB.a0 k; replace q2 := KB.a1 k; replace q3 := KB.b0 k; replace q4 := KB.b1 k; clear hb) | (go_at_call 12; with_reducible refine (chk0 R C _ a HA).mono ?_; rintro r w3 ⟨rfl, hb⟩; replace k := KB.keep k hb; replace la := KB.la k; replace lb := KB.lb k; replace q1 := KB.a0 k; replace q2 := KB.a1 k; replace q3 := KB.b0 k; replace q4 := KB.b1 k; clear hb; have k3 := KB.keep k (alloc_below _ (.cells #[.int .i64 t.a_r, .int .i64 t.a_c, .int .i64 t.a_w] 26))) | (go_at_call 12; with_reducible refine (chk1 R C (fe t) _ _ rfl b HB).mono ?_; rintro r w4 ⟨rfl, hb⟩; replace k := KB.keep k3 hb; clear k3; replace la := KB.la k; replace lb := KB.lb k; have k4 := KB.keep k (alloc_below _ (.cells #[.int .i64 t.a_r, .int .i64 t.a_c, .int .i64 t.a_w, .int .i64 t.b_r, .int .i64 t.b_c, .int .i64 t.b_w] 26)); clear hb) | (go_at_call 12; with_reducible refine (chk2 R C (fe t) (se t) _ _ rfl d HD).mono ?_; rintro r w5 ⟨rfl, hb⟩; replace k := KB.keep k4 hb; clear hb k4) | (go_at_call 25; (with_reducible refine (is_true a _ H1).mono ?_); rintro e w' ⟨rfl, rfl⟩) | (go_at_call 25; (with_reducible refine (is_true b _ H2).mono ?_); rintro e w' ⟨rfl, rfl⟩) | (go_at_call 25; (with_reducible refine (is_true d _ H3).mono ?_); rintro e w' ⟨rfl, rfl⟩))
  go_ret
  exact ⟨rfl, KB.bel k⟩
set_option maxHeartbeats 16000000 in
theorem b7 (R C : Int) (t : Edges2) (w : World) (a b d : Int) (s1 : 0 ≤ R) (s2 : R ≤ 64) (s3 : 0 ≤ C) (s4 : C ≤ 64) (HWA : Hid (decide (eOk R C (fe t)) = true)) (HWB : Hid (decide (eOk R C (se t)) = true)) (hl : (t.a_r == t.b_r) = true) (hl0 : t.b_r ≤ t.a_r) (hl2 : t.a_c < t.b_c) (HA : Hid (gErr R C [] = a)) (HB : Hid (gErr R C [fe t] = b)) (HD : Hid (gErr R C [fe t, se t] = d)) (H1 : Hid (a = 0)) (H2 : Hid (b = 0)) (H3 : Hid (d = 0)) :
    Calls Try.prog 9 #[.int .i64 R, .int .i64 C, t.val] w fun e w' => e = .returned (.bool true) ∧ Below w.heap.size w w' := by
  have k := KB.start w t
  have la := k.la
  have lb := k.lb
  have q1 := k.a0
  have q2 := k.a1
  have q3 := k.b0
  have q4 := k.b1
  go_enter Try.func9, Try.ntmps9
  go_wp2_with (first | (go_at_call 17; with_reducible refine (alive_c _).mono ?_; rintro r w2 ⟨rfl, hb⟩; replace k := KB.keep k hb; replace la := KB.la k; replace lb := KB.lb k; replace q1 := KB.a0 k; replace q2 := KB.a1 k; replace q3 := KB.b0 k; replace q4 := KB.b1 k; clear hb) | (go_at_call 24; with_reducible refine (within_v (fe t) R C _ true HWA).mono ?_; rintro r w6 ⟨rfl, hb⟩; replace k := KB.keep k hb; replace la := KB.la k; replace lb := KB.lb k; replace q1 := KB.a0 k; replace q2 := KB.a1 k; replace q3 := KB.b0 k; replace q4 := KB.b1 k; clear hb) | (go_at_call 24; with_reducible refine (within_v (se t) R C _ true HWB).mono ?_; rintro r w6 ⟨rfl, hb⟩; replace k := KB.keep k hb; replace la := KB.la k; replace lb := KB.lb k; replace q1 := KB.a0 k; replace q2 := KB.a1 k; replace q3 := KB.b0 k; replace q4 := KB.b1 k; clear hb) | (go_at_call 12; with_reducible refine (chk0 R C _ a HA).mono ?_; rintro r w3 ⟨rfl, hb⟩; replace k := KB.keep k hb; replace la := KB.la k; replace lb := KB.lb k; replace q1 := KB.a0 k; replace q2 := KB.a1 k; replace q3 := KB.b0 k; replace q4 := KB.b1 k; clear hb; have k3 := KB.keep k (alloc_below _ (.cells #[.int .i64 t.a_r, .int .i64 t.a_c, .int .i64 t.a_w] 26))) | (go_at_call 12; with_reducible refine (chk1 R C (fe t) _ _ rfl b HB).mono ?_; rintro r w4 ⟨rfl, hb⟩; replace k := KB.keep k3 hb; clear k3; replace la := KB.la k; replace lb := KB.lb k; have k4 := KB.keep k (alloc_below _ (.cells #[.int .i64 t.a_r, .int .i64 t.a_c, .int .i64 t.a_w, .int .i64 t.b_r, .int .i64 t.b_c, .int .i64 t.b_w] 26)); clear hb) | (go_at_call 12; with_reducible refine (chk2 R C (fe t) (se t) _ _ rfl d HD).mono ?_; rintro r w5 ⟨rfl, hb⟩; replace k := KB.keep k4 hb; clear hb k4) | (go_at_call 25; (with_reducible refine (is_true a _ H1).mono ?_); rintro e w' ⟨rfl, rfl⟩) | (go_at_call 25; (with_reducible refine (is_true b _ H2).mono ?_); rintro e w' ⟨rfl, rfl⟩) | (go_at_call 25; (with_reducible refine (is_true d _ H3).mono ?_); rintro e w' ⟨rfl, rfl⟩))
  go_ret
  exact ⟨rfl, KB.bel k⟩
set_option maxHeartbeats 16000000 in
theorem b8 (R C : Int) (t : Edges2) (w : World) (a b d : Int) (s1 : 0 ≤ R) (s2 : R ≤ 64) (s3 : 0 ≤ C) (s4 : C ≤ 64) (HWA : Hid (decide (eOk R C (fe t)) = true)) (HWB : Hid (decide (eOk R C (se t)) = true)) (hl : (t.a_r == t.b_r) = true) (hl0 : t.b_r ≤ t.a_r) (hl2 : t.b_c ≤ t.a_c) (dc : decide (t.a_r < t.b_r) = false) (dc2 : decide (t.a_c < t.b_c) = false) (HA : Hid (gErr R C [] = a)) (HB : Hid (gErr R C [fe t] = b)) (HD : Hid (gErr R C [fe t, se t] = d)) (H1 : Hid (a = 0)) (H2 : Hid (b = 0)) (H3 : Hid (d = 170)) :
    Calls Try.prog 9 #[.int .i64 R, .int .i64 C, t.val] w fun e w' => e = .returned (.bool true) ∧ Below w.heap.size w w' := by
  have k := KB.start w t
  have la := k.la
  have lb := k.lb
  have q1 := k.a0
  have q2 := k.a1
  have q3 := k.b0
  have q4 := k.b1
  go_enter Try.func9, Try.ntmps9
  go_wp2_with (first | (go_at_call 17; with_reducible refine (alive_c _).mono ?_; rintro r w2 ⟨rfl, hb⟩; replace k := KB.keep k hb; replace la := KB.la k; replace lb := KB.lb k; replace q1 := KB.a0 k; replace q2 := KB.a1 k; replace q3 := KB.b0 k; replace q4 := KB.b1 k; clear hb) | (go_at_call 24; with_reducible refine (within_v (fe t) R C _ true HWA).mono ?_; rintro r w6 ⟨rfl, hb⟩; replace k := KB.keep k hb; replace la := KB.la k; replace lb := KB.lb k; replace q1 := KB.a0 k; replace q2 := KB.a1 k; replace q3 := KB.b0 k; replace q4 := KB.b1 k; clear hb) | (go_at_call 24; with_reducible refine (within_v (se t) R C _ true HWB).mono ?_; rintro r w6 ⟨rfl, hb⟩; replace k := KB.keep k hb; replace la := KB.la k; replace lb := KB.lb k; replace q1 := KB.a0 k; replace q2 := KB.a1 k; replace q3 := KB.b0 k; replace q4 := KB.b1 k; clear hb) | (go_at_call 12; with_reducible refine (chk0 R C _ a HA).mono ?_; rintro r w3 ⟨rfl, hb⟩; replace k := KB.keep k hb; replace la := KB.la k; replace lb := KB.lb k; replace q1 := KB.a0 k; replace q2 := KB.a1 k; replace q3 := KB.b0 k; replace q4 := KB.b1 k; clear hb; have k3 := KB.keep k (alloc_below _ (.cells #[.int .i64 t.a_r, .int .i64 t.a_c, .int .i64 t.a_w] 26))) | (go_at_call 12; with_reducible refine (chk1 R C (fe t) _ _ rfl b HB).mono ?_; rintro r w4 ⟨rfl, hb⟩; replace k := KB.keep k3 hb; clear k3; replace la := KB.la k; replace lb := KB.lb k; have k4 := KB.keep k (alloc_below _ (.cells #[.int .i64 t.a_r, .int .i64 t.a_c, .int .i64 t.a_w, .int .i64 t.b_r, .int .i64 t.b_c, .int .i64 t.b_w] 26)); clear hb) | (go_at_call 12; with_reducible refine (chk2 R C (fe t) (se t) _ _ rfl d HD).mono ?_; rintro r w5 ⟨rfl, hb⟩; replace k := KB.keep k4 hb; clear hb k4) | (go_at_call 25; (with_reducible refine (is_true a _ H1).mono ?_); rintro e w' ⟨rfl, rfl⟩) | (go_at_call 25; (with_reducible refine (is_true b _ H2).mono ?_); rintro e w' ⟨rfl, rfl⟩) | (go_at_call 25; (with_reducible refine (is_false d _ H3).mono ?_); rintro e w' ⟨rfl, rfl⟩))
  go_ret
  exact ⟨rfl, KB.bel k⟩
set_option maxHeartbeats 16000000 in
theorem b9 (R C : Int) (t : Edges2) (w : World) (a b d : Int) (s1 : 0 ≤ R) (s2 : R ≤ 64) (s3 : 0 ≤ C) (s4 : C ≤ 64) (HWA : Hid (decide (eOk R C (fe t)) = true)) (HWB : Hid (decide (eOk R C (se t)) = true)) (hl : (t.a_r == t.b_r) = false) (hl0 : t.b_r < t.a_r) (dc : decide (t.a_r < t.b_r) = false) (HA : Hid (gErr R C [] = a)) (HB : Hid (gErr R C [fe t] = b)) (HD : Hid (gErr R C [fe t, se t] = d)) (H1 : Hid (a = 0)) (H2 : Hid (b = 0)) (H3 : Hid (d = 170)) :
    Calls Try.prog 9 #[.int .i64 R, .int .i64 C, t.val] w fun e w' => e = .returned (.bool true) ∧ Below w.heap.size w w' := by
  have k := KB.start w t
  have la := k.la
  have lb := k.lb
  have q1 := k.a0
  have q2 := k.a1
  have q3 := k.b0
  have q4 := k.b1
  go_enter Try.func9, Try.ntmps9
  go_wp2_with (first | (go_at_call 17; with_reducible refine (alive_c _).mono ?_; rintro r w2 ⟨rfl, hb⟩; replace k := KB.keep k hb; replace la := KB.la k; replace lb := KB.lb k; replace q1 := KB.a0 k; replace q2 := KB.a1 k; replace q3 := KB.b0 k; replace q4 := KB.b1 k; clear hb) | (go_at_call 24; with_reducible refine (within_v (fe t) R C _ true HWA).mono ?_; rintro r w6 ⟨rfl, hb⟩; replace k := KB.keep k hb; replace la := KB.la k; replace lb := KB.lb k; replace q1 := KB.a0 k; replace q2 := KB.a1 k; replace q3 := KB.b0 k; replace q4 := KB.b1 k; clear hb) | (go_at_call 24; with_reducible refine (within_v (se t) R C _ true HWB).mono ?_; rintro r w6 ⟨rfl, hb⟩; replace k := KB.keep k hb; replace la := KB.la k; replace lb := KB.lb k; replace q1 := KB.a0 k; replace q2 := KB.a1 k; replace q3 := KB.b0 k; replace q4 := KB.b1 k; clear hb) | (go_at_call 12; with_reducible refine (chk0 R C _ a HA).mono ?_; rintro r w3 ⟨rfl, hb⟩; replace k := KB.keep k hb; replace la := KB.la k; replace lb := KB.lb k; replace q1 := KB.a0 k; replace q2 := KB.a1 k; replace q3 := KB.b0 k; replace q4 := KB.b1 k; clear hb; have k3 := KB.keep k (alloc_below _ (.cells #[.int .i64 t.a_r, .int .i64 t.a_c, .int .i64 t.a_w] 26))) | (go_at_call 12; with_reducible refine (chk1 R C (fe t) _ _ rfl b HB).mono ?_; rintro r w4 ⟨rfl, hb⟩; replace k := KB.keep k3 hb; clear k3; replace la := KB.la k; replace lb := KB.lb k; have k4 := KB.keep k (alloc_below _ (.cells #[.int .i64 t.a_r, .int .i64 t.a_c, .int .i64 t.a_w, .int .i64 t.b_r, .int .i64 t.b_c, .int .i64 t.b_w] 26)); clear hb) | (go_at_call 12; with_reducible refine (chk2 R C (fe t) (se t) _ _ rfl d HD).mono ?_; rintro r w5 ⟨rfl, hb⟩; replace k := KB.keep k4 hb; clear hb k4) | (go_at_call 25; (with_reducible refine (is_true a _ H1).mono ?_); rintro e w' ⟨rfl, rfl⟩) | (go_at_call 25; (with_reducible refine (is_true b _ H2).mono ?_); rintro e w' ⟨rfl, rfl⟩) | (go_at_call 25; (with_reducible refine (is_false d _ H3).mono ?_); rintro e w' ⟨rfl, rfl⟩))
  go_ret
  exact ⟨rfl, KB.bel k⟩
theorem v_of {R C : Int} {es : List Edg} {b : Bool} (h : gErr R C es = if b = true then 0 else 170) : (b = true → gErr R C es = 0) ∧ (b = false → gErr R C es = 170) := by
  constructor <;> intro hb <;> rw [h, hb] <;> rfl
theorem bounds (R C : Int) (t : Edges2) (w : World) (_ : (Lit.int .i64 R).wf = true) (_ : (Lit.int .i64 C).wf = true) (_ : t.wf) :
    Calls Try.prog 9 #[.int .i64 R, .int .i64 C, t.val] w fun e w' => e = .returned (.bool true) ∧ Below w.heap.size w w' := by
  obtain ⟨z1, z2⟩ := v_of (g0 R C)
  obtain ⟨o1, o2⟩ := v_of (g1 R C (fe t))
  obtain ⟨w1, w2⟩ := v_of (g2 R C (fe t) (se t))
  by_cases hs : 0 ≤ R ∧ R ≤ 64 ∧ 0 ≤ C ∧ C ≤ 64
  · have S : sizeB R C = true := decide_eq_true hs
    obtain ⟨s1, s2, s3, s4⟩ := hs
    by_cases ha : eOk R C (fe t)
    · have O : oneB R C (fe t) = true := by unfold oneB; rw [S, decide_eq_true ha]; rfl
      have HWA := Lib.hid (decide_eq_true ha)
      by_cases hb : eOk R C (se t)
      · have HWB := Lib.hid (decide_eq_true hb)
        by_cases hf : aft (fe t) (se t)
        · have W : twoB R C (fe t) (se t) = true := by unfold twoB; rw [O, decide_eq_true hb, decide_eq_true hf]; rfl
          obtain ⟨f1, f2⟩ := hf
          by_cases hr : t.a_r = t.b_r
          · exact b7 R C t w _ _ _ s1 s2 s3 s4 HWA HWB (by simp [hr]) (by omega) (Int.lt_of_not_ge fun h => f2 ⟨hr.symm, h⟩) (Lib.hid rfl) (Lib.hid rfl) (Lib.hid rfl) (Lib.hid (z1 S)) (Lib.hid (o1 O)) (Lib.hid (w1 W))
          · exact b6 R C t w _ _ _ s1 s2 s3 s4 HWA HWB (by have : ¬ t.b_r < t.a_r := f1; omega) (Lib.hid rfl) (Lib.hid rfl) (Lib.hid rfl) (Lib.hid (z1 S)) (Lib.hid (o1 O)) (Lib.hid (w1 W))
        · have W : twoB R C (fe t) (se t) = false := by unfold twoB; rw [decide_eq_false hf]; simp
          have hf' : t.b_r < t.a_r ∨ (t.a_r = t.b_r ∧ t.b_c ≤ t.a_c) := by
            unfold aft at hf
            have hf2 : ¬ (¬ (t.b_r < t.a_r) ∧ ¬ (t.b_r = t.a_r ∧ t.b_c ≤ t.a_c)) := hf
            omega
          rcases hf' with h | ⟨h, h'⟩
          · exact b9 R C t w _ _ _ s1 s2 s3 s4 HWA HWB (by simp; omega) h (decide_eq_false (by omega)) (Lib.hid rfl) (Lib.hid rfl) (Lib.hid rfl) (Lib.hid (z1 S)) (Lib.hid (o1 O)) (Lib.hid (w2 W))
          · exact b8 R C t w _ _ _ s1 s2 s3 s4 HWA HWB (by simp [h]) (by omega) h' (decide_eq_false (by omega)) (decide_eq_false (by omega)) (Lib.hid rfl) (Lib.hid rfl) (Lib.hid rfl) (Lib.hid (z1 S)) (Lib.hid (o1 O)) (Lib.hid (w2 W))
      · have W : twoB R C (fe t) (se t) = false := by unfold twoB; rw [decide_eq_false hb]; simp
        exact b5 R C t w _ _ _ s1 s2 s3 s4 HWA (Lib.hid (decide_eq_false hb)) (Lib.hid rfl) (Lib.hid rfl) (Lib.hid rfl) (Lib.hid (z1 S)) (Lib.hid (o1 O)) (Lib.hid (w2 W))
    · have O : oneB R C (fe t) = false := by unfold oneB; rw [decide_eq_false ha]; simp
      have W : twoB R C (fe t) (se t) = false := by unfold twoB; rw [O]; rfl
      exact b4 R C t w _ _ _ s1 s2 s3 s4 (Lib.hid (decide_eq_false ha)) (Lib.hid rfl) (Lib.hid rfl) (Lib.hid rfl) (Lib.hid (z1 S)) (Lib.hid (o2 O)) (Lib.hid (w2 W))
  · have S : sizeB R C = false := decide_eq_false hs
    have O : oneB R C (fe t) = false := by unfold oneB; rw [S]; rfl
    have W : twoB R C (fe t) (se t) = false := by unfold twoB; rw [O]; rfl
    by_cases h1 : R < 0
    · exact b0 R C t w _ _ _ h1 (Lib.hid rfl) (Lib.hid rfl) (Lib.hid rfl) (Lib.hid (z2 S)) (Lib.hid (o2 O)) (Lib.hid (w2 W))
    · by_cases h2 : 64 < R
      · exact b1 R C t w _ _ _ (by omega) h2 (Lib.hid rfl) (Lib.hid rfl) (Lib.hid rfl) (Lib.hid (z2 S)) (Lib.hid (o2 O)) (Lib.hid (w2 W))
      · by_cases h3 : C < 0
        · exact b2 R C t w _ _ _ (by omega) (by omega) h3 (Lib.hid rfl) (Lib.hid rfl) (Lib.hid rfl) (Lib.hid (z2 S)) (Lib.hid (o2 O)) (Lib.hid (w2 W))
        · exact b3 R C t w _ _ _ (by omega) (by omega) (by omega) (by omega) (Lib.hid rfl) (Lib.hid rfl) (Lib.hid rfl) (Lib.hid (z2 S)) (Lib.hid (o2 O)) (Lib.hid (w2 W))
end Go.Proofs.Ytbpdfcllojaanaa.Bounds
