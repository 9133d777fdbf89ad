/- The law StatsNames: the errors, and the chapter's examples at the edges. Written by wip/tpls/gensnames.py. -/
import Derived.Test.YtmpjcjgdjimioaaJoinA
import Derived.Test.YtmpjcjgdjimioaaLives
import Derived.Test.YtmpjcjgdjimioaaSQuant
namespace Go.Proofs.Ytmpjcjgdjimioaa.SNames
open Ieee Go.RowKit Go.Proofs.Ytmpjcjgdjimioaa.Aid Go.Proofs.Ytmpjcjgdjimioaa.Mem Go.Proofs.Ytmpjcjgdjimioaa.Nums Go.Proofs.Ytmpjcjgdjimioaa.Keep Go.Proofs.Ytmpjcjgdjimioaa.Has Go.Proofs.Ytmpjcjgdjimioaa.Recs Go.Proofs.Ytmpjcjgdjimioaa.Of Go.Proofs.Ytmpjcjgdjimioaa.Fl Go.Proofs.Ytmpjcjgdjimioaa.Fin Go.Proofs.Ytmpjcjgdjimioaa.Sorts Go.Proofs.Ytmpjcjgdjimioaa.Search Go.Proofs.Ytmpjcjgdjimioaa.Cont Go.Proofs.Ytmpjcjgdjimioaa.HistP Go.Proofs.Ytmpjcjgdjimioaa.Quant Go.Proofs.Ytmpjcjgdjimioaa.Hist Go.Proofs.Ytmpjcjgdjimioaa.SOf Go.Proofs.Ytmpjcjgdjimioaa.SQuant Go.Proofs.Ytmpjcjgdjimioaa.Twin Go.Proofs.Ytmpjcjgdjimioaa.May Go.Proofs.Ytmpjcjgdjimioaa.JoinD Go.Proofs.Ytmpjcjgdjimioaa.Join Go.Proofs.Ytmpjcjgdjimioaa.JoinA Go.Proofs.Ytmpjcjgdjimioaa.Lives
set_option linter.unusedSimpArgs false
set_option linter.unusedVariables false
set_option maxRecDepth 100000
theorem of_1 (w : World) (g : Nat) (h : Blk w g 3 [.int .i64 4611686018427387903, .int .i64 1]) : Calls Try.prog 11 #[.slice (some ⟨g, 0, none⟩) 2 2] w fun e w' => e = .returned (.tuple #[.agg #[.int .i64 0, .float .f64 0, .float .f64 0, .int .i64 0, .int .i64 0], .int .i64 3]) ∧ Below w.heap.size w w' := by
  have he : ofE [4611686018427387903, 1] = 3 := by decide
  have ha : ofA [4611686018427387903, 1] 2 = #[.int .i64 0, .float .f64 0, .float .f64 0, .int .i64 0, .int .i64 0] := ofA_e (by rw [he]; decide)
  refine (of_any [4611686018427387903, 1] _ 2 2 _ (lit_is (xs := [4611686018427387903, 1]) h) (by decide)).mono ?_
  rintro e w' ⟨rfl, hb⟩
  rw [he, ha]
  exact ⟨rfl, hb⟩
theorem of_2 (w : World) (g : Nat) (h : Blk w g 3 [.int .i64 4611686018427387904]) : Calls Try.prog 11 #[.slice (some ⟨g, 0, none⟩) 1 1] w fun e w' => e = .returned (.tuple #[.agg #[.int .i64 0, .float .f64 0, .float .f64 0, .int .i64 0, .int .i64 0], .int .i64 1]) ∧ Below w.heap.size w w' := by
  have he : ofE [4611686018427387904] = 1 := by decide
  have ha : ofA [4611686018427387904] 1 = #[.int .i64 0, .float .f64 0, .float .f64 0, .int .i64 0, .int .i64 0] := ofA_e (by rw [he]; decide)
  refine (of_any [4611686018427387904] _ 1 1 _ (lit_is (xs := [4611686018427387904]) h) (by decide)).mono ?_
  rintro e w' ⟨rfl, hb⟩
  rw [he, ha]
  exact ⟨rfl, hb⟩
theorem of_4 (w : World) (g : Nat) (h : Blk w g 3 [.int .i64 1, .int .i64 3]) : Calls Try.prog 11 #[.slice (some ⟨g, 0, none⟩) 2 2] w fun e w' => e = .returned (.tuple #[.agg #[.int .i64 2, .float .f64 4611686018427387904, .float .f64 4607182418800017408, .int .i64 1, .int .i64 3], .int .i64 0]) ∧ Below w.heap.size w w' := by
  have he : ofE [1, 3] = 0 := by decide
  have h1 : meanF [1, 3] 2 = 4611686018427387904 := by decide +kernel
  have h2 : varF [1, 3] 2 = 4607182418800017408 := by decide +kernel
  have ha : ofA [1, 3] 2 = #[.int .i64 2, .float .f64 4611686018427387904, .float .f64 4607182418800017408, .int .i64 1, .int .i64 3] := by rw [ofA_ok he (by decide), h1, h2]; rfl
  refine (of_any [1, 3] _ 2 2 _ (lit_is (xs := [1, 3]) h) (by decide)).mono ?_
  rintro e w' ⟨rfl, hb⟩
  rw [he, ha]
  exact ⟨rfl, hb⟩
theorem of_5 (w : World) (g : Nat) (h : Blk w g 3 [.int .i64 5, .int .i64 5, .int .i64 5, .int .i64 5]) : Calls Try.prog 11 #[.slice (some ⟨g, 0, none⟩) 4 4] w fun e w' => e = .returned (.tuple #[.agg #[.int .i64 4, .float .f64 4617315517961601024, .float .f64 0, .int .i64 5, .int .i64 5], .int .i64 0]) ∧ Below w.heap.size w w' := by
  have he : ofE [5, 5, 5, 5] = 0 := by decide
  have h1 : meanF [5, 5, 5, 5] 4 = 4617315517961601024 := by decide +kernel
  have h2 : varF [5, 5, 5, 5] 4 = 0 := by decide +kernel
  have ha : ofA [5, 5, 5, 5] 4 = #[.int .i64 4, .float .f64 4617315517961601024, .float .f64 0, .int .i64 5, .int .i64 5] := by rw [ofA_ok he (by decide), h1, h2]; rfl
  refine (of_any [5, 5, 5, 5] _ 4 4 _ (lit_is (xs := [5, 5, 5, 5]) h) (by decide)).mono ?_
  rintro e w' ⟨rfl, hb⟩
  rw [he, ha]
  exact ⟨rfl, hb⟩
theorem of_3 (w : World) (g : Nat) (h : Blk w g 3 [.int .i64 4611686018427387903, .int .i64 (-1)]) : Calls Try.prog 11 #[.slice (some ⟨g, 0, none⟩) 2 2] w fun e w' => (∃ s : Su, e = .returned (.tuple #[.agg #[.int .i64 s.c, .float .f64 s.m, .float .f64 s.v, .int .i64 s.l, .int .i64 s.o], .int .i64 0])) ∧ Below w.heap.size w w' := by
  have he : ofE [4611686018427387903, -1] = 0 := by decide
  obtain ⟨s, hs⟩ := ofA_su [4611686018427387903, -1] 2
  refine (of_any [4611686018427387903, -1] _ 2 2 _ (lit_is (xs := [4611686018427387903, -1]) h) (by decide)).mono ?_
  rintro e w' ⟨rfl, hb⟩
  rw [he, hs]
  exact ⟨⟨s, rfl⟩, hb⟩
def sx : Su := ⟨2, 4611686018427387904, 4607182418800017408, 1, 3⟩
def sy : Su := ⟨4, 4617315517961601024, 0, 5, 5⟩
def sz : Su := ⟨6, 4616189618054758400, 4612436618365282987, 1, 5⟩
theorem jxy : joinE sx sy = 0 ∧ joinS sx sy = sz := by
  have h1 : mayB sx = true := by decide +kernel
  have h2 : mayB sy = true := by decide +kernel
  have h3 : meanJ sx sy = some 4616189618054758400 := by decide +kernel
  have h4 : varJ sx sy = 4612436618365282987 := by decide +kernel
  have hk : okJ sx sy = true := by
    unfold okJ; rw [h3]
    show (finB 4616189618054758400 && finB (varJ sx sy)) = true
    rw [h4]; decide
  have he : joinE sx sy = 0 := by
    unfold joinE
    rw [h1, h2, hk]; decide
  refine ⟨he, ?_⟩
  unfold joinS
  rw [he, h3, h4, if_neg (by decide), if_neg (by decide), if_neg (by decide)]
  rfl
theorem join_6 (w : World) : Calls Try.prog 25 #[.agg #[.int .i64 2, .float .f64 4611686018427387904, .float .f64 4607182418800017408, .int .i64 1, .int .i64 3], .agg #[.int .i64 4, .float .f64 4617315517961601024, .float .f64 0, .int .i64 5, .int .i64 5]] w fun e w' => e = .returned (.tuple #[.agg #[.int .i64 6, .float .f64 4616189618054758400, .float .f64 4612436618365282987, .int .i64 1, .int .i64 5], .int .i64 0]) ∧ Below w.heap.size w w' := by
  have h := join_c sx sy w ⟨by decide, by decide⟩ ⟨by decide, by decide⟩
  unfold JPost at h
  rw [jxy.1, jxy.2] at h
  exact h
theorem join_7 (w : World) : Calls Try.prog 25 #[.agg #[.int .i64 (-1), .float .f64 0, .float .f64 0, .int .i64 0, .int .i64 0], .agg #[.int .i64 4, .float .f64 4617315517961601024, .float .f64 0, .int .i64 5, .int .i64 5]] w fun e w' => e = .returned (.tuple #[.agg #[.int .i64 0, .float .f64 0, .float .f64 0, .int .i64 0, .int .i64 0], .int .i64 1]) ∧ Below w.heap.size w w' := by
  have h1 : mayB ⟨-1, 0, 0, 0, 0⟩ = false := by decide
  have he : joinE ⟨-1, 0, 0, 0, 0⟩ sy = 1 := by unfold joinE; rw [if_pos h1]
  have hs : joinS ⟨-1, 0, 0, 0, 0⟩ sy = zSu := by unfold joinS; rw [if_pos (by rw [he]; decide)]
  have h := join_c ⟨-1, 0, 0, 0, 0⟩ sy w ⟨by decide, by decide⟩ ⟨by decide, by decide⟩
  unfold JPost at h
  rw [he, hs] at h
  exact h
theorem nan_c (w : World) : Calls Try.prog 28 #[] w fun e w' => e = .returned (.float .f64 9221120237041090561) ∧ w = w' := by
  have h : ∀ w, (callFunc 18 #[.int .u64 9221120237041090561]).run Try.prog w = .ok (.value (.float .f64 9221120237041090561)) w := fun w => from_run 9221120237041090561 w
  go_enter Try.func28, Try.ntmps28
  go_wp2
  go_ret
  exact ⟨rfl, rfl⟩
theorem hist_10 (w : World) (g : Nat) (h : Blk w g 23 [.float .f64 4611686018427387904, .float .f64 4611686018427387904]) : Calls Try.prog 22 #[.slice (some ⟨g, 0, none⟩) 2 2, .slice none 0 0] w fun e w' => e = .returned (.tuple #[.slice none 0 0, .int .i64 4]) ∧ Below w.heap.size w w' := by
  refine (hist_more [4611686018427387904, 4611686018427387904] _ 2 2 [] none 0 0 _ (Flts.of_blk (xs := [4611686018427387904, 4611686018427387904]) (r := []) h) (by decide) Ints.nil (by decide) (by decide) (by decide +kernel)).mono ?_
  rintro e w' ⟨h1, _, hb⟩
  exact ⟨h1 (by decide +kernel), hb⟩
theorem hist_11 (w : World) (g : Nat) (h : Blk w g 23 [.float .f64 9221120237041090561]) : Calls Try.prog 22 #[.slice (some ⟨g, 0, none⟩) 1 1, .slice none 0 0] w fun e w' => e = .returned (.tuple #[.slice none 0 0, .int .i64 1]) ∧ Below w.heap.size w w' :=
  hist_nan [9221120237041090561] _ 1 1 none 0 0 _ (Flts.of_blk (xs := [9221120237041090561]) (r := []) h) (by decide) (by decide +kernel)
theorem hist_12 (w : World) (g : Nat) (h : Blk w g 3 [.int .i64 1, .int .i64 2]) : Calls Try.prog 22 #[.slice none 0 0, .slice (some ⟨g, 0, none⟩) 2 2] w fun e w' => (∃ f, e = .returned (.tuple #[.slice (some ⟨f, 0, none⟩) 1 1, .int .i64 0]) ∧ Ints w' .i64 (some ⟨f, 0, none⟩) 1 [2]) ∧ Below w.heap.size w w' := by
  refine (hist_more [] none 0 0 [1, 2] _ 2 2 _ Flts.nil (by decide) (lit_is (xs := [1, 2]) h) (by decide) (by decide) (by decide)).mono ?_
  rintro e w' ⟨_, h1, hb⟩
  obtain ⟨f, rfl, _, hk⟩ := h1 (by decide)
  have e1 : hist [] [1, 2] = [2] := by decide +kernel
  rw [e1] at hk
  exact ⟨⟨f, rfl, lit_is (xs := [2]) hk⟩, hb⟩
theorem qn : (qbad 9221120237041090561 || ((1 : Nat) : Int) == 0) = true := by decide +kernel
theorem q5 : (qbad 4602678819172646912 || ((0 : Nat) : Int) == 0) = true := by decide +kernel
theorem oz : (FloatKind.f64.format.order 4616189618054758400 4616189618054758400 == some .eq) = true ∧ (FloatKind.f64.format.order 4612436618365282987 4612436618365282987 == some .eq) = true := by decide +kernel
attribute [local go_sem] feq_run Of.run_store_float
set_option maxHeartbeats 8000000 in
theorem walk (w : World) : Calls Try.prog 10 #[] w fun e w' => e = .returned (.bool true) ∧ Below w.heap.size w w' := by
  obtain ⟨oz1, oz2⟩ := oz
  have hN := Lib.hid (Has.nil w)
  go_enter Try.func10, Try.ntmps10
  go_wp2_with (first
    | (go_at_call 11; (with_reducible refine (of_1 _ _ (lit_at (by simp) _ _)).mono ?_); (rintro e w1 ⟨rfl, hb⟩; have K1 := Lib.hid (Has.keep (Has.keep hN.out (alloc_below _ _)) hb); clear hb))
    | (go_at_call 11; (with_reducible refine (of_2 _ _ (lit_at (by simp) _ _)).mono ?_); (rintro e w2 ⟨rfl, hb⟩; have K2 := Lib.hid (Has.keep (Has.keep (Has.keep K1.out (alloc_below _ _)) (alloc_below _ _)) hb); clear hb))
    | (go_at_call 11; (with_reducible refine (of_3 _ _ (lit_at (by simp) _ _)).mono ?_); (rintro e w3 ⟨⟨s3, rfl⟩, hb⟩; have K3 := Lib.hid (Has.keep (Has.keep (Has.keep K2.out (alloc_below _ _)) (alloc_below _ _)) hb); clear hb))
    | (go_at_call 11; (with_reducible refine (of_4 _ _ (lit_at (by simp) _ _)).mono ?_); (rintro e w4 ⟨rfl, hb⟩; have K4 := Lib.hid (Has.new (Has.keep (Has.keep (Has.keep K3.out (alloc_below _ _)) (alloc_below _ _)) hb) tS [.int .i64 2, .float .f64 4611686018427387904, .float .f64 4607182418800017408, .int .i64 1, .int .i64 3]); clear hb))
    | (go_at_call 11; (with_reducible refine (of_5 _ _ (lit_at (by simp) _ _)).mono ?_); (rintro e w5 ⟨rfl, hb⟩; have K5 := Lib.hid (Has.new (Has.keep (Has.keep K4.out (alloc_below _ _)) hb) tS [.int .i64 4, .float .f64 4617315517961601024, .float .f64 0, .int .i64 5, .int .i64 5]); clear hb; have x0 := Has.cell K5.out (List.mem_cons_of_mem _ List.mem_cons_self) 0; have x1 := Has.cell K5.out (List.mem_cons_of_mem _ List.mem_cons_self) 1; have x2 := Has.cell K5.out (List.mem_cons_of_mem _ List.mem_cons_self) 2; have x3 := Has.cell K5.out (List.mem_cons_of_mem _ List.mem_cons_self) 3; have x4 := Has.cell K5.out (List.mem_cons_of_mem _ List.mem_cons_self) 4; simp only [List.getElem?_cons_zero, List.getElem?_cons_succ] at x0 x1 x2 x3 x4; have y0 := Has.cell K5.out (List.mem_cons_self) 0; have y1 := Has.cell K5.out (List.mem_cons_self) 1; have y2 := Has.cell K5.out (List.mem_cons_self) 2; have y3 := Has.cell K5.out (List.mem_cons_self) 3; have y4 := Has.cell K5.out (List.mem_cons_self) 4; simp only [List.getElem?_cons_zero, List.getElem?_cons_succ] at y0 y1 y2 y3 y4))
    | (go_at_call 25; (with_reducible refine (join_6 _).mono ?_); (rintro e w6 ⟨rfl, hb⟩; have K6 := Lib.hid (Has.new (Has.keep K5.out hb) tS [.int .i64 6, .float .f64 4616189618054758400, .float .f64 4612436618365282987, .int .i64 1, .int .i64 5]); clear hb x0 x1 x2 x3 x4 y0 y1 y2 y3 y4; have y0 := Has.cell K6.out (List.mem_cons_of_mem _ List.mem_cons_self) 0; have y1 := Has.cell K6.out (List.mem_cons_of_mem _ List.mem_cons_self) 1; have y2 := Has.cell K6.out (List.mem_cons_of_mem _ List.mem_cons_self) 2; have y3 := Has.cell K6.out (List.mem_cons_of_mem _ List.mem_cons_self) 3; have y4 := Has.cell K6.out (List.mem_cons_of_mem _ List.mem_cons_self) 4; simp only [List.getElem?_cons_zero, List.getElem?_cons_succ] at y0 y1 y2 y3 y4))
    | (go_at_call 25; (with_reducible refine (join_7 _).mono ?_); (rintro e w7 ⟨rfl, hb⟩; have K7 := Lib.hid (Has.keep K6.out hb); clear hb y0 y1 y2 y3 y4))
    | (go_at_call 28; (with_reducible refine (nan_c _).mono ?_); rintro e w' ⟨rfl, rfl⟩)
    | (go_at_call 19; (with_reducible refine (quant_bad 9221120237041090561 _ 1 1 _ qn).mono ?_); rintro e w' ⟨rfl, rfl⟩)
    | (go_at_call 19; (with_reducible refine (quant_bad 4602678819172646912 _ 0 0 _ q5).mono ?_); rintro e w' ⟨rfl, rfl⟩)
    | (go_at_call 22; (with_reducible refine (hist_10 _ _ (lit_at (by simp) _ _)).mono ?_); (rintro e w8 ⟨rfl, hb⟩; have K8 := Lib.hid (Has.keep (Has.keep (Has.keep (Has.keep K7.out (alloc_below _ _)) (alloc_below _ _)) (alloc_below _ _)) hb); clear hb))
    | (go_at_call 22; (with_reducible refine (hist_11 _ _ (lit_at (by simp) _ _)).mono ?_); (rintro e w9 ⟨rfl, hb⟩; have K9 := Lib.hid (Has.keep (Has.keep K8.out (alloc_below _ _)) hb); clear hb))
    | (go_at_call 22; (with_reducible refine (hist_12 _ _ (lit_at (by simp) _ _)).mono ?_); (rintro e w10 ⟨⟨f, rfl, hi⟩, hb⟩; have K10 := Lib.hid (Has.keep (Has.keep K9.out (alloc_below _ _)) hb); have I10 := Lib.hid hi; clear hb hi))
    | (go_at_call 12; (with_reducible refine (lives_c _).mono ?_); (rintro e w11 ⟨rfl, hb⟩; have K11 := Lib.hid (Has.keep K10.out hb); have I11 := Lib.hid (I10.out.keep hb); clear hb; have z0 := Has.cell K11.out (List.mem_cons_self) 0; have z1 := Has.cell K11.out (List.mem_cons_self) 1; have z2 := Has.cell K11.out (List.mem_cons_self) 2; have z3 := Has.cell K11.out (List.mem_cons_self) 3; have z4 := Has.cell K11.out (List.mem_cons_self) 4; simp only [List.getElem?_cons_zero, List.getElem?_cons_succ] at z0 z1 z2 z3 z4))
    | (go_at_call 24; (with_reducible refine (same_c [2] _ _ 1 1 1 _ (I11.out.keep (alloc_below _ _)) (lit_is (xs := [2]) (lit_at (by simp) _ _)) (by decide)).mono ?_); (rintro e w12 ⟨rfl, nd, rfl⟩)))
  go_ret
  exact ⟨rfl, below_drewN (kba K11.out.2 _) _⟩
end Go.Proofs.Ytmpjcjgdjimioaa.SNames
