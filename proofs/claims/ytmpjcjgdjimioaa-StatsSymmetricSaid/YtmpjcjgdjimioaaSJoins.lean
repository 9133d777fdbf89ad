/- The law StatsJoins: the summary of any two, as the document has it, bit for bit. -/
import Derived.Test.YtmpjcjgdjimioaaSumy
import Derived.Test.YtmpjcjgdjimioaaLives
import Derived.Test.YtmpjcjgdjimioaaTypes
namespace Go.Proofs.Ytmpjcjgdjimioaa.SJoins
open Ieee Go.RowKit Go.Proofs.Ytmpjcjgdjimioaa.Aid Go.Proofs.Ytmpjcjgdjimioaa.Mem Go.Proofs.Ytmpjcjgdjimioaa.Keep Go.Proofs.Ytmpjcjgdjimioaa.Has Go.Proofs.Ytmpjcjgdjimioaa.Recs Go.Proofs.Ytmpjcjgdjimioaa.Of Go.Proofs.Ytmpjcjgdjimioaa.RefOf Go.Proofs.Ytmpjcjgdjimioaa.SOf Go.Proofs.Ytmpjcjgdjimioaa.May Go.Proofs.Ytmpjcjgdjimioaa.JoinD Go.Proofs.Ytmpjcjgdjimioaa.Join Go.Proofs.Ytmpjcjgdjimioaa.JoinA Go.Proofs.Ytmpjcjgdjimioaa.JoinR Go.Proofs.Ytmpjcjgdjimioaa.Alike Go.Proofs.Ytmpjcjgdjimioaa.Lives Go.Proofs.Ytmpjcjgdjimioaa.Sumy
set_option linter.unusedSimpArgs false
set_option linter.unusedVariables false
set_option maxRecDepth 100000
abbrev zL : List Value := [.int .i64 0, .float .f64 0, .float .f64 0, .int .i64 0, .int .i64 0]
/-- A new box for a summary, beside the blocks L. -/
structure HN (w : World) (L : List (Nat × TypeId × List Value)) (g : Nat) (W : World) : Prop where
  has : Has w ((g, 25, zL) :: L) W
  far : ∀ x ∈ L, x.1 < g
  le : w.heap.size ≤ g
section
variable {w W W' X : World} {L : List (Nat × TypeId × List Value)} {g : Nat}
theorem HN.new (h : Has w L X) : HN w L X.heap.size (X.alloc (.cells #[.int .i64 0, .float .f64 0, .float .f64 0, .int .i64 0, .int .i64 0] 25)) :=
  ⟨Has.new h 25 zL, fun x hx => (h.1 x hx).lt, h.2.size⟩
theorem HN.keep (h : HN w L g W) (hb : Below W.heap.size W W') : HN w L g W' := ⟨h.has.keep hb, h.far, h.le⟩
theorem HN.drew (h : HN w L g W) : HN w L g W.drew := ⟨Has.drew h.has, h.far, h.le⟩
theorem Has.tail {x : Nat × TypeId × List Value} (h : Has w (x :: L) W) : Has w L W := ⟨fun y hy => h.1 y (List.mem_cons_of_mem _ hy), h.2⟩
theorem HN.fill (h : HN w L g W) (u : Su) : ∃ W', (SA 25 (.pointer (some ⟨g, 0, none⟩)) (.agg #[.int .i64 u.c, .float .f64 u.m, .float .f64 u.v, .int .i64 u.l, .int .i64 u.o])).run Try.prog W = .ok () W' ∧ Has w ((g, 25, u.list) :: L) W' := by
  obtain ⟨W', e, _, k⟩ := sum_store h.has h.le rfl (fun x hx => Nat.ne_of_lt (h.far x hx)) (.int .i64 u.c) (.float .f64 u.m) (.float .f64 u.v) (.int .i64 u.l) (.int .i64 u.o) rfl rfl rfl rfl rfl
  exact ⟨W', e, k⟩
end
abbrev tM : TypeId := 50
abbrev ml (s : Su) : List Value := [.int .i64 s.c, .int .u64 (s.m : Int), .int .u64 (s.v : Int), .int .i64 s.l, .int .i64 s.o]
theorem load_made (v : Value) : Instr.loadAt 50 v = LA 50 v := rfl
theorem has_lm {w W : World} {L : List (Nat × TypeId × List Value)} {g : Nat} {s : Su} (h : Has w L W) (hx : (g, tM, ml s) ∈ L) : (LA 50 (.pointer (some ⟨g, 0, none⟩))).run Try.prog W = .ok (.agg #[.int .i64 s.c, .int .u64 (s.m : Int), .int .u64 (s.v : Int), .int .i64 s.l, .int .i64 s.o]) W :=
  Has.load (t' := tM) (l := ml s) (s := []) h Try.underlying50 rfl (by show _ = some 5; kernel_rfl) hx
theorem has_ls {w W : World} {L : List (Nat × TypeId × List Value)} {g : Nat} {s : Su} (h : Has w L W) (hx : (g, 25, s.list) ∈ L) : (LA 25 (.pointer (some ⟨g, 0, none⟩))).run Try.prog W = .ok (.agg #[.int .i64 s.c, .float .f64 s.m, .float .f64 s.v, .int .i64 s.l, .int .i64 s.o]) W :=
  Has.load (t' := 25) (l := s.list) (s := []) h Try.underlying25 rfl (by show _ = some 5; kernel_rfl) hx
theorem join_x (a b u : Su) (n : Int) (w : World) (wa : Su.wf a) (wb : Su.wf b) (hu : joinS a b = u) (hn : joinE a b = n) : Calls Try.prog 25 #[.agg #[.int .i64 a.c, .float .f64 a.m, .float .f64 a.v, .int .i64 a.l, .int .i64 a.o], .agg #[.int .i64 b.c, .float .f64 b.m, .float .f64 b.v, .int .i64 b.l, .int .i64 b.o]] w fun e w' => e = .returned (.tuple #[.agg #[.int .i64 u.c, .float .f64 u.m, .float .f64 u.v, .int .i64 u.l, .int .i64 u.o], .int .i64 n]) ∧ Below w.heap.size w w' := by
  subst hu; subst hn; exact join_c a b w wa wb
theorem refjoin_x (a b u : Su) (n : Int) (w : World) (wa : Su.wf a) (wb : Su.wf b) (hu : joinS a b = u) (hn : joinE a b = n) : Calls Try.prog 27 #[.agg #[.int .i64 a.c, .float .f64 a.m, .float .f64 a.v, .int .i64 a.l, .int .i64 a.o], .agg #[.int .i64 b.c, .float .f64 b.m, .float .f64 b.v, .int .i64 b.l, .int .i64 b.o]] w fun e w' => e = .returned (.tuple #[.agg #[.int .i64 u.c, .float .f64 u.m, .float .f64 u.v, .int .i64 u.l, .int .i64 u.o], .int .i64 n]) ∧ Below w.heap.size w w' := by
  subst hu; subst hn; exact refJoin_c a b w wa wb
/-- The two boxes of what came in. -/
abbrev L1 (w : World) (a b : Su) : List (Nat × TypeId × List Value) := [(w.heap.size + 1, tM, ml b), (w.heap.size, tM, ml a)]
theorem start (w : World) (a b : Su) : Has w (L1 w a b) ((w.alloc (.cells #[.int .i64 a.c, .int .u64 (a.m : Int), .int .u64 (a.v : Int), .int .i64 a.l, .int .i64 a.o] 50)).alloc (.cells #[.int .i64 b.c, .int .u64 (b.m : Int), .int .u64 (b.v : Int), .int .i64 b.l, .int .i64 b.o] 50)) := by
  have h := ((Has.nil w).new tM (ml a)).new tM (ml b)
  rw [size_alloc] at h
  exact h
theorem start_z (w : World) (a b : Su) : HN w (L1 w a b) (w.heap.size + 1 + 1) (((w.alloc (.cells #[.int .i64 a.c, .int .u64 (a.m : Int), .int .u64 (a.v : Int), .int .i64 a.l, .int .i64 a.o] 50)).alloc (.cells #[.int .i64 b.c, .int .u64 (b.m : Int), .int .u64 (b.v : Int), .int .i64 b.l, .int .i64 b.o] 50)).alloc (.cells #[.int .i64 0, .float .f64 0, .float .f64 0, .int .i64 0, .int .i64 0] 25)) := by
  have h := HN.new (start w a b)
  rw [size_alloc, size_alloc] at h
  exact h
attribute [local go_sem ↓] store_sum load_sum load_made
set_option maxHeartbeats 8000000 in
theorem walk0 (a b : Su) (w : World) (wa : Su.wf a) (wb : Su.wf b) : Calls Try.prog 8 #[.agg #[.int .i64 a.c, .int .u64 (a.m : Int), .int .u64 (a.v : Int), .int .i64 a.l, .int .i64 a.o], .agg #[.int .i64 b.c, .int .u64 (b.m : Int), .int .u64 (b.v : Int), .int .i64 b.l, .int .i64 b.o]] w fun e w' => e = .returned (.bool true) ∧ Below w.heap.size w w' := by
  obtain ⟨u, hu⟩ : ∃ u, joinS a b = u := ⟨_, rfl⟩
  obtain ⟨n, hn⟩ : ∃ n, joinE a b = n := ⟨_, rfl⟩
  have HU := Lib.hid hu
  have HN' := Lib.hid hn
  have WA := Lib.hid wa
  have WB := Lib.hid wb
  have H0 := Lib.hid (start w a b)
  have E1 : Hid (∀ W, Has w (L1 w a b) W → (Has w (L1 w a b) W ∧ (LA 50 (.pointer (some ⟨w.heap.size, 0, none⟩))).run Try.prog W = .ok (.agg #[.int .i64 a.c, .int .u64 (a.m : Int), .int .u64 (a.v : Int), .int .i64 a.l, .int .i64 a.o]) W ∧ (LA 50 (.pointer (some ⟨w.heap.size + 1, 0, none⟩))).run Try.prog W = .ok (.agg #[.int .i64 b.c, .int .u64 (b.m : Int), .int .u64 (b.v : Int), .int .i64 b.l, .int .i64 b.o]) W)) := Lib.hid (fun W h => ⟨h, has_lm h (List.mem_cons_of_mem _ List.mem_cons_self), has_lm h List.mem_cons_self⟩)
  have E2 : Hid (∀ (g : Nat) (W : World), Has w ((g, 25, u.list) :: L1 w a b) W → (Has w ((g, 25, u.list) :: L1 w a b) W ∧ (LA 50 (.pointer (some ⟨w.heap.size, 0, none⟩))).run Try.prog W = .ok (.agg #[.int .i64 a.c, .int .u64 (a.m : Int), .int .u64 (a.v : Int), .int .i64 a.l, .int .i64 a.o]) W ∧ (LA 50 (.pointer (some ⟨w.heap.size + 1, 0, none⟩))).run Try.prog W = .ok (.agg #[.int .i64 b.c, .int .u64 (b.m : Int), .int .u64 (b.v : Int), .int .i64 b.l, .int .i64 b.o]) W)) := Lib.hid (fun g W h => ⟨h, has_lm h (List.mem_cons_of_mem _ (List.mem_cons_of_mem _ List.mem_cons_self)), has_lm h (List.mem_cons_of_mem _ List.mem_cons_self)⟩)
  clear hu hn wa wb
  go_enter Try.func8, Try.ntmps8
  go_wp2
  have hz0 := Lib.hid (start_z w a b)
  have hk := Lib.hid (Has.drew H0.out)
  go_region_held3 (fun W => Has w (L1 w a b) W ∧ (LA 50 (.pointer (some ⟨w.heap.size, 0, none⟩))).run Try.prog W = .ok (.agg #[.int .i64 a.c, .int .u64 (a.m : Int), .int .u64 (a.v : Int), .int .i64 a.l, .int .i64 a.o]) W ∧ (LA 50 (.pointer (some ⟨w.heap.size + 1, 0, none⟩))).run Try.prog W = .ok (.agg #[.int .i64 b.c, .int .u64 (b.m : Int), .int .u64 (b.v : Int), .int .i64 b.l, .int .i64 b.o]) W) (first | exact E1.out _ (Has.drew H0.out) | exact E1.out _ (Has.tail k9.out) | with_reducible exact E1.out _ (Has.keep (And.left (by assumption)) hb) | with_reducible exact E1.out _ (Has.keep (And.left (by assumption)) (alloc_below _ _)) | assumption) (first | (go_at_call 26; (with_reducible refine (summary_c a _).mono ?_); rintro e w' ⟨rfl, hb⟩; (first | (with_reducible have bz := Lib.hid (HN.keep bz.out hb)) | (with_reducible have bz := Lib.hid (HN.keep (HN.new hk.out) hb)) | (with_reducible have bz := Lib.hid (HN.keep (HN.drew hz0.out) hb)) | skip); (first | (with_reducible have hk := Lib.hid (Has.keep hk.out hb)) | (have hk := Lib.hid (Has.tail bz.out.has)))) | (go_at_call 26; (with_reducible refine (summary_c b _).mono ?_); rintro e w' ⟨rfl, hb⟩; (first | (with_reducible have bz := Lib.hid (HN.keep bz.out hb)) | (with_reducible have bz := Lib.hid (HN.keep (HN.new hk.out) hb)) | (with_reducible have bz := Lib.hid (HN.keep (HN.drew hz0.out) hb)) | skip); (first | (with_reducible have hk := Lib.hid (Has.keep hk.out hb)) | (have hk := Lib.hid (Has.tail bz.out.has)))) | (go_at_call 25; (with_reducible refine (join_x a b u n _ WA.out WB.out HU.out HN'.out).mono ?_); rintro e w' ⟨rfl, hb⟩; (first | (with_reducible have bz := Lib.hid (HN.keep bz.out hb)) | (with_reducible have bz := Lib.hid (HN.keep (HN.new hk.out) hb)) | (with_reducible have bz := Lib.hid (HN.keep (HN.drew hz0.out) hb)) | (with_reducible have bz := Lib.hid (HN.new (Has.keep hk.out hb)))); obtain ⟨W9, f9, h9⟩ := HN.fill bz.out u; have k9 := Lib.hid h9; clear h9))
  all_goals
    obtain ⟨g1, hg1, k10⟩ : ∃ g, g = _ ∧ Has w ((g, 25, u.list) :: L1 w a b) W9 := ⟨_, rfl, k9.out⟩
    rw [← hg1]
    have K2 := Lib.hid k10
    have v1 : (n == n) = true := by simp
    clear hg1 k9 f9 k10 bz hz0
    go_wp2
    have hk2 := Lib.hid (Has.drew K2.out)
    go_region_held3 (fun W => Has w ((g1, 25, u.list) :: L1 w a b) W ∧ (LA 50 (.pointer (some ⟨w.heap.size, 0, none⟩))).run Try.prog W = .ok (.agg #[.int .i64 a.c, .int .u64 (a.m : Int), .int .u64 (a.v : Int), .int .i64 a.l, .int .i64 a.o]) W ∧ (LA 50 (.pointer (some ⟨w.heap.size + 1, 0, none⟩))).run Try.prog W = .ok (.agg #[.int .i64 b.c, .int .u64 (b.m : Int), .int .u64 (b.v : Int), .int .i64 b.l, .int .i64 b.o]) W) (first | exact E2.out _ _ (Has.drew K2.out) | exact E2.out _ _ (Has.tail k8.out) | with_reducible exact E2.out _ _ (Has.keep (And.left (by assumption)) hb) | with_reducible exact E2.out _ _ (Has.keep (And.left (by assumption)) (alloc_below _ _)) | assumption) (first | (go_at_call 26; (with_reducible refine (summary_c a _).mono ?_); rintro e w' ⟨rfl, hb⟩; (first | (with_reducible have by2 := Lib.hid (HN.keep by2.out hb)) | (with_reducible have by2 := Lib.hid (HN.keep (HN.new hk2.out) hb)) | (with_reducible have by2 := Lib.hid (HN.keep (HN.drew (HN.new K2.out)) hb)) | skip); (first | (with_reducible have hk2 := Lib.hid (Has.keep hk2.out hb)) | (have hk2 := Lib.hid (Has.tail by2.out.has)))) | (go_at_call 26; (with_reducible refine (summary_c b _).mono ?_); rintro e w' ⟨rfl, hb⟩; (first | (with_reducible have by2 := Lib.hid (HN.keep by2.out hb)) | (with_reducible have by2 := Lib.hid (HN.keep (HN.new hk2.out) hb)) | (with_reducible have by2 := Lib.hid (HN.keep (HN.drew (HN.new K2.out)) hb)) | skip); (first | (with_reducible have hk2 := Lib.hid (Has.keep hk2.out hb)) | (have hk2 := Lib.hid (Has.tail by2.out.has)))) | (go_at_call 27; (with_reducible refine (refjoin_x a b u n _ WA.out WB.out HU.out HN'.out).mono ?_); rintro e w' ⟨rfl, hb⟩; (first | (with_reducible have by2 := Lib.hid (HN.keep by2.out hb)) | (with_reducible have by2 := Lib.hid (HN.keep (HN.new hk2.out) hb)) | (with_reducible have by2 := Lib.hid (HN.keep (HN.drew (HN.new K2.out)) hb)) | (with_reducible have by2 := Lib.hid (HN.new (Has.keep hk2.out hb)))); obtain ⟨W8, f8, h8⟩ := HN.fill by2.out u; have k8 := Lib.hid h8; clear h8))
    all_goals
      have la1 := has_ls k8.out (List.mem_cons_of_mem _ List.mem_cons_self)
      have la2 := has_ls k8.out List.mem_cons_self
      go_wp2_with (first | (go_at_call 16; (with_reducible refine (alike_s u _).mono ?_); (rintro e w5 ⟨rfl, hL⟩; have K5 := Lib.hid (Has.keep k8.out hL); clear hL)) | (go_at_call 12; (with_reducible refine (lives_c _).mono ?_); (rintro e w6 ⟨rfl, hL⟩; have K6 := Lib.hid (Has.keep K5.out hL); clear hL)))
      go_ret
      exact ⟨rfl, K6.out.2⟩
theorem walk (x y : Types.Mad) (w : World) (wx : x.wf) (wy : y.wf) : Calls Try.prog 8 #[x.val, y.val] w fun e w' => e = .returned (.bool true) ∧ Below w.heap.size w w' := by
  obtain ⟨c, m, v, l, o⟩ := x
  obtain ⟨c', m', v', l', o'⟩ := y
  obtain ⟨_, h1, h2, _, _⟩ := wx
  obtain ⟨_, h3, h4, _, _⟩ := wy
  obtain ⟨m, rfl, k1⟩ := SQuant.u64_nat h1
  obtain ⟨v, rfl, k2⟩ := SQuant.u64_nat h2
  obtain ⟨m', rfl, k3⟩ := SQuant.u64_nat h3
  obtain ⟨v', rfl, k4⟩ := SQuant.u64_nat h4
  exact walk0 ⟨c, m, v, l, o⟩ ⟨c', m', v', l', o'⟩ w ⟨k1, k2⟩ ⟨k3, k4⟩
end Go.Proofs.Ytmpjcjgdjimioaa.SJoins
