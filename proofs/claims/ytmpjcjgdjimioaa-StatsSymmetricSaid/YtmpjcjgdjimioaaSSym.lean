/- The law StatsSymmetric: Join of b and a is Join of a and b; with the zero summary it is the other one. -/
import Derived.Test.YtmpjcjgdjimioaaSJoins
import Derived.Test.YtmpjcjgdjimioaaSymP
import Derived.BigQuiet
namespace Go.Proofs.Ytmpjcjgdjimioaa.SSym
open Ieee Go.RowKit Go.Proofs.Ytmpjcjgdjimioaa.Aid Go.Proofs.Ytmpjcjgdjimioaa.Mem Go.Proofs.Ytmpjcjgdjimioaa.Keep Go.Proofs.Ytmpjcjgdjimioaa.Has Go.Proofs.Ytmpjcjgdjimioaa.Recs Go.Proofs.Ytmpjcjgdjimioaa.Of Go.Proofs.Ytmpjcjgdjimioaa.RefOf Go.Proofs.Ytmpjcjgdjimioaa.SOf Go.Proofs.Ytmpjcjgdjimioaa.May Go.Proofs.Ytmpjcjgdjimioaa.JoinD Go.Proofs.Ytmpjcjgdjimioaa.Join Go.Proofs.Ytmpjcjgdjimioaa.JoinA Go.Proofs.Ytmpjcjgdjimioaa.Lives Go.Proofs.Ytmpjcjgdjimioaa.Sumy Go.Proofs.Ytmpjcjgdjimioaa.SymP Go.Proofs.Ytmpjcjgdjimioaa.SJoins
set_option linter.unusedSimpArgs false
set_option linter.unusedVariables false
set_option maxRecDepth 100000
attribute [local go_sem ↓] store_sum load_sum load_made
attribute [local go_sem] feq_run
/-- == of two summaries. -/
theorem run_eq (w : World) (s t : Su) : (Op.equalIn 10000 25 (.agg #[.int .i64 s.c, .float .f64 s.m, .float .f64 s.v, .int .i64 s.l, .int .i64 s.o]) (.agg #[.int .i64 t.c, .float .f64 t.m, .float .f64 t.v, .int .i64 t.l, .int .i64 t.o])).run Try.prog w = .ok (eqS s t) w := by
  unfold eqS
  cases h1 : (s.c == t.c) <;> cases h2 : (FloatKind.f64.format.order s.m t.m == some .eq) <;> cases h3 : (FloatKind.f64.format.order s.v t.v == some .eq) <;> cases h4 : (s.l == t.l) <;> cases h5 : (s.o == t.o)
  all_goals go_simp
theorem joinz_x (a z : Su) (m : Int) (w : World) (wa : Su.wf a) (hz : joinS a zSu = z) (hm : joinE a zSu = m) : Calls Try.prog 25 #[.agg #[.int .i64 a.c, .float .f64 a.m, .float .f64 a.v, .int .i64 a.l, .int .i64 a.o], .agg #[.int .i64 0, .float .f64 0, .float .f64 0, .int .i64 0, .int .i64 0]] w fun e w' => e = .returned (.tuple #[.agg #[.int .i64 z.c, .float .f64 z.m, .float .f64 z.v, .int .i64 z.l, .int .i64 z.o], .int .i64 m]) ∧ Below w.heap.size w w' := join_x a zSu z m w wa zSu_wf hz hm
theorem parts {s t : Su} (h : eqS s t = true) : (s.c == t.c) = true ∧ (FloatKind.f64.format.order s.m t.m == some .eq) = true ∧ (FloatKind.f64.format.order s.v t.v == some .eq) = true ∧ (s.l == t.l) = true ∧ (s.o == t.o) = true := by
  unfold eqS at h
  simp only [Bool.and_eq_true] at h
  exact ⟨h.1, h.2.1, h.2.2.1, h.2.2.2.1, h.2.2.2.2⟩
set_option maxHeartbeats 8000000 in
theorem walk0 (a b : Su) (w : World) (wa : Su.wf a) (wb : Su.wf b) : Calls Try.prog 9 #[.agg #[.int .i64 a.c, .int .u64 (a.m : Int), .int .u64 (a.v : Int), .int .i64 a.l, .int .i64 a.o], .agg #[.int .i64 b.c, .int .u64 (b.m : Int), .int .u64 (b.v : Int), .int .i64 b.l, .int .i64 b.o]] w fun e w' => e = .returned (.bool true) ∧ Below w.heap.size w w' := by
  have hs := joinS_sym wa wb
  obtain ⟨u, hu⟩ : ∃ u, joinS a b = u := ⟨_, rfl⟩
  obtain ⟨v, hv⟩ : ∃ v, joinS b a = v := ⟨_, rfl⟩
  obtain ⟨n, hn⟩ : ∃ n, joinE a b = n := ⟨_, rfl⟩
  obtain ⟨z, hz⟩ : ∃ z, joinS a zSu = z := ⟨_, rfl⟩
  obtain ⟨m, hm⟩ : ∃ m, joinE a zSu = m := ⟨_, rfl⟩
  rw [hu, hv] at hs
  have HU := Lib.hid hu
  have HV := Lib.hid hv
  have HZ := Lib.hid hz
  have HM := Lib.hid hm
  have HN1 := Lib.hid hn
  have HN2 := Lib.hid ((joinE_sym wa wb).trans hn)
  have WA := Lib.hid wa
  have WB := Lib.hid wb
  have WZ := Lib.hid zSu_wf
  have H0 := Lib.hid (SJoins.start w a b)
  have E1 : Hid (∀ W, Has w (L1 w a b) W → (Has w (L1 w a b) W ∧ (LA 50 (.pointer (some ⟨w.heap.size, 0, none⟩))).run Try.prog W = .ok (.agg #[.int .i64 a.c, .int .u64 (a.m : Int), .int .u64 (a.v : Int), .int .i64 a.l, .int .i64 a.o]) W ∧ (LA 50 (.pointer (some ⟨w.heap.size + 1, 0, none⟩))).run Try.prog W = .ok (.agg #[.int .i64 b.c, .int .u64 (b.m : Int), .int .u64 (b.v : Int), .int .i64 b.l, .int .i64 b.o]) W)) := Lib.hid (fun W h => ⟨h, has_lm h (List.mem_cons_of_mem _ List.mem_cons_self), has_lm h List.mem_cons_self⟩)
  have mc : (m = 1 ∧ n = 1) ∨ (m = 0 ∧ eqS z a = true) := by
    rw [← hm, ← hn, ← hz, joinE_z]
    cases ha : mayB a
    · exact .inl ⟨if_pos rfl, joinE_bad ha⟩
    · exact .inr ⟨if_neg (by decide), joinS_z wa ha⟩
  have MC := Lib.hid mc
  have v1 : (n != n) = false := by simp
  have HP := Lib.hid (parts hs)
  clear hu hv hn hz hm wa wb hs mc
  go_enter Try.func9, Try.ntmps9
  go_wp2
  have hz0 := Lib.hid (SJoins.start_z w a b)
  have hk := Lib.hid (Has.drew H0.out)
  go_region_held3 (fun W => Has w (L1 w a b) W ∧ (LA 50 (.pointer (some ⟨w.heap.size, 0, none⟩))).run Try.prog W = .ok (.agg #[.int .i64 a.c, .int .u64 (a.m : Int), .int .u64 (a.v : Int), .int .i64 a.l, .int .i64 a.o]) W ∧ (LA 50 (.pointer (some ⟨w.heap.size + 1, 0, none⟩))).run Try.prog W = .ok (.agg #[.int .i64 b.c, .int .u64 (b.m : Int), .int .u64 (b.v : Int), .int .i64 b.l, .int .i64 b.o]) W) (first | exact E1.out _ (Has.drew H0.out) | exact E1.out _ (Has.tail k9.out) | with_reducible exact E1.out _ (Has.keep (And.left (by assumption)) hb) | with_reducible exact E1.out _ (Has.keep (And.left (by assumption)) (alloc_below _ _)) | assumption) (first | (go_at_call 26; (with_reducible refine (summary_c a _).mono ?_); rintro e w' ⟨rfl, hb⟩; (first | (with_reducible have bz := Lib.hid (HN.keep bz.out hb)) | (with_reducible have bz := Lib.hid (HN.keep (HN.new hk.out) hb)) | (with_reducible have bz := Lib.hid (HN.keep (HN.drew hz0.out) hb)) | skip); (first | (with_reducible have hk := Lib.hid (Has.keep hk.out hb)) | (have hk := Lib.hid (Has.tail bz.out.has)))) | (go_at_call 26; (with_reducible refine (summary_c b _).mono ?_); rintro e w' ⟨rfl, hb⟩; (first | (with_reducible have bz := Lib.hid (HN.keep bz.out hb)) | (with_reducible have bz := Lib.hid (HN.keep (HN.new hk.out) hb)) | (with_reducible have bz := Lib.hid (HN.keep (HN.drew hz0.out) hb)) | skip); (first | (with_reducible have hk := Lib.hid (Has.keep hk.out hb)) | (have hk := Lib.hid (Has.tail bz.out.has)))) | (go_at_call 25; (with_reducible refine (join_x a b u n _ WA.out WB.out HU.out HN1.out).mono ?_); rintro e w' ⟨rfl, hb⟩; (first | (with_reducible have bz := Lib.hid (HN.keep bz.out hb)) | (with_reducible have bz := Lib.hid (HN.keep (HN.new hk.out) hb)) | (with_reducible have bz := Lib.hid (HN.keep (HN.drew hz0.out) hb)) | (with_reducible have bz := Lib.hid (HN.new (Has.keep hk.out hb)))); obtain ⟨W9, f9, h9⟩ := HN.fill bz.out u; have k9 := Lib.hid h9; clear h9))
  all_goals
    obtain ⟨g1, hg1, k10⟩ : ∃ g, g = _ ∧ Has w ((g, 25, u.list) :: L1 w a b) W9 := ⟨_, rfl, k9.out⟩
    rw [← hg1]
    have K2 := Lib.hid k10
    have E2 : Hid (∀ W, Has w ((g1, 25, u.list) :: L1 w a b) W → (Has w ((g1, 25, u.list) :: L1 w a b) W ∧ (LA 50 (.pointer (some ⟨w.heap.size, 0, none⟩))).run Try.prog W = .ok (.agg #[.int .i64 a.c, .int .u64 (a.m : Int), .int .u64 (a.v : Int), .int .i64 a.l, .int .i64 a.o]) W ∧ (LA 50 (.pointer (some ⟨w.heap.size + 1, 0, none⟩))).run Try.prog W = .ok (.agg #[.int .i64 b.c, .int .u64 (b.m : Int), .int .u64 (b.v : Int), .int .i64 b.l, .int .i64 b.o]) W)) := Lib.hid (fun W h => ⟨h, has_lm h (List.mem_cons_of_mem _ (List.mem_cons_of_mem _ List.mem_cons_self)), has_lm h (List.mem_cons_of_mem _ List.mem_cons_self)⟩)
    clear hg1 k9 f9 k10 bz hz0
    go_wp2
    have hk2 := Lib.hid (Has.drew K2.out)
    go_region_held3 (fun W => Has w ((g1, 25, u.list) :: L1 w a b) W ∧ (LA 50 (.pointer (some ⟨w.heap.size, 0, none⟩))).run Try.prog W = .ok (.agg #[.int .i64 a.c, .int .u64 (a.m : Int), .int .u64 (a.v : Int), .int .i64 a.l, .int .i64 a.o]) W ∧ (LA 50 (.pointer (some ⟨w.heap.size + 1, 0, none⟩))).run Try.prog W = .ok (.agg #[.int .i64 b.c, .int .u64 (b.m : Int), .int .u64 (b.v : Int), .int .i64 b.l, .int .i64 b.o]) W) (first | exact E2.out _ (Has.drew K2.out) | exact E2.out _ (Has.tail k8.out) | with_reducible exact E2.out _ (Has.keep (And.left (by assumption)) hb) | with_reducible exact E2.out _ (Has.keep (And.left (by assumption)) (alloc_below _ _)) | assumption) (first | (go_at_call 26; (with_reducible refine (summary_c b _).mono ?_); rintro e w' ⟨rfl, hb⟩; (first | (with_reducible have by2 := Lib.hid (HN.keep by2.out hb)) | (with_reducible have by2 := Lib.hid (HN.keep (HN.new hk2.out) hb)) | (with_reducible have by2 := Lib.hid (HN.keep (HN.drew (HN.new K2.out)) hb)) | skip); (first | (with_reducible have hk2 := Lib.hid (Has.keep hk2.out hb)) | (have hk2 := Lib.hid (Has.tail by2.out.has)))) | (go_at_call 26; (with_reducible refine (summary_c a _).mono ?_); rintro e w' ⟨rfl, hb⟩; (first | (with_reducible have by2 := Lib.hid (HN.keep by2.out hb)) | (with_reducible have by2 := Lib.hid (HN.keep (HN.new hk2.out) hb)) | (with_reducible have by2 := Lib.hid (HN.keep (HN.drew (HN.new K2.out)) hb)) | skip); (first | (with_reducible have hk2 := Lib.hid (Has.keep hk2.out hb)) | (have hk2 := Lib.hid (Has.tail by2.out.has)))) | (go_at_call 25; (with_reducible refine (join_x b a v n _ WB.out WA.out HV.out HN2.out).mono ?_); rintro e w' ⟨rfl, hb⟩; (first | (with_reducible have by2 := Lib.hid (HN.keep by2.out hb)) | (with_reducible have by2 := Lib.hid (HN.keep (HN.new hk2.out) hb)) | (with_reducible have by2 := Lib.hid (HN.keep (HN.drew (HN.new K2.out)) hb)) | (with_reducible have by2 := Lib.hid (HN.new (Has.keep hk2.out hb)))); obtain ⟨W8, f9, h9⟩ := HN.fill by2.out v; have k8 := Lib.hid h9; clear h9))
    all_goals
      obtain ⟨g2, hg2, k11⟩ : ∃ g, g = _ ∧ Has w ((g, 25, v.list) :: (g1, 25, u.list) :: L1 w a b) W8 := ⟨_, rfl, k8.out⟩
      rw [← hg2]
      have K3 := Lib.hid k11
      have l0 := has_lm (s := a) K3.out (List.mem_cons_of_mem _ (List.mem_cons_of_mem _ (List.mem_cons_of_mem _ List.mem_cons_self)))
      obtain ⟨p1, p2, p3, p4, p5⟩ := HP.out
      clear hg2 k8 f9 k11 by2
      rcases MC.out with ⟨rfl, rfl⟩ | ⟨rfl, hza⟩
      · go_wp2_with (first | (go_at_call 26; (with_reducible refine (summary_c a _).mono ?_); (rintro e w4 ⟨rfl, hL⟩; have K4 := Lib.hid (Has.keep K3.out hL); clear hL)) | (go_at_call 25; (with_reducible refine (joinz_x a z _ _ WA.out HZ.out HM.out).mono ?_); (rintro e w5 ⟨rfl, hL⟩; obtain ⟨W7, f7, h7⟩ := HN.fill (HN.new (Has.keep K4.out hL)) z; have K7 := Lib.hid h7; have l1 := has_ls K7.out (List.mem_cons_of_mem _ (List.mem_cons_of_mem _ List.mem_cons_self)); have l2 := has_ls K7.out (List.mem_cons_of_mem _ List.mem_cons_self); clear hL h7 l0)) | (go_at_call 12; (with_reducible refine (lives_c _).mono ?_); (rintro e w6 ⟨rfl, hL⟩; have K8 := Lib.hid (Has.keep K7.out hL); clear hL)))
        go_ret
        exact ⟨rfl, K8.out.2⟩
      · obtain ⟨r1, r2, r3, r4, r5⟩ := parts hza
        have E4 : Hid (∀ g WW, Has w ((g, 25, z.list) :: (g2, 25, v.list) :: (g1, 25, u.list) :: L1 w a b) WW → (Has w ((g, 25, z.list) :: (g2, 25, v.list) :: (g1, 25, u.list) :: L1 w a b) WW ∧ (LA 25 (.pointer (some ⟨g, 0, none⟩))).run Try.prog WW = .ok (.agg #[.int .i64 z.c, .float .f64 z.m, .float .f64 z.v, .int .i64 z.l, .int .i64 z.o]) WW ∧ (LA 50 (.pointer (some ⟨w.heap.size, 0, none⟩))).run Try.prog WW = .ok (.agg #[.int .i64 a.c, .int .u64 (a.m : Int), .int .u64 (a.v : Int), .int .i64 a.l, .int .i64 a.o]) WW)) := Lib.hid (fun g WW h => ⟨h, has_ls h List.mem_cons_self, has_lm h (List.mem_cons_of_mem _ (List.mem_cons_of_mem _ (List.mem_cons_of_mem _ (List.mem_cons_of_mem _ List.mem_cons_self))))⟩)
        clear hza
        go_wp2_with (first | (go_at_call 26; (with_reducible refine (summary_c a _).mono ?_); (rintro e w4 ⟨rfl, hL⟩; have K4 := Lib.hid (Has.keep K3.out hL); clear hL)) | (go_at_call 25; (with_reducible refine (joinz_x a z _ _ WA.out HZ.out HM.out).mono ?_); (rintro e w5 ⟨rfl, hL⟩; obtain ⟨W7, f7, h7⟩ := HN.fill (HN.new (Has.keep K4.out hL)) z; have K7 := Lib.hid h7; have l1 := has_ls K7.out (List.mem_cons_of_mem _ (List.mem_cons_of_mem _ List.mem_cons_self)); have l2 := has_ls K7.out (List.mem_cons_of_mem _ List.mem_cons_self); clear hL h7 l0)) | (go_at_call 12; (with_reducible refine (lives_c _).mono ?_); (rintro e w6 ⟨rfl, hL⟩; have K8 := Lib.hid (Has.keep K7.out hL); clear hL)))
        go_region_held3 (fun WW => Has w ((w5.heap.size, 25, z.list) :: (g2, 25, v.list) :: (g1, 25, u.list) :: L1 w a b) WW ∧ (LA 25 (.pointer (some ⟨w5.heap.size, 0, none⟩))).run Try.prog WW = .ok (.agg #[.int .i64 z.c, .float .f64 z.m, .float .f64 z.v, .int .i64 z.l, .int .i64 z.o]) WW ∧ (LA 50 (.pointer (some ⟨w.heap.size, 0, none⟩))).run Try.prog WW = .ok (.agg #[.int .i64 a.c, .int .u64 (a.m : Int), .int .u64 (a.v : Int), .int .i64 a.l, .int .i64 a.o]) WW) (first | exact E4.out _ _ (Has.drew K8.out) | with_reducible exact E4.out _ _ (Has.keep (And.left (by assumption)) hb) | assumption) (first | (go_at_call 26; (with_reducible refine (summary_c a _).mono ?_); rintro e w' ⟨rfl, hb⟩))
        go_wp2
        go_ret
        obtain ⟨h9, _, _⟩ := ‹Has w ((w5.heap.size, 25, z.list) :: (g2, 25, v.list) :: (g1, 25, u.list) :: L1 w a b) _ ∧ _ ∧ _›
        exact ⟨rfl, h9.2⟩
theorem walk (x y : Types.Mad) (w : World) (wx : x.wf) (wy : y.wf) : Calls Try.prog 9 #[x.val, y.val] w fun e w' => e = .returned (.bool true) ∧ Below w.heap.size w w' := by
  obtain ⟨c, m, v, l, o⟩ := x
  obtain ⟨c', m', v', l', o'⟩ := y
  obtain ⟨_, h1, h2, _, _⟩ := wx
  obtain ⟨_, h3, h4, _, _⟩ := wy
  obtain ⟨m, rfl, k1⟩ := SQuant.u64_nat h1
  obtain ⟨v, rfl, k2⟩ := SQuant.u64_nat h2
  obtain ⟨m', rfl, k3⟩ := SQuant.u64_nat h3
  obtain ⟨v', rfl, k4⟩ := SQuant.u64_nat h4
  exact walk0 ⟨c, m, v, l, o⟩ ⟨c', m', v', l', o'⟩ w ⟨k1, k2⟩ ⟨k3, k4⟩
end Go.Proofs.Ytmpjcjgdjimioaa.SSym
