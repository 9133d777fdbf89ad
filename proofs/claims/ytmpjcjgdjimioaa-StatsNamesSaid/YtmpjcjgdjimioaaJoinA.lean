/- Contract of stats.Join. Written by wip/tpls/genjoin.py. -/
import Derived.Test.YtmpjcjgdjimioaaJoin
import Derived.BigQuiet
namespace Go.Proofs.Ytmpjcjgdjimioaa.JoinA
open Ieee Go.RowKit Go.Proofs.Ytmpjcjgdjimioaa.Aid Go.Proofs.Ytmpjcjgdjimioaa.Mem Go.Proofs.Ytmpjcjgdjimioaa.Nums Go.Proofs.Ytmpjcjgdjimioaa.Keep Go.Proofs.Ytmpjcjgdjimioaa.Has Go.Proofs.Ytmpjcjgdjimioaa.Recs Go.Proofs.Ytmpjcjgdjimioaa.Of Go.Proofs.Ytmpjcjgdjimioaa.Fl Go.Proofs.Ytmpjcjgdjimioaa.Fin Go.Proofs.Ytmpjcjgdjimioaa.RefOf Go.Proofs.Ytmpjcjgdjimioaa.SOf Go.Proofs.Ytmpjcjgdjimioaa.Quant Go.Proofs.Ytmpjcjgdjimioaa.Round Go.Proofs.Ytmpjcjgdjimioaa.May Go.Proofs.Ytmpjcjgdjimioaa.JoinP Go.Proofs.Ytmpjcjgdjimioaa.JoinD Go.Proofs.Ytmpjcjgdjimioaa.Join
set_option linter.unusedSimpArgs false
set_option linter.unusedVariables false
set_option maxRecDepth 100000
attribute [local go_sem ↓] store_sum load_sum
attribute [local go_sem] size_sets Of.run_store_float
set_option maxHeartbeats 8000000 in
theorem j1 (a b : Su) (w : World) (wa : Su.wf a) (wb : Su.wf b) (ha : mayB a = false) : Calls Try.prog 25 #[.agg #[.int .i64 a.c, .float .f64 a.m, .float .f64 a.v, .int .i64 a.l, .int .i64 a.o], .agg #[.int .i64 b.c, .float .f64 b.m, .float .f64 b.v, .int .i64 b.l, .int .i64 b.o]] w (JPost a b w) := by
  have HE : Hid (joinE a b = 1) := Lib.hid (by unfold joinE; rw [if_pos ha])
  have HS : Hid (joinS a b = zSu) := Lib.hid (by unfold joinS; rw [if_pos (by rw [HE.out]; decide)])
  have K := Lib.hid (KJ.start w a b)
  have la := K.out.la
  have WA := Lib.hid wa
  have WB := Lib.hid wb
  have HA := Lib.hid ha
  clear wa wb ha
  go_enter Try.func25, Try.ntmps25
  go_wp2_with (first | (go_at_call 46; (with_reducible refine (may_b a _ WA.out false HA.out).mono ?_); (rintro e w1 ⟨rfl, hb1⟩; obtain ⟨w9, s9, b9, h9⟩ := KJ.ret (K.out.keep hb1) zSu; have B9 := Lib.hid b9; have H9 := Lib.hid h9; clear b9 h9; clear hb1 la; simp only [zSu] at s9)))
  exact bodyPost_ret (res_j rfl _ _ (w.heap.size + 2) (Su.list zSu) _ rfl rfl B9.out rfl) rfl (JPost.mk HS.out HE.out H9.out)
set_option maxHeartbeats 8000000 in
theorem j2 (a b : Su) (w : World) (wa : Su.wf a) (wb : Su.wf b) (ha : mayB a = true) (hb : mayB b = false) : Calls Try.prog 25 #[.agg #[.int .i64 a.c, .float .f64 a.m, .float .f64 a.v, .int .i64 a.l, .int .i64 a.o], .agg #[.int .i64 b.c, .float .f64 b.m, .float .f64 b.v, .int .i64 b.l, .int .i64 b.o]] w (JPost a b w) := by
  have HE : Hid (joinE a b = 1) := Lib.hid (by unfold joinE; rw [if_neg (by rw [ha]; decide), if_pos hb])
  have HS : Hid (joinS a b = zSu) := Lib.hid (by unfold joinS; rw [if_pos (by rw [HE.out]; decide)])
  have K := Lib.hid (KJ.start w a b)
  have la := K.out.la
  have WA := Lib.hid wa
  have WB := Lib.hid wb
  have HA := Lib.hid ha
  have HB := Lib.hid hb
  clear wa wb ha hb
  go_enter Try.func25, Try.ntmps25
  go_wp2_with (first | (go_at_call 46; (with_reducible refine (may_b a _ WA.out true HA.out).mono ?_); (rintro e w1 ⟨rfl, hb1⟩; have K1 := Lib.hid (K.out.keep hb1); have lb := K1.out.lb; clear hb1 la)) | (go_at_call 46; (with_reducible refine (may_b b _ WB.out false HB.out).mono ?_); (rintro e w2 ⟨rfl, hb2⟩; obtain ⟨w9, s9, b9, h9⟩ := KJ.ret (K1.out.keep hb2) zSu; have B9 := Lib.hid b9; have H9 := Lib.hid h9; clear b9 h9; clear hb2 lb; simp only [zSu] at s9)))
  exact bodyPost_ret (res_j rfl _ _ (w.heap.size + 2) (Su.list zSu) _ rfl rfl B9.out rfl) rfl (JPost.mk HS.out HE.out H9.out)
set_option maxHeartbeats 8000000 in
theorem j3 (a b : Su) (w : World) (wa : Su.wf a) (wb : Su.wf b) (ha : mayB a = true) (hb : mayB b = true) (hn : isN (a.c + b.c) = false) : Calls Try.prog 25 #[.agg #[.int .i64 a.c, .float .f64 a.m, .float .f64 a.v, .int .i64 a.l, .int .i64 a.o], .agg #[.int .i64 b.c, .float .f64 b.m, .float .f64 b.v, .int .i64 b.l, .int .i64 b.o]] w (JPost a b w) := by
  have HE : Hid (joinE a b = 3) := Lib.hid (by unfold joinE; rw [if_neg (by rw [ha]; decide), if_neg (by rw [hb]; decide), if_pos hn])
  have HS : Hid (joinS a b = zSu) := Lib.hid (by unfold joinS; rw [if_pos (by rw [HE.out]; decide)])
  have K := Lib.hid (KJ.start w a b)
  have la := K.out.la
  have WA := Lib.hid wa
  have WB := Lib.hid wb
  have HA := Lib.hid ha
  have HB := Lib.hid hb
  have HN := Lib.hid hn
  have ca := may_c0 ha
  have cb := may_c0 hb
  have g1 : 4611686018427387903 - b.c < a.c := by have := isN_not hn; omega
  clear wa wb ha hb hn
  go_enter Try.func25, Try.ntmps25
  go_wp2_with (first | (go_at_call 46; (with_reducible refine (may_b a _ WA.out true HA.out).mono ?_); (rintro e w1 ⟨rfl, hb1⟩; have K1 := Lib.hid (K.out.keep hb1); have lb := K1.out.lb; clear hb1 la)) | (go_at_call 46; (with_reducible refine (may_b b _ WB.out true HB.out).mono ?_); (rintro e w2 ⟨rfl, hb2⟩; have K2 := Lib.hid (K1.out.keep hb2); clear hb2 lb; obtain ⟨⟨a0, a1, a2, a3, a4⟩, b0, b1, b2, b3, b4⟩ := K2.out.cells; obtain ⟨w9, s9, b9, h9⟩ := KJ.ret K2.out zSu; have B9 := Lib.hid b9; have H9 := Lib.hid h9; clear b9 h9; simp only [zSu] at s9)) | (go_at_call 29; (with_reducible refine (num_b (a.c + b.c) _ false HN.out).mono ?_); rintro e w' ⟨rfl, rfl⟩))
  exact bodyPost_ret (res_j rfl _ _ (w.heap.size + 2) (Su.list zSu) _ rfl rfl B9.out rfl) rfl (JPost.mk HS.out HE.out H9.out)
set_option maxHeartbeats 8000000 in
theorem j4 (a b : Su) (w : World) (wa : Su.wf a) (wb : Su.wf b) (ha : mayB a = true) (hb : mayB b = true) (hn : isN (a.c + b.c) = true) (h0 : a.c = 0) : Calls Try.prog 25 #[.agg #[.int .i64 a.c, .float .f64 a.m, .float .f64 a.v, .int .i64 a.l, .int .i64 a.o], .agg #[.int .i64 b.c, .float .f64 b.m, .float .f64 b.v, .int .i64 b.l, .int .i64 b.o]] w (JPost a b w) := by
  have HE : Hid (joinE a b = 0) := Lib.hid (by unfold joinE; rw [if_neg (by rw [ha]; decide), if_neg (by rw [hb]; decide), if_neg (by rw [hn]; decide), if_pos h0])
  have HS : Hid (joinS a b = b) := Lib.hid (by unfold joinS; rw [if_neg (by rw [HE.out]; decide), if_pos h0])
  have K := Lib.hid (KJ.start w a b)
  have la := K.out.la
  have WA := Lib.hid wa
  have WB := Lib.hid wb
  have HA := Lib.hid ha
  have HB := Lib.hid hb
  have HN := Lib.hid hn
  have ca := may_c0 ha
  have cb := may_c0 hb
  have g1 : a.c ≤ 4611686018427387903 - b.c := by have := isN_of hn; omega
  have z0 : (a.c == 0) = true := by simp [h0]
  clear wa wb ha hb hn h0
  go_enter Try.func25, Try.ntmps25
  go_wp2_with (first | (go_at_call 46; (with_reducible refine (may_b a _ WA.out true HA.out).mono ?_); (rintro e w1 ⟨rfl, hb1⟩; have K1 := Lib.hid (K.out.keep hb1); have lb := K1.out.lb; clear hb1 la)) | (go_at_call 46; (with_reducible refine (may_b b _ WB.out true HB.out).mono ?_); (rintro e w2 ⟨rfl, hb2⟩; have K2 := Lib.hid (K1.out.keep hb2); clear hb2 lb; obtain ⟨⟨a0, a1, a2, a3, a4⟩, b0, b1, b2, b3, b4⟩ := K2.out.cells; have lb := K2.out.lb; obtain ⟨w9, s9, b9, h9⟩ := KJ.ret K2.out b; have B9 := Lib.hid b9; have H9 := Lib.hid h9; clear b9 h9)) | (go_at_call 29; (with_reducible refine (num_b (a.c + b.c) _ true HN.out).mono ?_); rintro e w' ⟨rfl, rfl⟩))
  exact bodyPost_ret (res_j rfl _ _ (w.heap.size + 2) (Su.list b) _ rfl rfl B9.out rfl) rfl (JPost.mk HS.out HE.out H9.out)
set_option maxHeartbeats 8000000 in
theorem j5 (a b : Su) (w : World) (wa : Su.wf a) (wb : Su.wf b) (ha : mayB a = true) (hb : mayB b = true) (hn : isN (a.c + b.c) = true) (h0 : a.c ≠ 0) (h1 : b.c = 0) : Calls Try.prog 25 #[.agg #[.int .i64 a.c, .float .f64 a.m, .float .f64 a.v, .int .i64 a.l, .int .i64 a.o], .agg #[.int .i64 b.c, .float .f64 b.m, .float .f64 b.v, .int .i64 b.l, .int .i64 b.o]] w (JPost a b w) := by
  have HE : Hid (joinE a b = 0) := Lib.hid (by unfold joinE; rw [if_neg (by rw [ha]; decide), if_neg (by rw [hb]; decide), if_neg (by rw [hn]; decide), if_neg h0, if_pos h1])
  have HS : Hid (joinS a b = a) := Lib.hid (by unfold joinS; rw [if_neg (by rw [HE.out]; decide), if_neg h0, if_pos h1])
  have K := Lib.hid (KJ.start w a b)
  have la := K.out.la
  have WA := Lib.hid wa
  have WB := Lib.hid wb
  have HA := Lib.hid ha
  have HB := Lib.hid hb
  have HN := Lib.hid hn
  have ca := may_c0 ha
  have cb := may_c0 hb
  have g1 : a.c ≤ 4611686018427387903 - b.c := by have := isN_of hn; omega
  have z0 : (a.c == 0) = false := by simp [h0]
  have z1 : (b.c == 0) = true := by simp [h1]
  clear wa wb ha hb hn h0 h1
  go_enter Try.func25, Try.ntmps25
  go_wp2_with (first | (go_at_call 46; (with_reducible refine (may_b a _ WA.out true HA.out).mono ?_); (rintro e w1 ⟨rfl, hb1⟩; have K1 := Lib.hid (K.out.keep hb1); have lb := K1.out.lb; clear hb1 la)) | (go_at_call 46; (with_reducible refine (may_b b _ WB.out true HB.out).mono ?_); (rintro e w2 ⟨rfl, hb2⟩; have K2 := Lib.hid (K1.out.keep hb2); clear hb2 lb; obtain ⟨⟨a0, a1, a2, a3, a4⟩, b0, b1, b2, b3, b4⟩ := K2.out.cells; have la2 := K2.out.la; obtain ⟨w9, s9, b9, h9⟩ := KJ.ret K2.out a; have B9 := Lib.hid b9; have H9 := Lib.hid h9; clear b9 h9)) | (go_at_call 29; (with_reducible refine (num_b (a.c + b.c) _ true HN.out).mono ?_); rintro e w' ⟨rfl, rfl⟩))
  exact bodyPost_ret (res_j rfl _ _ (w.heap.size + 2) (Su.list a) _ rfl rfl B9.out rfl) rfl (JPost.mk HS.out HE.out H9.out)
set_option maxHeartbeats 8000000 in
theorem j9n (a b : Su) (w : World) (wa : Su.wf a) (wb : Su.wf b) (ha : mayB a = true) (hb : mayB b = true) (hn : isN (a.c + b.c) = true) (h0 : a.c ≠ 0) (h1 : b.c ≠ 0) (hs : sumO a b = none) : Calls Try.prog 25 #[.agg #[.int .i64 a.c, .float .f64 a.m, .float .f64 a.v, .int .i64 a.l, .int .i64 a.o], .agg #[.int .i64 b.c, .float .f64 b.m, .float .f64 b.v, .int .i64 b.l, .int .i64 b.o]] w (JPost a b w) := by
  have hok : okJ a b = false := by unfold okJ meanJ; rw [hs]; rfl
  have HJ := Lib.hid (join_def wa wb ha hb h0 h1 hn)
  have HE : Hid (joinE a b = 3) := Lib.hid (by unfold joinE; rw [if_neg (by rw [ha]; decide), if_neg (by rw [hb]; decide), if_neg (by rw [hn]; decide), if_neg h0, if_neg h1, if_neg (by rw [hok]; decide)])
  have HS : Hid (joinS a b = zSu) := Lib.hid (by unfold joinS; rw [if_pos (by rw [HE.out]; decide)])
  have rs : ∀ t W, (binOp .add t (.float .f64 (pF a)) (.float .f64 (pF b))).run Try.prog W = .ok (.float .f64 (nb W (pF a) (pF b))) W.drew := fun t W => ask_run .add (.inl rfl) t _ _ hs W
  have rm : ∀ t W W', (binOp .quo t (.float .f64 (nb W' (pF a) (pF b))) (.float .f64 (allF a b))).run Try.prog W = .ok (.float .f64 (nb W (nb W' (pF a) (pF b)) (allF a b))) W.drew := fun t W W' => ask_run .quo (.inr rfl) t _ _ (nan_div _ _ _ _) W
  obtain ⟨rall, rp, rq, rx, ry, rv, rnm, rw_, rd, rdd, rwd, rvw, rvar⟩ := JR.of HJ.out
  have K := Lib.hid (KJ.start w a b)
  have la := K.out.la
  have WA := Lib.hid wa
  have WB := Lib.hid wb
  have HA := Lib.hid ha
  have HB := Lib.hid hb
  have HN := Lib.hid hn
  have ca := may_c0 ha
  have cb := may_c0 hb
  have g1 : a.c ≤ 4611686018427387903 - b.c := by have := isN_of hn; omega
  have z0 : (a.c == 0) = false := by simp [h0]
  have z1 : (b.c == 0) = false := by simp [h1]
  clear wa wb ha hb hn h0 h1 hs hok
  go_enter Try.func25, Try.ntmps25
  go_wp2_with (first | (go_at_call 46; (with_reducible refine (may_b a _ WA.out true HA.out).mono ?_); (rintro e w1 ⟨rfl, hb1⟩; have K1 := Lib.hid (K.out.keep hb1); have lb := K1.out.lb; clear hb1 la)) | (go_at_call 46; (with_reducible refine (may_b b _ WB.out true HB.out).mono ?_); (rintro e w2 ⟨rfl, hb2⟩; have K2 := Lib.hid (K1.out.keep hb2); clear hb2 lb; obtain ⟨⟨a0, a1, a2, a3, a4⟩, b0, b1, b2, b3, b4⟩ := K2.out.cells; skip)) | (go_at_call 29; (with_reducible refine (num_b (a.c + b.c) _ true HN.out).mono ?_); rintro e w' ⟨rfl, rfl⟩))
  go_quiet (fail)
  obtain ⟨W, hW⟩ : ∃ W, W = w2.drewN nq := ⟨_, rfl⟩
  have K3 : Hid (KJ w a b W) := Lib.hid (by rw [hW]; exact K2.out.drewN nq)
  rw [← hW]
  clear hW a0 a1 a2 a3 a4 b0 b1 b2 b3 b4
  obtain ⟨⟨a0, a1, a2, a3, a4⟩, b0, b1, b2, b3, b4⟩ := K3.out.cells
  obtain ⟨wS, fS, bS, lS⟩ := sa_new W ⟨a.c + b.c, 0, 0, min a.l b.l, max a.o b.o⟩
  have K5 := Lib.hid (K4.start K3.out bS lS)
  simp only at fS
  clear bS lS
  obtain ⟨⟨ap0, ap1, ap2, ap3, ap4⟩, bp0, bp1, bp2, bp3, bp4⟩ := K5.out.kj.cells
  obtain ⟨⟨sp1, sp2, sp3, sp4⟩, fp1, fp2, fp3, fp4⟩ := K5.out.cells
  have K5a := Lib.hid (K5.out.put1 (nb wS.drew (nb wS (pF a) (pF b)) (allF a b)))
  obtain ⟨⟨aa0, aa1, aa2, aa3, aa4⟩, ba0, ba1, ba2, ba3, ba4⟩ := K5a.out.kj.cells
  obtain ⟨⟨sa1, sa2, sa3, sa4⟩, fa1, fa2, fa3, fa4⟩ := K5a.out.cells
  have K5b := Lib.hid (K5a.out.put2 (varJ a b))
  obtain ⟨⟨ab0, ab1, ab2, ab3, ab4⟩, bb0, bb1, bb2, bb3, bb4⟩ := K5b.out.kj.cells
  obtain ⟨⟨sb1, sb2, sb3, sb4⟩, fb1, fb2, fb3, fb4⟩ := K5b.out.cells
  have K5z := Lib.hid (K5b.out.drew.drew)
  obtain ⟨w9, s9, b9, h9⟩ := KJ.ret K5z.out.kj zSu
  have B9 := Lib.hid b9
  have H9 := Lib.hid h9
  simp only [zSu] at s9
  clear b9 h9
  simp only at sp1 sp2 sp3 sp4 sa1 sa2 sa3 sa4 sb1 sb2 sb3 sb4
  have nf := Lib.hid (nan_fin wS.drew (nb wS (pF a) (pF b)) (allF a b))
  go_wp2_with (first | (go_at_call 47; (with_reducible refine (fin_b (nb wS.drew (nb wS (pF a) (pF b)) (allF a b)) _ nf.out.2 false nf.out.1).mono ?_); rintro e w' ⟨rfl, rfl⟩))
  exact bodyPost_ret (res_j rfl _ _ (w.heap.size + 2) (Su.list zSu) _ rfl rfl B9.out rfl) rfl (JPost.mk HS.out HE.out H9.out)
set_option maxHeartbeats 8000000 in
theorem j9m (a b : Su) (w : World) (wa : Su.wf a) (wb : Su.wf b) (ha : mayB a = true) (hb : mayB b = true) (hn : isN (a.c + b.c) = true) (h0 : a.c ≠ 0) (h1 : b.c ≠ 0) (M : Nat) (hs : meanJ a b = some M) (hM : finB M = false) : Calls Try.prog 25 #[.agg #[.int .i64 a.c, .float .f64 a.m, .float .f64 a.v, .int .i64 a.l, .int .i64 a.o], .agg #[.int .i64 b.c, .float .f64 b.m, .float .f64 b.v, .int .i64 b.l, .int .i64 b.o]] w (JPost a b w) := by
  have hok : okJ a b = false := by unfold okJ; rw [hs]; show (finB M && _) = _; rw [hM]; rfl
  have HJ := Lib.hid (join_def wa wb ha hb h0 h1 hn)
  have HE : Hid (joinE a b = 3) := Lib.hid (by unfold joinE; rw [if_neg (by rw [ha]; decide), if_neg (by rw [hb]; decide), if_neg (by rw [hn]; decide), if_neg h0, if_neg h1, if_neg (by rw [hok]; decide)])
  have HS : Hid (joinS a b = zSu) := Lib.hid (by unfold joinS; rw [if_pos (by rw [HE.out]; decide)])
  obtain ⟨S, hS, hMS⟩ : ∃ S, sumO a b = some S ∧ fo .quo S (allF a b) = M := by
    unfold meanJ at hs
    obtain ⟨S, h, k⟩ := Option.map_eq_some_iff.1 hs
    exact ⟨S, h, k⟩
  obtain ⟨hq, hx⟩ : (floatBits .quo .f64 S (allF a b)).isSome ∧ Ext M := by
    rcases HJ.out.mean with h | ⟨S', h, k, k'⟩
    · rw [hS] at h; cases h
    · rw [hS] at h; cases h; exact ⟨k, by rw [← hMS]; exact k'⟩
  have rs : ∀ t W, (binOp .add t (.float .f64 (pF a)) (.float .f64 (pF b))).run Try.prog W = .ok (.float .f64 S) W := fun t W => run_float_arith W .add t .f64 _ _ _ hS
  have rm : ∀ t W, (binOp .quo t (.float .f64 S) (.float .f64 (allF a b))).run Try.prog W = .ok (.float .f64 M) W := by rw [← hMS]; exact fo_run hq
  have HM := Lib.hid hM
  have HX := Lib.hid hx.lt
  obtain ⟨rall, rp, rq, rx, ry, rv, rnm, rw_, rd, rdd, rwd, rvw, rvar⟩ := JR.of HJ.out
  have K := Lib.hid (KJ.start w a b)
  have la := K.out.la
  have WA := Lib.hid wa
  have WB := Lib.hid wb
  have HA := Lib.hid ha
  have HB := Lib.hid hb
  have HN := Lib.hid hn
  have ca := may_c0 ha
  have cb := may_c0 hb
  have g1 : a.c ≤ 4611686018427387903 - b.c := by have := isN_of hn; omega
  have z0 : (a.c == 0) = false := by simp [h0]
  have z1 : (b.c == 0) = false := by simp [h1]
  clear wa wb ha hb hn h0 h1 hs hok hM hS hMS hq hx
  go_enter Try.func25, Try.ntmps25
  go_wp2_with (first | (go_at_call 46; (with_reducible refine (may_b a _ WA.out true HA.out).mono ?_); (rintro e w1 ⟨rfl, hb1⟩; have K1 := Lib.hid (K.out.keep hb1); have lb := K1.out.lb; clear hb1 la)) | (go_at_call 46; (with_reducible refine (may_b b _ WB.out true HB.out).mono ?_); (rintro e w2 ⟨rfl, hb2⟩; have K2 := Lib.hid (K1.out.keep hb2); clear hb2 lb; obtain ⟨⟨a0, a1, a2, a3, a4⟩, b0, b1, b2, b3, b4⟩ := K2.out.cells; skip)) | (go_at_call 29; (with_reducible refine (num_b (a.c + b.c) _ true HN.out).mono ?_); rintro e w' ⟨rfl, rfl⟩))
  go_quiet (fail)
  obtain ⟨W, hW⟩ : ∃ W, W = w2.drewN nq := ⟨_, rfl⟩
  have K3 : Hid (KJ w a b W) := Lib.hid (by rw [hW]; exact K2.out.drewN nq)
  rw [← hW]
  clear hW a0 a1 a2 a3 a4 b0 b1 b2 b3 b4
  obtain ⟨⟨a0, a1, a2, a3, a4⟩, b0, b1, b2, b3, b4⟩ := K3.out.cells
  obtain ⟨wS, fS, bS, lS⟩ := sa_new W ⟨a.c + b.c, 0, 0, min a.l b.l, max a.o b.o⟩
  have K5 := Lib.hid (K4.start K3.out bS lS)
  simp only at fS
  clear bS lS
  obtain ⟨⟨ap0, ap1, ap2, ap3, ap4⟩, bp0, bp1, bp2, bp3, bp4⟩ := K5.out.kj.cells
  obtain ⟨⟨sp1, sp2, sp3, sp4⟩, fp1, fp2, fp3, fp4⟩ := K5.out.cells
  have K5a := Lib.hid (K5.out.put1 M)
  obtain ⟨⟨aa0, aa1, aa2, aa3, aa4⟩, ba0, ba1, ba2, ba3, ba4⟩ := K5a.out.kj.cells
  obtain ⟨⟨sa1, sa2, sa3, sa4⟩, fa1, fa2, fa3, fa4⟩ := K5a.out.cells
  have K5b := Lib.hid (K5a.out.put2 (varJ a b))
  obtain ⟨⟨ab0, ab1, ab2, ab3, ab4⟩, bb0, bb1, bb2, bb3, bb4⟩ := K5b.out.kj.cells
  obtain ⟨⟨sb1, sb2, sb3, sb4⟩, fb1, fb2, fb3, fb4⟩ := K5b.out.cells
  obtain ⟨w9, s9, b9, h9⟩ := KJ.ret K5b.out.kj zSu
  have B9 := Lib.hid b9
  have H9 := Lib.hid h9
  simp only [zSu] at s9
  clear b9 h9
  simp only at sp1 sp2 sp3 sp4 sa1 sa2 sa3 sa4 sb1 sb2 sb3 sb4
  go_wp2_with (first | (go_at_call 47; (with_reducible refine (fin_b M _ HX.out false HM.out).mono ?_); rintro e w' ⟨rfl, rfl⟩))
  exact bodyPost_ret (res_j rfl _ _ (w.heap.size + 2) (Su.list zSu) _ rfl rfl B9.out rfl) rfl (JPost.mk HS.out HE.out H9.out)
set_option maxHeartbeats 8000000 in
theorem j9v (a b : Su) (w : World) (wa : Su.wf a) (wb : Su.wf b) (ha : mayB a = true) (hb : mayB b = true) (hn : isN (a.c + b.c) = true) (h0 : a.c ≠ 0) (h1 : b.c ≠ 0) (M : Nat) (hs : meanJ a b = some M) (hM : finB M = true) (hV : finB (varJ a b) = false) : Calls Try.prog 25 #[.agg #[.int .i64 a.c, .float .f64 a.m, .float .f64 a.v, .int .i64 a.l, .int .i64 a.o], .agg #[.int .i64 b.c, .float .f64 b.m, .float .f64 b.v, .int .i64 b.l, .int .i64 b.o]] w (JPost a b w) := by
  have hok : okJ a b = false := by unfold okJ; rw [hs]; show (finB M && _) = _; rw [hM, hV]; rfl
  have HJ := Lib.hid (join_def wa wb ha hb h0 h1 hn)
  have HE : Hid (joinE a b = 3) := Lib.hid (by unfold joinE; rw [if_neg (by rw [ha]; decide), if_neg (by rw [hb]; decide), if_neg (by rw [hn]; decide), if_neg h0, if_neg h1, if_neg (by rw [hok]; decide)])
  have HS : Hid (joinS a b = zSu) := Lib.hid (by unfold joinS; rw [if_pos (by rw [HE.out]; decide)])
  obtain ⟨S, hS, hMS⟩ : ∃ S, sumO a b = some S ∧ fo .quo S (allF a b) = M := by
    unfold meanJ at hs
    obtain ⟨S, h, k⟩ := Option.map_eq_some_iff.1 hs
    exact ⟨S, h, k⟩
  obtain ⟨hq, hx⟩ : (floatBits .quo .f64 S (allF a b)).isSome ∧ Ext M := by
    rcases HJ.out.mean with h | ⟨S', h, k, k'⟩
    · rw [hS] at h; cases h
    · rw [hS] at h; cases h; exact ⟨k, by rw [← hMS]; exact k'⟩
  have rs : ∀ t W, (binOp .add t (.float .f64 (pF a)) (.float .f64 (pF b))).run Try.prog W = .ok (.float .f64 S) W := fun t W => run_float_arith W .add t .f64 _ _ _ hS
  have rm : ∀ t W, (binOp .quo t (.float .f64 S) (.float .f64 (allF a b))).run Try.prog W = .ok (.float .f64 M) W := by rw [← hMS]; exact fo_run hq
  have HM := Lib.hid hM
  have HX := Lib.hid hx.lt
  have HV := Lib.hid hV
  have HVX := Lib.hid HJ.out.varx.ext.lt
  obtain ⟨rall, rp, rq, rx, ry, rv, rnm, rw_, rd, rdd, rwd, rvw, rvar⟩ := JR.of HJ.out
  have K := Lib.hid (KJ.start w a b)
  have la := K.out.la
  have WA := Lib.hid wa
  have WB := Lib.hid wb
  have HA := Lib.hid ha
  have HB := Lib.hid hb
  have HN := Lib.hid hn
  have ca := may_c0 ha
  have cb := may_c0 hb
  have g1 : a.c ≤ 4611686018427387903 - b.c := by have := isN_of hn; omega
  have z0 : (a.c == 0) = false := by simp [h0]
  have z1 : (b.c == 0) = false := by simp [h1]
  clear wa wb ha hb hn h0 h1 hs hok hM hS hMS hq hx hV
  go_enter Try.func25, Try.ntmps25
  go_wp2_with (first | (go_at_call 46; (with_reducible refine (may_b a _ WA.out true HA.out).mono ?_); (rintro e w1 ⟨rfl, hb1⟩; have K1 := Lib.hid (K.out.keep hb1); have lb := K1.out.lb; clear hb1 la)) | (go_at_call 46; (with_reducible refine (may_b b _ WB.out true HB.out).mono ?_); (rintro e w2 ⟨rfl, hb2⟩; have K2 := Lib.hid (K1.out.keep hb2); clear hb2 lb; obtain ⟨⟨a0, a1, a2, a3, a4⟩, b0, b1, b2, b3, b4⟩ := K2.out.cells; skip)) | (go_at_call 29; (with_reducible refine (num_b (a.c + b.c) _ true HN.out).mono ?_); rintro e w' ⟨rfl, rfl⟩))
  go_quiet (fail)
  obtain ⟨W, hW⟩ : ∃ W, W = w2.drewN nq := ⟨_, rfl⟩
  have K3 : Hid (KJ w a b W) := Lib.hid (by rw [hW]; exact K2.out.drewN nq)
  rw [← hW]
  clear hW a0 a1 a2 a3 a4 b0 b1 b2 b3 b4
  obtain ⟨⟨a0, a1, a2, a3, a4⟩, b0, b1, b2, b3, b4⟩ := K3.out.cells
  obtain ⟨wS, fS, bS, lS⟩ := sa_new W ⟨a.c + b.c, 0, 0, min a.l b.l, max a.o b.o⟩
  have K5 := Lib.hid (K4.start K3.out bS lS)
  simp only at fS
  clear bS lS
  obtain ⟨⟨ap0, ap1, ap2, ap3, ap4⟩, bp0, bp1, bp2, bp3, bp4⟩ := K5.out.kj.cells
  obtain ⟨⟨sp1, sp2, sp3, sp4⟩, fp1, fp2, fp3, fp4⟩ := K5.out.cells
  have K5a := Lib.hid (K5.out.put1 M)
  obtain ⟨⟨aa0, aa1, aa2, aa3, aa4⟩, ba0, ba1, ba2, ba3, ba4⟩ := K5a.out.kj.cells
  obtain ⟨⟨sa1, sa2, sa3, sa4⟩, fa1, fa2, fa3, fa4⟩ := K5a.out.cells
  have K5b := Lib.hid (K5a.out.put2 (varJ a b))
  obtain ⟨⟨ab0, ab1, ab2, ab3, ab4⟩, bb0, bb1, bb2, bb3, bb4⟩ := K5b.out.kj.cells
  obtain ⟨⟨sb1, sb2, sb3, sb4⟩, fb1, fb2, fb3, fb4⟩ := K5b.out.cells
  obtain ⟨w9, s9, b9, h9⟩ := KJ.ret K5b.out.kj zSu
  have B9 := Lib.hid b9
  have H9 := Lib.hid h9
  simp only [zSu] at s9
  clear b9 h9
  simp only at sp1 sp2 sp3 sp4 sa1 sa2 sa3 sa4 sb1 sb2 sb3 sb4
  go_wp2_with (first | (go_at_call 47; (with_reducible refine (fin_b M _ HX.out true HM.out).mono ?_); rintro e w' ⟨rfl, rfl⟩) | (go_at_call 47; (with_reducible refine (fin_b (varJ a b) _ HVX.out false HV.out).mono ?_); rintro e w' ⟨rfl, rfl⟩))
  exact bodyPost_ret (res_j rfl _ _ (w.heap.size + 2) (Su.list zSu) _ rfl rfl B9.out rfl) rfl (JPost.mk HS.out HE.out H9.out)
set_option maxHeartbeats 8000000 in
theorem j9t (a b : Su) (w : World) (wa : Su.wf a) (wb : Su.wf b) (ha : mayB a = true) (hb : mayB b = true) (hn : isN (a.c + b.c) = true) (h0 : a.c ≠ 0) (h1 : b.c ≠ 0) (M : Nat) (hs : meanJ a b = some M) (hM : finB M = true) (hV : finB (varJ a b) = true) : Calls Try.prog 25 #[.agg #[.int .i64 a.c, .float .f64 a.m, .float .f64 a.v, .int .i64 a.l, .int .i64 a.o], .agg #[.int .i64 b.c, .float .f64 b.m, .float .f64 b.v, .int .i64 b.l, .int .i64 b.o]] w (JPost a b w) := by
  have hok : okJ a b = true := by unfold okJ; rw [hs]; show (finB M && _) = _; rw [hM, hV]; rfl
  have HJ := Lib.hid (join_def wa wb ha hb h0 h1 hn)
  have HE : Hid (joinE a b = 0) := Lib.hid (by unfold joinE; rw [if_neg (by rw [ha]; decide), if_neg (by rw [hb]; decide), if_neg (by rw [hn]; decide), if_neg h0, if_neg h1, if_pos hok])
  have HS : Hid (joinS a b = ⟨a.c + b.c, M, varJ a b, min a.l b.l, max a.o b.o⟩) := Lib.hid (by unfold joinS; rw [if_neg (by rw [HE.out]; decide), if_neg h0, if_neg h1, hs]; rfl)
  obtain ⟨S, hS, hMS⟩ : ∃ S, sumO a b = some S ∧ fo .quo S (allF a b) = M := by
    unfold meanJ at hs
    obtain ⟨S, h, k⟩ := Option.map_eq_some_iff.1 hs
    exact ⟨S, h, k⟩
  obtain ⟨hq, hx⟩ : (floatBits .quo .f64 S (allF a b)).isSome ∧ Ext M := by
    rcases HJ.out.mean with h | ⟨S', h, k, k'⟩
    · rw [hS] at h; cases h
    · rw [hS] at h; cases h; exact ⟨k, by rw [← hMS]; exact k'⟩
  have rs : ∀ t W, (binOp .add t (.float .f64 (pF a)) (.float .f64 (pF b))).run Try.prog W = .ok (.float .f64 S) W := fun t W => run_float_arith W .add t .f64 _ _ _ hS
  have rm : ∀ t W, (binOp .quo t (.float .f64 S) (.float .f64 (allF a b))).run Try.prog W = .ok (.float .f64 M) W := by rw [← hMS]; exact fo_run hq
  have HM := Lib.hid hM
  have HX := Lib.hid hx.lt
  have HV := Lib.hid hV
  have HVX := Lib.hid HJ.out.varx.ext.lt
  obtain ⟨rall, rp, rq, rx, ry, rv, rnm, rw_, rd, rdd, rwd, rvw, rvar⟩ := JR.of HJ.out
  have K := Lib.hid (KJ.start w a b)
  have la := K.out.la
  have WA := Lib.hid wa
  have WB := Lib.hid wb
  have HA := Lib.hid ha
  have HB := Lib.hid hb
  have HN := Lib.hid hn
  have ca := may_c0 ha
  have cb := may_c0 hb
  have g1 : a.c ≤ 4611686018427387903 - b.c := by have := isN_of hn; omega
  have z0 : (a.c == 0) = false := by simp [h0]
  have z1 : (b.c == 0) = false := by simp [h1]
  clear wa wb ha hb hn h0 h1 hs hok hM hS hMS hq hx hV
  go_enter Try.func25, Try.ntmps25
  go_wp2_with (first | (go_at_call 46; (with_reducible refine (may_b a _ WA.out true HA.out).mono ?_); (rintro e w1 ⟨rfl, hb1⟩; have K1 := Lib.hid (K.out.keep hb1); have lb := K1.out.lb; clear hb1 la)) | (go_at_call 46; (with_reducible refine (may_b b _ WB.out true HB.out).mono ?_); (rintro e w2 ⟨rfl, hb2⟩; have K2 := Lib.hid (K1.out.keep hb2); clear hb2 lb; obtain ⟨⟨a0, a1, a2, a3, a4⟩, b0, b1, b2, b3, b4⟩ := K2.out.cells; skip)) | (go_at_call 29; (with_reducible refine (num_b (a.c + b.c) _ true HN.out).mono ?_); rintro e w' ⟨rfl, rfl⟩))
  go_quiet (fail)
  obtain ⟨W, hW⟩ : ∃ W, W = w2.drewN nq := ⟨_, rfl⟩
  have K3 : Hid (KJ w a b W) := Lib.hid (by rw [hW]; exact K2.out.drewN nq)
  rw [← hW]
  clear hW a0 a1 a2 a3 a4 b0 b1 b2 b3 b4
  obtain ⟨⟨a0, a1, a2, a3, a4⟩, b0, b1, b2, b3, b4⟩ := K3.out.cells
  obtain ⟨wS, fS, bS, lS⟩ := sa_new W ⟨a.c + b.c, 0, 0, min a.l b.l, max a.o b.o⟩
  have K5 := Lib.hid (K4.start K3.out bS lS)
  simp only at fS
  clear bS lS
  obtain ⟨⟨ap0, ap1, ap2, ap3, ap4⟩, bp0, bp1, bp2, bp3, bp4⟩ := K5.out.kj.cells
  obtain ⟨⟨sp1, sp2, sp3, sp4⟩, fp1, fp2, fp3, fp4⟩ := K5.out.cells
  have K5a := Lib.hid (K5.out.put1 M)
  obtain ⟨⟨aa0, aa1, aa2, aa3, aa4⟩, ba0, ba1, ba2, ba3, ba4⟩ := K5a.out.kj.cells
  obtain ⟨⟨sa1, sa2, sa3, sa4⟩, fa1, fa2, fa3, fa4⟩ := K5a.out.cells
  have K5b := Lib.hid (K5a.out.put2 (varJ a b))
  obtain ⟨⟨ab0, ab1, ab2, ab3, ab4⟩, bb0, bb1, bb2, bb3, bb4⟩ := K5b.out.kj.cells
  obtain ⟨⟨sb1, sb2, sb3, sb4⟩, fb1, fb2, fb3, fb4⟩ := K5b.out.cells
  have ls := K5b.out.ls
  simp only at ls
  obtain ⟨w9, s9, b9, h9⟩ := KJ.ret K5b.out.kj ⟨a.c + b.c, M, varJ a b, min a.l b.l, max a.o b.o⟩
  have B9 := Lib.hid b9
  have H9 := Lib.hid h9
  simp only [zSu] at s9
  clear b9 h9
  simp only at sp1 sp2 sp3 sp4 sa1 sa2 sa3 sa4 sb1 sb2 sb3 sb4
  go_wp2_with (first | (go_at_call 47; (with_reducible refine (fin_b M _ HX.out true HM.out).mono ?_); rintro e w' ⟨rfl, rfl⟩) | (go_at_call 47; (with_reducible refine (fin_b (varJ a b) _ HVX.out true HV.out).mono ?_); rintro e w' ⟨rfl, rfl⟩))
  exact bodyPost_ret (res_j rfl _ _ (w.heap.size + 2) (Su.list ⟨a.c + b.c, M, varJ a b, min a.l b.l, max a.o b.o⟩) _ rfl rfl B9.out rfl) rfl (JPost.mk HS.out HE.out H9.out)
theorem join_c (a b : Su) (w : World) (wa : Su.wf a) (wb : Su.wf b) : Calls Try.prog 25 #[.agg #[.int .i64 a.c, .float .f64 a.m, .float .f64 a.v, .int .i64 a.l, .int .i64 a.o], .agg #[.int .i64 b.c, .float .f64 b.m, .float .f64 b.v, .int .i64 b.l, .int .i64 b.o]] w (JPost a b w) := by
  cases ha : mayB a
  · exact j1 a b w wa wb ha
  cases hb : mayB b
  · exact j2 a b w wa wb ha hb
  cases hn : isN (a.c + b.c)
  · exact j3 a b w wa wb ha hb hn
  by_cases h0 : a.c = 0
  · exact j4 a b w wa wb ha hb hn h0
  by_cases h1 : b.c = 0
  · exact j5 a b w wa wb ha hb hn h0 h1
  cases hs : sumO a b with
  | none => exact j9n a b w wa wb ha hb hn h0 h1 hs
  | some S =>
    have hm : meanJ a b = some (fo .quo S (allF a b)) := by unfold meanJ; rw [hs]; rfl
    cases hM : finB (fo .quo S (allF a b))
    · exact j9m a b w wa wb ha hb hn h0 h1 _ hm hM
    cases hV : finB (varJ a b)
    · exact j9v a b w wa wb ha hb hn h0 h1 _ hm hM hV
    · exact j9t a b w wa wb ha hb hn h0 h1 _ hm hM hV
end Go.Proofs.Ytmpjcjgdjimioaa.JoinA
