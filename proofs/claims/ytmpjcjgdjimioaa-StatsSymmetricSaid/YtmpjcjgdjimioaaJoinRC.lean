/- Contract of ref29.Join. Written by wip/tpls/genjoin.py. -/
import Derived.Test.YtmpjcjgdjimioaaJoinRA
import Derived.BigQuiet
namespace Go.Proofs.Ytmpjcjgdjimioaa.JoinR
open Ieee Go.RowKit Go.Proofs.Ytmpjcjgdjimioaa.Aid Go.Proofs.Ytmpjcjgdjimioaa.Mem Go.Proofs.Ytmpjcjgdjimioaa.Nums Go.Proofs.Ytmpjcjgdjimioaa.Keep Go.Proofs.Ytmpjcjgdjimioaa.Has Go.Proofs.Ytmpjcjgdjimioaa.Recs Go.Proofs.Ytmpjcjgdjimioaa.Of Go.Proofs.Ytmpjcjgdjimioaa.Fl Go.Proofs.Ytmpjcjgdjimioaa.Fin Go.Proofs.Ytmpjcjgdjimioaa.RefOf Go.Proofs.Ytmpjcjgdjimioaa.SOf Go.Proofs.Ytmpjcjgdjimioaa.Quant Go.Proofs.Ytmpjcjgdjimioaa.Round Go.Proofs.Ytmpjcjgdjimioaa.May Go.Proofs.Ytmpjcjgdjimioaa.JoinP Go.Proofs.Ytmpjcjgdjimioaa.JoinD Go.Proofs.Ytmpjcjgdjimioaa.Join
set_option linter.unusedSimpArgs false
set_option linter.unusedVariables false
set_option maxRecDepth 100000
attribute [local go_sem ↓] store_sum load_sum
attribute [local go_sem] size_sets Of.run_store_float
set_option maxHeartbeats 8000000 in
theorem j9n_ltle (a b : Su) (w : World) (wa : Su.wf a) (wb : Su.wf b) (ha : mayB a = true) (hb : mayB b = true) (hn : isN (a.c + b.c) = true) (h0 : a.c ≠ 0) (h1 : b.c ≠ 0) (hs : sumO a b = none) (hl : b.l < a.l) (hm : b.o ≤ a.o) : Calls Try.prog 27 #[.agg #[.int .i64 a.c, .float .f64 a.m, .float .f64 a.v, .int .i64 a.l, .int .i64 a.o], .agg #[.int .i64 b.c, .float .f64 b.m, .float .f64 b.v, .int .i64 b.l, .int .i64 b.o]] w (JPost a b w) := by
  have hok : okJ a b = false := by unfold okJ meanJ; rw [hs]; rfl
  have HJ := Lib.hid (join_def wa wb ha hb h0 h1 hn)
  have HE : Hid (joinE a b = 3) := Lib.hid (by unfold joinE; rw [if_neg (by rw [ha]; decide), if_neg (by rw [hb]; decide), if_neg (by rw [hn]; decide), if_neg h0, if_neg h1, if_neg (by rw [hok]; decide)])
  have HS : Hid (joinS a b = zSu) := Lib.hid (by unfold joinS; rw [if_pos (by rw [HE.out]; decide)])
  have rs : ∀ t W, (binOp .add t (.float .f64 (pF a)) (.float .f64 (pF b))).run Try.prog W = .ok (.float .f64 (nb W (pF a) (pF b))) W.drew := fun t W => ask_run .add (.inl rfl) t _ _ hs W
  have rm : ∀ t W W', (binOp .quo t (.float .f64 (nb W' (pF a) (pF b))) (.float .f64 (allF a b))).run Try.prog W = .ok (.float .f64 (nb W (nb W' (pF a) (pF b)) (allF a b))) W.drew := fun t W W' => ask_run .quo (.inr rfl) t _ _ (nan_div _ _ _ _) W
  obtain ⟨rall, rp, rq, rx, ry, rv, rnm, rw_, rd, rdd, rwd, rvw, rvar⟩ := JR.of HJ.out
  have K := Lib.hid (KJ.start w a b)
  have la := K.out.la
  have WA := Lib.hid wa
  have WB := Lib.hid wb
  have HA := Lib.hid ha
  have HB := Lib.hid hb
  have HN := Lib.hid hn
  have ca := may_c0 ha
  have cb := may_c0 hb
  have g1 : a.c ≤ 4611686018427387903 - b.c := by have := isN_of hn; omega
  have z0 : (a.c == 0) = false := by simp [h0]
  have z1 : (b.c == 0) = false := by simp [h1]
  clear wa wb ha hb hn h0 h1 hs hok
  go_enter Try.func27, Try.ntmps27
  go_wp2_with (first | (go_at_call 48; (with_reducible refine (rmay_b a _ WA.out true HA.out).mono ?_); (rintro e w1 ⟨rfl, hb1⟩; have K1 := Lib.hid (K.out.keep hb1); have lb := K1.out.lb; clear hb1 la)) | (go_at_call 48; (with_reducible refine (rmay_b b _ WB.out true HB.out).mono ?_); (rintro e w2 ⟨rfl, hb2⟩; have K2 := Lib.hid (K1.out.keep hb2); clear hb2 lb; obtain ⟨⟨a0, a1, a2, a3, a4⟩, b0, b1, b2, b3, b4⟩ := K2.out.cells; obtain ⟨wS, fS, bS, lS⟩ := sa_new w2 ⟨a.c + b.c, 0, 0, a.l, a.o⟩; have K5 := Lib.hid (K4.start K2.out bS lS); simp only at fS; clear bS lS; obtain ⟨⟨ap0, ap1, ap2, ap3, ap4⟩, bp0, bp1, bp2, bp3, bp4⟩ := K5.out.kj.cells; obtain ⟨⟨sp1, sp2, sp3, sp4⟩, fp1, fp2, fp3, fp4⟩ := K5.out.cells; have K5a := Lib.hid (K5.out.put3 b.l); obtain ⟨⟨aa0, aa1, aa2, aa3, aa4⟩, ba0, ba1, ba2, ba3, ba4⟩ := K5a.out.kj.cells; obtain ⟨⟨sa1, sa2, sa3, sa4⟩, fa1, fa2, fa3, fa4⟩ := K5a.out.cells; have K5b := Lib.hid (K5a.out.put1 (nb (wS.setCell ⟨w2.heap.size, 3, none⟩ (.int .i64 b.l)).drew (nb (wS.setCell ⟨w2.heap.size, 3, none⟩ (.int .i64 b.l)) (pF a) (pF b)) (allF a b))); obtain ⟨⟨ab0, ab1, ab2, ab3, ab4⟩, bb0, bb1, bb2, bb3, bb4⟩ := K5b.out.kj.cells; obtain ⟨⟨sb1, sb2, sb3, sb4⟩, fb1, fb2, fb3, fb4⟩ := K5b.out.cells; have K5c := Lib.hid (K5b.out.put2 (varJ a b)); obtain ⟨⟨ac0, ac1, ac2, ac3, ac4⟩, bc0, bc1, bc2, bc3, bc4⟩ := K5c.out.kj.cells; obtain ⟨⟨sc1, sc2, sc3, sc4⟩, fc1, fc2, fc3, fc4⟩ := K5c.out.cells; simp only at sp1 sp2 sp3 sp4 sa1 sa2 sa3 sa4 sb1 sb2 sb3 sb4 sc1 sc2 sc3 sc4; have nf := Lib.hid (nan_fin (wS.setCell ⟨w2.heap.size, 3, none⟩ (.int .i64 b.l)).drew (nb (wS.setCell ⟨w2.heap.size, 3, none⟩ (.int .i64 b.l)) (pF a) (pF b)) (allF a b)))) | (go_at_call 49; (with_reducible refine (rfin_b (nb (wS.setCell ⟨w2.heap.size, 3, none⟩ (.int .i64 b.l)).drew (nb (wS.setCell ⟨w2.heap.size, 3, none⟩ (.int .i64 b.l)) (pF a) (pF b)) (allF a b)) _ nf.out.2 false nf.out.1).mono ?_); (rintro e w3 ⟨rfl, nd1, rfl⟩; have K6 := Lib.hid (K5c.out.drewN (1 + (1 + nd1))); obtain ⟨w9, s9, b9, h9⟩ := KJ.ret K6.out.kj zSu; have B9 := Lib.hid b9; have H9 := Lib.hid h9; simp only [zSu] at s9; clear b9 h9)))
  exact bodyPost_ret (res_j rfl _ _ (w.heap.size + 2) (Su.list zSu) _ rfl rfl B9.out rfl) rfl (JPost.mk HS.out HE.out H9.out)
set_option maxHeartbeats 8000000 in
theorem j9m_ltle (a b : Su) (w : World) (wa : Su.wf a) (wb : Su.wf b) (ha : mayB a = true) (hb : mayB b = true) (hn : isN (a.c + b.c) = true) (h0 : a.c ≠ 0) (h1 : b.c ≠ 0) (M : Nat) (hs : meanJ a b = some M) (hM : finB M = false) (hl : b.l < a.l) (hm : b.o ≤ a.o) : Calls Try.prog 27 #[.agg #[.int .i64 a.c, .float .f64 a.m, .float .f64 a.v, .int .i64 a.l, .int .i64 a.o], .agg #[.int .i64 b.c, .float .f64 b.m, .float .f64 b.v, .int .i64 b.l, .int .i64 b.o]] w (JPost a b w) := by
  have hok : okJ a b = false := by unfold okJ; rw [hs]; show (finB M && _) = _; rw [hM]; rfl
  have HJ := Lib.hid (join_def wa wb ha hb h0 h1 hn)
  have HE : Hid (joinE a b = 3) := Lib.hid (by unfold joinE; rw [if_neg (by rw [ha]; decide), if_neg (by rw [hb]; decide), if_neg (by rw [hn]; decide), if_neg h0, if_neg h1, if_neg (by rw [hok]; decide)])
  have HS : Hid (joinS a b = zSu) := Lib.hid (by unfold joinS; rw [if_pos (by rw [HE.out]; decide)])
  obtain ⟨S, hS, hMS⟩ : ∃ S, sumO a b = some S ∧ fo .quo S (allF a b) = M := by
    unfold meanJ at hs
    obtain ⟨S, h, k⟩ := Option.map_eq_some_iff.1 hs
    exact ⟨S, h, k⟩
  obtain ⟨hq, hx⟩ : (floatBits .quo .f64 S (allF a b)).isSome ∧ Ext M := by
    rcases HJ.out.mean with h | ⟨S', h, k, k'⟩
    · rw [hS] at h; cases h
    · rw [hS] at h; cases h; exact ⟨k, by rw [← hMS]; exact k'⟩
  have rs : ∀ t W, (binOp .add t (.float .f64 (pF a)) (.float .f64 (pF b))).run Try.prog W = .ok (.float .f64 S) W := fun t W => run_float_arith W .add t .f64 _ _ _ hS
  have rm : ∀ t W, (binOp .quo t (.float .f64 S) (.float .f64 (allF a b))).run Try.prog W = .ok (.float .f64 M) W := by rw [← hMS]; exact fo_run hq
  have HM := Lib.hid hM
  have HX := Lib.hid hx.lt
  obtain ⟨rall, rp, rq, rx, ry, rv, rnm, rw_, rd, rdd, rwd, rvw, rvar⟩ := JR.of HJ.out
  have K := Lib.hid (KJ.start w a b)
  have la := K.out.la
  have WA := Lib.hid wa
  have WB := Lib.hid wb
  have HA := Lib.hid ha
  have HB := Lib.hid hb
  have HN := Lib.hid hn
  have ca := may_c0 ha
  have cb := may_c0 hb
  have g1 : a.c ≤ 4611686018427387903 - b.c := by have := isN_of hn; omega
  have z0 : (a.c == 0) = false := by simp [h0]
  have z1 : (b.c == 0) = false := by simp [h1]
  clear wa wb ha hb hn h0 h1 hs hok hM hS hMS hq hx
  go_enter Try.func27, Try.ntmps27
  go_wp2_with (first | (go_at_call 48; (with_reducible refine (rmay_b a _ WA.out true HA.out).mono ?_); (rintro e w1 ⟨rfl, hb1⟩; have K1 := Lib.hid (K.out.keep hb1); have lb := K1.out.lb; clear hb1 la)) | (go_at_call 48; (with_reducible refine (rmay_b b _ WB.out true HB.out).mono ?_); (rintro e w2 ⟨rfl, hb2⟩; have K2 := Lib.hid (K1.out.keep hb2); clear hb2 lb; obtain ⟨⟨a0, a1, a2, a3, a4⟩, b0, b1, b2, b3, b4⟩ := K2.out.cells; obtain ⟨wS, fS, bS, lS⟩ := sa_new w2 ⟨a.c + b.c, 0, 0, a.l, a.o⟩; have K5 := Lib.hid (K4.start K2.out bS lS); simp only at fS; clear bS lS; obtain ⟨⟨ap0, ap1, ap2, ap3, ap4⟩, bp0, bp1, bp2, bp3, bp4⟩ := K5.out.kj.cells; obtain ⟨⟨sp1, sp2, sp3, sp4⟩, fp1, fp2, fp3, fp4⟩ := K5.out.cells; have K5a := Lib.hid (K5.out.put3 b.l); obtain ⟨⟨aa0, aa1, aa2, aa3, aa4⟩, ba0, ba1, ba2, ba3, ba4⟩ := K5a.out.kj.cells; obtain ⟨⟨sa1, sa2, sa3, sa4⟩, fa1, fa2, fa3, fa4⟩ := K5a.out.cells; have K5b := Lib.hid (K5a.out.put1 M); obtain ⟨⟨ab0, ab1, ab2, ab3, ab4⟩, bb0, bb1, bb2, bb3, bb4⟩ := K5b.out.kj.cells; obtain ⟨⟨sb1, sb2, sb3, sb4⟩, fb1, fb2, fb3, fb4⟩ := K5b.out.cells; have K5c := Lib.hid (K5b.out.put2 (varJ a b)); obtain ⟨⟨ac0, ac1, ac2, ac3, ac4⟩, bc0, bc1, bc2, bc3, bc4⟩ := K5c.out.kj.cells; obtain ⟨⟨sc1, sc2, sc3, sc4⟩, fc1, fc2, fc3, fc4⟩ := K5c.out.cells; simp only at sp1 sp2 sp3 sp4 sa1 sa2 sa3 sa4 sb1 sb2 sb3 sb4 sc1 sc2 sc3 sc4)) | (go_at_call 49; (with_reducible refine (rfin_b M _ HX.out false HM.out).mono ?_); (rintro e w3 ⟨rfl, nd1, rfl⟩; have K6 := Lib.hid (K5c.out.drewN nd1); obtain ⟨w9, s9, b9, h9⟩ := KJ.ret K6.out.kj zSu; have B9 := Lib.hid b9; have H9 := Lib.hid h9; simp only [zSu] at s9; clear b9 h9)))
  exact bodyPost_ret (res_j rfl _ _ (w.heap.size + 2) (Su.list zSu) _ rfl rfl B9.out rfl) rfl (JPost.mk HS.out HE.out H9.out)
set_option maxHeartbeats 8000000 in
theorem j9v_ltle (a b : Su) (w : World) (wa : Su.wf a) (wb : Su.wf b) (ha : mayB a = true) (hb : mayB b = true) (hn : isN (a.c + b.c) = true) (h0 : a.c ≠ 0) (h1 : b.c ≠ 0) (M : Nat) (hs : meanJ a b = some M) (hM : finB M = true) (hV : finB (varJ a b) = false) (hl : b.l < a.l) (hm : b.o ≤ a.o) : Calls Try.prog 27 #[.agg #[.int .i64 a.c, .float .f64 a.m, .float .f64 a.v, .int .i64 a.l, .int .i64 a.o], .agg #[.int .i64 b.c, .float .f64 b.m, .float .f64 b.v, .int .i64 b.l, .int .i64 b.o]] w (JPost a b w) := by
  have hok : okJ a b = false := by unfold okJ; rw [hs]; show (finB M && _) = _; rw [hM, hV]; rfl
  have HJ := Lib.hid (join_def wa wb ha hb h0 h1 hn)
  have HE : Hid (joinE a b = 3) := Lib.hid (by unfold joinE; rw [if_neg (by rw [ha]; decide), if_neg (by rw [hb]; decide), if_neg (by rw [hn]; decide), if_neg h0, if_neg h1, if_neg (by rw [hok]; decide)])
  have HS : Hid (joinS a b = zSu) := Lib.hid (by unfold joinS; rw [if_pos (by rw [HE.out]; decide)])
  obtain ⟨S, hS, hMS⟩ : ∃ S, sumO a b = some S ∧ fo .quo S (allF a b) = M := by
    unfold meanJ at hs
    obtain ⟨S, h, k⟩ := Option.map_eq_some_iff.1 hs
    exact ⟨S, h, k⟩
  obtain ⟨hq, hx⟩ : (floatBits .quo .f64 S (allF a b)).isSome ∧ Ext M := by
    rcases HJ.out.mean with h | ⟨S', h, k, k'⟩
    · rw [hS] at h; cases h
    · rw [hS] at h; cases h; exact ⟨k, by rw [← hMS]; exact k'⟩
  have rs : ∀ t W, (binOp .add t (.float .f64 (pF a)) (.float .f64 (pF b))).run Try.prog W = .ok (.float .f64 S) W := fun t W => run_float_arith W .add t .f64 _ _ _ hS
  have rm : ∀ t W, (binOp .quo t (.float .f64 S) (.float .f64 (allF a b))).run Try.prog W = .ok (.float .f64 M) W := by rw [← hMS]; exact fo_run hq
  have HM := Lib.hid hM
  have HX := Lib.hid hx.lt
  have HV := Lib.hid hV
  have HVX := Lib.hid HJ.out.varx.ext.lt
  obtain ⟨rall, rp, rq, rx, ry, rv, rnm, rw_, rd, rdd, rwd, rvw, rvar⟩ := JR.of HJ.out
  have K := Lib.hid (KJ.start w a b)
  have la := K.out.la
  have WA := Lib.hid wa
  have WB := Lib.hid wb
  have HA := Lib.hid ha
  have HB := Lib.hid hb
  have HN := Lib.hid hn
  have ca := may_c0 ha
  have cb := may_c0 hb
  have g1 : a.c ≤ 4611686018427387903 - b.c := by have := isN_of hn; omega
  have z0 : (a.c == 0) = false := by simp [h0]
  have z1 : (b.c == 0) = false := by simp [h1]
  clear wa wb ha hb hn h0 h1 hs hok hM hS hMS hq hx hV
  go_enter Try.func27, Try.ntmps27
  go_wp2_with (first | (go_at_call 48; (with_reducible refine (rmay_b a _ WA.out true HA.out).mono ?_); (rintro e w1 ⟨rfl, hb1⟩; have K1 := Lib.hid (K.out.keep hb1); have lb := K1.out.lb; clear hb1 la)) | (go_at_call 48; (with_reducible refine (rmay_b b _ WB.out true HB.out).mono ?_); (rintro e w2 ⟨rfl, hb2⟩; have K2 := Lib.hid (K1.out.keep hb2); clear hb2 lb; obtain ⟨⟨a0, a1, a2, a3, a4⟩, b0, b1, b2, b3, b4⟩ := K2.out.cells; obtain ⟨wS, fS, bS, lS⟩ := sa_new w2 ⟨a.c + b.c, 0, 0, a.l, a.o⟩; have K5 := Lib.hid (K4.start K2.out bS lS); simp only at fS; clear bS lS; obtain ⟨⟨ap0, ap1, ap2, ap3, ap4⟩, bp0, bp1, bp2, bp3, bp4⟩ := K5.out.kj.cells; obtain ⟨⟨sp1, sp2, sp3, sp4⟩, fp1, fp2, fp3, fp4⟩ := K5.out.cells; have K5a := Lib.hid (K5.out.put3 b.l); obtain ⟨⟨aa0, aa1, aa2, aa3, aa4⟩, ba0, ba1, ba2, ba3, ba4⟩ := K5a.out.kj.cells; obtain ⟨⟨sa1, sa2, sa3, sa4⟩, fa1, fa2, fa3, fa4⟩ := K5a.out.cells; have K5b := Lib.hid (K5a.out.put1 M); obtain ⟨⟨ab0, ab1, ab2, ab3, ab4⟩, bb0, bb1, bb2, bb3, bb4⟩ := K5b.out.kj.cells; obtain ⟨⟨sb1, sb2, sb3, sb4⟩, fb1, fb2, fb3, fb4⟩ := K5b.out.cells; have K5c := Lib.hid (K5b.out.put2 (varJ a b)); obtain ⟨⟨ac0, ac1, ac2, ac3, ac4⟩, bc0, bc1, bc2, bc3, bc4⟩ := K5c.out.kj.cells; obtain ⟨⟨sc1, sc2, sc3, sc4⟩, fc1, fc2, fc3, fc4⟩ := K5c.out.cells; simp only at sp1 sp2 sp3 sp4 sa1 sa2 sa3 sa4 sb1 sb2 sb3 sb4 sc1 sc2 sc3 sc4)) | (go_at_call 49; (with_reducible refine (rfin_b M _ HX.out true HM.out).mono ?_); (rintro e w3 ⟨rfl, nd1, rfl⟩)) | (go_at_call 49; (with_reducible refine (rfin_b (varJ a b) _ HVX.out false HV.out).mono ?_); (rintro e w4 ⟨rfl, nd2, rfl⟩; have K6 := Lib.hid (K5c.out.drewN (nd1 + nd2)); obtain ⟨w9, s9, b9, h9⟩ := KJ.ret K6.out.kj zSu; have B9 := Lib.hid b9; have H9 := Lib.hid h9; simp only [zSu] at s9; clear b9 h9)))
  exact bodyPost_ret (res_j rfl _ _ (w.heap.size + 2) (Su.list zSu) _ rfl rfl B9.out rfl) rfl (JPost.mk HS.out HE.out H9.out)
set_option maxHeartbeats 8000000 in
theorem j9t_ltle (a b : Su) (w : World) (wa : Su.wf a) (wb : Su.wf b) (ha : mayB a = true) (hb : mayB b = true) (hn : isN (a.c + b.c) = true) (h0 : a.c ≠ 0) (h1 : b.c ≠ 0) (M : Nat) (hs : meanJ a b = some M) (hM : finB M = true) (hV : finB (varJ a b) = true) (hl : b.l < a.l) (hm : b.o ≤ a.o) : Calls Try.prog 27 #[.agg #[.int .i64 a.c, .float .f64 a.m, .float .f64 a.v, .int .i64 a.l, .int .i64 a.o], .agg #[.int .i64 b.c, .float .f64 b.m, .float .f64 b.v, .int .i64 b.l, .int .i64 b.o]] w (JPost a b w) := by
  have hok : okJ a b = true := by unfold okJ; rw [hs]; show (finB M && _) = _; rw [hM, hV]; rfl
  have HJ := Lib.hid (join_def wa wb ha hb h0 h1 hn)
  have HE : Hid (joinE a b = 0) := Lib.hid (by unfold joinE; rw [if_neg (by rw [ha]; decide), if_neg (by rw [hb]; decide), if_neg (by rw [hn]; decide), if_neg h0, if_neg h1, if_pos hok])
  have HS : Hid (joinS a b = ⟨a.c + b.c, M, varJ a b, b.l, a.o⟩) := Lib.hid (by unfold joinS; rw [if_neg (by rw [HE.out]; decide), if_neg h0, if_neg h1, hs, Int.min_eq_right (by omega : b.l ≤ a.l), Int.max_eq_left hm]; rfl)
  obtain ⟨S, hS, hMS⟩ : ∃ S, sumO a b = some S ∧ fo .quo S (allF a b) = M := by
    unfold meanJ at hs
    obtain ⟨S, h, k⟩ := Option.map_eq_some_iff.1 hs
    exact ⟨S, h, k⟩
  obtain ⟨hq, hx⟩ : (floatBits .quo .f64 S (allF a b)).isSome ∧ Ext M := by
    rcases HJ.out.mean with h | ⟨S', h, k, k'⟩
    · rw [hS] at h; cases h
    · rw [hS] at h; cases h; exact ⟨k, by rw [← hMS]; exact k'⟩
  have rs : ∀ t W, (binOp .add t (.float .f64 (pF a)) (.float .f64 (pF b))).run Try.prog W = .ok (.float .f64 S) W := fun t W => run_float_arith W .add t .f64 _ _ _ hS
  have rm : ∀ t W, (binOp .quo t (.float .f64 S) (.float .f64 (allF a b))).run Try.prog W = .ok (.float .f64 M) W := by rw [← hMS]; exact fo_run hq
  have HM := Lib.hid hM
  have HX := Lib.hid hx.lt
  have HV := Lib.hid hV
  have HVX := Lib.hid HJ.out.varx.ext.lt
  obtain ⟨rall, rp, rq, rx, ry, rv, rnm, rw_, rd, rdd, rwd, rvw, rvar⟩ := JR.of HJ.out
  have K := Lib.hid (KJ.start w a b)
  have la := K.out.la
  have WA := Lib.hid wa
  have WB := Lib.hid wb
  have HA := Lib.hid ha
  have HB := Lib.hid hb
  have HN := Lib.hid hn
  have ca := may_c0 ha
  have cb := may_c0 hb
  have g1 : a.c ≤ 4611686018427387903 - b.c := by have := isN_of hn; omega
  have z0 : (a.c == 0) = false := by simp [h0]
  have z1 : (b.c == 0) = false := by simp [h1]
  clear wa wb ha hb hn h0 h1 hs hok hM hS hMS hq hx hV
  go_enter Try.func27, Try.ntmps27
  go_wp2_with (first | (go_at_call 48; (with_reducible refine (rmay_b a _ WA.out true HA.out).mono ?_); (rintro e w1 ⟨rfl, hb1⟩; have K1 := Lib.hid (K.out.keep hb1); have lb := K1.out.lb; clear hb1 la)) | (go_at_call 48; (with_reducible refine (rmay_b b _ WB.out true HB.out).mono ?_); (rintro e w2 ⟨rfl, hb2⟩; have K2 := Lib.hid (K1.out.keep hb2); clear hb2 lb; obtain ⟨⟨a0, a1, a2, a3, a4⟩, b0, b1, b2, b3, b4⟩ := K2.out.cells; obtain ⟨wS, fS, bS, lS⟩ := sa_new w2 ⟨a.c + b.c, 0, 0, a.l, a.o⟩; have K5 := Lib.hid (K4.start K2.out bS lS); simp only at fS; clear bS lS; obtain ⟨⟨ap0, ap1, ap2, ap3, ap4⟩, bp0, bp1, bp2, bp3, bp4⟩ := K5.out.kj.cells; obtain ⟨⟨sp1, sp2, sp3, sp4⟩, fp1, fp2, fp3, fp4⟩ := K5.out.cells; have K5a := Lib.hid (K5.out.put3 b.l); obtain ⟨⟨aa0, aa1, aa2, aa3, aa4⟩, ba0, ba1, ba2, ba3, ba4⟩ := K5a.out.kj.cells; obtain ⟨⟨sa1, sa2, sa3, sa4⟩, fa1, fa2, fa3, fa4⟩ := K5a.out.cells; have K5b := Lib.hid (K5a.out.put1 M); obtain ⟨⟨ab0, ab1, ab2, ab3, ab4⟩, bb0, bb1, bb2, bb3, bb4⟩ := K5b.out.kj.cells; obtain ⟨⟨sb1, sb2, sb3, sb4⟩, fb1, fb2, fb3, fb4⟩ := K5b.out.cells; have K5c := Lib.hid (K5b.out.put2 (varJ a b)); obtain ⟨⟨ac0, ac1, ac2, ac3, ac4⟩, bc0, bc1, bc2, bc3, bc4⟩ := K5c.out.kj.cells; obtain ⟨⟨sc1, sc2, sc3, sc4⟩, fc1, fc2, fc3, fc4⟩ := K5c.out.cells; simp only at sp1 sp2 sp3 sp4 sa1 sa2 sa3 sa4 sb1 sb2 sb3 sb4 sc1 sc2 sc3 sc4)) | (go_at_call 49; (with_reducible refine (rfin_b M _ HX.out true HM.out).mono ?_); (rintro e w3 ⟨rfl, nd1, rfl⟩)) | (go_at_call 49; (with_reducible refine (rfin_b (varJ a b) _ HVX.out true HV.out).mono ?_); (rintro e w4 ⟨rfl, nd2, rfl⟩; have K6 := Lib.hid (K5c.out.drewN (nd1 + nd2)); obtain ⟨w9, s9, b9, h9⟩ := KJ.ret K6.out.kj ⟨a.c + b.c, M, varJ a b, b.l, a.o⟩; have B9 := Lib.hid b9; have H9 := Lib.hid h9; simp only [zSu] at s9; clear b9 h9; have ls := K6.out.ls; simp only at ls)))
  exact bodyPost_ret (res_j rfl _ _ (w.heap.size + 2) (Su.list ⟨a.c + b.c, M, varJ a b, b.l, a.o⟩) _ rfl rfl B9.out rfl) rfl (JPost.mk HS.out HE.out H9.out)
end Go.Proofs.Ytmpjcjgdjimioaa.JoinR
