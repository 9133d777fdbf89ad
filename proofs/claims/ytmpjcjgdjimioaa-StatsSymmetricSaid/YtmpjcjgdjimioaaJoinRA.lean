/- Contract of ref29.Join. Written by wip/tpls/genjoin.py. -/
import Derived.Test.YtmpjcjgdjimioaaJoin
import Derived.BigQuiet
namespace Go.Proofs.Ytmpjcjgdjimioaa.JoinR
open Ieee Go.RowKit Go.Proofs.Ytmpjcjgdjimioaa.Aid Go.Proofs.Ytmpjcjgdjimioaa.Mem Go.Proofs.Ytmpjcjgdjimioaa.Nums Go.Proofs.Ytmpjcjgdjimioaa.Keep Go.Proofs.Ytmpjcjgdjimioaa.Has Go.Proofs.Ytmpjcjgdjimioaa.Recs Go.Proofs.Ytmpjcjgdjimioaa.Of Go.Proofs.Ytmpjcjgdjimioaa.Fl Go.Proofs.Ytmpjcjgdjimioaa.Fin Go.Proofs.Ytmpjcjgdjimioaa.RefOf Go.Proofs.Ytmpjcjgdjimioaa.SOf Go.Proofs.Ytmpjcjgdjimioaa.Quant Go.Proofs.Ytmpjcjgdjimioaa.Round Go.Proofs.Ytmpjcjgdjimioaa.May Go.Proofs.Ytmpjcjgdjimioaa.JoinP Go.Proofs.Ytmpjcjgdjimioaa.JoinD Go.Proofs.Ytmpjcjgdjimioaa.Join
set_option linter.unusedSimpArgs false
set_option linter.unusedVariables false
set_option maxRecDepth 100000
attribute [local go_sem ↓] store_sum load_sum
attribute [local go_sem] size_sets Of.run_store_float
theorem rmay_b (s : Su) (w : World) (hw : Su.wf s) (x : Bool) (h : mayB s = x) : Calls Try.prog 48 #[.agg #[.int .i64 s.c, .float .f64 s.m, .float .f64 s.v, .int .i64 s.l, .int .i64 s.o]] w fun e w' => e = .returned (.bool x) ∧ Below w.heap.size w w' := by
  subst h; exact rmay_c s w hw
set_option maxHeartbeats 8000000 in
theorem j1 (a b : Su) (w : World) (wa : Su.wf a) (wb : Su.wf b) (ha : mayB a = false) : Calls Try.prog 27 #[.agg #[.int .i64 a.c, .float .f64 a.m, .float .f64 a.v, .int .i64 a.l, .int .i64 a.o], .agg #[.int .i64 b.c, .float .f64 b.m, .float .f64 b.v, .int .i64 b.l, .int .i64 b.o]] w (JPost a b w) := by
  have HE : Hid (joinE a b = 1) := Lib.hid (by unfold joinE; rw [if_pos ha])
  have HS : Hid (joinS a b = zSu) := Lib.hid (by unfold joinS; rw [if_pos (by rw [HE.out]; decide)])
  have K := Lib.hid (KJ.start w a b)
  have la := K.out.la
  have WA := Lib.hid wa
  have WB := Lib.hid wb
  have HA := Lib.hid ha
  clear wa wb ha
  go_enter Try.func27, Try.ntmps27
  go_wp2_with (first | (go_at_call 48; (with_reducible refine (rmay_b a _ WA.out false HA.out).mono ?_); (rintro e w1 ⟨rfl, hb1⟩; obtain ⟨w9, s9, b9, h9⟩ := KJ.ret (K.out.keep hb1) zSu; have B9 := Lib.hid b9; have H9 := Lib.hid h9; clear b9 h9; clear hb1 la; simp only [zSu] at s9)))
  exact bodyPost_ret (res_j rfl _ _ (w.heap.size + 2) (Su.list zSu) _ rfl rfl B9.out rfl) rfl (JPost.mk HS.out HE.out H9.out)
set_option maxHeartbeats 8000000 in
theorem j2 (a b : Su) (w : World) (wa : Su.wf a) (wb : Su.wf b) (ha : mayB a = true) (hb : mayB b = false) : Calls Try.prog 27 #[.agg #[.int .i64 a.c, .float .f64 a.m, .float .f64 a.v, .int .i64 a.l, .int .i64 a.o], .agg #[.int .i64 b.c, .float .f64 b.m, .float .f64 b.v, .int .i64 b.l, .int .i64 b.o]] w (JPost a b w) := by
  have HE : Hid (joinE a b = 1) := Lib.hid (by unfold joinE; rw [if_neg (by rw [ha]; decide), if_pos hb])
  have HS : Hid (joinS a b = zSu) := Lib.hid (by unfold joinS; rw [if_pos (by rw [HE.out]; decide)])
  have K := Lib.hid (KJ.start w a b)
  have la := K.out.la
  have WA := Lib.hid wa
  have WB := Lib.hid wb
  have HA := Lib.hid ha
  have HB := Lib.hid hb
  clear wa wb ha hb
  go_enter Try.func27, Try.ntmps27
  go_wp2_with (first | (go_at_call 48; (with_reducible refine (rmay_b a _ WA.out true HA.out).mono ?_); (rintro e w1 ⟨rfl, hb1⟩; have K1 := Lib.hid (K.out.keep hb1); have lb := K1.out.lb; clear hb1 la)) | (go_at_call 48; (with_reducible refine (rmay_b b _ WB.out false HB.out).mono ?_); (rintro e w2 ⟨rfl, hb2⟩; obtain ⟨w9, s9, b9, h9⟩ := KJ.ret (K1.out.keep hb2) zSu; have B9 := Lib.hid b9; have H9 := Lib.hid h9; clear b9 h9; clear hb2 lb; simp only [zSu] at s9)))
  exact bodyPost_ret (res_j rfl _ _ (w.heap.size + 2) (Su.list zSu) _ rfl rfl B9.out rfl) rfl (JPost.mk HS.out HE.out H9.out)
set_option maxHeartbeats 8000000 in
theorem j3 (a b : Su) (w : World) (wa : Su.wf a) (wb : Su.wf b) (ha : mayB a = true) (hb : mayB b = true) (hn : isN (a.c + b.c) = false) : Calls Try.prog 27 #[.agg #[.int .i64 a.c, .float .f64 a.m, .float .f64 a.v, .int .i64 a.l, .int .i64 a.o], .agg #[.int .i64 b.c, .float .f64 b.m, .float .f64 b.v, .int .i64 b.l, .int .i64 b.o]] w (JPost a b w) := by
  have HE : Hid (joinE a b = 3) := Lib.hid (by unfold joinE; rw [if_neg (by rw [ha]; decide), if_neg (by rw [hb]; decide), if_pos hn])
  have HS : Hid (joinS a b = zSu) := Lib.hid (by unfold joinS; rw [if_pos (by rw [HE.out]; decide)])
  have K := Lib.hid (KJ.start w a b)
  have la := K.out.la
  have WA := Lib.hid wa
  have WB := Lib.hid wb
  have HA := Lib.hid ha
  have HB := Lib.hid hb
  have HN := Lib.hid hn
  have ca := may_c0 ha
  have cb := may_c0 hb
  have g1 : 4611686018427387903 - b.c < a.c := by have := isN_not hn; omega
  clear wa wb ha hb hn
  go_enter Try.func27, Try.ntmps27
  go_wp2_with (first | (go_at_call 48; (with_reducible refine (rmay_b a _ WA.out true HA.out).mono ?_); (rintro e w1 ⟨rfl, hb1⟩; have K1 := Lib.hid (K.out.keep hb1); have lb := K1.out.lb; clear hb1 la)) | (go_at_call 48; (with_reducible refine (rmay_b b _ WB.out true HB.out).mono ?_); (rintro e w2 ⟨rfl, hb2⟩; have K2 := Lib.hid (K1.out.keep hb2); clear hb2 lb; obtain ⟨⟨a0, a1, a2, a3, a4⟩, b0, b1, b2, b3, b4⟩ := K2.out.cells; obtain ⟨w9, s9, b9, h9⟩ := KJ.ret K2.out zSu; have B9 := Lib.hid b9; have H9 := Lib.hid h9; clear b9 h9; simp only [zSu] at s9)))
  exact bodyPost_ret (res_j rfl _ _ (w.heap.size + 2) (Su.list zSu) _ rfl rfl B9.out rfl) rfl (JPost.mk HS.out HE.out H9.out)
set_option maxHeartbeats 8000000 in
theorem j4 (a b : Su) (w : World) (wa : Su.wf a) (wb : Su.wf b) (ha : mayB a = true) (hb : mayB b = true) (hn : isN (a.c + b.c) = true) (h0 : a.c = 0) : Calls Try.prog 27 #[.agg #[.int .i64 a.c, .float .f64 a.m, .float .f64 a.v, .int .i64 a.l, .int .i64 a.o], .agg #[.int .i64 b.c, .float .f64 b.m, .float .f64 b.v, .int .i64 b.l, .int .i64 b.o]] w (JPost a b w) := by
  have HE : Hid (joinE a b = 0) := Lib.hid (by unfold joinE; rw [if_neg (by rw [ha]; decide), if_neg (by rw [hb]; decide), if_neg (by rw [hn]; decide), if_pos h0])
  have HS : Hid (joinS a b = b) := Lib.hid (by unfold joinS; rw [if_neg (by rw [HE.out]; decide), if_pos h0])
  have K := Lib.hid (KJ.start w a b)
  have la := K.out.la
  have WA := Lib.hid wa
  have WB := Lib.hid wb
  have HA := Lib.hid ha
  have HB := Lib.hid hb
  have HN := Lib.hid hn
  have ca := may_c0 ha
  have cb := may_c0 hb
  have g1 : a.c ≤ 4611686018427387903 - b.c := by have := isN_of hn; omega
  have z0 : (a.c == 0) = true := by simp [h0]
  clear wa wb ha hb hn h0
  go_enter Try.func27, Try.ntmps27
  go_wp2_with (first | (go_at_call 48; (with_reducible refine (rmay_b a _ WA.out true HA.out).mono ?_); (rintro e w1 ⟨rfl, hb1⟩; have K1 := Lib.hid (K.out.keep hb1); have lb := K1.out.lb; clear hb1 la)) | (go_at_call 48; (with_reducible refine (rmay_b b _ WB.out true HB.out).mono ?_); (rintro e w2 ⟨rfl, hb2⟩; have K2 := Lib.hid (K1.out.keep hb2); clear hb2 lb; obtain ⟨⟨a0, a1, a2, a3, a4⟩, b0, b1, b2, b3, b4⟩ := K2.out.cells; have lb := K2.out.lb; obtain ⟨w9, s9, b9, h9⟩ := KJ.ret K2.out b; have B9 := Lib.hid b9; have H9 := Lib.hid h9; clear b9 h9)))
  exact bodyPost_ret (res_j rfl _ _ (w.heap.size + 2) (Su.list b) _ rfl rfl B9.out rfl) rfl (JPost.mk HS.out HE.out H9.out)
set_option maxHeartbeats 8000000 in
theorem j5 (a b : Su) (w : World) (wa : Su.wf a) (wb : Su.wf b) (ha : mayB a = true) (hb : mayB b = true) (hn : isN (a.c + b.c) = true) (h0 : a.c ≠ 0) (h1 : b.c = 0) : Calls Try.prog 27 #[.agg #[.int .i64 a.c, .float .f64 a.m, .float .f64 a.v, .int .i64 a.l, .int .i64 a.o], .agg #[.int .i64 b.c, .float .f64 b.m, .float .f64 b.v, .int .i64 b.l, .int .i64 b.o]] w (JPost a b w) := by
  have HE : Hid (joinE a b = 0) := Lib.hid (by unfold joinE; rw [if_neg (by rw [ha]; decide), if_neg (by rw [hb]; decide), if_neg (by rw [hn]; decide), if_neg h0, if_pos h1])
  have HS : Hid (joinS a b = a) := Lib.hid (by unfold joinS; rw [if_neg (by rw [HE.out]; decide), if_neg h0, if_pos h1])
  have K := Lib.hid (KJ.start w a b)
  have la := K.out.la
  have WA := Lib.hid wa
  have WB := Lib.hid wb
  have HA := Lib.hid ha
  have HB := Lib.hid hb
  have HN := Lib.hid hn
  have ca := may_c0 ha
  have cb := may_c0 hb
  have g1 : a.c ≤ 4611686018427387903 - b.c := by have := isN_of hn; omega
  have z0 : (a.c == 0) = false := by simp [h0]
  have z1 : (b.c == 0) = true := by simp [h1]
  clear wa wb ha hb hn h0 h1
  go_enter Try.func27, Try.ntmps27
  go_wp2_with (first | (go_at_call 48; (with_reducible refine (rmay_b a _ WA.out true HA.out).mono ?_); (rintro e w1 ⟨rfl, hb1⟩; have K1 := Lib.hid (K.out.keep hb1); have lb := K1.out.lb; clear hb1 la)) | (go_at_call 48; (with_reducible refine (rmay_b b _ WB.out true HB.out).mono ?_); (rintro e w2 ⟨rfl, hb2⟩; have K2 := Lib.hid (K1.out.keep hb2); clear hb2 lb; obtain ⟨⟨a0, a1, a2, a3, a4⟩, b0, b1, b2, b3, b4⟩ := K2.out.cells; have la2 := K2.out.la; obtain ⟨w9, s9, b9, h9⟩ := KJ.ret K2.out a; have B9 := Lib.hid b9; have H9 := Lib.hid h9; clear b9 h9)))
  exact bodyPost_ret (res_j rfl _ _ (w.heap.size + 2) (Su.list a) _ rfl rfl B9.out rfl) rfl (JPost.mk HS.out HE.out H9.out)
end Go.Proofs.Ytmpjcjgdjimioaa.JoinR
