/- Contract of ref29.Join. Written by wip/tpls/genjoin.py. -/
import Derived.Test.YtmpjcjgdjimioaaJoinRB
import Derived.Test.YtmpjcjgdjimioaaJoinRC
import Derived.Test.YtmpjcjgdjimioaaJoinRD
import Derived.Test.YtmpjcjgdjimioaaJoinRE
import Derived.BigQuiet
namespace Go.Proofs.Ytmpjcjgdjimioaa.JoinR
open Ieee Go.RowKit Go.Proofs.Ytmpjcjgdjimioaa.Aid Go.Proofs.Ytmpjcjgdjimioaa.Mem Go.Proofs.Ytmpjcjgdjimioaa.Nums Go.Proofs.Ytmpjcjgdjimioaa.Keep Go.Proofs.Ytmpjcjgdjimioaa.Has Go.Proofs.Ytmpjcjgdjimioaa.Recs Go.Proofs.Ytmpjcjgdjimioaa.Of Go.Proofs.Ytmpjcjgdjimioaa.Fl Go.Proofs.Ytmpjcjgdjimioaa.Fin Go.Proofs.Ytmpjcjgdjimioaa.RefOf Go.Proofs.Ytmpjcjgdjimioaa.SOf Go.Proofs.Ytmpjcjgdjimioaa.Quant Go.Proofs.Ytmpjcjgdjimioaa.Round Go.Proofs.Ytmpjcjgdjimioaa.May Go.Proofs.Ytmpjcjgdjimioaa.JoinP Go.Proofs.Ytmpjcjgdjimioaa.JoinD Go.Proofs.Ytmpjcjgdjimioaa.Join
set_option linter.unusedSimpArgs false
set_option linter.unusedVariables false
set_option maxRecDepth 100000
attribute [local go_sem ↓] store_sum load_sum
attribute [local go_sem] size_sets Of.run_store_float
theorem refJoin_c (a b : Su) (w : World) (wa : Su.wf a) (wb : Su.wf b) : Calls Try.prog 27 #[.agg #[.int .i64 a.c, .float .f64 a.m, .float .f64 a.v, .int .i64 a.l, .int .i64 a.o], .agg #[.int .i64 b.c, .float .f64 b.m, .float .f64 b.v, .int .i64 b.l, .int .i64 b.o]] w (JPost a b w) := by
  cases ha : mayB a
  · exact j1 a b w wa wb ha
  cases hb : mayB b
  · exact j2 a b w wa wb ha hb
  cases hn : isN (a.c + b.c)
  · exact j3 a b w wa wb ha hb hn
  by_cases h0 : a.c = 0
  · exact j4 a b w wa wb ha hb hn h0
  by_cases h1 : b.c = 0
  · exact j5 a b w wa wb ha hb hn h0 h1
  cases hs : sumO a b with
  | none =>
      rcases Int.lt_or_le b.l a.l with hl | hl <;> rcases Int.lt_or_le a.o b.o with hv | hv
      · exact j9n_ltgt a b w wa wb ha hb hn h0 h1 hs hl hv
      · exact j9n_ltle a b w wa wb ha hb hn h0 h1 hs hl hv
      · exact j9n_gegt a b w wa wb ha hb hn h0 h1 hs hl hv
      · exact j9n_gele a b w wa wb ha hb hn h0 h1 hs hl hv
  | some S =>
    have hm : meanJ a b = some (fo .quo S (allF a b)) := by unfold meanJ; rw [hs]; rfl
    cases hM : finB (fo .quo S (allF a b)) with
    | false =>
      rcases Int.lt_or_le b.l a.l with hl | hl <;> rcases Int.lt_or_le a.o b.o with hv | hv
      · exact j9m_ltgt a b w wa wb ha hb hn h0 h1 _ hm hM hl hv
      · exact j9m_ltle a b w wa wb ha hb hn h0 h1 _ hm hM hl hv
      · exact j9m_gegt a b w wa wb ha hb hn h0 h1 _ hm hM hl hv
      · exact j9m_gele a b w wa wb ha hb hn h0 h1 _ hm hM hl hv
    | true =>
    cases hV : finB (varJ a b) with
    | false =>
      rcases Int.lt_or_le b.l a.l with hl | hl <;> rcases Int.lt_or_le a.o b.o with hv | hv
      · exact j9v_ltgt a b w wa wb ha hb hn h0 h1 _ hm hM hV hl hv
      · exact j9v_ltle a b w wa wb ha hb hn h0 h1 _ hm hM hV hl hv
      · exact j9v_gegt a b w wa wb ha hb hn h0 h1 _ hm hM hV hl hv
      · exact j9v_gele a b w wa wb ha hb hn h0 h1 _ hm hM hV hl hv
    | true =>
      rcases Int.lt_or_le b.l a.l with hl | hl <;> rcases Int.lt_or_le a.o b.o with hv | hv
      · exact j9t_ltgt a b w wa wb ha hb hn h0 h1 _ hm hM hV hl hv
      · exact j9t_ltle a b w wa wb ha hb hn h0 h1 _ hm hM hV hl hv
      · exact j9t_gegt a b w wa wb ha hb hn h0 h1 _ hm hM hV hl hv
      · exact j9t_gele a b w wa wb ha hb hn h0 h1 _ hm hM hV hl hv
end Go.Proofs.Ytmpjcjgdjimioaa.JoinR
