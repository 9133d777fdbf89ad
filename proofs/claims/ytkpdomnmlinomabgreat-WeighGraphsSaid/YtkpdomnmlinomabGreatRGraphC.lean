/- The document's Graph, told as one value. -/
import Derived.Test.YtkpdomnmlinomabGreatRGraphB
namespace Go.Proofs.YtkpdomnmlinomabGreat.RGraph
open Go.RowKit Go.Proofs.YtkpdomnmlinomabGreat.Aid Go.Proofs.YtkpdomnmlinomabGreat.Mem Go.Proofs.YtkpdomnmlinomabGreat.Types Go.Proofs.YtkpdomnmlinomabGreat.Mays Go.Proofs.YtkpdomnmlinomabGreat.Recs Go.Proofs.YtkpdomnmlinomabGreat.GrV
theorem rgraph_v (c : Cfg) (now : Int) (xs : List Wai) (ys : List Idl) (A B : Option Addr) (n m a b : Nat) (w : World) (hx : Recs w 18 A n (xs.map Wai.list)) (hy : Recs w 14 B m (ys.map Idl.list)) (wx : Hid (∀ x ∈ xs, x.wf)) (wy : Hid (∀ y ∈ ys, y.wf)) (hn : n ≤ 140737488351232) (hm : m ≤ 140737488351232) :
    Calls Tryz.prog 7 #[c.val, .int .i64 now, .slice A n a, .slice B m b] w (GVof c now xs ys n m w) := by
  rcases cfgErr_or c with hc | hc
  · by_cases t0 : now < 0
    · exact (rg_tick0 c now A B n m a b w hn hm (Lib.hid hc) t0).mono fun e w' ⟨he, hb⟩ => gv_err (by unfold gE; rw [if_neg (by rw [hc]; simp), if_pos (.inl t0)]) (by decide) he hb
    by_cases t1 : 1099511627776 < now
    · exact (rg_tick1 c now A B n m a b w hn hm (Lib.hid hc) t1).mono fun e w' ⟨he, hb⟩ => gv_err (by unfold gE; rw [if_neg (by rw [hc]; simp), if_pos (.inr t1)]) (by decide) he hb
    by_cases s0 : 64 < n
    · exact (rg_size0 c now A B n m a b w hn hm (Lib.hid hc) (by omega) (by omega) s0).mono fun e w' ⟨he, hb⟩ => gv_err (by unfold gE; rw [if_neg (by rw [hc]; simp), if_neg (by omega), if_pos (.inl s0)]) (by decide) he hb
    by_cases s1 : 64 < m
    · exact (rg_size1 c now A B n m a b w hn hm (Lib.hid hc) (by omega) (by omega) (by omega) s1).mono fun e w' ⟨he, hb⟩ => gv_err (by unfold gE; rw [if_neg (by rw [hc]; simp), if_neg (by omega), if_pos (.inr s1)]) (by decide) he hb
    exact (rg_main c now xs ys A B n m a b w hx hy wx.out wy.out (Lib.hid hc) (by omega) (by omega) (by omega) (by omega)).mono fun e w' h => gv_of hc (by omega) (by omega) (by omega) (by omega) h
  · exact (rg_cfg c now A B n m a b w hn hm (Lib.hid hc)).mono fun e w' ⟨he, hb⟩ => gv_err (by unfold gE; rw [if_pos (by rw [hc]; decide)]) (by decide) he hb
end Go.Proofs.YtkpdomnmlinomabGreat.RGraph
