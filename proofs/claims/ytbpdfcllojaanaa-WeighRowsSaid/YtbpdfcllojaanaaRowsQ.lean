/- WeighRows: a graph that is answered may be. -/
import Derived.Test.YtbpdfcllojaanaaRowsP
namespace Go.Proofs.Ytbpdfcllojaanaa.RowsP
open Go.RowKit Go.Proofs.Ytbpdfcllojaanaa.Aid Go.Proofs.Ytbpdfcllojaanaa.Mem Go.Proofs.Ytbpdfcllojaanaa.Types Go.Proofs.Ytbpdfcllojaanaa.Mays Go.Proofs.Ytbpdfcllojaanaa.Weight Go.Proofs.Ytbpdfcllojaanaa.Weights Go.Proofs.Ytbpdfcllojaanaa.Recs Go.Proofs.Ytbpdfcllojaanaa.Graph Go.Proofs.Ytbpdfcllojaanaa.GraphB Go.Proofs.Ytbpdfcllojaanaa.PairsG Go.Proofs.Ytbpdfcllojaanaa.Check
set_option linter.unusedSimpArgs false
set_option linter.unusedVariables false
theorem wV_in {c : Cfg} {now : Int} {x : Wai} (hc : cfgErr c = 0) (h : wE c now x = 0) : 1 ≤ wV c now x ∧ wV c now x ≤ 1099513724929 := by
  unfold wE at h
  split at h
  · next h1 =>
    split at h
    · next h2 =>
      split at h
      · next h3 =>
        unfold wV
        rw [if_pos ⟨h1, h2, h3⟩]
        unfold checkErr at h1
        rw [if_pos hc] at h1
        unfold reqErr at h1
        split at h1
        · next h4 =>
          unfold cfgErr at hc
          split at hc
          · next h5 =>
            have e1 : (rq x).base = x.base := rfl
            have e2 : (rq x).ttl = x.ttl := rfl
            rw [e1, e2] at h4
            have p0 : 0 ≤ (now - x.since) * (c.b + 1) := Int.mul_nonneg (by omega) (by omega)
            have p1 : (now - x.since) * (c.b + 1) ≤ 1048576 * 1048577 := Int.mul_le_mul (by omega) (by omega) (by omega) (by omega)
            omega
          · exact absurd hc (by decide)
        · exact absurd h1 (by decide)
      · exact absurd h (by decide)
    · exact absurd h (by decide)
  · next h1 => exact absurd h h1
theorem all_col {xs : List Wai} {ys : List Idl} {n i j : Nat} (h : (i, j) ∈ allP xs ys n) : j < ys.length := by
  unfold allP at h
  obtain ⟨a, _, hb⟩ := List.mem_flatMap.1 h
  unfold innerP at hb
  obtain ⟨b, hb2, e⟩ := List.mem_map.1 hb
  injection e with e1 e2
  have := List.mem_range.1 (List.mem_filter.1 hb2).1
  omega
theorem graph_ok {c : Cfg} {now : Int} {xs : List Wai} {ys : List Idl} {n m : Nat} (hc : cfgErr c = 0) (lx : xs.length = n) (ly : ys.length = m) (hn : n ≤ 64) (hm : m ≤ 64) (hz : ∀ (j : Nat) (y : Wai), xs[j]? = some y → wE c now y = 0) :
    gErr (n : Int) (m : Int) (edgs (wts c now xs) (allP xs ys n)) = 0 := by
  unfold gErr gOk
  rw [ok_all _ _ (all_lex xs ys n) (fun p hp => ?_) (fun p hp => ?_)]
  · rw [decide_eq_true (by omega)]; rfl
  · have h1 := all_mem (i := p.1) (j := p.2) hp
    have h2 := all_col (i := p.1) (j := p.2) hp
    obtain ⟨x, hx⟩ : ∃ x, xs[p.1]? = some x := ⟨_, List.getElem?_eq_getElem (by omega)⟩
    have e : wAt (wts c now xs) p.1 = wV c now x := by unfold wAt wts; rw [List.getElem?_map, hx]; rfl
    have hw := wV_in hc (hz _ _ hx)
    unfold eOk
    dsimp only
    rw [e]
    omega
  · unfold aft e0
    dsimp only
    omega
end Go.Proofs.Ytbpdfcllojaanaa.RowsP
