/- Histogram's contracts, told at once for all inputs. -/
import Derived.Test.YtbplgjocammnbabGreatRefH
import Derived.Test.YtbplgjocammnbabGreatTwo
import Derived.Test.YtbplgjocammnbabGreatTwinF
namespace Go.Proofs.YtbplgjocammnbabGreat.HG
open Go.RowKit Go.Proofs.YtbplgjocammnbabGreat.Aid Go.Proofs.YtbplgjocammnbabGreat.Mem Go.Proofs.YtbplgjocammnbabGreat.Keep Go.Proofs.YtbplgjocammnbabGreat.Twin Go.Proofs.YtbplgjocammnbabGreat.TwinF Go.Proofs.YtbplgjocammnbabGreat.Two Go.Proofs.YtbplgjocammnbabGreat.Cont Go.Proofs.YtbplgjocammnbabGreat.HistP Go.Proofs.YtbplgjocammnbabGreat.Hist Go.Proofs.YtbplgjocammnbabGreat.RefH
set_option linter.unusedSimpArgs false
set_option linter.unusedVariables false
set_option maxRecDepth 100000
/-- What is told: the counts, and the error. -/
def rL (es : List Nat) (l : List Int) : List Int := if es.any nanF = true then [] else if falls es = true then [] else hist es l
theorem hist_v (es : List Nat) (E : Option Addr) (n c : Nat) (l : List Int) (A : Option Addr) (m a : Nat) (w : World) (rs : List Int) (er : Int) (h : Flts w E n es) (hn : n ≤ 1048576) (hI : Ints w .i64 A m l) (hm : m ≤ 1048576) (hw : ∀ e ∈ es, e < 18446744073709551616) (hr : Hid (rL es l = rs)) (he : Hid (hE es = er)) :
    Calls Tryz.prog 8 #[.slice E n c, .slice A m a] w fun e w' => (∃ A' c', e = .returned (.tuple #[.slice A' rs.length c', .int .i64 er]) ∧ Own w' w.heap.size 3 1 (.slice A' rs.length c') rs.length (nums .i64 rs)) ∧ Below w.heap.size w w' := by
  obtain rfl := hr.out
  obtain rfl := he.out
  have hl := h.1
  by_cases h1 : es.any nanF = true
  · have el : rL es l = [] := by unfold rL; rw [if_pos h1]
    have ee : hE es = 1 := by unfold hE; rw [if_pos h1]
    rw [el, ee]
    refine (hist_nan es E n c A m a w h (by omega) h1).mono ?_
    rintro e w' ⟨rfl, hb⟩
    exact ⟨⟨_, _, ⟨rfl, Own.nil _ _ _ _⟩⟩, hb⟩
  · have h1' : es.any nanF = false := by simpa using h1
    refine (hist_more es E n c l A m a w h (by omega) hI (by omega) hw h1').mono ?_
    rintro e w' ⟨h4, h0, hb⟩
    by_cases h2 : falls es = true
    · have el : rL es l = [] := by unfold rL; rw [if_neg h1, if_pos h2]
      have ee : hE es = 4 := by unfold hE; rw [if_neg h1, if_pos h2]
      rw [el, ee]
      exact ⟨⟨_, _, ⟨h4 h2, Own.nil _ _ _ _⟩⟩, hb⟩
    · obtain ⟨g, rfl, hg, hB⟩ := h0 (by simpa using h2)
      have el : rL es l = hist es l := by unfold rL; rw [if_neg h1, if_neg h2]
      have ee : hE es = 0 := by unfold hE; rw [if_neg h1, if_neg h2]
      have hll : (hist es l).length = n + 1 := by rw [hist_length, hl]
      rw [el, ee, hll]
      exact ⟨⟨_, _, ⟨rfl, Own.of_blk hB (by simp [nums, hll]) hg (by unfold maxLen; omega)⟩⟩, hb⟩
theorem refh_v (es : List Nat) (E : Option Addr) (n c : Nat) (l : List Int) (A : Option Addr) (m a : Nat) (w : World) (rs : List Int) (er : Int) (h : Flts w E n es) (hn : n ≤ 1048576) (hI : Ints w .i64 A m l) (hm : m ≤ 1048576) (hw : ∀ e ∈ es, e < 18446744073709551616) (hr : Hid (rL es l = rs)) (he : Hid (hE es = er)) :
    Calls Tryz.prog 9 #[.slice E n c, .slice A m a] w fun e w' => (∃ A' c', e = .returned (.tuple #[.slice A' rs.length c', .int .i64 er]) ∧ Ints w' .i64 A' rs.length rs) ∧ Below w.heap.size w w' := by
  obtain rfl := hr.out
  obtain rfl := he.out
  have hl := h.1
  by_cases h1 : es.any nanF = true
  · have el : rL es l = [] := by unfold rL; rw [if_pos h1]
    have ee : hE es = 1 := by unfold hE; rw [if_pos h1]
    rw [el, ee]
    refine (refh_nan es E n c A m a w h (by omega) h1).mono ?_
    rintro e w' ⟨rfl, hb⟩
    exact ⟨⟨_, _, ⟨rfl, own_ints (Own.nil _ 0 _ _)⟩⟩, hb⟩
  · have h1' : es.any nanF = false := by simpa using h1
    refine (refh_more es E n c l A m a w h (by omega) hI (by omega) hw h1').mono ?_
    rintro e w' ⟨h4, h0, hb⟩
    by_cases h2 : falls es = true
    · have el : rL es l = [] := by unfold rL; rw [if_neg h1, if_pos h2]
      have ee : hE es = 4 := by unfold hE; rw [if_neg h1, if_pos h2]
      rw [el, ee]
      exact ⟨⟨_, _, ⟨h4 h2, own_ints (Own.nil _ 0 _ _)⟩⟩, hb⟩
    · obtain ⟨g, rfl, hg, hB⟩ := h0 (by simpa using h2)
      have el : rL es l = hist es l := by unfold rL; rw [if_neg h1, if_neg h2]
      have ee : hE es = 0 := by unfold hE; rw [if_neg h1, if_neg h2]
      have hll : (hist es l).length = n + 1 := by rw [hist_length, hl]
      rw [el, ee, hll]
      exact ⟨⟨_, _, ⟨rfl, own_ints (Own.of_blk hB (by simp [nums, hll]) (Nat.zero_le _) (by unfold maxLen; omega))⟩⟩, hb⟩
end Go.Proofs.YtbplgjocammnbabGreat.HG
