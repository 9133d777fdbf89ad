/- The chapter's examples: lives() is true. -/
import Derived.Test.YtbplgjocammnbaaGreatHist
import Derived.Test.YtbplgjocammnbaaGreatWaits
import Derived.Test.YtbplgjocammnbaaGreatLeft
import Derived.Deep.RegionHeld3
namespace Go.Proofs.YtbplgjocammnbaaGreat.Lives
open Ieee Go.RowKit Go.Proofs.YtbplgjocammnbaaGreat.Aid Go.Proofs.YtbplgjocammnbaaGreat.Mem Go.Proofs.YtbplgjocammnbaaGreat.Keep Go.Proofs.YtbplgjocammnbaaGreat.Has Go.Proofs.YtbplgjocammnbaaGreat.Recs Go.Proofs.YtbplgjocammnbaaGreat.Of Go.Proofs.YtbplgjocammnbaaGreat.Fl Go.Proofs.YtbplgjocammnbaaGreat.Fin Go.Proofs.YtbplgjocammnbaaGreat.Search Go.Proofs.YtbplgjocammnbaaGreat.Sorts Go.Proofs.YtbplgjocammnbaaGreat.Cont Go.Proofs.YtbplgjocammnbaaGreat.HistP Go.Proofs.YtbplgjocammnbaaGreat.Quant Go.Proofs.YtbplgjocammnbaaGreat.Hist Go.Proofs.YtbplgjocammnbaaGreat.Waits Go.Proofs.YtbplgjocammnbaaGreat.Twin
set_option linter.unusedSimpArgs false
set_option linter.unusedVariables false
set_option maxRecDepth 100000
theorem of1 : ofE [1, 2, 4] = 0 ∧ ofA [1, 2, 4] 3 = #[.int .i64 3, .float .f64 4612436618365282987, .float .f64 4609684418593001016, .int .i64 1, .int .i64 4] := by
  have h1 : meanF [1, 2, 4] 3 = 4612436618365282987 := by decide +kernel
  have h2 : varF [1, 2, 4] 3 = 4609684418593001016 := by decide +kernel
  have h0 : ofE [1, 2, 4] = 0 := by decide
  refine ⟨h0, ?_⟩
  rw [ofA_ok h0 (by decide), h1, h2]
  rfl
theorem srt1 : srt [4, 1, 3, 2] = [1, 2, 3, 4] := by
  have h1 := srt_sorted [4, 1, 3, 2]
  have h2 : (srt [4, 1, 3, 2]).Perm [1, 2, 3, 4] := (srt_perm _).trans (by decide)
  exact h2.eq_of_pairwise (le := (· ≤ ·)) (fun a b _ _ h h' => Int.le_antisymm h h') h1 (by decide)
theorem from1 {k : Nat} (h : From (enough (want 4598355363530371236 4)) 3 k) : k = 1 := by
  have e0 : enough (want 4598355363530371236 4) 0 = false := by decide +kernel
  have e1 : enough (want 4598355363530371236 4) 1 = true := by decide +kernel
  obtain ⟨h1, h2, h3⟩ := h
  rcases Nat.lt_trichotomy k 1 with h | h | h
  · have := h3 0 (by omega) (by decide)
    rw [e0] at this; cases this
  · exact h
  · have := h2 1 h
    rw [e1] at this; cases this
theorem hist1 : hist [0, 4612811918334230528] [1, 2, 3, -1, 0, 3] = [1, 3, 2] ∧ [0, 4612811918334230528].any nanF = false ∧ falls [0, 4612811918334230528] = false := by decide +kernel
theorem lit_ints (w : World) (t : TypeId) (xs : List Int) : Ints (w.alloc (.cells (nums .i64 xs).toArray t)) .i64 (some ⟨w.heap.size, 0, none⟩) xs.length xs := by
  have h := Blk.new w t (nums .i64 xs)
  exact twin_reads (t := t) (r := []) (by simpa using h) rfl
theorem lit_at {w : World} {g : Nat} (hg : w.heap.size = g) (t : TypeId) (l : List Value) : Blk (w.alloc (.cells l.toArray t)) g t l := by subst hg; exact Blk.new w t l
theorem lit_is {w : World} {g : Nat} {t : TypeId} {xs : List Int} (h : Blk w g t (nums .i64 xs)) : Ints w .i64 (some ⟨g, 0, none⟩) xs.length xs := twin_reads (t := t) (r := []) (by simpa using h) rfl
theorem of_ex (w : World) (g : Nat) (h : Blk w g 3 [.int .i64 1, .int .i64 2, .int .i64 4]) : Calls Tryz.prog 94 #[.slice (some ⟨g, 0, none⟩) 3 3] w fun e w' => e = .returned (.tuple #[.agg #[.int .i64 3, .float .f64 4612436618365282987, .float .f64 4609684418593001016, .int .i64 1, .int .i64 4], .int .i64 0]) ∧ Below w.heap.size w w' := by
  refine (of_any [1, 2, 4] _ 3 3 _ (lit_is (xs := [1, 2, 4]) h) (by decide)).mono ?_
  rintro e w' ⟨rfl, hb⟩
  rw [of1.1, of1.2]
  exact ⟨rfl, hb⟩
theorem quant_ex (w : World) (g : Nat) (h : Blk w g 3 [.int .i64 4, .int .i64 1, .int .i64 3, .int .i64 2]) : Calls Tryz.prog 95 #[.float .f64 4598355363530371236, .slice (some ⟨g, 0, none⟩) 4 4] w fun e w' => e = .returned (.tuple #[.int .i64 2, .int .i64 0]) ∧ Below w.heap.size w w' := by
  refine (quant_ok 4598355363530371236 [4, 1, 3, 2] _ 4 4 _ (lit_is (xs := [4, 1, 3, 2]) h) (by decide) (by decide) (by decide) (by decide +kernel)).mono ?_
  rintro e w' ⟨⟨k, hk, rfl⟩, hb⟩
  obtain rfl := from1 hk
  rw [srt1]
  exact ⟨rfl, hb⟩
theorem hist_ex (w : World) (g f : Nat) (h0 : Blk w g 85 [.float .f64 0, .float .f64 4612811918334230528]) (h1 : Blk w f 3 [.int .i64 1, .int .i64 2, .int .i64 3, .int .i64 (-1), .int .i64 0, .int .i64 3]) : Calls Tryz.prog 96 #[.slice (some ⟨g, 0, none⟩) 2 2, .slice (some ⟨f, 0, none⟩) 6 6] w fun e w' => ∃ g, e = .returned (.tuple #[.slice (some ⟨g, 0, none⟩) 3 3, .int .i64 0]) ∧ Ints w' .i64 (some ⟨g, 0, none⟩) 3 [1, 3, 2] ∧ Below w.heap.size w w' := by
  refine (hist_more [0, 4612811918334230528] _ 2 2 [1, 2, 3, -1, 0, 3] _ 6 6 _ (Flts.of_blk (xs := [0, 4612811918334230528]) (r := []) h0) (by decide) (lit_is (xs := [1, 2, 3, -1, 0, 3]) h1) (by decide) (by decide) hist1.2.1).mono ?_
  rintro e w' ⟨_, h, hb⟩
  obtain ⟨g, rfl, hg, hk⟩ := h hist1.2.2
  rw [hist1.1] at hk
  exact ⟨g, rfl, lit_is (xs := [1, 3, 2]) hk, hb⟩
def wl (s : Int) : List Value := [.int .u8 0, .int .u8 0, .int .u8 0, .int .u8 0, .int .u8 0, .int .u8 0, .int .u8 0, .int .u8 0, .int .i16 0, .int .i16 0, .int .i16 0, .int .i16 0, .int .u8 0, .int .u8 0, .int .i64 0, .int .i64 0, .int .i64 s, .int .i64 0]
def x1 : Rc := ⟨[3, 7], [(0, 0), (1, 1), (5, 2)]⟩
theorem waits_ex (w : World) (g a b : Nat) (h : Recs w 9 (some ⟨g, 0, none⟩) 1 ([(⟨9, some ⟨a, 0, none⟩, 2, 2, none, 0, 0, 0, 0, none, 0, 0, some ⟨b, 0, none⟩, 3, 3, none, 0, 0, none, 0, 0⟩ : Row)].map Row.list)) (ha : Blk w a 81 (wl 3 ++ wl 7)) (hb : Blk w b 72 [.int .i64 0, .int .i64 0, .int .i64 1, .int .i64 1, .int .i64 5, .int .i64 2]) :
    Calls Tryz.prog 6 #[.slice (some ⟨g, 0, none⟩) 1 1] w fun e w' => ∃ A c, e = .returned (.slice A 2 c) ∧ Ints w' .i64 A 2 [6, 2] ∧ Below w.heap.size w w' := by
  refine (waits_c _ [x1] _ 1 1 w h rfl (fun j r x hr hx => ?_) (by decide) (show (2 : Nat) + 1 ≤ _ by decide)).mono ?_
  · match j with
    | j + 1 => simp at hx
    | 0 =>
      simp at hr hx; subst hr; subst hx
      refine ⟨⟨rfl, fun k s hs => ⟨_, rfl, ?_⟩, ?_⟩, by dsimp only; decide, by dsimp only; decide, by dsimp only; decide, by dsimp only; decide⟩
      · rw [add_at]
        match k with
        | 0 => simp [x1] at hs; subst hs; exact ha.cellv rfl
        | 1 => simp [x1] at hs; subst hs; exact ha.cellv rfl
        | k + 2 => simp [x1] at hs
      · exact Recs.of_blk (r := []) (t := 72) (xs := x1.ps.map pl) (by intro l hl; simp [x1] at hl; rcases hl with rfl | rfl | rfl <;> rfl) hb
  · rintro e w' ⟨v, rfl, ho, hbel⟩
    have e1 : waitA [(⟨9, some ⟨a, 0, none⟩, 2, 2, none, 0, 0, 0, 0, none, 0, 0, some ⟨b, 0, none⟩, 3, 3, none, 0, 0, none, 0, 0⟩ : Row)] [x1] = [6, 2] := rfl
    rw [e1] at ho
    obtain ⟨A, c, rfl, hi⟩ := ho.ints
    exact ⟨A, c, rfl, hi, hbel⟩
/-- The summary's box. -/
def KV (w : World) (g : Nat) (W : World) : Prop := Has w [(g, 87, [.int .i64 3, .float .f64 4612436618365282987, .float .f64 4609684418593001016, .int .i64 1, .int .i64 4])] W
theorem KV.start (w w1 : World) (h : Below w.heap.size w w1) : KV w w1.heap.size (w1.alloc (.cells #[.int .i64 3, .float .f64 4612436618365282987, .float .f64 4609684418593001016, .int .i64 1, .int .i64 4] 87)) := by
  refine ⟨fun x hx => ?_, h.alloc h.size _⟩
  simp at hx; subst hx
  exact Blk.new w1 _ _
theorem KV.keep {w W W' : World} {g : Nat} (h : KV w g W) (hb : Below W.heap.size W W') : KV w g W' := Has.keep h hb
theorem KV.cell {w W : World} {g : Nat} (h : KV w g W) (i : Nat) : W.cell? ⟨g, i, none⟩ = [Value.int .i64 3, .float .f64 4612436618365282987, .float .f64 4609684418593001016, .int .i64 1, .int .i64 4][i]? := Has.cell h List.mem_cons_self i
/-- The record is read out of its box. -/
theorem rec_load (w : World) : (LA 68 (.pointer (some ⟨w.heap.size + 1, 0, none⟩))).run Tryz.prog (((w.alloc (.cells #[.int .u8 0, .int .u8 0, .int .u8 0, .int .u8 0, .int .u8 0, .int .u8 0, .int .u8 0, .int .u8 0, .int .i16 0, .int .i16 0, .int .i16 0, .int .i16 0, .int .u8 0, .int .u8 0, .int .i64 0, .int .i64 0, .int .i64 3, .int .i64 0, .int .u8 0, .int .u8 0, .int .u8 0, .int .u8 0, .int .u8 0, .int .u8 0, .int .u8 0, .int .u8 0, .int .i16 0, .int .i16 0, .int .i16 0, .int .i16 0, .int .u8 0, .int .u8 0, .int .i64 0, .int .i64 0, .int .i64 7, .int .i64 0] 81)).alloc (.cells #[.int .i64 9, .slice (some ⟨w.heap.size, 0, none⟩) 2 2, .slice none 0 0, .int .i64 0, .int .i64 0, .slice none 0 0, .slice (some ⟨w.heap.size + 1 + 1, 0, none⟩) 3 3, .slice none 0 0, .slice none 0 0] 68)).alloc (.cells #[.int .i64 0, .int .i64 0, .int .i64 1, .int .i64 1, .int .i64 5, .int .i64 2] 72)) = .ok (.agg #[.int .i64 9, .slice (some ⟨w.heap.size, 0, none⟩) 2 2, .slice none 0 0, .int .i64 0, .int .i64 0, .slice none 0 0, .slice (some ⟨w.heap.size + 1 + 1, 0, none⟩) 3 3, .slice none 0 0, .slice none 0 0]) (((w.alloc (.cells #[.int .u8 0, .int .u8 0, .int .u8 0, .int .u8 0, .int .u8 0, .int .u8 0, .int .u8 0, .int .u8 0, .int .i16 0, .int .i16 0, .int .i16 0, .int .i16 0, .int .u8 0, .int .u8 0, .int .i64 0, .int .i64 0, .int .i64 3, .int .i64 0, .int .u8 0, .int .u8 0, .int .u8 0, .int .u8 0, .int .u8 0, .int .u8 0, .int .u8 0, .int .u8 0, .int .i16 0, .int .i16 0, .int .i16 0, .int .i16 0, .int .u8 0, .int .u8 0, .int .i64 0, .int .i64 0, .int .i64 7, .int .i64 0] 81)).alloc (.cells #[.int .i64 9, .slice (some ⟨w.heap.size, 0, none⟩) 2 2, .slice none 0 0, .int .i64 0, .int .i64 0, .slice none 0 0, .slice (some ⟨w.heap.size + 1 + 1, 0, none⟩) 3 3, .slice none 0 0, .slice none 0 0] 68)).alloc (.cells #[.int .i64 0, .int .i64 0, .int .i64 1, .int .i64 1, .int .i64 5, .int .i64 2] 72)) := by
  refine loads_box Tryz.underlying68 rfl (by show _ = some 9; kernel_rfl) (fun i => ?_)
  have h := (lit_at (w := w.alloc (.cells #[.int .u8 0, .int .u8 0, .int .u8 0, .int .u8 0, .int .u8 0, .int .u8 0, .int .u8 0, .int .u8 0, .int .i16 0, .int .i16 0, .int .i16 0, .int .i16 0, .int .u8 0, .int .u8 0, .int .i64 0, .int .i64 0, .int .i64 3, .int .i64 0, .int .u8 0, .int .u8 0, .int .u8 0, .int .u8 0, .int .u8 0, .int .u8 0, .int .u8 0, .int .u8 0, .int .i16 0, .int .i16 0, .int .i16 0, .int .i16 0, .int .u8 0, .int .u8 0, .int .i64 0, .int .i64 0, .int .i64 7, .int .i64 0] 81)) (g := w.heap.size + 1) (by simp) 68 [.int .i64 9, .slice (some ⟨w.heap.size, 0, none⟩) 2 2, .slice none 0 0, .int .i64 0, .int .i64 0, .slice none 0 0, .slice (some ⟨w.heap.size + 1 + 1, 0, none⟩) 3 3, .slice none 0 0, .slice none 0 0]).alloc (.cells #[.int .i64 0, .int .i64 0, .int .i64 1, .int .i64 1, .int .i64 5, .int .i64 2] 72)
  have := h.cell i
  simpa using this
theorem waits_3 (w : World) : Calls Tryz.prog 6 #[.slice (some ⟨w.heap.size + 1 + 1 + 1, 0, none⟩) 1 1] ((((w.alloc (.cells #[.int .u8 0, .int .u8 0, .int .u8 0, .int .u8 0, .int .u8 0, .int .u8 0, .int .u8 0, .int .u8 0, .int .i16 0, .int .i16 0, .int .i16 0, .int .i16 0, .int .u8 0, .int .u8 0, .int .i64 0, .int .i64 0, .int .i64 3, .int .i64 0, .int .u8 0, .int .u8 0, .int .u8 0, .int .u8 0, .int .u8 0, .int .u8 0, .int .u8 0, .int .u8 0, .int .i16 0, .int .i16 0, .int .i16 0, .int .i16 0, .int .u8 0, .int .u8 0, .int .i64 0, .int .i64 0, .int .i64 7, .int .i64 0] 81)).alloc (.cells #[.int .i64 9, .slice (some ⟨w.heap.size, 0, none⟩) 2 2, .slice none 0 0, .int .i64 0, .int .i64 0, .slice none 0 0, .slice (some ⟨w.heap.size + 1 + 1, 0, none⟩) 3 3, .slice none 0 0, .slice none 0 0] 68)).alloc (.cells #[.int .i64 0, .int .i64 0, .int .i64 1, .int .i64 1, .int .i64 5, .int .i64 2] 72)).alloc (.cells #[.int .i64 9, .slice (some ⟨w.heap.size, 0, none⟩) 2 2, .slice none 0 0, .int .i64 0, .int .i64 0, .slice none 0 0, .slice (some ⟨w.heap.size + 1 + 1, 0, none⟩) 3 3, .slice none 0 0, .slice none 0 0] 68)) fun e w' => ∃ A c, e = .returned (.slice A 2 c) ∧ Ints w' .i64 A 2 [6, 2] ∧ Below w.heap.size w w' := by
  have h1 : Blk ((((w.alloc (.cells #[.int .u8 0, .int .u8 0, .int .u8 0, .int .u8 0, .int .u8 0, .int .u8 0, .int .u8 0, .int .u8 0, .int .i16 0, .int .i16 0, .int .i16 0, .int .i16 0, .int .u8 0, .int .u8 0, .int .i64 0, .int .i64 0, .int .i64 3, .int .i64 0, .int .u8 0, .int .u8 0, .int .u8 0, .int .u8 0, .int .u8 0, .int .u8 0, .int .u8 0, .int .u8 0, .int .i16 0, .int .i16 0, .int .i16 0, .int .i16 0, .int .u8 0, .int .u8 0, .int .i64 0, .int .i64 0, .int .i64 7, .int .i64 0] 81)).alloc (.cells #[.int .i64 9, .slice (some ⟨w.heap.size, 0, none⟩) 2 2, .slice none 0 0, .int .i64 0, .int .i64 0, .slice none 0 0, .slice (some ⟨w.heap.size + 1 + 1, 0, none⟩) 3 3, .slice none 0 0, .slice none 0 0] 68)).alloc (.cells #[.int .i64 0, .int .i64 0, .int .i64 1, .int .i64 1, .int .i64 5, .int .i64 2] 72)).alloc (.cells #[.int .i64 9, .slice (some ⟨w.heap.size, 0, none⟩) 2 2, .slice none 0 0, .int .i64 0, .int .i64 0, .slice none 0 0, .slice (some ⟨w.heap.size + 1 + 1, 0, none⟩) 3 3, .slice none 0 0, .slice none 0 0] 68)) w.heap.size 81 (wl 3 ++ wl 7) := (((lit_at rfl _ (wl 3 ++ wl 7)).alloc _).alloc _).alloc _
  have h2 : Blk ((((w.alloc (.cells #[.int .u8 0, .int .u8 0, .int .u8 0, .int .u8 0, .int .u8 0, .int .u8 0, .int .u8 0, .int .u8 0, .int .i16 0, .int .i16 0, .int .i16 0, .int .i16 0, .int .u8 0, .int .u8 0, .int .i64 0, .int .i64 0, .int .i64 3, .int .i64 0, .int .u8 0, .int .u8 0, .int .u8 0, .int .u8 0, .int .u8 0, .int .u8 0, .int .u8 0, .int .u8 0, .int .i16 0, .int .i16 0, .int .i16 0, .int .i16 0, .int .u8 0, .int .u8 0, .int .i64 0, .int .i64 0, .int .i64 7, .int .i64 0] 81)).alloc (.cells #[.int .i64 9, .slice (some ⟨w.heap.size, 0, none⟩) 2 2, .slice none 0 0, .int .i64 0, .int .i64 0, .slice none 0 0, .slice (some ⟨w.heap.size + 1 + 1, 0, none⟩) 3 3, .slice none 0 0, .slice none 0 0] 68)).alloc (.cells #[.int .i64 0, .int .i64 0, .int .i64 1, .int .i64 1, .int .i64 5, .int .i64 2] 72)).alloc (.cells #[.int .i64 9, .slice (some ⟨w.heap.size, 0, none⟩) 2 2, .slice none 0 0, .int .i64 0, .int .i64 0, .slice none 0 0, .slice (some ⟨w.heap.size + 1 + 1, 0, none⟩) 3 3, .slice none 0 0, .slice none 0 0] 68)) (w.heap.size + 1 + 1) 72 [.int .i64 0, .int .i64 0, .int .i64 1, .int .i64 1, .int .i64 5, .int .i64 2] := (lit_at (by simp) _ [.int .i64 0, .int .i64 0, .int .i64 1, .int .i64 1, .int .i64 5, .int .i64 2]).alloc _
  have h3 : Recs ((((w.alloc (.cells #[.int .u8 0, .int .u8 0, .int .u8 0, .int .u8 0, .int .u8 0, .int .u8 0, .int .u8 0, .int .u8 0, .int .i16 0, .int .i16 0, .int .i16 0, .int .i16 0, .int .u8 0, .int .u8 0, .int .i64 0, .int .i64 0, .int .i64 3, .int .i64 0, .int .u8 0, .int .u8 0, .int .u8 0, .int .u8 0, .int .u8 0, .int .u8 0, .int .u8 0, .int .u8 0, .int .i16 0, .int .i16 0, .int .i16 0, .int .i16 0, .int .u8 0, .int .u8 0, .int .i64 0, .int .i64 0, .int .i64 7, .int .i64 0] 81)).alloc (.cells #[.int .i64 9, .slice (some ⟨w.heap.size, 0, none⟩) 2 2, .slice none 0 0, .int .i64 0, .int .i64 0, .slice none 0 0, .slice (some ⟨w.heap.size + 1 + 1, 0, none⟩) 3 3, .slice none 0 0, .slice none 0 0] 68)).alloc (.cells #[.int .i64 0, .int .i64 0, .int .i64 1, .int .i64 1, .int .i64 5, .int .i64 2] 72)).alloc (.cells #[.int .i64 9, .slice (some ⟨w.heap.size, 0, none⟩) 2 2, .slice none 0 0, .int .i64 0, .int .i64 0, .slice none 0 0, .slice (some ⟨w.heap.size + 1 + 1, 0, none⟩) 3 3, .slice none 0 0, .slice none 0 0] 68)) 9 (some ⟨w.heap.size + 1 + 1 + 1, 0, none⟩) 1 ([(⟨9, some ⟨w.heap.size, 0, none⟩, 2, 2, none, 0, 0, 0, 0, none, 0, 0, some ⟨w.heap.size + 1 + 1, 0, none⟩, 3, 3, none, 0, 0, none, 0, 0⟩ : Row)].map Row.list) :=
    Recs.of_blk (r := []) (t := 68) (by intro l hl; simp at hl; subst hl; rfl) (lit_at (by simp) _ _)
  refine (waits_ex _ _ _ _ h3 h1 h2).mono ?_
  rintro e w' ⟨A, c, rfl, hi, hb⟩
  refine ⟨A, c, rfl, hi, ?_⟩
  have a1 := alloc_below w (.cells #[.int .u8 0, .int .u8 0, .int .u8 0, .int .u8 0, .int .u8 0, .int .u8 0, .int .u8 0, .int .u8 0, .int .i16 0, .int .i16 0, .int .i16 0, .int .i16 0, .int .u8 0, .int .u8 0, .int .i64 0, .int .i64 0, .int .i64 3, .int .i64 0, .int .u8 0, .int .u8 0, .int .u8 0, .int .u8 0, .int .u8 0, .int .u8 0, .int .u8 0, .int .u8 0, .int .i16 0, .int .i16 0, .int .i16 0, .int .i16 0, .int .u8 0, .int .u8 0, .int .i64 0, .int .i64 0, .int .i64 7, .int .i64 0] 81)
  have a2 := ((a1.alloc (by simp) (.cells #[.int .i64 9, .slice (some ⟨w.heap.size, 0, none⟩) 2 2, .slice none 0 0, .int .i64 0, .int .i64 0, .slice none 0 0, .slice (some ⟨w.heap.size + 1 + 1, 0, none⟩) 3 3, .slice none 0 0, .slice none 0 0] 68)).alloc (by simp; omega) (.cells #[.int .i64 0, .int .i64 0, .int .i64 1, .int .i64 1, .int .i64 5, .int .i64 2] 72)).alloc (by simp; omega) (.cells #[.int .i64 9, .slice (some ⟨w.heap.size, 0, none⟩) 2 2, .slice none 0 0, .int .i64 0, .int .i64 0, .slice none 0 0, .slice (some ⟨w.heap.size + 1 + 1, 0, none⟩) 3 3, .slice none 0 0, .slice none 0 0] 68)
  exact a2.trans (hb.mono (by simp; omega))
attribute [local go_sem ↓] load_rec
attribute [local go_sem] Of.run_store_float
set_option maxHeartbeats 8000000 in
theorem lives_c (w : World) : Calls Tryz.prog 12 #[] w fun e w' => e = .returned (.bool true) ∧ Below w.heap.size w w' := by
  go_enter Tryz.func12, Tryz.ntmps12
  go_wp2_with (first
    | (go_at_call 94; (with_reducible refine (of_ex _ _ (lit_at (by simp) _ _)).mono ?_); (rintro e w1 ⟨rfl, hb1⟩; have K1 := Lib.hid (KV.start w w1 ((alloc_below w _).trans (hb1.mono (by simp)))); clear hb1))
    | (go_at_call 95; (with_reducible refine (quant_ex _ _ (lit_at (by simp) _ _)).mono ?_); (rintro e w2 ⟨rfl, hb2⟩; have K2 := Lib.hid ((K1.out.keep (alloc_below _ _)).keep hb2); clear hb2 K1))
    | (go_at_call 96; (with_reducible refine (hist_ex _ _ _ ((lit_at (by simp) _ _).alloc _) (lit_at (by simp) _ _)).mono ?_); (rintro e w3 ⟨hg, rfl, hi3, hb3⟩; have K3 := Lib.hid (((K2.out.keep (alloc_below _ _)).keep (alloc_below _ _)).keep hb3); have I3 := Lib.hid hi3; have LR := rec_load w3; clear hb3 hi3 K2))
    | (go_at_call 6; (with_reducible refine (waits_3 w3).mono ?_); (rintro e w4 ⟨wA, wc, rfl, hi4, hb4⟩; have K4 := Lib.hid (K3.out.keep hb4); have I4 := Lib.hid hi4; have I3' := Lib.hid (I3.out.keep hb4); clear hb4 hi4 LR I3; have q0 := K4.out.cell 0; have q1 := K4.out.cell 1; have q2 := K4.out.cell 2; have q3 := K4.out.cell 3; have q4 := K4.out.cell 4; simp only [List.getElem?_cons_zero, List.getElem?_cons_succ] at q0 q1 q2 q3 q4))
    | (go_at_call 8; (with_reducible refine (same_c [1, 3, 2] _ _ 3 3 3 _ (I3'.out.keep (alloc_below _ _)) (lit_is (xs := [1, 3, 2]) (lit_at (by simp) _ _)) (by decide)).mono ?_); (rintro e w5 ⟨rfl, nd, rfl⟩))
    | (go_at_call 8; (with_reducible refine (same_c [6, 2] _ _ 2 wc 2 _ ((I4.out.keep (below_drewN (alloc_below _ _) _)).keep (alloc_below _ _)) (lit_is (xs := [6, 2]) (lit_at (by simp) _ _)) (by decide)).mono ?_); (rintro e w6 ⟨rfl, nd2, rfl⟩)))
  go_ret
  refine ⟨rfl, below_drewN (((below_drewN ((Has.bel K4.out).alloc (Has.bel K4.out).size _) _)).alloc ?_ _) _⟩
  have := (Has.bel K4.out).size
  simp; omega
end Go.Proofs.YtbplgjocammnbaaGreat.Lives
