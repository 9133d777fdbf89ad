/- The law's alive: one request that waits, one driver: 13. -/
import Derived.Test.YtbpdfcllojaanaaGraphB
import Derived.Test.YtbpdfcllojaanaaHas
import Derived.Deep.RegionHeld3
namespace Go.Proofs.Ytbpdfcllojaanaa.AliveW
open Go.RowKit Go.Proofs.Ytbpdfcllojaanaa.Aid Go.Proofs.Ytbpdfcllojaanaa.Mem Go.Proofs.Ytbpdfcllojaanaa.Types Go.Proofs.Ytbpdfcllojaanaa.Fit Go.Proofs.Ytbpdfcllojaanaa.Mays Go.Proofs.Ytbpdfcllojaanaa.Keep Go.Proofs.Ytbpdfcllojaanaa.Weight Go.Proofs.Ytbpdfcllojaanaa.Weights Go.Proofs.Ytbpdfcllojaanaa.Recs Go.Proofs.Ytbpdfcllojaanaa.PairsG Go.Proofs.Ytbpdfcllojaanaa.Graph Go.Proofs.Ytbpdfcllojaanaa.GraphB Go.Proofs.Ytbpdfcllojaanaa.Check Go.Proofs.Ytbpdfcllojaanaa.Has
set_option linter.unusedSimpArgs false
set_option linter.unusedVariables false
set_option maxRecDepth 100000
def c0 : Cfg := ⟨2, 2, 2, 10, 5⟩
def x0 : Wai := ⟨0, 0, 0, 0, 0, 0, 0, 0, 0, 0, 0, 0, 1, 1, 0, 10, 0, 0⟩
def l0 : Idl := ⟨0, 0, 0, 0, 0, 0, 0, 0, 0, 2, 4, 0, 3, 0⟩
theorem x0_wf : x0.wf := by constructor <;> decide
theorem l0_wf : l0.wf := by constructor <;> decide
theorem w2 : wV c0 2 x0 = 13 ∧ wE c0 2 x0 = 0 := by decide
theorem w11 : wV c0 11 x0 = 0 ∧ wE c0 11 x0 = 131 := by decide
theorem d0 : drvErr (drvOf l0) = 0 := by decide
theorem p0 : allP [x0] [l0] 1 = [(0, 0)] := by decide
theorem cf0 : cfgErr c0 = 0 := by decide
def ed0 : Edg := ⟨0, 0, 13⟩
theorem g_one (w w' : World) (e : Ending) (h : GP c0 2 [x0] [l0] 1 1 w e w') : Below w.heap.size w w' ∧ ∃ g cap, e = .returned (.tuple #[.agg #[.int .i64 1, .int .i64 1, .slice (some ⟨g, 0, none⟩) 1 cap], .int .i64 0]) ∧ g < w'.heap.size ∧ Recs w' 3 (some ⟨g, 0, none⟩) 1 ([ed0].map Edg.list) := by
  obtain ⟨hb, h⟩ := h
  refine ⟨hb, ?_⟩
  rcases h with ⟨i, x, hx, hn, _, _⟩ | ⟨_, ⟨i, y, hy, hn, _⟩ | ⟨_, v, rfl, ho⟩⟩
  · exfalso
    have : x = x0 := by cases i with | zero => simpa using hx.symm | succ i => simp at hx
    subst this; exact hn w2.2
  · exfalso
    have : y = l0 := by cases i with | zero => simpa using hy.symm | succ i => simp at hy
    subst this; exact hn d0
  · rw [p0] at ho
    obtain ⟨A, c, rfl, _, hf⟩ := ho.form
    obtain ⟨g, rfl, _, hg, hc⟩ := hf (by decide)
    refine ⟨g, c, rfl, hg, rfl, fun _ => ⟨_, rfl, fun j l hl => ?_⟩⟩
    cases j with
    | succ j => simp at hl
    | zero =>
      simp at hl; subst hl
      refine ⟨rfl, fun i v hv => ?_⟩
      rw [add_at, Nat.zero_mul, Nat.zero_add]
      refine hc i v ?_
      have e : cellsE (wts c0 2 [x0]) [(0, 0)] = ed0.list := by
        unfold cellsE wts; simp [wAt, w2.1, Edg.list, ed0]
      rw [e]; exact hv
/-! the walk -/
attribute [local go_sem ↓] Keep.load_cfg Weights.load_wai Check.load_edg
def KA (w0 W : World) : Prop := Has w0 [(w0.heap.size + 2, 64, [.int .u8 0, .int .u8 0, .int .u8 0, .int .u8 0, .int .u8 0, .int .u8 0, .int .u8 0, .int .u8 0, .int .i16 0, .int .i16 2, .int .u8 4, .int .u8 0, .int .i64 3, .int .i64 0]), (w0.heap.size + 1, 43, [.int .u8 0, .int .u8 0, .int .u8 0, .int .u8 0, .int .u8 0, .int .u8 0, .int .u8 0, .int .u8 0, .int .i16 0, .int .i16 0, .int .i16 0, .int .i16 0, .int .u8 1, .int .u8 1, .int .i64 0, .int .i64 10, .int .i64 0, .int .i64 0]), (w0.heap.size, 34, [.int .i64 2, .int .i64 2, .int .i64 2, .int .i64 10, .int .i64 5])] W
theorem KA.start (w : World) : KA w (((w.alloc (.cells #[.int .i64 2, .int .i64 2, .int .i64 2, .int .i64 10, .int .i64 5] 34)).alloc (.cells #[.int .u8 0, .int .u8 0, .int .u8 0, .int .u8 0, .int .u8 0, .int .u8 0, .int .u8 0, .int .u8 0, .int .i16 0, .int .i16 0, .int .i16 0, .int .i16 0, .int .u8 1, .int .u8 1, .int .i64 0, .int .i64 10, .int .i64 0, .int .i64 0] 43)).alloc (.cells #[.int .u8 0, .int .u8 0, .int .u8 0, .int .u8 0, .int .u8 0, .int .u8 0, .int .u8 0, .int .u8 0, .int .i16 0, .int .i16 2, .int .u8 4, .int .u8 0, .int .i64 3, .int .i64 0] 64)) := by
  have h := (((Has.nil w).new 34 [.int .i64 2, .int .i64 2, .int .i64 2, .int .i64 10, .int .i64 5]).new 43 [.int .u8 0, .int .u8 0, .int .u8 0, .int .u8 0, .int .u8 0, .int .u8 0, .int .u8 0, .int .u8 0, .int .i16 0, .int .i16 0, .int .i16 0, .int .i16 0, .int .u8 1, .int .u8 1, .int .i64 0, .int .i64 10, .int .i64 0, .int .i64 0]).new 64 [.int .u8 0, .int .u8 0, .int .u8 0, .int .u8 0, .int .u8 0, .int .u8 0, .int .u8 0, .int .u8 0, .int .i16 0, .int .i16 2, .int .u8 4, .int .u8 0, .int .i64 3, .int .i64 0]
  rw [size_alloc, size_alloc] at h
  exact h
theorem KA.keep {w0 w w' : World} (h : KA w0 w) (hb : Below w.heap.size w w') : KA w0 w' := Has.keep h hb
theorem KA.lc {w0 w : World} (h : KA w0 w) : (LA 34 (.pointer (some ⟨w0.heap.size, 0, none⟩))).run Try.prog w = .ok (.agg #[.int .i64 2, .int .i64 2, .int .i64 2, .int .i64 10, .int .i64 5]) w :=
  Has.load (t' := 34) (l := [.int .i64 2, .int .i64 2, .int .i64 2, .int .i64 10, .int .i64 5]) (s := []) h Try.underlying34 rfl (by show _ = some 5; kernel_rfl) (by simp)
theorem KA.lx {w0 w : World} (h : KA w0 w) : (LA 43 (.pointer (some ⟨w0.heap.size + 1, 0, none⟩))).run Try.prog w = .ok (.agg #[.int .u8 0, .int .u8 0, .int .u8 0, .int .u8 0, .int .u8 0, .int .u8 0, .int .u8 0, .int .u8 0, .int .i16 0, .int .i16 0, .int .i16 0, .int .i16 0, .int .u8 1, .int .u8 1, .int .i64 0, .int .i64 10, .int .i64 0, .int .i64 0]) w :=
  Has.load (t' := 43) (l := [.int .u8 0, .int .u8 0, .int .u8 0, .int .u8 0, .int .u8 0, .int .u8 0, .int .u8 0, .int .u8 0, .int .i16 0, .int .i16 0, .int .i16 0, .int .i16 0, .int .u8 1, .int .u8 1, .int .i64 0, .int .i64 10, .int .i64 0, .int .i64 0]) (s := []) h Try.underlying43 rfl (by show _ = some 18; kernel_rfl) (by simp)
theorem KA.bx {w0 w : World} (h : KA w0 w) : Blk w (w0.heap.size + 1) 43 [.int .u8 0, .int .u8 0, .int .u8 0, .int .u8 0, .int .u8 0, .int .u8 0, .int .u8 0, .int .u8 0, .int .i16 0, .int .i16 0, .int .i16 0, .int .i16 0, .int .u8 1, .int .u8 1, .int .i64 0, .int .i64 10, .int .i64 0, .int .i64 0] := h.1 (w0.heap.size + 1, 43, [.int .u8 0, .int .u8 0, .int .u8 0, .int .u8 0, .int .u8 0, .int .u8 0, .int .u8 0, .int .u8 0, .int .i16 0, .int .i16 0, .int .i16 0, .int .i16 0, .int .u8 1, .int .u8 1, .int .i64 0, .int .i64 10, .int .i64 0, .int .i64 0]) (by simp)
theorem KA.bl {w0 w : World} (h : KA w0 w) : Blk w (w0.heap.size + 2) 64 [.int .u8 0, .int .u8 0, .int .u8 0, .int .u8 0, .int .u8 0, .int .u8 0, .int .u8 0, .int .u8 0, .int .i16 0, .int .i16 2, .int .u8 4, .int .u8 0, .int .i64 3, .int .i64 0] := h.1 (w0.heap.size + 2, 64, [.int .u8 0, .int .u8 0, .int .u8 0, .int .u8 0, .int .u8 0, .int .u8 0, .int .u8 0, .int .u8 0, .int .i16 0, .int .i16 2, .int .u8 4, .int .u8 0, .int .i64 3, .int .i64 0]) (by simp)
theorem KA.bel {w0 w : World} (h : KA w0 w) : Below w0.heap.size w0 w := Has.bel h
theorem weigh2 (w : World) : Calls Try.prog 15 #[.agg #[.int .i64 2, .int .i64 2, .int .i64 2, .int .i64 10, .int .i64 5], .int .i64 2, .agg #[.int .u8 0, .int .u8 0, .int .u8 0, .int .u8 0, .int .u8 0, .int .u8 0, .int .u8 0, .int .u8 0, .int .i16 0, .int .i16 0, .int .i16 0, .int .i16 0, .int .u8 1, .int .u8 1, .int .i64 0, .int .i64 10, .int .i64 0, .int .i64 0]] w fun r w' => r = .returned (.tuple #[.int .i64 13, .int .i64 0]) ∧ Below w.heap.size w w' := w_v c0 2 x0 w x0_wf 13 0 w2.1 w2.2
theorem weigh11 (w : World) : Calls Try.prog 15 #[.agg #[.int .i64 2, .int .i64 2, .int .i64 2, .int .i64 10, .int .i64 5], .int .i64 11, .agg #[.int .u8 0, .int .u8 0, .int .u8 0, .int .u8 0, .int .u8 0, .int .u8 0, .int .u8 0, .int .u8 0, .int .i16 0, .int .i16 0, .int .i16 0, .int .i16 0, .int .u8 1, .int .u8 1, .int .i64 0, .int .i64 10, .int .i64 0, .int .i64 0]] w fun r w' => r = .returned (.tuple #[.int .i64 0, .int .i64 131]) ∧ Below w.heap.size w w' := w_v c0 11 x0 w x0_wf 0 131 w11.1 w11.2
theorem graph1 (w : World) (b1 b2 : Nat) (h1 : Blk w b1 43 [.int .u8 0, .int .u8 0, .int .u8 0, .int .u8 0, .int .u8 0, .int .u8 0, .int .u8 0, .int .u8 0, .int .i16 0, .int .i16 0, .int .i16 0, .int .i16 0, .int .u8 1, .int .u8 1, .int .i64 0, .int .i64 10, .int .i64 0, .int .i64 0]) (h2 : Blk w b2 64 [.int .u8 0, .int .u8 0, .int .u8 0, .int .u8 0, .int .u8 0, .int .u8 0, .int .u8 0, .int .u8 0, .int .i16 0, .int .i16 2, .int .u8 4, .int .u8 0, .int .i64 3, .int .i64 0]) : Calls Try.prog 19 #[.agg #[.int .i64 2, .int .i64 2, .int .i64 2, .int .i64 10, .int .i64 5], .int .i64 2, .slice (some ⟨b1, 0, none⟩) 1 1, .slice (some ⟨b2, 0, none⟩) 1 1] w fun e w' => ∃ g cap, e = .returned (.tuple #[.agg #[.int .i64 1, .int .i64 1, .slice (some ⟨g, 0, none⟩) 1 cap], .int .i64 0]) ∧ Below w.heap.size w w' ∧ Recs w' 3 (some ⟨g, 0, none⟩) 1 ([ed0].map Edg.list) := by
  have r1 : Recs w 18 (some ⟨b1, 0, none⟩) 1 ([x0].map Wai.list) := Recs.of_blk (r := []) (t := 43) (xs := [x0].map Wai.list) (by intro l hl; simp at hl; subst hl; rfl) h1
  have r2 : Recs w 14 (some ⟨b2, 0, none⟩) 1 ([l0].map Idl.list) := Recs.of_blk (r := []) (t := 64) (xs := [l0].map Idl.list) (by intro l hl; simp at hl; subst hl; rfl) h2
  refine (g_main c0 2 [x0] [l0] _ _ 1 1 1 1 w r1 r2 (by intro x hx; simp at hx; subst hx; exact x0_wf) (by intro x hx; simp at hx; subst hx; exact l0_wf) (Lib.hid cf0) (by decide) (by decide) (by decide) (by decide)).mono fun e w' h => ?_
  obtain ⟨hb, g, cap, e1, _, hr⟩ := g_one w w' e h
  exact ⟨g, cap, e1, hb, hr⟩
theorem check1 (w : World) (g cap : Nat) (h : Recs w 3 (some ⟨g, 0, none⟩) 1 ([ed0].map Edg.list)) : Calls Try.prog 12 #[.agg #[.int .i64 1, .int .i64 1, .slice (some ⟨g, 0, none⟩) 1 cap]] w fun e w' => e = .returned (.int .i64 0) ∧ Below w.heap.size w w' := by
  have h := check_c 1 1 [ed0] _ 1 cap w h (by decide)
  rwa [show gErr 1 1 [ed0] = 0 by decide] at h
theorem check65 (w : World) : Calls Try.prog 12 #[.agg #[.int .i64 65, .int .i64 0, .slice none 0 0]] w fun e w' => e = .returned (.int .i64 170) ∧ Below w.heap.size w w' := by
  have h := check_c 65 0 [] none 0 0 w Recs.nil (by decide)
  rwa [show gErr 65 0 [] = 170 by decide] at h
theorem keep2 {w0 w w' : World} {gB g cap : Nat} (h : KA w0 w ∧ Blk w gB 24 [.int .i64 1, .int .i64 1, .slice (some ⟨g, 0, none⟩) 1 cap] ∧ Recs w 3 (some ⟨g, 0, none⟩) 1 ([ed0].map Edg.list)) (hb : Below w.heap.size w w') : KA w0 w' ∧ Blk w' gB 24 [.int .i64 1, .int .i64 1, .slice (some ⟨g, 0, none⟩) 1 cap] ∧ Recs w' 3 (some ⟨g, 0, none⟩) 1 ([ed0].map Edg.list) := ⟨h.1.keep hb, h.2.1.keep hb, h.2.2.keep hb⟩
theorem drew_below (w : World) : Below w.heap.size w w.drew := (Below.refl _ _).drew
theorem la_edge0 {w : World} {g : Nat} (h : Recs w 3 (some ⟨g, 0, none⟩) 1 ([ed0].map Edg.list)) : (LA 26 (.pointer (some ⟨g, 0, none⟩))).run Try.prog w = .ok (.agg #[.int .i64 0, .int .i64 0, .int .i64 13]) w := by
  obtain ⟨ad, x, e, hx, hl⟩ := edg_at h (j := 0) (by decide)
  injection e with e
  subst e
  simp at hx; subst hx
  exact hl w (Below.refl _ _)
set_option maxHeartbeats 8000000 in
theorem alive_c (w : World) : Calls Try.prog 17 #[] w fun e w' => e = .returned (.bool true) ∧ Below w.heap.size w w' := by
  have k := KA.start w
  have K := Lib.hid k
  clear k
  have EXT : Hid (∀ W, KA w W → (KA w W ∧ (LA 34 (.pointer (some ⟨w.heap.size, 0, none⟩))).run Try.prog W = .ok (.agg #[.int .i64 2, .int .i64 2, .int .i64 2, .int .i64 10, .int .i64 5]) W ∧ (LA 43 (.pointer (some ⟨w.heap.size + 1, 0, none⟩))).run Try.prog W = .ok (.agg #[.int .u8 0, .int .u8 0, .int .u8 0, .int .u8 0, .int .u8 0, .int .u8 0, .int .u8 0, .int .u8 0, .int .i16 0, .int .i16 0, .int .i16 0, .int .i16 0, .int .u8 1, .int .u8 1, .int .i64 0, .int .i64 10, .int .i64 0, .int .i64 0]) W)) := Lib.hid (fun W h => ⟨h, h.lc, h.lx⟩)
  have EX2 : Hid (∀ gB g cap W, (KA w W ∧ Blk W gB 24 [.int .i64 1, .int .i64 1, .slice (some ⟨g, 0, none⟩) 1 cap] ∧ Recs W 3 (some ⟨g, 0, none⟩) 1 ([ed0].map Edg.list)) → ((KA w W ∧ Blk W gB 24 [.int .i64 1, .int .i64 1, .slice (some ⟨g, 0, none⟩) 1 cap] ∧ Recs W 3 (some ⟨g, 0, none⟩) 1 ([ed0].map Edg.list)) ∧ (LA 34 (.pointer (some ⟨w.heap.size, 0, none⟩))).run Try.prog W = .ok (.agg #[.int .i64 2, .int .i64 2, .int .i64 2, .int .i64 10, .int .i64 5]) W ∧ (LA 43 (.pointer (some ⟨w.heap.size + 1, 0, none⟩))).run Try.prog W = .ok (.agg #[.int .u8 0, .int .u8 0, .int .u8 0, .int .u8 0, .int .u8 0, .int .u8 0, .int .u8 0, .int .u8 0, .int .i16 0, .int .i16 0, .int .i16 0, .int .i16 0, .int .u8 1, .int .u8 1, .int .i64 0, .int .i64 10, .int .i64 0, .int .i64 0]) W)) := Lib.hid (fun gB g cap W h => ⟨h, h.1.lc, h.1.lx⟩)
  go_enter Try.func17, Try.ntmps17
  go_wp2
  go_region_held3 (fun W => KA w W ∧ (LA 34 (.pointer (some ⟨w.heap.size, 0, none⟩))).run Try.prog W = .ok (.agg #[.int .i64 2, .int .i64 2, .int .i64 2, .int .i64 10, .int .i64 5]) W ∧ (LA 43 (.pointer (some ⟨w.heap.size + 1, 0, none⟩))).run Try.prog W = .ok (.agg #[.int .u8 0, .int .u8 0, .int .u8 0, .int .u8 0, .int .u8 0, .int .u8 0, .int .u8 0, .int .u8 0, .int .i16 0, .int .i16 0, .int .i16 0, .int .i16 0, .int .u8 1, .int .u8 1, .int .i64 0, .int .i64 10, .int .i64 0, .int .i64 0]) W) (first | exact EXT.out _ (Has.drew K.out) | exact EXT.out _ (KA.keep (And.left (by assumption)) hb)) (first | (go_at_call 15; refine (weigh2 _).mono ?_; rintro e w' ⟨rfl, hb⟩))
  obtain ⟨k1, l1, l2⟩ := ‹_ ∧ _ ∧ _›
  have K1 := Lib.hid k1
  clear k1 l2
  go_wp2_with (first | (go_at_call 19; with_reducible refine (graph1 _ _ _ K1.out.bx K1.out.bl).mono ?_; rintro e w5 ⟨g, cap, rfl, hb5, hr⟩; have K5 := Lib.hid (K1.out.keep hb5); have R5 := Lib.hid hr; clear hb5 hr l1))
  have KB : Hid ((KA w (w5.alloc (.cells #[.int .i64 1, .int .i64 1, .slice (some ⟨g, 0, none⟩) 1 cap] 24)) ∧ Blk (w5.alloc (.cells #[.int .i64 1, .int .i64 1, .slice (some ⟨g, 0, none⟩) 1 cap] 24)) w5.heap.size 24 [.int .i64 1, .int .i64 1, .slice (some ⟨g, 0, none⟩) 1 cap] ∧ Recs (w5.alloc (.cells #[.int .i64 1, .int .i64 1, .slice (some ⟨g, 0, none⟩) 1 cap] 24)) 3 (some ⟨g, 0, none⟩) 1 ([ed0].map Edg.list))) := Lib.hid ⟨K5.out.keep (alloc_below _ _), Blk.new w5 24 [.int .i64 1, .int .i64 1, .slice (some ⟨g, 0, none⟩) 1 cap], R5.out.keep (alloc_below _ _)⟩
  clear K1 K5 R5
  go_region_held3 (fun W => (KA w W ∧ Blk W w5.heap.size 24 [.int .i64 1, .int .i64 1, .slice (some ⟨g, 0, none⟩) 1 cap] ∧ Recs W 3 (some ⟨g, 0, none⟩) 1 ([ed0].map Edg.list)) ∧ (LA 34 (.pointer (some ⟨w.heap.size, 0, none⟩))).run Try.prog W = .ok (.agg #[.int .i64 2, .int .i64 2, .int .i64 2, .int .i64 10, .int .i64 5]) W ∧ (LA 43 (.pointer (some ⟨w.heap.size + 1, 0, none⟩))).run Try.prog W = .ok (.agg #[.int .u8 0, .int .u8 0, .int .u8 0, .int .u8 0, .int .u8 0, .int .u8 0, .int .u8 0, .int .u8 0, .int .i16 0, .int .i16 0, .int .i16 0, .int .i16 0, .int .u8 1, .int .u8 1, .int .i64 0, .int .i64 10, .int .i64 0, .int .i64 0]) W) (first | exact EX2.out _ _ _ _ (keep2 KB.out (drew_below _)) | exact EX2.out _ _ _ _ (keep2 (And.left (by assumption)) hb)) (first | (go_at_call 15; refine (weigh11 _).mono ?_; rintro e w' ⟨rfl, hb⟩))
  obtain ⟨⟨k8, b8, r8⟩, _, _⟩ := ‹(_ ∧ _ ∧ _) ∧ _ ∧ _›
  have le := la_edge0 r8
  have g0 := b8.cellv (i := 0) rfl
  have g1 := b8.cellv (i := 1) rfl
  have g2 := b8.cellv (i := 2) rfl
  have R8 := Lib.hid r8
  have K8 := Lib.hid k8
  clear r8 k8 b8
  go_wp2_with (first | (go_at_call 12; with_reducible refine (check1 _ g cap R8.out).mono ?_; rintro e w8 ⟨rfl, hb8⟩; have B8 := Lib.hid hb8; clear hb8) | (go_at_call 12; with_reducible refine (check65 _).mono ?_; rintro e w9 ⟨rfl, hb9⟩; have B9 := Lib.hid hb9; clear hb9))
  go_ret
  exact ⟨rfl, kbt (kbt (KA.bel K8.out) B8.out) B9.out⟩
end Go.Proofs.Ytbpdfcllojaanaa.AliveW
