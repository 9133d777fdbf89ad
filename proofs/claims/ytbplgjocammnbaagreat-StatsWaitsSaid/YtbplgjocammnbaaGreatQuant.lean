/- Contract of stats.Quantile. -/
import Derived.Test.YtbplgjocammnbaaGreatFin
import Derived.Test.YtbplgjocammnbaaGreatSort
import Derived.Test.YtbplgjocammnbaaGreatSearch
namespace Go.Proofs.YtbplgjocammnbaaGreat.Quant
open Ieee Go.RowKit Go.Proofs.YtbplgjocammnbaaGreat.Aid Go.Proofs.YtbplgjocammnbaaGreat.Mem Go.Proofs.YtbplgjocammnbaaGreat.Keep Go.Proofs.YtbplgjocammnbaaGreat.Of Go.Proofs.YtbplgjocammnbaaGreat.Fl Go.Proofs.YtbplgjocammnbaaGreat.Fin Go.Proofs.YtbplgjocammnbaaGreat.Sorts Go.Proofs.YtbplgjocammnbaaGreat.Search
set_option linter.unusedSimpArgs false
set_option linter.unusedVariables false
set_option maxRecDepth 100000
/-- Not from 0 to 1. -/
def qbad (s : Nat) : Bool := (!FloatKind.f64.format.order s 0 == some Ordering.gt && !FloatKind.f64.format.order s 0 == some Ordering.eq || !FloatKind.f64.format.order s 4607182418800017408 == some Ordering.lt && !FloatKind.f64.format.order s 4607182418800017408 == some Ordering.eq)
def geF (a b : Nat) : Bool := FloatKind.f64.format.order a b == some .gt || FloatKind.f64.format.order a b == some .eq
theorem V_one : V 4607182418800017408 = U := by decide +kernel
theorem wf_f64 {x : Nat} (h : (Lit.float .f64 x).wf = true) : x < 18446744073709551616 := by
  have : x < 2 ^ 64 := by simpa [Lit.wf] using h
  exact this
/-- A share's word. -/
theorem share_word {s : Nat} (hs : s < 18446744073709551616) (h : qbad s = false) : ∃ g r, s = double.word g r ∧ r ≤ 4607182418800017408 ∧ (g = false ∨ r = 0) := by
  obtain ⟨g, r, rfl, hr⟩ := word_of s hs
  refine ⟨g, r, rfl, ?_⟩
  unfold qbad at h
  have w0 : (0 : Nat) = double.word false 0 := by rw [word_f]
  have w1 : (4607182418800017408 : Nat) = double.word false 4607182418800017408 := by rw [word_f]
  rcases Nat.lt_or_ge 9218868437227405312 r with hn | hf
  · have e0 : FloatKind.f64.format.order (double.word g r) 0 = none := ord_nan g r 0 hn hr
    rw [e0] at h
    simp at h
  · have e0 : FloatKind.f64.format.order (double.word g r) 0 = some (if sv g r < 0 then .lt else if sv g r = 0 then .eq else .gt) := by
      have := ord g false r 0 hf (by decide)
      rw [← w0, show sv false 0 = 0 by simp [sv, V_zero]] at this
      exact this
    have e1 : FloatKind.f64.format.order (double.word g r) 4607182418800017408 = some (if sv g r < (U : Int) then .lt else if sv g r = (U : Int) then .eq else .gt) := by
      have := ord g false r 4607182418800017408 hf (by decide)
      rw [← w1, show sv false 4607182418800017408 = (U : Int) by rw [sv_f, V_one]] at this
      exact this
    rw [e0, e1] at h
    have h1 : 0 ≤ sv g r := by
      by_cases hlt : sv g r < 0
      · rw [if_pos hlt] at h; simp at h
      · omega
    have h2 : sv g r ≤ (U : Int) := by
      by_cases hle : sv g r ≤ (U : Int)
      · exact hle
      · rw [if_neg (show ¬ sv g r < (U : Int) by omega), if_neg (show ¬ sv g r = (U : Int) by omega)] at h; simp at h
    cases g with
    | false =>
      rw [sv_f] at h2
      refine ⟨?_, .inl rfl⟩
      rcases Nat.lt_or_ge 4607182418800017408 r with hlt | hge
      · have := V_lt hlt; rw [V_one] at this; omega
      · exact hge
    | true =>
      rw [sv_t] at h1
      have : V r = 0 := by omega
      have : r = 0 := by
        rcases Nat.eq_zero_or_pos r with h | h
        · exact h
        · have := V_pos h; omega
      exact ⟨by omega, .inr this⟩
def want (s n : Nat) : Nat := fo .mul s (fi n)
/-- How many are wanted. -/
theorem want_word {s n : Nat} (hs : ∃ g r, s = double.word g r ∧ r ≤ 4607182418800017408 ∧ (g = false ∨ r = 0)) (hn : n ≤ 9007199254740992) :
    (floatBits .mul .f64 s (fi n)).isSome ∧ ∃ g p, want s n = double.word g p ∧ p < 9218868437227405312 ∧ (g = false ∨ p = 0) ∧ V p ≤ n * U ∧ ∃ g' r, s = double.word g' r ∧ r ≤ 4607182418800017408 ∧ IsN (V r * (n * U)) U p := by
  obtain ⟨g, r, rfl, hr, hg⟩ := hs
  obtain ⟨q, e2, h2, v2⟩ := fi_small n hn
  obtain ⟨q0, eq0, hq0⟩ := rep_whole n hn
  obtain ⟨p, a, b, c⟩ := fo_mul g false r q (by omega) h2
  rw [v2] at c
  have hv : V r ≤ U := by rw [← V_one]; exact V_le hr
  have ht := IsN_top (b := q0) c U_pos (by omega) (by rw [eq0, Nat.mul_comm]; exact Nat.mul_le_mul_left _ hv)
  unfold want
  rw [e2]
  refine ⟨a, _, p, b, by omega, ?_, by rw [← eq0]; exact ht.2, g, r, rfl, hr, c⟩
  rcases hg with rfl | rfl
  · exact .inl rfl
  · right
    rw [V_zero, Nat.zero_mul] at c
    have := (IsN_top (b := 0) c U_pos (by decide) (by simp)).1
    omega
/-- Is i + 1 enough? -/
def enough (v i : Nat) : Bool := FloatKind.f64.format.order (floatOfInt .f64 ((i : Int) + 1)) v == some .gt || FloatKind.f64.format.order (floatOfInt .f64 ((i : Int) + 1)) v == some .eq
theorem ge_word {m : Nat} (hm : m ≤ 9007199254740992) {v : Nat} {g : Bool} {p : Nat} (hv : v = double.word g p) (hp : p < 9218868437227405312) (hg : g = false ∨ p = 0) : geF (fi (m : Int)) v = decide (V p ≤ m * U) := by
  obtain ⟨q, e, h, vq⟩ := fi_small m hm
  have e1 : FloatKind.f64.format.order (fi (m : Int)) v = some (if sv false q < sv g p then .lt else if sv false q = sv g p then .eq else .gt) := by
    rw [e, hv]
    exact ord false g q p (by omega) (by omega)
  have e2 : sv g p = (V p : Int) := by
    rcases hg with rfl | rfl
    · rfl
    · cases g <;> simp [sv, V_zero]
  have e3 : sv false q = ((m * U : Nat) : Int) := by rw [sv_f, vq]
  unfold geF
  rw [e1, e2, e3]
  by_cases h1 : m * U < V p
  · rw [if_pos (by omega), decide_eq_false (by omega)]; rfl
  · rw [if_neg (by omega), decide_eq_true (by omega)]
    by_cases h2 : m * U = V p
    · rw [if_pos (by omega)]; rfl
    · rw [if_neg (by omega)]; rfl
theorem enough_word {i : Nat} (hm : i + 1 ≤ 9007199254740992) {v : Nat} {g : Bool} {p : Nat} (hv : v = double.word g p) (hp : p < 9218868437227405312) (hg : g = false ∨ p = 0) : enough v i = decide (V p ≤ (i + 1) * U) := by
  rw [← ge_word hm hv hp hg]
  unfold enough geF fi
  push_cast
  rfl
theorem sort_n (xs : List Int) (n g cap : Nat) (r : List Value) (w : World) (hl : xs.length = n) (h : Blk w g 3 (nums .i64 xs ++ r)) (hn : n ≤ 17592186044416) :
    Calls Tryz.prog 158 #[.slice (some ⟨g, 0, none⟩) n cap] w fun e w' => e = .returned (.tuple #[]) ∧ Blk w' g 3 (nums .i64 (srt xs) ++ r) ∧ ∀ B, B ≤ g → Below B w w' := by
  subst hl
  exact sort_c xs g cap r w h hn
theorem run_store_float {a : Addr} {P : Program} {w : World} {m : Mode} (k : FloatKind) (x : Nat) : (store a (.float k x) m).run P w = stored P w a (.float k x) m := run_store P w a _ m rfl
attribute [local go_sem] run_store_float
theorem cell_new (w : World) (x : Value) (t : TypeId) : (w.alloc (.cells #[x] t)).cell? ⟨w.heap.size, 0, none⟩ = some x := (World.cell?_alloc_new w #[x] t 0).trans rfl
theorem Blk.dr {w w' : World} {g : Nat} {t : TypeId} {l : List Value} (h : Blk w g t l) (d : Dr w w') : Blk w' g t l := by
  obtain ⟨n, rfl⟩ := d
  exact h.drewN n
theorem srt_at {xs : List Int} {n k : Nat} (hl : xs.length = n) (hk : k < n) : (srt xs)[k]? = some ((srt xs)[k]?.getD 0) := by
  rw [List.getElem?_eq_getElem (by rw [srt_length, hl]; exact hk)]
  rfl
set_option maxHeartbeats 1000000 in
theorem clo_c (g : Nat) (v : Nat) (i : Nat) (W : World) (hc : W.cell? ⟨g, 0, none⟩ = some (.float .f64 v)) (hi : i ≤ 17592186044416) :
    Calls Tryz.prog 160 (#[.int .i64 (i : Int)] ++ #[.pointer (some ⟨g, 0, none⟩)]) W fun e W' => e = .returned (.bool (enough v i)) ∧ Dr W W' := by
  show Calls Tryz.prog 160 #[.int .i64 (i : Int), .pointer (some ⟨g, 0, none⟩)] W _
  go_enter Tryz.func160, Tryz.ntmps160
  go_wp2
  go_ret
  exact ⟨rfl, Dr.refl _⟩
theorem quant_search (n g v : Nat) (w : World) (hp : 0 < n) (hn : n ≤ 17592186044416) (hm : ∀ a b, a ≤ b → b < n - 1 → enough v a = true → enough v b = true) (hc : w.cell? ⟨g, 0, none⟩ = some (.float .f64 v)) :
    Calls Tryz.prog 159 #[.int .i64 ((n : Int) - 1), .func (.func 160) #[] #[.pointer (some ⟨g, 0, none⟩)]] w fun e w' => (∃ k : Nat, e = .returned (.int .i64 (k : Int)) ∧ From (enough v) (n - 1) k) ∧ Dr w w' := by
  have := search_c 160 #[.pointer (some ⟨g, 0, none⟩)] (n - 1) (enough v) w (by omega) hm (enters_of Tryz.func160 (by kernel_rfl) rfl) (fun W i hW hi => clo_c g v i W (by obtain ⟨m, rfl⟩ := hW; exact hc) (by omega))
  rwa [show ((n - 1 : Nat) : Int) = (n : Int) - 1 by omega] at this
set_option maxHeartbeats 1000000 in
theorem quant_bad (s : Nat) (A : Option Addr) (n c : Nat) (w : World) (h : (qbad s || (n : Int) == 0) = true) :
    Calls Tryz.prog 95 #[.float .f64 s, .slice A n c] w fun e w' => e = .returned (.tuple #[.int .i64 0, .int .i64 1]) ∧ w = w' := by
  cases hq : qbad s with
  | true =>
    unfold qbad at hq
    clear h
    go_enter Tryz.func95, Tryz.ntmps95
    go_wp2_with (fail)
    all_goals (go_ret2; exact ⟨rfl, rfl⟩)
  | false =>
    rw [hq, Bool.false_or] at h
    unfold qbad at hq
    go_enter Tryz.func95, Tryz.ntmps95
    go_wp2_with (fail)
    all_goals (go_ret2; exact ⟨rfl, rfl⟩)
set_option maxHeartbeats 1000000 in
theorem quant_ok (s : Nat) (xs : List Int) (A : Option Addr) (n c : Nat) (w : World) (h : Ints w .i64 A n xs) (hp : 0 < n) (hn : n ≤ 17592186044416) (hs : s < 18446744073709551616) (hq : qbad s = false) :
    Calls Tryz.prog 95 #[.float .f64 s, .slice A n c] w fun e w' => (∃ k, From (enough (want s n)) (n - 1) k ∧ e = .returned (.tuple #[.int .i64 ((srt xs)[k]?.getD 0), .int .i64 0])) ∧ Below w.heap.size w w' := by
  obtain ⟨ws, g, p, e1, h1, h2, h3, _⟩ := want_word (n := n) (share_word hs hq) (by omega)
  have HM : Hid (∀ a b, a ≤ b → b < n - 1 → enough (want s n) a = true → enough (want s n) b = true) := Lib.hid (fun a b hab hb => by
    rw [enough_word (by omega) e1 h1 h2, enough_word (by omega) e1 h1 h2]
    simp only [decide_eq_true_eq]
    intro ha
    exact Nat.le_trans ha (Nat.mul_le_mul_right _ (by omega)))
  have fm : ∀ t W, (binOp .mul t (.float .f64 s) (.float .f64 (floatOfInt .f64 (n : Int)))).run Tryz.prog W = .ok (.float .f64 (want s n)) W := fo_run ws
  have f1 : (FloatKind.f64.format.order s 0 == some Ordering.gt || FloatKind.f64.format.order s 0 == some Ordering.eq) = true := by
    unfold qbad at hq
    cases h1 : FloatKind.f64.format.order s 0 == some Ordering.gt <;> cases h2 : FloatKind.f64.format.order s 0 == some Ordering.eq <;> first | rfl | (rw [h1, h2] at hq; simp at hq)
  have f2 : (FloatKind.f64.format.order s 4607182418800017408 == some Ordering.lt || FloatKind.f64.format.order s 4607182418800017408 == some Ordering.eq) = true := by
    unfold qbad at hq
    cases h1 : FloatKind.f64.format.order s 4607182418800017408 == some Ordering.lt <;> cases h2 : FloatKind.f64.format.order s 4607182418800017408 == some Ordering.eq <;> first | rfl | (rw [h1, h2] at hq; simp at hq)
  have H := Lib.hid h
  clear h hq hs ws e1 h1 h2 h3
  have HL : Hid (xs.length = n) := Lib.hid H.out.1
  go_enter Tryz.func95, Tryz.ntmps95
  go_wp2_with (first
    | (go_at_call 157; (with_reducible refine (clone_c xs A n c _ H.out hp hn).mono ?_); (rintro e w1 ⟨bg, cap, r, rfl, hg, hblk, hbel⟩; have HG := Lib.hid hg; have K1 := Lib.hid hblk; have B1 := Lib.hid hbel; clear hg hblk hbel))
    | (go_at_call 158; (with_reducible refine (sort_n xs n bg cap r _ HL.out K1.out hn).mono ?_); (rintro e w2 ⟨rfl, hblk, hbel⟩; have K2 := Lib.hid hblk; have B2 := Lib.hid (hbel _ HG.out); clear hblk hbel))
    | (go_at_call 159; (with_reducible refine (quant_search n _ (want s n) _ hp hn HM.out (cell_new _ _ _)).mono ?_); (rintro e w3 ⟨⟨k, rfl, hF⟩, hd⟩; have HF := Lib.hid hF; have D3 := Lib.hid hd; have K3 := Lib.hid (Blk.dr (K2.out.alloc _) hd); have k1 : k < n := (by have := hF.1; omega); have hx : (srt xs)[k]? = some ((srt xs)[k]?.getD 0) := srt_at HL.out k1; have hcell : w3.cell? ⟨bg, k, none⟩ = some (.int .i64 ((srt xs)[k]?.getD 0)) := (Blk.cellv K3.out (nums_at hx r)); clear hF hd hx)))
  all_goals go_ret2
  all_goals exact ⟨⟨k, HF.out, rfl⟩, (B1.out.trans B2.out).trans (((alloc_below _ _).mono (Nat.le_trans B1.out.size B2.out.size)).trans D3.out.below)⟩
end Go.Proofs.YtbplgjocammnbaaGreat.Quant
