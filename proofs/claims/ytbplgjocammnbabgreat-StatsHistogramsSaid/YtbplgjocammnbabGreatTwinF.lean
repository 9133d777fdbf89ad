/- Contracts of TwinFloats, SameFloats and LeftFloats. -/
import Derived.Test.YtbplgjocammnbabGreatTwin
import Derived.Test.YtbplgjocammnbabGreatLeft
import Derived.Test.YtbplgjocammnbabGreatEdges
import Derived.BigQuiet
namespace Go.Proofs.YtbplgjocammnbabGreat.TwinF
open Ieee Go.RowKit Go.Proofs.YtbplgjocammnbabGreat.Aid Go.Proofs.YtbplgjocammnbabGreat.Mem Go.Proofs.YtbplgjocammnbabGreat.Keep Go.Proofs.YtbplgjocammnbabGreat.Twin Go.Proofs.YtbplgjocammnbabGreat.Cont Go.Proofs.YtbplgjocammnbabGreat.Edges Go.Proofs.YtbplgjocammnbabGreat.Of Go.Proofs.YtbplgjocammnbabGreat.Fl Go.Proofs.YtbplgjocammnbabGreat.Fin Go.Proofs.YtbplgjocammnbabGreat.HistP
set_option linter.unusedSimpArgs false
set_option linter.unusedVariables false
set_option maxRecDepth 100000
attribute [local go_sem] Of.run_store_float
/-- The mark behind a copy of floats. -/
def markW : Nat := floatOfInt .f64 (-8777)
theorem flt_reads {w : World} {g n : Nat} {t : TypeId} {xs : List Nat} {r : List Value} (h : Blk w g t (flts xs ++ r)) (hl : xs.length = n) : Flts w (some ⟨g, 0, none⟩) n xs := by subst hl; exact Flts.of_blk h
theorem made_flts (m : Nat) : madeCells #[Value.float .f64 0] m = (List.replicate m (Value.float .f64 0)).toArray := by
  apply Array.ext
  · simp [madeCells]
  · intro i h1 h2
    simp [madeCells, Nat.mod_one]
theorem make_flts (m : Nat) (hm : m ≤ 2097152) (W : World) : (Instr.makeSlice 25 (.int .i64 (m : Int)) (.int .i64 (m : Int))).run Tryz.prog W = .ok (.slice (some ⟨W.heap.size, 0, none⟩) m m) (W.alloc (.cells (madeCells #[.float .f64 0] m) 65)) := by
  obtain ⟨i, hi, hz⟩ := Option.map_eq_some_iff.1 infoFlt
  simp only [Prod.mk.injEq] at hz
  obtain ⟨h1, h2, h3⟩ := hz
  have := run_make (P := Tryz.prog) W 25 65 i _ Tryz.underlying25 hi h1 .i64 .i64 (m : Int) (m : Int) (by omega) (by omega) (by rw [h3]; omega) (by omega)
  rw [h2, show (m : Int).toNat = m by omega, Nat.mul_one] at this
  rw [this, show (Value.float FloatKind.f64 0).cells = #[Value.float .f64 0] by simp [Value.cells]]
set_option maxHeartbeats 1000000 in
/-- TwinFloats: a copy in memory of its own, the mark behind it. -/
theorem twinf_c (xs : List Nat) (A : Option Addr) (n c : Nat) (w : World) (G : Nat) (hG : w.heap.size = G) (h : Flts w A n xs) (hn : n ≤ 1048576) :
    Calls Tryz.prog 6 #[.slice A n c] w fun e w' => e = .returned (.slice (some ⟨G, 0, none⟩) n (n + 1)) ∧ Blk w' G 65 (flts xs ++ [.float .f64 markW]) ∧ Below w.heap.size w w' ∧ w'.heap.size = G + 1 := by
  subst hG
  have H := Lib.hid h
  clear h
  have hmk := make_flts (n + 1) (by omega)
  rw [show ((n + 1 : Nat) : Int) = (n : Int) + 1 by omega] at hmk
  go_enter Tryz.func6, Tryz.ntmps6
  go_wp2_with (fail)
  rw [made_flts]
  have HB0 := Lib.hid (Blk.new w 65 (List.replicate (n + 1) (Value.float .f64 0)))
  have HL0 := Lib.hid ((Below.refl w.heap.size w).alloc (Nat.le_refl _) (.cells (List.replicate (n + 1) (Value.float .f64 0)).toArray 65))
  have HZ0 : Hid ((w.alloc (.cells (List.replicate (n + 1) (Value.float .f64 0)).toArray 65)).heap.size = w.heap.size + 1) := by show _ = _; simp
  generalize w.alloc (.cells (List.replicate (n + 1) (Value.float .f64 0)).toArray 65) = w0 at *
  clear hmk
  go_loopw [4] (fun i wr => ∃ k : Nat, k ≤ n ∧ i = .int .i64 k ∧ Hid (Blk wr w.heap.size 65 (flts (xs.take k) ++ List.replicate (n + 1 - k) (Value.float .f64 0))) ∧ Hid (Below w.heap.size w wr) ∧ Hid (wr.heap.size = w.heap.size + 1)) (fun i _ => n - (intOf i).toNat)
  case atStart => exact ⟨0, Nat.zero_le _, rfl, by simpa [flts] using HB0, HL0, HZ0⟩
  case round =>
    obtain ⟨k, hk, rfl, HB, HL, HZ⟩ := hrel
    clear HB0 HL0 HZ0
    by_cases hlt : k < n
    · obtain ⟨ad, x, rfl, hx, hc0⟩ := H.out.at_ hlt
      have hc := (HL.out.cell (World.block_lt_of_cell? w _ hc0)).trans hc0
      have hlen : (flts (xs.take k)).length = k := by simp [flts]; have := H.out.1; omega
      obtain ⟨m, hm⟩ : ∃ m, n + 1 - k = m + 1 := ⟨n - k, by omega⟩
      have HB' := HB.out
      rw [hm, List.replicate_succ] at HB'
      have hz : _ = some (Value.float .f64 0) := HB'.cellv (i := k) (by rw [List.getElem?_append_right (by omega), hlen]; simp)
      have hfz := HB'.free k
      have HP := Lib.hid (HB'.put k (.float .f64 x))
      have HX := Lib.hid hx
      have HN := Lib.hid hlen
      have HM := Lib.hid hm
      clear hx hc0 HB' hlen hm
      go_wp2
      go_roundw
      case rel =>
        refine ⟨k + 1, by omega, by go_num, Lib.hid ?_, HL.out.setCell (Nat.le_refl _) _, by show _ = _; rw [← HZ.out]; simp [World.setCell]⟩
        have h := HP.out
        have e := set_mid (flts (xs.take k)) (List.replicate m (Value.float .f64 0)) (.float .f64 0) (.float .f64 x)
        rw [HN.out] at e
        rw [e] at h
        rw [take_snoc xs k x HX.out, show n + 1 - (k + 1) = m by have := HM.out; omega]
        simpa [flts] using h
      case measure => simp [intOf]; omega
    · obtain rfl : k = n := by omega
      have ht : xs.take k = xs := List.take_of_length_le (by have := H.out.1; omega)
      have HB' := HB.out
      rw [ht, show k + 1 - k = 1 by omega] at HB'
      have hlen : (flts xs).length = k := by simp [flts]; exact H.out.1
      have hz : _ = some (Value.float .f64 0) := HB'.cellv (i := k) (by rw [List.getElem?_append_right (by omega), hlen]; simp)
      have hfz := HB'.free k
      have HP := Lib.hid (HB'.put k (.float .f64 markW))
      have HN := Lib.hid hlen
      clear HB' hlen ht
      go_wp2
      go_ret
      refine ⟨rfl, ?_, HL.out.setCell (Nat.le_refl _) _, by rw [← HZ.out]; simp [World.setCell]⟩
      have h := HP.out
      have e := set_mid (flts xs) [] (.float .f64 0) (.float .f64 markW)
      rw [HN.out] at e
      rw [show List.replicate 1 (Value.float .f64 0) = [Value.float .f64 0] from rfl, e] at h
      have h' : Blk (wr.setCell ⟨w.heap.size, k, none⟩ (.float .f64 markW)) w.heap.size 65 (flts xs ++ [.float .f64 markW]) := by simpa using h
      exact h'
theorem isFloat_c (w : World) : Calls Tryz.prog 24 #[.float .f64 markW, .int .i64 7777] w fun e w' => e = .returned (.bool true) ∧ w = w' := by
  have e : (FloatKind.f64.format.order markW (floatOfInt .f64 (-8777)) == some .eq) = true := by decide +kernel
  go_enter Tryz.func24, Tryz.ntmps24
  go_wp2
  go_ret
  exact ⟨rfl, rfl⟩
theorem zero_word {x : Nat} (hx : x < 18446744073709551616) (h : (FloatKind.f64.format.order x 0 == some .eq) = true) : x = 0 ∨ x = 9223372036854775808 := by
  obtain ⟨s, r, rfl, hr⟩ := word_of x hx
  rcases Nat.lt_or_ge 9218868437227405312 r with hn | hf
  · rw [show FloatKind.f64.format.order (double.word s r) 0 = none from ord_nan s r _ hn hr] at h
    simp at h
  · have o := ord s false r 0 hf (by decide)
    rw [show double.word false 0 = 0 by rw [word_f], show sv false 0 = 0 by simp [sv, V_zero]] at o
    rw [show FloatKind.f64.format.order (double.word s r) 0 = _ from o] at h
    have h0 : sv s r = 0 := by
      by_cases c : sv s r < 0
      · rw [if_pos c] at h; simp at h
      · rw [if_neg c] at h
        by_cases d : sv s r = 0
        · exact d
        · rw [if_neg d] at h; simp at h
    have hv : V r = V 0 := by rw [V_zero, ← sv_abs s r, h0]; rfl
    have hr0 : r = 0 := V_inj hv
    subst hr0
    cases s
    · left; rw [word_f]
    · right; rw [word_t]
theorem samef_c (x : Nat) (w : World) (hx : x < 18446744073709551616) : Calls Tryz.prog 106 #[.float .f64 x, .float .f64 x] w fun e w' => e = .returned (.bool true) ∧ w' = w := by
  cases h1 : (FloatKind.f64.format.order x x != some .eq) with
  | true =>
    go_enter Tryz.func106, Tryz.ntmps106
    go_wp2
    go_ret
    exact ⟨rfl, rfl⟩
  | false =>
    have h2 : (FloatKind.f64.format.order x x == some .eq) = true := by
      cases h : (FloatKind.f64.format.order x x == some .eq) with
      | true => rfl
      | false => unfold bne at h1; rw [h] at h1; cases h1
    cases h0 : (FloatKind.f64.format.order x 0 != some .eq) with
    | true =>
      go_enter Tryz.func106, Tryz.ntmps106
      go_wp2
      go_ret
      exact ⟨rfl, rfl⟩
    | false =>
      have h3 : (FloatKind.f64.format.order x 0 == some .eq) = true := by
        cases h : (FloatKind.f64.format.order x 0 == some .eq) with
        | true => rfl
        | false => unfold bne at h0; rw [h] at h0; cases h0
      have f0 : ∀ t W, (binOp .quo t (.float .f64 4607182418800017408) (.float .f64 0)).run Tryz.prog W = .ok (.float .f64 (fo .quo 4607182418800017408 0)) W := fo_run (by decide +kernel)
      have f1 : ∀ t W, (binOp .quo t (.float .f64 4607182418800017408) (.float .f64 9223372036854775808)).run Tryz.prog W = .ok (.float .f64 (fo .quo 4607182418800017408 9223372036854775808)) W := fo_run (by decide +kernel)
      rw [show fo .quo 4607182418800017408 0 = 9218868437227405312 by decide +kernel] at f0
      rw [show fo .quo 4607182418800017408 9223372036854775808 = 18442240474082181120 by decide +kernel] at f1
      rcases zero_word hx h3 with rfl | rfl
      all_goals
        clear h3 h2 h1 h0
        go_enter Tryz.func106, Tryz.ntmps106
        go_wp2
        go_ret
        exact ⟨rfl, rfl⟩
theorem samefs_c (xs : List Nat) (A B : Option Addr) (n c d : Nat) (w : World) (h : Flts w A n xs) (h' : Flts w B n xs) (hn : n ≤ 1048576) (hw : ∀ x ∈ xs, x < 18446744073709551616) :
    Calls Tryz.prog 23 #[.slice A n c, .slice B n d] w fun e w' => e = .returned (.bool true) ∧ Dr w w' := by
  have H := Lib.hid h
  have H' := Lib.hid h'
  have HW := Lib.hid hw
  clear h h' hw
  go_enter Tryz.func23, Tryz.ntmps23
  go_wp2_with (fail)
  go_loopw [5] (fun i wr => ∃ k : Nat, k ≤ n ∧ i = .int .i64 k ∧ Hid (Dr w wr)) (fun i _ => n - (intOf i).toNat)
  case atStart => exact ⟨0, Nat.zero_le _, rfl, Lib.hid (Dr.refl _)⟩
  case round =>
    obtain ⟨k, hk, rfl, HD⟩ := hrel
    by_cases hlt : k < n
    · obtain ⟨ad, x, rfl, hx, hc⟩ := (H.out.keep HD.out.below).at_ hlt
      obtain ⟨bd, y, rfl, hy, hc'⟩ := (H'.out.keep HD.out.below).at_ hlt
      obtain rfl : x = y := by rw [hx] at hy; injection hy
      have HX : Hid (∀ W, Calls Tryz.prog 106 #[.float .f64 x, .float .f64 x] W fun e w' => e = .returned (.bool true) ∧ w' = W) := Lib.hid (fun W => samef_c x W (HW.out x (List.mem_of_getElem? hx)))
      clear hx hy
      go_wp2
      go_quiet ((go_at_call 106; exact Calls.quiet_of_same (HX.out _)))
      go_wp2
      go_roundw
      case rel => exact ⟨k + 1, by omega, by go_num, Lib.hid (Search.Dr.trans HD.out ⟨nq, rfl⟩)⟩
      case measure => simp [intOf]; omega
    · obtain rfl : k = n := by omega
      go_wp2
      go_ret
      exact ⟨rfl, HD.out⟩
/-- LeftFloats: the copy is still that, its mark too. -/
theorem leftf_c (xs : List Nat) (g : Nat) (A : Option Addr) (n c : Nat) (w : World) (hg : Blk w g 65 (flts xs ++ [.float .f64 markW])) (h : Flts w A n xs) (hn : n ≤ 1048576) (hw : ∀ x ∈ xs, x < 18446744073709551616) :
    Calls Tryz.prog 11 #[.slice (some ⟨g, 0, none⟩) n (n + 1), .slice A n c] w fun e w' => e = .returned (.bool true) ∧ Dr w w' := by
  have hl := h.1
  have h2 : Flts w (some ⟨g, 0, none⟩) n xs := by
    have := Flts.of_blk (xs := xs) hg
    rwa [hl] at this
  have H := Lib.hid h
  have H2 := Lib.hid h2
  have HW := Lib.hid hw
  have hz : w.cell? ⟨g, n, none⟩ = some (.float .f64 markW) := hg.cellv (by rw [List.getElem?_append_right (by simp [flts]; omega)]; simp [flts, hl])
  clear h h2 hl hg hw
  go_enter Tryz.func11, Tryz.ntmps11
  go_wp2_with (first | (go_at_call 23; (with_reducible refine (samefs_c xs _ A n _ c _ H2.out H.out hn HW.out).mono ?_); rintro e w' ⟨rfl, nd, rfl⟩) | (go_at_call 24; (with_reducible refine (isFloat_c _).mono ?_); rintro e w' ⟨rfl, rfl⟩))
  go_ret
  exact ⟨rfl, _, rfl⟩
end Go.Proofs.YtbplgjocammnbabGreat.TwinF
