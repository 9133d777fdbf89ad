/- Contract of stats.Histogram. -/
import Derived.Test.YtbplgjocammnbaaGreatHistP
import Derived.BigQuiet
namespace Go.Proofs.YtbplgjocammnbaaGreat.Hist
open Ieee Go.RowKit Go.Proofs.YtbplgjocammnbaaGreat.Aid Go.Proofs.YtbplgjocammnbaaGreat.Mem Go.Proofs.YtbplgjocammnbaaGreat.Keep Go.Proofs.YtbplgjocammnbaaGreat.Of Go.Proofs.YtbplgjocammnbaaGreat.Fl Go.Proofs.YtbplgjocammnbaaGreat.Fin Go.Proofs.YtbplgjocammnbaaGreat.Search Go.Proofs.YtbplgjocammnbaaGreat.Cont Go.Proofs.YtbplgjocammnbaaGreat.HistP Go.Proofs.YtbplgjocammnbaaGreat.Quant
set_option linter.unusedSimpArgs false
set_option linter.unusedVariables false
set_option maxRecDepth 100000
theorem infoInt : (Tryz.prog.info? 3).map (fun i => (i.zero, i.size, i.bytes)) = some (some (.int .i64 0), 1, 8) := by kernel_rfl
theorem made_list (m : Nat) : madeCells #[Value.int .i64 0] m = (List.replicate m (Value.int .i64 0)).toArray := by
  apply Array.ext
  · simp [madeCells]
  · intro i h1 h2
    simp [madeCells, Nat.mod_one]
theorem make_ints (m : Nat) (hm : m ≤ 17592186044416) (W : World) : (Instr.makeSlice 25 (.int .i64 ((m : Int) + 1)) (.int .i64 ((m : Int) + 1))).run Tryz.prog W = .ok (.slice (some ⟨W.heap.size, 0, none⟩) (m + 1) (m + 1)) (W.alloc (.cells (nums .i64 (List.replicate (m + 1) 0)).toArray 3)) := by
  obtain ⟨i, hi, hz⟩ := Option.map_eq_some_iff.1 infoInt
  simp only [Prod.mk.injEq] at hz
  obtain ⟨h1, h2, h3⟩ := hz
  have := run_make (P := Tryz.prog) W 25 3 i _ Tryz.underlying25 hi h1 .i64 .i64 ((m : Int) + 1) ((m : Int) + 1) (by omega) (by omega) (by rw [h3]; omega) (by omega)
  rw [h2, show ((m : Int) + 1).toNat = m + 1 by omega, Nat.mul_one] at this
  rw [this, show (Value.int IntKind.i64 0).cells = #[Value.int .i64 0] by simp [Value.cells], made_list]
  unfold nums
  rw [List.map_replicate]
set_option maxHeartbeats 1000000 in
theorem hclo_c (px pe : Nat) (x : Int) (es : List Nat) (E : Option Addr) (n c : Nat) (i : Nat) (W : World) (hx : W.cell? ⟨px, 0, none⟩ = some (.int .i64 x)) (he : W.cell? ⟨pe, 0, none⟩ = some (.slice E n c)) (h : Flts W E n es) (hi : i < n) :
    Calls Tryz.prog 163 (#[.int .i64 (i : Int)] ++ #[.pointer (some ⟨px, 0, none⟩), .pointer (some ⟨pe, 0, none⟩)]) W fun e W' => e = .returned (.bool (ltF (fi x) (es.getD i 0))) ∧ Dr W W' := by
  show Calls Tryz.prog 163 #[.int .i64 (i : Int), .pointer (some ⟨px, 0, none⟩), .pointer (some ⟨pe, 0, none⟩)] W _
  obtain ⟨ad, v, rfl, hv, hc⟩ := h.at_ hi
  have HV : Hid (es.getD i 0 = v) := Lib.hid (by rw [List.getD_eq_getElem?_getD, hv]; rfl)
  clear h hv
  go_enter Tryz.func163, Tryz.ntmps163
  go_wp2
  go_quiet (fail)
  go_wp2
  go_ret
  exact ⟨by rw [HV.out]; rfl, _, rfl⟩
theorem hist_search (px pe : Nat) (x : Int) (es : List Nat) (E : Option Addr) (n c : Nat) (w : World) (hx : w.cell? ⟨px, 0, none⟩ = some (.int .i64 x)) (he : w.cell? ⟨pe, 0, none⟩ = some (.slice E n c)) (h : Flts w E n es) (hn : n ≤ 17592186044416)
    (hw : ∀ e ∈ es, e < 18446744073709551616) (hnn : es.any nanF = false) (hf : falls es = false) :
    Calls Tryz.prog 159 #[.int .i64 (n : Int), .func (.func 163) #[] #[.pointer (some ⟨px, 0, none⟩), .pointer (some ⟨pe, 0, none⟩)]] w fun e w' => e = .returned (.int .i64 (place es x : Int)) ∧ Dr w w' := by
  have hl := h.1
  refine (search_c 163 #[.pointer (some ⟨px, 0, none⟩), .pointer (some ⟨pe, 0, none⟩)] n (fun i => ltF (fi x) (es.getD i 0)) w hn (fun a b hab hb ha => lt_mono hw hnn hf x a b hab (by omega) ha) (enters_of Tryz.func163 (by kernel_rfl) rfl) (fun W i hW hi => hclo_c px pe x es E n c i W (by obtain ⟨m, rfl⟩ := hW; exact hx) (by obtain ⟨m, rfl⟩ := hW; exact he) (by obtain ⟨m, rfl⟩ := hW; exact h) hi)).mono ?_
  rintro e w' ⟨⟨k, rfl, hk⟩, hd⟩
  rw [← hl] at hk
  exact ⟨by rw [place_from hk], hd⟩
set_option maxHeartbeats 1000000 in
theorem hist_nan (es : List Nat) (E : Option Addr) (n c : Nat) (A : Option Addr) (m a : Nat) (w : World) (h : Flts w E n es) (hn : n ≤ 17592186044416) (hnn : es.any nanF = true) :
    Calls Tryz.prog 96 #[.slice E n c, .slice A m a] w fun e w' => e = .returned (.tuple #[.slice none 0 0, .int .i64 1]) ∧ Below w.heap.size w w' := by
  have c1 := contains_c es E n c (w.alloc (.cells #[.slice E n c] 95)) (h.keep (alloc_below _ _)) hn
  rw [hnn] at c1
  have C1 := Lib.hid c1
  clear h c1
  go_enter Tryz.func96, Tryz.ntmps96
  go_wp2_with (first | (go_at_call 161; (with_reducible refine (C1.out).mono ?_); rintro e w' ⟨rfl, rfl⟩))
  go_ret2
  exact ⟨rfl, alloc_below _ _⟩
/-- The boxes that Histogram holds: its edges, and its counts. -/
def KH (w W : World) (E : Option Addr) (n c : Nat) (h : List Int) : Prop := Below w.heap.size w W ∧ Blk W w.heap.size 95 [.slice E n c] ∧ Blk W (w.heap.size + 1) 3 (nums .i64 h)
theorem KH.start (w : World) (E : Option Addr) (n c d : Nat) (h : List Int) : KH w (((w.alloc (.cells #[.slice E n c] 95)).drewN d).alloc (.cells (nums .i64 h).toArray 3)) E n c h := by
  refine ⟨(below_drewN (alloc_below _ _) d).alloc (by show _ ≤ (w.alloc _).heap.size; rw [size_alloc]; omega) _, ((Blk.new w 95 [.slice E n c]).drewN d).alloc _, ?_⟩
  have := Blk.new ((w.alloc (.cells #[.slice E n c] 95)).drewN d) 3 (nums .i64 h)
  rwa [show ((w.alloc (.cells #[.slice E n c] 95)).drewN d).heap.size = w.heap.size + 1 from size_alloc _ _] at this
theorem KH.step {w W W' : World} {E : Option Addr} {n c : Nat} {h : List Int} (k : KH w W E n c h) (x : Int) (d : Dr (W.alloc (.cells #[.int .i64 x] 3)) W') : KH w W' E n c h :=
  ⟨(k.1.alloc k.1.size _).trans d.below, Blk.dr (k.2.1.alloc _) d, Blk.dr (k.2.2.alloc _) d⟩
theorem nums_set (l : List Int) (b : Nat) (v : Int) : (nums .i64 l).set b (.int .i64 v) = nums .i64 (l.set b v) := by unfold nums; rw [List.map_set]
theorem KH.put {w W : World} {E : Option Addr} {n c : Nat} {h : List Int} (k : KH w W E n c h) (p : Nat) (v : Int) : KH w (W.setCell ⟨w.heap.size + 1, p, none⟩ (.int .i64 v)) E n c (h.set p v) := by
  refine ⟨k.1.setCell (by show _ ≤ w.heap.size + 1; omega) _, k.2.1.far (p := ⟨w.heap.size + 1, p, none⟩) (by show w.heap.size ≠ w.heap.size + 1; omega) _, ?_⟩
  have := k.2.2.put p (.int .i64 v)
  rwa [nums_set] at this
theorem nums_some {l : List Int} {i : Nat} {x : Int} (h : l[i]? = some x) : (nums .i64 l)[i]? = some (.int .i64 x) := by unfold nums; rw [List.getElem?_map, h]; rfl
set_option maxHeartbeats 4000000 in
theorem hist_more (es : List Nat) (E : Option Addr) (n c : Nat) (l : List Int) (A : Option Addr) (m a : Nat) (w : World) (h : Flts w E n es) (hn : n ≤ 17592186044416) (hI : Ints w .i64 A m l) (hm : m ≤ 17592186044416)
    (hw : ∀ e ∈ es, e < 18446744073709551616) (hnn : es.any nanF = false) :
    Calls Tryz.prog 96 #[.slice E n c, .slice A m a] w fun e w' => (falls es = true → e = .returned (.tuple #[.slice none 0 0, .int .i64 4])) ∧ (falls es = false → ∃ g, e = .returned (.tuple #[.slice (some ⟨g, 0, none⟩) (n + 1) (n + 1), .int .i64 0]) ∧ w.heap.size ≤ g ∧ Blk w' g 3 (nums .i64 (hist es l))) ∧ Below w.heap.size w w' := by
  have c1 := contains_c es E n c (w.alloc (.cells #[.slice E n c] 95)) (h.keep (alloc_below _ _)) hn
  rw [hnn] at c1
  have C1 := Lib.hid c1
  have HF := Lib.hid (h.keep (alloc_below w (.cells #[.slice E n c] 95)))
  have H0 := Lib.hid h
  have HL := Lib.hid h.1
  have HI := Lib.hid hI
  have HW := Lib.hid hw
  have HN := Lib.hid hnn
  clear h c1 hw hnn hI
  go_enter Tryz.func96, Tryz.ntmps96
  go_wp2_with (first | (go_at_call 161; (with_reducible refine (C1.out).mono ?_); rintro e w' ⟨rfl, rfl⟩))
  go_loopw [15] (fun i wr => ∃ k d : Nat, k ≤ n ∧ i = .int .i64 k ∧ Hid (∀ t x y, t + 1 < k → es[t]? = some x → es[t + 1]? = some y → leF y x = false) ∧ wr = (w.alloc (.cells #[.slice E n c] 95)).drewN d) (fun i _ => n - (intOf i).toNat)
  case atStart => exact ⟨0, 0, Nat.zero_le _, rfl, Lib.hid (fun t x y h => absurd h (by omega)), rfl⟩
  case round =>
    obtain ⟨k, d, hk, rfl, HA, rfl⟩ := hrel
    by_cases hlt : k < n
    · cases k with
      | zero =>
        have h0 : decide ((0 : Int) > 0) = false := rfl
        go_wp2_with (fail)
        go_quiet (fail)
        go_wp2
        go_roundw
        case rel => exact ⟨1, d + nq, by omega, rfl, Lib.hid (fun t x y h => absurd h (by omega)), rfl⟩
        case measure => simp [intOf]; omega
      | succ k =>
        obtain ⟨ad, y, rfl, hy, hc⟩ := HF.out.at_ hlt
        obtain ⟨ad', x, e', hx, hc'⟩ := HF.out.at_ (show k < n by omega)
        cases e'
        have hcx : (w.alloc (.cells #[.slice (some ad) n c] 95)).cell? ⟨ad.block, ad.off + (k + 1), none⟩ = some (.float .f64 y) := by
          unfold Addr.add at hc
          rwa [if_neg (by omega)] at hc
        cases hle : leF y x with
        | true =>
          have HFA := Lib.hid (falls_of hx hy hle)
          have g1 : (FloatKind.f64.format.order y x == some .lt || FloatKind.f64.format.order y x == some .eq) = true := hle
          have k0 : decide (0 < ((k : Int) + 1)) = true := decide_eq_true (by omega)
          clear hle hx hy
          go_wp2_with (fail)
          go_quiet (fail)
          go_wp2
          go_ret2
          exact ⟨fun _ => rfl, fun hf => absurd (hf.symm.trans HFA.out) (by decide), below_drewN (below_drewN (alloc_below _ _) _) _⟩
        | false =>
          have HA2 : Hid (∀ t x y, t + 1 < k + 1 + 1 → es[t]? = some x → es[t + 1]? = some y → leF y x = false) := Lib.hid (fun t u v ht hu hv => by
            rcases Nat.lt_or_ge (t + 1) (k + 1) with h1 | h1
            · exact HA.out t u v h1 hu hv
            · obtain rfl : t = k := by omega
              rw [hx] at hu; cases hu
              rw [hy] at hv; cases hv
              exact hle)
          have g1 : (FloatKind.f64.format.order y x == some .lt || FloatKind.f64.format.order y x == some .eq) = false := hle
          have k0 : decide (0 < ((k : Int) + 1)) = true := decide_eq_true (by omega)
          clear hle hx hy
          go_wp2_with (fail)
          go_quiet (fail)
          go_wp2
          go_roundw
          case rel => exact ⟨k + 1 + 1, d + nq, by omega, by go_num, HA2, rfl⟩
          case measure => simp [intOf]; omega
    · obtain rfl : k = n := by omega
      have HFF : Hid (falls es = false) := Lib.hid (falls_none fun t x y hx hy => HA.out t x y (by have := (List.getElem?_eq_some_iff.1 hy).1; have := HL.out; omega) hx hy)
      have MK := fun W => make_ints k hn W
      clear HA hlt
      go_wp2_with (fail)
      go_loopw [39] (fun i wr => ∃ j : Nat, j ≤ m ∧ i = .int .i64 j ∧ Hid (KH w wr E k c (hist es (l.take j)))) (fun i _ => m - (intOf i).toNat)
      case atStart => exact ⟨0, Nat.zero_le _, rfl, Lib.hid (by rw [List.take_zero, hist_nil, HL.out]; exact KH.start w E k c d _)⟩
      case round =>
        obtain ⟨j, hj, rfl, K0⟩ := hrel
        by_cases hjm : j < m
        · obtain ⟨ad, x, rfl, hx, hc⟩ := (HI.out.keep K0.out.1).at_ hjm
          have k1 : (wr.alloc (.cells #[.int .i64 x] 3)).cell? ⟨w.heap.size, 0, none⟩ = some (.slice E k c) := (K0.out.2.1.alloc _).cellv (i := 0) rfl
          obtain ⟨p, hp⟩ : ∃ p, p = place es x := ⟨_, rfl⟩
          obtain ⟨q, hq⟩ : ∃ q, q = (l.take j).countP (fun y => place es y == place es x) := ⟨_, rfl⟩
          have hpk : p ≤ k := by have := place_le es x; have := HL.out; omega
          have hqj : q ≤ m := by rw [hq]; exact hist_bound (by rw [List.length_take]; omega) _
          have HX : Hid (hist es (l.take (j + 1)) = (hist es (l.take j)).set p ((q : Int) + 1)) := Lib.hid (by rw [take_snoc l j x hx, hist_snoc, hp, hq])
          have HC : Hid ((hist es (l.take j))[p]? = some (q : Int)) := Lib.hid (by rw [hist_at (by have := HL.out; omega), hp, hq])
          have HS : Hid (Calls Tryz.prog 159 #[.int .i64 (k : Int), .func (.func 163) #[] #[.pointer (some ⟨wr.heap.size, 0, none⟩), .pointer (some ⟨w.heap.size, 0, none⟩)]] (wr.alloc (.cells #[.int .i64 x] 3)) fun e w' => e = .returned (.int .i64 (p : Int)) ∧ Dr (wr.alloc (.cells #[.int .i64 x] 3)) w') := by
            rw [hp]
            exact Lib.hid (hist_search wr.heap.size w.heap.size x es E k c _ (cell_new _ _ _) ((K0.out.2.1.alloc _).cellv (i := 0) rfl) (H0.out.keep (K0.out.1.alloc K0.out.1.size _)) hn HW.out HN.out HFF.out)
          clear hp hq hx
          go_wp2_with (first | (go_at_call 159; (with_reducible refine (HS.out).mono ?_); (rintro e w3 ⟨rfl, hd⟩; have D3 := Lib.hid hd; have K3 := Lib.hid (K0.out.step x hd); have c3 := K3.out.2.2.cellv (i := p) (nums_some HC.out); have f3 := K3.out.2.2.free p; clear hd)))
          go_roundw
          case rel => exact ⟨j + 1, by omega, by go_num, Lib.hid (by rw [HX.out]; exact K3.out.put p _)⟩
          case measure => simp [intOf]; omega
        · obtain rfl : j = m := by omega
          have ht : l.take j = l := List.take_of_length_le (by have := HI.out.1; omega)
          rw [ht] at K0
          clear ht
          go_wp2
          go_ret2
          exact ⟨fun hf => absurd (HFF.out.symm.trans hf) (by decide), fun _ => ⟨w.heap.size + 1, rfl, by omega, K0.out.2.2⟩, K0.out.1⟩
end Go.Proofs.YtbplgjocammnbaaGreat.Hist
