/- Contract of the document's Histogram. -/
import Derived.Test.YtbplgjocammnbabGreatHist
namespace Go.Proofs.YtbplgjocammnbabGreat.RefH
open Ieee Go.RowKit Go.Proofs.YtbplgjocammnbabGreat.Aid Go.Proofs.YtbplgjocammnbabGreat.Mem Go.Proofs.YtbplgjocammnbabGreat.Keep Go.Proofs.YtbplgjocammnbabGreat.Of Go.Proofs.YtbplgjocammnbabGreat.Fl Go.Proofs.YtbplgjocammnbabGreat.Fin Go.Proofs.YtbplgjocammnbabGreat.Search Go.Proofs.YtbplgjocammnbabGreat.Cont Go.Proofs.YtbplgjocammnbabGreat.HistP Go.Proofs.YtbplgjocammnbabGreat.Quant Go.Proofs.YtbplgjocammnbabGreat.Hist
set_option linter.unusedSimpArgs false
set_option linter.unusedVariables false
set_option maxRecDepth 100000
theorem ge_word (s t : Bool) (r q : Nat) (hr : r ≤ 9218868437227405312) (hq : q ≤ 9218868437227405312) : (FloatKind.f64.format.order (double.word s r) (double.word t q) == some .gt || FloatKind.f64.format.order (double.word s r) (double.word t q) == some .eq) = !ltF (double.word s r) (double.word t q) := by
  unfold ltF
  rw [show FloatKind.f64.format.order (double.word s r) (double.word t q) = _ from ord s t r q hr hq]
  split
  · rfl
  · split <;> rfl
theorem ge_edge {es : List Nat} (hw : ∀ e ∈ es, e < 18446744073709551616) (hn : es.any nanF = false) (x : Int) {i e : Nat} (h : es[i]? = some e) : (FloatKind.f64.format.order (floatOfInt .f64 x) e == some .gt || FloatKind.f64.format.order (floatOfInt .f64 x) e == some .eq) = !ltF (fi x) e := by
  obtain ⟨s, r, h1, hr⟩ := fi_any x
  obtain ⟨t, q, rfl, hq⟩ := edge_word hw hn h
  show (FloatKind.f64.format.order (fi x) _ == some .gt || FloatKind.f64.format.order (fi x) _ == some .eq) = _
  rw [h1]
  exact ge_word s t r q hr hq
theorem tw_more {p : Nat → Bool} : ∀ {l : List Nat} {k e : Nat}, k ≤ (l.takeWhile p).length → l[k]? = some e → p e = true → k + 1 ≤ (l.takeWhile p).length
  | [], k, e, _, h, _ => by simp at h
  | a :: r, 0, e, _, h, hp => by
    simp at h; subst h
    rw [List.takeWhile_cons, if_pos hp]
    simp
  | a :: r, k + 1, e, hk, h, hp => by
    by_cases ha : p a = true
    · rw [List.takeWhile_cons, if_pos ha] at hk ⊢
      simp at h hk ⊢
      exact tw_more hk h hp
    · rw [List.takeWhile_cons, if_neg ha] at hk
      simp at hk
theorem tw_stop {p : Nat → Bool} : ∀ {l : List Nat} {k e : Nat}, k ≤ (l.takeWhile p).length → l[k]? = some e → p e = false → (l.takeWhile p).length = k
  | [], k, e, _, h, _ => by simp at h
  | a :: r, 0, e, _, h, hp => by
    simp at h; subst h
    rw [List.takeWhile_cons, if_neg (by simp [hp])]
    rfl
  | a :: r, k + 1, e, hk, h, hp => by
    by_cases ha : p a = true
    · rw [List.takeWhile_cons, if_pos ha] at hk ⊢
      simp at h hk ⊢
      exact tw_stop hk h hp
    · rw [List.takeWhile_cons, if_neg ha] at hk
      simp at hk
theorem place_more {es : List Nat} {x : Int} {k e : Nat} (hk : k ≤ place es x) (h : es[k]? = some e) (hg : ltF (fi x) e = false) : k + 1 ≤ place es x := tw_more hk h (by simp [hg])
theorem place_stop {es : List Nat} {x : Int} {k e : Nat} (hk : k ≤ place es x) (h : es[k]? = some e) (hg : ltF (fi x) e = true) : place es x = k := tw_stop hk h (by simp [hg])
set_option maxHeartbeats 1000000 in
theorem refh_nan (es : List Nat) (E : Option Addr) (n c : Nat) (A : Option Addr) (m a : Nat) (w : World) (h : Flts w E n es) (hn : n ≤ 17592186044416) (hnn : es.any nanF = true) :
    Calls Tryz.prog 9 #[.slice E n c, .slice A m a] w fun e w' => e = .returned (.tuple #[.slice none 0 0, .int .i64 1]) ∧ Below w.heap.size w w' := by
  have H := Lib.hid h
  have HN := Lib.hid hnn
  clear h hnn
  go_enter Tryz.func9, Tryz.ntmps9
  go_wp2_with (fail)
  go_loopw [6] (fun i wr => ∃ k d : Nat, k ≤ n ∧ i = .int .i64 k ∧ Hid ((es.take k).any nanF = false) ∧ wr = w.drewN d) (fun i _ => n - (intOf i).toNat)
  case atStart => exact ⟨0, 0, Nat.zero_le _, rfl, Lib.hid (by simp), rfl⟩
  case round =>
    obtain ⟨k, d, hk, rfl, HA, rfl⟩ := hrel
    by_cases hlt : k < n
    · obtain ⟨ad, x, rfl, hx, hc⟩ := H.out.at_ hlt
      cases hv : nanF x with
      | true =>
        have h1 : (FloatKind.f64.format.order x x != some .eq) = true := hv
        clear hv hx
        go_wp2_with (fail)
        go_quiet (fail)
        go_wp2
        go_ret2
        exact ⟨rfl, below_drewN (below_drewN (Below.refl _ _) _) _⟩
      | false =>
        have h1 : (FloatKind.f64.format.order x x != some .eq) = false := hv
        have HA2 : Hid ((es.take (k + 1)).any nanF = false) := Lib.hid (by rw [take_snoc es k x hx, List.any_append, HA.out]; simp [hv])
        clear hv hx
        go_wp2_with (fail)
        go_quiet (fail)
        go_wp2
        go_roundw
        case rel => exact ⟨k + 1, d + nq, by omega, by go_num, HA2, rfl⟩
        case measure => simp [intOf]; omega
    · obtain rfl : k = n := by omega
      exfalso
      have ht : es.take k = es := List.take_of_length_le (by have := H.out.1; omega)
      have := HA.out
      rw [ht, HN.out] at this
      cases this
set_option maxHeartbeats 4000000 in
theorem refh_more (es : List Nat) (E : Option Addr) (n c : Nat) (l : List Int) (A : Option Addr) (m a : Nat) (w : World) (h : Flts w E n es) (hn : n ≤ 17592186044416) (hI : Ints w .i64 A m l) (hm : m ≤ 17592186044416)
    (hw : ∀ e ∈ es, e < 18446744073709551616) (hnn : es.any nanF = false) :
    Calls Tryz.prog 9 #[.slice E n c, .slice A m a] w fun e w' => (falls es = true → e = .returned (.tuple #[.slice none 0 0, .int .i64 4])) ∧ (falls es = false → ∃ g, e = .returned (.tuple #[.slice (some ⟨g, 0, none⟩) (n + 1) (n + 1), .int .i64 0]) ∧ w.heap.size ≤ g ∧ Blk w' g 3 (nums .i64 (hist es l))) ∧ Below w.heap.size w w' := by
  have H := Lib.hid h
  have HL := Lib.hid h.1
  have HI := Lib.hid hI
  have HG := Lib.hid (fun (x : Int) (i e : Nat) (h : es[i]? = some e) => ge_edge hw hnn x h)
  have HNN : Hid (∀ x ∈ es, nanF x = false) := Lib.hid (by rw [List.any_eq_false] at hnn; intro x hx; simpa using hnn x hx)
  clear h hw hnn hI
  go_enter Tryz.func9, Tryz.ntmps9
  go_wp2_with (fail)
  go_loopw [6] (fun i wr => ∃ k d : Nat, k ≤ n ∧ i = .int .i64 k ∧ wr = w.drewN d) (fun i _ => n - (intOf i).toNat)
  case atStart => exact ⟨0, 0, Nat.zero_le _, rfl, rfl⟩
  case round =>
    obtain ⟨k, d, hk, rfl, rfl⟩ := hrel
    by_cases hlt : k < n
    · obtain ⟨ad, x, rfl, hx, hc⟩ := H.out.at_ hlt
      have h1 : (FloatKind.f64.format.order x x != some .eq) = false := HNN.out x (List.mem_of_getElem? hx)
      clear hx
      go_wp2_with (fail)
      go_quiet (fail)
      go_wp2
      go_roundw
      case rel => exact ⟨k + 1, d + nq, by omega, by go_num, rfl⟩
      case measure => simp [intOf]; omega
    · obtain rfl : k = n := by omega
      clear hlt
      go_wp2_with (fail)
      go_loopw [7] (fun i wr => ∃ t d : Nat, t ≤ k ∧ i = .int .i64 ((t : Int) + 1) ∧ Hid (∀ s x y, s + 1 < t + 1 → es[s]? = some x → es[s + 1]? = some y → leF y x = false) ∧ wr = w.drewN d) (fun i _ => k - (intOf i).toNat)
      case atStart => exact ⟨0, d, Nat.zero_le _, rfl, Lib.hid (fun s x y h => absurd h (by omega)), rfl⟩
      case round =>
        obtain ⟨t, d, ht, rfl, HA, rfl⟩ := hrel
        by_cases hlt : t + 1 < k
        · obtain ⟨ad, y, rfl, hy, hc⟩ := H.out.at_ hlt
          obtain ⟨ad', x, e', hx, hc'⟩ := H.out.at_ (show t < k by omega)
          cases e'
          have hcx : w.cell? ⟨ad.block, ad.off + (t + 1), none⟩ = some (.float .f64 y) := by
            unfold Addr.add at hc
            rwa [if_neg (by omega)] at hc
          cases hle : leF y x with
          | true =>
            have HFA := Lib.hid (falls_of hx hy hle)
            have g1 : (FloatKind.f64.format.order y x == some .lt || FloatKind.f64.format.order y x == some .eq) = true := hle
            clear hle hx hy
            go_wp2_with (fail)
            go_quiet (fail)
            go_wp2
            go_ret2
            exact ⟨fun _ => rfl, fun hf => absurd (hf.symm.trans HFA.out) (by decide), below_drewN (below_drewN (Below.refl _ _) _) _⟩
          | false =>
            have HA2 : Hid (∀ s x y, s + 1 < t + 1 + 1 → es[s]? = some x → es[s + 1]? = some y → leF y x = false) := Lib.hid (fun s u v hs hu hv => by
              rcases Nat.lt_or_ge (s + 1) (t + 1) with h1 | h1
              · exact HA.out s u v h1 hu hv
              · obtain rfl : s = t := by omega
                rw [hx] at hu; cases hu
                rw [hy] at hv; cases hv
                exact hle)
            have g1 : (FloatKind.f64.format.order y x == some .lt || FloatKind.f64.format.order y x == some .eq) = false := hle
            clear hle hx hy
            go_wp2_with (fail)
            go_quiet (fail)
            go_wp2
            go_roundw
            case rel => exact ⟨t + 1, d + nq, by omega, by go_num, HA2, rfl⟩
            case measure => simp [intOf]; omega
        · have HFF : Hid (falls es = false) := Lib.hid (falls_none fun s x y hx hy => HA.out s x y (by have := (List.getElem?_eq_some_iff.1 hy).1; have := HL.out; omega) hx hy)
          have MK := fun W => make_ints k hn W
          have hlt' : ¬ ((t : Int) + 1 < (k : Int)) := by omega
          clear HA
          go_wp2_with (fail)
          have HB0 := Lib.hid (Blk.new (w.drewN d) 3 (nums .i64 (List.replicate (k + 1) 0)))
          have HL0 := Lib.hid ((below_drewN (Below.refl w.heap.size w) d).alloc (Nat.le_refl _) (.cells (nums .i64 (List.replicate (k + 1) 0)).toArray 3))
          rw [show (w.drewN d).heap.size = w.heap.size from rfl] at HB0
          clear MK
          go_loopw [9] (fun i wr => ∃ j : Nat, j ≤ m ∧ i = .int .i64 j ∧ Hid (Blk wr w.heap.size 3 (nums .i64 (hist es (l.take j)))) ∧ Hid (Below w.heap.size w wr)) (fun i _ => m - (intOf i).toNat)
          case atStart => exact ⟨0, Nat.zero_le _, rfl, Lib.hid (by rw [List.take_zero, hist_nil, HL.out]; exact HB0.out), HL0⟩
          case round =>
            obtain ⟨j, hj, rfl, KB, KL⟩ := hrel
            clear HB0 HL0
            by_cases hjm : j < m
            · obtain ⟨bd, x, rfl, hx, hc⟩ := (HI.out.keep KL.out).at_ hjm
              obtain ⟨q, hq⟩ : ∃ q, q = (l.take j).countP (fun y => place es y == place es x) := ⟨_, rfl⟩
              have hqj : q ≤ m := by rw [hq]; exact hist_bound (by rw [List.length_take]; omega) _
              have HX : Hid (hist es (l.take (j + 1)) = (hist es (l.take j)).set (place es x) ((q : Int) + 1)) := Lib.hid (by rw [take_snoc l j x hx, hist_snoc, hq])
              have HC : Hid ((hist es (l.take j))[place es x]? = some (q : Int)) := Lib.hid (by rw [hist_at (by have := place_le es x; omega), hq])
              have HPL := Lib.hid (place_le es x)
              have HGX := Lib.hid (HG.out x)
              clear hx hq
              go_wp2_with (fail)
              go_loopw [10] (fun p wq => ∃ t' d' : Nat, t' ≤ place es x ∧ p = .int .i64 t' ∧ wq = wr.drewN d') (fun p _ => k - (intOf p).toNat)
              case atStart => exact ⟨0, 0, Nat.zero_le _, rfl, rfl⟩
              case round =>
                obtain ⟨p, d', hp, rfl, rfl⟩ := hrel
                have hpk : p ≤ k := by have := HPL.out; have := HL.out; omega
                by_cases hlt2 : p < k
                · obtain ⟨ed, e, rfl, he, hce⟩ := (H.out.keep KL.out).at_ hlt2
                  have g0 := HGX.out p e he
                  cases hv : ltF (fi x) e with
                  | true =>
                    have hpl := place_stop hp he hv
                    rw [hv] at g0
                    rw [hpl] at HX HC
                    have k1 := KB.out.cellv (i := p) (nums_some HC.out)
                    have k2 := KB.out.free p
                    have HP : Hid (∀ m, Blk ((wr.drewN m).setCell ⟨w.heap.size, p, none⟩ (.int .i64 ((q : Int) + 1))) w.heap.size 3 (nums .i64 ((hist es (l.take j)).set p ((q : Int) + 1)))) := Lib.hid (fun m => by rw [← nums_set]; exact (KB.out.drewN m).put p _)
                    clear hv he
                    go_wp2_with (fail)
                    go_quiet (fail)
                    go_wp2_with (fail)
                    go_roundw
                    case rel => exact ⟨j + 1, by omega, by go_num, Lib.hid (by rw [HX.out]; exact HP.out _), (below_drewN KL.out _).setCell (Nat.le_refl _) _⟩
                    case measure => simp [intOf]; omega
                  | false =>
                    have hpl := place_more hp he hv
                    rw [hv] at g0
                    clear hv he
                    go_wp2_with (fail)
                    go_quiet (fail)
                    go_wp2_with (fail)
                    go_roundw
                    case rel => exact ⟨p + 1, d' + nq, hpl, by go_num, rfl⟩
                    case measure => simp [intOf]; omega
                · obtain rfl : p = k := by omega
                  have hpl : place es x = p := by have := HPL.out; have := HL.out; omega
                  rw [hpl] at HX HC
                  have k1 := KB.out.cellv (i := p) (nums_some HC.out)
                  have k2 := KB.out.free p
                  have HP : Hid (∀ m, Blk ((wr.drewN m).setCell ⟨w.heap.size, p, none⟩ (.int .i64 ((q : Int) + 1))) w.heap.size 3 (nums .i64 ((hist es (l.take j)).set p ((q : Int) + 1)))) := Lib.hid (fun m => by rw [← nums_set]; exact (KB.out.drewN m).put p _)
                  have hkk : decide ((p : Int) < (p : Int)) = false := by simp
                  go_wp2_with (fail)
                  go_quiet (fail)
                  go_wp2_with (fail)
                  go_roundw
                  case rel => exact ⟨j + 1, by omega, by go_num, Lib.hid (by rw [HX.out]; exact HP.out _), (below_drewN KL.out _).setCell (Nat.le_refl _) _⟩
                  case measure => simp [intOf]; omega
            · obtain rfl : j = m := by omega
              have ht : l.take j = l := List.take_of_length_le (by have := HI.out.1; omega)
              rw [ht] at KB
              clear ht
              go_wp2
              go_ret2
              exact ⟨fun hf => absurd (HFF.out.symm.trans hf) (by decide), fun _ => ⟨w.heap.size, rfl, Nat.le_refl _, KB.out⟩, KL.out⟩
end Go.Proofs.YtbplgjocammnbabGreat.RefH
