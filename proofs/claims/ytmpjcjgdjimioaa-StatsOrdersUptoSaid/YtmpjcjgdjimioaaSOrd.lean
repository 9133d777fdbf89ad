/- The law StatsOrders: the order of a list makes no difference to Quantile and Histogram; all counts together are how many there are; a list behind another one adds its counts. Written by wip/tpls/gensorders.py. -/
import Derived.Test.YtmpjcjgdjimioaaOrdP
import Derived.Test.YtmpjcjgdjimioaaLives
import Derived.BigQuiet
namespace Go.Proofs.Ytmpjcjgdjimioaa.SOrd
open Ieee Go.RowKit Go.Proofs.Ytmpjcjgdjimioaa.Aid Go.Proofs.Ytmpjcjgdjimioaa.Mem Go.Proofs.Ytmpjcjgdjimioaa.Keep Go.Proofs.Ytmpjcjgdjimioaa.Has Go.Proofs.Ytmpjcjgdjimioaa.Of Go.Proofs.Ytmpjcjgdjimioaa.Fin Go.Proofs.Ytmpjcjgdjimioaa.Sorts Go.Proofs.Ytmpjcjgdjimioaa.Search Go.Proofs.Ytmpjcjgdjimioaa.Cont Go.Proofs.Ytmpjcjgdjimioaa.HistP Go.Proofs.Ytmpjcjgdjimioaa.Hist Go.Proofs.Ytmpjcjgdjimioaa.Quant Go.Proofs.Ytmpjcjgdjimioaa.QuantP Go.Proofs.Ytmpjcjgdjimioaa.Twin Go.Proofs.Ytmpjcjgdjimioaa.Edges Go.Proofs.Ytmpjcjgdjimioaa.OrdP Go.Proofs.Ytmpjcjgdjimioaa.Lives Go.Proofs.Ytmpjcjgdjimioaa.SQuant
set_option linter.unusedSimpArgs false
set_option linter.unusedVariables false
set_option maxRecDepth 100000
theorem hist_f (es : List Nat) (E : Option Addr) (n c : Nat) (l : List Int) (A : Option Addr) (m a : Nat) (w : World) (h : Flts w E n es) (hn : n ≤ 17592186044416) (hI : Ints w .i64 A m l) (hm : m ≤ 17592186044416)
    (hw : ∀ e ∈ es, e < 18446744073709551616) (hnn : es.any nanF = false) (hf : falls es = true) : Calls Try.prog 22 #[.slice E n c, .slice A m a] w fun e w' => e = .returned (.tuple #[.slice none 0 0, .int .i64 4]) ∧ Below w.heap.size w w' :=
  (hist_more es E n c l A m a w h hn hI hm hw hnn).mono fun e w' h => ⟨h.1 hf, h.2.2⟩
theorem hist_t (es : List Nat) (E : Option Addr) (n c : Nat) (l : List Int) (A : Option Addr) (m a : Nat) (w : World) (h : Flts w E n es) (hn : n ≤ 17592186044416) (hI : Ints w .i64 A m l) (hm : m ≤ 17592186044416)
    (hw : ∀ e ∈ es, e < 18446744073709551616) (hnn : es.any nanF = false) (hf : falls es = false) (r : List Int) (hr : hist es l = r) : Calls Try.prog 22 #[.slice E n c, .slice A m a] w fun e w' => (∃ g, e = .returned (.tuple #[.slice (some ⟨g, 0, none⟩) (n + 1) (n + 1), .int .i64 0]) ∧ Ints w' .i64 (some ⟨g, 0, none⟩) (n + 1) r) ∧ Below w.heap.size w w' := by
  refine (hist_more es E n c l A m a w h hn hI hm hw hnn).mono fun e w' hh => ⟨?_, hh.2.2⟩
  subst hr
  obtain ⟨g, rfl, _, hb⟩ := hh.2.1 hf
  refine ⟨g, rfl, ?_⟩
  have := lit_is hb
  rwa [hist_length, h.1] at this
theorem quant_k (s : Nat) (xs : List Int) (A : Option Addr) (n c : Nat) (w : World) (h : Ints w .i64 A n xs) (hp : 0 < n) (hn : n ≤ 17592186044416) (hs : s < 18446744073709551616) (hq : qbad s = false) (ys : List Int) (hy : srt xs = srt ys) (k : Nat) (hk : From (enough (want s n)) (n - 1) k) :
    Calls Try.prog 19 #[.float .f64 s, .slice A n c] w fun e w' => e = .returned (.tuple #[.int .i64 ((srt ys)[k]?.getD 0), .int .i64 0]) ∧ Below w.heap.size w w' := by
  refine (quant_ok s xs A n c w h hp hn hs hq).mono ?_
  rintro e w' ⟨⟨j, hj, rfl⟩, hb⟩
  obtain rfl := from_uniq hj hk
  rw [hy]
  exact ⟨rfl, hb⟩
/-- The numbers on the way: those of the edges. -/
theorem from_any (n : Nat) (s : Nat) (hp : 0 < n) (hn : n ≤ 17592186044416) (hs : s < 18446744073709551616) (hq : qbad s = false) : ∃ k, From (enough (want s n)) (n - 1) k := by
  obtain ⟨ws, g, p, e1, h1, h2, h3, _⟩ := want_word (n := n) (share_word hs hq) (by omega)
  have hm : ∀ a b, a ≤ b → b < n - 1 → enough (want s n) a = true → enough (want s n) b = true := fun a b hab hb => by
    rw [enough_word (by omega) e1 h1 h2, enough_word (by omega) e1 h1 h2]
    simp only [decide_eq_true_eq]
    intro ha
    exact Nat.le_trans ha (Nat.mul_le_mul_right _ (by omega))
  have key : ∀ m, m ≤ n - 1 → ∃ k, k ≤ m ∧ (∀ t, t < k → enough (want s n) t = false) ∧ (∀ t, k ≤ t → t < m → enough (want s n) t = true) := by
    intro m
    induction m with
    | zero => intro _; exact ⟨0, Nat.le_refl _, fun t h => absurd h (by omega), fun t _ h => absurd h (by omega)⟩
    | succ m ih =>
      intro hm'
      obtain ⟨k, hk, k1, k2⟩ := ih (by omega)
      by_cases hkm : k = m
      · subst hkm
        cases he : enough (want s n) k with
        | true => exact ⟨k, by omega, k1, fun t h1 h2 => (show t = k by omega) ▸ he⟩
        | false => exact ⟨k + 1, Nat.le_refl _, fun t ht => by
            rcases Nat.lt_or_ge t k with h | h
            · exact k1 t h
            · exact (show t = k by omega) ▸ he, fun t h1 h2 => absurd h2 (by omega)⟩
      · refine ⟨k, by omega, k1, fun t h1 h2 => ?_⟩
        rcases Nat.lt_or_ge t m with h | h
        · exact k2 t h1 h
        · obtain rfl : t = m := by omega
          exact hm k t h1 (by omega) (k2 k (Nat.le_refl _) (by omega))
  obtain ⟨k, h1, h2, h3⟩ := key (n - 1) (Nat.le_refl _)
  exact ⟨k, h1, h2, h3⟩
set_option maxHeartbeats 8000000 in
theorem ord_nan_bad (es : List Nat) (T : Option Addr) (p pc : Nat) (s : Nat) (xs : List Int) (A : Option Addr) (n c : Nat) (ys : List Int) (B : Option Addr) (m d : Nat) (w : World) (h0 : Ints w .u64 T p (es.map fun x : Nat => (x : Int))) (hw : ∀ e ∈ es, e < 18446744073709551616) (hs : s < 18446744073709551616) (h1 : Ints w .i64 A n xs) (h2 : Ints w .i64 B m ys) (hA : A = none → n = 0 ∧ c = 0) (hB : B = none → m = 0 ∧ d = 0) (b0 : p ≤ 1048575) (b1 : n ≤ 1048576) (b2 : m ≤ 1048576) (hn : es.any nanF = true) (hq : (qbad s || (n : Int) == 0) = true) :
    Calls Try.prog 7 #[.slice T p pc, .int .u64 (s : Int), .slice A n c, .slice B m d] w fun e w' => e = .returned (.bool true) ∧ Below w.heap.size w w' := by
  have H0 := Lib.hid h0
  have H1 := Lib.hid h1
  have H2 := Lib.hid h2
  have HW := Lib.hid hw
  have HA := Lib.hid hA
  have HB := Lib.hid hB
  have HNN := Lib.hid hn
  have HQ := Lib.hid hq
  have fr := from_run s
  have lx : Hid (n ≤ 17592186044415) := Lib.hid (by omega)
  have lm : Hid (m ≤ 17592186044416) := Lib.hid (by omega)
  have ln : Hid (n ≤ 17592186044416) := Lib.hid (by omega)
  have lp : Hid (p ≤ 17592186044415) := Lib.hid (by omega)
  have lp' : Hid (p ≤ 17592186044416) := Lib.hid (by omega)
  have lnm : Hid (n + m ≤ 17592186044416) := Lib.hid (by omega)
  clear h0 h1 h2 hw hA hB hn hs hq
  go_enter Try.func7, Try.ntmps7
  go_wp2_with (first
    | (go_at_call 23; (with_reducible refine (turned_c xs A n c _ (H1.out.keep HL.out) ((fun (_ : True) => lx.out) (by have := HZ.out; trivial))).mono ?_); (rintro e w10 ⟨⟨Tb2, Td2, rfl, hi⟩, hb⟩; have HT2 := Lib.hid hi; clear hi; have HL := Lib.hid (kbt HL.out hb); have HE := Lib.hid (HE.out.keep hb); clear hb))
    | (go_at_call 21; (with_reducible refine (edges_c es T p pc _ H0.out lp.out).mono ?_); (rintro e w1 ⟨⟨Eb, Ed, rfl, hf⟩, hb⟩; have HE := Lib.hid hf; have HL := Lib.hid hb; clear hf hb))
    | (go_at_call 22; (with_reducible refine (hist_nan es _ p _ A n c _ HE.out lp'.out HNN.out).mono ?_); (rintro e w2 ⟨rfl, hb⟩; have HL := Lib.hid (kbt HL.out hb); have HE := Lib.hid (HE.out.keep hb); clear hb))
    | (go_at_call 23; (with_reducible refine (turned_c xs A n c _ (H1.out.keep HL.out) lx.out).mono ?_); (rintro e w3 ⟨⟨Tb, Td, rfl, hi⟩, hb⟩; have HT := Lib.hid hi; clear hi; have HL := Lib.hid (kbt HL.out hb); have HE := Lib.hid (HE.out.keep hb); clear hb))
    | (go_at_call 22; (with_reducible refine (hist_nan es _ p _ Tb n Td _ HE.out lp'.out HNN.out).mono ?_); (rintro e w4 ⟨rfl, hb⟩; have HL := Lib.hid (kbt HL.out hb); have HE := Lib.hid (HE.out.keep hb); clear hb))
    | (go_at_call 22; (with_reducible refine (hist_nan es _ p _ B m d _ HE.out lp'.out HNN.out).mono ?_); (rintro e w5 ⟨rfl, hb⟩; have HL := Lib.hid (kbt HL.out hb); have HE := Lib.hid (HE.out.keep hb); clear hb))
    | (at_builtin; (refine app_list (w0 := w5) w5.heap.size rfl _ _ rfl (.slice none 0 0) 0 [] rfl A n c xs rfl (H1.out.keep HL.out) HA.out (Own.nil _ _ _ _) (Below.refl _ _) (Nat.le_refl _) (by have := ln.out; unfold maxLen; omega) (by have := ln.out; omega) ?_); intro v6 w6 hO hB; have HO6 := Lib.hid hO; have HB6 := Lib.hid hB; clear hO hB)
    | (at_builtin; (refine app_list (w0 := w5) w5.heap.size rfl _ _ rfl v6 (0 + n) ([] ++ xs) rfl B m d ys rfl (H2.out.keep (kbt HL.out HB6.out)) HB.out HO6.out HB6.out HB6.out.size (by have := lnm.out; unfold maxLen; omega) (by have := lnm.out; omega) ?_); intro v7 w7 hO hB; obtain ⟨Za, Zc, ez, hi⟩ := Own.ints hO; subst ez; have HZ := Lib.hid hi; have hb := hB; clear hO hB hi; have HL := Lib.hid (kbt HL.out hb); have HE := Lib.hid (HE.out.keep hb); clear hb; rw [show 0 + n + m = n + m by omega] at HZ; rw [show 0 + n + m = n + m by omega])
    | (go_at_call 22; (with_reducible refine (hist_nan es _ p _ Za (n + m) Zc _ HE.out lp'.out HNN.out).mono ?_); (rintro e w8 ⟨rfl, hb⟩; have HL := Lib.hid (kbt HL.out hb); have HE := Lib.hid (HE.out.keep hb); clear hb))
    | (go_at_call 19; (with_reducible refine (quant_bad s _ n _ _ HQ.out).mono ?_); rintro e w' ⟨rfl, rfl⟩)
    | (go_at_call 24; (with_reducible refine (same_c [] none none 0 0 0 _ Ints.nil Ints.nil (by decide)).mono ?_); (rintro e w12 ⟨rfl, nd, rfl⟩))
    | (go_at_call 12; (with_reducible refine (lives_c _).mono ?_); (rintro e w13 ⟨rfl, hb0⟩; have hb := kbt (below_drewN (Below.refl _ _) nd) hb0; clear hb0; have HL := Lib.hid (kbt HL.out hb); have HE := Lib.hid (HE.out.keep hb); clear hb)))
  go_ret
  exact ⟨rfl, HL.out⟩
set_option maxHeartbeats 8000000 in
theorem ord_nan_ok (es : List Nat) (T : Option Addr) (p pc : Nat) (s : Nat) (xs : List Int) (A : Option Addr) (n c : Nat) (ys : List Int) (B : Option Addr) (m d : Nat) (w : World) (h0 : Ints w .u64 T p (es.map fun x : Nat => (x : Int))) (hw : ∀ e ∈ es, e < 18446744073709551616) (hs : s < 18446744073709551616) (h1 : Ints w .i64 A n xs) (h2 : Ints w .i64 B m ys) (hA : A = none → n = 0 ∧ c = 0) (hB : B = none → m = 0 ∧ d = 0) (b0 : p ≤ 1048575) (b1 : n ≤ 1048576) (b2 : m ≤ 1048576) (hn : es.any nanF = true) (hq : qbad s = false) (hp : 0 < n) :
    Calls Try.prog 7 #[.slice T p pc, .int .u64 (s : Int), .slice A n c, .slice B m d] w fun e w' => e = .returned (.bool true) ∧ Below w.heap.size w w' := by
  have H0 := Lib.hid h0
  have H1 := Lib.hid h1
  have H2 := Lib.hid h2
  have HW := Lib.hid hw
  have HA := Lib.hid hA
  have HB := Lib.hid hB
  have HNN := Lib.hid hn
  have HQ := Lib.hid hq
  have HP := Lib.hid hp
  have HS := Lib.hid hs
  obtain ⟨k, hk⟩ := from_any n s hp (by omega) hs hq
  have HK := Lib.hid hk
  have hxx : ((srt xs)[k]?.getD 0 != (srt xs)[k]?.getD 0) = false := by simp
  have fr := from_run s
  have lx : Hid (n ≤ 17592186044415) := Lib.hid (by omega)
  have lm : Hid (m ≤ 17592186044416) := Lib.hid (by omega)
  have ln : Hid (n ≤ 17592186044416) := Lib.hid (by omega)
  have lp : Hid (p ≤ 17592186044415) := Lib.hid (by omega)
  have lp' : Hid (p ≤ 17592186044416) := Lib.hid (by omega)
  have lnm : Hid (n + m ≤ 17592186044416) := Lib.hid (by omega)
  clear h0 h1 h2 hw hA hB hn hs hq hp hk
  go_enter Try.func7, Try.ntmps7
  go_wp2_with (first
    | (go_at_call 23; (with_reducible refine (turned_c xs A n c _ (H1.out.keep HL.out) ((fun (_ : True) => lx.out) (by have := HZ.out; trivial))).mono ?_); (rintro e w10 ⟨⟨Tb2, Td2, rfl, hi⟩, hb⟩; have HT2 := Lib.hid hi; clear hi; have HL := Lib.hid (kbt HL.out hb); have HE := Lib.hid (HE.out.keep hb); clear hb))
    | (go_at_call 21; (with_reducible refine (edges_c es T p pc _ H0.out lp.out).mono ?_); (rintro e w1 ⟨⟨Eb, Ed, rfl, hf⟩, hb⟩; have HE := Lib.hid hf; have HL := Lib.hid hb; clear hf hb))
    | (go_at_call 22; (with_reducible refine (hist_nan es _ p _ A n c _ HE.out lp'.out HNN.out).mono ?_); (rintro e w2 ⟨rfl, hb⟩; have HL := Lib.hid (kbt HL.out hb); have HE := Lib.hid (HE.out.keep hb); clear hb))
    | (go_at_call 23; (with_reducible refine (turned_c xs A n c _ (H1.out.keep HL.out) lx.out).mono ?_); (rintro e w3 ⟨⟨Tb, Td, rfl, hi⟩, hb⟩; have HT := Lib.hid hi; clear hi; have HL := Lib.hid (kbt HL.out hb); have HE := Lib.hid (HE.out.keep hb); clear hb))
    | (go_at_call 22; (with_reducible refine (hist_nan es _ p _ Tb n Td _ HE.out lp'.out HNN.out).mono ?_); (rintro e w4 ⟨rfl, hb⟩; have HL := Lib.hid (kbt HL.out hb); have HE := Lib.hid (HE.out.keep hb); clear hb))
    | (go_at_call 22; (with_reducible refine (hist_nan es _ p _ B m d _ HE.out lp'.out HNN.out).mono ?_); (rintro e w5 ⟨rfl, hb⟩; have HL := Lib.hid (kbt HL.out hb); have HE := Lib.hid (HE.out.keep hb); clear hb))
    | (at_builtin; (refine app_list (w0 := w5) w5.heap.size rfl _ _ rfl (.slice none 0 0) 0 [] rfl A n c xs rfl (H1.out.keep HL.out) HA.out (Own.nil _ _ _ _) (Below.refl _ _) (Nat.le_refl _) (by have := ln.out; unfold maxLen; omega) (by have := ln.out; omega) ?_); intro v6 w6 hO hB; have HO6 := Lib.hid hO; have HB6 := Lib.hid hB; clear hO hB)
    | (at_builtin; (refine app_list (w0 := w5) w5.heap.size rfl _ _ rfl v6 (0 + n) ([] ++ xs) rfl B m d ys rfl (H2.out.keep (kbt HL.out HB6.out)) HB.out HO6.out HB6.out HB6.out.size (by have := lnm.out; unfold maxLen; omega) (by have := lnm.out; omega) ?_); intro v7 w7 hO hB; obtain ⟨Za, Zc, ez, hi⟩ := Own.ints hO; subst ez; have HZ := Lib.hid hi; have hb := hB; clear hO hB hi; have HL := Lib.hid (kbt HL.out hb); have HE := Lib.hid (HE.out.keep hb); clear hb; rw [show 0 + n + m = n + m by omega] at HZ; rw [show 0 + n + m = n + m by omega])
    | (go_at_call 22; (with_reducible refine (hist_nan es _ p _ Za (n + m) Zc _ HE.out lp'.out HNN.out).mono ?_); (rintro e w8 ⟨rfl, hb⟩; have HL := Lib.hid (kbt HL.out hb); have HE := Lib.hid (HE.out.keep hb); clear hb))
    | (go_at_call 19; (with_reducible refine (quant_k s xs A n c _ (H1.out.keep HL.out) HP.out ln.out HS.out HQ.out xs rfl k HK.out).mono ?_); (rintro e w9 ⟨rfl, hb⟩; have HL := Lib.hid (kbt HL.out hb); have HE := Lib.hid (HE.out.keep hb); clear hb))
    | (go_at_call 19; (with_reducible refine (quant_k s xs.reverse _ n _ _ HT2.out HP.out ln.out HS.out HQ.out xs (srt_rev xs) k HK.out).mono ?_); (rintro e w11 ⟨rfl, hb⟩; have HL := Lib.hid (kbt HL.out hb); have HE := Lib.hid (HE.out.keep hb); clear hb))
    | (go_at_call 24; (with_reducible refine (same_c [] none none 0 0 0 _ Ints.nil Ints.nil (by decide)).mono ?_); (rintro e w12 ⟨rfl, nd, rfl⟩))
    | (go_at_call 12; (with_reducible refine (lives_c _).mono ?_); (rintro e w13 ⟨rfl, hb0⟩; have hb := kbt (below_drewN (Below.refl _ _) nd) hb0; clear hb0; have HL := Lib.hid (kbt HL.out hb); have HE := Lib.hid (HE.out.keep hb); clear hb)))
  go_ret
  exact ⟨rfl, HL.out⟩
set_option maxHeartbeats 8000000 in
theorem ord_fall_bad (es : List Nat) (T : Option Addr) (p pc : Nat) (s : Nat) (xs : List Int) (A : Option Addr) (n c : Nat) (ys : List Int) (B : Option Addr) (m d : Nat) (w : World) (h0 : Ints w .u64 T p (es.map fun x : Nat => (x : Int))) (hw : ∀ e ∈ es, e < 18446744073709551616) (hs : s < 18446744073709551616) (h1 : Ints w .i64 A n xs) (h2 : Ints w .i64 B m ys) (hA : A = none → n = 0 ∧ c = 0) (hB : B = none → m = 0 ∧ d = 0) (b0 : p ≤ 1048575) (b1 : n ≤ 1048576) (b2 : m ≤ 1048576) (hn : es.any nanF = false) (hf : falls es = true) (hq : (qbad s || (n : Int) == 0) = true) :
    Calls Try.prog 7 #[.slice T p pc, .int .u64 (s : Int), .slice A n c, .slice B m d] w fun e w' => e = .returned (.bool true) ∧ Below w.heap.size w w' := by
  have H0 := Lib.hid h0
  have H1 := Lib.hid h1
  have H2 := Lib.hid h2
  have HW := Lib.hid hw
  have HA := Lib.hid hA
  have HB := Lib.hid hB
  have HNN := Lib.hid hn
  have HFF := Lib.hid hf
  have HQ := Lib.hid hq
  have fr := from_run s
  have lx : Hid (n ≤ 17592186044415) := Lib.hid (by omega)
  have lm : Hid (m ≤ 17592186044416) := Lib.hid (by omega)
  have ln : Hid (n ≤ 17592186044416) := Lib.hid (by omega)
  have lp : Hid (p ≤ 17592186044415) := Lib.hid (by omega)
  have lp' : Hid (p ≤ 17592186044416) := Lib.hid (by omega)
  have lnm : Hid (n + m ≤ 17592186044416) := Lib.hid (by omega)
  clear h0 h1 h2 hw hA hB hn hs hq hf
  go_enter Try.func7, Try.ntmps7
  go_wp2_with (first
    | (go_at_call 23; (with_reducible refine (turned_c xs A n c _ (H1.out.keep HL.out) ((fun (_ : True) => lx.out) (by have := HZ.out; trivial))).mono ?_); (rintro e w10 ⟨⟨Tb2, Td2, rfl, hi⟩, hb⟩; have HT2 := Lib.hid hi; clear hi; have HL := Lib.hid (kbt HL.out hb); have HE := Lib.hid (HE.out.keep hb); clear hb))
    | (go_at_call 21; (with_reducible refine (edges_c es T p pc _ H0.out lp.out).mono ?_); (rintro e w1 ⟨⟨Eb, Ed, rfl, hf⟩, hb⟩; have HE := Lib.hid hf; have HL := Lib.hid hb; clear hf hb))
    | (go_at_call 22; (with_reducible refine (hist_f es _ p _ xs A n c _ HE.out lp'.out (H1.out.keep HL.out) ln.out HW.out HNN.out HFF.out).mono ?_); (rintro e w2 ⟨rfl, hb⟩; have HL := Lib.hid (kbt HL.out hb); have HE := Lib.hid (HE.out.keep hb); clear hb))
    | (go_at_call 23; (with_reducible refine (turned_c xs A n c _ (H1.out.keep HL.out) lx.out).mono ?_); (rintro e w3 ⟨⟨Tb, Td, rfl, hi⟩, hb⟩; have HT := Lib.hid hi; clear hi; have HL := Lib.hid (kbt HL.out hb); have HE := Lib.hid (HE.out.keep hb); clear hb))
    | (go_at_call 22; (with_reducible refine (hist_f es _ p _ xs.reverse Tb n Td _ HE.out lp'.out HT.out ln.out HW.out HNN.out HFF.out).mono ?_); (rintro e w4 ⟨rfl, hb⟩; have HL := Lib.hid (kbt HL.out hb); have HE := Lib.hid (HE.out.keep hb); clear hb))
    | (go_at_call 22; (with_reducible refine (hist_f es _ p _ ys B m d _ HE.out lp'.out (H2.out.keep HL.out) lm.out HW.out HNN.out HFF.out).mono ?_); (rintro e w5 ⟨rfl, hb⟩; have HL := Lib.hid (kbt HL.out hb); have HE := Lib.hid (HE.out.keep hb); clear hb))
    | (at_builtin; (refine app_list (w0 := w5) w5.heap.size rfl _ _ rfl (.slice none 0 0) 0 [] rfl A n c xs rfl (H1.out.keep HL.out) HA.out (Own.nil _ _ _ _) (Below.refl _ _) (Nat.le_refl _) (by have := ln.out; unfold maxLen; omega) (by have := ln.out; omega) ?_); intro v6 w6 hO hB; have HO6 := Lib.hid hO; have HB6 := Lib.hid hB; clear hO hB)
    | (at_builtin; (refine app_list (w0 := w5) w5.heap.size rfl _ _ rfl v6 (0 + n) ([] ++ xs) rfl B m d ys rfl (H2.out.keep (kbt HL.out HB6.out)) HB.out HO6.out HB6.out HB6.out.size (by have := lnm.out; unfold maxLen; omega) (by have := lnm.out; omega) ?_); intro v7 w7 hO hB; obtain ⟨Za, Zc, ez, hi⟩ := Own.ints hO; subst ez; have HZ := Lib.hid hi; have hb := hB; clear hO hB hi; have HL := Lib.hid (kbt HL.out hb); have HE := Lib.hid (HE.out.keep hb); clear hb; rw [show 0 + n + m = n + m by omega] at HZ; rw [show 0 + n + m = n + m by omega])
    | (go_at_call 22; (with_reducible refine (hist_f es _ p _ ([] ++ xs ++ ys) Za (n + m) Zc _ HE.out lp'.out HZ.out lnm.out HW.out HNN.out HFF.out).mono ?_); (rintro e w8 ⟨rfl, hb⟩; have HL := Lib.hid (kbt HL.out hb); have HE := Lib.hid (HE.out.keep hb); clear hb))
    | (go_at_call 19; (with_reducible refine (quant_bad s _ n _ _ HQ.out).mono ?_); rintro e w' ⟨rfl, rfl⟩)
    | (go_at_call 24; (with_reducible refine (same_c [] none none 0 0 0 _ Ints.nil Ints.nil (by decide)).mono ?_); (rintro e w12 ⟨rfl, nd, rfl⟩))
    | (go_at_call 12; (with_reducible refine (lives_c _).mono ?_); (rintro e w13 ⟨rfl, hb0⟩; have hb := kbt (below_drewN (Below.refl _ _) nd) hb0; clear hb0; have HL := Lib.hid (kbt HL.out hb); have HE := Lib.hid (HE.out.keep hb); clear hb)))
  go_ret
  exact ⟨rfl, HL.out⟩
set_option maxHeartbeats 8000000 in
theorem ord_fall_ok (es : List Nat) (T : Option Addr) (p pc : Nat) (s : Nat) (xs : List Int) (A : Option Addr) (n c : Nat) (ys : List Int) (B : Option Addr) (m d : Nat) (w : World) (h0 : Ints w .u64 T p (es.map fun x : Nat => (x : Int))) (hw : ∀ e ∈ es, e < 18446744073709551616) (hs : s < 18446744073709551616) (h1 : Ints w .i64 A n xs) (h2 : Ints w .i64 B m ys) (hA : A = none → n = 0 ∧ c = 0) (hB : B = none → m = 0 ∧ d = 0) (b0 : p ≤ 1048575) (b1 : n ≤ 1048576) (b2 : m ≤ 1048576) (hn : es.any nanF = false) (hf : falls es = true) (hq : qbad s = false) (hp : 0 < n) :
    Calls Try.prog 7 #[.slice T p pc, .int .u64 (s : Int), .slice A n c, .slice B m d] w fun e w' => e = .returned (.bool true) ∧ Below w.heap.size w w' := by
  have H0 := Lib.hid h0
  have H1 := Lib.hid h1
  have H2 := Lib.hid h2
  have HW := Lib.hid hw
  have HA := Lib.hid hA
  have HB := Lib.hid hB
  have HNN := Lib.hid hn
  have HFF := Lib.hid hf
  have HQ := Lib.hid hq
  have HP := Lib.hid hp
  have HS := Lib.hid hs
  obtain ⟨k, hk⟩ := from_any n s hp (by omega) hs hq
  have HK := Lib.hid hk
  have hxx : ((srt xs)[k]?.getD 0 != (srt xs)[k]?.getD 0) = false := by simp
  have fr := from_run s
  have lx : Hid (n ≤ 17592186044415) := Lib.hid (by omega)
  have lm : Hid (m ≤ 17592186044416) := Lib.hid (by omega)
  have ln : Hid (n ≤ 17592186044416) := Lib.hid (by omega)
  have lp : Hid (p ≤ 17592186044415) := Lib.hid (by omega)
  have lp' : Hid (p ≤ 17592186044416) := Lib.hid (by omega)
  have lnm : Hid (n + m ≤ 17592186044416) := Lib.hid (by omega)
  clear h0 h1 h2 hw hA hB hn hs hq hp hk hf
  go_enter Try.func7, Try.ntmps7
  go_wp2_with (first
    | (go_at_call 23; (with_reducible refine (turned_c xs A n c _ (H1.out.keep HL.out) ((fun (_ : True) => lx.out) (by have := HZ.out; trivial))).mono ?_); (rintro e w10 ⟨⟨Tb2, Td2, rfl, hi⟩, hb⟩; have HT2 := Lib.hid hi; clear hi; have HL := Lib.hid (kbt HL.out hb); have HE := Lib.hid (HE.out.keep hb); clear hb))
    | (go_at_call 21; (with_reducible refine (edges_c es T p pc _ H0.out lp.out).mono ?_); (rintro e w1 ⟨⟨Eb, Ed, rfl, hf⟩, hb⟩; have HE := Lib.hid hf; have HL := Lib.hid hb; clear hf hb))
    | (go_at_call 22; (with_reducible refine (hist_f es _ p _ xs A n c _ HE.out lp'.out (H1.out.keep HL.out) ln.out HW.out HNN.out HFF.out).mono ?_); (rintro e w2 ⟨rfl, hb⟩; have HL := Lib.hid (kbt HL.out hb); have HE := Lib.hid (HE.out.keep hb); clear hb))
    | (go_at_call 23; (with_reducible refine (turned_c xs A n c _ (H1.out.keep HL.out) lx.out).mono ?_); (rintro e w3 ⟨⟨Tb, Td, rfl, hi⟩, hb⟩; have HT := Lib.hid hi; clear hi; have HL := Lib.hid (kbt HL.out hb); have HE := Lib.hid (HE.out.keep hb); clear hb))
    | (go_at_call 22; (with_reducible refine (hist_f es _ p _ xs.reverse Tb n Td _ HE.out lp'.out HT.out ln.out HW.out HNN.out HFF.out).mono ?_); (rintro e w4 ⟨rfl, hb⟩; have HL := Lib.hid (kbt HL.out hb); have HE := Lib.hid (HE.out.keep hb); clear hb))
    | (go_at_call 22; (with_reducible refine (hist_f es _ p _ ys B m d _ HE.out lp'.out (H2.out.keep HL.out) lm.out HW.out HNN.out HFF.out).mono ?_); (rintro e w5 ⟨rfl, hb⟩; have HL := Lib.hid (kbt HL.out hb); have HE := Lib.hid (HE.out.keep hb); clear hb))
    | (at_builtin; (refine app_list (w0 := w5) w5.heap.size rfl _ _ rfl (.slice none 0 0) 0 [] rfl A n c xs rfl (H1.out.keep HL.out) HA.out (Own.nil _ _ _ _) (Below.refl _ _) (Nat.le_refl _) (by have := ln.out; unfold maxLen; omega) (by have := ln.out; omega) ?_); intro v6 w6 hO hB; have HO6 := Lib.hid hO; have HB6 := Lib.hid hB; clear hO hB)
    | (at_builtin; (refine app_list (w0 := w5) w5.heap.size rfl _ _ rfl v6 (0 + n) ([] ++ xs) rfl B m d ys rfl (H2.out.keep (kbt HL.out HB6.out)) HB.out HO6.out HB6.out HB6.out.size (by have := lnm.out; unfold maxLen; omega) (by have := lnm.out; omega) ?_); intro v7 w7 hO hB; obtain ⟨Za, Zc, ez, hi⟩ := Own.ints hO; subst ez; have HZ := Lib.hid hi; have hb := hB; clear hO hB hi; have HL := Lib.hid (kbt HL.out hb); have HE := Lib.hid (HE.out.keep hb); clear hb; rw [show 0 + n + m = n + m by omega] at HZ; rw [show 0 + n + m = n + m by omega])
    | (go_at_call 22; (with_reducible refine (hist_f es _ p _ ([] ++ xs ++ ys) Za (n + m) Zc _ HE.out lp'.out HZ.out lnm.out HW.out HNN.out HFF.out).mono ?_); (rintro e w8 ⟨rfl, hb⟩; have HL := Lib.hid (kbt HL.out hb); have HE := Lib.hid (HE.out.keep hb); clear hb))
    | (go_at_call 19; (with_reducible refine (quant_k s xs A n c _ (H1.out.keep HL.out) HP.out ln.out HS.out HQ.out xs rfl k HK.out).mono ?_); (rintro e w9 ⟨rfl, hb⟩; have HL := Lib.hid (kbt HL.out hb); have HE := Lib.hid (HE.out.keep hb); clear hb))
    | (go_at_call 19; (with_reducible refine (quant_k s xs.reverse _ n _ _ HT2.out HP.out ln.out HS.out HQ.out xs (srt_rev xs) k HK.out).mono ?_); (rintro e w11 ⟨rfl, hb⟩; have HL := Lib.hid (kbt HL.out hb); have HE := Lib.hid (HE.out.keep hb); clear hb))
    | (go_at_call 24; (with_reducible refine (same_c [] none none 0 0 0 _ Ints.nil Ints.nil (by decide)).mono ?_); (rintro e w12 ⟨rfl, nd, rfl⟩))
    | (go_at_call 12; (with_reducible refine (lives_c _).mono ?_); (rintro e w13 ⟨rfl, hb0⟩; have hb := kbt (below_drewN (Below.refl _ _) nd) hb0; clear hb0; have HL := Lib.hid (kbt HL.out hb); have HE := Lib.hid (HE.out.keep hb); clear hb)))
  go_ret
  exact ⟨rfl, HL.out⟩
set_option maxHeartbeats 8000000 in
theorem ord_ok_bad (es : List Nat) (T : Option Addr) (p pc : Nat) (s : Nat) (xs : List Int) (A : Option Addr) (n c : Nat) (ys : List Int) (B : Option Addr) (m d : Nat) (w : World) (h0 : Ints w .u64 T p (es.map fun x : Nat => (x : Int))) (hw : ∀ e ∈ es, e < 18446744073709551616) (hs : s < 18446744073709551616) (h1 : Ints w .i64 A n xs) (h2 : Ints w .i64 B m ys) (hA : A = none → n = 0 ∧ c = 0) (hB : B = none → m = 0 ∧ d = 0) (b0 : p ≤ 1048575) (b1 : n ≤ 1048576) (b2 : m ≤ 1048576) (hn : es.any nanF = false) (hf : falls es = false) (hq : (qbad s || (n : Int) == 0) = true) :
    Calls Try.prog 7 #[.slice T p pc, .int .u64 (s : Int), .slice A n c, .slice B m d] w fun e w' => e = .returned (.bool true) ∧ Below w.heap.size w w' := by
  have H0 := Lib.hid h0
  have H1 := Lib.hid h1
  have H2 := Lib.hid h2
  have HW := Lib.hid hw
  have HA := Lib.hid hA
  have HB := Lib.hid hB
  have HNN := Lib.hid hn
  have HFF := Lib.hid hf
  have HQ := Lib.hid hq
  obtain ⟨r, hr⟩ : ∃ r, hist es xs = r := ⟨_, rfl⟩
  obtain ⟨q, hqq⟩ : ∃ q, hist es ys = q := ⟨_, rfl⟩
  obtain ⟨z, hz⟩ : ∃ z, hist es ([] ++ xs ++ ys) = z := ⟨_, rfl⟩
  have HR1 := Lib.hid hr
  have HR2 := Lib.hid ((hist_rev es xs).trans hr)
  have HR3 := Lib.hid hqq
  have HR4 := Lib.hid hz
  have fr := from_run s
  have lx : Hid (n ≤ 17592186044415) := Lib.hid (by omega)
  have lm : Hid (m ≤ 17592186044416) := Lib.hid (by omega)
  have ln : Hid (n ≤ 17592186044416) := Lib.hid (by omega)
  have lp : Hid (p ≤ 17592186044415) := Lib.hid (by omega)
  have lp' : Hid (p ≤ 17592186044416) := Lib.hid (by omega)
  have lnm : Hid (n + m ≤ 17592186044416) := Lib.hid (by omega)
  clear h0 h1 h2 hw hA hB hn hs hq hf hr hqq hz
  go_enter Try.func7, Try.ntmps7
  go_wp2_with (first
    | (go_at_call 23; (with_reducible refine (turned_c xs A n c _ (H1.out.keep HL.out) ((fun (_ : True) => lx.out) (by have := HZ.out; trivial))).mono ?_); (rintro e w10 ⟨⟨Tb2, Td2, rfl, hi⟩, hb⟩; have HT2 := Lib.hid hi; clear hi; have HL := Lib.hid (kbt HL.out hb); have HE := Lib.hid (HE.out.keep hb); have I1 := Lib.hid (I1.out.keep hb); have I2 := Lib.hid (I2.out.keep hb); have I3 := Lib.hid (I3.out.keep hb); have I4 := Lib.hid (I4.out.keep hb); clear hb))
    | (go_at_call 21; (with_reducible refine (edges_c es T p pc _ H0.out lp.out).mono ?_); (rintro e w1 ⟨⟨Eb, Ed, rfl, hf⟩, hb⟩; have HE := Lib.hid hf; have HL := Lib.hid hb; clear hf hb))
    | (go_at_call 22; (with_reducible refine (hist_t es _ p _ xs A n c _ HE.out lp'.out (H1.out.keep HL.out) ln.out HW.out HNN.out HFF.out _ HR1.out).mono ?_); (rintro e w2 ⟨⟨g1, rfl, hi⟩, hb⟩; have I1 := Lib.hid hi; clear hi; have HL := Lib.hid (kbt HL.out hb); have HE := Lib.hid (HE.out.keep hb); clear hb))
    | (go_at_call 23; (with_reducible refine (turned_c xs A n c _ (H1.out.keep HL.out) lx.out).mono ?_); (rintro e w3 ⟨⟨Tb, Td, rfl, hi⟩, hb⟩; have HT := Lib.hid hi; clear hi; have HL := Lib.hid (kbt HL.out hb); have HE := Lib.hid (HE.out.keep hb); have I1 := Lib.hid (I1.out.keep hb); clear hb))
    | (go_at_call 22; (with_reducible refine (hist_t es _ p _ xs.reverse Tb n Td _ HE.out lp'.out HT.out ln.out HW.out HNN.out HFF.out _ HR2.out).mono ?_); (rintro e w4 ⟨⟨g2, rfl, hi⟩, hb⟩; have I2 := Lib.hid hi; clear hi; have HL := Lib.hid (kbt HL.out hb); have HE := Lib.hid (HE.out.keep hb); have I1 := Lib.hid (I1.out.keep hb); clear hb))
    | (go_at_call 22; (with_reducible refine (hist_t es _ p _ ys B m d _ HE.out lp'.out (H2.out.keep HL.out) lm.out HW.out HNN.out HFF.out _ HR3.out).mono ?_); (rintro e w5 ⟨⟨g3, rfl, hi⟩, hb⟩; have I3 := Lib.hid hi; clear hi; have HL := Lib.hid (kbt HL.out hb); have HE := Lib.hid (HE.out.keep hb); have I1 := Lib.hid (I1.out.keep hb); have I2 := Lib.hid (I2.out.keep hb); clear hb))
    | (at_builtin; (refine app_list (w0 := w5) w5.heap.size rfl _ _ rfl (.slice none 0 0) 0 [] rfl A n c xs rfl (H1.out.keep HL.out) HA.out (Own.nil _ _ _ _) (Below.refl _ _) (Nat.le_refl _) (by have := ln.out; unfold maxLen; omega) (by have := ln.out; omega) ?_); intro v6 w6 hO hB; have HO6 := Lib.hid hO; have HB6 := Lib.hid hB; clear hO hB)
    | (at_builtin; (refine app_list (w0 := w5) w5.heap.size rfl _ _ rfl v6 (0 + n) ([] ++ xs) rfl B m d ys rfl (H2.out.keep (kbt HL.out HB6.out)) HB.out HO6.out HB6.out HB6.out.size (by have := lnm.out; unfold maxLen; omega) (by have := lnm.out; omega) ?_); intro v7 w7 hO hB; obtain ⟨Za, Zc, ez, hi⟩ := Own.ints hO; subst ez; have HZ := Lib.hid hi; have hb := hB; clear hO hB hi; have HL := Lib.hid (kbt HL.out hb); have HE := Lib.hid (HE.out.keep hb); have I1 := Lib.hid (I1.out.keep hb); have I2 := Lib.hid (I2.out.keep hb); have I3 := Lib.hid (I3.out.keep hb); clear hb; rw [show 0 + n + m = n + m by omega] at HZ; rw [show 0 + n + m = n + m by omega])
    | (go_at_call 22; (with_reducible refine (hist_t es _ p _ ([] ++ xs ++ ys) Za (n + m) Zc _ HE.out lp'.out HZ.out lnm.out HW.out HNN.out HFF.out _ HR4.out).mono ?_); (rintro e w8 ⟨⟨g4, rfl, hi⟩, hb⟩; have I4 := Lib.hid hi; clear hi; have HL := Lib.hid (kbt HL.out hb); have HE := Lib.hid (HE.out.keep hb); have I1 := Lib.hid (I1.out.keep hb); have I2 := Lib.hid (I2.out.keep hb); have I3 := Lib.hid (I3.out.keep hb); clear hb))
    | (go_at_call 19; (with_reducible refine (quant_bad s _ n _ _ HQ.out).mono ?_); rintro e w' ⟨rfl, rfl⟩)
    | (go_at_call 24; (with_reducible refine (same_c r _ _ (p + 1) (p + 1) (p + 1) _ I1.out I2.out (by omega)).mono ?_); (rintro e w12 ⟨rfl, nd, rfl⟩))
    | (go_at_call 12; (with_reducible refine (lives_c _).mono ?_); (rintro e w13 ⟨rfl, hb0⟩; have hb := kbt (below_drewN (Below.refl _ _) nd) hb0; clear hb0; have HL := Lib.hid (kbt HL.out hb); have HE := Lib.hid (HE.out.keep hb); have I1 := Lib.hid (I1.out.keep hb); have I2 := Lib.hid (I2.out.keep hb); have I3 := Lib.hid (I3.out.keep hb); have I4 := Lib.hid (I4.out.keep hb); clear hb)))
  have rl := I1.out.1
  have ql := I3.out.1
  go_loopw [23, 24] (fun u i wr => ∃ (j dd : Nat), j ≤ p + 1 ∧ i = .int .i64 j ∧ u = .int .i64 (tot (r.take j)) ∧ 0 ≤ tot (r.take j) ∧ tot (r.take j) ≤ 17592186044416 ∧ wr = w13.drewN dd) (fun _ i _ => p + 1 - (intOf i).toNat)
  case atStart => exact ⟨0, 0, Nat.zero_le _, rfl, by simp [tot], by simp [tot], by simp [tot], rfl⟩
  case round =>
    obtain ⟨j, dd, hj, rfl, rfl, u0, u1, rfl⟩ := hrel
    by_cases hlt : j < p + 1
    · obtain ⟨a1, x, e1, hx, hc1⟩ := I1.out.at_ hlt
      cases e1
      obtain ⟨a3, y, e3, hy, hc3⟩ := I3.out.at_ hlt
      cases e3
      obtain ⟨a4, v, e4, hv, hc4⟩ := I4.out.at_ hlt
      cases e4
      have hx' := hx
      have hy' := hy
      rw [← HR1.out] at hx'
      rw [← HR3.out] at hy'
      have hxn := hist_nn hx'
      have hyn := hist_nn hy'
      have hv2 := hist_app hx' hy'
      rw [← HR4.out, List.nil_append] at hv
      rw [hv] at hv2
      obtain rfl : v = x + y := by injection hv2
      have hln := H1.out.1
      have hlm := H2.out.1
      have HS3 := Lib.hid (tot_snoc r j x hx)
      have ht1 : tot (r.take (j + 1)) ≤ 17592186044416 ∧ 0 ≤ tot (r.take (j + 1)) := by
        have h1 := tot_drop hx (fun z hz => by
          obtain ⟨i, hi, e⟩ := List.getElem_of_mem hz
          have hzz : (hist es xs)[i]? = some z := by rw [HR1.out, List.getElem?_eq_getElem hi, e]
          exact (hist_nn hzz).1)
        have h2 : tot r = xs.length := by rw [← HR1.out]; exact hist_all es xs
        rw [HS3.out]
        omega
      have HT1 := Lib.hid ht1
      have hd1 := hc1
      have hd3 := hc3
      have hd4 := hc4
      rw [add_at] at hd1 hd3 hd4
      have hxb : x ≤ 17592186044416 := by omega
      have hyb : y ≤ 17592186044416 := by omega
      have hx0 : 0 ≤ x := hxn.1
      have hy0 : 0 ≤ y := hyn.1
      have z1 : decide (x < 0) = false := decide_eq_false (by omega)
      have z2 : decide (y < 0) = false := decide_eq_false (by omega)
      have z3 : (x + y != x + y) = false := by simp
      clear hx hy hv hx' hy' hv2 hln hlm ht1 rl ql
      obtain ⟨U, hU⟩ : ∃ U, U = tot (r.take j) := ⟨_, rfl⟩
      rw [← hU] at HS3 u0 u1 ⊢
      clear hU
      go_wp2_with (fail)
      go_quiet (fail)
      go_wp2_with (fail)
      go_roundw
      case rel => exact ⟨j + 1, _, by omega, by go_num, by rw [HS3.out], HT1.out.2, HT1.out.1, rfl⟩
      case measure => simp [intOf] <;> omega
    · obtain rfl : j = p + 1 := by omega
      have e2 : r.take (p + 1) = r := List.take_of_length_le (by omega)
      have e3 : tot r = xs.length := by rw [← HR1.out]; exact hist_all es xs
      have e4 := H1.out.1
      rw [e2, e3, e4]
      have e5 : ((n : Int) == (n : Int)) = true := by simp
      clear e2 e3 e4 u0 u1
      go_wp2
      go_ret
      exact ⟨rfl, below_drewN HL.out _⟩
set_option maxHeartbeats 8000000 in
theorem ord_ok_ok (es : List Nat) (T : Option Addr) (p pc : Nat) (s : Nat) (xs : List Int) (A : Option Addr) (n c : Nat) (ys : List Int) (B : Option Addr) (m d : Nat) (w : World) (h0 : Ints w .u64 T p (es.map fun x : Nat => (x : Int))) (hw : ∀ e ∈ es, e < 18446744073709551616) (hs : s < 18446744073709551616) (h1 : Ints w .i64 A n xs) (h2 : Ints w .i64 B m ys) (hA : A = none → n = 0 ∧ c = 0) (hB : B = none → m = 0 ∧ d = 0) (b0 : p ≤ 1048575) (b1 : n ≤ 1048576) (b2 : m ≤ 1048576) (hn : es.any nanF = false) (hf : falls es = false) (hq : qbad s = false) (hp : 0 < n) :
    Calls Try.prog 7 #[.slice T p pc, .int .u64 (s : Int), .slice A n c, .slice B m d] w fun e w' => e = .returned (.bool true) ∧ Below w.heap.size w w' := by
  have H0 := Lib.hid h0
  have H1 := Lib.hid h1
  have H2 := Lib.hid h2
  have HW := Lib.hid hw
  have HA := Lib.hid hA
  have HB := Lib.hid hB
  have HNN := Lib.hid hn
  have HFF := Lib.hid hf
  have HQ := Lib.hid hq
  have HP := Lib.hid hp
  have HS := Lib.hid hs
  obtain ⟨k, hk⟩ := from_any n s hp (by omega) hs hq
  have HK := Lib.hid hk
  have hxx : ((srt xs)[k]?.getD 0 != (srt xs)[k]?.getD 0) = false := by simp
  obtain ⟨r, hr⟩ : ∃ r, hist es xs = r := ⟨_, rfl⟩
  obtain ⟨q, hqq⟩ : ∃ q, hist es ys = q := ⟨_, rfl⟩
  obtain ⟨z, hz⟩ : ∃ z, hist es ([] ++ xs ++ ys) = z := ⟨_, rfl⟩
  have HR1 := Lib.hid hr
  have HR2 := Lib.hid ((hist_rev es xs).trans hr)
  have HR3 := Lib.hid hqq
  have HR4 := Lib.hid hz
  have fr := from_run s
  have lx : Hid (n ≤ 17592186044415) := Lib.hid (by omega)
  have lm : Hid (m ≤ 17592186044416) := Lib.hid (by omega)
  have ln : Hid (n ≤ 17592186044416) := Lib.hid (by omega)
  have lp : Hid (p ≤ 17592186044415) := Lib.hid (by omega)
  have lp' : Hid (p ≤ 17592186044416) := Lib.hid (by omega)
  have lnm : Hid (n + m ≤ 17592186044416) := Lib.hid (by omega)
  clear h0 h1 h2 hw hA hB hn hs hq hp hk hf hr hqq hz
  go_enter Try.func7, Try.ntmps7
  go_wp2_with (first
    | (go_at_call 23; (with_reducible refine (turned_c xs A n c _ (H1.out.keep HL.out) ((fun (_ : True) => lx.out) (by have := HZ.out; trivial))).mono ?_); (rintro e w10 ⟨⟨Tb2, Td2, rfl, hi⟩, hb⟩; have HT2 := Lib.hid hi; clear hi; have HL := Lib.hid (kbt HL.out hb); have HE := Lib.hid (HE.out.keep hb); have I1 := Lib.hid (I1.out.keep hb); have I2 := Lib.hid (I2.out.keep hb); have I3 := Lib.hid (I3.out.keep hb); have I4 := Lib.hid (I4.out.keep hb); clear hb))
    | (go_at_call 21; (with_reducible refine (edges_c es T p pc _ H0.out lp.out).mono ?_); (rintro e w1 ⟨⟨Eb, Ed, rfl, hf⟩, hb⟩; have HE := Lib.hid hf; have HL := Lib.hid hb; clear hf hb))
    | (go_at_call 22; (with_reducible refine (hist_t es _ p _ xs A n c _ HE.out lp'.out (H1.out.keep HL.out) ln.out HW.out HNN.out HFF.out _ HR1.out).mono ?_); (rintro e w2 ⟨⟨g1, rfl, hi⟩, hb⟩; have I1 := Lib.hid hi; clear hi; have HL := Lib.hid (kbt HL.out hb); have HE := Lib.hid (HE.out.keep hb); clear hb))
    | (go_at_call 23; (with_reducible refine (turned_c xs A n c _ (H1.out.keep HL.out) lx.out).mono ?_); (rintro e w3 ⟨⟨Tb, Td, rfl, hi⟩, hb⟩; have HT := Lib.hid hi; clear hi; have HL := Lib.hid (kbt HL.out hb); have HE := Lib.hid (HE.out.keep hb); have I1 := Lib.hid (I1.out.keep hb); clear hb))
    | (go_at_call 22; (with_reducible refine (hist_t es _ p _ xs.reverse Tb n Td _ HE.out lp'.out HT.out ln.out HW.out HNN.out HFF.out _ HR2.out).mono ?_); (rintro e w4 ⟨⟨g2, rfl, hi⟩, hb⟩; have I2 := Lib.hid hi; clear hi; have HL := Lib.hid (kbt HL.out hb); have HE := Lib.hid (HE.out.keep hb); have I1 := Lib.hid (I1.out.keep hb); clear hb))
    | (go_at_call 22; (with_reducible refine (hist_t es _ p _ ys B m d _ HE.out lp'.out (H2.out.keep HL.out) lm.out HW.out HNN.out HFF.out _ HR3.out).mono ?_); (rintro e w5 ⟨⟨g3, rfl, hi⟩, hb⟩; have I3 := Lib.hid hi; clear hi; have HL := Lib.hid (kbt HL.out hb); have HE := Lib.hid (HE.out.keep hb); have I1 := Lib.hid (I1.out.keep hb); have I2 := Lib.hid (I2.out.keep hb); clear hb))
    | (at_builtin; (refine app_list (w0 := w5) w5.heap.size rfl _ _ rfl (.slice none 0 0) 0 [] rfl A n c xs rfl (H1.out.keep HL.out) HA.out (Own.nil _ _ _ _) (Below.refl _ _) (Nat.le_refl _) (by have := ln.out; unfold maxLen; omega) (by have := ln.out; omega) ?_); intro v6 w6 hO hB; have HO6 := Lib.hid hO; have HB6 := Lib.hid hB; clear hO hB)
    | (at_builtin; (refine app_list (w0 := w5) w5.heap.size rfl _ _ rfl v6 (0 + n) ([] ++ xs) rfl B m d ys rfl (H2.out.keep (kbt HL.out HB6.out)) HB.out HO6.out HB6.out HB6.out.size (by have := lnm.out; unfold maxLen; omega) (by have := lnm.out; omega) ?_); intro v7 w7 hO hB; obtain ⟨Za, Zc, ez, hi⟩ := Own.ints hO; subst ez; have HZ := Lib.hid hi; have hb := hB; clear hO hB hi; have HL := Lib.hid (kbt HL.out hb); have HE := Lib.hid (HE.out.keep hb); have I1 := Lib.hid (I1.out.keep hb); have I2 := Lib.hid (I2.out.keep hb); have I3 := Lib.hid (I3.out.keep hb); clear hb; rw [show 0 + n + m = n + m by omega] at HZ; rw [show 0 + n + m = n + m by omega])
    | (go_at_call 22; (with_reducible refine (hist_t es _ p _ ([] ++ xs ++ ys) Za (n + m) Zc _ HE.out lp'.out HZ.out lnm.out HW.out HNN.out HFF.out _ HR4.out).mono ?_); (rintro e w8 ⟨⟨g4, rfl, hi⟩, hb⟩; have I4 := Lib.hid hi; clear hi; have HL := Lib.hid (kbt HL.out hb); have HE := Lib.hid (HE.out.keep hb); have I1 := Lib.hid (I1.out.keep hb); have I2 := Lib.hid (I2.out.keep hb); have I3 := Lib.hid (I3.out.keep hb); clear hb))
    | (go_at_call 19; (with_reducible refine (quant_k s xs A n c _ (H1.out.keep HL.out) HP.out ln.out HS.out HQ.out xs rfl k HK.out).mono ?_); (rintro e w9 ⟨rfl, hb⟩; have HL := Lib.hid (kbt HL.out hb); have HE := Lib.hid (HE.out.keep hb); have I1 := Lib.hid (I1.out.keep hb); have I2 := Lib.hid (I2.out.keep hb); have I3 := Lib.hid (I3.out.keep hb); have I4 := Lib.hid (I4.out.keep hb); clear hb))
    | (go_at_call 19; (with_reducible refine (quant_k s xs.reverse _ n _ _ HT2.out HP.out ln.out HS.out HQ.out xs (srt_rev xs) k HK.out).mono ?_); (rintro e w11 ⟨rfl, hb⟩; have HL := Lib.hid (kbt HL.out hb); have HE := Lib.hid (HE.out.keep hb); have I1 := Lib.hid (I1.out.keep hb); have I2 := Lib.hid (I2.out.keep hb); have I3 := Lib.hid (I3.out.keep hb); have I4 := Lib.hid (I4.out.keep hb); clear hb))
    | (go_at_call 24; (with_reducible refine (same_c r _ _ (p + 1) (p + 1) (p + 1) _ I1.out I2.out (by omega)).mono ?_); (rintro e w12 ⟨rfl, nd, rfl⟩))
    | (go_at_call 12; (with_reducible refine (lives_c _).mono ?_); (rintro e w13 ⟨rfl, hb0⟩; have hb := kbt (below_drewN (Below.refl _ _) nd) hb0; clear hb0; have HL := Lib.hid (kbt HL.out hb); have HE := Lib.hid (HE.out.keep hb); have I1 := Lib.hid (I1.out.keep hb); have I2 := Lib.hid (I2.out.keep hb); have I3 := Lib.hid (I3.out.keep hb); have I4 := Lib.hid (I4.out.keep hb); clear hb)))
  have rl := I1.out.1
  have ql := I3.out.1
  go_loopw [23, 24] (fun u i wr => ∃ (j dd : Nat), j ≤ p + 1 ∧ i = .int .i64 j ∧ u = .int .i64 (tot (r.take j)) ∧ 0 ≤ tot (r.take j) ∧ tot (r.take j) ≤ 17592186044416 ∧ wr = w13.drewN dd) (fun _ i _ => p + 1 - (intOf i).toNat)
  case atStart => exact ⟨0, 0, Nat.zero_le _, rfl, by simp [tot], by simp [tot], by simp [tot], rfl⟩
  case round =>
    obtain ⟨j, dd, hj, rfl, rfl, u0, u1, rfl⟩ := hrel
    by_cases hlt : j < p + 1
    · obtain ⟨a1, x, e1, hx, hc1⟩ := I1.out.at_ hlt
      cases e1
      obtain ⟨a3, y, e3, hy, hc3⟩ := I3.out.at_ hlt
      cases e3
      obtain ⟨a4, v, e4, hv, hc4⟩ := I4.out.at_ hlt
      cases e4
      have hx' := hx
      have hy' := hy
      rw [← HR1.out] at hx'
      rw [← HR3.out] at hy'
      have hxn := hist_nn hx'
      have hyn := hist_nn hy'
      have hv2 := hist_app hx' hy'
      rw [← HR4.out, List.nil_append] at hv
      rw [hv] at hv2
      obtain rfl : v = x + y := by injection hv2
      have hln := H1.out.1
      have hlm := H2.out.1
      have HS3 := Lib.hid (tot_snoc r j x hx)
      have ht1 : tot (r.take (j + 1)) ≤ 17592186044416 ∧ 0 ≤ tot (r.take (j + 1)) := by
        have h1 := tot_drop hx (fun z hz => by
          obtain ⟨i, hi, e⟩ := List.getElem_of_mem hz
          have hzz : (hist es xs)[i]? = some z := by rw [HR1.out, List.getElem?_eq_getElem hi, e]
          exact (hist_nn hzz).1)
        have h2 : tot r = xs.length := by rw [← HR1.out]; exact hist_all es xs
        rw [HS3.out]
        omega
      have HT1 := Lib.hid ht1
      have hd1 := hc1
      have hd3 := hc3
      have hd4 := hc4
      rw [add_at] at hd1 hd3 hd4
      have hxb : x ≤ 17592186044416 := by omega
      have hyb : y ≤ 17592186044416 := by omega
      have hx0 : 0 ≤ x := hxn.1
      have hy0 : 0 ≤ y := hyn.1
      have z1 : decide (x < 0) = false := decide_eq_false (by omega)
      have z2 : decide (y < 0) = false := decide_eq_false (by omega)
      have z3 : (x + y != x + y) = false := by simp
      clear hx hy hv hx' hy' hv2 hln hlm ht1 rl ql
      obtain ⟨U, hU⟩ : ∃ U, U = tot (r.take j) := ⟨_, rfl⟩
      rw [← hU] at HS3 u0 u1 ⊢
      clear hU
      go_wp2_with (fail)
      go_quiet (fail)
      go_wp2_with (fail)
      go_roundw
      case rel => exact ⟨j + 1, _, by omega, by go_num, by rw [HS3.out], HT1.out.2, HT1.out.1, rfl⟩
      case measure => simp [intOf] <;> omega
    · obtain rfl : j = p + 1 := by omega
      have e2 : r.take (p + 1) = r := List.take_of_length_le (by omega)
      have e3 : tot r = xs.length := by rw [← HR1.out]; exact hist_all es xs
      have e4 := H1.out.1
      rw [e2, e3, e4]
      have e5 : ((n : Int) == (n : Int)) = true := by simp
      clear e2 e3 e4 u0 u1
      go_wp2
      go_ret
      exact ⟨rfl, below_drewN HL.out _⟩
theorem walk (ts : List Int) (T : Option Addr) (p pc : Nat) (sI : Int) (xs : List Int) (A : Option Addr) (n c : Nat) (ys : List Int) (B : Option Addr) (m d : Nat) (w : World) (h0 : Ints w .u64 T p ts) (z0 : ∀ x ∈ ts, (Lit.int .u64 x).wf = true) (ws : (Lit.int .u64 sI).wf = true) (h1 : Ints w .i64 A n xs) (h2 : Ints w .i64 B m ys) (hA : A = none → n = 0 ∧ c = 0) (hB : B = none → m = 0 ∧ d = 0) (b0 : p ≤ 1048575) (b1 : n ≤ 1048575) (b2 : m ≤ 1048575) :
    Calls Try.prog 7 #[.slice T p pc, .int .u64 sI, .slice A n c, .slice B m d] w fun e w' => e = .returned (.bool true) ∧ Below w.heap.size w w' := by
  obtain ⟨s, rfl, hs⟩ := u64_nat ws
  obtain ⟨es, rfl, hw⟩ : ∃ es : List Nat, ts = es.map (fun x : Nat => (x : Int)) ∧ ∀ e ∈ es, e < 18446744073709551616 := by
    refine ⟨ts.map Int.toNat, ?_, ?_⟩
    · rw [List.map_map]
      refine (List.map_id ts).symm.trans (List.map_congr_left fun x hx => ?_)
      obtain ⟨y, rfl, _⟩ := u64_nat (z0 x hx)
      simp
    · intro e he
      obtain ⟨x, hx, rfl⟩ := List.mem_map.1 he
      obtain ⟨y, rfl, hy⟩ := u64_nat (z0 x hx)
      simpa using hy
  have hq : (qbad s || (n : Int) == 0) = true ∨ (qbad s = false ∧ 0 < n) := by
    cases h : qbad s
    · rcases Nat.eq_zero_or_pos n with rfl | hp
      · exact .inl rfl
      · exact .inr ⟨rfl, hp⟩
    · exact .inl rfl
  cases hn : es.any nanF
  · cases hf : falls es
    · rcases hq with hq | ⟨hq, hp⟩
      · exact ord_ok_bad es T p pc s xs A n c ys B m d w h0 hw hs h1 h2 hA hB b0 (by omega) (by omega) hn hf hq
      · exact ord_ok_ok es T p pc s xs A n c ys B m d w h0 hw hs h1 h2 hA hB b0 (by omega) (by omega) hn hf hq hp
    · rcases hq with hq | ⟨hq, hp⟩
      · exact ord_fall_bad es T p pc s xs A n c ys B m d w h0 hw hs h1 h2 hA hB b0 (by omega) (by omega) hn hf hq
      · exact ord_fall_ok es T p pc s xs A n c ys B m d w h0 hw hs h1 h2 hA hB b0 (by omega) (by omega) hn hf hq hp
  · rcases hq with hq | ⟨hq, hp⟩
    · exact ord_nan_bad es T p pc s xs A n c ys B m d w h0 hw hs h1 h2 hA hB b0 (by omega) (by omega) hn hq
    · exact ord_nan_ok es T p pc s xs A n c ys B m d w h0 hw hs h1 h2 hA hB b0 (by omega) (by omega) hn hq hp
end Go.Proofs.Ytmpjcjgdjimioaa.SOrd
