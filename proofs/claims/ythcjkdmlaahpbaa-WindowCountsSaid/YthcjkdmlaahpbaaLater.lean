/- WindowCounts: later. -/
import Derived.Test.YthcjkdmlaahpbaaBrought
namespace Go.Proofs.Ythcjkdmlaahpbaa.Win
open Go.RowKit Go.Proofs.Ythcjkdmlaahpbaa.Aid Go.Proofs.Ythcjkdmlaahpbaa.Mem Go.Proofs.Ythcjkdmlaahpbaa.Keep Go.Proofs.Ythcjkdmlaahpbaa.Nums Go.Proofs.Ythcjkdmlaahpbaa.Fl
set_option linter.unusedSimpArgs false
set_option linter.unusedVariables false
set_option maxRecDepth 100000
def lastT (L : List (Int × Int)) : Int := match L.getLast? with
  | some p => p.1
  | none => 0
theorem lastT_at {L : List (Int × Int)} {k : Nat} {t n : Int} (h : L[k]? = some (t, n)) (hk : k + 1 = L.length) : lastT L = t := by
  unfold lastT
  rw [List.getLast?_eq_getElem?, show L.length - 1 = k by omega, h]
theorem sum_le_of (L : List (Int × Int)) (h : ∀ p ∈ L, 0 ≤ p.2 ∧ p.2 < 1125899906842624) : 0 ≤ sumA L ∧ sumA L ≤ 1125899906842624 * L.length := by
  induction L with
  | nil => simp [sumA, tot]
  | cons p L ih =>
    have h1 := ih (fun q hq => h q (List.mem_cons_of_mem _ hq))
    have h2 := h p (List.mem_cons_self ..)
    rw [sumA_cons, List.length_cons]
    omega
theorem gt_small (x : Int) {L : List (Int × Int)} {k : Nat} {t : Int} (h : Bro L k t) (j : Nat) : 0 ≤ gt x (L.take j) ∧ gt x (L.take j) ≤ 225179981368524800 := by
  have nn : ∀ p ∈ L, 0 ≤ p.2 := fun p hp => (h.el p hp).2.2.1
  have h1 := gt_take x nn j
  have h2 := gt_le x L nn
  have h3 := sum_le_of L (fun p hp => ⟨(h.el p hp).2.2.1, (h.el p hp).2.2.2⟩)
  have h4 := h.len
  have h5 := h.k2
  omega
/-- What later wants of the window and of the list. -/
structure Lat (W : World) (g B : Nat) (n sm : Int) (lw L : List (Int × Int)) (v : Value) (T : Int) : Prop where
  win : Win W g B n (lastT L) sm lw
  rel : Rel n (lastT L) sm lw L
  own : Own W 0 66 2 v L.length (cellsA L)
  bro : Bro L L.length T
  gB : g < B
  BW : B ≤ W.heap.size
  n0 : 1 ≤ n
  n1 : n ≤ 1048576
theorem rel_ask {W : World} {g B : Nat} {wd ck sm t : Int} {l All : List (Int × Int)} (hw : Win W g B wd ck sm l) (h : Rel wd ck sm l All) (gB : g < B) (BW : B ≤ W.heap.size) (w0 : 0 < wd) (w1 : wd ≤ 1048576) (hl : All.length ≤ 4294967296) (hc : ck ≤ t) (t0 : 0 ≤ t) (t1 : t ≤ 1099511627776) : Ask W g B wd ck sm l t :=
  ⟨hw, gB, BW, h.lok, Nat.le_trans h.len hl, h.sum, t0, t1, w0, w1, hc⟩
/-- A question, told by all that was added. -/
theorem sum_all {W : World} {g B : Nat} {wd ck sm t s : Int} {l All : List (Int × Int)} (ha : Ask W g B wd ck sm l t) (h : Rel wd ck sm l All) (hs : Hid (gt (t - wd) All = s)) :
    Calls Try.prog 14 #[.pointer (some ⟨g, 0, none⟩), .int .i64 t] W fun x w' => x = .returned (.tuple #[.int .i64 s, .int .i64 0]) ∧ (∃ l2, Win w' g B wd t s l2 ∧ Rel wd t s l2 All) ∧ Chg g W w' := by
  have now := h.now ha.ck
  have hr := h.asked ha.ck
  rw [now, hs.out] at hr
  refine (sum_ok W g B wd ck sm l t ha _ _ (Lib.hid rfl) (Lib.hid (now.trans hs.out))).mono fun x w' ⟨e, hw, hc⟩ => ⟨e, ⟨_, hw.mono ha.BW, hr⟩, hc⟩
theorem rate_all {W : World} {g B : Nat} {wd ck sm t s : Int} {l All : List (Int × Int)} (ha : Ask W g B wd ck sm l t) (h : Rel wd ck sm l All) (hs : Hid (gt (t - wd) All = s)) (q : Nat) (hq : floatBits .quo .f64 (floatOfInt .f64 s) (floatOfInt .f64 wd) = some q) :
    Calls Try.prog 30 #[.pointer (some ⟨g, 0, none⟩), .int .i64 t] W fun x w' => x = .returned (.tuple #[.float .f64 q, .int .i64 0]) ∧ Chg g W w' := by
  have now := h.now ha.ck
  exact (rate_ok W g B wd ck sm l t ha _ _ (Lib.hid rfl) (Lib.hid (now.trans hs.out)) q hq).mono fun x w' ⟨e, hw, hc⟩ => ⟨e, hc⟩
theorem atE_back (wd t : Int) (w0 : 0 < wd) (t0 : 0 < t) (t1 : t ≤ 1099511627776) : atE wd t (t - 1) = 4 := by
  unfold atE
  rw [if_neg (by omega), if_neg (by omega), if_pos (by omega)]
/-- The tail of later, once tick and on are known. -/
def LP (W : World) (g B : Nat) (n : Int) (t : Int) (s : Int) (L : List (Int × Int)) : Prop := ∃ l2, Win W g B n t s l2 ∧ Rel n t s l2 L
set_option maxHeartbeats 4000000 in
theorem later_c (W : World) (g B : Nat) (n sm ask : Int) (lw L : List (Int × Int)) (v : Value) (T : Int) (h : Lat W g B n sm lw L v T) :
    Calls Try.prog 29 #[.pointer (some ⟨g, 0, none⟩), v, .int .i64 n, .int .i64 ask] W fun e w' => e = .returned (.bool true) ∧ Chg g W w' := by
  obtain ⟨A, cp, rfl, hcp, _⟩ := h.own.form
  have HL := Lib.hid h
  have n0 := h.n0
  have n1 := h.n1
  have hlen := h.bro.k2
  obtain ⟨r1, r2⟩ := rem_in ask 8192 (by decide)
  obtain ⟨P, eP⟩ : ∃ P, ask.tmod 8192 = P := ⟨_, rfl⟩
  rw [eP] at r1 r2
  have wP : IntKind.i64.wrap P = P := (IntKind.wrap_i64 _).trans (by omega)
  have wP' : IntKind.i64.wrap (-P) = -P := (IntKind.wrap_i64 _).trans (by omega)
  have wP0 : IntKind.i64.wrap (0 - P) = -P := (IntKind.wrap_i64 _).trans (by omega)
  clear h
  have hsm := zero_eqf
  obtain ⟨on, o0, o1, hneg⟩ : ∃ on : Int, 0 ≤ on ∧ on ≤ 8191 ∧ ((P < 0 ∧ IntKind.i64.wrap (0 - P) = on ∧ IntKind.i64.wrap (-P) = on) ∨ (0 ≤ P ∧ on = P)) := by
    by_cases s1 : P < 0
    · exact ⟨-P, by omega, by omega, .inl ⟨s1, wP0, wP'⟩⟩
    · exact ⟨P, by omega, by omega, .inr ⟨by omega, rfl⟩⟩
  clear wP' wP0
  by_cases he : L.length = 0
  · obtain rfl : L = [] := List.eq_nil_of_length_eq_zero he
    have hck : lastT [] ≤ on := o0
    clear he
    rcases hneg with ⟨s1, wN, wN'⟩ | ⟨s1, rfl⟩
    · have wT : IntKind.i64.wrap on = on := (IntKind.wrap_i64 _).trans (by omega)
      have wX : IntKind.i64.wrap (on - n) = on - n := (IntKind.wrap_i64 _).trans (by omega)
      have wB : IntKind.i64.wrap (on - 1) = on - 1 := (IntKind.wrap_i64 _).trans (by omega)
      go_enter Try.func29, Try.ntmps29
      go_wp2
      go_loopw [11, 12] (fun a k wr => k = .int .i64 0 ∧ a = .int .i64 0 ∧ Dr W wr) (fun _ _ _ => 0)
      case atStart => exact ⟨rfl, rfl, Dr.refl _⟩
      case round =>
        obtain ⟨rfl, rfl, nd, rfl⟩ := hrel
        have HS : Hid (gt (on - n) [] = 0) := Lib.hid rfl
        obtain ⟨q, hq, qq⟩ := rate_q 0 n (by decide) (by decide) (by omega) n1
        by_cases hpos : 0 < on
        · have HE4 := Lib.hid (atE_back n (on) (by omega) hpos (by omega))
          have HA := Lib.hid (rel_ask (t := on) (HL.out.win.drewN nd) HL.out.rel HL.out.gB HL.out.BW (by omega) n1 (Nat.le_trans HL.out.bro.k2 (by decide)) hck (by omega) (by omega))
          have hquo : ∀ t w, (binOp .quo t (.float .f64 (floatOfInt .f64 0)) (.float .f64 (floatOfInt .f64 n))).run Try.prog w = .ok (.float .f64 q) w := fun t w => run_float_arith w .quo t .f64 _ _ q hq
          go_wp2_with (first | (go_at_call 14; (with_reducible refine (sum_all (s := 0) HA.out HL.out.rel HS).mono ?_); rintro e w5 ⟨rfl, ⟨l5, hw5, hr5⟩, hc5⟩; have HW5 := Lib.hid hw5; have HR5 := Lib.hid hr5; have HC5 := Lib.hid hc5; have HA5 := Lib.hid (rel_ask (t := on) hw5 hr5 HL.out.gB (Nat.le_trans HL.out.BW hc5.size) (by omega) n1 (Nat.le_trans HL.out.bro.k2 (by decide)) (Int.le_refl _) (by omega) (by omega)); clear hw5 hr5 hc5) | (go_at_call 14; (with_reducible refine (sum_e w5 g B n (on) 0 l5 (on - 1) 4 HW5.out HE4 rfl).mono ?_); rintro e w6 ⟨rfl, rfl⟩) | (go_at_call 12; (with_reducible refine (add_e w5 g B n (on) 0 l5 (on - 1) 1 4 HW5.out (.inr ⟨by decide, by decide⟩) HE4 rfl).mono ?_); rintro e w6 ⟨rfl, rfl⟩) | (go_at_call 30; (with_reducible refine (rate_all (s := 0) HA5.out HR5.out HS q hq).mono ?_); rintro e w7 ⟨rfl, hc7⟩; have HC7 := Lib.hid hc7; clear hc7))
          go_ret
          exact ⟨by simp, (Chg.of_dr ⟨nd, rfl⟩).trans (HC5.out.trans HC7.out)⟩
        · have HA := Lib.hid (rel_ask (t := on) (HL.out.win.drewN nd) HL.out.rel HL.out.gB HL.out.BW (by omega) n1 (Nat.le_trans HL.out.bro.k2 (by decide)) hck (by omega) (by omega))
          have hquo : ∀ t w, (binOp .quo t (.float .f64 (floatOfInt .f64 0)) (.float .f64 (floatOfInt .f64 n))).run Try.prog w = .ok (.float .f64 q) w := fun t w => run_float_arith w .quo t .f64 _ _ q hq
          go_wp2_with (first | (go_at_call 14; (with_reducible refine (sum_all (s := 0) HA.out HL.out.rel HS).mono ?_); rintro e w5 ⟨rfl, ⟨l5, hw5, hr5⟩, hc5⟩; have HW5 := Lib.hid hw5; have HR5 := Lib.hid hr5; have HC5 := Lib.hid hc5; have HA5 := Lib.hid (rel_ask (t := on) hw5 hr5 HL.out.gB (Nat.le_trans HL.out.BW hc5.size) (by omega) n1 (Nat.le_trans HL.out.bro.k2 (by decide)) (Int.le_refl _) (by omega) (by omega)); clear hw5 hr5 hc5) | (go_at_call 30; (with_reducible refine (rate_all (s := 0) HA5.out HR5.out HS q hq).mono ?_); rintro e w7 ⟨rfl, hc7⟩; have HC7 := Lib.hid hc7; clear hc7))
          go_ret
          exact ⟨by simp, (Chg.of_dr ⟨nd, rfl⟩).trans (HC5.out.trans HC7.out)⟩

    · have wT : IntKind.i64.wrap on = on := (IntKind.wrap_i64 _).trans (by omega)
      have wX : IntKind.i64.wrap (on - n) = on - n := (IntKind.wrap_i64 _).trans (by omega)
      have wB : IntKind.i64.wrap (on - 1) = on - 1 := (IntKind.wrap_i64 _).trans (by omega)
      go_enter Try.func29, Try.ntmps29
      go_wp2
      go_loopw [11, 12] (fun a k wr => k = .int .i64 0 ∧ a = .int .i64 0 ∧ Dr W wr) (fun _ _ _ => 0)
      case atStart => exact ⟨rfl, rfl, Dr.refl _⟩
      case round =>
        obtain ⟨rfl, rfl, nd, rfl⟩ := hrel
        have HS : Hid (gt (on - n) [] = 0) := Lib.hid rfl
        obtain ⟨q, hq, qq⟩ := rate_q 0 n (by decide) (by decide) (by omega) n1
        by_cases hpos : 0 < on
        · have HE4 := Lib.hid (atE_back n (on) (by omega) hpos (by omega))
          have HA := Lib.hid (rel_ask (t := on) (HL.out.win.drewN nd) HL.out.rel HL.out.gB HL.out.BW (by omega) n1 (Nat.le_trans HL.out.bro.k2 (by decide)) hck (by omega) (by omega))
          have hquo : ∀ t w, (binOp .quo t (.float .f64 (floatOfInt .f64 0)) (.float .f64 (floatOfInt .f64 n))).run Try.prog w = .ok (.float .f64 q) w := fun t w => run_float_arith w .quo t .f64 _ _ q hq
          go_wp2_with (first | (go_at_call 14; (with_reducible refine (sum_all (s := 0) HA.out HL.out.rel HS).mono ?_); rintro e w5 ⟨rfl, ⟨l5, hw5, hr5⟩, hc5⟩; have HW5 := Lib.hid hw5; have HR5 := Lib.hid hr5; have HC5 := Lib.hid hc5; have HA5 := Lib.hid (rel_ask (t := on) hw5 hr5 HL.out.gB (Nat.le_trans HL.out.BW hc5.size) (by omega) n1 (Nat.le_trans HL.out.bro.k2 (by decide)) (Int.le_refl _) (by omega) (by omega)); clear hw5 hr5 hc5) | (go_at_call 14; (with_reducible refine (sum_e w5 g B n (on) 0 l5 (on - 1) 4 HW5.out HE4 rfl).mono ?_); rintro e w6 ⟨rfl, rfl⟩) | (go_at_call 12; (with_reducible refine (add_e w5 g B n (on) 0 l5 (on - 1) 1 4 HW5.out (.inr ⟨by decide, by decide⟩) HE4 rfl).mono ?_); rintro e w6 ⟨rfl, rfl⟩) | (go_at_call 30; (with_reducible refine (rate_all (s := 0) HA5.out HR5.out HS q hq).mono ?_); rintro e w7 ⟨rfl, hc7⟩; have HC7 := Lib.hid hc7; clear hc7))
          go_ret
          exact ⟨by simp, (Chg.of_dr ⟨nd, rfl⟩).trans (HC5.out.trans HC7.out)⟩
        · have HA := Lib.hid (rel_ask (t := on) (HL.out.win.drewN nd) HL.out.rel HL.out.gB HL.out.BW (by omega) n1 (Nat.le_trans HL.out.bro.k2 (by decide)) hck (by omega) (by omega))
          have hquo : ∀ t w, (binOp .quo t (.float .f64 (floatOfInt .f64 0)) (.float .f64 (floatOfInt .f64 n))).run Try.prog w = .ok (.float .f64 q) w := fun t w => run_float_arith w .quo t .f64 _ _ q hq
          go_wp2_with (first | (go_at_call 14; (with_reducible refine (sum_all (s := 0) HA.out HL.out.rel HS).mono ?_); rintro e w5 ⟨rfl, ⟨l5, hw5, hr5⟩, hc5⟩; have HW5 := Lib.hid hw5; have HR5 := Lib.hid hr5; have HC5 := Lib.hid hc5; have HA5 := Lib.hid (rel_ask (t := on) hw5 hr5 HL.out.gB (Nat.le_trans HL.out.BW hc5.size) (by omega) n1 (Nat.le_trans HL.out.bro.k2 (by decide)) (Int.le_refl _) (by omega) (by omega)); clear hw5 hr5 hc5) | (go_at_call 30; (with_reducible refine (rate_all (s := 0) HA5.out HR5.out HS q hq).mono ?_); rintro e w7 ⟨rfl, hc7⟩; have HC7 := Lib.hid hc7; clear hc7))
          go_ret
          exact ⟨by simp, (Chg.of_dr ⟨nd, rfl⟩).trans (HC5.out.trans HC7.out)⟩

  · obtain ⟨k, hk⟩ : ∃ k, k + 1 = L.length := ⟨L.length - 1, by omega⟩
    obtain ⟨b, c, t, m, ev, hp, x0, x1⟩ := own_el HL.out.own (show k < L.length by omega)
    injection ev with ev1 ev2 ev3
    subst ev1 ev3
    obtain ⟨p0, p1, p2, p3⟩ := HL.out.bro.el _ (List.mem_of_getElem? hp)
    dsimp only at p0 p1 p2 p3
    have t1 := HL.out.bro.t1
    have hck : lastT L ≤ t + on := by rw [lastT_at hp hk]; omega
    have hidx : (L.length : Int) - 1 = (k : Int) := by omega
    have hL0 : (0 : Int) < (L.length : Int) := by omega
    have hkl : (k : Int) < (L.length : Int) := by omega
    have tT : t ≤ 819000 := by omega
    clear hp t1 p1 ev2
    rcases hneg with ⟨s1, wN, wN'⟩ | ⟨s1, rfl⟩
    · have wT : IntKind.i64.wrap (t + on) = t + on := (IntKind.wrap_i64 _).trans (by omega)
      have wX : IntKind.i64.wrap ((t + on) - n) = (t + on) - n := (IntKind.wrap_i64 _).trans (by omega)
      have wB : IntKind.i64.wrap ((t + on) - 1) = (t + on) - 1 := (IntKind.wrap_i64 _).trans (by omega)
      go_enter Try.func29, Try.ntmps29
      go_wp2
      go_loopw [11, 12] (fun a k wr => ∃ j : Nat, j ≤ L.length ∧ k = .int .i64 j ∧ a = .int .i64 (gt ((t + on) - n) (L.take j)) ∧ Dr W wr) (fun _ k _ => L.length - (intOf k).toNat)
      case atStart => exact ⟨0, Nat.zero_le _, rfl, rfl, Dr.refl _⟩
      case round =>
        obtain ⟨j, hj, rfl, rfl, nd, rfl⟩ := hrel
        obtain ⟨z0, z1⟩ := gt_small ((t + on) - n) HL.out.bro j
        by_cases hlt : j < L.length
        · obtain ⟨b', c', t', m, ev, hp, e0, e1⟩ := own_el HL.out.own hlt
          injection ev with ev1 ev2 ev3
          have ev4 : b = b' := by simpa using ev1
          subst ev4 ev3
          clear ev1
          have hlt' : (j : Int) < (L.length : Int) := by omega
          obtain ⟨p0, p1, p2, p3⟩ := HL.out.bro.el _ (List.mem_of_getElem? hp)
          dsimp only at p0 p1 p2 p3
          have hs := gt_snoc ((t + on) - n) hp
          dsimp only at hs
          clear hp
          by_cases hin : ((t + on) - n) < t'
          · have d1 : decide (((t + on) - n) < t') = true := decide_eq_true hin
            rw [if_pos hin] at hs
            go_wp2
            go_roundw
            case rel => exact ⟨j + 1, by omega, by go_num, by (rw [hs]; try go_num), ⟨_, rfl⟩⟩
            case measure => simp [intOf]; omega
          · have d1 : decide (((t + on) - n) < t') = false := decide_eq_false hin
            rw [if_neg hin] at hs
            go_wp2
            go_roundw
            case rel => exact ⟨j + 1, by omega, by go_num, by (rw [hs]; try go_num), ⟨_, rfl⟩⟩
            case measure => simp [intOf]; omega
        · obtain rfl : j = L.length := by omega
          rw [List.take_length] at z0 z1
          obtain ⟨s, es⟩ : ∃ s, gt ((t + on) - n) L = s := ⟨_, rfl⟩
          have HS := Lib.hid es
          have ht : L.take L.length = L := List.take_length
          rw [es] at z0 z1
          obtain ⟨q, hq, qq⟩ := rate_q s n z0 (by omega) (by omega) n1
          by_cases hpos : 0 < (t + on)
          · have HE4 := Lib.hid (atE_back n ((t + on)) (by omega) hpos (by omega))
            have HA := Lib.hid (rel_ask (t := (t + on)) (HL.out.win.drewN nd) HL.out.rel HL.out.gB HL.out.BW (by omega) n1 (Nat.le_trans HL.out.bro.k2 (by decide)) hck (by omega) (by omega))
            have hquo : ∀ t w, (binOp .quo t (.float .f64 (floatOfInt .f64 s)) (.float .f64 (floatOfInt .f64 n))).run Try.prog w = .ok (.float .f64 q) w := fun t w => run_float_arith w .quo t .f64 _ _ q hq
            go_wp2_with (first | (go_at_call 14; (with_reducible refine (sum_all (s := s) HA.out HL.out.rel HS).mono ?_); rintro e w5 ⟨rfl, ⟨l5, hw5, hr5⟩, hc5⟩; have HW5 := Lib.hid hw5; have HR5 := Lib.hid hr5; have HC5 := Lib.hid hc5; have HA5 := Lib.hid (rel_ask (t := (t + on)) hw5 hr5 HL.out.gB (Nat.le_trans HL.out.BW hc5.size) (by omega) n1 (Nat.le_trans HL.out.bro.k2 (by decide)) (Int.le_refl _) (by omega) (by omega)); clear hw5 hr5 hc5) | (go_at_call 14; (with_reducible refine (sum_e w5 g B n ((t + on)) s l5 ((t + on) - 1) 4 HW5.out HE4 rfl).mono ?_); rintro e w6 ⟨rfl, rfl⟩) | (go_at_call 12; (with_reducible refine (add_e w5 g B n ((t + on)) s l5 ((t + on) - 1) 1 4 HW5.out (.inr ⟨by decide, by decide⟩) HE4 rfl).mono ?_); rintro e w6 ⟨rfl, rfl⟩) | (go_at_call 30; (with_reducible refine (rate_all (s := s) HA5.out HR5.out HS q hq).mono ?_); rintro e w7 ⟨rfl, hc7⟩; have HC7 := Lib.hid hc7; clear hc7))
            go_ret
            exact ⟨by simp, (Chg.of_dr ⟨nd, rfl⟩).trans (HC5.out.trans HC7.out)⟩
          · have HA := Lib.hid (rel_ask (t := (t + on)) (HL.out.win.drewN nd) HL.out.rel HL.out.gB HL.out.BW (by omega) n1 (Nat.le_trans HL.out.bro.k2 (by decide)) hck (by omega) (by omega))
            have hquo : ∀ t w, (binOp .quo t (.float .f64 (floatOfInt .f64 s)) (.float .f64 (floatOfInt .f64 n))).run Try.prog w = .ok (.float .f64 q) w := fun t w => run_float_arith w .quo t .f64 _ _ q hq
            go_wp2_with (first | (go_at_call 14; (with_reducible refine (sum_all (s := s) HA.out HL.out.rel HS).mono ?_); rintro e w5 ⟨rfl, ⟨l5, hw5, hr5⟩, hc5⟩; have HW5 := Lib.hid hw5; have HR5 := Lib.hid hr5; have HC5 := Lib.hid hc5; have HA5 := Lib.hid (rel_ask (t := (t + on)) hw5 hr5 HL.out.gB (Nat.le_trans HL.out.BW hc5.size) (by omega) n1 (Nat.le_trans HL.out.bro.k2 (by decide)) (Int.le_refl _) (by omega) (by omega)); clear hw5 hr5 hc5) | (go_at_call 30; (with_reducible refine (rate_all (s := s) HA5.out HR5.out HS q hq).mono ?_); rintro e w7 ⟨rfl, hc7⟩; have HC7 := Lib.hid hc7; clear hc7))
            go_ret
            exact ⟨by simp, (Chg.of_dr ⟨nd, rfl⟩).trans (HC5.out.trans HC7.out)⟩

    · have wT : IntKind.i64.wrap (t + on) = t + on := (IntKind.wrap_i64 _).trans (by omega)
      have wX : IntKind.i64.wrap ((t + on) - n) = (t + on) - n := (IntKind.wrap_i64 _).trans (by omega)
      have wB : IntKind.i64.wrap ((t + on) - 1) = (t + on) - 1 := (IntKind.wrap_i64 _).trans (by omega)
      go_enter Try.func29, Try.ntmps29
      go_wp2
      go_loopw [11, 12] (fun a k wr => ∃ j : Nat, j ≤ L.length ∧ k = .int .i64 j ∧ a = .int .i64 (gt ((t + on) - n) (L.take j)) ∧ Dr W wr) (fun _ k _ => L.length - (intOf k).toNat)
      case atStart => exact ⟨0, Nat.zero_le _, rfl, rfl, Dr.refl _⟩
      case round =>
        obtain ⟨j, hj, rfl, rfl, nd, rfl⟩ := hrel
        obtain ⟨z0, z1⟩ := gt_small ((t + on) - n) HL.out.bro j
        by_cases hlt : j < L.length
        · obtain ⟨b', c', t', m, ev, hp, e0, e1⟩ := own_el HL.out.own hlt
          injection ev with ev1 ev2 ev3
          have ev4 : b = b' := by simpa using ev1
          subst ev4 ev3
          clear ev1
          have hlt' : (j : Int) < (L.length : Int) := by omega
          obtain ⟨p0, p1, p2, p3⟩ := HL.out.bro.el _ (List.mem_of_getElem? hp)
          dsimp only at p0 p1 p2 p3
          have hs := gt_snoc ((t + on) - n) hp
          dsimp only at hs
          clear hp
          by_cases hin : ((t + on) - n) < t'
          · have d1 : decide (((t + on) - n) < t') = true := decide_eq_true hin
            rw [if_pos hin] at hs
            go_wp2
            go_roundw
            case rel => exact ⟨j + 1, by omega, by go_num, by (rw [hs]; try go_num), ⟨_, rfl⟩⟩
            case measure => simp [intOf]; omega
          · have d1 : decide (((t + on) - n) < t') = false := decide_eq_false hin
            rw [if_neg hin] at hs
            go_wp2
            go_roundw
            case rel => exact ⟨j + 1, by omega, by go_num, by (rw [hs]; try go_num), ⟨_, rfl⟩⟩
            case measure => simp [intOf]; omega
        · obtain rfl : j = L.length := by omega
          rw [List.take_length] at z0 z1
          obtain ⟨s, es⟩ : ∃ s, gt ((t + on) - n) L = s := ⟨_, rfl⟩
          have HS := Lib.hid es
          have ht : L.take L.length = L := List.take_length
          rw [es] at z0 z1
          obtain ⟨q, hq, qq⟩ := rate_q s n z0 (by omega) (by omega) n1
          by_cases hpos : 0 < (t + on)
          · have HE4 := Lib.hid (atE_back n ((t + on)) (by omega) hpos (by omega))
            have HA := Lib.hid (rel_ask (t := (t + on)) (HL.out.win.drewN nd) HL.out.rel HL.out.gB HL.out.BW (by omega) n1 (Nat.le_trans HL.out.bro.k2 (by decide)) hck (by omega) (by omega))
            have hquo : ∀ t w, (binOp .quo t (.float .f64 (floatOfInt .f64 s)) (.float .f64 (floatOfInt .f64 n))).run Try.prog w = .ok (.float .f64 q) w := fun t w => run_float_arith w .quo t .f64 _ _ q hq
            go_wp2_with (first | (go_at_call 14; (with_reducible refine (sum_all (s := s) HA.out HL.out.rel HS).mono ?_); rintro e w5 ⟨rfl, ⟨l5, hw5, hr5⟩, hc5⟩; have HW5 := Lib.hid hw5; have HR5 := Lib.hid hr5; have HC5 := Lib.hid hc5; have HA5 := Lib.hid (rel_ask (t := (t + on)) hw5 hr5 HL.out.gB (Nat.le_trans HL.out.BW hc5.size) (by omega) n1 (Nat.le_trans HL.out.bro.k2 (by decide)) (Int.le_refl _) (by omega) (by omega)); clear hw5 hr5 hc5) | (go_at_call 14; (with_reducible refine (sum_e w5 g B n ((t + on)) s l5 ((t + on) - 1) 4 HW5.out HE4 rfl).mono ?_); rintro e w6 ⟨rfl, rfl⟩) | (go_at_call 12; (with_reducible refine (add_e w5 g B n ((t + on)) s l5 ((t + on) - 1) 1 4 HW5.out (.inr ⟨by decide, by decide⟩) HE4 rfl).mono ?_); rintro e w6 ⟨rfl, rfl⟩) | (go_at_call 30; (with_reducible refine (rate_all (s := s) HA5.out HR5.out HS q hq).mono ?_); rintro e w7 ⟨rfl, hc7⟩; have HC7 := Lib.hid hc7; clear hc7))
            go_ret
            exact ⟨by simp, (Chg.of_dr ⟨nd, rfl⟩).trans (HC5.out.trans HC7.out)⟩
          · have HA := Lib.hid (rel_ask (t := (t + on)) (HL.out.win.drewN nd) HL.out.rel HL.out.gB HL.out.BW (by omega) n1 (Nat.le_trans HL.out.bro.k2 (by decide)) hck (by omega) (by omega))
            have hquo : ∀ t w, (binOp .quo t (.float .f64 (floatOfInt .f64 s)) (.float .f64 (floatOfInt .f64 n))).run Try.prog w = .ok (.float .f64 q) w := fun t w => run_float_arith w .quo t .f64 _ _ q hq
            go_wp2_with (first | (go_at_call 14; (with_reducible refine (sum_all (s := s) HA.out HL.out.rel HS).mono ?_); rintro e w5 ⟨rfl, ⟨l5, hw5, hr5⟩, hc5⟩; have HW5 := Lib.hid hw5; have HR5 := Lib.hid hr5; have HC5 := Lib.hid hc5; have HA5 := Lib.hid (rel_ask (t := (t + on)) hw5 hr5 HL.out.gB (Nat.le_trans HL.out.BW hc5.size) (by omega) n1 (Nat.le_trans HL.out.bro.k2 (by decide)) (Int.le_refl _) (by omega) (by omega)); clear hw5 hr5 hc5) | (go_at_call 30; (with_reducible refine (rate_all (s := s) HA5.out HR5.out HS q hq).mono ?_); rintro e w7 ⟨rfl, hc7⟩; have HC7 := Lib.hid hc7; clear hc7))
            go_ret
            exact ⟨by simp, (Chg.of_dr ⟨nd, rfl⟩).trans (HC5.out.trans HC7.out)⟩

end Go.Proofs.Ythcjkdmlaahpbaa.Win
