/- The walk of the Book's fill. -/
import Derived.Test.YtkpdomnmlinomabGreatBookI
namespace Go.Proofs.YtkpdomnmlinomabGreat.BookS
open Go.RowKit Go.Proofs.YtkpdomnmlinomabGreat.Aid Go.Proofs.YtkpdomnmlinomabGreat.Mem Go.Proofs.YtkpdomnmlinomabGreat.Keep Go.Proofs.YtkpdomnmlinomabGreat.Recs Go.Proofs.YtkpdomnmlinomabGreat.TwinS
set_option linter.unusedSimpArgs false
set_option linter.unusedVariables false
set_option maxRecDepth 100000
def Z (_ : Nat) : Value := .slice none 0 0
/-- What has been filled: the lists ahead of the k-th, and j elements of that. -/
def Qf (N : Nat → Nat) (k j i : Nat) (l : List Value) : Prop := (i < k → l = reps (N i) i) ∧ (i = k → ∀ t r, t < j → r < 3 → l[t * 3 + r]? = (mkc k)[r]?)
structure FK (W0 W : World) (g hb cap m : Nat) (ad : Addr) (V : Nat → Value) (B : Nat) (N : Nat → Nat) (k j p : Nat) (A : Option Addr) (c : Nat) : Prop where
  bk : Bk W g hb cap m ad V Z
  rows : Rows W B m V N (Qf N k j)
  chg : ChgS (FB m V) W0 W
  box : Blk W p tH [.slice A (N k) c, .slice none 0 0, .int .i64 ((k : Int) + 1)]
theorem FK.keep {W0 W W' : World} {g hb cap m : Nat} {ad : Addr} {V : Nat → Value} {B : Nat} {N : Nat → Nat} {k j p : Nat} {A : Option Addr} {c : Nat} (h : FK W0 W g hb cap m ad V B N k j p A c) (hw : Below W.heap.size W W') : FK W0 W' g hb cap m ad V B N k j p A c :=
  ⟨h.bk.below hw, h.rows.below hw, h.chg.then (ChgS.of_below (F := fun _ => False) hw) (fun _ h => h.elim), h.box.keep hw⟩
attribute [local go_sem ↓] load_held load_el store_el
set_option maxHeartbeats 4000000 in
theorem fill_s (W : World) (g hb cap m : Nat) (ad : Addr) (V : Nat → Value) (B : Nat) (N : Nat → Nat) (Q : Nat → List Value → Prop) (hk : Bk W g hb cap m ad V Z) (hr : Rows W B m V N Q) (hd : Dis m V) :
    Calls Tryz.prog 45 #[.pointer (some ⟨g, 0, none⟩)] W fun e w' => e = .returned (.tuple #[]) ∧ Bk w' g hb cap m ad V Z ∧ Rows w' B m V N (fun i l => l = reps (N i) i) ∧ ChgS (FB m V) W w' := by
  have HD := Lib.hid hd
  have HK := Lib.hid hk
  have HR := Lib.hid hr
  have m2 := hk.m2
  have nG : ¬ FB m V g := hr.no hk.book (by decide)
  have nH : ¬ FB m V hb := by
    obtain ⟨B', H, ho, _⟩ := hk.held
    exact hr.no2 ho (by decide)
  have NG := Lib.hid nG
  have NH := Lib.hid nH
  clear hd hr nG nH
  have c1 := hk.c1
  clear hk
  go_enter Tryz.func45, Tryz.ntmps45
  go_wp2
  go_loopw [2] (fun i wr => ∃ k : Nat, k ≤ m ∧ i = .int .i64 k ∧ Hid (Bk wr g hb cap m ad V Z) ∧ Hid (Rows wr B m V N (fun i l => i < k → l = reps (N i) i)) ∧ Hid (ChgS (FB m V) W wr)) (fun i _ => m - (intOf i).toNat)
  case atStart => exact ⟨0, Nat.zero_le _, rfl, HK, Lib.hid (HR.out.imp fun i l _ _ _ h => absurd h (by omega)), Lib.hid (ChgS.refl _ _)⟩
  case round =>
    obtain ⟨k, hk, rfl, HK, HR, HC⟩ := hrel
    have c1 := HK.out.c1
    by_cases hlt : k < m
    · have la := HK.out.la hlt
      obtain ⟨l0, ho, hn, _⟩ := HR.out k hlt
      obtain ⟨A, c, hV, hnc, hA⟩ := ho.form
      rw [hV] at la
      replace la : (LA tH (.pointer (some (ad.add (k * 3))))).run Tryz.prog wr = .ok (.agg #[.slice A (N k) c, .slice none 0 0, .int .i64 ((k : Int) + 1)]) wr := la
      have HV := Lib.hid hV
      have AF : Hid (0 < N k → ∃ b, A = some ⟨b, 0, none⟩) := Lib.hid (fun h => by obtain ⟨b, e, _⟩ := hA h; exact ⟨b, e⟩)
      clear ho hA hV
      go_wp2
      have NP : Hid (¬ FB m V wr.heap.size) := Lib.hid (fun h => Nat.lt_irrefl _ (HR.out.lt h))
      have CA : Below wr.heap.size wr (wr.alloc (.cells #[.slice A (N k) c, .slice none 0 0, .int .i64 ((k : Int) + 1)] tH)) := alloc_below _ _
      have HF : Hid (FK W (wr.alloc (.cells #[.slice A (N k) c, .slice none 0 0, .int .i64 ((k : Int) + 1)] tH)) g hb cap m ad V B N k 0 wr.heap.size A c) := Lib.hid ⟨HK.out.below CA, (HR.out.below CA).imp (fun i l _ _ h => ⟨h, fun _ t r ht => absurd ht (by omega)⟩), HC.out.then (ChgS.of_below (F := fun _ => False) CA) (fun _ h => h.elim), Blk.new wr tH [.slice A (N k) c, .slice none 0 0, .int .i64 ((k : Int) + 1)]⟩
      generalize wr.alloc _ = w0 at *
      generalize wr.heap.size = p at *
      clear CA la HK HR HC c1
      go_loopw [4] (fun i wi => ∃ j : Nat, j ≤ N k ∧ i = .int .i64 j ∧ Hid (FK W wi g hb cap m ad V B N k j p A c)) (fun i _ => N k - (intOf i).toNat)
      case atStart => exact ⟨0, Nat.zero_le _, rfl, HF⟩
      case round =>
        clear HF
        obtain ⟨j, hj, rfl, HF⟩ := hrel
        have q1 := HF.out.box.cellv (i := 0) rfl
        have q2 := HF.out.box.cellv (i := 2) rfl
        by_cases hl2 : j < N k
        · obtain ⟨b, rfl⟩ := AF.out (by omega)
          have PB : p ≠ b := fun e => NP.out ⟨k, hlt, by rw [HV.out, e]; rfl⟩
          have EXT : Hid (∀ W', FK W W' g hb cap m ad V B N k j p (some ⟨b, 0, none⟩) c → FK W W' g hb cap m ad V B N k j p (some ⟨b, 0, none⟩) c ∧ W'.cell? ⟨p, 0, none⟩ = some (.slice (some ⟨b, 0, none⟩) (N k) c) ∧ W'.cell? ⟨p, 2, none⟩ = some (.int .i64 ((k : Int) + 1))) := Lib.hid (fun W' h => ⟨h, h.box.cellv (i := 0) rfl, h.box.cellv (i := 2) rfl⟩)
          have PUT : Hid (∀ W', FK W W' g hb cap m ad V B N k j p (some ⟨b, 0, none⟩) c → ∃ W2, (SA tE (.pointer (some ⟨b, j * 3, none⟩)) (.agg (mkc k).toArray)).run Tryz.prog W' = .ok () W2 ∧ FK W W2 g hb cap m ad V B N k (j + 1) p (some ⟨b, 0, none⟩) c ∧ FK W W2 g hb cap m ad V B N k j p (some ⟨b, 0, none⟩) c) := Lib.hid (fun W' h => by
            obtain ⟨W2, hst, hr2, hc2⟩ := h.rows.put (R := Qf N k (j + 1)) HD.out hlt HV.out hl2 (fun i l e h => ⟨h.1, fun e' => absurd e' e⟩) (fun l hl h => ⟨fun h' => absurd h' (Nat.lt_irrefl _), fun _ t r ht hr => by
              by_cases e : t = j
              · subst e; exact (by obtain ⟨v, hv⟩ : ∃ v, (mkc k)[r]? = some v := ⟨_, List.getElem?_eq_getElem (by rw [mkc_len]; exact hr)⟩
                                   rw [hv]; exact sets_in _ _ _ (by rw [mkc_len, hl]; omega) r v hv)
              · rw [sets_out _ _ _ _ (by rw [mkc_len]; omega)]; exact h.2 rfl t r (by omega) hr⟩)
            have h1 : FK W W2 g hb cap m ad V B N k (j + 1) p (some ⟨b, 0, none⟩) c := ⟨h.bk.chg hc2 NG.out NH.out, hr2, h.chg.trans hc2, hc2.blk h.box NP.out⟩
            exact ⟨W2, hst, h1, h1.bk, h1.rows.imp (fun i l _ _ h => ⟨h.1, fun e t r ht hr => h.2 e t r (by omega) hr⟩), h1.chg, h1.box⟩)
          go_wp2
          go_region_held3 (fun W' => FK W W' g hb cap m ad V B N k j p (some ⟨b, 0, none⟩) c ∧ W'.cell? ⟨p, 0, none⟩ = some (.slice (some ⟨b, 0, none⟩) (N k) c) ∧ W'.cell? ⟨p, 2, none⟩ = some (.int .i64 ((k : Int) + 1)))             (first | exact EXT.out _ (HF.out.keep (Below.refl _ _).drew) | exact EXT.out _ (FK.keep (And.left (by assumption)) hb8) | exact EXT.out _ k10b)             (first | (go_at_call 127; (with_reducible refine (mark_c k _ (by omega)).mono ?_); rintro e w8 ⟨rfl, hb8⟩; refine Exists.elim (PUT.out _ (FK.keep (And.left (by assumption)) hb8)) ?_; rintro w10 ⟨hst, k10, k10b⟩))
          go_wp2
          go_roundw
          case rel => exact ⟨j + 1, by omega, by go_num, Lib.hid k10⟩
          case measure => simp [intOf]; omega
        · obtain rfl : j = N k := by omega
          go_wp2
          go_roundw
          case rel => exact ⟨k + 1, by omega, by go_num, Lib.hid HF.out.bk, Lib.hid (HF.out.rows.imp fun i l hi hl h hik => by
            by_cases e : i = k
            · subst e; exact rep_of hl (fun t r ht hr => h.2 rfl t r ht hr)
            · exact h.1 (by omega)), Lib.hid HF.out.chg⟩
          case measure => simp [intOf]; omega
    · obtain rfl : k = m := by omega
      go_wp2
      go_end0
      exact ⟨rfl, HK.out, HR.out.imp fun i l hi _ h => h hi, HC.out⟩
end Go.Proofs.YtkpdomnmlinomabGreat.BookS
