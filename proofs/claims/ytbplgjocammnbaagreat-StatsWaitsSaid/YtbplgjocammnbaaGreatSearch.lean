/- Contract of sort.Search: the least number from which on a predicate holds. -/
import Derived.Test.YtbplgjocammnbaaGreatMem
import Derived.Test.YtbplgjocammnbaaGreatAid
import Derived.Test.YtbplgjocammnbaaGreatRows
import Derived.WalkKit
import Derived.WalkSpells
import Derived.Lib.Hide
import Derived.LoopTactic
import Derived.Shelf.Abstract
namespace Go.Proofs.YtbplgjocammnbaaGreat.Search
open Go.RowKit Go.Proofs.YtbplgjocammnbaaGreat.Aid Go.Proofs.YtbplgjocammnbaaGreat.Mem
set_option linter.unusedSimpArgs false
set_option linter.unusedVariables false
set_option maxRecDepth 100000
theorem Dr.trans {a b c : World} (h : Dr a b) (k : Dr b c) : Dr a c := by
  obtain ⟨n, rfl⟩ := h
  obtain ⟨m, rfl⟩ := k
  exact ⟨n + m, World.drewN_drewN ..⟩
/-- p does not hold below k, and holds from there on. -/
def From (p : Nat → Bool) (n k : Nat) : Prop := k ≤ n ∧ (∀ t, t < k → p t = false) ∧ ∀ t, k ≤ t → t < n → p t = true
theorem search_c (g : Nat) (lb : Array Value) (n : Nat) (p : Nat → Bool) (w : World) (hn : n ≤ 17592186044416) (hm : ∀ a b, a ≤ b → b < n → p a = true → p b = true)
    (eg : ∀ args w, (callFunc g args).run Tryz.prog w = .ok (.enter g args) w) (hf : ∀ W i, Dr w W → i < n → Calls Tryz.prog g (#[.int .i64 (i : Int)] ++ lb) W fun e W' => e = .returned (.bool (p i)) ∧ Dr W W') :
    Calls Tryz.prog 159 #[.int .i64 (n : Int), .func (.func g) #[] lb] w fun e w' => (∃ k : Nat, e = .returned (.int .i64 (k : Int)) ∧ From p n k) ∧ Dr w w' := by
  have HF := Lib.hid hf
  have HM := Lib.hid hm
  clear hf hm
  go_enter Tryz.func159, Tryz.ntmps159
  go_wp2
  go_loopw [5, 6] (fun i j wr => ∃ a b : Nat, a ≤ b ∧ b ≤ n ∧ i = .int .i64 a ∧ j = .int .i64 b ∧ Hid (∀ t, t < a → p t = false) ∧ Hid (∀ t, b ≤ t → t < n → p t = true) ∧ Hid (Dr w wr)) (fun i j _ => (intOf j).toNat - (intOf i).toNat)
  case atStart => exact ⟨0, n, Nat.zero_le _, Nat.le_refl _, rfl, rfl, Lib.hid (fun t h => absurd h (by omega)), Lib.hid (fun t h1 h2 => absurd h1 (by omega)), Dr.refl _⟩
  case round =>
    obtain ⟨a, b, hab, hb, rfl, rfl, HA, HB, HD⟩ := hrel
    by_cases hlt : a < b
    · obtain ⟨h, hh⟩ : ∃ h, h = (a + b) / 2 := ⟨_, rfl⟩
      have h1 : a ≤ h := by omega
      have h2 : h < b := by omega
      have e1 : ((a : Int) + (b : Int)) / 2 = ((h : Nat) : Int) := by rw [hh]; omega
      have PH : Hid (∀ W, Dr w W → Calls Tryz.prog g (#[.int .i64 (((a : Int) + (b : Int)) / 2)] ++ lb) W fun e W' => e = .returned (.bool (p h)) ∧ Dr W W') := Lib.hid (fun W hW => by rw [e1]; exact HF.out W h hW (by omega))
      have HE := Lib.hid e1
      clear hh e1
      cases hp : p h with
      | false =>
        have HP := Lib.hid hp
        rw [hp] at PH
        clear hp
        go_wp2_with (go_at_fn g; refine (PH.out _ HD.out).mono ?_; rintro e w' ⟨rfl, hd⟩)
        go_roundw
        case rel => exact ⟨h + 1, b, by omega, hb, by rw [HE.out]; go_num, rfl, Lib.hid (fun t ht => by
          rcases Nat.lt_or_ge t a with h3 | h3
          · exact HA.out t h3
          · cases hpt : p t with
            | false => rfl
            | true => exact absurd (HM.out t h (by omega) (by omega) hpt) (by rw [HP.out]; decide)), HB, Lib.hid (Dr.trans HD.out hd)⟩
        case measure => simp [intOf, HE.out]; omega
      | true =>
        have HP := Lib.hid hp
        rw [hp] at PH
        clear hp
        go_wp2_with (go_at_fn g; refine (PH.out _ HD.out).mono ?_; rintro e w' ⟨rfl, hd⟩)
        go_roundw
        case rel => exact ⟨a, h, by omega, by omega, rfl, by rw [HE.out], HA, Lib.hid (fun t h3 h4 => HM.out h t h3 h4 HP.out), Lib.hid (Dr.trans HD.out hd)⟩
        case measure => simp [intOf, HE.out]; omega
    · obtain rfl : a = b := by omega
      go_wp2
      go_ret
      exact ⟨⟨a, rfl, by omega, HA.out, HB.out⟩, HD.out⟩
end Go.Proofs.YtbplgjocammnbaaGreat.Search
