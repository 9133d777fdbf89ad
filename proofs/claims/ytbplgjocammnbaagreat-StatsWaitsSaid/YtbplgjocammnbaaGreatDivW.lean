/- Quotients of words: the model's quotient keeps one digit more, which tells what is left over; so it rounds as the fraction itself does. -/
import Derived.Test.YtbplgjocammnbaaGreatMulW
namespace Go.Proofs.YtbplgjocammnbaaGreat.Fl
open Ieee
set_option linter.unusedVariables false
/-- No midpoint of two rungs lies strictly between two neighbours of a grid as fine as 54 digits. -/
theorem gap_mid (k E a q : Nat) (hk : k < 9007199254740992) (hq : 9007199254740992 ≤ q) : (2 * k + 1) * 2 ^ E ≤ 4 * q * 2 ^ a ∨ 4 * (q + 1) * 2 ^ a ≤ (2 * k + 1) * 2 ^ E := by
  rcases Nat.lt_or_ge E (a + 2) with h | h
  · left
    have h1 : 2 ^ E ≤ 2 * 2 ^ a := by
      have : 2 ^ E ≤ 2 ^ (a + 1) := Nat.pow_le_pow_right (by omega) (by omega)
      rw [Nat.pow_succ] at this
      omega
    have h2 : (2 * k + 1) * 2 ^ E ≤ (2 * k + 1) * (2 * 2 ^ a) := Nat.mul_le_mul_left _ h1
    have h3 : (2 * k + 1) * (2 * 2 ^ a) = (4 * k + 2) * 2 ^ a := by
      rw [← Nat.mul_assoc]
      congr 1
      omega
    have h4 : (4 * k + 2) * 2 ^ a ≤ 4 * q * 2 ^ a := Nat.mul_le_mul_right _ (by omega)
    omega
  · obtain ⟨e, rfl⟩ : ∃ e, E = a + 2 + e := ⟨E - (a + 2), by omega⟩
    have h0 : (2 * k + 1) * 2 ^ (a + 2 + e) = 4 * ((2 * k + 1) * 2 ^ e) * 2 ^ a := by
      rw [Nat.pow_add, Nat.pow_add, show (2 : Nat) ^ 2 = 4 from rfl]
      ac_rfl
    rw [h0]
    generalize (2 * k + 1) * 2 ^ e = X
    rcases Nat.lt_or_ge q X with h1 | h1
    · exact .inr (Nat.mul_le_mul_right _ (by omega))
    · exact .inl (Nat.mul_le_mul_right _ (by omega))
theorem V_mid (r : Nat) : ∃ L k, k < 9007199254740992 ∧ V r + V (r + 1) = (2 * k + 1) * 2 ^ L := by
  obtain ⟨L, k, rfl, h, hk, _⟩ := split r
  refine ⟨L, k, hk, ?_⟩
  rw [Nat.add_assoc, V_val L k h (by omega), V_val L (k + 1) (by omega) (by omega), ← Nat.add_mul]
  congr 1
  omega
theorem IsN.sticky {d n x a b r : Nat} (hx : x < n) (hd : 9007199254740992 ≤ d) (h0 : 0 < x) (h : IsN ((2 * d + 1) * 2 ^ a) (2 ^ b) r) : IsN (2 * (n * d + x) * 2 ^ a) (n * 2 ^ b) r := by
  have hA := Nat.two_pow_pos a
  have mid : ∀ s, 2 ^ b * (V s + V (s + 1)) ≤ 4 * d * 2 ^ a ∨ 4 * (d + 1) * 2 ^ a ≤ 2 ^ b * (V s + V (s + 1)) := by
    intro s
    obtain ⟨L, k, hk, e⟩ := V_mid s
    have e1 : 2 ^ b * (V s + V (s + 1)) = (2 * k + 1) * 2 ^ (L + b) := by rw [e, Nat.pow_add]; ac_rfl
    rw [e1]
    exact gap_mid k (L + b) a d hk hd
  have lo : ∀ Y : Nat, Y ≤ 4 * d * 2 ^ a → n * Y < 2 * (2 * (n * d + x) * 2 ^ a) := by
    intro Y hY
    have h1 : n * Y ≤ n * (4 * d * 2 ^ a) := Nat.mul_le_mul_left _ hY
    have h2 : 2 * (2 * (n * d + x) * 2 ^ a) = n * (4 * d * 2 ^ a) + 4 * (x * 2 ^ a) := by
      rw [Nat.mul_add, Nat.add_mul, Nat.mul_add, show n * (4 * d * 2 ^ a) = 2 * (2 * (n * d) * 2 ^ a) by rw [show (4 : Nat) = 2 * 2 from rfl]; ac_rfl]
      rw [show 4 * (x * 2 ^ a) = 2 * (2 * x * 2 ^ a) by rw [show (4 : Nat) = 2 * 2 from rfl]; ac_rfl]
    have h3 : 0 < x * 2 ^ a := Nat.mul_pos h0 hA
    omega
  have hi : ∀ Y : Nat, 4 * (d + 1) * 2 ^ a ≤ Y → 2 * (2 * (n * d + x) * 2 ^ a) < n * Y := by
    intro Y hY
    have h1 : n * (4 * (d + 1) * 2 ^ a) ≤ n * Y := Nat.mul_le_mul_left _ hY
    have h2 : 2 * (2 * (n * d + x) * 2 ^ a) < 2 * (2 * (n * d + n) * 2 ^ a) := by
      have := Nat.mul_lt_mul_of_pos_right (show 2 * (n * d + x) < 2 * (n * d + n) by omega) hA
      omega
    have h3 : n * (4 * (d + 1) * 2 ^ a) = 2 * (2 * (n * d + n) * 2 ^ a) := by
      rw [show n * d + n = n * (d + 1) by rw [Nat.mul_add, Nat.mul_one], show (4 : Nat) = 2 * 2 from rfl]; ac_rfl
    omega
  refine ⟨h.le, fun s hs => ?_, fun hr => ?_⟩
  · subst hs
    obtain ⟨l1, _⟩ := h.lo s rfl
    rcases mid s with m | m
    · have := lo _ m
      rw [Nat.mul_assoc n (2 ^ b)]
      exact ⟨by omega, fun _ => by omega⟩
    · have e : 4 * (d + 1) * 2 ^ a = 2 * ((2 * d + 1) * 2 ^ a) + 2 * 2 ^ a := by
        rw [show 2 * ((2 * d + 1) * 2 ^ a) = 2 * (2 * d + 1) * 2 ^ a by ac_rfl, ← Nat.add_mul]
        congr 1
        omega
      omega
  · obtain ⟨u1, _⟩ := h.hi hr
    rcases mid r with m | m
    · have e : 2 * ((2 * d + 1) * 2 ^ a) = 4 * d * 2 ^ a + 2 * 2 ^ a := by
        rw [show 2 * ((2 * d + 1) * 2 ^ a) = 2 * (2 * d + 1) * 2 ^ a by ac_rfl, ← Nat.add_mul]
        congr 1
        omega
      omega
    · have := hi _ m
      rw [Nat.mul_assoc n (2 ^ b)]
      exact ⟨by omega, fun _ => by omega⟩
theorem div_word (s t : Bool) (r q : Nat) (hr : r < 9218868437227405312) (hq : q < 9218868437227405312) (h0 : 0 < q) :
    ∃ p, double.div (double.word s r) (double.word t q) = some (double.word (s ^^ t) p) ∧ IsN (V r * U) (V q) p := by
  obtain ⟨m, L, e1, v1⟩ := read_num s r hr
  obtain ⟨n, K, e2, v2⟩ := read_num t q hq
  have hV := V_pos h0
  have hn : n ≠ 0 := by
    rintro rfl
    rw [Nat.zero_mul] at v2
    omega
  unfold Format.div
  rw [e1, e2]
  have hquo : (Datum.number s m (-1074 + (L : Int))).quotient (double.fractionBits + 2) (.number t n (-1074 + (K : Int))) = some (.number (s ^^ t) (2 * ((m <<< (54 + n.log2 - m.log2)) / n) + ((m <<< (54 + n.log2 - m.log2)) % n != 0).toNat) ((-1074 + (L : Int)) - (-1074 + (K : Int)) - ((54 + n.log2 - m.log2 : Nat) : Int) - 1)) := if_neg hn
  rw [hquo]
  have hm1 : m ≠ 0 → 54 + n.log2 ≤ m.log2 + (54 + n.log2 - m.log2) := fun _ => by omega
  have hl1 : m ≠ 0 → 2 ^ m.log2 ≤ m := Nat.log2_self_le
  have hl2 : n < 2 ^ (n.log2 + 1) := Nat.lt_log2_self
  generalize 54 + n.log2 - m.log2 = more at hm1 ⊢
  obtain ⟨p, w1, w2⟩ := nearest_isN (s ^^ t) (2 * ((m <<< more) / n) + ((m <<< more) % n != 0).toNat) ((-1074 + (L : Int)) - (-1074 + (K : Int)) - (more : Int) - 1)
  refine ⟨p, congrArg some w1, ?_⟩
  rw [Nat.shiftLeft_eq] at w2
  clear hquo w1 e1 e2
  have hab : 1 + more + K + ((-1074 + (L : Int)) - (-1074 + (K : Int)) - (more : Int) - 1 + 1074).toNat = L + 1074 + (-((-1074 + (L : Int)) - (-1074 + (K : Int)) - (more : Int) - 1 + 1074)).toNat := by omega
  generalize ((-1074 + (L : Int)) - (-1074 + (K : Int)) - (more : Int) - 1 + 1074).toNat = a at w2 hab
  generalize (-((-1074 + (L : Int)) - (-1074 + (K : Int)) - (more : Int) - 1 + 1074)).toNat = b at w2 hab
  have hn0 : 0 < n := Nat.pos_of_ne_zero hn
  have hdm := Nat.div_add_mod (m * 2 ^ more) n
  have hlt := Nat.mod_lt (m * 2 ^ more) hn0
  have key : IsN (2 * (m * 2 ^ more) * 2 ^ a) (n * 2 ^ b) p := by
    by_cases hx : (m * 2 ^ more) % n = 0
    · rw [hx, show ((0 : Nat) != 0).toNat = 0 from rfl] at w2
      rw [hx] at hdm
      refine IsN.same (Nat.two_pow_pos _) (Nat.mul_pos hn0 (Nat.two_pow_pos _)) ?_ w2
      rw [← hdm, Nat.add_zero, Nat.add_zero]
      rw [Nat.mul_div_cancel_left _ hn0]
      ac_rfl
    · rw [show ((m * 2 ^ more) % n != 0) = true from bne_iff_ne.2 hx, show true.toNat = 1 from rfl] at w2
      have hm : m ≠ 0 := by
        rintro rfl
        exact hx (by rw [Nat.zero_mul, Nat.zero_mod])
      have hd : 9007199254740992 ≤ m * 2 ^ more / n := by
        rw [Nat.le_div_iff_mul_le hn0]
        have b1 : 9007199254740992 * n ≤ 2 ^ 53 * 2 ^ (n.log2 + 1) := Nat.mul_le_mul (Nat.le_refl _) (Nat.le_of_lt hl2)
        have b2 : 2 ^ 53 * 2 ^ (n.log2 + 1) = 2 ^ (54 + n.log2) := by rw [← Nat.pow_add]; congr 1; omega
        have b3 : 2 ^ (54 + n.log2) ≤ 2 ^ (m.log2 + more) := Nat.pow_le_pow_right (by omega) (hm1 hm)
        have b4 : 2 ^ (m.log2 + more) ≤ m * 2 ^ more := by rw [Nat.pow_add]; exact Nat.mul_le_mul_right _ (hl1 hm)
        rw [b2] at b1
        exact Nat.le_trans b1 (Nat.le_trans b3 b4)
      have := IsN.sticky hlt hd (Nat.pos_of_ne_zero hx) w2
      rw [hdm] at this
      exact this
  refine IsN.same (Nat.mul_pos hn0 (Nat.two_pow_pos _)) hV ?_ key
  rw [← v1, ← v2]
  have e : 2 * 2 ^ more * 2 ^ K * 2 ^ a = 2 ^ L * 2 ^ b * U := by
    rw [← Nat.pow_add 2 L b, ← pow_U, show L + b + 1074 = 1 + more + K + a by omega, Nat.pow_add, Nat.pow_add, Nat.pow_add]
  generalize 2 ^ more = x1 at *
  generalize 2 ^ K = x2 at *
  generalize 2 ^ a = x3 at *
  generalize 2 ^ L = x4 at *
  generalize 2 ^ b = x5 at *
  generalize U = u at *
  have a1 : 2 * (m * x1) * x3 * (n * x2) = m * n * (2 * x1 * x2 * x3) := by ac_rfl
  have a2 : m * x4 * u * (n * x5) = m * n * (x4 * x5 * u) := by ac_rfl
  rw [a1, a2, e]
end Go.Proofs.YtbplgjocammnbaaGreat.Fl
