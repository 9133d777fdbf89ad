/- FitEach: the plain law, and the join. -/
import Derived.Test.YteeocipidlnnlaaEach
namespace Go.Proofs.Yteeocipidlnnlaa.EachB
open Go.RowKit Go.Proofs.Yteeocipidlnnlaa.Aid Go.Proofs.Yteeocipidlnnlaa.Mem Go.Proofs.Yteeocipidlnnlaa.Dist Go.Proofs.Yteeocipidlnnlaa.Types Go.Proofs.Yteeocipidlnnlaa.Fit Go.Proofs.Yteeocipidlnnlaa.Fits Go.Proofs.Yteeocipidlnnlaa.Each
set_option linter.unusedSimpArgs false
set_option linter.unusedVariables false
theorem clear_all : ∀ (n : Fin 256) (j : Fin 8), bits .andNot .u8 (n.val : Int) (2 ^ j.val % 256) / 2 ^ j.val % 2 = 0 := by decide +kernel
theorem clear_bit (x k : Int) (hx : 0 ≤ x ∧ x ≤ 255) (hk : 0 ≤ k ∧ k ≤ 7) : bits .andNot .u8 x (2 ^ k.toNat % 256) / 2 ^ k.toNat % 2 = 0 := by
  have h := clear_all ⟨x.toNat, by omega⟩ ⟨k.toNat, by omega⟩
  simp only at h
  rw [Int.toNat_of_nonneg hx.1] at h
  exact h
theorem dst_nonneg (a b c d : Int) : 0 ≤ dst a b c d := by unfold dst; omega
theorem why_parts {r : Req} {d : Drv} (h : why r d = 0) : noClass r.classes d.cls = false ∧ r.seats ≤ d.seats ∧ far r d = false := by
  unfold why at h
  by_cases a1 : noClass r.classes d.cls = true <;> by_cases a2 : d.seats < r.seats <;> by_cases a3 : far r d = true <;> simp only [a1, a2, a3, if_true, if_false] at h <;> first
    | exact absurd h (by decide)
    | exact ⟨by simpa using a1, by omega, by simpa using a3⟩
theorem why_of {r : Req} {d : Drv} {x y z : Bool} (h1 : noClass r.classes d.cls = x) (h2 : decide (d.seats < r.seats) = y) (h3 : far r d = z) : why r d = (if x then 1 else 0) + (if y then 2 else 0) + (if z then 4 else 0) := by
  unfold why
  rw [h1, h3, ← h2]
  simp
theorem each (r : Req) (d : Drv) (w : World) (hr : r.wf) (hd : d.wf) :
    Calls Try.prog 7 #[r.val, d.val] w fun e w' => e = .returned (.bool true) ∧ Below w.heap.size w w' := by
  have kr := Rok.of hr
  have kd := Dok.of hd
  have rs := kr.seats
  have ds := kd.seats
  have dc := kd.cls
  by_cases h : why r d = 0
  · obtain ⟨n1, n2, n3⟩ := why_parts h
    have hf := Lib.hid (show fits r d = true by unfold fits; simp [h])
    have hc : d.cls ≤ 7 := by unfold noClass at n1; simp at n1; omega
    have n3' : dst d.ax d.ay r.fx r.fy ≤ d.radius := by unfold far at n3; simpa using n3
    have oc := bounds_u8 (wf_bits .andNot .u8 r.classes (2 ^ d.cls.toNat % 256))
    have cb := clear_bit r.classes d.cls kr.classes ⟨dc.1, hc⟩
    have nc : noClass (bits .andNot .u8 r.classes (2 ^ d.cls.toNat % 256)) d.cls = true := by unfold noClass; simp [cb]
    have fr : ∀ (x : Drv), x.ax = d.ax → x.ay = d.ay → x.radius = -1 → ∀ y : Req, y.fx = r.fx → y.fy = r.fy → far y x = true := fun x e1 e2 e3 y e4 e5 => by
      unfold far; rw [e1, e2, e3, e4, e5]; have := dst_nonneg d.ax d.ay r.fx r.fy; simp; omega
    have kc : Rok { r with classes := bits .andNot .u8 r.classes (2 ^ d.cls.toNat % 256) } := ⟨kr.fx, kr.fy, kr.tx, kr.ty, kr.seats, oc⟩
    have ks : Dok { d with seats := 0 } := ⟨kd.ax, kd.ay, by show (0 : Int) ≤ 0 ∧ (0 : Int) ≤ 255; omega, kd.cls⟩
    have ke : Dok { d with radius := -1 } := ⟨kd.ax, kd.ay, kd.seats, kd.cls⟩
    have ka : Dok { d with seats := 0, radius := -1 } := ⟨kd.ax, kd.ay, by show (0 : Int) ≤ 0 ∧ (0 : Int) ≤ 255; omega, kd.cls⟩
    have z1 := Lib.hid (show why { r with classes := bits .andNot .u8 r.classes (2 ^ d.cls.toNat % 256) } d = 1 from why_of (x := true) (y := false) (z := false) nc (by simp; omega) n3)
    have z2 := Lib.hid (show why r { d with radius := -1 } = 4 from why_of (x := false) (y := false) (z := true) n1 (by simp; omega) (fr { d with radius := -1 } rfl rfl rfl r rfl rfl))
    rcases Int.lt_or_le 0 r.seats with hs | hs
    · have z3 := Lib.hid (show why r { d with seats := 0 } = 2 from why_of (x := false) (y := true) (z := false) n1 (by simp; omega) n3)
      have z4 := Lib.hid (show why { r with classes := bits .andNot .u8 r.classes (2 ^ d.cls.toNat % 256) } { d with seats := 0, radius := -1 } = 7 from why_of (x := true) (y := true) (z := true) nc (by simp; omega) (fr { d with seats := 0, radius := -1 } rfl rfl rfl { r with classes := bits .andNot .u8 r.classes (2 ^ d.cls.toNat % 256) } rfl rfl))
      exact each_pos r d w kr kd hf hc hs kc ks ke ka z1 z2 z3 z4
    · have z3 := Lib.hid (show why r { d with seats := 0 } = 0 from why_of (x := false) (y := false) (z := false) n1 (by simp; omega) n3)
      exact each_zero r d w kr kd hf hc hs kc ks ke z1 z2 z3
  · exact each_no r d w kr kd (Lib.hid (by unfold fits; simp [h])) (by simp [h])
end Go.Proofs.Yteeocipidlnnlaa.EachB
