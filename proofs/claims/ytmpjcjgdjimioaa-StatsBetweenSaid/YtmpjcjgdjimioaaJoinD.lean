/- What Join tells, and that its operations have results. -/
import Derived.Test.YtmpjcjgdjimioaaJoinP
namespace Go.Proofs.Ytmpjcjgdjimioaa.JoinD
open Ieee Go.RowKit Go.Proofs.Ytmpjcjgdjimioaa.Aid Go.Proofs.Ytmpjcjgdjimioaa.Mem Go.Proofs.Ytmpjcjgdjimioaa.Nums Go.Proofs.Ytmpjcjgdjimioaa.Keep Go.Proofs.Ytmpjcjgdjimioaa.Has Go.Proofs.Ytmpjcjgdjimioaa.Recs Go.Proofs.Ytmpjcjgdjimioaa.Of Go.Proofs.Ytmpjcjgdjimioaa.Fl Go.Proofs.Ytmpjcjgdjimioaa.Fin Go.Proofs.Ytmpjcjgdjimioaa.RefOf Go.Proofs.Ytmpjcjgdjimioaa.SOf Go.Proofs.Ytmpjcjgdjimioaa.Quant Go.Proofs.Ytmpjcjgdjimioaa.Round Go.Proofs.Ytmpjcjgdjimioaa.May Go.Proofs.Ytmpjcjgdjimioaa.JoinP
set_option linter.unusedSimpArgs false
set_option linter.unusedVariables false
set_option maxRecDepth 100000
def allF (a b : Su) : Nat := fo .add (fi a.c) (fi b.c)
def pF (a : Su) : Nat := fo .mul (fi a.c) a.m
def xF (a : Su) : Nat := fo .mul (fi a.c) a.v
def dF (a b : Su) : Nat := fo .sub a.m b.m
def wF (a b : Su) : Nat := fo .quo (fo .mul (fi a.c) (fi b.c)) (allF a b)
def vF (a b : Su) : Nat := fo .add (xF a) (xF b)
def wdF (a b : Su) : Nat := fo .mul (wF a b) (fo .mul (dF a b) (dF a b))
def varJ (a b : Su) : Nat := fo .quo (fo .add (vF a b) (wdF a b)) (allF a b)
def sumO (a b : Su) : Option Nat := floatBits .add .f64 (pF a) (pF b)
def meanJ (a b : Su) : Option Nat := (sumO a b).map fun s => fo .quo s (allF a b)
def zSu : Su := ⟨0, 0, 0, 0, 0⟩
def okJ (a b : Su) : Bool := match meanJ a b with
  | none => false
  | some m => finB m && finB (varJ a b)
def joinE (a b : Su) : Int := if mayB a = false then 1 else if mayB b = false then 1 else if isN (a.c + b.c) = false then 3 else if a.c = 0 then 0 else if b.c = 0 then 0 else if okJ a b = true then 0 else 3
def joinS (a b : Su) : Su := if joinE a b ≠ 0 then zSu else if a.c = 0 then b else if b.c = 0 then a else ⟨a.c + b.c, (meanJ a b).getD 0, varJ a b, min a.l b.l, max a.o b.o⟩
structure JD (a b : Su) : Prop where
  all : (floatBits .add .f64 (fi a.c) (fi b.c)).isSome
  p : (floatBits .mul .f64 (fi a.c) a.m).isSome
  q : (floatBits .mul .f64 (fi b.c) b.m).isSome
  x : (floatBits .mul .f64 (fi a.c) a.v).isSome
  y : (floatBits .mul .f64 (fi b.c) b.v).isSome
  v : (floatBits .add .f64 (xF a) (xF b)).isSome
  nm : (floatBits .mul .f64 (fi a.c) (fi b.c)).isSome
  w : (floatBits .quo .f64 (fo .mul (fi a.c) (fi b.c)) (allF a b)).isSome
  d : (floatBits .sub .f64 a.m b.m).isSome
  dd : (floatBits .mul .f64 (dF a b) (dF a b)).isSome
  wd : (floatBits .mul .f64 (wF a b) (fo .mul (dF a b) (dF a b))).isSome
  vw : (floatBits .add .f64 (vF a b) (wdF a b)).isSome
  var : (floatBits .quo .f64 (fo .add (vF a b) (wdF a b)) (allF a b)).isSome
  varx : NN (varJ a b)
  mean : sumO a b = none ∨ ∃ s, sumO a b = some s ∧ (floatBits .quo .f64 s (allF a b)).isSome ∧ Ext (fo .quo s (allF a b))
theorem may_of {a : Su} (h : mayB a = true) (hc : a.c ≠ 0) : 0 < a.c ∧ isN a.c = true ∧ finB a.m = true ∧ finB a.v = true ∧ geF a.v 0 = true := by
  unfold mayB at h
  rw [if_neg hc] at h
  simp only [Bool.and_eq_true, decide_eq_true_eq] at h
  exact ⟨h.1, h.2.1, h.2.2.2.2.2.1, h.2.2.2.2.2.2.1, h.2.2.2.2.2.2.2⟩
theorem may_c0 {a : Su} (h : mayB a = true) : 0 ≤ a.c ∧ a.c ≤ 4611686018427387903 := by
  by_cases hc : a.c = 0
  · omega
  · have := may_of h hc
    have := isN_of this.2.1
    omega
theorem nn_of {x : Nat} (hx : x < 18446744073709551616) (h : finB x = true) (hg : geF x 0 = true) : NN x := by
  obtain ⟨s, r, rfl, hr⟩ := Num.of_fin hx h
  refine ⟨s, r, rfl, by omega, ?_⟩
  unfold geF at hg
  have e0 : FloatKind.f64.format.order (double.word s r) 0 = some (if sv s r < 0 then .lt else if sv s r = 0 then .eq else .gt) := by
    have := ord s false r 0 (by omega) (by decide)
    rw [show double.word false 0 = 0 by rw [word_f], show sv false 0 = 0 by simp [sv, V_zero]] at this
    exact this
  rw [e0] at hg
  cases s with
  | false => exact .inl rfl
  | true =>
    right
    rw [sv_t] at hg
    rcases Nat.eq_zero_or_pos r with h | h
    · exact h
    · have := V_pos h
      rw [if_pos (by omega)] at hg
      simp at hg
theorem join_def {a b : Su} (wa : Su.wf a) (wb : Su.wf b) (ha : mayB a = true) (hb : mayB b = true) (ca : a.c ≠ 0) (cb : b.c ≠ 0) (hn : isN (a.c + b.c) = true) : JD a b := by
  obtain ⟨a1, a2, a3, a4, a5⟩ := may_of ha ca
  obtain ⟨b1, b2, b3, b4, b5⟩ := may_of hb cb
  have na := isN_of a2
  have nb' := isN_of b2
  have fa := fi_big a.c a1 (by omega)
  have fb := fi_big b.c b1 (by omega)
  have pa : Pos (fi a.c) := by obtain ⟨s, r, e, h0, h1, h2⟩ := fa; exact ⟨s, r, e, h0, by omega, by omega⟩
  have pb : Pos (fi b.c) := by obtain ⟨s, r, e, h0, h1, h2⟩ := fb; exact ⟨s, r, e, h0, by omega, by omega⟩
  have am := Num.of_fin wa.m a3
  have av := Num.of_fin wa.v a4
  have bm := Num.of_fin wb.m b3
  have bv := Num.of_fin wb.v b4
  obtain ⟨h1, h1'⟩ := add_big fa fb
  obtain ⟨h2, h2'⟩ := mul_num pa.num am
  obtain ⟨h3, h3'⟩ := mul_num pb.num bm
  obtain ⟨h4, h4'⟩ := mul_nn pa (nn_of wa.v a4 a5) av
  obtain ⟨h5, h5'⟩ := mul_nn pb (nn_of wb.v b4 b5) bv
  obtain ⟨h6, h6'⟩ := add_nn h4' h5'
  obtain ⟨h7, h7'⟩ := mul_big fa fb
  obtain ⟨h8, h8'⟩ := div_pos h7' h1'
  obtain ⟨h9, h9'⟩ := sub_num am bm
  obtain ⟨h10, h10'⟩ := sq_ext h9'
  obtain ⟨h11, h11'⟩ := mul_pos_nn h8' h10'
  obtain ⟨h12, h12'⟩ := add_nn h6' h11'
  obtain ⟨h13, _, h13'⟩ := div_ext h12'.ext h1' (by decide)
  refine ⟨h1, h2, h3, h4, h5, h6, h7, h8, h9, h10, h11, h12, h13, h13' h12', ?_⟩
  rcases add_ext h2' h3' with h | ⟨h, h'⟩
  · exact .inl h
  · right
    obtain ⟨k, k', _⟩ := div_ext h' h1' (by decide)
    exact ⟨_, fo_some h, k, k'⟩
end Go.Proofs.Ytmpjcjgdjimioaa.JoinD
