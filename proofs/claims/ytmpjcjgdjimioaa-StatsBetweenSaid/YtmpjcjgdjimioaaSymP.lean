/- Join either way round, in plain words. -/
import Derived.Test.YtmpjcjgdjimioaaJoinD
namespace Go.Proofs.Ytmpjcjgdjimioaa.SymP
open Ieee Go.Proofs.Ytmpjcjgdjimioaa.Nums Go.Proofs.Ytmpjcjgdjimioaa.Of Go.Proofs.Ytmpjcjgdjimioaa.Fl Go.Proofs.Ytmpjcjgdjimioaa.Fin Go.Proofs.Ytmpjcjgdjimioaa.SOf Go.Proofs.Ytmpjcjgdjimioaa.Quant Go.Proofs.Ytmpjcjgdjimioaa.Round Go.Proofs.Ytmpjcjgdjimioaa.May Go.Proofs.Ytmpjcjgdjimioaa.JoinP Go.Proofs.Ytmpjcjgdjimioaa.JoinD
set_option linter.unusedSimpArgs false
set_option linter.unusedVariables false
theorem sum_comm (d e : Datum) : d.sum e = e.sum d := by
  cases d with
  | nan s p => cases e <;> rfl
  | infinity s =>
    cases e with
    | nan t p => rfl
    | infinity t =>
      show (if s = t then some (Datum.infinity s) else none) = (if t = s then some (Datum.infinity t) else none)
      by_cases h : s = t
      · subst h; rfl
      · rw [if_neg h, if_neg (fun k => h k.symm)]
    | number t n j => rfl
  | number s m i =>
    cases e with
    | nan t p => rfl
    | infinity t => rfl
    | number t n j =>
      show some (Datum.number (if signed s m (i - min i j).toNat + signed t n (j - min i j).toNat = 0 then s && t else decide (signed s m (i - min i j).toNat + signed t n (j - min i j).toNat < 0)) (signed s m (i - min i j).toNat + signed t n (j - min i j).toNat).natAbs (min i j)) =
        some (Datum.number (if signed t n (j - min j i).toNat + signed s m (i - min j i).toNat = 0 then t && s else decide (signed t n (j - min j i).toNat + signed s m (i - min j i).toNat < 0)) (signed t n (j - min j i).toNat + signed s m (i - min j i).toNat).natAbs (min j i))
      rw [Int.min_comm j i, Int.add_comm (signed t n _), Bool.and_comm t s]
theorem product_comm (d e : Datum) : d.product e = e.product d := by
  cases d with
  | nan s p => cases e <;> rfl
  | infinity s =>
    cases e with
    | nan t p => rfl
    | infinity t => show some (Datum.infinity (s ^^ t)) = some (Datum.infinity (t ^^ s)); rw [Bool.xor_comm]
    | number t n j => rfl
  | number s m i =>
    cases e with
    | nan t p => rfl
    | infinity t => rfl
    | number t n j =>
      show some (Datum.number (s ^^ t) (m * n) (i + j)) = some (Datum.number (t ^^ s) (n * m) (j + i))
      rw [Bool.xor_comm, Nat.mul_comm, Int.add_comm]
theorem add_comm (x y : Nat) : floatBits .add .f64 x y = floatBits .add .f64 y x := by
  show ((double.read x).sum (double.read y)).map double.write = ((double.read y).sum (double.read x)).map double.write
  rw [sum_comm]
theorem mul_comm (x y : Nat) : floatBits .mul .f64 x y = floatBits .mul .f64 y x := by
  show ((double.read x).product (double.read y)).map double.write = ((double.read y).product (double.read x)).map double.write
  rw [product_comm]
theorem fadd_comm (x y : Nat) : fo .add x y = fo .add y x := by unfold fo; rw [add_comm]
theorem fmul_comm (x y : Nat) : fo .mul x y = fo .mul y x := by unfold fo; rw [mul_comm]
/-- The square of a difference is the same either way round. -/
theorem sq_sub {x y : Nat} (hx : Num x) (hy : Num y) : fo .mul (fo .sub x y) (fo .sub x y) = fo .mul (fo .sub y x) (fo .sub y x) := by
  obtain ⟨s, r, rfl, hr⟩ := hx
  obtain ⟨t, q, rfl, hq⟩ := hy
  obtain ⟨g, p, _, b, c, _⟩ := fo_sub s t r q hr hq
  obtain ⟨g', p', _, b', c', _⟩ := fo_sub t s q r hq hr
  have e : (sv t q - sv s r).natAbs = (sv s r - sv t q).natAbs := by omega
  rw [e] at c'
  have hp : p = p' := IsN.eq (d1 := 1) (d2 := 1) (by decide) (by decide) rfl c c'
  subst hp
  rw [b, b']
  have hsq : ∀ g : Bool, fo .mul (double.word g p) (double.word g p) = fo .mul (double.word false p) (double.word false p) := by
    intro g
    rcases Nat.lt_or_ge p 9218868437227405312 with h | h
    · obtain ⟨k, _, b1, c1⟩ := fo_mul g g p p h h
      obtain ⟨k', _, b2, c2⟩ := fo_mul false false p p h h
      have hk : k = k' := IsN.eq U_pos U_pos rfl c1 c2
      rw [b1, b2, hk, Bool.xor_self, Bool.xor_self]
    · obtain rfl : p = 9218868437227405312 := by have := c.le; omega
      have e : ∀ s : Bool, floatBits .mul .f64 (double.word s 9218868437227405312) (double.word s 9218868437227405312) = some (double.word false 9218868437227405312) := by
        intro s
        show ((double.read _).product (double.read _)).map double.write = _
        rw [read_inf]
        show some (double.write (.infinity (s ^^ s))) = _
        rw [Bool.xor_self, write_inf]
      rw [(fo_of (e g)).2, (fo_of (e false)).2]
  rw [hsq g, hsq g']
/-- Two summaries, as == has it. -/
def eqS (s t : Su) : Bool := s.c == t.c && (FloatKind.f64.format.order s.m t.m == some .eq && (FloatKind.f64.format.order s.v t.v == some .eq && (s.l == t.l && s.o == t.o)))
theorem ord_self {x : Nat} (h : Num x) : (FloatKind.f64.format.order x x == some .eq) = true := by
  obtain ⟨s, r, rfl, hr⟩ := h
  rw [show FloatKind.f64.format.order (double.word s r) (double.word s r) = _ from ord s s r r (by omega) (by omega), if_neg (by omega), if_pos rfl]
  rfl
theorem eqS_self {s : Su} (h : Num s.m) (h' : Num s.v) : eqS s s = true := by
  unfold eqS
  rw [ord_self h, ord_self h']
  simp
theorem zero_word {x : Nat} (hx : x < 18446744073709551616) (h : (FloatKind.f64.format.order x 0 == some .eq) = true) : ∃ s, x = double.word s 0 := by
  obtain ⟨s, r, rfl, hr⟩ := word_of x hx
  rcases Nat.lt_or_ge 9218868437227405312 r with hn | hf
  · rw [show FloatKind.f64.format.order (double.word s r) 0 = none from ord_nan s r 0 hn hr] at h
    cases h
  · have e0 : FloatKind.f64.format.order (double.word s r) 0 = some (if sv s r < 0 then .lt else if sv s r = 0 then .eq else .gt) := by
      have := ord s false r 0 hf (by decide)
      rw [show double.word false 0 = 0 by rw [word_f], show sv false 0 = 0 by simp [sv, V_zero]] at this
      exact this
    rw [e0] at h
    have h0 : sv s r = 0 := by
      by_cases h1 : sv s r < 0
      · rw [if_pos h1] at h; cases h
      · rw [if_neg h1] at h
        by_cases h2 : sv s r = 0
        · exact h2
        · rw [if_neg h2] at h; cases h
    have := sv_abs s r
    rw [h0] at this
    rcases Nat.eq_zero_or_pos r with rfl | hp
    · exact ⟨s, rfl⟩
    · have := V_pos hp
      simp at *
      omega
theorem zz (s t : Bool) : (FloatKind.f64.format.order (double.word s 0) (double.word t 0) == some .eq) = true := by cases s <;> cases t <;> decide +kernel
theorem may_zero {a : Su} (wa : Su.wf a) (h : mayB a = true) (hc : a.c = 0) : (∃ s, a.m = double.word s 0) ∧ (∃ s, a.v = double.word s 0) ∧ a.l = 0 ∧ a.o = 0 := by
  unfold mayB at h
  rw [if_pos hc] at h
  simp only [Bool.and_eq_true, beq_iff_eq] at h
  exact ⟨zero_word wa.m (by simp [h.1]), zero_word wa.v (by simp [h.2.1]), h.2.2.1, h.2.2.2⟩
theorem eqS_zero {a b : Su} (wa : Su.wf a) (wb : Su.wf b) (ha : mayB a = true) (hb : mayB b = true) (h0 : a.c = 0) (h1 : b.c = 0) : eqS a b = true := by
  obtain ⟨⟨s1, e1⟩, ⟨s2, e2⟩, e3, e4⟩ := may_zero wa ha h0
  obtain ⟨⟨t1, f1⟩, ⟨t2, f2⟩, f3, f4⟩ := may_zero wb hb h1
  unfold eqS
  rw [e1, e2, e3, e4, f1, f2, f3, f4, h0, h1, zz, zz]
  rfl
theorem may_num {a : Su} (wa : Su.wf a) (h : mayB a = true) (hc : a.c ≠ 0) : Num a.m ∧ Num a.v := by
  obtain ⟨_, _, h3, h4, _⟩ := may_of h hc
  exact ⟨Num.of_fin wa.m h3, Num.of_fin wa.v h4⟩
section
variable {a b : Su} (wa : Su.wf a) (wb : Su.wf b)
theorem all_sym (a b : Su) : allF a b = allF b a := fadd_comm _ _
theorem mean_sym (a b : Su) : meanJ a b = meanJ b a := by
  unfold meanJ sumO
  rw [add_comm, all_sym]
theorem var_sym (wa : Su.wf a) (wb : Su.wf b) (ha : mayB a = true) (hb : mayB b = true) (h0 : a.c ≠ 0) (h1 : b.c ≠ 0) : varJ a b = varJ b a := by
  have e1 : vF a b = vF b a := fadd_comm _ _
  have e2 : wF a b = wF b a := by unfold wF; rw [all_sym, fmul_comm]
  have e3 : fo .mul (dF a b) (dF a b) = fo .mul (dF b a) (dF b a) := sq_sub (may_num wa ha h0).1 (may_num wb hb h1).1
  unfold varJ wdF
  rw [e1, e2, e3, all_sym]
theorem ok_sym (wa : Su.wf a) (wb : Su.wf b) (ha : mayB a = true) (hb : mayB b = true) (h0 : a.c ≠ 0) (h1 : b.c ≠ 0) : okJ a b = okJ b a := by
  unfold okJ
  rw [mean_sym, var_sym wa wb ha hb h0 h1]
theorem joinE_sym (wa : Su.wf a) (wb : Su.wf b) : joinE b a = joinE a b := by
  unfold joinE
  cases ha : mayB a
  · cases hb : mayB b <;> simp
  · cases hb : mayB b
    · simp
    · simp only [Bool.true_eq_false, if_false]
      rw [Int.add_comm b.c a.c]
      by_cases hn : isN (a.c + b.c) = false
      · rw [if_pos hn, if_pos hn]
      · rw [if_neg hn, if_neg hn]
        by_cases h0 : a.c = 0
        · by_cases h1 : b.c = 0
          · rw [if_pos h1, if_pos h0]
          · rw [if_pos h0, if_neg h1, if_pos h0]
        · by_cases h1 : b.c = 0
          · rw [if_pos h1, if_neg h0, if_pos h1]
          · rw [if_neg h1, if_neg h0, if_neg h0, if_neg h1, ok_sym wa wb ha hb h0 h1]
theorem joinE_ok (h : joinE a b = 0) : mayB a = true ∧ mayB b = true := by
  unfold joinE at h
  cases ha : mayB a
  · rw [ha, if_pos rfl] at h; cases h
  · cases hb : mayB b
    · rw [ha, hb, if_neg (by decide), if_pos rfl] at h; cases h
    · exact ⟨rfl, rfl⟩
theorem joinE_fin (h : joinE a b = 0) (h0 : a.c ≠ 0) (h1 : b.c ≠ 0) : okJ a b = true ∧ isN (a.c + b.c) = true := by
  obtain ⟨ha, hb⟩ := joinE_ok h
  unfold joinE at h
  rw [ha, hb, if_neg (by decide), if_neg (by decide)] at h
  cases hn : isN (a.c + b.c)
  · rw [hn, if_pos rfl] at h; cases h
  · rw [hn, if_neg (by decide), if_neg h0, if_neg h1] at h
    cases hk : okJ a b
    · rw [hk, if_neg (by decide)] at h; cases h
    · exact ⟨rfl, rfl⟩
theorem joinS_sym (wa : Su.wf a) (wb : Su.wf b) : eqS (joinS a b) (joinS b a) = true := by
  have hz : eqS zSu zSu = true := by decide +kernel
  unfold joinS
  rw [joinE_sym wa wb]
  by_cases he : joinE a b ≠ 0
  · rw [if_pos he, if_pos he]; exact hz
  · have he' : joinE a b = 0 := by omega
    rw [if_neg he, if_neg he]
    obtain ⟨ha, hb⟩ := joinE_ok he'
    by_cases h0 : a.c = 0
    · by_cases h1 : b.c = 0
      · rw [if_pos h0, if_pos h1]; exact eqS_zero wb wa hb ha h1 h0
      · rw [if_pos h0, if_neg h1, if_pos h0]
        exact eqS_self (may_num wb hb h1).1 (may_num wb hb h1).2
    · by_cases h1 : b.c = 0
      · rw [if_neg h0, if_pos h1, if_pos h1]
        exact eqS_self (may_num wa ha h0).1 (may_num wa ha h0).2
      · rw [if_neg h0, if_neg h1, if_neg h1, if_neg h0]
        rw [mean_sym b a, var_sym wb wa hb ha h1 h0, Int.add_comm b.c a.c, Int.min_comm b.l a.l, Int.max_comm b.o a.o]
        obtain ⟨hk, hn⟩ := joinE_fin he' h0 h1
        have jd := join_def wa wb ha hb h0 h1 hn
        unfold okJ at hk
        cases hm : meanJ a b with
        | none => rw [hm] at hk; cases hk
        | some m =>
          rw [hm] at hk
          simp only [Bool.and_eq_true] at hk
          refine eqS_self ?_ ?_
          · show Num m
            rcases jd.mean with h | ⟨s, h, _, k⟩
            · unfold meanJ at hm; rw [h] at hm; cases hm
            · unfold meanJ at hm; rw [h] at hm; cases hm
              exact k.num hk.1
          · exact jd.varx.ext.num hk.2
theorem zSu_may : mayB zSu = true := by decide +kernel
theorem zSu_wf : Su.wf zSu := ⟨by decide, by decide⟩
theorem joinE_z (a : Su) : joinE a zSu = if mayB a = false then 1 else 0 := by
  unfold joinE
  cases ha : mayB a
  · simp
  · have hn : isN (a.c + zSu.c) = true := by
      have : a.c + zSu.c = a.c := Int.add_zero _
      rw [this]
      by_cases h0 : a.c = 0
      · rw [h0]; decide
      · exact (may_of ha h0).2.1
    rw [zSu_may, hn]
    simp [zSu]
theorem joinS_z (wa : Su.wf a) (h : mayB a = true) : eqS (joinS a zSu) a = true := by
  have e : joinE a zSu = 0 := by rw [joinE_z, h, if_neg (by decide)]
  unfold joinS
  rw [if_neg (by rw [e]; decide)]
  by_cases h0 : a.c = 0
  · rw [if_pos h0]; exact eqS_zero zSu_wf wa zSu_may h rfl h0
  · rw [if_neg h0, if_pos (show zSu.c = 0 from rfl)]
    exact eqS_self (may_num wa h h0).1 (may_num wa h h0).2
theorem joinE_bad (h : mayB a = false) : joinE a b = 1 := by unfold joinE; rw [if_pos h]
end
end Go.Proofs.Ytmpjcjgdjimioaa.SymP
