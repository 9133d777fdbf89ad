/- The law NumRing: sums and products in any order; what was added is taken away again; a product with a sum is the sum of the products. -/
import Derived.Test.YtdfjbghmeoephabParts
namespace Go.Proofs.Ytdfjbghmeoephab.Ring
open Go.RowKit Go.Proofs.Ytdfjbghmeoephab.Aid Go.Proofs.Ytdfjbghmeoephab.Nums Go.Proofs.Ytdfjbghmeoephab.Mem Go.Proofs.Ytdfjbghmeoephab.Live Go.Proofs.Ytdfjbghmeoephab.Parts
set_option linter.unusedSimpArgs false

theorem isN_zero : isN 0 = true := by decide
theorem addB_comm (a b : Int) : addB b a = addB a b := by
  unfold addB; rw [Int.add_comm b a, Bool.and_comm (isN b) (isN a)]
theorem addV_comm (a b : Int) : addV b a = addV a b := by
  unfold addV; rw [addB_comm, Int.add_comm b a]
theorem mulB_comm (a b : Int) : mulB b a = mulB a b := by
  unfold mulB; rw [Int.mul_comm (sz b) (sz a), Bool.and_comm (isN b) (isN a)]
theorem mulV_comm (a b : Int) : mulV b a = mulV a b := by
  unfold mulV; rw [mulB_comm, Int.mul_comm b a]
theorem addV_isN (a b : Int) : isN (addV a b) = true := by
  unfold addV
  by_cases h : addB a b = true
  · rw [if_pos h]
    unfold addB at h
    simp only [Bool.and_eq_true] at h
    exact h.2
  · rw [if_neg h]; exact isN_zero
theorem mul_abs {a b : Int} (h : mulB a b = true) : isN a = true ∧ isN b = true ∧ isN (a * b) = true ∧ mulV a b = a * b := by
  have e : mulV a b = a * b := if_pos h
  unfold mulB at h
  simp only [Bool.and_eq_true, decide_eq_true_eq] at h
  obtain ⟨⟨h1, h2⟩, h3⟩ := h
  refine ⟨h1, h2, ?_, e⟩
  have := prod_bound' (sz_bound (isN_of h1)) (sz_bound (isN_of h2))
  rw [sz_mul] at h3 this
  refine isN_t ?_
  split at h3 <;> simp_all <;> omega
theorem mulV_isN (a b : Int) : isN (mulV a b) = true := by
  by_cases h : mulB a b = true
  · rw [(mul_abs h).2.2.2]; exact (mul_abs h).2.2.1
  · have : mulV a b = 0 := if_neg h
    rw [this]; exact isN_zero
theorem mul_of {a b : Int} (ha : isN a = true) (hb : isN b = true) (h : isN (a * b) = true) : mulB a b = true ∧ mulV a b = a * b := by
  have h1 : mulB a b = true := by
    unfold mulB
    rw [ha, hb, sz_mul]
    have := isN_of h
    have h0 := prod_bound' (sz_bound (isN_of ha)) (sz_bound (isN_of hb))
    rw [sz_mul] at h0
    simp only [Bool.and_self, Bool.true_and, decide_eq_true_eq]
    split <;> omega
  exact ⟨h1, if_pos h1⟩
theorem add_of {a b : Int} (h : addB a b = true) : isN a = true ∧ isN b = true ∧ isN (a + b) = true ∧ addV a b = a + b := by
  have e : addV a b = a + b := if_pos h
  unfold addB at h
  simp only [Bool.and_eq_true] at h
  exact ⟨h.1.1, h.1.2, h.2, e⟩
theorem add_flip (a b : Int) (w : World) : Calls Try.prog 14 #[.int .i64 b, .int .i64 a] w fun e w' => e = .returned (.tuple #[.int .i64 (addV a b), .bool (addB a b)]) ∧ w = w' := by
  rw [← addV_comm, ← addB_comm]; exact add_c b a w
theorem mul_flip (a b : Int) (w : World) : Calls Try.prog 10 #[.int .i64 b, .int .i64 a] w fun e w' => e = .returned (.tuple #[.int .i64 (mulV a b), .bool (mulB a b)]) ∧ w = w' := by
  rw [← mulV_comm, ← mulB_comm]; exact mul_c b a w
theorem bool_no {b : Bool} (h : ¬ b = true) : b = false := by cases b <;> simp_all
set_option maxHeartbeats 8000000 in
set_option maxRecDepth 100000 in
theorem walkNumRing (a b c : Int) (w : World) (_ : (Lit.int .i64 a).wf = true) (_ : (Lit.int .i64 b).wf = true) (_ : (Lit.int .i64 c).wf = true) :
    Calls Try.prog 5 #[.int .i64 a, .int .i64 b, .int .i64 c] w fun e w' => e = .returned (.bool true) ∧ Below w.heap.size w w' := by
  have s1 : (addV a b != addV a b) = false := by simp
  have s2 : (addB a b != addB a b) = false := by simp
  have s3 : (mulV a b != mulV a b) = false := by simp
  have s4 : (mulB a b != mulB a b) = false := by simp
  have n1 := addV_isN a b
  have n2 := mulV_isN a b
  by_cases hab : isN a = true ∧ isN b = true
  · obtain ⟨ha, hb⟩ := hab
    obtain ⟨o1, o2⟩ := mul_of (b := 1) ha (by decide) (by rw [Int.mul_one]; exact ha)
    rw [Int.mul_one] at o2
    have o3 : (a != a) = false := by simp
    by_cases hS : addB a b = true
    · obtain ⟨_, _, hs, ev⟩ := add_of hS
      have b1 : subB (addV a b) b = true := by unfold subB; rw [n1, hb, ev, show a + b - b = a by omega, ha]; rfl
      have b2 : subV (addV a b) b = a := by unfold subV; rw [if_pos b1, ev]; omega
      clear ev hs
      by_cases hF : mulB a b = true
      · by_cases hG : mulB a c = true
        · by_cases hR : addB (mulV a b) (mulV a c) = true
          · by_cases hV : addB b c = true
            · have c0 := add_of hR
              have c1 := add_of hV
              have c2 := mul_abs hF
              have c3 := mul_abs hG
              have e : a * addV b c = addV (mulV a b) (mulV a c) := by rw [c0.2.2.2, c1.2.2.2, c2.2.2.2, c3.2.2.2, Int.mul_add]
              obtain ⟨d1, d2⟩ := mul_of (a := a) (b := addV b c) ha (addV_isN b c) (by rw [e]; exact addV_isN _ _)
              rw [e] at d2
              have d3 : (addV (mulV a b) (mulV a c) == addV (mulV a b) (mulV a c)) = true := by simp
              clear c0 c1 c2 c3 e
              go_enter Try.func5, Try.ntmps5
              go_wp2_with (first | (go_at_call 14; (with_reducible refine (add_c a b _).mono ?_); rintro e w' ⟨rfl, rfl⟩) | (go_at_call 14; (with_reducible refine (add_flip a b _).mono ?_); rintro e w' ⟨rfl, rfl⟩) | (go_at_call 10; (with_reducible refine (mul_c a b _).mono ?_); rintro e w' ⟨rfl, rfl⟩) | (go_at_call 10; (with_reducible refine (mul_flip a b _).mono ?_); rintro e w' ⟨rfl, rfl⟩) | (go_at_call 15; (with_reducible refine (alive_c _).mono ?_); rintro e w' ⟨rfl, hB⟩; have HB := Lib.hid hB; clear hB) | (go_at_call 16; (with_reducible refine (number_c _ _).mono ?_); rintro e w' ⟨rfl, rfl⟩) | (go_at_call 17; (with_reducible refine (sub_c _ _ _).mono ?_); rintro e w' ⟨rfl, rfl⟩) | (go_at_call 10; (with_reducible refine (mul_c a 1 _).mono ?_); rintro e w' ⟨rfl, rfl⟩) | (go_at_call 10; (with_reducible refine (mul_c a c _).mono ?_); rintro e w' ⟨rfl, rfl⟩) | (go_at_call 14; (with_reducible refine (add_c (mulV a b) (mulV a c) _).mono ?_); rintro e w' ⟨rfl, rfl⟩) | (go_at_call 14; (with_reducible refine (add_c b c _).mono ?_); rintro e w' ⟨rfl, rfl⟩) | (go_at_call 10; (with_reducible refine (mul_c a (addV b c) _).mono ?_); rintro e w' ⟨rfl, rfl⟩))
              go_ret
              exact ⟨rfl, HB.out⟩
            · have hV := bool_no hV
              go_enter Try.func5, Try.ntmps5
              go_wp2_with (first | (go_at_call 14; (with_reducible refine (add_c a b _).mono ?_); rintro e w' ⟨rfl, rfl⟩) | (go_at_call 14; (with_reducible refine (add_flip a b _).mono ?_); rintro e w' ⟨rfl, rfl⟩) | (go_at_call 10; (with_reducible refine (mul_c a b _).mono ?_); rintro e w' ⟨rfl, rfl⟩) | (go_at_call 10; (with_reducible refine (mul_flip a b _).mono ?_); rintro e w' ⟨rfl, rfl⟩) | (go_at_call 15; (with_reducible refine (alive_c _).mono ?_); rintro e w' ⟨rfl, hB⟩; have HB := Lib.hid hB; clear hB) | (go_at_call 16; (with_reducible refine (number_c _ _).mono ?_); rintro e w' ⟨rfl, rfl⟩) | (go_at_call 17; (with_reducible refine (sub_c _ _ _).mono ?_); rintro e w' ⟨rfl, rfl⟩) | (go_at_call 10; (with_reducible refine (mul_c a 1 _).mono ?_); rintro e w' ⟨rfl, rfl⟩) | (go_at_call 10; (with_reducible refine (mul_c a c _).mono ?_); rintro e w' ⟨rfl, rfl⟩) | (go_at_call 14; (with_reducible refine (add_c (mulV a b) (mulV a c) _).mono ?_); rintro e w' ⟨rfl, rfl⟩) | (go_at_call 14; (with_reducible refine (add_c b c _).mono ?_); rintro e w' ⟨rfl, rfl⟩) | (go_at_call 10; (with_reducible refine (mul_c a (addV b c) _).mono ?_); rintro e w' ⟨rfl, rfl⟩))
              go_ret
              exact ⟨rfl, HB.out⟩
          · have hR := bool_no hR
            go_enter Try.func5, Try.ntmps5
            go_wp2_with (first | (go_at_call 14; (with_reducible refine (add_c a b _).mono ?_); rintro e w' ⟨rfl, rfl⟩) | (go_at_call 14; (with_reducible refine (add_flip a b _).mono ?_); rintro e w' ⟨rfl, rfl⟩) | (go_at_call 10; (with_reducible refine (mul_c a b _).mono ?_); rintro e w' ⟨rfl, rfl⟩) | (go_at_call 10; (with_reducible refine (mul_flip a b _).mono ?_); rintro e w' ⟨rfl, rfl⟩) | (go_at_call 15; (with_reducible refine (alive_c _).mono ?_); rintro e w' ⟨rfl, hB⟩; have HB := Lib.hid hB; clear hB) | (go_at_call 16; (with_reducible refine (number_c _ _).mono ?_); rintro e w' ⟨rfl, rfl⟩) | (go_at_call 17; (with_reducible refine (sub_c _ _ _).mono ?_); rintro e w' ⟨rfl, rfl⟩) | (go_at_call 10; (with_reducible refine (mul_c a 1 _).mono ?_); rintro e w' ⟨rfl, rfl⟩) | (go_at_call 10; (with_reducible refine (mul_c a c _).mono ?_); rintro e w' ⟨rfl, rfl⟩) | (go_at_call 14; (with_reducible refine (add_c (mulV a b) (mulV a c) _).mono ?_); rintro e w' ⟨rfl, rfl⟩) | (go_at_call 14; (with_reducible refine (add_c b c _).mono ?_); rintro e w' ⟨rfl, rfl⟩) | (go_at_call 10; (with_reducible refine (mul_c a (addV b c) _).mono ?_); rintro e w' ⟨rfl, rfl⟩))
            go_ret
            exact ⟨rfl, HB.out⟩
        · have hG := bool_no hG
          go_enter Try.func5, Try.ntmps5
          go_wp2_with (first | (go_at_call 14; (with_reducible refine (add_c a b _).mono ?_); rintro e w' ⟨rfl, rfl⟩) | (go_at_call 14; (with_reducible refine (add_flip a b _).mono ?_); rintro e w' ⟨rfl, rfl⟩) | (go_at_call 10; (with_reducible refine (mul_c a b _).mono ?_); rintro e w' ⟨rfl, rfl⟩) | (go_at_call 10; (with_reducible refine (mul_flip a b _).mono ?_); rintro e w' ⟨rfl, rfl⟩) | (go_at_call 15; (with_reducible refine (alive_c _).mono ?_); rintro e w' ⟨rfl, hB⟩; have HB := Lib.hid hB; clear hB) | (go_at_call 16; (with_reducible refine (number_c _ _).mono ?_); rintro e w' ⟨rfl, rfl⟩) | (go_at_call 17; (with_reducible refine (sub_c _ _ _).mono ?_); rintro e w' ⟨rfl, rfl⟩) | (go_at_call 10; (with_reducible refine (mul_c a 1 _).mono ?_); rintro e w' ⟨rfl, rfl⟩) | (go_at_call 10; (with_reducible refine (mul_c a c _).mono ?_); rintro e w' ⟨rfl, rfl⟩) | (go_at_call 14; (with_reducible refine (add_c (mulV a b) (mulV a c) _).mono ?_); rintro e w' ⟨rfl, rfl⟩) | (go_at_call 14; (with_reducible refine (add_c b c _).mono ?_); rintro e w' ⟨rfl, rfl⟩) | (go_at_call 10; (with_reducible refine (mul_c a (addV b c) _).mono ?_); rintro e w' ⟨rfl, rfl⟩))
          go_ret
          exact ⟨rfl, HB.out⟩
      · have hF := bool_no hF
        go_enter Try.func5, Try.ntmps5
        go_wp2_with (first | (go_at_call 14; (with_reducible refine (add_c a b _).mono ?_); rintro e w' ⟨rfl, rfl⟩) | (go_at_call 14; (with_reducible refine (add_flip a b _).mono ?_); rintro e w' ⟨rfl, rfl⟩) | (go_at_call 10; (with_reducible refine (mul_c a b _).mono ?_); rintro e w' ⟨rfl, rfl⟩) | (go_at_call 10; (with_reducible refine (mul_flip a b _).mono ?_); rintro e w' ⟨rfl, rfl⟩) | (go_at_call 15; (with_reducible refine (alive_c _).mono ?_); rintro e w' ⟨rfl, hB⟩; have HB := Lib.hid hB; clear hB) | (go_at_call 16; (with_reducible refine (number_c _ _).mono ?_); rintro e w' ⟨rfl, rfl⟩) | (go_at_call 17; (with_reducible refine (sub_c _ _ _).mono ?_); rintro e w' ⟨rfl, rfl⟩) | (go_at_call 10; (with_reducible refine (mul_c a 1 _).mono ?_); rintro e w' ⟨rfl, rfl⟩) | (go_at_call 10; (with_reducible refine (mul_c a c _).mono ?_); rintro e w' ⟨rfl, rfl⟩) | (go_at_call 14; (with_reducible refine (add_c (mulV a b) (mulV a c) _).mono ?_); rintro e w' ⟨rfl, rfl⟩) | (go_at_call 14; (with_reducible refine (add_c b c _).mono ?_); rintro e w' ⟨rfl, rfl⟩) | (go_at_call 10; (with_reducible refine (mul_c a (addV b c) _).mono ?_); rintro e w' ⟨rfl, rfl⟩))
        go_ret
        exact ⟨rfl, HB.out⟩
    · have hS := bool_no hS
      by_cases hF : mulB a b = true
      · by_cases hG : mulB a c = true
        · by_cases hR : addB (mulV a b) (mulV a c) = true
          · by_cases hV : addB b c = true
            · have c0 := add_of hR
              have c1 := add_of hV
              have c2 := mul_abs hF
              have c3 := mul_abs hG
              have e : a * addV b c = addV (mulV a b) (mulV a c) := by rw [c0.2.2.2, c1.2.2.2, c2.2.2.2, c3.2.2.2, Int.mul_add]
              obtain ⟨d1, d2⟩ := mul_of (a := a) (b := addV b c) ha (addV_isN b c) (by rw [e]; exact addV_isN _ _)
              rw [e] at d2
              have d3 : (addV (mulV a b) (mulV a c) == addV (mulV a b) (mulV a c)) = true := by simp
              clear c0 c1 c2 c3 e
              go_enter Try.func5, Try.ntmps5
              go_wp2_with (first | (go_at_call 14; (with_reducible refine (add_c a b _).mono ?_); rintro e w' ⟨rfl, rfl⟩) | (go_at_call 14; (with_reducible refine (add_flip a b _).mono ?_); rintro e w' ⟨rfl, rfl⟩) | (go_at_call 10; (with_reducible refine (mul_c a b _).mono ?_); rintro e w' ⟨rfl, rfl⟩) | (go_at_call 10; (with_reducible refine (mul_flip a b _).mono ?_); rintro e w' ⟨rfl, rfl⟩) | (go_at_call 15; (with_reducible refine (alive_c _).mono ?_); rintro e w' ⟨rfl, hB⟩; have HB := Lib.hid hB; clear hB) | (go_at_call 16; (with_reducible refine (number_c _ _).mono ?_); rintro e w' ⟨rfl, rfl⟩) | (go_at_call 17; (with_reducible refine (sub_c _ _ _).mono ?_); rintro e w' ⟨rfl, rfl⟩) | (go_at_call 10; (with_reducible refine (mul_c a 1 _).mono ?_); rintro e w' ⟨rfl, rfl⟩) | (go_at_call 10; (with_reducible refine (mul_c a c _).mono ?_); rintro e w' ⟨rfl, rfl⟩) | (go_at_call 14; (with_reducible refine (add_c (mulV a b) (mulV a c) _).mono ?_); rintro e w' ⟨rfl, rfl⟩) | (go_at_call 14; (with_reducible refine (add_c b c _).mono ?_); rintro e w' ⟨rfl, rfl⟩) | (go_at_call 10; (with_reducible refine (mul_c a (addV b c) _).mono ?_); rintro e w' ⟨rfl, rfl⟩))
              go_ret
              exact ⟨rfl, HB.out⟩
            · have hV := bool_no hV
              go_enter Try.func5, Try.ntmps5
              go_wp2_with (first | (go_at_call 14; (with_reducible refine (add_c a b _).mono ?_); rintro e w' ⟨rfl, rfl⟩) | (go_at_call 14; (with_reducible refine (add_flip a b _).mono ?_); rintro e w' ⟨rfl, rfl⟩) | (go_at_call 10; (with_reducible refine (mul_c a b _).mono ?_); rintro e w' ⟨rfl, rfl⟩) | (go_at_call 10; (with_reducible refine (mul_flip a b _).mono ?_); rintro e w' ⟨rfl, rfl⟩) | (go_at_call 15; (with_reducible refine (alive_c _).mono ?_); rintro e w' ⟨rfl, hB⟩; have HB := Lib.hid hB; clear hB) | (go_at_call 16; (with_reducible refine (number_c _ _).mono ?_); rintro e w' ⟨rfl, rfl⟩) | (go_at_call 17; (with_reducible refine (sub_c _ _ _).mono ?_); rintro e w' ⟨rfl, rfl⟩) | (go_at_call 10; (with_reducible refine (mul_c a 1 _).mono ?_); rintro e w' ⟨rfl, rfl⟩) | (go_at_call 10; (with_reducible refine (mul_c a c _).mono ?_); rintro e w' ⟨rfl, rfl⟩) | (go_at_call 14; (with_reducible refine (add_c (mulV a b) (mulV a c) _).mono ?_); rintro e w' ⟨rfl, rfl⟩) | (go_at_call 14; (with_reducible refine (add_c b c _).mono ?_); rintro e w' ⟨rfl, rfl⟩) | (go_at_call 10; (with_reducible refine (mul_c a (addV b c) _).mono ?_); rintro e w' ⟨rfl, rfl⟩))
              go_ret
              exact ⟨rfl, HB.out⟩
          · have hR := bool_no hR
            go_enter Try.func5, Try.ntmps5
            go_wp2_with (first | (go_at_call 14; (with_reducible refine (add_c a b _).mono ?_); rintro e w' ⟨rfl, rfl⟩) | (go_at_call 14; (with_reducible refine (add_flip a b _).mono ?_); rintro e w' ⟨rfl, rfl⟩) | (go_at_call 10; (with_reducible refine (mul_c a b _).mono ?_); rintro e w' ⟨rfl, rfl⟩) | (go_at_call 10; (with_reducible refine (mul_flip a b _).mono ?_); rintro e w' ⟨rfl, rfl⟩) | (go_at_call 15; (with_reducible refine (alive_c _).mono ?_); rintro e w' ⟨rfl, hB⟩; have HB := Lib.hid hB; clear hB) | (go_at_call 16; (with_reducible refine (number_c _ _).mono ?_); rintro e w' ⟨rfl, rfl⟩) | (go_at_call 17; (with_reducible refine (sub_c _ _ _).mono ?_); rintro e w' ⟨rfl, rfl⟩) | (go_at_call 10; (with_reducible refine (mul_c a 1 _).mono ?_); rintro e w' ⟨rfl, rfl⟩) | (go_at_call 10; (with_reducible refine (mul_c a c _).mono ?_); rintro e w' ⟨rfl, rfl⟩) | (go_at_call 14; (with_reducible refine (add_c (mulV a b) (mulV a c) _).mono ?_); rintro e w' ⟨rfl, rfl⟩) | (go_at_call 14; (with_reducible refine (add_c b c _).mono ?_); rintro e w' ⟨rfl, rfl⟩) | (go_at_call 10; (with_reducible refine (mul_c a (addV b c) _).mono ?_); rintro e w' ⟨rfl, rfl⟩))
            go_ret
            exact ⟨rfl, HB.out⟩
        · have hG := bool_no hG
          go_enter Try.func5, Try.ntmps5
          go_wp2_with (first | (go_at_call 14; (with_reducible refine (add_c a b _).mono ?_); rintro e w' ⟨rfl, rfl⟩) | (go_at_call 14; (with_reducible refine (add_flip a b _).mono ?_); rintro e w' ⟨rfl, rfl⟩) | (go_at_call 10; (with_reducible refine (mul_c a b _).mono ?_); rintro e w' ⟨rfl, rfl⟩) | (go_at_call 10; (with_reducible refine (mul_flip a b _).mono ?_); rintro e w' ⟨rfl, rfl⟩) | (go_at_call 15; (with_reducible refine (alive_c _).mono ?_); rintro e w' ⟨rfl, hB⟩; have HB := Lib.hid hB; clear hB) | (go_at_call 16; (with_reducible refine (number_c _ _).mono ?_); rintro e w' ⟨rfl, rfl⟩) | (go_at_call 17; (with_reducible refine (sub_c _ _ _).mono ?_); rintro e w' ⟨rfl, rfl⟩) | (go_at_call 10; (with_reducible refine (mul_c a 1 _).mono ?_); rintro e w' ⟨rfl, rfl⟩) | (go_at_call 10; (with_reducible refine (mul_c a c _).mono ?_); rintro e w' ⟨rfl, rfl⟩) | (go_at_call 14; (with_reducible refine (add_c (mulV a b) (mulV a c) _).mono ?_); rintro e w' ⟨rfl, rfl⟩) | (go_at_call 14; (with_reducible refine (add_c b c _).mono ?_); rintro e w' ⟨rfl, rfl⟩) | (go_at_call 10; (with_reducible refine (mul_c a (addV b c) _).mono ?_); rintro e w' ⟨rfl, rfl⟩))
          go_ret
          exact ⟨rfl, HB.out⟩
      · have hF := bool_no hF
        go_enter Try.func5, Try.ntmps5
        go_wp2_with (first | (go_at_call 14; (with_reducible refine (add_c a b _).mono ?_); rintro e w' ⟨rfl, rfl⟩) | (go_at_call 14; (with_reducible refine (add_flip a b _).mono ?_); rintro e w' ⟨rfl, rfl⟩) | (go_at_call 10; (with_reducible refine (mul_c a b _).mono ?_); rintro e w' ⟨rfl, rfl⟩) | (go_at_call 10; (with_reducible refine (mul_flip a b _).mono ?_); rintro e w' ⟨rfl, rfl⟩) | (go_at_call 15; (with_reducible refine (alive_c _).mono ?_); rintro e w' ⟨rfl, hB⟩; have HB := Lib.hid hB; clear hB) | (go_at_call 16; (with_reducible refine (number_c _ _).mono ?_); rintro e w' ⟨rfl, rfl⟩) | (go_at_call 17; (with_reducible refine (sub_c _ _ _).mono ?_); rintro e w' ⟨rfl, rfl⟩) | (go_at_call 10; (with_reducible refine (mul_c a 1 _).mono ?_); rintro e w' ⟨rfl, rfl⟩) | (go_at_call 10; (with_reducible refine (mul_c a c _).mono ?_); rintro e w' ⟨rfl, rfl⟩) | (go_at_call 14; (with_reducible refine (add_c (mulV a b) (mulV a c) _).mono ?_); rintro e w' ⟨rfl, rfl⟩) | (go_at_call 14; (with_reducible refine (add_c b c _).mono ?_); rintro e w' ⟨rfl, rfl⟩) | (go_at_call 10; (with_reducible refine (mul_c a (addV b c) _).mono ?_); rintro e w' ⟨rfl, rfl⟩))
        go_ret
        exact ⟨rfl, HB.out⟩
  · have hA : addB a b = false := bool_no fun h => hab ⟨(add_of h).1, (add_of h).2.1⟩
    have hM : mulB a b = false := bool_no fun h => hab ⟨(mul_abs h).1, (mul_abs h).2.1⟩
    have hA' : addV a b = 0 := if_neg (by rw [hA]; decide)
    have hM' : mulV a b = 0 := if_neg (by rw [hM]; decide)
    by_cases ha : isN a = true
    · have hb : isN b = false := bool_no fun h => hab ⟨ha, h⟩
      clear hab
      go_enter Try.func5, Try.ntmps5
      go_wp2_with (first | (go_at_call 14; (with_reducible refine (add_c a b _).mono ?_); rintro e w' ⟨rfl, rfl⟩) | (go_at_call 14; (with_reducible refine (add_flip a b _).mono ?_); rintro e w' ⟨rfl, rfl⟩) | (go_at_call 10; (with_reducible refine (mul_c a b _).mono ?_); rintro e w' ⟨rfl, rfl⟩) | (go_at_call 10; (with_reducible refine (mul_flip a b _).mono ?_); rintro e w' ⟨rfl, rfl⟩) | (go_at_call 15; (with_reducible refine (alive_c _).mono ?_); rintro e w' ⟨rfl, hB⟩; have HB := Lib.hid hB; clear hB) | (go_at_call 16; (with_reducible refine (number_c _ _).mono ?_); rintro e w' ⟨rfl, rfl⟩) | (go_at_call 17; (with_reducible refine (sub_c _ _ _).mono ?_); rintro e w' ⟨rfl, rfl⟩) | (go_at_call 10; (with_reducible refine (mul_c a 1 _).mono ?_); rintro e w' ⟨rfl, rfl⟩) | (go_at_call 10; (with_reducible refine (mul_c a c _).mono ?_); rintro e w' ⟨rfl, rfl⟩) | (go_at_call 14; (with_reducible refine (add_c (mulV a b) (mulV a c) _).mono ?_); rintro e w' ⟨rfl, rfl⟩) | (go_at_call 14; (with_reducible refine (add_c b c _).mono ?_); rintro e w' ⟨rfl, rfl⟩) | (go_at_call 10; (with_reducible refine (mul_c a (addV b c) _).mono ?_); rintro e w' ⟨rfl, rfl⟩))
      go_ret
      exact ⟨rfl, HB.out⟩
    · have ha' := bool_no ha
      clear ha hab
      go_enter Try.func5, Try.ntmps5
      go_wp2_with (first | (go_at_call 14; (with_reducible refine (add_c a b _).mono ?_); rintro e w' ⟨rfl, rfl⟩) | (go_at_call 14; (with_reducible refine (add_flip a b _).mono ?_); rintro e w' ⟨rfl, rfl⟩) | (go_at_call 10; (with_reducible refine (mul_c a b _).mono ?_); rintro e w' ⟨rfl, rfl⟩) | (go_at_call 10; (with_reducible refine (mul_flip a b _).mono ?_); rintro e w' ⟨rfl, rfl⟩) | (go_at_call 15; (with_reducible refine (alive_c _).mono ?_); rintro e w' ⟨rfl, hB⟩; have HB := Lib.hid hB; clear hB) | (go_at_call 16; (with_reducible refine (number_c _ _).mono ?_); rintro e w' ⟨rfl, rfl⟩) | (go_at_call 17; (with_reducible refine (sub_c _ _ _).mono ?_); rintro e w' ⟨rfl, rfl⟩) | (go_at_call 10; (with_reducible refine (mul_c a 1 _).mono ?_); rintro e w' ⟨rfl, rfl⟩) | (go_at_call 10; (with_reducible refine (mul_c a c _).mono ?_); rintro e w' ⟨rfl, rfl⟩) | (go_at_call 14; (with_reducible refine (add_c (mulV a b) (mulV a c) _).mono ?_); rintro e w' ⟨rfl, rfl⟩) | (go_at_call 14; (with_reducible refine (add_c b c _).mono ?_); rintro e w' ⟨rfl, rfl⟩) | (go_at_call 10; (with_reducible refine (mul_c a (addV b c) _).mono ?_); rintro e w' ⟨rfl, rfl⟩))
      go_ret
      exact ⟨rfl, HB.out⟩
end Go.Proofs.Ytdfjbghmeoephab.Ring
