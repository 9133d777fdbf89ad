/- WeighWeights: both Weights answer alike. -/
import Derived.Test.YtkpdomnmlinomabGreatWeight
namespace Go.Proofs.YtkpdomnmlinomabGreat.Weights
open Go.RowKit Go.Proofs.YtkpdomnmlinomabGreat.Aid Go.Proofs.YtkpdomnmlinomabGreat.Mem Go.Proofs.YtkpdomnmlinomabGreat.Types Go.Proofs.YtkpdomnmlinomabGreat.Mays Go.Proofs.YtkpdomnmlinomabGreat.Keep Go.Proofs.YtkpdomnmlinomabGreat.Nums Go.Proofs.YtkpdomnmlinomabGreat.Sums Go.Proofs.YtkpdomnmlinomabGreat.Weight
set_option linter.unusedSimpArgs false
set_option linter.unusedVariables false
theorem checkErr_or (c : Cfg) (r : Req) : checkErr c r = 0 ∨ checkErr c r = 1 ∨ checkErr c r = 160 := by
  unfold checkErr
  split
  · rcases reqErr_or c r with h | h <;> omega
  · omega
theorem checkErr_ok {c : Cfg} {r : Req} (h : checkErr c r = 0) : (1 ≤ c.b ∧ c.b ≤ 1048576) ∧ c.ttl ≤ 1048576 ∧ (0 ≤ r.base ∧ r.base ≤ c.b) ∧ r.ttl ≤ c.ttl := by
  unfold checkErr at h
  split at h
  · next h1 =>
    unfold cfgErr at h1
    split at h1
    · next h2 =>
      unfold reqErr at h
      split at h
      · next h3 => omega
      · omega
    · omega
  · omega
/-- The weight, and the error. -/
def wV (c : Cfg) (now : Int) (x : Wai) : Int := if checkErr c (rq x) = 0 ∧ (0 ≤ now ∧ now ≤ 1099511627776 ∧ 0 ≤ x.since ∧ x.since ≤ 1099511627776 ∧ x.since ≤ now) ∧ now - x.since ≤ x.ttl then (now - x.since) * (c.b + 1) + x.base + 1 else 0
def wE (c : Cfg) (now : Int) (x : Wai) : Int := if checkErr c (rq x) = 0 then (if 0 ≤ now ∧ now ≤ 1099511627776 ∧ 0 ≤ x.since ∧ x.since ≤ 1099511627776 ∧ x.since ≤ now then (if now - x.since ≤ x.ttl then 0 else 131) else 1) else checkErr c (rq x)
theorem sz_pos {a : Int} (h : 0 ≤ a) : sz a = a := if_neg (by omega)
theorem mul_good {a b : Int} (ha : 0 ≤ a ∧ a ≤ 4611686018427387903) (hb : 0 ≤ b ∧ b ≤ 4611686018427387903) (h : a * b ≤ 4611686018427387903) : mulB a b = true ∧ mulV a b = a * b := by
  have h1 : mulB a b = true := by unfold mulB; rw [isN_t (by omega), isN_t (by omega), sz_pos ha.1, sz_pos hb.1]; simpa using h
  exact ⟨h1, if_pos h1⟩
theorem sum_good {x y z : Int} (hx : 0 ≤ x ∧ x ≤ 1152921504606846976) (hy : 0 ≤ y ∧ y ≤ 1152921504606846976) (hz : 0 ≤ z ∧ z ≤ 1152921504606846976) : sumB [x, y, z] = true ∧ sumV [x, y, z] = x + y + z := by
  have ht : tot [x, y, z] = x + y + z := by simp [tot] <;> omega
  have h1 : sumB [x, y, z] = true := by
    unfold sumB
    rw [ht, isN_t (by omega)]
    simp [isN_t (show -4611686018427387903 ≤ x ∧ x ≤ 4611686018427387903 by omega), isN_t (show -4611686018427387903 ≤ y ∧ y ≤ 4611686018427387903 by omega), isN_t (show -4611686018427387903 ≤ z ∧ z ≤ 4611686018427387903 by omega)]
  exact ⟨h1, by unfold sumV; rw [if_pos h1, ht]⟩
theorem age_bound {a t b : Int} (h0 : 0 ≤ a) (h1 : a ≤ t) (h2 : t ≤ 1048576) (b0 : 0 ≤ b) (b1 : b ≤ 1048576) : 0 ≤ a * (b + 1) ∧ a * (b + 1) ≤ 1099512676352 := by
  refine ⟨Int.mul_nonneg h0 (by omega), ?_⟩
  have : a * (b + 1) ≤ 1048576 * 1048577 := Int.mul_le_mul (by omega) (by omega) (by omega) (by decide)
  omega
theorem ret2' {V E V' E' : Int} {w : World} (h1 : V = V') (h2 : E = E') {p : World → Prop} {e : Ending} (h : e = .returned (.tuple #[.int .i64 V, .int .i64 E]) ∧ p w) : e = .returned (.tuple #[.int .i64 V', .int .i64 E']) ∧ p w := by rw [← h1, ← h2]; exact h
theorem w_c (c : Cfg) (now : Int) (x : Wai) (w : World) (hx : x.wf) : Calls Tryz.prog 23 #[c.val, .int .i64 now, x.val] w fun e w' => e = .returned (.tuple #[.int .i64 (wV c now x), .int .i64 (wE c now x)]) ∧ Below w.heap.size w w' := by
  obtain ⟨s0, _⟩ := bounds_u8 hx.seats
  obtain ⟨c0, _⟩ := bounds_u8 hx.classes
  rcases checkErr_or c (rq x) with h | h | h
  · have hc := Lib.hid h
    obtain ⟨⟨b0, b1⟩, t1, ⟨k0, k1⟩, t2⟩ := checkErr_ok h
    replace k0 : 0 ≤ x.base := k0
    replace k1 : x.base ≤ c.b := k1
    replace t2 : x.ttl ≤ c.ttl := t2
    by_cases ht : 0 ≤ now ∧ now ≤ 1099511627776 ∧ 0 ≤ x.since ∧ x.since ≤ 1099511627776 ∧ x.since ≤ now
    · have ht' := ht
      obtain ⟨h0, h1, h2, h3, h4⟩ := ht
      by_cases hg : now - x.since ≤ x.ttl
      · obtain ⟨p0, p1⟩ := age_bound (a := now - x.since) (t := x.ttl) (b := c.b) (by omega) hg (by omega) (by omega) b1
        exact (w_ok c now x w s0 c0 hc h0 h1 h2 h4 hg (by omega) b1 k0 (by omega) p0 p1 (Lib.hid (mul_good (by omega) (by omega) (by omega))) (Lib.hid (sum_good (by omega) (by omega) (by omega)))).mono fun e w' k => ret2' (by unfold wV; rw [if_pos ⟨h, ht', hg⟩]) (by unfold wE; rw [if_pos h, if_pos ht', if_pos hg]) k
      · exact (w_gone c now x w s0 c0 hc h0 h1 h2 h4 (by omega)).mono fun e w' k => ret2' (by unfold wV; rw [if_neg (fun z => hg z.2.2)]) (by unfold wE; rw [if_pos h, if_pos ht', if_neg hg]) k
    · have v0 : 0 = wV c now x := by unfold wV; rw [if_neg (fun z => ht z.2.1)]
      have e0 : 1 = wE c now x := by unfold wE; rw [if_pos h, if_neg ht]
      by_cases h0 : now < 0
      · exact (w_a0 c now x w s0 c0 hc h0).mono fun e w' k => ret2' v0 e0 k
      by_cases h1 : 1099511627776 < now
      · exact (w_a1 c now x w s0 c0 hc (by omega) h1).mono fun e w' k => ret2' v0 e0 k
      by_cases h2 : x.since < 0
      · exact (w_a2 c now x w s0 c0 hc (by omega) (by omega) h2).mono fun e w' k => ret2' v0 e0 k
      by_cases h3 : 1099511627776 < x.since
      · exact (w_a3 c now x w s0 c0 hc (by omega) (by omega) (by omega) h3).mono fun e w' k => ret2' v0 e0 k
      exact (w_a4 c now x w s0 c0 hc (by omega) (by omega) (by omega) (by omega) (by omega)).mono fun e w' k => ret2' v0 e0 k
  · exact (w_e1 c now x w s0 c0 (Lib.hid h)).mono fun e w' k => ret2' (by unfold wV; rw [if_neg (fun z => by omega)]) (by unfold wE; rw [if_neg (by omega), h]) k
  · exact (w_e160 c now x w s0 c0 (Lib.hid h)).mono fun e w' k => ret2' (by unfold wV; rw [if_neg (fun z => by omega)]) (by unfold wE; rw [if_neg (by omega), h]) k
theorem r_c (c : Cfg) (now : Int) (x : Wai) (w : World) (hx : x.wf) : Calls Tryz.prog 18 #[c.val, .int .i64 now, x.val] w fun e w' => e = .returned (.tuple #[.int .i64 (wV c now x), .int .i64 (wE c now x)]) ∧ Below w.heap.size w w' := by
  obtain ⟨s0, _⟩ := bounds_u8 hx.seats
  obtain ⟨c0, _⟩ := bounds_u8 hx.classes
  rcases checkErr_or c (rq x) with h | h | h
  · have hc := Lib.hid h
    obtain ⟨⟨b0, b1⟩, t1, ⟨k0, k1⟩, t2⟩ := checkErr_ok h
    replace k0 : 0 ≤ x.base := k0
    replace k1 : x.base ≤ c.b := k1
    replace t2 : x.ttl ≤ c.ttl := t2
    by_cases ht : 0 ≤ now ∧ now ≤ 1099511627776 ∧ 0 ≤ x.since ∧ x.since ≤ 1099511627776 ∧ x.since ≤ now
    · have ht' := ht
      obtain ⟨h0, h1, h2, h3, h4⟩ := ht
      by_cases hg : now - x.since ≤ x.ttl
      · obtain ⟨p0, p1⟩ := age_bound (a := now - x.since) (t := x.ttl) (b := c.b) (by omega) hg (by omega) (by omega) b1
        exact (r_ok c now x w s0 c0 hc h0 h1 h2 h4 hg (by omega) b1 k0 (by omega) p0 p1).mono fun e w' k => ret2' (by unfold wV; rw [if_pos ⟨h, ht', hg⟩]) (by unfold wE; rw [if_pos h, if_pos ht', if_pos hg]) k
      · exact (r_gone c now x w s0 c0 hc h0 h1 h2 h4 (by omega)).mono fun e w' k => ret2' (by unfold wV; rw [if_neg (fun z => hg z.2.2)]) (by unfold wE; rw [if_pos h, if_pos ht', if_neg hg]) k
    · have v0 : 0 = wV c now x := by unfold wV; rw [if_neg (fun z => ht z.2.1)]
      have e0 : 1 = wE c now x := by unfold wE; rw [if_pos h, if_neg ht]
      by_cases h0 : now < 0
      · exact (r_a0 c now x w s0 c0 hc h0).mono fun e w' k => ret2' v0 e0 k
      by_cases h1 : 1099511627776 < now
      · exact (r_a1 c now x w s0 c0 hc (by omega) h1).mono fun e w' k => ret2' v0 e0 k
      by_cases h2 : x.since < 0
      · exact (r_a2 c now x w s0 c0 hc (by omega) (by omega) h2).mono fun e w' k => ret2' v0 e0 k
      by_cases h3 : 1099511627776 < x.since
      · exact (r_a3 c now x w s0 c0 hc (by omega) (by omega) (by omega) h3).mono fun e w' k => ret2' v0 e0 k
      exact (r_a4 c now x w s0 c0 hc (by omega) (by omega) (by omega) (by omega) (by omega)).mono fun e w' k => ret2' v0 e0 k
  · exact (r_e1 c now x w s0 c0 (Lib.hid h)).mono fun e w' k => ret2' (by unfold wV; rw [if_neg (fun z => by omega)]) (by unfold wE; rw [if_neg (by omega), h]) k
  · exact (r_e160 c now x w s0 c0 (Lib.hid h)).mono fun e w' k => ret2' (by unfold wV; rw [if_neg (fun z => by omega)]) (by unfold wE; rw [if_neg (by omega), h]) k
theorem lx (c : Cfg) (x : Wai) (w : World) : (LA 78 (.pointer (some ⟨w.heap.size + 1, 0, none⟩))).run Tryz.prog ((w.alloc (.cells (ca c) 23)).alloc (.cells (xa x) 78)) = .ok (.agg (xa x)) ((w.alloc (.cells (ca c) 23)).alloc (.cells (xa x) 78)) :=
  loads_box Tryz.underlying78 rfl (by show _ = some 18; kernel_rfl) (start2 (ca c) (xa x) _ _ 0 _ rfl).2.1
theorem load_wai (v : Value) : Instr.loadAt 78 v = LA 78 v := rfl
attribute [local go_sem ↓] Keep.load_cfg load_wai
end Go.Proofs.YtkpdomnmlinomabGreat.Weights
