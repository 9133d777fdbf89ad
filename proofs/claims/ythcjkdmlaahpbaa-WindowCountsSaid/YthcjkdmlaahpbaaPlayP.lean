/- Plain law: what the program keeps of what was added, beside all that was added. -/
import Derived.Test.YthcjkdmlaahpbaaRefW
namespace Go.Proofs.Ythcjkdmlaahpbaa.Win
open Go.RowKit Go.Proofs.Ythcjkdmlaahpbaa.Aid Go.Proofs.Ythcjkdmlaahpbaa.Mem Go.Proofs.Ythcjkdmlaahpbaa.Keep Go.Proofs.Ythcjkdmlaahpbaa.Nums
set_option linter.unusedVariables false
theorem sumA_cons (p : Int × Int) (l : List (Int × Int)) : sumA (p :: l) = p.2 + sumA l := by simp [sumA, tot]
theorem gt_all (x : Int) : ∀ l : List (Int × Int), (∀ q ∈ l, x < q.1) → gt x l = sumA l
  | [], _ => rfl
  | p :: l, h => by
    rw [gt, if_pos (h p (List.mem_cons_self ..)), sumA_cons, gt_all x l (fun q hq => h q (List.mem_cons_of_mem _ hq))]
theorem gt_le (x : Int) : ∀ l : List (Int × Int), (∀ p ∈ l, 0 ≤ p.2) → gt x l ≤ sumA l
  | [], _ => Int.le_refl _
  | p :: l, h => by
    have h1 := gt_le x l (fun q hq => h q (List.mem_cons_of_mem _ hq))
    have h2 := h p (List.mem_cons_self ..)
    rw [gt, sumA_cons]
    split <;> omega
theorem drop_gt (x : Int) : ∀ l : List (Int × Int), l.Pairwise (fun p q => p.1 ≤ q.1) → sumA (l.drop (lead x l)) = gt x l
  | [], _ => rfl
  | p :: l, h => by
    obtain ⟨h1, h2⟩ := List.pairwise_cons.1 h
    unfold lead
    by_cases hp : p.1 ≤ x
    · rw [if_pos hp, List.drop_succ_cons, drop_gt x l h2, gt, if_neg (by omega)]
      omega
    · rw [if_neg hp, List.drop_zero, gt_all x (p :: l) (fun q hq => ?_)]
      rcases List.mem_cons.1 hq with rfl | hq
      · omega
      · have := h1 q hq; omega
theorem drop_gt2 (x y : Int) (hxy : x ≤ y) : ∀ l : List (Int × Int), gt y (l.drop (lead x l)) = gt y l
  | [] => rfl
  | p :: l => by
    unfold lead
    by_cases hp : p.1 ≤ x
    · rw [if_pos hp, List.drop_succ_cons, drop_gt2 x y hxy l, gt, if_neg (by omega)]
      omega
    · rw [if_neg hp, List.drop_zero]
/-- What push makes. -/
theorem push_cases (l : List (Int × Int)) (t n : Int) : push l t n = l ++ [(t, n)] ∨ ∃ l0 m, l = l0 ++ [(t, m)] ∧ push l t n = l0 ++ [(t, m + n)] := by
  rcases List.eq_nil_or_concat l with rfl | ⟨l0, ⟨t', m⟩, e⟩
  · exact .inl rfl
  · rw [List.concat_eq_append] at e
    subst e
    by_cases ht : t' = t
    · subst ht
      exact .inr ⟨l0, m, rfl, push_same l0 t' m n⟩
    · exact .inl (push_other l0 t' t m n ht)
theorem gt_one (y t n : Int) : gt y [(t, n)] = if y < t then n else 0 := by simp [gt]
theorem push_gt (y t n : Int) (l : List (Int × Int)) : gt y (push l t n) = gt y (l ++ [(t, n)]) := by
  rcases push_cases l t n with h | ⟨l0, m, rfl, h⟩
  · rw [h]
  · rw [h, gt_app, gt_app, gt_app, gt_one, gt_one, gt_one]
    split <;> omega
theorem push_mem {l : List (Int × Int)} {t n : Int} {p : Int × Int} (h : p ∈ push l t n) : p ∈ l ∨ p.1 = t ∧ (p.2 = n ∨ ∃ m, (t, m) ∈ l ∧ p.2 = m + n) := by
  rcases push_cases l t n with e | ⟨l0, m, rfl, e⟩ <;> rw [e] at h <;> rcases List.mem_append.1 h with h | h
  · exact .inl h
  · rw [List.mem_singleton] at h
    subst h
    exact .inr ⟨rfl, .inl rfl⟩
  · exact .inl (List.mem_append_left _ h)
  · rw [List.mem_singleton] at h
    subst h
    exact .inr ⟨rfl, .inr ⟨m, by simp, rfl⟩⟩
theorem push_len (l : List (Int × Int)) (t n : Int) : (push l t n).length ≤ l.length + 1 := by
  rcases push_cases l t n with e | ⟨l0, m, rfl, e⟩ <;> rw [e] <;> simp
theorem push_srt {l : List (Int × Int)} {t n : Int} (h : l.Pairwise (fun p q => p.1 ≤ q.1)) (hl : ∀ p ∈ l, p.1 ≤ t) : (push l t n).Pairwise (fun p q => p.1 ≤ q.1) := by
  rcases push_cases l t n with e | ⟨l0, m, rfl, e⟩ <;> rw [e]
  · rw [List.pairwise_append]
    refine ⟨h, List.pairwise_singleton _ _, fun a ha b hb => ?_⟩
    rw [List.mem_singleton] at hb
    subst hb
    exact hl a ha
  · rw [List.pairwise_append] at h ⊢
    refine ⟨h.1, List.pairwise_singleton _ _, fun a ha b hb => ?_⟩
    rw [List.mem_singleton] at hb
    subst hb
    exact hl a (List.mem_append_left _ ha)
/-- What the program keeps, and all that was added. -/
structure Rel (wd ck sm : Int) (l All : List (Int × Int)) : Prop where
  lok : Lok l
  sum : sm = sumA l
  srt : l.Pairwise (fun p q => p.1 ≤ q.1)
  le : ∀ p ∈ l, p.1 ≤ ck
  all : ∀ p ∈ All, 0 ≤ p.1 ∧ p.1 ≤ ck ∧ 0 ≤ p.2
  eq : ∀ x, ck - wd ≤ x → gt x l = gt x All
  len : l.length ≤ All.length
theorem Rel.nil (wd : Int) : Rel wd 0 0 [] [] := ⟨⟨by simp, by simp, by decide⟩, rfl, List.Pairwise.nil, by simp, by simp, fun _ _ => rfl, Nat.le_refl _⟩
section
variable {wd ck sm t n : Int} {l All : List (Int × Int)}
theorem Rel.now (h : Rel wd ck sm l All) (ht : ck ≤ t) : sumA (l.drop (lead (t - wd) l)) = gt (t - wd) All := by
  rw [drop_gt _ l h.srt, h.eq _ (by omega)]
theorem Rel.bound (h : Rel wd ck sm l All) (ht : ck ≤ t) : 0 ≤ gt (t - wd) All ∧ gt (t - wd) All ≤ 4611686018427387903 := by
  have h1 := gt_le (t - wd) l h.lok.n
  have h2 := h.lok.sum
  have h3 := h.eq (t - wd) (by omega)
  have h4 := gt_nn (t - wd) l h.lok.n
  omega
theorem Rel.rask (h : Rel wd ck sm l All) (ht : ck ≤ t) (t0 : 0 ≤ t) (t1 : t ≤ 1099511627776) (w0 : 0 < wd) (w1 : wd ≤ 1048576) (hl : All.length ≤ 4294967296) : RAsk All wd t :=
  ⟨fun p hp => by have := h.all p hp; omega, (h.bound ht).2, hl, t0, t1, w0, w1⟩
theorem Rel.asked (h : Rel wd ck sm l All) (ht : ck ≤ t) : Rel wd t (sumA (l.drop (lead (t - wd) l))) (l.drop (lead (t - wd) l)) All := by
  have mem : ∀ p ∈ l.drop (lead (t - wd) l), p ∈ l := fun p hp => List.mem_of_mem_drop hp
  have hb := h.bound ht
  refine ⟨⟨fun p hp => h.lok.tick p (mem p hp), fun p hp => h.lok.n p (mem p hp), by rw [h.now ht]; exact hb.2⟩, rfl, h.srt.sublist (List.drop_sublist _ _), fun p hp => by have := h.le p (mem p hp); omega, fun p hp => by have := h.all p hp; omega, fun x hx => ?_, ?_⟩
  · rw [drop_gt2 _ x hx l, h.eq x (by omega)]
  · have := h.len
    rw [List.length_drop]
    omega
theorem Rel.added (h : Rel wd ck sm l All) (ht : ck ≤ t) (t0 : 0 ≤ t) (t1 : t ≤ 1099511627776) (n0 : 0 ≤ n) (hf : sumA (l.drop (lead (t - wd) l)) + n ≤ 4611686018427387903) : Rel wd t (sumA (l.drop (lead (t - wd) l)) + n) (push (l.drop (lead (t - wd) l)) t n) (All ++ [(t, n)]) := by
  have k := h.asked ht
  generalize l.drop (lead (t - wd) l) = l2 at *
  refine ⟨⟨fun p hp => ?_, fun p hp => ?_, by rw [push_sum]; exact hf⟩, by rw [push_sum], push_srt k.srt k.le, fun p hp => ?_, fun p hp => ?_, fun x hx => ?_, ?_⟩
  · rcases push_mem hp with hp | ⟨e, _⟩
    · exact k.lok.tick p hp
    · rw [e]; exact ⟨t0, t1⟩
  · rcases push_mem hp with hp | ⟨_, e | ⟨m, hm, e⟩⟩
    · exact k.lok.n p hp
    · rw [e]; exact n0
    · have := k.lok.n _ hm
      dsimp only at this
      omega
  · rcases push_mem hp with hp | ⟨e, _⟩
    · exact k.le p hp
    · omega
  · rcases List.mem_append.1 hp with hp | hp
    · exact k.all p hp
    · rw [List.mem_singleton] at hp
      subst hp
      exact ⟨t0, Int.le_refl _, n0⟩
  · rw [push_gt, gt_app, gt_app, k.eq x hx]
  · have := push_len l2 t n
    have := k.len
    rw [List.length_append, List.length_singleton]
    omega
end
end Go.Proofs.Ythcjkdmlaahpbaa.Win
