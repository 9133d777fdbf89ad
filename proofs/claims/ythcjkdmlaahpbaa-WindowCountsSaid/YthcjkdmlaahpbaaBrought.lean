/- WindowCounts: brought makes a list of ticks that rise, and amounts. -/
import Derived.Test.YthcjkdmlaahpbaaPlays0
import Derived.Test.YthcjkdmlaahpbaaTypes2
namespace Go.Proofs.Ythcjkdmlaahpbaa.Win
open Go.RowKit Go.Proofs.Ythcjkdmlaahpbaa.Aid Go.Proofs.Ythcjkdmlaahpbaa.Mem Go.Proofs.Ythcjkdmlaahpbaa.Keep Go.Proofs.Ythcjkdmlaahpbaa.Nums Go.Proofs.Ythcjkdmlaahpbaa.Types Go.Proofs.Ythcjkdmlaahpbaa.Recs
set_option linter.unusedSimpArgs false
set_option linter.unusedVariables false
set_option maxRecDepth 100000
theorem infoS : (Try.prog.info? 66).map (fun i => (i.zero, i.size, i.bytes)) = some (some (.agg #[.int .i64 0, .int .i64 0]), 2, 16) := by kernel_rfl
theorem app_stp {W : World} {B G : Nat} {v : Value} {l : List (Int × Int)} {n2 : Nat} (hG : W.heap.size = G) (hO : Own W B 66 2 v n2 (cellsA l)) (hB : B ≤ W.heap.size) (hn : n2 ≤ 4294967296) (t n : Int) :
    ∃ A7 c7 w7, (AP #[63, 63] 63 #[v, .slice (some ⟨G, 0, none⟩) 1 1]).run Try.prog (W.alloc (.cells #[.int .i64 t, .int .i64 n] 66)) = .ok (.slice A7 (n2 + 1) c7) w7 ∧
      Own w7 B 66 2 (.slice A7 (n2 + 1) c7) (n2 + 1) (cellsA (l ++ [(t, n)])) ∧ Below B W w7 := by
  subst hG
  obtain ⟨i0, hi, hzz⟩ := Option.map_eq_some_iff.1 infoS
  simp only [Prod.mk.injEq] at hzz
  obtain ⟨hz0, hz1, hz2⟩ := hzz
  have hnew := Blk.new W 66 [.int .i64 t, .int .i64 n]
  obtain ⟨v', w', hr, h2, h3, _, h5⟩ := run_append_own_at (P := Try.prog) (W.alloc (.cells #[.int .i64 t, .int .i64 n] 66)) B 63 63 66 i0 _ 2 16 Try.underlying63 hi hz0 hz1 hz2 rfl (by decide) v n2 (cellsA l) (World.ownsRow.alloc hO _) ⟨W.heap.size, 0, none⟩ 1 1 [.int .i64 t, .int .i64 n] rfl (fun j u hu => by rw [add_at]; exact hnew.cellv hu) (by intro u hu; simp only [List.mem_cons, List.not_mem_nil, or_false] at hu; rcases hu with rfl | rfl <;> rfl) (by unfold maxLen; omega) (by omega) (by rw [size_alloc]; omega)
  have h2' : Own w' B 66 2 v' (n2 + 1) (cellsA (l ++ [(t, n)])) := by
    rw [show cellsA (l ++ [(t, n)]) = cellsA l ++ [.int .i64 t, .int .i64 n] by unfold cellsA; rw [List.flatMap_append]; rfl]
    exact h2
  obtain ⟨A7, c7, rfl, _, _⟩ := h2'.form
  exact ⟨A7, c7, w', hr, h2', ((Below.refl B W).alloc hB _).grown h3 (by rw [size_alloc]; omega) (fun k hk => (World.ownsRow.lt hO k hk).1)⟩
/-- What a list of steps is that brought makes. -/
structure Bro (L : List (Int × Int)) (k : Nat) (t : Int) : Prop where
  len : L.length = k
  k2 : k ≤ 200
  srt : L.Pairwise (fun p q => p.1 ≤ q.1)
  el : ∀ p ∈ L, 0 ≤ p.1 ∧ p.1 ≤ t ∧ 0 ≤ p.2 ∧ p.2 < 1125899906842624
  t0 : 0 ≤ t
  t1 : t ≤ 4095 * k
theorem Bro.more {L : List (Int × Int)} {k : Nat} {t on n : Int} (h : Bro L k t) (hk : k < 200) (o0 : 0 ≤ on) (o1 : on ≤ 4095) (n0 : 0 ≤ n) (n1 : n < 1125899906842624) : Bro (L ++ [(t + on, n)]) (k + 1) (t + on) where
  len := by rw [List.length_append, h.len]; rfl
  k2 := hk
  srt := by
    rw [List.pairwise_append]
    refine ⟨h.srt, List.pairwise_singleton _ _, fun a ha b hb => ?_⟩
    rw [List.mem_singleton] at hb
    subst hb
    have := h.el a ha
    dsimp only
    omega
  el := fun p hp => by
    rcases List.mem_append.1 hp with hp | hp
    · have := h.el p hp; omega
    · rw [List.mem_singleton] at hp
      subst hp
      have := h.t0
      dsimp only
      omega
  t0 := by have := h.t0; omega
  t1 := by have := h.t1; omega
theorem rem_in (x m : Int) (hm : 0 < m) : -m < x.tmod m ∧ x.tmod m < m := by
  have h1 := Int.tmod_lt_of_pos x hm
  have h3 := Int.tmod_lt_of_pos (-x) hm
  rw [Int.neg_tmod] at h3
  omega
theorem add_off (ad : Addr) (j : Nat) : ad.add (j + 1) = ⟨(ad.add j).block, (ad.add j).off + 1, none⟩ := by
  unfold Addr.add
  rw [if_neg (by omega)]
  by_cases h : j = 0
  · subst h; rfl
  · rw [if_neg h]; rfl
theorem at_stp {w : World} {A : Option Addr} {n : Nat} {xs : List Stp} (h : Recs w 2 A n (xs.map Stp.list)) {j : Nat} (hj : j < n) : ∃ ad x, A = some ad ∧ xs[j]? = some x ∧ w.cell? (ad.add (j * 2)) = some (.int .i64 x.on) ∧ w.cell? ⟨(ad.add (j * 2)).block, (ad.add (j * 2)).off + 1, none⟩ = some (.int .i64 x.n) := by
  obtain ⟨ad, l, rfl, hl, hc, hcell⟩ := h.at_ hj
  rw [List.getElem?_map] at hl
  obtain ⟨x, hx, rfl⟩ := Option.map_eq_some_iff.1 hl
  exact ⟨ad, x, rfl, hx, hcell 0 _ rfl, by rw [← add_off]; exact hcell 1 _ rfl⟩
attribute [local go_sem ↓] ap_eq
set_option maxHeartbeats 4000000 in
theorem brought_c (xs : List Stp) (A : Option Addr) (n c : Nat) (w : World) (h : Recs w 2 A n (xs.map Stp.list)) (hn : n ≤ 140737488351232) :
    Calls Try.prog 28 #[.slice A n c] w fun e w' => ∃ v L t, e = .returned v ∧ Own w' w.heap.size 66 2 v L.length (cellsA L) ∧ Bro L L.length t ∧ Below w.heap.size w w' := by
  have H := Lib.hid h
  clear h
  go_enter Try.func28, Try.ntmps28
  go_wp2
  go_loopw [3, 4, 5] (fun v t i wr => ∃ (k : Nat) (T : Int) (L : List (Int × Int)) (V : Value), k ≤ n ∧ i = .int .i64 k ∧ t = .int .i64 T ∧ V = v ∧ Own wr w.heap.size 66 2 V k (cellsA L) ∧ Hid (Bro L k T) ∧ Below w.heap.size w wr) (fun _ _ i _ => n - (intOf i).toNat)
  case atStart => exact ⟨0, 0, [], _, Nat.zero_le _, rfl, rfl, rfl, Own.nil _ _ _ _, Lib.hid ⟨rfl, by decide, List.Pairwise.nil, by simp, by decide, by decide⟩, Below.refl _ _⟩
  case round =>
    obtain ⟨k, T, L, V, hk, rfl, rfl, rfl, hO, HB, hbel⟩ := hrel
    have b1 := HB.out.t0
    have b2 := HB.out.t1
    have b3 := HB.out.k2
    have hL := HB.out.len
    by_cases hlt : k < n
    · by_cases h200 : k < 200
      · obtain ⟨ad, x, rfl, hx, q0, q1⟩ := at_stp H.out hlt
        have e0 := (hbel.cell (World.block_lt_of_cell? w _ q0)).trans q0
        have e1 := (hbel.cell (World.block_lt_of_cell? w _ q1)).trans q1
        obtain ⟨r1, r2⟩ := rem_in x.on 4096 (by decide)
        obtain ⟨r3, r4⟩ := rem_in x.n 1125899906842624 (by decide)
        obtain ⟨P, eP⟩ : ∃ P, x.on.tmod 4096 = P := ⟨_, rfl⟩
        obtain ⟨Q, eQ⟩ : ∃ Q, x.n.tmod 1125899906842624 = Q := ⟨_, rfl⟩
        rw [eP] at r1 r2
        rw [eQ] at r3 r4
        have wP : IntKind.i64.wrap P = P := (IntKind.wrap_i64 _).trans (by omega)
        have wQ : IntKind.i64.wrap Q = Q := (IntKind.wrap_i64 _).trans (by omega)
        have wP' : IntKind.i64.wrap (-P) = -P := (IntKind.wrap_i64 _).trans (by omega)
        have wQ' : IntKind.i64.wrap (-Q) = -Q := (IntKind.wrap_i64 _).trans (by omega)
        have wP0 : IntKind.i64.wrap (0 - P) = -P := (IntKind.wrap_i64 _).trans (by omega)
        have wQ0 : IntKind.i64.wrap (0 - Q) = -Q := (IntKind.wrap_i64 _).trans (by omega)
        have wT : IntKind.i64.wrap (T + P) = T + P := (IntKind.wrap_i64 _).trans (by omega)
        have wT' : IntKind.i64.wrap (T + -P) = T + -P := (IntKind.wrap_i64 _).trans (by omega)
        have hO' : Own wr w.heap.size 66 2 V L.length (cellsA L) := by rw [hL]; exact hO
        clear q0 q1 hx b1 b2 b3 hL hO
        by_cases s1 : P < 0 <;> by_cases s2 : Q < 0
        all_goals
          obtain ⟨on, hon⟩ : ∃ on, on = (if P < 0 then -P else P) := ⟨_, rfl⟩
          obtain ⟨nn, hnn⟩ : ∃ nn, nn = (if Q < 0 then -Q else Q) := ⟨_, rfl⟩
          have o0 : 0 ≤ on ∧ on ≤ 4095 ∧ 0 ≤ nn ∧ nn < 1125899906842624 := by rw [hon, hnn]; simp only [s1, s2, if_true, if_false]; omega
          have hM := Lib.hid (HB.out.more h200 o0.1 o0.2.1 o0.2.2.1 o0.2.2.2)
          have hlk := HB.out.len
          obtain ⟨A7, c7, w7, hap, hO7, hB7⟩ := app_stp (W := wr) (G := wr.heap.size) rfl hO' hbel.size (by omega) (T + on) nn
          have HO7 := Lib.hid hO7
          have HB7 := Lib.hid (hbel.trans hB7)
          rw [hlk] at hap HO7
          simp only [s1, s2, if_true, if_false] at hon hnn
          rw [hon, hnn] at hap HO7 hM
          clear hon hnn o0 hO7 hB7 hO' hlk hbel
          go_wp2
          go_roundw
          case rel => exact ⟨k + 1, _, _, _, by omega, by go_num, rfl, rfl, HO7.out, hM, HB7.out⟩
          case measure => simp [intOf]; omega
      · have h200' : ¬ (k : Int) < 200 := by omega
        have HO := Lib.hid hO
        clear hO
        go_wp2
        go_ret
        have hO2 : Own wr w.heap.size 66 2 V L.length (cellsA L) := by rw [hL]; exact HO.out
        have hB2 : Bro L L.length T := by rw [hL]; exact HB.out
        first | exact ⟨V, L, T, rfl, hO2, hB2, hbel⟩ | exact ⟨V, rfl, L, hO2, ⟨T, hB2⟩, hbel⟩ | exact ⟨V, rfl, L, T, hO2, hB2, hbel⟩
    · have HO := Lib.hid hO
      clear hO
      go_wp2
      go_ret
      have hO2 : Own wr w.heap.size 66 2 V L.length (cellsA L) := by rw [hL]; exact HO.out
      have hB2 : Bro L L.length T := by rw [hL]; exact HB.out
      first | exact ⟨V, L, T, rfl, hO2, hB2, hbel⟩ | exact ⟨V, rfl, L, hO2, ⟨T, hB2⟩, hbel⟩ | exact ⟨V, rfl, L, T, hO2, hB2, hbel⟩
end Go.Proofs.Ythcjkdmlaahpbaa.Win
