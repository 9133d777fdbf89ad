/- Contract of the document's Share. -/
import Derived.Test.YtfehdajjnbehdaaGreatShareB
import Derived.Test.YtfehdajjnbehdaaGreatHeld
import Derived.BigQuiet
namespace Go.Proofs.YtfehdajjnbehdaaGreat.Share
open Go.RowKit Go.Proofs.YtfehdajjnbehdaaGreat.Aid Go.Proofs.YtfehdajjnbehdaaGreat.Mem Go.Proofs.YtfehdajjnbehdaaGreat.Keep Go.Proofs.YtfehdajjnbehdaaGreat.ShareP Go.Proofs.YtfehdajjnbehdaaGreat.Nums
set_option linter.unusedSimpArgs false
set_option linter.unusedVariables false
set_option maxRecDepth 100000
theorem rshare_no (a : Int) (ws : List Int) (A : Option Addr) (n c : Nat) (w : World) (h : Ints w .i64 A n ws) (hn : n ≤ 1048576) (hg : good a ws = false) :
    Calls Tryz.prog 6 #[.int .i64 a, .slice A n c] w fun e w' => e = .returned (.tuple #[.slice none 0 0, .int .i64 1]) ∧ w = w' := by
  by_cases a0 : a < 0
  · go_enter Tryz.func6, Tryz.ntmps6
    go_wp2
    go_ret2
    exact ⟨rfl, rfl⟩
  by_cases a1 : 1099511627776 < a
  · go_enter Tryz.func6, Tryz.ntmps6
    go_wp2
    go_ret2
    exact ⟨rfl, rfl⟩
  by_cases n0 : n = 0
  · subst n0
    go_enter Tryz.func6, Tryz.ntmps6
    go_wp2
    go_ret2
    exact ⟨rfl, rfl⟩
  have z1 : (((n : Nat) : Int) == 0) = false := by simp; omega
  have H := Lib.hid h
  have HG := Lib.hid hg
  clear h hg
  go_enter Tryz.func6, Tryz.ntmps6
  go_wp2_with (fail)
  go_loop [6, 7] (fun t i => ∃ k : Nat, k ≤ n ∧ i = .int .i64 k ∧ t = .int .i64 (tot (ws.take k)) ∧ 0 ≤ tot (ws.take k) ∧ tot (ws.take k) ≤ 1048576 * k ∧ Hid (∀ x ∈ ws.take k, 0 ≤ x ∧ x ≤ 1048576)) (fun _ i => n - (intOf i).toNat)
  case atStart => exact ⟨0, Nat.zero_le _, rfl, by simp [tot], by simp [tot], by simp [tot], Lib.hid (by simp)⟩
  case round =>
    obtain ⟨k, hk, rfl, rfl, s0, s1, HA⟩ := hrel
    by_cases hlt : k < n
    · obtain ⟨ad, x, rfl, hx, hc⟩ := H.out.at_ hlt
      have hs := tot_snoc ws k x hx
      have HX := Lib.hid hx
      clear hx
      by_cases x0 : x < 0
      · go_wp2
        go_ret2
        exact ⟨rfl, rfl⟩
      · by_cases x1 : 1048576 < x
        · go_wp2
          go_ret2
          exact ⟨rfl, rfl⟩
        · have HA2 := Lib.hid (all_take HX.out HA.out (by omega))
          go_wp2
          go_round
          case rel => exact ⟨k + 1, by omega, by go_num, by go_num, by omega, by push_cast; omega, HA2⟩
          case measure => simp [intOf]; omega
    · obtain rfl : k = n := by omega
      have ht : ws.take k = ws := List.take_of_length_le (by have := H.out.1; omega)
      rw [ht] at s0 s1 HA ⊢
      have hz : tot ws = 0 := by
        have hg := HG.out
        by_cases e : tot ws = 0
        · exact e
        · exact absurd ((good_iff (a := a) (ws := ws)).2 ⟨by omega, HA.out, e⟩) (by rw [hg]; decide)
      rw [hz]
      clear hz s0 s1
      go_wp2
      go_ret2
      exact ⟨rfl, rfl⟩
theorem take_snoc' (l : List Int) (j : Nat) (x : Int) (h : l[j]? = some x) : nums .i64 (l.take j) ++ [.int .i64 x] = nums .i64 (l.take (j + 1)) := by
  rw [take_snoc l j x h]; simp [nums]
/-- What an append to one row leaves of another one. -/
theorem app_other {W w1 : World} {B : Nat} {v v1 u : Value} {n : Nat} {l : List Value} {e : TypeId} {s : Nat} (hu : Own W B e s u n l) (hd : ∀ b, v.ownBlock = some b → u.ownBlock ≠ some b)
    (hat : (v1.ownBlock = v.ownBlock ∧ W.grownBy w1 v.ownBlock) ∨ (∃ b, v1.ownBlock = some b ∧ W.heap.size ≤ b ∧ W.grownBy w1 none)) : Own w1 B e s u n l ∧ ∀ b, v1.ownBlock = some b → u.ownBlock ≠ some b := by
  rcases hat with ⟨e1, hg⟩ | ⟨b1, e1, hlt, hg⟩
  · exact ⟨own_at hu fun b hb => hg.block b (hu.lt b hb) (fun e => hd b e.symm hb), fun b hb => hd b (e1 ▸ hb)⟩
  · refine ⟨own_at hu fun b hb => hg.block b (hu.lt b hb) (fun e => by cases e), fun b hb hc => ?_⟩
    have := hu.lt b hc
    rw [e1] at hb
    cases hb
    omega
theorem app_below {w W w1 : World} {B : Nat} {v v1 : Value} {n : Nat} {l : List Value} {e : TypeId} {s : Nat} (hB : Below B w W) (hb : B ≤ W.heap.size) (ho : Own W B e s v n l)
    (hat : (v1.ownBlock = v.ownBlock ∧ W.grownBy w1 v.ownBlock) ∨ (∃ b, v1.ownBlock = some b ∧ W.heap.size ≤ b ∧ W.grownBy w1 none)) : Below B w w1 := by
  rcases hat with ⟨e1, hg⟩ | ⟨b1, e1, hlt, hg⟩
  · exact hB.grown hg hb fun k hk => ho.base_le k hk
  · exact hB.grown hg hb fun k hk => by cases hk
theorem own_far {W : World} {B : Nat} {e : TypeId} {s n : Nat} {v : Value} {l : List Value} (h : Own W B e s v n l) {p : Addr} (hp : ∀ b, v.ownBlock = some b → b ≠ p.block) (x : Value) : Own (W.setCell p x) B e s v n l :=
  own_at h fun b hb => Below.heap_setCell W p x b (hp b hb)
theorem own_cell {W : World} {B e s n c : Nat} {l : List Value} {b : Nat} (h : Own W B e s (.slice (some ⟨b, 0, none⟩) n c) n l) (j : Nat) (u : Value) (hu : l[j]? = some u) : W.cell? ⟨b, j, none⟩ = some u := by
  have := World.ownsRow.cells h (g := b) rfl j u hu
  rwa [add_at] at this
set_option maxHeartbeats 4000000 in
theorem rshare_ok (a : Int) (ws : List Int) (A : Option Addr) (n c : Nat) (w : World) (h : Ints w .i64 A n ws) (hn : n ≤ 1048576) (hg : good a ws = true) :
    Calls Tryz.prog 6 #[.int .i64 a, .slice A n c] w fun e w' => (∃ A' c', e = .returned (.tuple #[.slice A' n c', .int .i64 0]) ∧ Ints w' .i64 A' n (share a ws)) ∧ Below w.heap.size w w' := by
  have H := Lib.hid h
  have HG := Lib.hid hg
  have HL : Hid (ws.length = n) := Lib.hid h.1
  obtain ⟨⟨a0, a1⟩, HA, hz0⟩ := good_iff.1 hg
  have hz : (tot ws == 0) = false := by simpa using hz0
  have HA := Lib.hid HA
  have hn0 : 0 < n := by
    rcases Nat.eq_zero_or_pos n with h0 | h0
    · have : ws = [] := List.length_eq_zero_iff.1 (by rw [HL.out, h0])
      rw [this] at hz0
      exact absurd rfl hz0
    · exact h0
  have z1 : (((n : Nat) : Int) == 0) = false := by simp; omega
  clear h hg hz0
  go_enter Tryz.func6, Tryz.ntmps6
  go_wp2_with (fail)
  go_loop [6, 7] (fun t i => ∃ k : Nat, k ≤ n ∧ i = .int .i64 k ∧ t = .int .i64 (tot (ws.take k)) ∧ 0 ≤ tot (ws.take k) ∧ tot (ws.take k) ≤ 1048576 * k) (fun _ i => n - (intOf i).toNat)
  case atStart => exact ⟨0, Nat.zero_le _, rfl, by simp [tot], by simp [tot], by simp [tot]⟩
  case round =>
    obtain ⟨k, hk, rfl, rfl, s0, s1⟩ := hrel
    by_cases hlt : k < n
    · obtain ⟨ad, x, rfl, hx, hc⟩ := H.out.at_ hlt
      have hs := tot_snoc ws k x hx
      obtain ⟨x0, x1⟩ := HA.out x (List.mem_of_getElem? hx)
      clear hx
      go_wp2
      go_round
      case rel => exact ⟨k + 1, by omega, by go_num, by go_num, by omega, by push_cast; omega⟩
      case measure => simp [intOf]; omega
    · obtain rfl : k = n := by omega
      have ht : ws.take k = ws := List.take_of_length_le (by have := HL.out; omega)
      rw [ht] at s0 s1 ⊢
      have LQ : Hid ((qs a (tot ws) ws).length = k) := Lib.hid (by have := HL.out; simpa [qs] using this)
      have LR : Hid ((rs a (tot ws) ws).length = k) := Lib.hid (by have := HL.out; simpa [rs] using this)
      have hT : 0 < tot ws ∧ tot ws ≤ 4611686018427387903 := by
        have : tot ws ≠ 0 := by simpa using hz
        omega
      go_wp2
      go_loopw [8, 9, 10, 11] (fun vo vc l i wr => ∃ j : Nat, j ≤ k ∧ i = .int .i64 j ∧ l = .int .i64 (a - tot ((qs a (tot ws) ws).take j)) ∧ Hid (Own wr w.heap.size 3 1 vo j (nums .i64 ((qs a (tot ws) ws).take j))) ∧ Hid (Own wr w.heap.size 3 1 vc j (nums .i64 ((rs a (tot ws) ws).take j))) ∧ Hid (∀ b, vo.ownBlock = some b → vc.ownBlock ≠ some b) ∧ Hid (Below w.heap.size w wr)) (fun _ _ _ i _ => k - (intOf i).toNat)
      case atStart => exact ⟨0, Nat.zero_le _, rfl, by simp [tot], Own.nil _ _ _ _, Own.nil _ _ _ _, Lib.hid (fun b hb => by cases hb), Below.refl _ _⟩
      case round =>
        obtain ⟨j, hj, rfl, rfl, HO, HC, HD, HB⟩ := hrel
        by_cases hl2 : j < k
        · obtain ⟨ad, x, rfl, hx, hc0⟩ := H.out.at_ hl2
          have hc := (HB.out.cell (World.block_lt_of_cell? w _ hc0)).trans hc0
          have hP := prod_in ⟨a0, a1⟩ (HA.out x (List.mem_of_getElem? hx))
          have hw : IntKind.i64.wrap (a * x) = a * x := wrap_in (by omega) (by omega)
          obtain ⟨P, eP⟩ : ∃ P, a * x = P := ⟨_, rfl⟩
          obtain ⟨q, eq⟩ : ∃ q, P / tot ws = q := ⟨_, rfl⟩
          obtain ⟨r, er⟩ : ∃ r, P % tot ws = r := ⟨_, rfl⟩
          have hxq : (qs a (tot ws) ws)[j]? = some q := by unfold qs; rw [List.getElem?_map, hx, ← eq, ← eP]; rfl
          have hxr : (rs a (tot ws) ws)[j]? = some r := by unfold rs; rw [List.getElem?_map, hx, ← er, ← eP]; rfl
          have hs := tot_snoc _ j q hxq
          have l1 := left_in HG.out j
          have l2 := left_in HG.out (j + 1)
          rw [eP] at hw hP
          have hw' : IntKind.i64.wrap (a * x) = P := by rw [eP]; exact hw
          have e1 : Int.tdiv P (tot ws) = q := by rw [← eq]; exact Int.tdiv_eq_ediv_of_nonneg hP.1
          have e2 : Int.tmod P (tot ws) = r := by rw [← er]; exact Int.tmod_eq_emod_of_nonneg hP.1
          have q0 : 0 ≤ q := by rw [← eq]; exact Int.ediv_nonneg hP.1 (by omega)
          have q1 : q ≤ P := by rw [← eq]; exact Int.ediv_le_self _ hP.1
          have r0 : 0 ≤ r := by rw [← er]; exact Int.emod_nonneg _ (by omega)
          have wq : IntKind.i64.wrap q = q := wrap_in (by omega) (by omega)
          have HQX := Lib.hid hxq
          have HRX := Lib.hid hxr
          have HBW : Hid (w.heap.size ≤ wr.heap.size) := Lib.hid HB.out.size
          have HMX : Hid (j + 1 ≤ maxLen) := Lib.hid (by unfold maxLen; omega)
          have HBY : Hid ((j + 1) * 8 ≤ 140737488355328) := Lib.hid (by omega)
          clear eq er hxq hxr hx hc0 hw
          go_wp2_with (first | (at_builtin; (refine app_keep (W := wr) w.heap.size rfl _ _ 22 3 (.int .i64 0) 1 8 rfl Tryz.underlying22 infoInt rfl (by decide) u8 _ _ [.int .i64 q] rfl rfl rfl (one_int _ _) HO.out HBW.out HMX.out HBY.out ?_); intro v1 w9 hO hs9 hat; obtain ⟨hC9, hD9⟩ := app_other HC.out HD.out hat; have HB9 := Lib.hid (app_below HB.out HBW.out HO.out hat); have HO9 := Lib.hid hO; have HC9 := Lib.hid hC9; have HD9 := Lib.hid hD9; have HBW9 : Hid (w.heap.size ≤ w9.heap.size) := Lib.hid HB9.out.size; clear hO hs9 hat hC9 hD9) | (at_builtin; (refine app_keep (W := w9) w.heap.size rfl _ _ 22 3 (.int .i64 0) 1 8 rfl Tryz.underlying22 infoInt rfl (by decide) u9 _ _ [.int .i64 r] rfl rfl rfl (one_int _ _) HC9.out HBW9.out HMX.out HBY.out ?_); intro v2 w8 hO hs9 hat; obtain ⟨hC8, hD8⟩ := app_other HO9.out (fun b hb hc => HD9.out b hc hb) hat; have HB8 := Lib.hid (app_below HB9.out HBW9.out HC9.out hat); have HO8 := Lib.hid hC8; have HC8 := Lib.hid hO; have HD8 := Lib.hid hD8; clear hO hs9 hat hC8 hD8))
          go_roundw
          case rel =>
            refine ⟨j + 1, by omega, by go_num, by rw [hs]; congr 1; omega, ?_, ?_, Lib.hid (fun b hb hc => HD8.out b hc hb), HB8⟩
            · rw [← take_snoc' _ _ _ HQX.out]; exact HO8
            · rw [← take_snoc' _ _ _ HRX.out]; exact HC8
          case measure => simp [intOf]; omega
        · obtain rfl : j = k := by omega
          have eQ : (qs a (tot ws) ws).take j = (qs a (tot ws) ws) := List.take_of_length_le (by rw [LQ.out]; omega)
          have eR : (rs a (tot ws) ws).take j = (rs a (tot ws) ws) := List.take_of_length_le (by rw [LR.out]; omega)
          have eL : a - tot ((qs a (tot ws) ws).take j) = leftN a ws := by rw [eQ]; rfl
          rw [eL]
          have lm : leftN a ws ≤ a := by rw [← eL]; exact (left_in HG.out j).2
          rw [eQ] at HO
          rw [eR] at HC
          have lp := leftN_pos HG.out
          obtain ⟨AO, cO, rfl, _, hAO⟩ := HO.out.form
          obtain ⟨AC, cC, rfl, _, hAC⟩ := HC.out.form
          obtain ⟨gO, rfl, leO, _, _⟩ := hAO hn0
          obtain ⟨gC, rfl, leC, _, _⟩ := hAC hn0
          have NE : Hid (gO ≠ gC) := Lib.hid (fun e => HD.out gO rfl (by rw [e]; rfl))
          have LE := Lib.hid (And.intro leO leC)
          clear eQ eR eL hAO hAC HD leO leC
          go_wp2
          go_loopw [10] (fun i wr => ∃ m : Nat, (m : Int) ≤ leftN a ws ∧ i = .int .i64 (leftN a ws - m) ∧ Hid (Own wr w.heap.size 3 1 (.slice (some ⟨gO, 0, none⟩) j cO) j (nums .i64 (many m ((qs a (tot ws) ws), (rs a (tot ws) ws))).1)) ∧ Hid (Own wr w.heap.size 3 1 (.slice (some ⟨gC, 0, none⟩) j cC) j (nums .i64 (many m ((qs a (tot ws) ws), (rs a (tot ws) ws))).2)) ∧ Hid (Below w.heap.size w wr)) (fun i _ => (intOf i).toNat)
          case atStart => exact ⟨0, by simpa using lp, by simp, HO, HC, HB⟩
          case round =>
            obtain ⟨m, hm, rfl, HO, HC, HB⟩ := hrel
            by_cases hl3 : (m : Int) < leftN a ws
            · have hin := many_in HG.out m hm
              have hlen := many_len ((qs a (tot ws) ws), (rs a (tot ws) ws)) m
              obtain ⟨os, cs, es⟩ : ∃ os cs, many m ((qs a (tot ws) ws), (rs a (tot ws) ws)) = (os, cs) := ⟨_, _, rfl⟩
              rw [es] at HO HC hin hlen
              have HM : Hid (many (m + 1) ((qs a (tot ws) ws), (rs a (tot ws) ws)) = one (os, cs)) := Lib.hid (by show one (many m _) = _; rw [es])
              have lo : os.length = j := hlen.1.trans LQ.out
              have lc : cs.length = j := hlen.2.trans LR.out
              clear es hlen
              go_wp2
              go_loopw [13, 14] (fun b i wr' => ∃ t : Nat, 1 ≤ t ∧ t ≤ j ∧ i = .int .i64 t ∧ b = .int .i64 ((bst cs t : Nat) : Int) ∧ ∃ nd, wr' = wr.drewN nd) (fun _ i _ => j - (intOf i).toNat)
              case atStart => exact ⟨1, Nat.le_refl _, hn0, rfl, by simp [bst], 0, rfl⟩
              case round =>
                obtain ⟨t, ht0, ht, rfl, rfl, nd, rfl⟩ := hrel
                have hbt := bst_in (cs := cs) ht hn0
                have g2 := own_cell HC.out _ _ (nums_nth (show bst cs t < cs.length by omega))
                by_cases hl4 : t < j
                · have g1 := own_cell HC.out _ _ (nums_nth (show t < cs.length by omega))
                  by_cases hcm : nth cs (bst cs t) < nth cs t
                  · have hb1 : bst cs (t + 1) = t := if_pos hcm
                    go_wp2
                    go_quiet (fail)
                    go_wp2
                    go_roundw
                    case rel => exact ⟨t + 1, by omega, by omega, by go_num, by rw [hb1], _, rfl⟩
                    case measure => simp [intOf]; omega
                  · have hb1 : bst cs (t + 1) = bst cs t := if_neg hcm
                    go_wp2
                    go_quiet (fail)
                    go_wp2
                    go_roundw
                    case rel => exact ⟨t + 1, by omega, by omega, by go_num, by rw [hb1], _, rfl⟩
                    case measure => simp [intOf]; omega
                · obtain rfl : t = j := by omega
                  have hbw := hin (bst cs t) (by rw [HL.out]; omega)
                  have hone : one (os, cs) = (os.set (bst cs t) (nth os (bst cs t) + 1), cs.set (bst cs t) (-1)) := by unfold one; dsimp only; rw [lc]
                  obtain ⟨b, eb⟩ : ∃ b, bst cs t = b := ⟨_, rfl⟩
                  rw [eb] at hbt hbw hone g2 ⊢
                  have o1 := HO.out.drewN nd
                  have g3 := own_cell o1 _ _ (nums_nth (show b < os.length by omega))
                  have g4 := o1.free b
                  have c2 := own_far (HC.out.drewN nd) (p := ⟨gO, b, none⟩) (fun b' hb' e => NE.out (by cases hb'; exact e.symm)) (.int .i64 (nth os b + 1))
                  have g5 := own_cell c2 _ _ (nums_nth (show b < cs.length by omega))
                  have g6 := c2.free b
                  have HO3 := Lib.hid (own_far (o1.put (i := b) (by simp [nums]; omega) (.int .i64 (nth os b + 1))) (p := ⟨gC, b, none⟩) (fun b' hb' e => NE.out (by cases hb'; exact e)) (.int .i64 (-1)))
                  have HC3 := Lib.hid (c2.put (i := b) (by simp [nums]; omega) (.int .i64 (-1)))
                  rw [nums_set] at HO3 HC3
                  have HB3 := Lib.hid (((below_drewN HB.out nd).setCell (p := ⟨gO, b, none⟩) LE.out.1 (.int .i64 (nth os b + 1))).setCell (p := ⟨gC, b, none⟩) LE.out.2 (.int .i64 (-1)))
                  rw [hone] at HM
                  clear hin hone o1 c2 eb
                  obtain ⟨y, ey⟩ : ∃ y, nth os b = y := ⟨_, rfl⟩
                  rw [ey] at *
                  go_wp2
                  go_roundw
                  case rel => exact ⟨m + 1, by push_cast; omega, by push_cast; go_num, by rw [HM.out]; exact HO3, by rw [HM.out]; exact HC3, HB3⟩
                  case measure => simp [intOf]; omega
            · have em : m = (leftN a ws).toNat := by omega
              have HS : Hid (Own wr w.heap.size 3 1 (.slice (some ⟨gO, 0, none⟩) j cO) j (nums .i64 (share a ws))) := Lib.hid (by have := HO.out; rw [em] at this; exact this)
              have e0 : leftN a ws - (m : Int) = 0 := by omega
              rw [e0]
              clear e0 em
              go_wp2
              go_ret2
              obtain ⟨A', c', e', hI⟩ := HS.out.ints
              cases e'
              exact ⟨⟨_, ⟨_, rfl⟩, hI⟩, HB.out⟩
end Go.Proofs.YtfehdajjnbehdaaGreat.Share
