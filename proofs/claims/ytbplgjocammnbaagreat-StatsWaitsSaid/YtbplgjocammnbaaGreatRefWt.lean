/- Contract of the document's Waits. -/
import Derived.Test.YtbplgjocammnbaaGreatWaits
import Derived.BigQuiet
import Derived.BigRegion
import Derived.IntWalk
namespace Go.Proofs.YtbplgjocammnbaaGreat.Waits
open Go.RowKit Go.Proofs.YtbplgjocammnbaaGreat.Aid Go.Proofs.YtbplgjocammnbaaGreat.Mem Go.Proofs.YtbplgjocammnbaaGreat.Keep Go.Proofs.YtbplgjocammnbaaGreat.Recs Go.Proofs.YtbplgjocammnbaaGreat.Has
set_option linter.unusedSimpArgs false
set_option linter.unusedVariables false
set_option maxRecDepth 100000
attribute [local go_sem ↓] load_rec load_pai
theorem KW.dr {w W : World} {g : Nat} {r : Row} {v : Value} {l : List Int} (h : KW w g r v l W) (m : Nat) : KW w g r v l (W.drewN m) := h.keep (below_drewN (Below.refl _ _) m)
def AP (ts : Array TypeId) (ty : TypeId) (vs : Array Value) : Sem Value := Builtin.append_ ts ty vs
theorem ap_eq (ts : Array TypeId) (ty : TypeId) (vs : Array Value) : Builtin.append_ ts ty vs = AP ts ty vs := rfl
theorem app_w {w W : World} {g : Nat} {r : Row} {v : Value} {l : List Int} (h : KW w g r v l W) (x : Int) (hn : l.length + 1 ≤ 1099511627776) :
    ∃ v1 w1, (AP #[25, 25] 25 #[v, .slice (some ⟨W.heap.size, 0, none⟩) 1 1]).run Tryz.prog (W.alloc (.cells #[.int .i64 x] 3)).drew = .ok v1 w1 ∧ KW w g r v1 (l ++ [x]) w1 := by
  obtain ⟨i0, hi, hzz⟩ := Option.map_eq_some_iff.1 infoInt
  simp only [Prod.mk.injEq] at hzz
  obtain ⟨hz0, hz1, hz2⟩ := hzz
  have hD := h.dr 1
  rw [show W.drewN 1 = W.drew from rfl] at hD
  have hO := hD.2.2.2
  have hnew := Blk.new W.drew 3 [.int .i64 x]
  obtain ⟨v', w', hr, h2, h3, _, h5⟩ := run_append_own_at (P := Tryz.prog) (W.drew.alloc (.cells #[.int .i64 x] 3)) w.heap.size 25 25 3 i0 _ 1 8 Tryz.underlying25 hi hz0 hz1 hz2 rfl (by decide) v l.length (nums .i64 l) (World.ownsRow.alloc hO _) ⟨W.heap.size, 0, none⟩ 1 1 [.int .i64 x] rfl (fun j u hu => by rw [add_at]; exact hnew.cellv hu) (by intro u hu; simp only [List.mem_cons, List.not_mem_nil, or_false] at hu; rcases hu with rfl; rfl) (by unfold maxLen; omega) (by omega) (by rw [size_alloc]; have := hD.bel.size; simp at this ⊢; omega)
  refine ⟨v', w', hr, hD.app h2 ?_ (World.grownBy.trans (World.grownBy_alloc _ _ _) h3) ?_⟩
  · exact ((hD.bel).alloc hD.bel.size _).grown h3 (by rw [size_alloc]; have := hD.bel.size; omega) (fun k hk => (World.ownsRow.lt hO k hk).1)
  · rcases h5 with h5 | h5
    · exact .inl h5
    · exact .inr ⟨_, h5, by simp⟩
theorem pair_cell {w : World} {A : Option Addr} {n : Nat} {ps : List (Int × Int)} (h : Recs w 2 A n (ps.map pl)) {j : Nat} (hj : j < n) : ∃ ad p, A = some ad ∧ ps[j]? = some p ∧ w.cell? (ad.add (j * 2)) = some (.int .i64 p.1) := by
  obtain ⟨ad, l, rfl, hl, hc, hcell⟩ := h.at_ hj
  rw [List.getElem?_map] at hl
  obtain ⟨p, hp, rfl⟩ := Option.map_eq_some_iff.1 hl
  exact ⟨ad, p, rfl, hp, hcell 0 _ rfl⟩
attribute [local go_sem ↓] ap_eq
set_option maxHeartbeats 4000000 in
theorem rwaits_c (rs : List Row) (xs : List Rc) (A : Option Addr) (n c : Nat) (w : World) (h : Recs w 9 A n (rs.map Row.list)) (hx : xs.length = n) (hr : ∀ (j : Nat) (r : Row) (x : Rc), rs[j]? = some r → xs[j]? = some x → RAt w r x ∧ r.pn ≤ 17592186044416 ∧ r.wn ≤ 17592186044416 ∧ -9223372036854775808 ≤ r.tick ∧ r.tick ≤ 9223372036854775807) (hn : n ≤ 17592186044416) (hl : (waitA rs xs).length + 1 ≤ 1099511627776) :
    Calls Tryz.prog 7 #[.slice A n c] w fun e w' => ∃ v, e = .returned v ∧ Own w' w.heap.size 3 1 v (waitA rs xs).length (nums .i64 (waitA rs xs)) ∧ Below w.heap.size w w' := by
  have H := Lib.hid h
  have HX := Lib.hid hx
  have HR := Lib.hid hr
  have HN : Hid (rs.length = n) := Lib.hid (by have := h.1; simpa using this)
  have HL := Lib.hid hl
  clear h hx hr hl
  go_enter Tryz.func7, Tryz.ntmps7
  go_wp2
  go_loopw [3, 4] (fun v i wr => ∃ k : Nat, k ≤ n ∧ i = .int .i64 k ∧ Hid (Own wr w.heap.size 3 1 v (waitA (rs.take k) (xs.take k)).length (nums .i64 (waitA (rs.take k) (xs.take k)))) ∧ Hid (Below w.heap.size w wr)) (fun _ i _ => n - (intOf i).toNat)
  case atStart => exact ⟨0, Nat.zero_le _, rfl, Lib.hid (by simpa [waitA, nums] using Own.nil _ _ _ _), Lib.hid (Below.refl _ _)⟩
  case round =>
    obtain ⟨k, hk, rfl, HO, HB⟩ := hrel
    by_cases hlt : k < n
    · obtain ⟨ad, r, rfl, hr, hld⟩ := at_r H.out hlt
      obtain ⟨x, hx⟩ : ∃ x, xs[k]? = some x := ⟨_, List.getElem?_eq_getElem (by rw [HX.out]; exact hlt)⟩
      obtain ⟨hA, b1, b2, b3, b4⟩ := HR.out k r x hr hx
      have HA := Lib.hid hA
      have HNX := Lib.hid (waitA_next hr hx)
      have K0 := Lib.hid (KW.start (r := r) HO.out HB.out)
      have L0 := hld _ HB.out
      have HRX := Lib.hid hr
      have HXX := Lib.hid hx
      have HPN : Hid (x.ps.length = r.pn) := Lib.hid (by have := hA.pr.1; simpa using this)
      obtain ⟨tick, wa, wn, wc, ia, idn, ic, rows, cols, ea, en, ec, pa, pn, pc, ya, yn, yc, za, zn, zc⟩ := r
      have c6 := K0.out.cell 6
      simp only [Row.list, List.getElem?_cons_zero, List.getElem?_cons_succ] at c6
      simp only [Row.arr] at b1 b2 b3 b4 L0 HPN
      clear hld hr hx hA
      go_wp2
      go_loopw [3, 6] (fun v i wr2 => ∃ j : Nat, j ≤ pn ∧ i = .int .i64 j ∧ Hid (KW w wr.heap.size ⟨tick, wa, wn, wc, ia, idn, ic, rows, cols, ea, en, ec, pa, pn, pc, ya, yn, yc, za, zn, zc⟩ v (waitA (rs.take k) (xs.take k) ++ waitR tick x j) wr2)) (fun _ i _ => pn - (intOf i).toNat)
      case atStart => exact ⟨0, Nat.zero_le _, rfl, Lib.hid (by rw [waitR_zero, List.append_nil]; exact K0.out)⟩
      case round =>
        obtain ⟨j, hj, rfl, K⟩ := hrel
        by_cases hjl : j < pn
        · obtain ⟨bd, p, hpa, hp, hcp⟩ := pair_cell HA.out.pr hjl
          simp only at hpa
          subst hpa
          obtain ⟨pr, pcol⟩ := p
          have hcp1 := (K.out.bel.cell (World.block_lt_of_cell? w _ hcp)).trans hcp
          have KP := K
          have c0 := KP.out.cell 0
          have c1 := KP.out.cell 1
          have c6 := KP.out.cell 6
          have HP := Lib.hid hp
          have HW := Lib.hid (waitR_next (t := tick) hp)
          simp only [Row.list, List.getElem?_cons_zero, List.getElem?_cons_succ] at c0 c1 c6
          clear hp hcp
          by_cases q1 : pr < 0
          · have HW1 := Lib.hid (wait1_f (t := tick) (x := x) (p := (pr, pcol)) (.inl q1))
            have d1 : decide (0 ≤ pr) = false := by simp <;> omega
            go_wp2_with (fail)
            go_quiet (fail)
            go_wp2_with (fail)
            go_roundw
            case rel => exact ⟨j + 1, by omega, by go_num, Lib.hid (by rw [HW.out, HW1.out, List.append_nil]; exact KP.out.dr _)⟩
            case measure => simp [intOf]; omega
          · by_cases q2 : (wn : Int) ≤ pr
            · have HW1 := Lib.hid (wait1_f (t := tick) (x := x) (p := (pr, pcol)) (.inr (.inl (by have := HA.out.wn; simp only at this ⊢; omega))))
              have d1 : decide (0 ≤ pr) = true := by simp <;> omega
              have d2 : decide (pr < (wn : Int)) = false := by simp <;> omega
              go_wp2_with (fail)
              go_quiet (fail)
              go_wp2_with (fail)
              go_roundw
              case rel => exact ⟨j + 1, by omega, by go_num, Lib.hid (by rw [HW.out, HW1.out, List.append_nil]; exact KP.out.dr _)⟩
              case measure => simp [intOf]; omega
            · by_cases q3 : 1099511627776 < tick
              · have HW1 := Lib.hid (wait1_f (t := tick) (x := x) (p := (pr, pcol)) (.inr (.inr q3)))
                have d1 : decide (0 ≤ pr) = true := by simp <;> omega
                have d2 : decide (pr < (wn : Int)) = true := by simp <;> omega
                have d3 : decide (tick ≤ 1099511627776) = false := by simp <;> omega
                go_wp2_with (fail)
                go_quiet (fail)
                go_wp2_with (fail)
                go_roundw
                case rel => exact ⟨j + 1, by omega, by go_num, Lib.hid (by rw [HW.out, HW1.out, List.append_nil]; exact KP.out.dr _)⟩
                case measure => simp [intOf]; omega
              · obtain ⟨q, rfl⟩ : ∃ q : Nat, pr = (q : Int) := ⟨pr.toNat, by omega⟩
                have hqn : q < wn := by omega
                obtain ⟨s, hs⟩ : ∃ s, x.ss[q]? = some s := ⟨_, List.getElem?_eq_getElem (by rw [HA.out.wn]; exact hqn)⟩
                obtain ⟨wd, hwa, hcw⟩ := HA.out.ws q s hs
                simp only at hwa
                subst hwa
                have hcs := (KP.out.bel.cell (World.block_lt_of_cell? w _ hcw)).trans hcw
                rw [add16] at hcs
                have HW1 := Lib.hid (wait1_t (t := tick) (x := x) (p := ((q : Int), pcol)) rfl (by omega) hs)
                have HCW := Lib.hid hcw
                clear hcw hs
                by_cases s0 : s < 0
                · have d1 : decide (0 ≤ (q : Int)) = true := by simp
                  have d2 : decide ((q : Int) < (wn : Int)) = true := by simp <;> omega
                  have d3 : decide (tick ≤ 1099511627776) = true := by simp <;> omega
                  have d4 : decide (0 ≤ s) = false := by simp <;> omega
                  go_wp2_with (fail)
                  go_quiet (fail)
                  go_wp2_with (fail)
                  go_roundw
                  case rel => exact ⟨j + 1, by omega, by go_num, Lib.hid (by rw [HW.out, HW1.out, if_neg (by omega), List.append_nil]; exact KP.out.dr _)⟩
                  case measure => simp [intOf]; omega
                · by_cases s1 : tick < s
                  · have d1 : decide (0 ≤ (q : Int)) = true := by simp
                    have d2 : decide ((q : Int) < (wn : Int)) = true := by simp <;> omega
                    have d3 : decide (tick ≤ 1099511627776) = true := by simp <;> omega
                    have d4 : decide (0 ≤ s) = true := by simp <;> omega
                    have d5 : decide (s ≤ tick) = false := by simp <;> omega
                    go_wp2_with (fail)
                    go_quiet (fail)
                    go_wp2_with (fail)
                    go_roundw
                    case rel => exact ⟨j + 1, by omega, by go_num, Lib.hid (by rw [HW.out, HW1.out, if_neg (by omega), List.append_nil]; exact KP.out.dr _)⟩
                    case measure => simp [intOf]; omega
                  · have HO1 := Lib.hid KP.out.2.2.2
                    have HBW := Lib.hid KP.out.bel
                    have HBA := Lib.hid KP.out.bel.size
                    have hle := waitA_bound HRX.out HXX.out HP.out
                    simp only at hle
                    have HMX : Hid ((waitA (rs.take k) (xs.take k) ++ waitR tick x j).length + 1 ≤ maxLen) := Lib.hid (by have := HL.out; unfold maxLen; omega)
                    have HBY : Hid (((waitA (rs.take k) (xs.take k) ++ waitR tick x j).length + 1) * 8 ≤ 140737488355328) := Lib.hid (by have := HL.out; omega)
                    rw [if_pos (by omega)] at HW1
                    clear HBY HMX HO1 HBW HBA
                    have HLE : Hid _ := Lib.hid hle
                    have HLL := Lib.hid (Nat.le_trans (Nat.succ_le_succ hle) HL.out)
                    clear hle
                    have d1 : decide (0 ≤ (q : Int)) = true := by simp
                    have d2 : decide ((q : Int) < (wn : Int)) = true := by simp <;> omega
                    have d3 : decide (tick ≤ 1099511627776) = true := by simp <;> omega
                    have d4 : decide (0 ≤ s) = true := by simp <;> omega
                    have d5 : decide (s ≤ tick) = true := by simp <;> omega
                    go_wp2_with (fail)
                    go_quiet (fail)
                    have KQ := Lib.hid (KP.out.dr nq)
                    generalize World.drewN _ nq = wq at KQ ⊢
                    obtain ⟨v1, w1, hap, hK1⟩ := app_w KQ.out (tick - s) HLL.out
                    have HK1 := Lib.hid hK1
                    have c0 := KQ.out.cell 0
                    have c1 := KQ.out.cell 1
                    simp only [Row.list, List.getElem?_cons_zero, List.getElem?_cons_succ] at c0 c1
                    have hcs := (KQ.out.bel.cell (World.block_lt_of_cell? w _ HCW.out)).trans HCW.out
                    rw [add16] at hcs
                    have hws : IntKind.i64.wrap (tick - s) = tick - s := IntWalk.i64_in _ (by omega)
                    clear hK1 d1 d2 d3 d4 d5
                    go_wp2_with (fail)
                    go_region
                    go_wp2_with (fail)
                    go_roundw
                    case rel => exact ⟨j + 1, by omega, by go_num, Lib.hid (by rw [HW.out, HW1.out, ← List.append_assoc]; exact HK1.out)⟩
                    case measure => simp [intOf]; omega
        · obtain rfl : j = pn := by omega
          have KO : Hid (Own wr w.heap.size 3 1 u3 (waitA (rs.take (k + 1)) (xs.take (k + 1))).length (nums .i64 (waitA (rs.take (k + 1)) (xs.take (k + 1))))) := Lib.hid (by rw [HNX.out, HPN.out]; exact K.out.2.2.2)
          have KB := Lib.hid K.out.bel
          have c6 := K.out.cell 6
          simp only [Row.list, List.getElem?_cons_zero, List.getElem?_cons_succ] at c6
          go_wp2
          go_roundw
          case rel => exact ⟨k + 1, by omega, by go_num, KO, KB⟩
          case measure => simp [intOf]; omega
    · obtain rfl : k = n := by omega
      have e1 : rs.take k = rs := List.take_of_length_le (by rw [HN.out]; exact Nat.le_refl _)
      have e2 : xs.take k = xs := List.take_of_length_le (by rw [HX.out]; exact Nat.le_refl _)
      rw [e1, e2] at HO
      clear e1 e2
      go_wp2
      go_ret
      exact ⟨_, rfl, HO.out, HB.out⟩
end Go.Proofs.YtbplgjocammnbaaGreat.Waits
