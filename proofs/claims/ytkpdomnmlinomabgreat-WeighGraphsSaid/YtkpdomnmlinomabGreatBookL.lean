/- The walk of the Book's look. -/
import Derived.Test.YtkpdomnmlinomabGreatBookGW
namespace Go.Proofs.YtkpdomnmlinomabGreat.BookS
open Go.RowKit Go.Proofs.YtkpdomnmlinomabGreat.Aid Go.Proofs.YtkpdomnmlinomabGreat.Mem Go.Proofs.YtkpdomnmlinomabGreat.Keep Go.Proofs.YtkpdomnmlinomabGreat.Recs Go.Proofs.YtkpdomnmlinomabGreat.TwinS
set_option linter.unusedSimpArgs false
set_option linter.unusedVariables false
set_option maxRecDepth 100000
section
attribute [local go_sem ↓] load_el store_el
theorem isE_c (k : Nat) (w : World) (h' : k ≤ 1000) : Calls Tryz.prog 150 #[.agg (mkc k).toArray, .int .i64 ((k : Int) + 1)] w fun e w' => e = .returned (.bool true) ∧ Below w.heap.size w w' := by
  have la : (LA tE (.pointer (some ⟨w.heap.size, 0, none⟩))).run Tryz.prog (w.alloc (.cells #[.int .i64 0, .int .i64 0, .int .i64 (-1000 - ((k : Int) + 1))] tE)) = .ok (.agg #[.int .i64 0, .int .i64 0, .int .i64 (-1000 - ((k : Int) + 1))]) (w.alloc (.cells #[.int .i64 0, .int .i64 0, .int .i64 (-1000 - ((k : Int) + 1))] tE)) :=
    loads_box Tryz.underlying97 rfl (by show _ = some 3; kernel_rfl) (fun i => World.cell?_alloc_new w _ _ i)
  show Calls Tryz.prog 150 #[.agg #[.int .i64 0, .int .i64 0, .int .i64 (-1000 - ((k : Int) + 1))], .int .i64 ((k : Int) + 1)] w _
  go_enter Tryz.func150, Tryz.ntmps150
  go_wp2
  go_ret
  exact ⟨by first | rfl | simp, alloc_below _ _⟩
end
attribute [local go_sem ↓] load_held load_el
set_option maxHeartbeats 4000000 in
theorem look_s (W : World) (g hb cap m : Nat) (ad : Addr) (V L : Nat → Value) (B S0 : Nat) (N : Nat → Nat) (hk : Bk W g hb cap m ad V L) (hg : Gr W B S0 m V N L (fun _ => 70)) :
    Calls Tryz.prog 95 #[.pointer (some ⟨g, 0, none⟩)] W fun e w' => e = .returned (.bool true) ∧ Below W.heap.size W w' := by
  have HG := Lib.hid hg
  have HK := Lib.hid hk
  have m2 := hk.m2
  have c1 := hk.c1
  clear hk hg
  go_enter Tryz.func95, Tryz.ntmps95
  go_wp2
  go_loopw [3] (fun i wr => ∃ k : Nat, k ≤ m ∧ i = .int .i64 k ∧ Hid (Below W.heap.size W wr)) (fun i _ => m - (intOf i).toNat)
  case atStart => exact ⟨0, Nat.zero_le _, rfl, Below.refl _ _⟩
  case round =>
    obtain ⟨wr0, ewr⟩ : ∃ x, x = wr := ⟨_, rfl⟩
    subst ewr
    obtain ⟨k, hk, rfl, HB⟩ := hrel
    have HG := Lib.hid (HG.out.below HB.out)
    have HK := Lib.hid (HK.out.below HB.out)
    have c1 := HK.out.c1
    by_cases hlt : k < m
    · have la := HK.out.la hlt
      obtain ⟨A, c, eV, hA⟩ := HG.out.reads k hlt
      obtain ⟨A1, c1', eL, hA1⟩ := Reads.of_own (HG.out.own k hlt)
      obtain ⟨b1, rfl, hc1⟩ := hA1 (by omega)
      have sm := HG.out.small k hlt
      rw [eV, eL] at la
      have RV := Lib.hid hA
      have RL := Lib.hid hc1
      clear eV eL hA hA1 hc1
      go_wp2
      have HB0 := Lib.hid (Blk.new wr0 tH [.slice A (N k) c, .slice (some ⟨b1, 0, none⟩) (N k + 70) c1', .int .i64 ((k : Int) + 1)])
      have HB1 := Lib.hid (HB.out.alloc HB.out.size (.cells #[.slice A (N k) c, .slice (some ⟨b1, 0, none⟩) (N k + 70) c1', .int .i64 ((k : Int) + 1)] tH))
      have HW : Hid (Below wr0.heap.size wr0 (wr0.alloc (.cells #[.slice A (N k) c, .slice (some ⟨b1, 0, none⟩) (N k + 70) c1', .int .i64 ((k : Int) + 1)] tH))) := Lib.hid (alloc_below _ _)
      generalize wr0.alloc _ = w0 at *
      generalize hp : wr0.heap.size = p at *
      go_loopw [5] (fun i wi => ∃ t : Nat, t ≤ N k + 70 ∧ i = .int .i64 t ∧ Hid (Below p wr0 wi) ∧ Hid (Blk wi p tH [.slice A (N k) c, .slice (some ⟨b1, 0, none⟩) (N k + 70) c1', .int .i64 ((k : Int) + 1)])) (fun i _ => N k + 70 - (intOf i).toNat)
      case atStart => exact ⟨0, Nat.zero_le _, rfl, HW, HB0⟩
      case round =>
        clear HW HB0 HB1
        obtain ⟨t, ht, rfl, HW, HB2⟩ := hrel
        have hpl : p < wr.heap.size := HB2.out.lt
        have q0 := HB2.out.cellv (i := 0) rfl
        have q1 := HB2.out.cellv (i := 1) rfl
        have q2 := HB2.out.cellv (i := 2) rfl
        have LL : ∀ (W' : World) (b n : Nat), Below wr.heap.size wr W' → (∀ r, r < 3 → W'.cell? ⟨b, n + r, none⟩ = (mkc k)[r]?) → (LA tE (.pointer (some ⟨b, n, none⟩))).run Tryz.prog W' = .ok (.agg (mkc k).toArray) W' := fun W' b n _ h =>
          loads_at (l := mkc k) (s := []) Tryz.underlying97 rfl (by kernel_rfl) (fun i v hv => by
            rw [List.append_nil] at hv
            have hi := (List.getElem?_eq_some_iff.1 hv).1
            rw [mkc_len] at hi
            rw [add_lit, h i hi, hv])
        have CK : ∀ (W' : World) (b t r : Nat), Below wr.heap.size wr W' → (∃ v, (mkc k)[r]? = some v) → wr0.cell? ⟨b, t * 3 + r, none⟩ = (mkc k)[r]? → W'.cell? ⟨b, t * 3 + r, none⟩ = (mkc k)[r]? := fun W' b t r hb hv h => by
          obtain ⟨v, hv⟩ := hv
          rw [hv] at h ⊢
          have h2 := (HW.out.cell (hp ▸ World.block_lt_of_cell? _ _ h)).trans h
          exact (hb.cell (World.block_lt_of_cell? _ _ h2)).trans h2
        by_cases hl2 : t < N k + 70
        · by_cases hl3 : t < N k
          · obtain ⟨b, rfl, hc⟩ := RV.out (by omega)
            have d3 : decide ((t : Int) < (N k : Int)) = true := decide_eq_true (by omega)
            have EXT : Hid (∀ W', Below wr.heap.size wr W' → (fun W' => Below wr.heap.size wr W' ∧ W'.cell? ⟨p, 0, none⟩ = some (.slice (some ⟨b, 0, none⟩) (N k) c) ∧ W'.cell? ⟨p, 1, none⟩ = some (.slice (some ⟨b1, 0, none⟩) (N k + 70) c1') ∧ W'.cell? ⟨p, 2, none⟩ = some (.int .i64 ((k : Int) + 1)) ∧ (LA tE (.pointer (some ⟨b1, t * 3, none⟩))).run Tryz.prog W' = .ok (.agg (mkc k).toArray) W' ∧ (LA tE (.pointer (some ⟨b, t * 3, none⟩))).run Tryz.prog W' = .ok (.agg (mkc k).toArray) W') W') := Lib.hid (fun W' hb => ⟨hb, (HB2.out.keep hb).cellv (i := 0) rfl, (HB2.out.keep hb).cellv (i := 1) rfl, (HB2.out.keep hb).cellv (i := 2) rfl, LL W' b1 _ hb (fun r hr => CK W' b1 t r hb (mkc_at hr) (RL.out t r hl2 hr)), LL W' b _ hb (fun r hr => CK W' b t r hb (mkc_at hr) (hc t r hl3 hr))⟩)
            dsimp only at EXT
            clear hc LL CK
            go_wp2
            go_region_held3 (fun W' => Below wr.heap.size wr W' ∧ W'.cell? ⟨p, 0, none⟩ = some (.slice (some ⟨b, 0, none⟩) (N k) c) ∧ W'.cell? ⟨p, 1, none⟩ = some (.slice (some ⟨b1, 0, none⟩) (N k + 70) c1') ∧ W'.cell? ⟨p, 2, none⟩ = some (.int .i64 ((k : Int) + 1)) ∧ (LA tE (.pointer (some ⟨b1, t * 3, none⟩))).run Tryz.prog W' = .ok (.agg (mkc k).toArray) W' ∧ (LA tE (.pointer (some ⟨b, t * 3, none⟩))).run Tryz.prog W' = .ok (.agg (mkc k).toArray) W') (first | exact EXT.out _ (Below.refl _ _).drew | exact EXT.out _ (kbt (And.left (by assumption)) hb)) (first | (go_at_call 150; with_reducible refine (isE_c k _ (by omega)).mono ?_; rintro e w8 ⟨rfl, hb⟩))
            go_wp2
            go_roundw
            case rel => exact ⟨t + 1, by omega, by go_num, Lib.hid (by rw [← hp]; exact kbt (by rw [← hp] at HW; exact HW.out) (And.left (by assumption))), Lib.hid (HB2.out.keep (And.left (by assumption)))⟩
            case measure => simp [intOf]; omega
          · have d3 : decide ((t : Int) < (N k : Int)) = false := decide_eq_false (by omega)
            have EXT : Hid (∀ W', Below wr.heap.size wr W' → (fun W' => Below wr.heap.size wr W' ∧ W'.cell? ⟨p, 0, none⟩ = some (.slice A (N k) c) ∧ W'.cell? ⟨p, 1, none⟩ = some (.slice (some ⟨b1, 0, none⟩) (N k + 70) c1') ∧ W'.cell? ⟨p, 2, none⟩ = some (.int .i64 ((k : Int) + 1)) ∧ (LA tE (.pointer (some ⟨b1, t * 3, none⟩))).run Tryz.prog W' = .ok (.agg (mkc k).toArray) W') W') := Lib.hid (fun W' hb => ⟨hb, (HB2.out.keep hb).cellv (i := 0) rfl, (HB2.out.keep hb).cellv (i := 1) rfl, (HB2.out.keep hb).cellv (i := 2) rfl, LL W' b1 _ hb (fun r hr => CK W' b1 t r hb (mkc_at hr) (RL.out t r hl2 hr))⟩)
            dsimp only at EXT
            clear LL CK
            go_wp2
            refine wp_region_held_drew (S := (fun W' => Below wr.heap.size wr W' ∧ W'.cell? ⟨p, 0, none⟩ = some (.slice A (N k) c) ∧ W'.cell? ⟨p, 1, none⟩ = some (.slice (some ⟨b1, 0, none⟩) (N k + 70) c1') ∧ W'.cell? ⟨p, 2, none⟩ = some (.int .i64 ((k : Int) + 1)) ∧ (LA tE (.pointer (some ⟨b1, t * 3, none⟩))).run Tryz.prog W' = .ok (.agg (mkc k).toArray) W')) (by kernel_rfl) (EXT.out _ (Below.refl _ _).drew) (fun hHeld => ?_)
            refine wpAnyH_take (i := 0) (v := ?_) rfl (by kernel_rfl) (by kernel_rfl) (by kernel_rfl) (fun _ _ _ h => h) (Or.inl ⟨by rfl, ?_⟩) (by assumption) ?_
            rotate_left
            · (intro w hSw; (try dsimp only at hSw); go_simp; try with_reducible rfl)
            try simp only [Act.put, List.getElem_toArray, List.getElem_cons_succ, List.getElem_cons_zero, List.setIfInBounds_toArray, List.set_cons_zero, List.set_cons_succ]
            refine wpAnyH_take (i := 1) (v := ?_) rfl (by kernel_rfl) (by kernel_rfl) (by kernel_rfl) (fun _ _ _ h => h) (Or.inl ⟨by rfl, ?_⟩) (by assumption) ?_
            rotate_left
            · (intro w hSw; (try dsimp only at hSw); go_simp; try with_reducible rfl)
            try simp only [Act.put, List.getElem_toArray, List.getElem_cons_succ, List.getElem_cons_zero, List.setIfInBounds_toArray, List.set_cons_zero, List.set_cons_succ]
            refine wpAnyH_take (i := 2) (v := ?_) rfl (by kernel_rfl) (by kernel_rfl) (by kernel_rfl) (fun _ _ _ h => h) (Or.inl ⟨by rfl, ?_⟩) (by assumption) ?_
            rotate_left
            · (intro w hSw; (try dsimp only at hSw); go_simp; try with_reducible rfl)
            try simp only [Act.put, List.getElem_toArray, List.getElem_cons_succ, List.getElem_cons_zero, List.setIfInBounds_toArray, List.set_cons_zero, List.set_cons_succ]
            refine wpAnyH_take (i := 3) (v := ?_) rfl (by kernel_rfl) (by kernel_rfl) (by kernel_rfl) (fun _ _ _ h => h) (Or.inl ⟨by rfl, ?_⟩) (by assumption) ?_
            rotate_left
            · (intro w hSw; (try dsimp only at hSw); go_simp; try with_reducible rfl)
            try simp only [Act.put, List.getElem_toArray, List.getElem_cons_succ, List.getElem_cons_zero, List.setIfInBounds_toArray, List.set_cons_zero, List.set_cons_succ]
            refine wpAnyH_take (i := 4) (v := ?_) rfl (by kernel_rfl) (by kernel_rfl) (by kernel_rfl) (fun _ _ _ h => h) (Or.inl ⟨by rfl, ?_⟩) (by assumption) ?_
            rotate_left
            · (intro w hSw; (try dsimp only at hSw); go_simp; try with_reducible rfl)
            try simp only [Act.put, List.getElem_toArray, List.getElem_cons_succ, List.getElem_cons_zero, List.setIfInBounds_toArray, List.set_cons_zero, List.set_cons_succ]
            refine wpAnyH_take (i := 5) (v := ?_) rfl (by kernel_rfl) (by kernel_rfl) (by kernel_rfl) (fun _ _ _ h => h) (Or.inl ⟨by rfl, ?_⟩) (by assumption) ?_
            rotate_left
            · (intro w hSw; (try dsimp only at hSw); go_simp; try with_reducible rfl)
            try simp only [Act.put, List.getElem_toArray, List.getElem_cons_succ, List.getElem_cons_zero, List.setIfInBounds_toArray, List.set_cons_zero, List.set_cons_succ]
            refine wpAnyH_take (i := 6) (v := ?_) rfl (by kernel_rfl) (by kernel_rfl) (by kernel_rfl) (fun _ _ _ h => h) (Or.inl ⟨by rfl, ?_⟩) (by assumption) ?_
            rotate_left
            · (intro w hSw; (try dsimp only at hSw); go_simp; try with_reducible rfl)
            try simp only [Act.put, List.getElem_toArray, List.getElem_cons_succ, List.getElem_cons_zero, List.setIfInBounds_toArray, List.set_cons_zero, List.set_cons_succ]
            refine wpAnyH_ready (rs := [7]) (by kernel_rfl) (by simp) ?_
            refine AllReadyH.cons rfl (fun K hK => ?_) AllReadyH.nil
            go_simp
            try (go_at_call 150; with_reducible refine (isE_c k _ (by omega)).mono ?_; rintro e w8 ⟨rfl, hb⟩)
            refine hK.out _ _ ?_ (fun hHeld => ?_)
            · (first | exact EXT.out _ (kbt (And.left (by assumption)) hb) | assumption)
            clear hK K
            try simp only [Act.put, List.getElem_toArray, List.getElem_cons_succ, List.getElem_cons_zero, List.setIfInBounds_toArray, List.set_cons_zero, List.set_cons_succ]
            refine wpAnyH_take (i := 8) (v := ?_) rfl (by kernel_rfl) (by kernel_rfl) (by kernel_rfl) (fun _ _ _ h => h) (Or.inl ⟨by rfl, ?_⟩) (by assumption) ?_
            rotate_left
            · (intro w hSw; (try dsimp only at hSw); go_simp; try with_reducible rfl)
            try simp only [Act.put, List.getElem_toArray, List.getElem_cons_succ, List.getElem_cons_zero, List.setIfInBounds_toArray, List.set_cons_zero, List.set_cons_succ]
            refine wpAnyH_take (i := 9) (v := ?_) rfl (by kernel_rfl) (by kernel_rfl) (by kernel_rfl) (fun _ _ _ h => h) (Or.inl ⟨by rfl, ?_⟩) (by assumption) ?_
            rotate_left
            · (intro w hSw; (try dsimp only at hSw); go_simp; try with_reducible rfl)
            try simp only [Act.put, List.getElem_toArray, List.getElem_cons_succ, List.getElem_cons_zero, List.setIfInBounds_toArray, List.set_cons_zero, List.set_cons_succ]
            refine wpAnyH_take (i := 10) (v := ?_) rfl (by kernel_rfl) (by kernel_rfl) (by kernel_rfl) (fun _ _ _ h => h) (Or.inl ⟨by rfl, ?_⟩) (by assumption) ?_
            rotate_left
            · (intro w hSw; (try dsimp only at hSw); go_simp; try with_reducible rfl)
            try simp only [Act.put, List.getElem_toArray, List.getElem_cons_succ, List.getElem_cons_zero, List.setIfInBounds_toArray, List.set_cons_zero, List.set_cons_succ]
            refine wpAnyH_take (i := 11) (v := ?_) rfl (by kernel_rfl) (by kernel_rfl) (by kernel_rfl) (fun _ _ _ h => h) (Or.inl ⟨by rfl, ?_⟩) (by assumption) ?_
            rotate_left
            · (intro w hSw; (try dsimp only at hSw); go_simp; try with_reducible rfl)
            try simp only [Act.put, List.getElem_toArray, List.getElem_cons_succ, List.getElem_cons_zero, List.setIfInBounds_toArray, List.set_cons_zero, List.set_cons_succ]
            refine wpAnyH_take (i := 12) (v := ?_) rfl (by kernel_rfl) (by kernel_rfl) (by kernel_rfl) (fun _ _ _ h => h) (Or.inl ⟨by rfl, ?_⟩) (by assumption) ?_
            rotate_left
            · (intro w hSw; (try dsimp only at hSw); go_simp; try with_reducible rfl)
            try simp only [Act.put, List.getElem_toArray, List.getElem_cons_succ, List.getElem_cons_zero, List.setIfInBounds_toArray, List.set_cons_zero, List.set_cons_succ]
            refine wpAnyH_take (i := 13) (v := ?_) rfl (by kernel_rfl) (by kernel_rfl) (by kernel_rfl) (fun _ _ _ h => h) (Or.inl ⟨by rfl, ?_⟩) (by assumption) ?_
            rotate_left
            · (intro w hSw; (try dsimp only at hSw); go_simp; try with_reducible rfl)
            try simp only [Act.put, List.getElem_toArray, List.getElem_cons_succ, List.getElem_cons_zero, List.setIfInBounds_toArray, List.set_cons_zero, List.set_cons_succ]
            refine wpAnyH_take (i := 14) (v := ?_) rfl (by kernel_rfl) (by kernel_rfl) (by kernel_rfl) (fun _ _ _ h => h) (Or.inl ⟨by rfl, ?_⟩) (by assumption) ?_
            rotate_left
            · (intro w hSw; (try dsimp only at hSw); go_simp; try with_reducible rfl)
            try simp only [Act.put, List.getElem_toArray, List.getElem_cons_succ, List.getElem_cons_zero, List.setIfInBounds_toArray, List.set_cons_zero, List.set_cons_succ]
            refine wpAnyH_take (i := 15) (v := ?_) rfl (by kernel_rfl) (by kernel_rfl) (by kernel_rfl) (fun _ _ _ h => h) (Or.inl ⟨by rfl, ?_⟩) (by assumption) ?_
            rotate_left
            · (intro w hSw; (try dsimp only at hSw); go_simp; try with_reducible rfl)
            try simp only [Act.put, List.getElem_toArray, List.getElem_cons_succ, List.getElem_cons_zero, List.setIfInBounds_toArray, List.set_cons_zero, List.set_cons_succ]
            refine wpAnyH_take (i := 16) (v := undef) rfl (by kernel_rfl) (by kernel_rfl) (by kernel_rfl) (fun _ _ _ h => h) (Or.inr ⟨by rfl, rfl⟩) (by assumption) ?_
            try simp only [Act.put, List.getElem_toArray, List.getElem_cons_succ, List.getElem_cons_zero, List.setIfInBounds_toArray, List.set_cons_zero, List.set_cons_succ]
            refine wpAnyH_take (i := 17) (v := undef) rfl (by kernel_rfl) (by kernel_rfl) (by kernel_rfl) (fun _ _ _ h => h) (Or.inr ⟨by rfl, rfl⟩) (by assumption) ?_
            try simp only [Act.put, List.getElem_toArray, List.getElem_cons_succ, List.getElem_cons_zero, List.setIfInBounds_toArray, List.set_cons_zero, List.set_cons_succ]
            refine wpAnyH_take (i := 18) (v := undef) rfl (by kernel_rfl) (by kernel_rfl) (by kernel_rfl) (fun _ _ _ h => h) (Or.inr ⟨by rfl, rfl⟩) (by assumption) ?_
            try simp only [Act.put, List.getElem_toArray, List.getElem_cons_succ, List.getElem_cons_zero, List.setIfInBounds_toArray, List.set_cons_zero, List.set_cons_succ]
            refine wpAnyH_take (i := 19) (v := undef) rfl (by kernel_rfl) (by kernel_rfl) (by kernel_rfl) (fun _ _ _ h => h) (Or.inr ⟨by rfl, rfl⟩) (by assumption) ?_
            try simp only [Act.put, List.getElem_toArray, List.getElem_cons_succ, List.getElem_cons_zero, List.setIfInBounds_toArray, List.set_cons_zero, List.set_cons_succ]
            refine wpAnyH_take (i := 20) (v := undef) rfl (by kernel_rfl) (by kernel_rfl) (by kernel_rfl) (fun _ _ _ h => h) (Or.inr ⟨by rfl, rfl⟩) (by assumption) ?_
            try simp only [Act.put, List.getElem_toArray, List.getElem_cons_succ, List.getElem_cons_zero, List.setIfInBounds_toArray, List.set_cons_zero, List.set_cons_succ]
            refine wpAnyH_take (i := 21) (v := undef) rfl (by kernel_rfl) (by kernel_rfl) (by kernel_rfl) (fun _ _ _ h => h) (Or.inr ⟨by rfl, rfl⟩) (by assumption) ?_
            try simp only [Act.put, List.getElem_toArray, List.getElem_cons_succ, List.getElem_cons_zero, List.setIfInBounds_toArray, List.set_cons_zero, List.set_cons_succ]
            refine wpAnyH_take (i := 22) (v := undef) rfl (by kernel_rfl) (by kernel_rfl) (by kernel_rfl) (fun _ _ _ h => h) (Or.inr ⟨by rfl, rfl⟩) (by assumption) ?_
            try simp only [Act.put, List.getElem_toArray, List.getElem_cons_succ, List.getElem_cons_zero, List.setIfInBounds_toArray, List.set_cons_zero, List.set_cons_succ]
            refine wpAnyH_take (i := 23) (v := undef) rfl (by kernel_rfl) (by kernel_rfl) (by kernel_rfl) (fun _ _ _ h => h) (Or.inr ⟨by rfl, rfl⟩) (by assumption) ?_
            try simp only [Act.put, List.getElem_toArray, List.getElem_cons_succ, List.getElem_cons_zero, List.setIfInBounds_toArray, List.set_cons_zero, List.set_cons_succ]
            refine wpAnyH_take (i := 24) (v := undef) rfl (by kernel_rfl) (by kernel_rfl) (by kernel_rfl) (fun _ _ _ h => h) (Or.inr ⟨by rfl, rfl⟩) (by assumption) ?_
            try simp only [Act.put, List.getElem_toArray, List.getElem_cons_succ, List.getElem_cons_zero, List.setIfInBounds_toArray, List.set_cons_zero, List.set_cons_succ]
            refine wpAnyH_take (i := 25) (v := ?_) rfl (by kernel_rfl) (by kernel_rfl) (by kernel_rfl) (fun _ _ _ h => h) (Or.inl ⟨by rfl, ?_⟩) (by assumption) ?_
            rotate_left
            · (intro w hSw; (try dsimp only at hSw); go_simp; try with_reducible rfl)
            try simp only [Act.put, List.getElem_toArray, List.getElem_cons_succ, List.getElem_cons_zero, List.setIfInBounds_toArray, List.set_cons_zero, List.set_cons_succ]
            refine wpAnyH_take (i := 26) (v := ?_) rfl (by kernel_rfl) (by kernel_rfl) (by kernel_rfl) (fun _ _ _ h => h) (Or.inl ⟨by rfl, ?_⟩) (by assumption) ?_
            rotate_left
            · (intro w hSw; (try dsimp only at hSw); go_simp; try with_reducible rfl)
            try simp only [Act.put, List.getElem_toArray, List.getElem_cons_succ, List.getElem_cons_zero, List.setIfInBounds_toArray, List.set_cons_zero, List.set_cons_succ]
            refine wpAnyH_done (by kernel_rfl) ?_ _
            go_wp2
            go_roundw
            case rel => exact ⟨t + 1, by omega, by go_num, Lib.hid (by rw [← hp]; exact kbt (by rw [← hp] at HW; exact HW.out) (And.left (by assumption))), Lib.hid (HB2.out.keep (And.left (by assumption)))⟩
            case measure => simp [intOf]; omega
        · obtain rfl : t = N k + 70 := by omega
          go_wp2
          go_roundw
          case rel => exact ⟨k + 1, by omega, by go_num, HB.out.trans (HW.out.mono (by have h9 := HB.out.size; rw [hp] at h9; exact h9))⟩
          case measure => simp [intOf]; omega
    · obtain rfl : k = m := by omega
      go_wp2
      go_ret
      exact ⟨rfl, HB.out⟩
end Go.Proofs.YtkpdomnmlinomabGreat.BookS
