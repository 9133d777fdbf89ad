-- PRINTED BY print.sh 35421559b90ae4d0a3588c463048766b98c2df88dd9212a6774a882060cdf62d: not written by this session
import Derived.Test.YtdfjbghmeoephaaPNumClampsx0
namespace Go.Proofs.Ytdfjbghmeoephaa.PNumClamps
open Go.RowKit Go.Proofs.YtdfjbghmeoephaaW.PrintWords Go.Proofs.YtdfjbghmeoephaaW.PrintLast Go.Proofs.YtdfjbghmeoephaaW.PrintMore
attribute [local go_sem] max2_int min2_int max_two min_two max_three min_three max_four min_four   -- for this text's walks alone
set_option linter.unusedVariables false
set_option linter.unusedSimpArgs false

/-! ### num_Clamp_int8: function 10 -/
def num_Clamp_int8.f (a0 : Int) (a1 : Int) (a2 : Int) : Option (Int) := some (mx (mn a0 a2) a1)
set_option maxHeartbeats 8000000 in
set_option maxRecDepth 100000 in
theorem num_Clamp_int8.calls (a0 : Int) (a1 : Int) (a2 : Int) (r : Int) (w : World) (h : num_Clamp_int8.f a0 a1 a2 = some r) :
    Calls Try.prog 10 #[.int .i8 a0, .int .i8 a1, .int .i8 a2] w fun e w' => e = .returned (.int .i8 r) ∧ Below w.heap.size w w' := by
  have HB := Aside0.mk (Below.refl w.heap.size w)
  have H : (some (mx (mn a0 a2) a1)) = some r := h
  clear h
  obtain ⟨ji4, hji4⟩ : ∃ j_ : Int, (mn a0 a2) = j_ := ⟨_, rfl⟩
  replace H : (some (mx (ji4) a1)) = some r := by first | (rw [hji4] at H; exact H) | (simp only [hji4] at H ⊢; exact H)
  have hji4_ : (if a2 < a0 then a2 else a0) = ji4 := hji4
  obtain ⟨ji5, hji5⟩ : ∃ j_ : Int, (mx (ji4) a1) = j_ := ⟨_, rfl⟩
  replace H : (some ji5) = some r := by first | (rw [hji5] at H; exact H) | (simp only [hji5] at H ⊢; exact H)
  have hji5_ : (if (ji4) < a1 then a1 else (ji4)) = ji5 := hji5
  obtain rfl := Option.some.inj H
  go_enter Try.func10, Try.ntmps10
  go_wp2
  go_ret
  exact ⟨by first | rfl | (simp [errW_none, errW_some] <;> rfl) | (simp only [← hji4, ← hji5]; first | rfl | (simp [errW_none, errW_some] <;> rfl)) | (simp [*, errW_none, errW_some] <;> rfl), by repeat (first | (with_reducible first | exact HB.out | apply below_alloc | apply pw_below_drewN | apply below_drew1) | exact HB.out)⟩

/-! ### num_Clamp_int16: function 11 -/
def num_Clamp_int16.f (a0 : Int) (a1 : Int) (a2 : Int) : Option (Int) := some (mx (mn a0 a2) a1)
set_option maxHeartbeats 8000000 in
set_option maxRecDepth 100000 in
theorem num_Clamp_int16.calls (a0 : Int) (a1 : Int) (a2 : Int) (r : Int) (w : World) (h : num_Clamp_int16.f a0 a1 a2 = some r) :
    Calls Try.prog 11 #[.int .i16 a0, .int .i16 a1, .int .i16 a2] w fun e w' => e = .returned (.int .i16 r) ∧ Below w.heap.size w w' := by
  have HB := Aside0.mk (Below.refl w.heap.size w)
  have H : (some (mx (mn a0 a2) a1)) = some r := h
  clear h
  obtain ⟨ji4, hji4⟩ : ∃ j_ : Int, (mn a0 a2) = j_ := ⟨_, rfl⟩
  replace H : (some (mx (ji4) a1)) = some r := by first | (rw [hji4] at H; exact H) | (simp only [hji4] at H ⊢; exact H)
  have hji4_ : (if a2 < a0 then a2 else a0) = ji4 := hji4
  obtain ⟨ji5, hji5⟩ : ∃ j_ : Int, (mx (ji4) a1) = j_ := ⟨_, rfl⟩
  replace H : (some ji5) = some r := by first | (rw [hji5] at H; exact H) | (simp only [hji5] at H ⊢; exact H)
  have hji5_ : (if (ji4) < a1 then a1 else (ji4)) = ji5 := hji5
  obtain rfl := Option.some.inj H
  go_enter Try.func11, Try.ntmps11
  go_wp2
  go_ret
  exact ⟨by first | rfl | (simp [errW_none, errW_some] <;> rfl) | (simp only [← hji4, ← hji5]; first | rfl | (simp [errW_none, errW_some] <;> rfl)) | (simp [*, errW_none, errW_some] <;> rfl), by repeat (first | (with_reducible first | exact HB.out | apply below_alloc | apply pw_below_drewN | apply below_drew1) | exact HB.out)⟩

/-! ### num_Clamp_int32: function 12 -/
def num_Clamp_int32.f (a0 : Int) (a1 : Int) (a2 : Int) : Option (Int) := some (mx (mn a0 a2) a1)
set_option maxHeartbeats 8000000 in
set_option maxRecDepth 100000 in
theorem num_Clamp_int32.calls (a0 : Int) (a1 : Int) (a2 : Int) (r : Int) (w : World) (h : num_Clamp_int32.f a0 a1 a2 = some r) :
    Calls Try.prog 12 #[.int .i32 a0, .int .i32 a1, .int .i32 a2] w fun e w' => e = .returned (.int .i32 r) ∧ Below w.heap.size w w' := by
  have HB := Aside0.mk (Below.refl w.heap.size w)
  have H : (some (mx (mn a0 a2) a1)) = some r := h
  clear h
  obtain ⟨ji4, hji4⟩ : ∃ j_ : Int, (mn a0 a2) = j_ := ⟨_, rfl⟩
  replace H : (some (mx (ji4) a1)) = some r := by first | (rw [hji4] at H; exact H) | (simp only [hji4] at H ⊢; exact H)
  have hji4_ : (if a2 < a0 then a2 else a0) = ji4 := hji4
  obtain ⟨ji5, hji5⟩ : ∃ j_ : Int, (mx (ji4) a1) = j_ := ⟨_, rfl⟩
  replace H : (some ji5) = some r := by first | (rw [hji5] at H; exact H) | (simp only [hji5] at H ⊢; exact H)
  have hji5_ : (if (ji4) < a1 then a1 else (ji4)) = ji5 := hji5
  obtain rfl := Option.some.inj H
  go_enter Try.func12, Try.ntmps12
  go_wp2
  go_ret
  exact ⟨by first | rfl | (simp [errW_none, errW_some] <;> rfl) | (simp only [← hji4, ← hji5]; first | rfl | (simp [errW_none, errW_some] <;> rfl)) | (simp [*, errW_none, errW_some] <;> rfl), by repeat (first | (with_reducible first | exact HB.out | apply below_alloc | apply pw_below_drewN | apply below_drew1) | exact HB.out)⟩

/-! ### num_Clamp_int64: function 13 -/
def num_Clamp_int64.f (a0 : Int) (a1 : Int) (a2 : Int) : Option (Int) := some (mx (mn a0 a2) a1)
set_option maxHeartbeats 8000000 in
set_option maxRecDepth 100000 in
theorem num_Clamp_int64.calls (a0 : Int) (a1 : Int) (a2 : Int) (r : Int) (w : World) (h : num_Clamp_int64.f a0 a1 a2 = some r) :
    Calls Try.prog 13 #[.int .i64 a0, .int .i64 a1, .int .i64 a2] w fun e w' => e = .returned (.int .i64 r) ∧ Below w.heap.size w w' := by
  have HB := Aside0.mk (Below.refl w.heap.size w)
  have H : (some (mx (mn a0 a2) a1)) = some r := h
  clear h
  obtain ⟨ji4, hji4⟩ : ∃ j_ : Int, (mn a0 a2) = j_ := ⟨_, rfl⟩
  replace H : (some (mx (ji4) a1)) = some r := by first | (rw [hji4] at H; exact H) | (simp only [hji4] at H ⊢; exact H)
  have hji4_ : (if a2 < a0 then a2 else a0) = ji4 := hji4
  obtain ⟨ji5, hji5⟩ : ∃ j_ : Int, (mx (ji4) a1) = j_ := ⟨_, rfl⟩
  replace H : (some ji5) = some r := by first | (rw [hji5] at H; exact H) | (simp only [hji5] at H ⊢; exact H)
  have hji5_ : (if (ji4) < a1 then a1 else (ji4)) = ji5 := hji5
  obtain rfl := Option.some.inj H
  go_enter Try.func13, Try.ntmps13
  go_wp2
  go_ret
  exact ⟨by first | rfl | (simp [errW_none, errW_some] <;> rfl) | (simp only [← hji4, ← hji5]; first | rfl | (simp [errW_none, errW_some] <;> rfl)) | (simp [*, errW_none, errW_some] <;> rfl), by repeat (first | (with_reducible first | exact HB.out | apply below_alloc | apply pw_below_drewN | apply below_drew1) | exact HB.out)⟩

/-! ### num_Clamp_int: function 14 -/
def num_Clamp_int.f (a0 : Int) (a1 : Int) (a2 : Int) : Option (Int) := some (mx (mn a0 a2) a1)
set_option maxHeartbeats 8000000 in
set_option maxRecDepth 100000 in
theorem num_Clamp_int.calls (a0 : Int) (a1 : Int) (a2 : Int) (r : Int) (w : World) (h : num_Clamp_int.f a0 a1 a2 = some r) :
    Calls Try.prog 14 #[.int .i64 a0, .int .i64 a1, .int .i64 a2] w fun e w' => e = .returned (.int .i64 r) ∧ Below w.heap.size w w' := by
  have HB := Aside0.mk (Below.refl w.heap.size w)
  have H : (some (mx (mn a0 a2) a1)) = some r := h
  clear h
  obtain ⟨ji4, hji4⟩ : ∃ j_ : Int, (mn a0 a2) = j_ := ⟨_, rfl⟩
  replace H : (some (mx (ji4) a1)) = some r := by first | (rw [hji4] at H; exact H) | (simp only [hji4] at H ⊢; exact H)
  have hji4_ : (if a2 < a0 then a2 else a0) = ji4 := hji4
  obtain ⟨ji5, hji5⟩ : ∃ j_ : Int, (mx (ji4) a1) = j_ := ⟨_, rfl⟩
  replace H : (some ji5) = some r := by first | (rw [hji5] at H; exact H) | (simp only [hji5] at H ⊢; exact H)
  have hji5_ : (if (ji4) < a1 then a1 else (ji4)) = ji5 := hji5
  obtain rfl := Option.some.inj H
  go_enter Try.func14, Try.ntmps14
  go_wp2
  go_ret
  exact ⟨by first | rfl | (simp [errW_none, errW_some] <;> rfl) | (simp only [← hji4, ← hji5]; first | rfl | (simp [errW_none, errW_some] <;> rfl)) | (simp [*, errW_none, errW_some] <;> rfl), by repeat (first | (with_reducible first | exact HB.out | apply below_alloc | apply pw_below_drewN | apply below_drew1) | exact HB.out)⟩

/-! ### cabstandlaw01_Small: function 15 -/
def cabstandlaw01_Small.f (a0 : Int) (a1 : Int) (a2 : Int) : Option (Int) := some (mx (mn a0 a2) a1)
set_option maxHeartbeats 8000000 in
set_option maxRecDepth 100000 in
theorem cabstandlaw01_Small.calls (a0 : Int) (a1 : Int) (a2 : Int) (r : Int) (w : World) (h : cabstandlaw01_Small.f a0 a1 a2 = some r) :
    Calls Try.prog 15 #[.int .i8 a0, .int .i8 a1, .int .i8 a2] w fun e w' => e = .returned (.int .i8 r) ∧ Below w.heap.size w w' := by
  have HB := Aside0.mk (Below.refl w.heap.size w)
  have H : (some (mx (mn a0 a2) a1)) = some r := h
  clear h
  obtain ⟨ji4, hji4⟩ : ∃ j_ : Int, (mn a0 a2) = j_ := ⟨_, rfl⟩
  replace H : (some (mx (ji4) a1)) = some r := by first | (rw [hji4] at H; exact H) | (simp only [hji4] at H ⊢; exact H)
  have hji4_ : (if a2 < a0 then a2 else a0) = ji4 := hji4
  obtain ⟨ji5, hji5⟩ : ∃ j_ : Int, (mx (ji4) a1) = j_ := ⟨_, rfl⟩
  replace H : (some ji5) = some r := by first | (rw [hji5] at H; exact H) | (simp only [hji5] at H ⊢; exact H)
  have hji5_ : (if (ji4) < a1 then a1 else (ji4)) = ji5 := hji5
  obtain rfl := Option.some.inj H
  go_enter Try.func15, Try.ntmps15
  go_wp2
  go_ret
  exact ⟨by first | rfl | (simp [errW_none, errW_some] <;> rfl) | (simp only [← hji4, ← hji5]; first | rfl | (simp [errW_none, errW_some] <;> rfl)) | (simp [*, errW_none, errW_some] <;> rfl), by repeat (first | (with_reducible first | exact HB.out | apply below_alloc | apply pw_below_drewN | apply below_drew1) | exact HB.out)⟩

/-! ### cabstandref01_Clamp: function 16 -/
def cabstandref01_Clamp.j0 : Nat → Int → Int → Int → Bool → Option (Int)
  | 0, _, _, _, _ => none
  | k + 1, x0, x1, x2, x14 => if x14 = true then (some x1) else (if x0 > x2 then (some x2) else (some x0))
def cabstandref01_Clamp.f (k : Nat) (a0 : Int) (a1 : Int) (a2 : Int) : Option (Int) := if a2 < a1 then (cabstandref01_Clamp.j0 k a0 a1 a2 true) else (cabstandref01_Clamp.j0 k a0 a1 a2 (decide (a0 < a1)))
theorem cabstandref01_Clamp.mono_l : ∀ k, (∀ y0 y1 y2 y3, LeO (cabstandref01_Clamp.j0 k y0 y1 y2 y3) (cabstandref01_Clamp.j0 (k + 1) y0 y1 y2 y3))
  | 0 => fun _ _ _ _ r h => by simp [cabstandref01_Clamp.j0] at h
  | k + 1 => by
    have ih0 := cabstandref01_Clamp.mono_l k
    · intro y0 y1 y2 y3
      unfold cabstandref01_Clamp.j0
      repeat' first
      | (with_reducible exact ih0 _ _ _ _)
      | (with_reducible exact LeO.refl _)
      | (with_reducible exact LeO.none _)
      | (with_reducible refine LeO.ite ?_ ?_)
      | (with_reducible refine LeO.bind ?_ (fun _ => ?_))
      | exact ih0 _ _ _ _
      | exact LeO.none _
      | refine LeO.ite ?_ ?_
      | refine LeO.bind ?_ (fun _ => ?_)
theorem cabstandref01_Clamp.mono : ∀ a0 a1 a2 k, LeO (cabstandref01_Clamp.f k a0 a1 a2) (cabstandref01_Clamp.f (k + 1) a0 a1 a2) := by
  intro a0 a1 a2 k
  have ih0 := cabstandref01_Clamp.mono_l k
  unfold cabstandref01_Clamp.f
  repeat' first
      | (with_reducible exact ih0 _ _ _ _)
      | (with_reducible exact LeO.refl _)
      | (with_reducible exact LeO.none _)
      | (with_reducible refine LeO.ite ?_ ?_)
      | (with_reducible refine LeO.bind ?_ (fun _ => ?_))
      | exact ih0 _ _ _ _
      | exact LeO.none _
      | refine LeO.ite ?_ ?_
      | refine LeO.bind ?_ (fun _ => ?_)
set_option maxHeartbeats 8000000 in
set_option maxRecDepth 100000 in
theorem cabstandref01_Clamp.calls (k : Nat) (a0 : Int) (a1 : Int) (a2 : Int) (r : Int) (w : World) (h : cabstandref01_Clamp.f k a0 a1 a2 = some r) :
    Calls Try.prog 16 #[.int .i64 a0, .int .i64 a1, .int .i64 a2] w fun e w' => e = .returned (.int .i64 r) ∧ Drawn0 w w' := by
  have H : (if a2 < a1 then (cabstandref01_Clamp.j0 k a0 a1 a2 true) else (cabstandref01_Clamp.j0 k a0 a1 a2 (decide (a0 < a1)))) = some r := h
  clear h
  have HC4 := Aside0.mk H
  clear H
  go_enter Try.func16, Try.ntmps16
  go_upto_region 1 with (fail)
  go_cut [14] (fun v14 wc => ∃ (kq : Nat) (x14_3 : Bool), v14 = .bool x14_3 ∧ Aside0 (cabstandref01_Clamp.j0 kq a0 a1 a2 x14_3 = some r) ∧ Aside0 (kq ≤ k) ∧ Drawn0 w wc)
  case first =>
    have H := HC4.out
    clear HC4
    by_cases c5 : a2 < a1
    · rw [if_pos c5] at H
      have c5b0 : decide (a2 < a1) = true := decide_eq_true c5
      clear c5
      (first | rw [c5b0] | (simp only [i64_w, i32_w]; rw [c5b0]) | skip)
      have H' := Aside0.mk H
      clear H
      go_wp2
      go_meet
      case rel => exact ⟨_, (true), (by first | rfl | (simp; done) | (simp [*]; done)), H', ⟨by first | omega | exact Nat.le_refl _⟩, by repeat (first | exact Drawn0.refl _ | apply Drawn0.step)⟩
    · rw [if_neg c5] at H
      have c5b0 : decide (a2 < a1) = false := decide_eq_false c5
      clear c5
      (first | rw [c5b0] | (simp only [i64_w, i32_w]; rw [c5b0]) | skip)
      have H' := Aside0.mk H
      clear H
      go_wp2
      go_meet
      case rel => exact ⟨_, (decide (a0 < a1)), (by first | rfl | (simp; done) | (simp [*]; done)), H', ⟨by first | omega | exact Nat.le_refl _⟩, by repeat (first | exact Drawn0.refl _ | apply Drawn0.step)⟩
  case rest =>
    clear HC4
    try clear c1
    try clear p2
    try clear c5
    try clear c5b0
    obtain ⟨kq, x14_3, rfl, HA, HJ3, ⟨mc3, rfl⟩⟩ := hcut
    cases kq with
    | zero => exact absurd HA.out (by simp [cabstandref01_Clamp.j0])
    | succ kj3 =>
      have H := HA.out
      clear HA
      simp only [cabstandref01_Clamp.j0] at H
      by_cases c6 : x14_3 = true
      · subst c6
        have H1 : (some a1) = some r := by rw [if_pos rfl] at H; exact H
        clear H
        have H := H1
        clear H1
        obtain rfl := Option.some.inj H
        go_wp2
        go_ret
        exact ⟨by first | rfl | (simp; done) | (simp [*]; done), by repeat (first | exact Drawn0.refl _ | apply Drawn0.step)⟩
      · replace c6 := Bool.eq_false_iff.mpr c6
        subst c6
        have H1 : (if a0 > a2 then (some a2) else (some a0)) = some r := by rw [if_neg (show ¬ (false = true) by decide)] at H; exact H
        clear H
        have H := H1
        clear H1
        by_cases c7 : a0 > a2
        · rw [if_pos c7] at H
          have c7b0 : decide (a2 < a0) = true := decide_eq_true c7
          clear c7
          obtain rfl := Option.some.inj H
          go_wp2
          go_ret
          exact ⟨by first | rfl | (simp; done) | (simp [*]; done), by repeat (first | exact Drawn0.refl _ | apply Drawn0.step)⟩
        · rw [if_neg c7] at H
          have c7b0 : decide (a2 < a0) = false := decide_eq_false c7
          clear c7
          obtain rfl := Option.some.inj H
          go_wp2
          go_ret
          exact ⟨by first | rfl | (simp; done) | (simp [*]; done), by repeat (first | exact Drawn0.refl _ | apply Drawn0.step)⟩

/-! ### cabstandlaw01_NumClamps: function 3 -/
def cabstandlaw01_NumClamps.f (k : Nat) (a0 : Int) (a1 : Int) (a2 : Int) : Option (Bool) := (num_Clamp_int8.f (IntKind.i8.wrap (a0)) (IntKind.i8.wrap (a1)) (IntKind.i8.wrap (a2))).bind fun t101 => ((num_Clamp_int16.f (IntKind.i16.wrap (a0)) (IntKind.i16.wrap (a1)) (IntKind.i16.wrap (a2))).bind fun t102 => ((num_Clamp_int32.f (wrap32 (a0)) (wrap32 (a1)) (wrap32 (a2))).bind fun t103 => ((num_Clamp_int64.f a0 a1 a2).bind fun t104 => ((num_Clamp_int.f a0 a1 a2).bind fun t105 => ((cabstandlaw01_Small.f (IntKind.i8.wrap (a0)) (IntKind.i8.wrap (a1)) (IntKind.i8.wrap (a2))).bind fun t106 => ((cabstandref01_Clamp.f k (wrap64 (IntKind.i8.wrap (a0))) (wrap64 (IntKind.i8.wrap (a1))) (wrap64 (IntKind.i8.wrap (a2)))).bind fun t107 => ((cabstandref01_Clamp.f k (wrap64 (IntKind.i16.wrap (a0))) (wrap64 (IntKind.i16.wrap (a1))) (wrap64 (IntKind.i16.wrap (a2)))).bind fun t108 => ((cabstandref01_Clamp.f k (wrap64 (wrap32 (a0))) (wrap64 (wrap32 (a1))) (wrap64 (wrap32 (a2)))).bind fun t109 => ((cabstandref01_Clamp.f k a0 a1 a2).bind fun t110 => (if (wrap64 (t101)) = t107 then (if (wrap64 (t102)) = t108 then (if (wrap64 (t103)) = t109 then (if t104 = t110 then (if t105 = t110 then (some ((wrap64 (t106)) == t107)) else (some false)) else (some false)) else (some false)) else (some false)) else (some false)))))))))))
theorem cabstandlaw01_NumClamps.mono : ∀ a0 a1 a2 k, LeO (cabstandlaw01_NumClamps.f k a0 a1 a2) (cabstandlaw01_NumClamps.f (k + 1) a0 a1 a2) := by
  intro a0 a1 a2 k
  unfold cabstandlaw01_NumClamps.f
  repeat' first
      | (with_reducible exact cabstandref01_Clamp.mono _ _ _ _)
      | (with_reducible exact LeO.refl _)
      | (with_reducible exact LeO.none _)
      | (with_reducible refine LeO.ite ?_ ?_)
      | (with_reducible refine LeO.bind ?_ (fun _ => ?_))
      | exact cabstandref01_Clamp.mono _ _ _ _
      | exact LeO.none _
      | refine LeO.ite ?_ ?_
      | refine LeO.bind ?_ (fun _ => ?_)
set_option maxHeartbeats 8000000 in
set_option maxRecDepth 100000 in
theorem cabstandlaw01_NumClamps.calls (k : Nat) (a0 : Int) (a1 : Int) (a2 : Int) (r : Bool) (w : World) (h : cabstandlaw01_NumClamps.f k a0 a1 a2 = some r) :
    Calls Try.prog 3 #[.int .i64 a0, .int .i64 a1, .int .i64 a2] w fun e w' => e = .returned (.bool r) ∧ Below w.heap.size w w' := by
  have HB := Aside0.mk (Below.refl w.heap.size w)
  have H : ((num_Clamp_int8.f (IntKind.i8.wrap (a0)) (IntKind.i8.wrap (a1)) (IntKind.i8.wrap (a2))).bind fun t101 => ((num_Clamp_int16.f (IntKind.i16.wrap (a0)) (IntKind.i16.wrap (a1)) (IntKind.i16.wrap (a2))).bind fun t102 => ((num_Clamp_int32.f (wrap32 (a0)) (wrap32 (a1)) (wrap32 (a2))).bind fun t103 => ((num_Clamp_int64.f a0 a1 a2).bind fun t104 => ((num_Clamp_int.f a0 a1 a2).bind fun t105 => ((cabstandlaw01_Small.f (IntKind.i8.wrap (a0)) (IntKind.i8.wrap (a1)) (IntKind.i8.wrap (a2))).bind fun t106 => ((cabstandref01_Clamp.f k (wrap64 (IntKind.i8.wrap (a0))) (wrap64 (IntKind.i8.wrap (a1))) (wrap64 (IntKind.i8.wrap (a2)))).bind fun t107 => ((cabstandref01_Clamp.f k (wrap64 (IntKind.i16.wrap (a0))) (wrap64 (IntKind.i16.wrap (a1))) (wrap64 (IntKind.i16.wrap (a2)))).bind fun t108 => ((cabstandref01_Clamp.f k (wrap64 (wrap32 (a0))) (wrap64 (wrap32 (a1))) (wrap64 (wrap32 (a2)))).bind fun t109 => ((cabstandref01_Clamp.f k a0 a1 a2).bind fun t110 => (if (wrap64 (t101)) = t107 then (if (wrap64 (t102)) = t108 then (if (wrap64 (t103)) = t109 then (if t104 = t110 then (if t105 = t110 then (some ((wrap64 (t106)) == t107)) else (some false)) else (some false)) else (some false)) else (some false)) else (some false)))))))))))) = some r := h
  clear h
  replace H := Option.bind_eq_some_iff.mp H
  obtain ⟨t101, A40, H⟩ := H
  replace H : ((num_Clamp_int16.f (IntKind.i16.wrap (a0)) (IntKind.i16.wrap (a1)) (IntKind.i16.wrap (a2))).bind fun t102 => ((num_Clamp_int32.f (wrap32 (a0)) (wrap32 (a1)) (wrap32 (a2))).bind fun t103 => ((num_Clamp_int64.f a0 a1 a2).bind fun t104 => ((num_Clamp_int.f a0 a1 a2).bind fun t105 => ((cabstandlaw01_Small.f (IntKind.i8.wrap (a0)) (IntKind.i8.wrap (a1)) (IntKind.i8.wrap (a2))).bind fun t106 => ((cabstandref01_Clamp.f k (wrap64 (IntKind.i8.wrap (a0))) (wrap64 (IntKind.i8.wrap (a1))) (wrap64 (IntKind.i8.wrap (a2)))).bind fun t107 => ((cabstandref01_Clamp.f k (wrap64 (IntKind.i16.wrap (a0))) (wrap64 (IntKind.i16.wrap (a1))) (wrap64 (IntKind.i16.wrap (a2)))).bind fun t108 => ((cabstandref01_Clamp.f k (wrap64 (wrap32 (a0))) (wrap64 (wrap32 (a1))) (wrap64 (wrap32 (a2)))).bind fun t109 => ((cabstandref01_Clamp.f k a0 a1 a2).bind fun t110 => (if (wrap64 (t101)) = t107 then (if (wrap64 (t102)) = t108 then (if (wrap64 (t103)) = t109 then (if t104 = t110 then (if t105 = t110 then (some ((wrap64 (t106)) == t107)) else (some false)) else (some false)) else (some false)) else (some false)) else (some false))))))))))) = some r := H
  have A4 := Aside0.mk A40
  clear A40
  replace H := Option.bind_eq_some_iff.mp H
  obtain ⟨t102, A50, H⟩ := H
  replace H : ((num_Clamp_int32.f (wrap32 (a0)) (wrap32 (a1)) (wrap32 (a2))).bind fun t103 => ((num_Clamp_int64.f a0 a1 a2).bind fun t104 => ((num_Clamp_int.f a0 a1 a2).bind fun t105 => ((cabstandlaw01_Small.f (IntKind.i8.wrap (a0)) (IntKind.i8.wrap (a1)) (IntKind.i8.wrap (a2))).bind fun t106 => ((cabstandref01_Clamp.f k (wrap64 (IntKind.i8.wrap (a0))) (wrap64 (IntKind.i8.wrap (a1))) (wrap64 (IntKind.i8.wrap (a2)))).bind fun t107 => ((cabstandref01_Clamp.f k (wrap64 (IntKind.i16.wrap (a0))) (wrap64 (IntKind.i16.wrap (a1))) (wrap64 (IntKind.i16.wrap (a2)))).bind fun t108 => ((cabstandref01_Clamp.f k (wrap64 (wrap32 (a0))) (wrap64 (wrap32 (a1))) (wrap64 (wrap32 (a2)))).bind fun t109 => ((cabstandref01_Clamp.f k a0 a1 a2).bind fun t110 => (if (wrap64 (t101)) = t107 then (if (wrap64 (t102)) = t108 then (if (wrap64 (t103)) = t109 then (if t104 = t110 then (if t105 = t110 then (some ((wrap64 (t106)) == t107)) else (some false)) else (some false)) else (some false)) else (some false)) else (some false)))))))))) = some r := H
  have A5 := Aside0.mk A50
  clear A50
  replace H := Option.bind_eq_some_iff.mp H
  obtain ⟨t103, A60, H⟩ := H
  replace H : ((num_Clamp_int64.f a0 a1 a2).bind fun t104 => ((num_Clamp_int.f a0 a1 a2).bind fun t105 => ((cabstandlaw01_Small.f (IntKind.i8.wrap (a0)) (IntKind.i8.wrap (a1)) (IntKind.i8.wrap (a2))).bind fun t106 => ((cabstandref01_Clamp.f k (wrap64 (IntKind.i8.wrap (a0))) (wrap64 (IntKind.i8.wrap (a1))) (wrap64 (IntKind.i8.wrap (a2)))).bind fun t107 => ((cabstandref01_Clamp.f k (wrap64 (IntKind.i16.wrap (a0))) (wrap64 (IntKind.i16.wrap (a1))) (wrap64 (IntKind.i16.wrap (a2)))).bind fun t108 => ((cabstandref01_Clamp.f k (wrap64 (wrap32 (a0))) (wrap64 (wrap32 (a1))) (wrap64 (wrap32 (a2)))).bind fun t109 => ((cabstandref01_Clamp.f k a0 a1 a2).bind fun t110 => (if (wrap64 (t101)) = t107 then (if (wrap64 (t102)) = t108 then (if (wrap64 (t103)) = t109 then (if t104 = t110 then (if t105 = t110 then (some ((wrap64 (t106)) == t107)) else (some false)) else (some false)) else (some false)) else (some false)) else (some false))))))))) = some r := H
  have A6 := Aside0.mk A60
  clear A60
  replace H := Option.bind_eq_some_iff.mp H
  obtain ⟨t104, A70, H⟩ := H
  replace H : ((num_Clamp_int.f a0 a1 a2).bind fun t105 => ((cabstandlaw01_Small.f (IntKind.i8.wrap (a0)) (IntKind.i8.wrap (a1)) (IntKind.i8.wrap (a2))).bind fun t106 => ((cabstandref01_Clamp.f k (wrap64 (IntKind.i8.wrap (a0))) (wrap64 (IntKind.i8.wrap (a1))) (wrap64 (IntKind.i8.wrap (a2)))).bind fun t107 => ((cabstandref01_Clamp.f k (wrap64 (IntKind.i16.wrap (a0))) (wrap64 (IntKind.i16.wrap (a1))) (wrap64 (IntKind.i16.wrap (a2)))).bind fun t108 => ((cabstandref01_Clamp.f k (wrap64 (wrap32 (a0))) (wrap64 (wrap32 (a1))) (wrap64 (wrap32 (a2)))).bind fun t109 => ((cabstandref01_Clamp.f k a0 a1 a2).bind fun t110 => (if (wrap64 (t101)) = t107 then (if (wrap64 (t102)) = t108 then (if (wrap64 (t103)) = t109 then (if t104 = t110 then (if t105 = t110 then (some ((wrap64 (t106)) == t107)) else (some false)) else (some false)) else (some false)) else (some false)) else (some false)))))))) = some r := H
  have A7 := Aside0.mk A70
  clear A70
  replace H := Option.bind_eq_some_iff.mp H
  obtain ⟨t105, A80, H⟩ := H
  replace H : ((cabstandlaw01_Small.f (IntKind.i8.wrap (a0)) (IntKind.i8.wrap (a1)) (IntKind.i8.wrap (a2))).bind fun t106 => ((cabstandref01_Clamp.f k (wrap64 (IntKind.i8.wrap (a0))) (wrap64 (IntKind.i8.wrap (a1))) (wrap64 (IntKind.i8.wrap (a2)))).bind fun t107 => ((cabstandref01_Clamp.f k (wrap64 (IntKind.i16.wrap (a0))) (wrap64 (IntKind.i16.wrap (a1))) (wrap64 (IntKind.i16.wrap (a2)))).bind fun t108 => ((cabstandref01_Clamp.f k (wrap64 (wrap32 (a0))) (wrap64 (wrap32 (a1))) (wrap64 (wrap32 (a2)))).bind fun t109 => ((cabstandref01_Clamp.f k a0 a1 a2).bind fun t110 => (if (wrap64 (t101)) = t107 then (if (wrap64 (t102)) = t108 then (if (wrap64 (t103)) = t109 then (if t104 = t110 then (if t105 = t110 then (some ((wrap64 (t106)) == t107)) else (some false)) else (some false)) else (some false)) else (some false)) else (some false))))))) = some r := H
  have A8 := Aside0.mk A80
  clear A80
  replace H := Option.bind_eq_some_iff.mp H
  obtain ⟨t106, A90, H⟩ := H
  replace H : ((cabstandref01_Clamp.f k (wrap64 (IntKind.i8.wrap (a0))) (wrap64 (IntKind.i8.wrap (a1))) (wrap64 (IntKind.i8.wrap (a2)))).bind fun t107 => ((cabstandref01_Clamp.f k (wrap64 (IntKind.i16.wrap (a0))) (wrap64 (IntKind.i16.wrap (a1))) (wrap64 (IntKind.i16.wrap (a2)))).bind fun t108 => ((cabstandref01_Clamp.f k (wrap64 (wrap32 (a0))) (wrap64 (wrap32 (a1))) (wrap64 (wrap32 (a2)))).bind fun t109 => ((cabstandref01_Clamp.f k a0 a1 a2).bind fun t110 => (if (wrap64 (t101)) = t107 then (if (wrap64 (t102)) = t108 then (if (wrap64 (t103)) = t109 then (if t104 = t110 then (if t105 = t110 then (some ((wrap64 (t106)) == t107)) else (some false)) else (some false)) else (some false)) else (some false)) else (some false)))))) = some r := H
  have A9 := Aside0.mk A90
  clear A90
  replace H := Option.bind_eq_some_iff.mp H
  obtain ⟨t107, A100, H⟩ := H
  replace H : ((cabstandref01_Clamp.f k (wrap64 (IntKind.i16.wrap (a0))) (wrap64 (IntKind.i16.wrap (a1))) (wrap64 (IntKind.i16.wrap (a2)))).bind fun t108 => ((cabstandref01_Clamp.f k (wrap64 (wrap32 (a0))) (wrap64 (wrap32 (a1))) (wrap64 (wrap32 (a2)))).bind fun t109 => ((cabstandref01_Clamp.f k a0 a1 a2).bind fun t110 => (if (wrap64 (t101)) = t107 then (if (wrap64 (t102)) = t108 then (if (wrap64 (t103)) = t109 then (if t104 = t110 then (if t105 = t110 then (some ((wrap64 (t106)) == t107)) else (some false)) else (some false)) else (some false)) else (some false)) else (some false))))) = some r := H
  have A10 := Aside0.mk A100
  clear A100
  replace H := Option.bind_eq_some_iff.mp H
  obtain ⟨t108, A110, H⟩ := H
  replace H : ((cabstandref01_Clamp.f k (wrap64 (wrap32 (a0))) (wrap64 (wrap32 (a1))) (wrap64 (wrap32 (a2)))).bind fun t109 => ((cabstandref01_Clamp.f k a0 a1 a2).bind fun t110 => (if (wrap64 (t101)) = t107 then (if (wrap64 (t102)) = t108 then (if (wrap64 (t103)) = t109 then (if t104 = t110 then (if t105 = t110 then (some ((wrap64 (t106)) == t107)) else (some false)) else (some false)) else (some false)) else (some false)) else (some false)))) = some r := H
  have A11 := Aside0.mk A110
  clear A110
  replace H := Option.bind_eq_some_iff.mp H
  obtain ⟨t109, A120, H⟩ := H
  replace H : ((cabstandref01_Clamp.f k a0 a1 a2).bind fun t110 => (if (wrap64 (t101)) = t107 then (if (wrap64 (t102)) = t108 then (if (wrap64 (t103)) = t109 then (if t104 = t110 then (if t105 = t110 then (some ((wrap64 (t106)) == t107)) else (some false)) else (some false)) else (some false)) else (some false)) else (some false))) = some r := H
  have A12 := Aside0.mk A120
  clear A120
  replace H := Option.bind_eq_some_iff.mp H
  obtain ⟨t110, A130, H⟩ := H
  replace H : (if (wrap64 (t101)) = t107 then (if (wrap64 (t102)) = t108 then (if (wrap64 (t103)) = t109 then (if t104 = t110 then (if t105 = t110 then (some ((wrap64 (t106)) == t107)) else (some false)) else (some false)) else (some false)) else (some false)) else (some false)) = some r := H
  have A13 := Aside0.mk A130
  clear A130
  by_cases c14 : (wrap64 (t101)) = t107
  · rw [if_pos c14] at H
    have c14b0 : ((wrap64 (t101)) == t107) = true := beq_iff_eq.mpr c14
    have c14b1 : ((wrap64 (t101)) != t107) = false := bne_eq_false_iff_eq.mpr c14
    clear c14
    by_cases c15 : (wrap64 (t102)) = t108
    · rw [if_pos c15] at H
      have c15b0 : ((wrap64 (t102)) == t108) = true := beq_iff_eq.mpr c15
      have c15b1 : ((wrap64 (t102)) != t108) = false := bne_eq_false_iff_eq.mpr c15
      clear c15
      by_cases c16 : (wrap64 (t103)) = t109
      · rw [if_pos c16] at H
        have c16b0 : ((wrap64 (t103)) == t109) = true := beq_iff_eq.mpr c16
        have c16b1 : ((wrap64 (t103)) != t109) = false := bne_eq_false_iff_eq.mpr c16
        clear c16
        by_cases c17 : t104 = t110
        · rw [if_pos c17] at H
          have c17b0 : (t104 == t110) = true := beq_iff_eq.mpr c17
          have c17b1 : (t104 != t110) = false := bne_eq_false_iff_eq.mpr c17
          clear c17
          by_cases c18 : t105 = t110
          · rw [if_pos c18] at H
            have c18b0 : (t105 == t110) = true := beq_iff_eq.mpr c18
            have c18b1 : (t105 != t110) = false := bne_eq_false_iff_eq.mpr c18
            clear c18
            obtain rfl := Option.some.inj H
            go_enter Try.func3, Try.ntmps3
            go_wp2_with (first | ((with_reducible refine gate_callee (f := 10) rfl ?_); refine goesL_ (some 23) rfl rfl Try.func10 (by kernel_rfl) rfl #[.int .i8 (IntKind.i8.wrap (a0)), .int .i8 (IntKind.i8.wrap (a1)), .int .i8 (IntKind.i8.wrap (a2))] rfl (by (try simp only [List.map_toArray, List.map_cons, List.map_nil]); first | done | rfl | (simp only [List.length_drop, List.length_take]; rfl)) ?_; (with_reducible refine (num_Clamp_int8.calls (IntKind.i8.wrap (a0)) (IntKind.i8.wrap (a1)) (IntKind.i8.wrap (a2)) t101 _ A4.out).mono ?_); rintro e w19 ⟨rfl, hb⟩; refine ⟨_, rfl, ?_⟩; have n0_ := Aside0.mk (below_step (by repeat (first | (with_reducible first | exact HB.out | apply below_alloc | apply pw_below_drewN | apply below_drew1) | exact HB.out)) hb); clear HB; have HB := n0_; clear n0_; (try clear hb); (try clear hb2); (try clear hk); (try clear hi)) | ((with_reducible refine gate_callee (f := 11) rfl ?_); refine goesL_ (some 30) rfl rfl Try.func11 (by kernel_rfl) rfl #[.int .i16 (IntKind.i16.wrap (a0)), .int .i16 (IntKind.i16.wrap (a1)), .int .i16 (IntKind.i16.wrap (a2))] rfl (by (try simp only [List.map_toArray, List.map_cons, List.map_nil]); first | done | rfl | (simp only [List.length_drop, List.length_take]; rfl)) ?_; (with_reducible refine (num_Clamp_int16.calls (IntKind.i16.wrap (a0)) (IntKind.i16.wrap (a1)) (IntKind.i16.wrap (a2)) t102 _ A5.out).mono ?_); rintro e w20 ⟨rfl, hb⟩; refine ⟨_, rfl, ?_⟩; have n0_ := Aside0.mk (below_step (by repeat (first | (with_reducible first | exact HB.out | apply below_alloc | apply pw_below_drewN | apply below_drew1) | exact HB.out)) hb); clear HB; have HB := n0_; clear n0_; (try clear hb); (try clear hb2); (try clear hk); (try clear hi)) | ((with_reducible refine gate_callee (f := 12) rfl ?_); refine goesL_ (some 37) rfl rfl Try.func12 (by kernel_rfl) rfl #[.int .i32 (wrap32 (a0)), .int .i32 (wrap32 (a1)), .int .i32 (wrap32 (a2))] rfl (by (try simp only [List.map_toArray, List.map_cons, List.map_nil]); first | done | rfl | (simp only [List.length_drop, List.length_take]; rfl)) ?_; (with_reducible refine (num_Clamp_int32.calls (wrap32 (a0)) (wrap32 (a1)) (wrap32 (a2)) t103 _ A6.out).mono ?_); rintro e w21 ⟨rfl, hb⟩; refine ⟨_, rfl, ?_⟩; have n0_ := Aside0.mk (below_step (by repeat (first | (with_reducible first | exact HB.out | apply below_alloc | apply pw_below_drewN | apply below_drew1) | exact HB.out)) hb); clear HB; have HB := n0_; clear n0_; (try clear hb); (try clear hb2); (try clear hk); (try clear hi)) | ((with_reducible refine gate_callee (f := 13) rfl ?_); refine goesL_ (some 41) rfl rfl Try.func13 (by kernel_rfl) rfl #[.int .i64 a0, .int .i64 a1, .int .i64 a2] rfl (by (try simp only [List.map_toArray, List.map_cons, List.map_nil]); first | done | rfl | (simp only [List.length_drop, List.length_take]; rfl)) ?_; (with_reducible refine (num_Clamp_int64.calls a0 a1 a2 t104 _ A7.out).mono ?_); rintro e w22 ⟨rfl, hb⟩; refine ⟨_, rfl, ?_⟩; have n0_ := Aside0.mk (below_step (by repeat (first | (with_reducible first | exact HB.out | apply below_alloc | apply pw_below_drewN | apply below_drew1) | exact HB.out)) hb); clear HB; have HB := n0_; clear n0_; (try clear hb); (try clear hb2); (try clear hk); (try clear hi)) | ((with_reducible refine gate_callee (f := 14) rfl ?_); refine goesL_ (some 45) rfl rfl Try.func14 (by kernel_rfl) rfl #[.int .i64 a0, .int .i64 a1, .int .i64 a2] rfl (by (try simp only [List.map_toArray, List.map_cons, List.map_nil]); first | done | rfl | (simp only [List.length_drop, List.length_take]; rfl)) ?_; (with_reducible refine (num_Clamp_int.calls a0 a1 a2 t105 _ A8.out).mono ?_); rintro e w23 ⟨rfl, hb⟩; refine ⟨_, rfl, ?_⟩; have n0_ := Aside0.mk (below_step (by repeat (first | (with_reducible first | exact HB.out | apply below_alloc | apply pw_below_drewN | apply below_drew1) | exact HB.out)) hb); clear HB; have HB := n0_; clear n0_; (try clear hb); (try clear hb2); (try clear hk); (try clear hi)) | ((with_reducible refine gate_callee (f := 15) rfl ?_); refine goesL_ (some 52) rfl rfl Try.func15 (by kernel_rfl) rfl #[.int .i8 (IntKind.i8.wrap (a0)), .int .i8 (IntKind.i8.wrap (a1)), .int .i8 (IntKind.i8.wrap (a2))] rfl (by (try simp only [List.map_toArray, List.map_cons, List.map_nil]); first | done | rfl | (simp only [List.length_drop, List.length_take]; rfl)) ?_; (with_reducible refine (cabstandlaw01_Small.calls (IntKind.i8.wrap (a0)) (IntKind.i8.wrap (a1)) (IntKind.i8.wrap (a2)) t106 _ A9.out).mono ?_); rintro e w24 ⟨rfl, hb⟩; refine ⟨_, rfl, ?_⟩; have n0_ := Aside0.mk (below_step (by repeat (first | (with_reducible first | exact HB.out | apply below_alloc | apply pw_below_drewN | apply below_drew1) | exact HB.out)) hb); clear HB; have HB := n0_; clear n0_; (try clear hb); (try clear hb2); (try clear hk); (try clear hi)) | ((with_reducible refine gate_callee (f := 16) rfl ?_); refine goesL_ (some 62) rfl rfl Try.func16 (by kernel_rfl) rfl #[.int .i64 (wrap64 (IntKind.i8.wrap (a0))), .int .i64 (wrap64 (IntKind.i8.wrap (a1))), .int .i64 (wrap64 (IntKind.i8.wrap (a2)))] rfl (by (try simp only [List.map_toArray, List.map_cons, List.map_nil]); first | done | rfl | (simp only [List.length_drop, List.length_take]; rfl)) ?_; (with_reducible refine (cabstandref01_Clamp.calls k (wrap64 (IntKind.i8.wrap (a0))) (wrap64 (IntKind.i8.wrap (a1))) (wrap64 (IntKind.i8.wrap (a2))) t107 _ A10.out).mono ?_); rintro e w' ⟨rfl, ⟨nd, rfl⟩⟩; refine ⟨_, rfl, ?_⟩) | ((with_reducible refine gate_callee (f := 16) rfl ?_); refine goesL_ (some 72) rfl rfl Try.func16 (by kernel_rfl) rfl #[.int .i64 (wrap64 (IntKind.i16.wrap (a0))), .int .i64 (wrap64 (IntKind.i16.wrap (a1))), .int .i64 (wrap64 (IntKind.i16.wrap (a2)))] rfl (by (try simp only [List.map_toArray, List.map_cons, List.map_nil]); first | done | rfl | (simp only [List.length_drop, List.length_take]; rfl)) ?_; (with_reducible refine (cabstandref01_Clamp.calls k (wrap64 (IntKind.i16.wrap (a0))) (wrap64 (IntKind.i16.wrap (a1))) (wrap64 (IntKind.i16.wrap (a2))) t108 _ A11.out).mono ?_); rintro e w' ⟨rfl, ⟨nd, rfl⟩⟩; refine ⟨_, rfl, ?_⟩) | ((with_reducible refine gate_callee (f := 16) rfl ?_); refine goesL_ (some 82) rfl rfl Try.func16 (by kernel_rfl) rfl #[.int .i64 (wrap64 (wrap32 (a0))), .int .i64 (wrap64 (wrap32 (a1))), .int .i64 (wrap64 (wrap32 (a2)))] rfl (by (try simp only [List.map_toArray, List.map_cons, List.map_nil]); first | done | rfl | (simp only [List.length_drop, List.length_take]; rfl)) ?_; (with_reducible refine (cabstandref01_Clamp.calls k (wrap64 (wrap32 (a0))) (wrap64 (wrap32 (a1))) (wrap64 (wrap32 (a2))) t109 _ A12.out).mono ?_); rintro e w' ⟨rfl, ⟨nd, rfl⟩⟩; refine ⟨_, rfl, ?_⟩) | ((with_reducible refine gate_callee (f := 16) rfl ?_); refine goesL_ (some 86) rfl rfl Try.func16 (by kernel_rfl) rfl #[.int .i64 a0, .int .i64 a1, .int .i64 a2] rfl (by (try simp only [List.map_toArray, List.map_cons, List.map_nil]); first | done | rfl | (simp only [List.length_drop, List.length_take]; rfl)) ?_; (with_reducible refine (cabstandref01_Clamp.calls k a0 a1 a2 t110 _ A13.out).mono ?_); rintro e w' ⟨rfl, ⟨nd, rfl⟩⟩; refine ⟨_, rfl, ?_⟩))
            go_ret
            exact ⟨by first | rfl | (simp [errW_none, errW_some] <;> rfl) | (simp [*, errW_none, errW_some] <;> rfl), by repeat (first | (with_reducible first | exact HB.out | apply below_alloc | apply pw_below_drewN | apply below_drew1) | exact HB.out)⟩
          · rw [if_neg c18] at H
            have c18b0 : (t105 == t110) = false := beq_eq_false_iff_ne.mpr c18
            have c18b1 : (t105 != t110) = true := bne_iff_ne.mpr c18
            obtain rfl := Option.some.inj H
            go_enter Try.func3, Try.ntmps3
            go_wp2_with (first | ((with_reducible refine gate_callee (f := 10) rfl ?_); refine goesL_ (some 23) rfl rfl Try.func10 (by kernel_rfl) rfl #[.int .i8 (IntKind.i8.wrap (a0)), .int .i8 (IntKind.i8.wrap (a1)), .int .i8 (IntKind.i8.wrap (a2))] rfl (by (try simp only [List.map_toArray, List.map_cons, List.map_nil]); first | done | rfl | (simp only [List.length_drop, List.length_take]; rfl)) ?_; (with_reducible refine (num_Clamp_int8.calls (IntKind.i8.wrap (a0)) (IntKind.i8.wrap (a1)) (IntKind.i8.wrap (a2)) t101 _ A4.out).mono ?_); rintro e w25 ⟨rfl, hb⟩; refine ⟨_, rfl, ?_⟩; have n0_ := Aside0.mk (below_step (by repeat (first | (with_reducible first | exact HB.out | apply below_alloc | apply pw_below_drewN | apply below_drew1) | exact HB.out)) hb); clear HB; have HB := n0_; clear n0_; (try clear hb); (try clear hb2); (try clear hk); (try clear hi)) | ((with_reducible refine gate_callee (f := 11) rfl ?_); refine goesL_ (some 30) rfl rfl Try.func11 (by kernel_rfl) rfl #[.int .i16 (IntKind.i16.wrap (a0)), .int .i16 (IntKind.i16.wrap (a1)), .int .i16 (IntKind.i16.wrap (a2))] rfl (by (try simp only [List.map_toArray, List.map_cons, List.map_nil]); first | done | rfl | (simp only [List.length_drop, List.length_take]; rfl)) ?_; (with_reducible refine (num_Clamp_int16.calls (IntKind.i16.wrap (a0)) (IntKind.i16.wrap (a1)) (IntKind.i16.wrap (a2)) t102 _ A5.out).mono ?_); rintro e w26 ⟨rfl, hb⟩; refine ⟨_, rfl, ?_⟩; have n0_ := Aside0.mk (below_step (by repeat (first | (with_reducible first | exact HB.out | apply below_alloc | apply pw_below_drewN | apply below_drew1) | exact HB.out)) hb); clear HB; have HB := n0_; clear n0_; (try clear hb); (try clear hb2); (try clear hk); (try clear hi)) | ((with_reducible refine gate_callee (f := 12) rfl ?_); refine goesL_ (some 37) rfl rfl Try.func12 (by kernel_rfl) rfl #[.int .i32 (wrap32 (a0)), .int .i32 (wrap32 (a1)), .int .i32 (wrap32 (a2))] rfl (by (try simp only [List.map_toArray, List.map_cons, List.map_nil]); first | done | rfl | (simp only [List.length_drop, List.length_take]; rfl)) ?_; (with_reducible refine (num_Clamp_int32.calls (wrap32 (a0)) (wrap32 (a1)) (wrap32 (a2)) t103 _ A6.out).mono ?_); rintro e w27 ⟨rfl, hb⟩; refine ⟨_, rfl, ?_⟩; have n0_ := Aside0.mk (below_step (by repeat (first | (with_reducible first | exact HB.out | apply below_alloc | apply pw_below_drewN | apply below_drew1) | exact HB.out)) hb); clear HB; have HB := n0_; clear n0_; (try clear hb); (try clear hb2); (try clear hk); (try clear hi)) | ((with_reducible refine gate_callee (f := 13) rfl ?_); refine goesL_ (some 41) rfl rfl Try.func13 (by kernel_rfl) rfl #[.int .i64 a0, .int .i64 a1, .int .i64 a2] rfl (by (try simp only [List.map_toArray, List.map_cons, List.map_nil]); first | done | rfl | (simp only [List.length_drop, List.length_take]; rfl)) ?_; (with_reducible refine (num_Clamp_int64.calls a0 a1 a2 t104 _ A7.out).mono ?_); rintro e w28 ⟨rfl, hb⟩; refine ⟨_, rfl, ?_⟩; have n0_ := Aside0.mk (below_step (by repeat (first | (with_reducible first | exact HB.out | apply below_alloc | apply pw_below_drewN | apply below_drew1) | exact HB.out)) hb); clear HB; have HB := n0_; clear n0_; (try clear hb); (try clear hb2); (try clear hk); (try clear hi)) | ((with_reducible refine gate_callee (f := 14) rfl ?_); refine goesL_ (some 45) rfl rfl Try.func14 (by kernel_rfl) rfl #[.int .i64 a0, .int .i64 a1, .int .i64 a2] rfl (by (try simp only [List.map_toArray, List.map_cons, List.map_nil]); first | done | rfl | (simp only [List.length_drop, List.length_take]; rfl)) ?_; (with_reducible refine (num_Clamp_int.calls a0 a1 a2 t105 _ A8.out).mono ?_); rintro e w29 ⟨rfl, hb⟩; refine ⟨_, rfl, ?_⟩; have n0_ := Aside0.mk (below_step (by repeat (first | (with_reducible first | exact HB.out | apply below_alloc | apply pw_below_drewN | apply below_drew1) | exact HB.out)) hb); clear HB; have HB := n0_; clear n0_; (try clear hb); (try clear hb2); (try clear hk); (try clear hi)) | ((with_reducible refine gate_callee (f := 15) rfl ?_); refine goesL_ (some 52) rfl rfl Try.func15 (by kernel_rfl) rfl #[.int .i8 (IntKind.i8.wrap (a0)), .int .i8 (IntKind.i8.wrap (a1)), .int .i8 (IntKind.i8.wrap (a2))] rfl (by (try simp only [List.map_toArray, List.map_cons, List.map_nil]); first | done | rfl | (simp only [List.length_drop, List.length_take]; rfl)) ?_; (with_reducible refine (cabstandlaw01_Small.calls (IntKind.i8.wrap (a0)) (IntKind.i8.wrap (a1)) (IntKind.i8.wrap (a2)) t106 _ A9.out).mono ?_); rintro e w30 ⟨rfl, hb⟩; refine ⟨_, rfl, ?_⟩; have n0_ := Aside0.mk (below_step (by repeat (first | (with_reducible first | exact HB.out | apply below_alloc | apply pw_below_drewN | apply below_drew1) | exact HB.out)) hb); clear HB; have HB := n0_; clear n0_; (try clear hb); (try clear hb2); (try clear hk); (try clear hi)) | ((with_reducible refine gate_callee (f := 16) rfl ?_); refine goesL_ (some 62) rfl rfl Try.func16 (by kernel_rfl) rfl #[.int .i64 (wrap64 (IntKind.i8.wrap (a0))), .int .i64 (wrap64 (IntKind.i8.wrap (a1))), .int .i64 (wrap64 (IntKind.i8.wrap (a2)))] rfl (by (try simp only [List.map_toArray, List.map_cons, List.map_nil]); first | done | rfl | (simp only [List.length_drop, List.length_take]; rfl)) ?_; (with_reducible refine (cabstandref01_Clamp.calls k (wrap64 (IntKind.i8.wrap (a0))) (wrap64 (IntKind.i8.wrap (a1))) (wrap64 (IntKind.i8.wrap (a2))) t107 _ A10.out).mono ?_); rintro e w' ⟨rfl, ⟨nd, rfl⟩⟩; refine ⟨_, rfl, ?_⟩) | ((with_reducible refine gate_callee (f := 16) rfl ?_); refine goesL_ (some 72) rfl rfl Try.func16 (by kernel_rfl) rfl #[.int .i64 (wrap64 (IntKind.i16.wrap (a0))), .int .i64 (wrap64 (IntKind.i16.wrap (a1))), .int .i64 (wrap64 (IntKind.i16.wrap (a2)))] rfl (by (try simp only [List.map_toArray, List.map_cons, List.map_nil]); first | done | rfl | (simp only [List.length_drop, List.length_take]; rfl)) ?_; (with_reducible refine (cabstandref01_Clamp.calls k (wrap64 (IntKind.i16.wrap (a0))) (wrap64 (IntKind.i16.wrap (a1))) (wrap64 (IntKind.i16.wrap (a2))) t108 _ A11.out).mono ?_); rintro e w' ⟨rfl, ⟨nd, rfl⟩⟩; refine ⟨_, rfl, ?_⟩) | ((with_reducible refine gate_callee (f := 16) rfl ?_); refine goesL_ (some 82) rfl rfl Try.func16 (by kernel_rfl) rfl #[.int .i64 (wrap64 (wrap32 (a0))), .int .i64 (wrap64 (wrap32 (a1))), .int .i64 (wrap64 (wrap32 (a2)))] rfl (by (try simp only [List.map_toArray, List.map_cons, List.map_nil]); first | done | rfl | (simp only [List.length_drop, List.length_take]; rfl)) ?_; (with_reducible refine (cabstandref01_Clamp.calls k (wrap64 (wrap32 (a0))) (wrap64 (wrap32 (a1))) (wrap64 (wrap32 (a2))) t109 _ A12.out).mono ?_); rintro e w' ⟨rfl, ⟨nd, rfl⟩⟩; refine ⟨_, rfl, ?_⟩) | ((with_reducible refine gate_callee (f := 16) rfl ?_); refine goesL_ (some 86) rfl rfl Try.func16 (by kernel_rfl) rfl #[.int .i64 a0, .int .i64 a1, .int .i64 a2] rfl (by (try simp only [List.map_toArray, List.map_cons, List.map_nil]); first | done | rfl | (simp only [List.length_drop, List.length_take]; rfl)) ?_; (with_reducible refine (cabstandref01_Clamp.calls k a0 a1 a2 t110 _ A13.out).mono ?_); rintro e w' ⟨rfl, ⟨nd, rfl⟩⟩; refine ⟨_, rfl, ?_⟩))
            go_ret
            exact ⟨by first | rfl | (simp [errW_none, errW_some] <;> rfl) | (simp [*, errW_none, errW_some] <;> rfl), by repeat (first | (with_reducible first | exact HB.out | apply below_alloc | apply pw_below_drewN | apply below_drew1) | exact HB.out)⟩
        · rw [if_neg c17] at H
          have c17b0 : (t104 == t110) = false := beq_eq_false_iff_ne.mpr c17
          have c17b1 : (t104 != t110) = true := bne_iff_ne.mpr c17
          obtain rfl := Option.some.inj H
          go_enter Try.func3, Try.ntmps3
          go_wp2_with (first | ((with_reducible refine gate_callee (f := 10) rfl ?_); refine goesL_ (some 23) rfl rfl Try.func10 (by kernel_rfl) rfl #[.int .i8 (IntKind.i8.wrap (a0)), .int .i8 (IntKind.i8.wrap (a1)), .int .i8 (IntKind.i8.wrap (a2))] rfl (by (try simp only [List.map_toArray, List.map_cons, List.map_nil]); first | done | rfl | (simp only [List.length_drop, List.length_take]; rfl)) ?_; (with_reducible refine (num_Clamp_int8.calls (IntKind.i8.wrap (a0)) (IntKind.i8.wrap (a1)) (IntKind.i8.wrap (a2)) t101 _ A4.out).mono ?_); rintro e w31 ⟨rfl, hb⟩; refine ⟨_, rfl, ?_⟩; have n0_ := Aside0.mk (below_step (by repeat (first | (with_reducible first | exact HB.out | apply below_alloc | apply pw_below_drewN | apply below_drew1) | exact HB.out)) hb); clear HB; have HB := n0_; clear n0_; (try clear hb); (try clear hb2); (try clear hk); (try clear hi)) | ((with_reducible refine gate_callee (f := 11) rfl ?_); refine goesL_ (some 30) rfl rfl Try.func11 (by kernel_rfl) rfl #[.int .i16 (IntKind.i16.wrap (a0)), .int .i16 (IntKind.i16.wrap (a1)), .int .i16 (IntKind.i16.wrap (a2))] rfl (by (try simp only [List.map_toArray, List.map_cons, List.map_nil]); first | done | rfl | (simp only [List.length_drop, List.length_take]; rfl)) ?_; (with_reducible refine (num_Clamp_int16.calls (IntKind.i16.wrap (a0)) (IntKind.i16.wrap (a1)) (IntKind.i16.wrap (a2)) t102 _ A5.out).mono ?_); rintro e w32 ⟨rfl, hb⟩; refine ⟨_, rfl, ?_⟩; have n0_ := Aside0.mk (below_step (by repeat (first | (with_reducible first | exact HB.out | apply below_alloc | apply pw_below_drewN | apply below_drew1) | exact HB.out)) hb); clear HB; have HB := n0_; clear n0_; (try clear hb); (try clear hb2); (try clear hk); (try clear hi)) | ((with_reducible refine gate_callee (f := 12) rfl ?_); refine goesL_ (some 37) rfl rfl Try.func12 (by kernel_rfl) rfl #[.int .i32 (wrap32 (a0)), .int .i32 (wrap32 (a1)), .int .i32 (wrap32 (a2))] rfl (by (try simp only [List.map_toArray, List.map_cons, List.map_nil]); first | done | rfl | (simp only [List.length_drop, List.length_take]; rfl)) ?_; (with_reducible refine (num_Clamp_int32.calls (wrap32 (a0)) (wrap32 (a1)) (wrap32 (a2)) t103 _ A6.out).mono ?_); rintro e w33 ⟨rfl, hb⟩; refine ⟨_, rfl, ?_⟩; have n0_ := Aside0.mk (below_step (by repeat (first | (with_reducible first | exact HB.out | apply below_alloc | apply pw_below_drewN | apply below_drew1) | exact HB.out)) hb); clear HB; have HB := n0_; clear n0_; (try clear hb); (try clear hb2); (try clear hk); (try clear hi)) | ((with_reducible refine gate_callee (f := 13) rfl ?_); refine goesL_ (some 41) rfl rfl Try.func13 (by kernel_rfl) rfl #[.int .i64 a0, .int .i64 a1, .int .i64 a2] rfl (by (try simp only [List.map_toArray, List.map_cons, List.map_nil]); first | done | rfl | (simp only [List.length_drop, List.length_take]; rfl)) ?_; (with_reducible refine (num_Clamp_int64.calls a0 a1 a2 t104 _ A7.out).mono ?_); rintro e w34 ⟨rfl, hb⟩; refine ⟨_, rfl, ?_⟩; have n0_ := Aside0.mk (below_step (by repeat (first | (with_reducible first | exact HB.out | apply below_alloc | apply pw_below_drewN | apply below_drew1) | exact HB.out)) hb); clear HB; have HB := n0_; clear n0_; (try clear hb); (try clear hb2); (try clear hk); (try clear hi)) | ((with_reducible refine gate_callee (f := 14) rfl ?_); refine goesL_ (some 45) rfl rfl Try.func14 (by kernel_rfl) rfl #[.int .i64 a0, .int .i64 a1, .int .i64 a2] rfl (by (try simp only [List.map_toArray, List.map_cons, List.map_nil]); first | done | rfl | (simp only [List.length_drop, List.length_take]; rfl)) ?_; (with_reducible refine (num_Clamp_int.calls a0 a1 a2 t105 _ A8.out).mono ?_); rintro e w35 ⟨rfl, hb⟩; refine ⟨_, rfl, ?_⟩; have n0_ := Aside0.mk (below_step (by repeat (first | (with_reducible first | exact HB.out | apply below_alloc | apply pw_below_drewN | apply below_drew1) | exact HB.out)) hb); clear HB; have HB := n0_; clear n0_; (try clear hb); (try clear hb2); (try clear hk); (try clear hi)) | ((with_reducible refine gate_callee (f := 15) rfl ?_); refine goesL_ (some 52) rfl rfl Try.func15 (by kernel_rfl) rfl #[.int .i8 (IntKind.i8.wrap (a0)), .int .i8 (IntKind.i8.wrap (a1)), .int .i8 (IntKind.i8.wrap (a2))] rfl (by (try simp only [List.map_toArray, List.map_cons, List.map_nil]); first | done | rfl | (simp only [List.length_drop, List.length_take]; rfl)) ?_; (with_reducible refine (cabstandlaw01_Small.calls (IntKind.i8.wrap (a0)) (IntKind.i8.wrap (a1)) (IntKind.i8.wrap (a2)) t106 _ A9.out).mono ?_); rintro e w36 ⟨rfl, hb⟩; refine ⟨_, rfl, ?_⟩; have n0_ := Aside0.mk (below_step (by repeat (first | (with_reducible first | exact HB.out | apply below_alloc | apply pw_below_drewN | apply below_drew1) | exact HB.out)) hb); clear HB; have HB := n0_; clear n0_; (try clear hb); (try clear hb2); (try clear hk); (try clear hi)) | ((with_reducible refine gate_callee (f := 16) rfl ?_); refine goesL_ (some 62) rfl rfl Try.func16 (by kernel_rfl) rfl #[.int .i64 (wrap64 (IntKind.i8.wrap (a0))), .int .i64 (wrap64 (IntKind.i8.wrap (a1))), .int .i64 (wrap64 (IntKind.i8.wrap (a2)))] rfl (by (try simp only [List.map_toArray, List.map_cons, List.map_nil]); first | done | rfl | (simp only [List.length_drop, List.length_take]; rfl)) ?_; (with_reducible refine (cabstandref01_Clamp.calls k (wrap64 (IntKind.i8.wrap (a0))) (wrap64 (IntKind.i8.wrap (a1))) (wrap64 (IntKind.i8.wrap (a2))) t107 _ A10.out).mono ?_); rintro e w' ⟨rfl, ⟨nd, rfl⟩⟩; refine ⟨_, rfl, ?_⟩) | ((with_reducible refine gate_callee (f := 16) rfl ?_); refine goesL_ (some 72) rfl rfl Try.func16 (by kernel_rfl) rfl #[.int .i64 (wrap64 (IntKind.i16.wrap (a0))), .int .i64 (wrap64 (IntKind.i16.wrap (a1))), .int .i64 (wrap64 (IntKind.i16.wrap (a2)))] rfl (by (try simp only [List.map_toArray, List.map_cons, List.map_nil]); first | done | rfl | (simp only [List.length_drop, List.length_take]; rfl)) ?_; (with_reducible refine (cabstandref01_Clamp.calls k (wrap64 (IntKind.i16.wrap (a0))) (wrap64 (IntKind.i16.wrap (a1))) (wrap64 (IntKind.i16.wrap (a2))) t108 _ A11.out).mono ?_); rintro e w' ⟨rfl, ⟨nd, rfl⟩⟩; refine ⟨_, rfl, ?_⟩) | ((with_reducible refine gate_callee (f := 16) rfl ?_); refine goesL_ (some 82) rfl rfl Try.func16 (by kernel_rfl) rfl #[.int .i64 (wrap64 (wrap32 (a0))), .int .i64 (wrap64 (wrap32 (a1))), .int .i64 (wrap64 (wrap32 (a2)))] rfl (by (try simp only [List.map_toArray, List.map_cons, List.map_nil]); first | done | rfl | (simp only [List.length_drop, List.length_take]; rfl)) ?_; (with_reducible refine (cabstandref01_Clamp.calls k (wrap64 (wrap32 (a0))) (wrap64 (wrap32 (a1))) (wrap64 (wrap32 (a2))) t109 _ A12.out).mono ?_); rintro e w' ⟨rfl, ⟨nd, rfl⟩⟩; refine ⟨_, rfl, ?_⟩) | ((with_reducible refine gate_callee (f := 16) rfl ?_); refine goesL_ (some 86) rfl rfl Try.func16 (by kernel_rfl) rfl #[.int .i64 a0, .int .i64 a1, .int .i64 a2] rfl (by (try simp only [List.map_toArray, List.map_cons, List.map_nil]); first | done | rfl | (simp only [List.length_drop, List.length_take]; rfl)) ?_; (with_reducible refine (cabstandref01_Clamp.calls k a0 a1 a2 t110 _ A13.out).mono ?_); rintro e w' ⟨rfl, ⟨nd, rfl⟩⟩; refine ⟨_, rfl, ?_⟩))
          go_ret
          exact ⟨by first | rfl | (simp [errW_none, errW_some] <;> rfl) | (simp [*, errW_none, errW_some] <;> rfl), by repeat (first | (with_reducible first | exact HB.out | apply below_alloc | apply pw_below_drewN | apply below_drew1) | exact HB.out)⟩
      · rw [if_neg c16] at H
        have c16b0 : ((wrap64 (t103)) == t109) = false := beq_eq_false_iff_ne.mpr c16
        have c16b1 : ((wrap64 (t103)) != t109) = true := bne_iff_ne.mpr c16
        obtain rfl := Option.some.inj H
        go_enter Try.func3, Try.ntmps3
        go_wp2_with (first | ((with_reducible refine gate_callee (f := 10) rfl ?_); refine goesL_ (some 23) rfl rfl Try.func10 (by kernel_rfl) rfl #[.int .i8 (IntKind.i8.wrap (a0)), .int .i8 (IntKind.i8.wrap (a1)), .int .i8 (IntKind.i8.wrap (a2))] rfl (by (try simp only [List.map_toArray, List.map_cons, List.map_nil]); first | done | rfl | (simp only [List.length_drop, List.length_take]; rfl)) ?_; (with_reducible refine (num_Clamp_int8.calls (IntKind.i8.wrap (a0)) (IntKind.i8.wrap (a1)) (IntKind.i8.wrap (a2)) t101 _ A4.out).mono ?_); rintro e w37 ⟨rfl, hb⟩; refine ⟨_, rfl, ?_⟩; have n0_ := Aside0.mk (below_step (by repeat (first | (with_reducible first | exact HB.out | apply below_alloc | apply pw_below_drewN | apply below_drew1) | exact HB.out)) hb); clear HB; have HB := n0_; clear n0_; (try clear hb); (try clear hb2); (try clear hk); (try clear hi)) | ((with_reducible refine gate_callee (f := 11) rfl ?_); refine goesL_ (some 30) rfl rfl Try.func11 (by kernel_rfl) rfl #[.int .i16 (IntKind.i16.wrap (a0)), .int .i16 (IntKind.i16.wrap (a1)), .int .i16 (IntKind.i16.wrap (a2))] rfl (by (try simp only [List.map_toArray, List.map_cons, List.map_nil]); first | done | rfl | (simp only [List.length_drop, List.length_take]; rfl)) ?_; (with_reducible refine (num_Clamp_int16.calls (IntKind.i16.wrap (a0)) (IntKind.i16.wrap (a1)) (IntKind.i16.wrap (a2)) t102 _ A5.out).mono ?_); rintro e w38 ⟨rfl, hb⟩; refine ⟨_, rfl, ?_⟩; have n0_ := Aside0.mk (below_step (by repeat (first | (with_reducible first | exact HB.out | apply below_alloc | apply pw_below_drewN | apply below_drew1) | exact HB.out)) hb); clear HB; have HB := n0_; clear n0_; (try clear hb); (try clear hb2); (try clear hk); (try clear hi)) | ((with_reducible refine gate_callee (f := 12) rfl ?_); refine goesL_ (some 37) rfl rfl Try.func12 (by kernel_rfl) rfl #[.int .i32 (wrap32 (a0)), .int .i32 (wrap32 (a1)), .int .i32 (wrap32 (a2))] rfl (by (try simp only [List.map_toArray, List.map_cons, List.map_nil]); first | done | rfl | (simp only [List.length_drop, List.length_take]; rfl)) ?_; (with_reducible refine (num_Clamp_int32.calls (wrap32 (a0)) (wrap32 (a1)) (wrap32 (a2)) t103 _ A6.out).mono ?_); rintro e w39 ⟨rfl, hb⟩; refine ⟨_, rfl, ?_⟩; have n0_ := Aside0.mk (below_step (by repeat (first | (with_reducible first | exact HB.out | apply below_alloc | apply pw_below_drewN | apply below_drew1) | exact HB.out)) hb); clear HB; have HB := n0_; clear n0_; (try clear hb); (try clear hb2); (try clear hk); (try clear hi)) | ((with_reducible refine gate_callee (f := 13) rfl ?_); refine goesL_ (some 41) rfl rfl Try.func13 (by kernel_rfl) rfl #[.int .i64 a0, .int .i64 a1, .int .i64 a2] rfl (by (try simp only [List.map_toArray, List.map_cons, List.map_nil]); first | done | rfl | (simp only [List.length_drop, List.length_take]; rfl)) ?_; (with_reducible refine (num_Clamp_int64.calls a0 a1 a2 t104 _ A7.out).mono ?_); rintro e w40 ⟨rfl, hb⟩; refine ⟨_, rfl, ?_⟩; have n0_ := Aside0.mk (below_step (by repeat (first | (with_reducible first | exact HB.out | apply below_alloc | apply pw_below_drewN | apply below_drew1) | exact HB.out)) hb); clear HB; have HB := n0_; clear n0_; (try clear hb); (try clear hb2); (try clear hk); (try clear hi)) | ((with_reducible refine gate_callee (f := 14) rfl ?_); refine goesL_ (some 45) rfl rfl Try.func14 (by kernel_rfl) rfl #[.int .i64 a0, .int .i64 a1, .int .i64 a2] rfl (by (try simp only [List.map_toArray, List.map_cons, List.map_nil]); first | done | rfl | (simp only [List.length_drop, List.length_take]; rfl)) ?_; (with_reducible refine (num_Clamp_int.calls a0 a1 a2 t105 _ A8.out).mono ?_); rintro e w41 ⟨rfl, hb⟩; refine ⟨_, rfl, ?_⟩; have n0_ := Aside0.mk (below_step (by repeat (first | (with_reducible first | exact HB.out | apply below_alloc | apply pw_below_drewN | apply below_drew1) | exact HB.out)) hb); clear HB; have HB := n0_; clear n0_; (try clear hb); (try clear hb2); (try clear hk); (try clear hi)) | ((with_reducible refine gate_callee (f := 15) rfl ?_); refine goesL_ (some 52) rfl rfl Try.func15 (by kernel_rfl) rfl #[.int .i8 (IntKind.i8.wrap (a0)), .int .i8 (IntKind.i8.wrap (a1)), .int .i8 (IntKind.i8.wrap (a2))] rfl (by (try simp only [List.map_toArray, List.map_cons, List.map_nil]); first | done | rfl | (simp only [List.length_drop, List.length_take]; rfl)) ?_; (with_reducible refine (cabstandlaw01_Small.calls (IntKind.i8.wrap (a0)) (IntKind.i8.wrap (a1)) (IntKind.i8.wrap (a2)) t106 _ A9.out).mono ?_); rintro e w42 ⟨rfl, hb⟩; refine ⟨_, rfl, ?_⟩; have n0_ := Aside0.mk (below_step (by repeat (first | (with_reducible first | exact HB.out | apply below_alloc | apply pw_below_drewN | apply below_drew1) | exact HB.out)) hb); clear HB; have HB := n0_; clear n0_; (try clear hb); (try clear hb2); (try clear hk); (try clear hi)) | ((with_reducible refine gate_callee (f := 16) rfl ?_); refine goesL_ (some 62) rfl rfl Try.func16 (by kernel_rfl) rfl #[.int .i64 (wrap64 (IntKind.i8.wrap (a0))), .int .i64 (wrap64 (IntKind.i8.wrap (a1))), .int .i64 (wrap64 (IntKind.i8.wrap (a2)))] rfl (by (try simp only [List.map_toArray, List.map_cons, List.map_nil]); first | done | rfl | (simp only [List.length_drop, List.length_take]; rfl)) ?_; (with_reducible refine (cabstandref01_Clamp.calls k (wrap64 (IntKind.i8.wrap (a0))) (wrap64 (IntKind.i8.wrap (a1))) (wrap64 (IntKind.i8.wrap (a2))) t107 _ A10.out).mono ?_); rintro e w' ⟨rfl, ⟨nd, rfl⟩⟩; refine ⟨_, rfl, ?_⟩) | ((with_reducible refine gate_callee (f := 16) rfl ?_); refine goesL_ (some 72) rfl rfl Try.func16 (by kernel_rfl) rfl #[.int .i64 (wrap64 (IntKind.i16.wrap (a0))), .int .i64 (wrap64 (IntKind.i16.wrap (a1))), .int .i64 (wrap64 (IntKind.i16.wrap (a2)))] rfl (by (try simp only [List.map_toArray, List.map_cons, List.map_nil]); first | done | rfl | (simp only [List.length_drop, List.length_take]; rfl)) ?_; (with_reducible refine (cabstandref01_Clamp.calls k (wrap64 (IntKind.i16.wrap (a0))) (wrap64 (IntKind.i16.wrap (a1))) (wrap64 (IntKind.i16.wrap (a2))) t108 _ A11.out).mono ?_); rintro e w' ⟨rfl, ⟨nd, rfl⟩⟩; refine ⟨_, rfl, ?_⟩) | ((with_reducible refine gate_callee (f := 16) rfl ?_); refine goesL_ (some 82) rfl rfl Try.func16 (by kernel_rfl) rfl #[.int .i64 (wrap64 (wrap32 (a0))), .int .i64 (wrap64 (wrap32 (a1))), .int .i64 (wrap64 (wrap32 (a2)))] rfl (by (try simp only [List.map_toArray, List.map_cons, List.map_nil]); first | done | rfl | (simp only [List.length_drop, List.length_take]; rfl)) ?_; (with_reducible refine (cabstandref01_Clamp.calls k (wrap64 (wrap32 (a0))) (wrap64 (wrap32 (a1))) (wrap64 (wrap32 (a2))) t109 _ A12.out).mono ?_); rintro e w' ⟨rfl, ⟨nd, rfl⟩⟩; refine ⟨_, rfl, ?_⟩) | ((with_reducible refine gate_callee (f := 16) rfl ?_); refine goesL_ (some 86) rfl rfl Try.func16 (by kernel_rfl) rfl #[.int .i64 a0, .int .i64 a1, .int .i64 a2] rfl (by (try simp only [List.map_toArray, List.map_cons, List.map_nil]); first | done | rfl | (simp only [List.length_drop, List.length_take]; rfl)) ?_; (with_reducible refine (cabstandref01_Clamp.calls k a0 a1 a2 t110 _ A13.out).mono ?_); rintro e w' ⟨rfl, ⟨nd, rfl⟩⟩; refine ⟨_, rfl, ?_⟩))
        go_ret
        exact ⟨by first | rfl | (simp [errW_none, errW_some] <;> rfl) | (simp [*, errW_none, errW_some] <;> rfl), by repeat (first | (with_reducible first | exact HB.out | apply below_alloc | apply pw_below_drewN | apply below_drew1) | exact HB.out)⟩
    · rw [if_neg c15] at H
      have c15b0 : ((wrap64 (t102)) == t108) = false := beq_eq_false_iff_ne.mpr c15
      have c15b1 : ((wrap64 (t102)) != t108) = true := bne_iff_ne.mpr c15
      obtain rfl := Option.some.inj H
      go_enter Try.func3, Try.ntmps3
      go_wp2_with (first | ((with_reducible refine gate_callee (f := 10) rfl ?_); refine goesL_ (some 23) rfl rfl Try.func10 (by kernel_rfl) rfl #[.int .i8 (IntKind.i8.wrap (a0)), .int .i8 (IntKind.i8.wrap (a1)), .int .i8 (IntKind.i8.wrap (a2))] rfl (by (try simp only [List.map_toArray, List.map_cons, List.map_nil]); first | done | rfl | (simp only [List.length_drop, List.length_take]; rfl)) ?_; (with_reducible refine (num_Clamp_int8.calls (IntKind.i8.wrap (a0)) (IntKind.i8.wrap (a1)) (IntKind.i8.wrap (a2)) t101 _ A4.out).mono ?_); rintro e w43 ⟨rfl, hb⟩; refine ⟨_, rfl, ?_⟩; have n0_ := Aside0.mk (below_step (by repeat (first | (with_reducible first | exact HB.out | apply below_alloc | apply pw_below_drewN | apply below_drew1) | exact HB.out)) hb); clear HB; have HB := n0_; clear n0_; (try clear hb); (try clear hb2); (try clear hk); (try clear hi)) | ((with_reducible refine gate_callee (f := 11) rfl ?_); refine goesL_ (some 30) rfl rfl Try.func11 (by kernel_rfl) rfl #[.int .i16 (IntKind.i16.wrap (a0)), .int .i16 (IntKind.i16.wrap (a1)), .int .i16 (IntKind.i16.wrap (a2))] rfl (by (try simp only [List.map_toArray, List.map_cons, List.map_nil]); first | done | rfl | (simp only [List.length_drop, List.length_take]; rfl)) ?_; (with_reducible refine (num_Clamp_int16.calls (IntKind.i16.wrap (a0)) (IntKind.i16.wrap (a1)) (IntKind.i16.wrap (a2)) t102 _ A5.out).mono ?_); rintro e w44 ⟨rfl, hb⟩; refine ⟨_, rfl, ?_⟩; have n0_ := Aside0.mk (below_step (by repeat (first | (with_reducible first | exact HB.out | apply below_alloc | apply pw_below_drewN | apply below_drew1) | exact HB.out)) hb); clear HB; have HB := n0_; clear n0_; (try clear hb); (try clear hb2); (try clear hk); (try clear hi)) | ((with_reducible refine gate_callee (f := 12) rfl ?_); refine goesL_ (some 37) rfl rfl Try.func12 (by kernel_rfl) rfl #[.int .i32 (wrap32 (a0)), .int .i32 (wrap32 (a1)), .int .i32 (wrap32 (a2))] rfl (by (try simp only [List.map_toArray, List.map_cons, List.map_nil]); first | done | rfl | (simp only [List.length_drop, List.length_take]; rfl)) ?_; (with_reducible refine (num_Clamp_int32.calls (wrap32 (a0)) (wrap32 (a1)) (wrap32 (a2)) t103 _ A6.out).mono ?_); rintro e w45 ⟨rfl, hb⟩; refine ⟨_, rfl, ?_⟩; have n0_ := Aside0.mk (below_step (by repeat (first | (with_reducible first | exact HB.out | apply below_alloc | apply pw_below_drewN | apply below_drew1) | exact HB.out)) hb); clear HB; have HB := n0_; clear n0_; (try clear hb); (try clear hb2); (try clear hk); (try clear hi)) | ((with_reducible refine gate_callee (f := 13) rfl ?_); refine goesL_ (some 41) rfl rfl Try.func13 (by kernel_rfl) rfl #[.int .i64 a0, .int .i64 a1, .int .i64 a2] rfl (by (try simp only [List.map_toArray, List.map_cons, List.map_nil]); first | done | rfl | (simp only [List.length_drop, List.length_take]; rfl)) ?_; (with_reducible refine (num_Clamp_int64.calls a0 a1 a2 t104 _ A7.out).mono ?_); rintro e w46 ⟨rfl, hb⟩; refine ⟨_, rfl, ?_⟩; have n0_ := Aside0.mk (below_step (by repeat (first | (with_reducible first | exact HB.out | apply below_alloc | apply pw_below_drewN | apply below_drew1) | exact HB.out)) hb); clear HB; have HB := n0_; clear n0_; (try clear hb); (try clear hb2); (try clear hk); (try clear hi)) | ((with_reducible refine gate_callee (f := 14) rfl ?_); refine goesL_ (some 45) rfl rfl Try.func14 (by kernel_rfl) rfl #[.int .i64 a0, .int .i64 a1, .int .i64 a2] rfl (by (try simp only [List.map_toArray, List.map_cons, List.map_nil]); first | done | rfl | (simp only [List.length_drop, List.length_take]; rfl)) ?_; (with_reducible refine (num_Clamp_int.calls a0 a1 a2 t105 _ A8.out).mono ?_); rintro e w47 ⟨rfl, hb⟩; refine ⟨_, rfl, ?_⟩; have n0_ := Aside0.mk (below_step (by repeat (first | (with_reducible first | exact HB.out | apply below_alloc | apply pw_below_drewN | apply below_drew1) | exact HB.out)) hb); clear HB; have HB := n0_; clear n0_; (try clear hb); (try clear hb2); (try clear hk); (try clear hi)) | ((with_reducible refine gate_callee (f := 15) rfl ?_); refine goesL_ (some 52) rfl rfl Try.func15 (by kernel_rfl) rfl #[.int .i8 (IntKind.i8.wrap (a0)), .int .i8 (IntKind.i8.wrap (a1)), .int .i8 (IntKind.i8.wrap (a2))] rfl (by (try simp only [List.map_toArray, List.map_cons, List.map_nil]); first | done | rfl | (simp only [List.length_drop, List.length_take]; rfl)) ?_; (with_reducible refine (cabstandlaw01_Small.calls (IntKind.i8.wrap (a0)) (IntKind.i8.wrap (a1)) (IntKind.i8.wrap (a2)) t106 _ A9.out).mono ?_); rintro e w48 ⟨rfl, hb⟩; refine ⟨_, rfl, ?_⟩; have n0_ := Aside0.mk (below_step (by repeat (first | (with_reducible first | exact HB.out | apply below_alloc | apply pw_below_drewN | apply below_drew1) | exact HB.out)) hb); clear HB; have HB := n0_; clear n0_; (try clear hb); (try clear hb2); (try clear hk); (try clear hi)) | ((with_reducible refine gate_callee (f := 16) rfl ?_); refine goesL_ (some 62) rfl rfl Try.func16 (by kernel_rfl) rfl #[.int .i64 (wrap64 (IntKind.i8.wrap (a0))), .int .i64 (wrap64 (IntKind.i8.wrap (a1))), .int .i64 (wrap64 (IntKind.i8.wrap (a2)))] rfl (by (try simp only [List.map_toArray, List.map_cons, List.map_nil]); first | done | rfl | (simp only [List.length_drop, List.length_take]; rfl)) ?_; (with_reducible refine (cabstandref01_Clamp.calls k (wrap64 (IntKind.i8.wrap (a0))) (wrap64 (IntKind.i8.wrap (a1))) (wrap64 (IntKind.i8.wrap (a2))) t107 _ A10.out).mono ?_); rintro e w' ⟨rfl, ⟨nd, rfl⟩⟩; refine ⟨_, rfl, ?_⟩) | ((with_reducible refine gate_callee (f := 16) rfl ?_); refine goesL_ (some 72) rfl rfl Try.func16 (by kernel_rfl) rfl #[.int .i64 (wrap64 (IntKind.i16.wrap (a0))), .int .i64 (wrap64 (IntKind.i16.wrap (a1))), .int .i64 (wrap64 (IntKind.i16.wrap (a2)))] rfl (by (try simp only [List.map_toArray, List.map_cons, List.map_nil]); first | done | rfl | (simp only [List.length_drop, List.length_take]; rfl)) ?_; (with_reducible refine (cabstandref01_Clamp.calls k (wrap64 (IntKind.i16.wrap (a0))) (wrap64 (IntKind.i16.wrap (a1))) (wrap64 (IntKind.i16.wrap (a2))) t108 _ A11.out).mono ?_); rintro e w' ⟨rfl, ⟨nd, rfl⟩⟩; refine ⟨_, rfl, ?_⟩) | ((with_reducible refine gate_callee (f := 16) rfl ?_); refine goesL_ (some 82) rfl rfl Try.func16 (by kernel_rfl) rfl #[.int .i64 (wrap64 (wrap32 (a0))), .int .i64 (wrap64 (wrap32 (a1))), .int .i64 (wrap64 (wrap32 (a2)))] rfl (by (try simp only [List.map_toArray, List.map_cons, List.map_nil]); first | done | rfl | (simp only [List.length_drop, List.length_take]; rfl)) ?_; (with_reducible refine (cabstandref01_Clamp.calls k (wrap64 (wrap32 (a0))) (wrap64 (wrap32 (a1))) (wrap64 (wrap32 (a2))) t109 _ A12.out).mono ?_); rintro e w' ⟨rfl, ⟨nd, rfl⟩⟩; refine ⟨_, rfl, ?_⟩) | ((with_reducible refine gate_callee (f := 16) rfl ?_); refine goesL_ (some 86) rfl rfl Try.func16 (by kernel_rfl) rfl #[.int .i64 a0, .int .i64 a1, .int .i64 a2] rfl (by (try simp only [List.map_toArray, List.map_cons, List.map_nil]); first | done | rfl | (simp only [List.length_drop, List.length_take]; rfl)) ?_; (with_reducible refine (cabstandref01_Clamp.calls k a0 a1 a2 t110 _ A13.out).mono ?_); rintro e w' ⟨rfl, ⟨nd, rfl⟩⟩; refine ⟨_, rfl, ?_⟩))
      go_ret
      exact ⟨by first | rfl | (simp [errW_none, errW_some] <;> rfl) | (simp [*, errW_none, errW_some] <;> rfl), by repeat (first | (with_reducible first | exact HB.out | apply below_alloc | apply pw_below_drewN | apply below_drew1) | exact HB.out)⟩
  · rw [if_neg c14] at H
    have c14b0 : ((wrap64 (t101)) == t107) = false := beq_eq_false_iff_ne.mpr c14
    have c14b1 : ((wrap64 (t101)) != t107) = true := bne_iff_ne.mpr c14
    obtain rfl := Option.some.inj H
    go_enter Try.func3, Try.ntmps3
    go_wp2_with (first | ((with_reducible refine gate_callee (f := 10) rfl ?_); refine goesL_ (some 23) rfl rfl Try.func10 (by kernel_rfl) rfl #[.int .i8 (IntKind.i8.wrap (a0)), .int .i8 (IntKind.i8.wrap (a1)), .int .i8 (IntKind.i8.wrap (a2))] rfl (by (try simp only [List.map_toArray, List.map_cons, List.map_nil]); first | done | rfl | (simp only [List.length_drop, List.length_take]; rfl)) ?_; (with_reducible refine (num_Clamp_int8.calls (IntKind.i8.wrap (a0)) (IntKind.i8.wrap (a1)) (IntKind.i8.wrap (a2)) t101 _ A4.out).mono ?_); rintro e w49 ⟨rfl, hb⟩; refine ⟨_, rfl, ?_⟩; have n0_ := Aside0.mk (below_step (by repeat (first | (with_reducible first | exact HB.out | apply below_alloc | apply pw_below_drewN | apply below_drew1) | exact HB.out)) hb); clear HB; have HB := n0_; clear n0_; (try clear hb); (try clear hb2); (try clear hk); (try clear hi)) | ((with_reducible refine gate_callee (f := 11) rfl ?_); refine goesL_ (some 30) rfl rfl Try.func11 (by kernel_rfl) rfl #[.int .i16 (IntKind.i16.wrap (a0)), .int .i16 (IntKind.i16.wrap (a1)), .int .i16 (IntKind.i16.wrap (a2))] rfl (by (try simp only [List.map_toArray, List.map_cons, List.map_nil]); first | done | rfl | (simp only [List.length_drop, List.length_take]; rfl)) ?_; (with_reducible refine (num_Clamp_int16.calls (IntKind.i16.wrap (a0)) (IntKind.i16.wrap (a1)) (IntKind.i16.wrap (a2)) t102 _ A5.out).mono ?_); rintro e w50 ⟨rfl, hb⟩; refine ⟨_, rfl, ?_⟩; have n0_ := Aside0.mk (below_step (by repeat (first | (with_reducible first | exact HB.out | apply below_alloc | apply pw_below_drewN | apply below_drew1) | exact HB.out)) hb); clear HB; have HB := n0_; clear n0_; (try clear hb); (try clear hb2); (try clear hk); (try clear hi)) | ((with_reducible refine gate_callee (f := 12) rfl ?_); refine goesL_ (some 37) rfl rfl Try.func12 (by kernel_rfl) rfl #[.int .i32 (wrap32 (a0)), .int .i32 (wrap32 (a1)), .int .i32 (wrap32 (a2))] rfl (by (try simp only [List.map_toArray, List.map_cons, List.map_nil]); first | done | rfl | (simp only [List.length_drop, List.length_take]; rfl)) ?_; (with_reducible refine (num_Clamp_int32.calls (wrap32 (a0)) (wrap32 (a1)) (wrap32 (a2)) t103 _ A6.out).mono ?_); rintro e w51 ⟨rfl, hb⟩; refine ⟨_, rfl, ?_⟩; have n0_ := Aside0.mk (below_step (by repeat (first | (with_reducible first | exact HB.out | apply below_alloc | apply pw_below_drewN | apply below_drew1) | exact HB.out)) hb); clear HB; have HB := n0_; clear n0_; (try clear hb); (try clear hb2); (try clear hk); (try clear hi)) | ((with_reducible refine gate_callee (f := 13) rfl ?_); refine goesL_ (some 41) rfl rfl Try.func13 (by kernel_rfl) rfl #[.int .i64 a0, .int .i64 a1, .int .i64 a2] rfl (by (try simp only [List.map_toArray, List.map_cons, List.map_nil]); first | done | rfl | (simp only [List.length_drop, List.length_take]; rfl)) ?_; (with_reducible refine (num_Clamp_int64.calls a0 a1 a2 t104 _ A7.out).mono ?_); rintro e w52 ⟨rfl, hb⟩; refine ⟨_, rfl, ?_⟩; have n0_ := Aside0.mk (below_step (by repeat (first | (with_reducible first | exact HB.out | apply below_alloc | apply pw_below_drewN | apply below_drew1) | exact HB.out)) hb); clear HB; have HB := n0_; clear n0_; (try clear hb); (try clear hb2); (try clear hk); (try clear hi)) | ((with_reducible refine gate_callee (f := 14) rfl ?_); refine goesL_ (some 45) rfl rfl Try.func14 (by kernel_rfl) rfl #[.int .i64 a0, .int .i64 a1, .int .i64 a2] rfl (by (try simp only [List.map_toArray, List.map_cons, List.map_nil]); first | done | rfl | (simp only [List.length_drop, List.length_take]; rfl)) ?_; (with_reducible refine (num_Clamp_int.calls a0 a1 a2 t105 _ A8.out).mono ?_); rintro e w53 ⟨rfl, hb⟩; refine ⟨_, rfl, ?_⟩; have n0_ := Aside0.mk (below_step (by repeat (first | (with_reducible first | exact HB.out | apply below_alloc | apply pw_below_drewN | apply below_drew1) | exact HB.out)) hb); clear HB; have HB := n0_; clear n0_; (try clear hb); (try clear hb2); (try clear hk); (try clear hi)) | ((with_reducible refine gate_callee (f := 15) rfl ?_); refine goesL_ (some 52) rfl rfl Try.func15 (by kernel_rfl) rfl #[.int .i8 (IntKind.i8.wrap (a0)), .int .i8 (IntKind.i8.wrap (a1)), .int .i8 (IntKind.i8.wrap (a2))] rfl (by (try simp only [List.map_toArray, List.map_cons, List.map_nil]); first | done | rfl | (simp only [List.length_drop, List.length_take]; rfl)) ?_; (with_reducible refine (cabstandlaw01_Small.calls (IntKind.i8.wrap (a0)) (IntKind.i8.wrap (a1)) (IntKind.i8.wrap (a2)) t106 _ A9.out).mono ?_); rintro e w54 ⟨rfl, hb⟩; refine ⟨_, rfl, ?_⟩; have n0_ := Aside0.mk (below_step (by repeat (first | (with_reducible first | exact HB.out | apply below_alloc | apply pw_below_drewN | apply below_drew1) | exact HB.out)) hb); clear HB; have HB := n0_; clear n0_; (try clear hb); (try clear hb2); (try clear hk); (try clear hi)) | ((with_reducible refine gate_callee (f := 16) rfl ?_); refine goesL_ (some 62) rfl rfl Try.func16 (by kernel_rfl) rfl #[.int .i64 (wrap64 (IntKind.i8.wrap (a0))), .int .i64 (wrap64 (IntKind.i8.wrap (a1))), .int .i64 (wrap64 (IntKind.i8.wrap (a2)))] rfl (by (try simp only [List.map_toArray, List.map_cons, List.map_nil]); first | done | rfl | (simp only [List.length_drop, List.length_take]; rfl)) ?_; (with_reducible refine (cabstandref01_Clamp.calls k (wrap64 (IntKind.i8.wrap (a0))) (wrap64 (IntKind.i8.wrap (a1))) (wrap64 (IntKind.i8.wrap (a2))) t107 _ A10.out).mono ?_); rintro e w' ⟨rfl, ⟨nd, rfl⟩⟩; refine ⟨_, rfl, ?_⟩) | ((with_reducible refine gate_callee (f := 16) rfl ?_); refine goesL_ (some 72) rfl rfl Try.func16 (by kernel_rfl) rfl #[.int .i64 (wrap64 (IntKind.i16.wrap (a0))), .int .i64 (wrap64 (IntKind.i16.wrap (a1))), .int .i64 (wrap64 (IntKind.i16.wrap (a2)))] rfl (by (try simp only [List.map_toArray, List.map_cons, List.map_nil]); first | done | rfl | (simp only [List.length_drop, List.length_take]; rfl)) ?_; (with_reducible refine (cabstandref01_Clamp.calls k (wrap64 (IntKind.i16.wrap (a0))) (wrap64 (IntKind.i16.wrap (a1))) (wrap64 (IntKind.i16.wrap (a2))) t108 _ A11.out).mono ?_); rintro e w' ⟨rfl, ⟨nd, rfl⟩⟩; refine ⟨_, rfl, ?_⟩) | ((with_reducible refine gate_callee (f := 16) rfl ?_); refine goesL_ (some 82) rfl rfl Try.func16 (by kernel_rfl) rfl #[.int .i64 (wrap64 (wrap32 (a0))), .int .i64 (wrap64 (wrap32 (a1))), .int .i64 (wrap64 (wrap32 (a2)))] rfl (by (try simp only [List.map_toArray, List.map_cons, List.map_nil]); first | done | rfl | (simp only [List.length_drop, List.length_take]; rfl)) ?_; (with_reducible refine (cabstandref01_Clamp.calls k (wrap64 (wrap32 (a0))) (wrap64 (wrap32 (a1))) (wrap64 (wrap32 (a2))) t109 _ A12.out).mono ?_); rintro e w' ⟨rfl, ⟨nd, rfl⟩⟩; refine ⟨_, rfl, ?_⟩) | ((with_reducible refine gate_callee (f := 16) rfl ?_); refine goesL_ (some 86) rfl rfl Try.func16 (by kernel_rfl) rfl #[.int .i64 a0, .int .i64 a1, .int .i64 a2] rfl (by (try simp only [List.map_toArray, List.map_cons, List.map_nil]); first | done | rfl | (simp only [List.length_drop, List.length_take]; rfl)) ?_; (with_reducible refine (cabstandref01_Clamp.calls k a0 a1 a2 t110 _ A13.out).mono ?_); rintro e w' ⟨rfl, ⟨nd, rfl⟩⟩; refine ⟨_, rfl, ?_⟩))
    go_ret
    exact ⟨by first | rfl | (simp [errW_none, errW_some] <;> rfl) | (simp [*, errW_none, errW_some] <;> rfl), by repeat (first | (with_reducible first | exact HB.out | apply below_alloc | apply pw_below_drewN | apply below_drew1) | exact HB.out)⟩

/-- THE ONE PURE STATEMENT of cabstandlaw01_NumClamps: yours. -/
def cabstandlaw01_NumClamps.Pure : Prop := ∀ (a0 : Int) (a1 : Int) (a2 : Int), (Lit.int .i64 a0).wf = true → (Lit.int .i64 a1).wf = true → (Lit.int .i64 a2).wf = true → ∃ k, cabstandlaw01_NumClamps.f k a0 a1 a2 = some true
theorem cabstandlaw01_NumClamps.walk (P : cabstandlaw01_NumClamps.Pure) (a0 : Int) (a1 : Int) (a2 : Int) (w : World) (w0 : (Lit.int .i64 a0).wf = true) (w1 : (Lit.int .i64 a1).wf = true) (w2 : (Lit.int .i64 a2).wf = true) :
    Calls Try.prog 3 #[.int .i64 a0, .int .i64 a1, .int .i64 a2] w fun e w' => e = .returned (.bool true) ∧ Below w.heap.size w w' := by
  obtain ⟨k, h⟩ := P a0 a1 a2 w0 w1 w2
  refine (cabstandlaw01_NumClamps.calls k a0 a1 a2 true w h).mono ?_
  rintro e w' ⟨rfl, hd⟩
  exact ⟨rfl, hd⟩

end Go.Proofs.Ytdfjbghmeoephaa.PNumClamps
