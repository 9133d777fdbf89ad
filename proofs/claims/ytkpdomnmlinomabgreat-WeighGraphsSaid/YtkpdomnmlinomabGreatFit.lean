/- Contracts of fit.Against, fit.Fits and of the document's: the reasons against a pair. -/
import Derived.Test.YtkpdomnmlinomabGreatDist
import Derived.Test.YtkpdomnmlinomabGreatTypes
import Derived.Test.YtkpdomnmlinomabGreatClasses
import Derived.Deep.RegionHeld3
import Derived.Laws.BitsAllLaws
namespace Go.Proofs.YtkpdomnmlinomabGreat.Fit
open Go.RowKit Go.Proofs.YtkpdomnmlinomabGreat.Aid Go.Proofs.YtkpdomnmlinomabGreat.Mem Go.Proofs.YtkpdomnmlinomabGreat.Dist Go.Proofs.YtkpdomnmlinomabGreat.Types
set_option linter.unusedSimpArgs false

structure Rok (r : Req) : Prop where
  fx : S16 r.fx
  fy : S16 r.fy
  tx : S16 r.tx
  ty : S16 r.ty
  seats : 0 ≤ r.seats ∧ r.seats ≤ 255
  classes : 0 ≤ r.classes ∧ r.classes ≤ 255
structure Dok (d : Drv) : Prop where
  ax : S16 d.ax
  ay : S16 d.ay
  seats : 0 ≤ d.seats ∧ d.seats ≤ 255
  cls : 0 ≤ d.cls ∧ d.cls ≤ 255

theorem Rok.of {r : Req} (h : r.wf) : Rok r := ⟨bounds_i16 h.fx, bounds_i16 h.fy, bounds_i16 h.tx, bounds_i16 h.ty, bounds_u8 h.seats, bounds_u8 h.classes⟩
theorem Dok.of {d : Drv} (h : d.wf) : Dok d := ⟨bounds_i16 h.ax, bounds_i16 h.ay, bounds_u8 h.seats, bounds_u8 h.cls⟩
/-- Is the class' bit not set? -/
def noClass (classes cls : Int) : Bool := decide (7 < cls) || decide (classes / 2 ^ cls.toNat % 2 = 0)
def far (r : Req) (d : Drv) : Bool := decide (d.radius < dst d.ax d.ay r.fx r.fy)
def why (r : Req) (d : Drv) : Int := (if noClass r.classes d.cls = true then 1 else 0) + (if d.seats < r.seats then 2 else 0) + (if far r d = true then 4 else 0)

theorem ret_u8 {a b : Int} (h : a = b) : Ending.returned (.int .u8 a) = Ending.returned (.int .u8 b) := by rw [h]
theorem shr_bound {x : Int} (h0 : 0 ≤ x) (h1 : x ≤ 255) (n : Nat) : 0 ≤ x / 2 ^ n ∧ x / 2 ^ n < 256 :=
  ⟨Int.ediv_nonneg h0 (Int.le_of_lt (Int.pow_pos (by decide))), Int.lt_of_le_of_lt (Int.ediv_le_self _ h0) (by omega)⟩
theorem and1 {x : Int} (h0 : 0 ≤ x) (h1 : x < 256) : bits .and .u8 x 1 = x % 2 := by
  rw [u8_and x 1 h0 h1 (by decide) (by decide)]
  have : x.toNat &&& (1 : Int).toNat = x.toNat % 2 := Nat.and_one_is_mod _
  rw [this]; omega
set_option maxHeartbeats 8000000 in
set_option maxRecDepth 100000 in
theorem against_c (r : Req) (d : Drv) (w : World) (hr : Rok r) (hd : Dok d) :
    Calls Tryz.prog 168 #[r.val, d.val] w fun e w' => e = .returned (.int .u8 (why r d)) ∧ Below w.heap.size w w' := by
  have d1 := hd.ax
  have d2 := hd.ay
  have r1 := hr.fx
  have r2 := hr.fy
  obtain ⟨s1, s2⟩ := hr.seats
  obtain ⟨s3, s4⟩ := hd.seats
  obtain ⟨c1, c2⟩ := hr.classes
  obtain ⟨c3, c4⟩ := hd.cls
  by_cases hc : 7 < d.cls
  · have n1 : noClass r.classes d.cls = true := by unfold noClass; simp [hc]
    by_cases hs : d.seats < r.seats
    · have hs1 := hs
      by_cases hf : d.radius < dst d.ax d.ay r.fx r.fy
      · have hf1 := hf
        have HW := Lib.hid (show why r d = 7 by unfold why far; simp [n1, hs, hf])
        clear hs hf
        go_enter Tryz.func168, Tryz.ntmps168
        go_wp2
        go_region_held3 (fun w' => w'.cell? ⟨w.heap.size, 8, none⟩ = some (.int .i16 r.fx) ∧ w'.cell? ⟨w.heap.size, 9, none⟩ = some (.int .i16 r.fy) ∧ w'.cell? ⟨w.heap.size + 1, 8, none⟩ = some (.int .i16 d.ax) ∧ w'.cell? ⟨w.heap.size + 1, 9, none⟩ = some (.int .i16 d.ay) ∧ w'.cell? ⟨w.heap.size + 1, 12, none⟩ = some (.int .i64 d.radius)) (simp [go_sem, World.cell?_alloc_past]) (first | (go_at_call 171; refine (dist_c _ _ _ _ _ d1 d2 r1 r2).mono ?_; rintro e w' ⟨rfl, o1, o2, n, rfl⟩))
        go_wp2
        go_ret
        exact ⟨ret_u8 (by first | (rw [HW.out]; rfl) | rw [HW.out]), below_drewN ((((alloc_below _ _).alloc (by simp) _).alloc (by simp; omega) _).alloc (by simp; omega) _) _⟩
      · have hf1 : dst d.ax d.ay r.fx r.fy ≤ d.radius := by omega
        have HW := Lib.hid (show why r d = 3 by unfold why far; simp [n1, hs, hf])
        clear hs hf
        go_enter Tryz.func168, Tryz.ntmps168
        go_wp2
        go_region_held3 (fun w' => w'.cell? ⟨w.heap.size, 8, none⟩ = some (.int .i16 r.fx) ∧ w'.cell? ⟨w.heap.size, 9, none⟩ = some (.int .i16 r.fy) ∧ w'.cell? ⟨w.heap.size + 1, 8, none⟩ = some (.int .i16 d.ax) ∧ w'.cell? ⟨w.heap.size + 1, 9, none⟩ = some (.int .i16 d.ay) ∧ w'.cell? ⟨w.heap.size + 1, 12, none⟩ = some (.int .i64 d.radius)) (simp [go_sem, World.cell?_alloc_past]) (first | (go_at_call 171; refine (dist_c _ _ _ _ _ d1 d2 r1 r2).mono ?_; rintro e w' ⟨rfl, o1, o2, n, rfl⟩))
        go_wp2
        go_ret
        exact ⟨ret_u8 (by first | (rw [HW.out]; rfl) | rw [HW.out]), below_drewN ((((alloc_below _ _).alloc (by simp) _).alloc (by simp; omega) _).alloc (by simp; omega) _) _⟩
    · have hs1 : r.seats ≤ d.seats := by omega
      by_cases hf : d.radius < dst d.ax d.ay r.fx r.fy
      · have hf1 := hf
        have HW := Lib.hid (show why r d = 5 by unfold why far; simp [n1, hs, hf])
        clear hs hf
        go_enter Tryz.func168, Tryz.ntmps168
        go_wp2
        go_region_held3 (fun w' => w'.cell? ⟨w.heap.size, 8, none⟩ = some (.int .i16 r.fx) ∧ w'.cell? ⟨w.heap.size, 9, none⟩ = some (.int .i16 r.fy) ∧ w'.cell? ⟨w.heap.size + 1, 8, none⟩ = some (.int .i16 d.ax) ∧ w'.cell? ⟨w.heap.size + 1, 9, none⟩ = some (.int .i16 d.ay) ∧ w'.cell? ⟨w.heap.size + 1, 12, none⟩ = some (.int .i64 d.radius)) (simp [go_sem, World.cell?_alloc_past]) (first | (go_at_call 171; refine (dist_c _ _ _ _ _ d1 d2 r1 r2).mono ?_; rintro e w' ⟨rfl, o1, o2, n, rfl⟩))
        go_wp2
        go_ret
        exact ⟨ret_u8 (by first | (rw [HW.out]; rfl) | rw [HW.out]), below_drewN ((((alloc_below _ _).alloc (by simp) _).alloc (by simp; omega) _).alloc (by simp; omega) _) _⟩
      · have hf1 : dst d.ax d.ay r.fx r.fy ≤ d.radius := by omega
        have HW := Lib.hid (show why r d = 1 by unfold why far; simp [n1, hs, hf])
        clear hs hf
        go_enter Tryz.func168, Tryz.ntmps168
        go_wp2
        go_region_held3 (fun w' => w'.cell? ⟨w.heap.size, 8, none⟩ = some (.int .i16 r.fx) ∧ w'.cell? ⟨w.heap.size, 9, none⟩ = some (.int .i16 r.fy) ∧ w'.cell? ⟨w.heap.size + 1, 8, none⟩ = some (.int .i16 d.ax) ∧ w'.cell? ⟨w.heap.size + 1, 9, none⟩ = some (.int .i16 d.ay) ∧ w'.cell? ⟨w.heap.size + 1, 12, none⟩ = some (.int .i64 d.radius)) (simp [go_sem, World.cell?_alloc_past]) (first | (go_at_call 171; refine (dist_c _ _ _ _ _ d1 d2 r1 r2).mono ?_; rintro e w' ⟨rfl, o1, o2, n, rfl⟩))
        go_wp2
        go_ret
        exact ⟨ret_u8 (by first | (rw [HW.out]; rfl) | rw [HW.out]), below_drewN ((((alloc_below _ _).alloc (by simp) _).alloc (by simp; omega) _).alloc (by simp; omega) _) _⟩
  · have hc' : d.cls ≤ 7 := by omega
    have x0 := shr_bound c1 c2 d.cls.toNat
    have eb := and1 x0.1 x0.2
    by_cases hb : r.classes / 2 ^ d.cls.toNat % 2 = 0
    · have n1 : noClass r.classes d.cls = true := by unfold noClass; simp [hb]
      rw [hb] at eb
      clear hb x0
      by_cases hs : d.seats < r.seats
      · have hs1 := hs
        by_cases hf : d.radius < dst d.ax d.ay r.fx r.fy
        · have hf1 := hf
          have HW := Lib.hid (show why r d = 7 by unfold why far; simp [n1, hs, hf])
          clear hs hf
          go_enter Tryz.func168, Tryz.ntmps168
          go_wp2
          go_region_held3 (fun w' => w'.cell? ⟨w.heap.size, 8, none⟩ = some (.int .i16 r.fx) ∧ w'.cell? ⟨w.heap.size, 9, none⟩ = some (.int .i16 r.fy) ∧ w'.cell? ⟨w.heap.size + 1, 8, none⟩ = some (.int .i16 d.ax) ∧ w'.cell? ⟨w.heap.size + 1, 9, none⟩ = some (.int .i16 d.ay) ∧ w'.cell? ⟨w.heap.size + 1, 12, none⟩ = some (.int .i64 d.radius)) (simp [go_sem, World.cell?_alloc_past]) (first | (go_at_call 171; refine (dist_c _ _ _ _ _ d1 d2 r1 r2).mono ?_; rintro e w' ⟨rfl, o1, o2, n, rfl⟩))
          go_wp2
          go_ret
          exact ⟨ret_u8 (by first | (rw [HW.out]; rfl) | rw [HW.out]), below_drewN ((((alloc_below _ _).alloc (by simp) _).alloc (by simp; omega) _).alloc (by simp; omega) _) _⟩
        · have hf1 : dst d.ax d.ay r.fx r.fy ≤ d.radius := by omega
          have HW := Lib.hid (show why r d = 3 by unfold why far; simp [n1, hs, hf])
          clear hs hf
          go_enter Tryz.func168, Tryz.ntmps168
          go_wp2
          go_region_held3 (fun w' => w'.cell? ⟨w.heap.size, 8, none⟩ = some (.int .i16 r.fx) ∧ w'.cell? ⟨w.heap.size, 9, none⟩ = some (.int .i16 r.fy) ∧ w'.cell? ⟨w.heap.size + 1, 8, none⟩ = some (.int .i16 d.ax) ∧ w'.cell? ⟨w.heap.size + 1, 9, none⟩ = some (.int .i16 d.ay) ∧ w'.cell? ⟨w.heap.size + 1, 12, none⟩ = some (.int .i64 d.radius)) (simp [go_sem, World.cell?_alloc_past]) (first | (go_at_call 171; refine (dist_c _ _ _ _ _ d1 d2 r1 r2).mono ?_; rintro e w' ⟨rfl, o1, o2, n, rfl⟩))
          go_wp2
          go_ret
          exact ⟨ret_u8 (by first | (rw [HW.out]; rfl) | rw [HW.out]), below_drewN ((((alloc_below _ _).alloc (by simp) _).alloc (by simp; omega) _).alloc (by simp; omega) _) _⟩
      · have hs1 : r.seats ≤ d.seats := by omega
        by_cases hf : d.radius < dst d.ax d.ay r.fx r.fy
        · have hf1 := hf
          have HW := Lib.hid (show why r d = 5 by unfold why far; simp [n1, hs, hf])
          clear hs hf
          go_enter Tryz.func168, Tryz.ntmps168
          go_wp2
          go_region_held3 (fun w' => w'.cell? ⟨w.heap.size, 8, none⟩ = some (.int .i16 r.fx) ∧ w'.cell? ⟨w.heap.size, 9, none⟩ = some (.int .i16 r.fy) ∧ w'.cell? ⟨w.heap.size + 1, 8, none⟩ = some (.int .i16 d.ax) ∧ w'.cell? ⟨w.heap.size + 1, 9, none⟩ = some (.int .i16 d.ay) ∧ w'.cell? ⟨w.heap.size + 1, 12, none⟩ = some (.int .i64 d.radius)) (simp [go_sem, World.cell?_alloc_past]) (first | (go_at_call 171; refine (dist_c _ _ _ _ _ d1 d2 r1 r2).mono ?_; rintro e w' ⟨rfl, o1, o2, n, rfl⟩))
          go_wp2
          go_ret
          exact ⟨ret_u8 (by first | (rw [HW.out]; rfl) | rw [HW.out]), below_drewN ((((alloc_below _ _).alloc (by simp) _).alloc (by simp; omega) _).alloc (by simp; omega) _) _⟩
        · have hf1 : dst d.ax d.ay r.fx r.fy ≤ d.radius := by omega
          have HW := Lib.hid (show why r d = 1 by unfold why far; simp [n1, hs, hf])
          clear hs hf
          go_enter Tryz.func168, Tryz.ntmps168
          go_wp2
          go_region_held3 (fun w' => w'.cell? ⟨w.heap.size, 8, none⟩ = some (.int .i16 r.fx) ∧ w'.cell? ⟨w.heap.size, 9, none⟩ = some (.int .i16 r.fy) ∧ w'.cell? ⟨w.heap.size + 1, 8, none⟩ = some (.int .i16 d.ax) ∧ w'.cell? ⟨w.heap.size + 1, 9, none⟩ = some (.int .i16 d.ay) ∧ w'.cell? ⟨w.heap.size + 1, 12, none⟩ = some (.int .i64 d.radius)) (simp [go_sem, World.cell?_alloc_past]) (first | (go_at_call 171; refine (dist_c _ _ _ _ _ d1 d2 r1 r2).mono ?_; rintro e w' ⟨rfl, o1, o2, n, rfl⟩))
          go_wp2
          go_ret
          exact ⟨ret_u8 (by first | (rw [HW.out]; rfl) | rw [HW.out]), below_drewN ((((alloc_below _ _).alloc (by simp) _).alloc (by simp; omega) _).alloc (by simp; omega) _) _⟩
    · have n1 : noClass r.classes d.cls = false := by unfold noClass; simp [hc, hb] <;> omega
      have hb1 : r.classes / 2 ^ d.cls.toNat % 2 = 1 := by omega
      rw [hb1] at eb
      clear hb hb1 x0
      by_cases hs : d.seats < r.seats
      · have hs1 := hs
        by_cases hf : d.radius < dst d.ax d.ay r.fx r.fy
        · have hf1 := hf
          have HW := Lib.hid (show why r d = 6 by unfold why far; simp [n1, hs, hf])
          clear hs hf
          go_enter Tryz.func168, Tryz.ntmps168
          go_wp2
          go_region_held3 (fun w' => w'.cell? ⟨w.heap.size, 8, none⟩ = some (.int .i16 r.fx) ∧ w'.cell? ⟨w.heap.size, 9, none⟩ = some (.int .i16 r.fy) ∧ w'.cell? ⟨w.heap.size + 1, 8, none⟩ = some (.int .i16 d.ax) ∧ w'.cell? ⟨w.heap.size + 1, 9, none⟩ = some (.int .i16 d.ay) ∧ w'.cell? ⟨w.heap.size + 1, 12, none⟩ = some (.int .i64 d.radius)) (simp [go_sem, World.cell?_alloc_past]) (first | (go_at_call 171; refine (dist_c _ _ _ _ _ d1 d2 r1 r2).mono ?_; rintro e w' ⟨rfl, o1, o2, n, rfl⟩))
          go_wp2
          go_ret
          exact ⟨ret_u8 (by first | (rw [HW.out]; rfl) | rw [HW.out]), below_drewN ((((alloc_below _ _).alloc (by simp) _).alloc (by simp; omega) _).alloc (by simp; omega) _) _⟩
        · have hf1 : dst d.ax d.ay r.fx r.fy ≤ d.radius := by omega
          have HW := Lib.hid (show why r d = 2 by unfold why far; simp [n1, hs, hf])
          clear hs hf
          go_enter Tryz.func168, Tryz.ntmps168
          go_wp2
          go_region_held3 (fun w' => w'.cell? ⟨w.heap.size, 8, none⟩ = some (.int .i16 r.fx) ∧ w'.cell? ⟨w.heap.size, 9, none⟩ = some (.int .i16 r.fy) ∧ w'.cell? ⟨w.heap.size + 1, 8, none⟩ = some (.int .i16 d.ax) ∧ w'.cell? ⟨w.heap.size + 1, 9, none⟩ = some (.int .i16 d.ay) ∧ w'.cell? ⟨w.heap.size + 1, 12, none⟩ = some (.int .i64 d.radius)) (simp [go_sem, World.cell?_alloc_past]) (first | (go_at_call 171; refine (dist_c _ _ _ _ _ d1 d2 r1 r2).mono ?_; rintro e w' ⟨rfl, o1, o2, n, rfl⟩))
          go_wp2
          go_ret
          exact ⟨ret_u8 (by first | (rw [HW.out]; rfl) | rw [HW.out]), below_drewN ((((alloc_below _ _).alloc (by simp) _).alloc (by simp; omega) _).alloc (by simp; omega) _) _⟩
      · have hs1 : r.seats ≤ d.seats := by omega
        by_cases hf : d.radius < dst d.ax d.ay r.fx r.fy
        · have hf1 := hf
          have HW := Lib.hid (show why r d = 4 by unfold why far; simp [n1, hs, hf])
          clear hs hf
          go_enter Tryz.func168, Tryz.ntmps168
          go_wp2
          go_region_held3 (fun w' => w'.cell? ⟨w.heap.size, 8, none⟩ = some (.int .i16 r.fx) ∧ w'.cell? ⟨w.heap.size, 9, none⟩ = some (.int .i16 r.fy) ∧ w'.cell? ⟨w.heap.size + 1, 8, none⟩ = some (.int .i16 d.ax) ∧ w'.cell? ⟨w.heap.size + 1, 9, none⟩ = some (.int .i16 d.ay) ∧ w'.cell? ⟨w.heap.size + 1, 12, none⟩ = some (.int .i64 d.radius)) (simp [go_sem, World.cell?_alloc_past]) (first | (go_at_call 171; refine (dist_c _ _ _ _ _ d1 d2 r1 r2).mono ?_; rintro e w' ⟨rfl, o1, o2, n, rfl⟩))
          go_wp2
          go_ret
          exact ⟨ret_u8 (by first | (rw [HW.out]; rfl) | rw [HW.out]), below_drewN ((((alloc_below _ _).alloc (by simp) _).alloc (by simp; omega) _).alloc (by simp; omega) _) _⟩
        · have hf1 : dst d.ax d.ay r.fx r.fy ≤ d.radius := by omega
          have HW := Lib.hid (show why r d = 0 by unfold why far; simp [n1, hs, hf])
          clear hs hf
          go_enter Tryz.func168, Tryz.ntmps168
          go_wp2
          go_region_held3 (fun w' => w'.cell? ⟨w.heap.size, 8, none⟩ = some (.int .i16 r.fx) ∧ w'.cell? ⟨w.heap.size, 9, none⟩ = some (.int .i16 r.fy) ∧ w'.cell? ⟨w.heap.size + 1, 8, none⟩ = some (.int .i16 d.ax) ∧ w'.cell? ⟨w.heap.size + 1, 9, none⟩ = some (.int .i16 d.ay) ∧ w'.cell? ⟨w.heap.size + 1, 12, none⟩ = some (.int .i64 d.radius)) (simp [go_sem, World.cell?_alloc_past]) (first | (go_at_call 171; refine (dist_c _ _ _ _ _ d1 d2 r1 r2).mono ?_; rintro e w' ⟨rfl, o1, o2, n, rfl⟩))
          go_wp2
          go_ret
          exact ⟨ret_u8 (by first | (rw [HW.out]; rfl) | rw [HW.out]), below_drewN ((((alloc_below _ _).alloc (by simp) _).alloc (by simp; omega) _).alloc (by simp; omega) _) _⟩
end Go.Proofs.YtkpdomnmlinomabGreat.Fit
