/- The contract of the document's Against: the reasons against a pair. -/
import Derived.Test.YtkpdomnmlinomabGreatFit
namespace Go.Proofs.YtkpdomnmlinomabGreat.RefFit
open Go.RowKit Go.Proofs.YtkpdomnmlinomabGreat.Aid Go.Proofs.YtkpdomnmlinomabGreat.Mem Go.Proofs.YtkpdomnmlinomabGreat.Dist Go.Proofs.YtkpdomnmlinomabGreat.Types Go.Proofs.YtkpdomnmlinomabGreat.Classes Go.Proofs.YtkpdomnmlinomabGreat.Fit
set_option linter.unusedSimpArgs false
theorem ba {a w : World} (h : Below a.heap.size a w) (o : Obj) : Below a.heap.size a (w.alloc o) := h.alloc h.size o
theorem index_c (x k : Int) (b : Bool) (h0 : 0 ≤ k) (h1 : k ≤ 7) (hb : (cls8 x)[k.toNat]? = some (.bool b)) (w : World) : (Sem.run Tryz.prog (Instr.index 270 (.agg (cls8 x)) (.int .i64 (IntKind.i64.wrap k))) w) = .ok (.bool b) w := by
  obtain rfl | rfl | rfl | rfl | rfl | rfl | rfl | rfl : k = 0 ∨ k = 1 ∨ k = 2 ∨ k = 3 ∨ k = 4 ∨ k = 5 ∨ k = 6 ∨ k = 7 := by omega
  all_goals (simp [cls8] at hb; subst hb)
  · rw [show IntKind.i64.wrap 0 = 0 from by decide]; simp [go_sem, Instr.index, cls8]
  · rw [show IntKind.i64.wrap 1 = 1 from by decide]; simp [go_sem, Instr.index, cls8]
  · rw [show IntKind.i64.wrap 2 = 2 from by decide]; simp [go_sem, Instr.index, cls8]
  · rw [show IntKind.i64.wrap 3 = 3 from by decide]; simp [go_sem, Instr.index, cls8]
  · rw [show IntKind.i64.wrap 4 = 4 from by decide]; simp [go_sem, Instr.index, cls8]
  · rw [show IntKind.i64.wrap 5 = 5 from by decide]; simp [go_sem, Instr.index, cls8]
  · rw [show IntKind.i64.wrap 6 = 6 from by decide]; simp [go_sem, Instr.index, cls8]
  · rw [show IntKind.i64.wrap 7 = 7 from by decide]; simp [go_sem, Instr.index, cls8]
set_option maxHeartbeats 8000000 in
set_option maxRecDepth 100000 in
theorem a_g11 (r : Req) (d : Drv) (w : World) (d1 : S16 d.ax) (d2 : S16 d.ay) (r1 : S16 r.fx) (r2 : S16 r.fy) (h : 7 < d.cls) (hs : d.seats < r.seats) (hf : d.radius < dst d.ax d.ay r.fx r.fy) :
    Calls Tryz.prog 163 #[r.val, d.val] w fun e w' => e = .returned (.int .i64 7) ∧ Below w.heap.size w w' := by
  have hd : decide (7 < d.cls) = true := by simp; omega
  go_enter Tryz.func163, Tryz.ntmps163
  go_wp2
  go_quiet (fail)
  go_wp2
  go_region_held3 (fun w' => w'.cell? ⟨w.heap.size, 8, none⟩ = some (.int .i16 r.fx) ∧ w'.cell? ⟨w.heap.size, 9, none⟩ = some (.int .i16 r.fy) ∧ w'.cell? ⟨w.heap.size + 1, 8, none⟩ = some (.int .i16 d.ax) ∧ w'.cell? ⟨w.heap.size + 1, 9, none⟩ = some (.int .i16 d.ay) ∧ w'.cell? ⟨w.heap.size + 1, 12, none⟩ = some (.int .i64 d.radius)) (simp [go_sem, World.cell?_alloc_past]) (first | (go_at_call 170; refine (refDist_c _ _ _ _ _ d1 d2 r1 r2).mono ?_; rintro e w' ⟨rfl, o3, o4, n, rfl⟩))
  go_wp2
  go_ret
  exact ⟨rfl, by repeat' (first | exact Below.refl _ _ | apply below_drewN | apply ba)⟩
set_option maxHeartbeats 8000000 in
set_option maxRecDepth 100000 in
theorem a_g10 (r : Req) (d : Drv) (w : World) (d1 : S16 d.ax) (d2 : S16 d.ay) (r1 : S16 r.fx) (r2 : S16 r.fy) (h : 7 < d.cls) (hs : d.seats < r.seats) (hf : dst d.ax d.ay r.fx r.fy ≤ d.radius) :
    Calls Tryz.prog 163 #[r.val, d.val] w fun e w' => e = .returned (.int .i64 3) ∧ Below w.heap.size w w' := by
  have hd : decide (7 < d.cls) = true := by simp; omega
  go_enter Tryz.func163, Tryz.ntmps163
  go_wp2
  go_quiet (fail)
  go_wp2
  go_region_held3 (fun w' => w'.cell? ⟨w.heap.size, 8, none⟩ = some (.int .i16 r.fx) ∧ w'.cell? ⟨w.heap.size, 9, none⟩ = some (.int .i16 r.fy) ∧ w'.cell? ⟨w.heap.size + 1, 8, none⟩ = some (.int .i16 d.ax) ∧ w'.cell? ⟨w.heap.size + 1, 9, none⟩ = some (.int .i16 d.ay) ∧ w'.cell? ⟨w.heap.size + 1, 12, none⟩ = some (.int .i64 d.radius)) (simp [go_sem, World.cell?_alloc_past]) (first | (go_at_call 170; refine (refDist_c _ _ _ _ _ d1 d2 r1 r2).mono ?_; rintro e w' ⟨rfl, o3, o4, n, rfl⟩))
  go_wp2
  go_ret
  exact ⟨rfl, by repeat' (first | exact Below.refl _ _ | apply below_drewN | apply ba)⟩
set_option maxHeartbeats 8000000 in
set_option maxRecDepth 100000 in
theorem a_g01 (r : Req) (d : Drv) (w : World) (d1 : S16 d.ax) (d2 : S16 d.ay) (r1 : S16 r.fx) (r2 : S16 r.fy) (h : 7 < d.cls) (hs : r.seats ≤ d.seats) (hf : d.radius < dst d.ax d.ay r.fx r.fy) :
    Calls Tryz.prog 163 #[r.val, d.val] w fun e w' => e = .returned (.int .i64 5) ∧ Below w.heap.size w w' := by
  have hd : decide (7 < d.cls) = true := by simp; omega
  go_enter Tryz.func163, Tryz.ntmps163
  go_wp2
  go_quiet (fail)
  go_wp2
  go_region_held3 (fun w' => w'.cell? ⟨w.heap.size, 8, none⟩ = some (.int .i16 r.fx) ∧ w'.cell? ⟨w.heap.size, 9, none⟩ = some (.int .i16 r.fy) ∧ w'.cell? ⟨w.heap.size + 1, 8, none⟩ = some (.int .i16 d.ax) ∧ w'.cell? ⟨w.heap.size + 1, 9, none⟩ = some (.int .i16 d.ay) ∧ w'.cell? ⟨w.heap.size + 1, 12, none⟩ = some (.int .i64 d.radius)) (simp [go_sem, World.cell?_alloc_past]) (first | (go_at_call 170; refine (refDist_c _ _ _ _ _ d1 d2 r1 r2).mono ?_; rintro e w' ⟨rfl, o3, o4, n, rfl⟩))
  go_wp2
  go_ret
  exact ⟨rfl, by repeat' (first | exact Below.refl _ _ | apply below_drewN | apply ba)⟩
set_option maxHeartbeats 8000000 in
set_option maxRecDepth 100000 in
theorem a_g00 (r : Req) (d : Drv) (w : World) (d1 : S16 d.ax) (d2 : S16 d.ay) (r1 : S16 r.fx) (r2 : S16 r.fy) (h : 7 < d.cls) (hs : r.seats ≤ d.seats) (hf : dst d.ax d.ay r.fx r.fy ≤ d.radius) :
    Calls Tryz.prog 163 #[r.val, d.val] w fun e w' => e = .returned (.int .i64 1) ∧ Below w.heap.size w w' := by
  have hd : decide (7 < d.cls) = true := by simp; omega
  go_enter Tryz.func163, Tryz.ntmps163
  go_wp2
  go_quiet (fail)
  go_wp2
  go_region_held3 (fun w' => w'.cell? ⟨w.heap.size, 8, none⟩ = some (.int .i16 r.fx) ∧ w'.cell? ⟨w.heap.size, 9, none⟩ = some (.int .i16 r.fy) ∧ w'.cell? ⟨w.heap.size + 1, 8, none⟩ = some (.int .i16 d.ax) ∧ w'.cell? ⟨w.heap.size + 1, 9, none⟩ = some (.int .i16 d.ay) ∧ w'.cell? ⟨w.heap.size + 1, 12, none⟩ = some (.int .i64 d.radius)) (simp [go_sem, World.cell?_alloc_past]) (first | (go_at_call 170; refine (refDist_c _ _ _ _ _ d1 d2 r1 r2).mono ?_; rintro e w' ⟨rfl, o3, o4, n, rfl⟩))
  go_wp2
  go_ret
  exact ⟨rfl, by repeat' (first | exact Below.refl _ _ | apply below_drewN | apply ba)⟩
set_option maxHeartbeats 8000000 in
set_option maxRecDepth 100000 in
theorem a_t11 (r : Req) (d : Drv) (w : World) (d1 : S16 d.ax) (d2 : S16 d.ay) (r1 : S16 r.fx) (r2 : S16 r.fy) (h : d.cls ≤ 7) (c0 : 0 ≤ d.cls) (c1 : 0 ≤ r.classes) (c2 : r.classes ≤ 255) (hb : (cls8 r.classes)[d.cls.toNat]? = some (.bool true)) (hs : d.seats < r.seats) (hf : d.radius < dst d.ax d.ay r.fx r.fy) :
    Calls Tryz.prog 163 #[r.val, d.val] w fun e w' => e = .returned (.int .i64 6) ∧ Below w.heap.size w w' := by
  have hd : decide (7 < d.cls) = false := by simp; omega
  have hz := index_c r.classes d.cls _ c0 h hb
  clear hb
  go_enter Tryz.func163, Tryz.ntmps163
  go_wp2
  go_region_held3 (fun w' => w'.cell? ⟨w.heap.size, 13, none⟩ = some (.int .u8 r.classes) ∧ w'.cell? ⟨w.heap.size + 1, 11, none⟩ = some (.int .u8 d.cls)) (simp [go_sem, World.cell?_alloc_past]) (first | (go_at_call 169; refine (classes_c _ _ c1 c2).mono ?_; rintro e w' ⟨rfl, o1, o2, rfl⟩))
  go_wp2
  go_region_held3 (fun w' => w'.cell? ⟨w.heap.size, 8, none⟩ = some (.int .i16 r.fx) ∧ w'.cell? ⟨w.heap.size, 9, none⟩ = some (.int .i16 r.fy) ∧ w'.cell? ⟨w.heap.size + 1, 8, none⟩ = some (.int .i16 d.ax) ∧ w'.cell? ⟨w.heap.size + 1, 9, none⟩ = some (.int .i16 d.ay) ∧ w'.cell? ⟨w.heap.size + 1, 12, none⟩ = some (.int .i64 d.radius)) (simp [go_sem, World.cell?_alloc_past]) (first | (go_at_call 170; refine (refDist_c _ _ _ _ _ d1 d2 r1 r2).mono ?_; rintro e w' ⟨rfl, o3, o4, n, rfl⟩))
  go_wp2
  go_ret
  exact ⟨rfl, by repeat' (first | exact Below.refl _ _ | apply below_drewN | apply ba)⟩
set_option maxHeartbeats 8000000 in
set_option maxRecDepth 100000 in
theorem a_t10 (r : Req) (d : Drv) (w : World) (d1 : S16 d.ax) (d2 : S16 d.ay) (r1 : S16 r.fx) (r2 : S16 r.fy) (h : d.cls ≤ 7) (c0 : 0 ≤ d.cls) (c1 : 0 ≤ r.classes) (c2 : r.classes ≤ 255) (hb : (cls8 r.classes)[d.cls.toNat]? = some (.bool true)) (hs : d.seats < r.seats) (hf : dst d.ax d.ay r.fx r.fy ≤ d.radius) :
    Calls Tryz.prog 163 #[r.val, d.val] w fun e w' => e = .returned (.int .i64 2) ∧ Below w.heap.size w w' := by
  have hd : decide (7 < d.cls) = false := by simp; omega
  have hz := index_c r.classes d.cls _ c0 h hb
  clear hb
  go_enter Tryz.func163, Tryz.ntmps163
  go_wp2
  go_region_held3 (fun w' => w'.cell? ⟨w.heap.size, 13, none⟩ = some (.int .u8 r.classes) ∧ w'.cell? ⟨w.heap.size + 1, 11, none⟩ = some (.int .u8 d.cls)) (simp [go_sem, World.cell?_alloc_past]) (first | (go_at_call 169; refine (classes_c _ _ c1 c2).mono ?_; rintro e w' ⟨rfl, o1, o2, rfl⟩))
  go_wp2
  go_region_held3 (fun w' => w'.cell? ⟨w.heap.size, 8, none⟩ = some (.int .i16 r.fx) ∧ w'.cell? ⟨w.heap.size, 9, none⟩ = some (.int .i16 r.fy) ∧ w'.cell? ⟨w.heap.size + 1, 8, none⟩ = some (.int .i16 d.ax) ∧ w'.cell? ⟨w.heap.size + 1, 9, none⟩ = some (.int .i16 d.ay) ∧ w'.cell? ⟨w.heap.size + 1, 12, none⟩ = some (.int .i64 d.radius)) (simp [go_sem, World.cell?_alloc_past]) (first | (go_at_call 170; refine (refDist_c _ _ _ _ _ d1 d2 r1 r2).mono ?_; rintro e w' ⟨rfl, o3, o4, n, rfl⟩))
  go_wp2
  go_ret
  exact ⟨rfl, by repeat' (first | exact Below.refl _ _ | apply below_drewN | apply ba)⟩
set_option maxHeartbeats 8000000 in
set_option maxRecDepth 100000 in
theorem a_t01 (r : Req) (d : Drv) (w : World) (d1 : S16 d.ax) (d2 : S16 d.ay) (r1 : S16 r.fx) (r2 : S16 r.fy) (h : d.cls ≤ 7) (c0 : 0 ≤ d.cls) (c1 : 0 ≤ r.classes) (c2 : r.classes ≤ 255) (hb : (cls8 r.classes)[d.cls.toNat]? = some (.bool true)) (hs : r.seats ≤ d.seats) (hf : d.radius < dst d.ax d.ay r.fx r.fy) :
    Calls Tryz.prog 163 #[r.val, d.val] w fun e w' => e = .returned (.int .i64 4) ∧ Below w.heap.size w w' := by
  have hd : decide (7 < d.cls) = false := by simp; omega
  have hz := index_c r.classes d.cls _ c0 h hb
  clear hb
  go_enter Tryz.func163, Tryz.ntmps163
  go_wp2
  go_region_held3 (fun w' => w'.cell? ⟨w.heap.size, 13, none⟩ = some (.int .u8 r.classes) ∧ w'.cell? ⟨w.heap.size + 1, 11, none⟩ = some (.int .u8 d.cls)) (simp [go_sem, World.cell?_alloc_past]) (first | (go_at_call 169; refine (classes_c _ _ c1 c2).mono ?_; rintro e w' ⟨rfl, o1, o2, rfl⟩))
  go_wp2
  go_region_held3 (fun w' => w'.cell? ⟨w.heap.size, 8, none⟩ = some (.int .i16 r.fx) ∧ w'.cell? ⟨w.heap.size, 9, none⟩ = some (.int .i16 r.fy) ∧ w'.cell? ⟨w.heap.size + 1, 8, none⟩ = some (.int .i16 d.ax) ∧ w'.cell? ⟨w.heap.size + 1, 9, none⟩ = some (.int .i16 d.ay) ∧ w'.cell? ⟨w.heap.size + 1, 12, none⟩ = some (.int .i64 d.radius)) (simp [go_sem, World.cell?_alloc_past]) (first | (go_at_call 170; refine (refDist_c _ _ _ _ _ d1 d2 r1 r2).mono ?_; rintro e w' ⟨rfl, o3, o4, n, rfl⟩))
  go_wp2
  go_ret
  exact ⟨rfl, by repeat' (first | exact Below.refl _ _ | apply below_drewN | apply ba)⟩
set_option maxHeartbeats 8000000 in
set_option maxRecDepth 100000 in
theorem a_t00 (r : Req) (d : Drv) (w : World) (d1 : S16 d.ax) (d2 : S16 d.ay) (r1 : S16 r.fx) (r2 : S16 r.fy) (h : d.cls ≤ 7) (c0 : 0 ≤ d.cls) (c1 : 0 ≤ r.classes) (c2 : r.classes ≤ 255) (hb : (cls8 r.classes)[d.cls.toNat]? = some (.bool true)) (hs : r.seats ≤ d.seats) (hf : dst d.ax d.ay r.fx r.fy ≤ d.radius) :
    Calls Tryz.prog 163 #[r.val, d.val] w fun e w' => e = .returned (.int .i64 0) ∧ Below w.heap.size w w' := by
  have hd : decide (7 < d.cls) = false := by simp; omega
  have hz := index_c r.classes d.cls _ c0 h hb
  clear hb
  go_enter Tryz.func163, Tryz.ntmps163
  go_wp2
  go_region_held3 (fun w' => w'.cell? ⟨w.heap.size, 13, none⟩ = some (.int .u8 r.classes) ∧ w'.cell? ⟨w.heap.size + 1, 11, none⟩ = some (.int .u8 d.cls)) (simp [go_sem, World.cell?_alloc_past]) (first | (go_at_call 169; refine (classes_c _ _ c1 c2).mono ?_; rintro e w' ⟨rfl, o1, o2, rfl⟩))
  go_wp2
  go_region_held3 (fun w' => w'.cell? ⟨w.heap.size, 8, none⟩ = some (.int .i16 r.fx) ∧ w'.cell? ⟨w.heap.size, 9, none⟩ = some (.int .i16 r.fy) ∧ w'.cell? ⟨w.heap.size + 1, 8, none⟩ = some (.int .i16 d.ax) ∧ w'.cell? ⟨w.heap.size + 1, 9, none⟩ = some (.int .i16 d.ay) ∧ w'.cell? ⟨w.heap.size + 1, 12, none⟩ = some (.int .i64 d.radius)) (simp [go_sem, World.cell?_alloc_past]) (first | (go_at_call 170; refine (refDist_c _ _ _ _ _ d1 d2 r1 r2).mono ?_; rintro e w' ⟨rfl, o3, o4, n, rfl⟩))
  go_wp2
  go_ret
  exact ⟨rfl, by repeat' (first | exact Below.refl _ _ | apply below_drewN | apply ba)⟩
set_option maxHeartbeats 8000000 in
set_option maxRecDepth 100000 in
theorem a_f11 (r : Req) (d : Drv) (w : World) (d1 : S16 d.ax) (d2 : S16 d.ay) (r1 : S16 r.fx) (r2 : S16 r.fy) (h : d.cls ≤ 7) (c0 : 0 ≤ d.cls) (c1 : 0 ≤ r.classes) (c2 : r.classes ≤ 255) (hb : (cls8 r.classes)[d.cls.toNat]? = some (.bool false)) (hs : d.seats < r.seats) (hf : d.radius < dst d.ax d.ay r.fx r.fy) :
    Calls Tryz.prog 163 #[r.val, d.val] w fun e w' => e = .returned (.int .i64 7) ∧ Below w.heap.size w w' := by
  have hd : decide (7 < d.cls) = false := by simp; omega
  have hz := index_c r.classes d.cls _ c0 h hb
  clear hb
  go_enter Tryz.func163, Tryz.ntmps163
  go_wp2
  go_region_held3 (fun w' => w'.cell? ⟨w.heap.size, 13, none⟩ = some (.int .u8 r.classes) ∧ w'.cell? ⟨w.heap.size + 1, 11, none⟩ = some (.int .u8 d.cls)) (simp [go_sem, World.cell?_alloc_past]) (first | (go_at_call 169; refine (classes_c _ _ c1 c2).mono ?_; rintro e w' ⟨rfl, o1, o2, rfl⟩))
  go_wp2
  go_region_held3 (fun w' => w'.cell? ⟨w.heap.size, 8, none⟩ = some (.int .i16 r.fx) ∧ w'.cell? ⟨w.heap.size, 9, none⟩ = some (.int .i16 r.fy) ∧ w'.cell? ⟨w.heap.size + 1, 8, none⟩ = some (.int .i16 d.ax) ∧ w'.cell? ⟨w.heap.size + 1, 9, none⟩ = some (.int .i16 d.ay) ∧ w'.cell? ⟨w.heap.size + 1, 12, none⟩ = some (.int .i64 d.radius)) (simp [go_sem, World.cell?_alloc_past]) (first | (go_at_call 170; refine (refDist_c _ _ _ _ _ d1 d2 r1 r2).mono ?_; rintro e w' ⟨rfl, o3, o4, n, rfl⟩))
  go_wp2
  go_ret
  exact ⟨rfl, by repeat' (first | exact Below.refl _ _ | apply below_drewN | apply ba)⟩
set_option maxHeartbeats 8000000 in
set_option maxRecDepth 100000 in
theorem a_f10 (r : Req) (d : Drv) (w : World) (d1 : S16 d.ax) (d2 : S16 d.ay) (r1 : S16 r.fx) (r2 : S16 r.fy) (h : d.cls ≤ 7) (c0 : 0 ≤ d.cls) (c1 : 0 ≤ r.classes) (c2 : r.classes ≤ 255) (hb : (cls8 r.classes)[d.cls.toNat]? = some (.bool false)) (hs : d.seats < r.seats) (hf : dst d.ax d.ay r.fx r.fy ≤ d.radius) :
    Calls Tryz.prog 163 #[r.val, d.val] w fun e w' => e = .returned (.int .i64 3) ∧ Below w.heap.size w w' := by
  have hd : decide (7 < d.cls) = false := by simp; omega
  have hz := index_c r.classes d.cls _ c0 h hb
  clear hb
  go_enter Tryz.func163, Tryz.ntmps163
  go_wp2
  go_region_held3 (fun w' => w'.cell? ⟨w.heap.size, 13, none⟩ = some (.int .u8 r.classes) ∧ w'.cell? ⟨w.heap.size + 1, 11, none⟩ = some (.int .u8 d.cls)) (simp [go_sem, World.cell?_alloc_past]) (first | (go_at_call 169; refine (classes_c _ _ c1 c2).mono ?_; rintro e w' ⟨rfl, o1, o2, rfl⟩))
  go_wp2
  go_region_held3 (fun w' => w'.cell? ⟨w.heap.size, 8, none⟩ = some (.int .i16 r.fx) ∧ w'.cell? ⟨w.heap.size, 9, none⟩ = some (.int .i16 r.fy) ∧ w'.cell? ⟨w.heap.size + 1, 8, none⟩ = some (.int .i16 d.ax) ∧ w'.cell? ⟨w.heap.size + 1, 9, none⟩ = some (.int .i16 d.ay) ∧ w'.cell? ⟨w.heap.size + 1, 12, none⟩ = some (.int .i64 d.radius)) (simp [go_sem, World.cell?_alloc_past]) (first | (go_at_call 170; refine (refDist_c _ _ _ _ _ d1 d2 r1 r2).mono ?_; rintro e w' ⟨rfl, o3, o4, n, rfl⟩))
  go_wp2
  go_ret
  exact ⟨rfl, by repeat' (first | exact Below.refl _ _ | apply below_drewN | apply ba)⟩
set_option maxHeartbeats 8000000 in
set_option maxRecDepth 100000 in
theorem a_f01 (r : Req) (d : Drv) (w : World) (d1 : S16 d.ax) (d2 : S16 d.ay) (r1 : S16 r.fx) (r2 : S16 r.fy) (h : d.cls ≤ 7) (c0 : 0 ≤ d.cls) (c1 : 0 ≤ r.classes) (c2 : r.classes ≤ 255) (hb : (cls8 r.classes)[d.cls.toNat]? = some (.bool false)) (hs : r.seats ≤ d.seats) (hf : d.radius < dst d.ax d.ay r.fx r.fy) :
    Calls Tryz.prog 163 #[r.val, d.val] w fun e w' => e = .returned (.int .i64 5) ∧ Below w.heap.size w w' := by
  have hd : decide (7 < d.cls) = false := by simp; omega
  have hz := index_c r.classes d.cls _ c0 h hb
  clear hb
  go_enter Tryz.func163, Tryz.ntmps163
  go_wp2
  go_region_held3 (fun w' => w'.cell? ⟨w.heap.size, 13, none⟩ = some (.int .u8 r.classes) ∧ w'.cell? ⟨w.heap.size + 1, 11, none⟩ = some (.int .u8 d.cls)) (simp [go_sem, World.cell?_alloc_past]) (first | (go_at_call 169; refine (classes_c _ _ c1 c2).mono ?_; rintro e w' ⟨rfl, o1, o2, rfl⟩))
  go_wp2
  go_region_held3 (fun w' => w'.cell? ⟨w.heap.size, 8, none⟩ = some (.int .i16 r.fx) ∧ w'.cell? ⟨w.heap.size, 9, none⟩ = some (.int .i16 r.fy) ∧ w'.cell? ⟨w.heap.size + 1, 8, none⟩ = some (.int .i16 d.ax) ∧ w'.cell? ⟨w.heap.size + 1, 9, none⟩ = some (.int .i16 d.ay) ∧ w'.cell? ⟨w.heap.size + 1, 12, none⟩ = some (.int .i64 d.radius)) (simp [go_sem, World.cell?_alloc_past]) (first | (go_at_call 170; refine (refDist_c _ _ _ _ _ d1 d2 r1 r2).mono ?_; rintro e w' ⟨rfl, o3, o4, n, rfl⟩))
  go_wp2
  go_ret
  exact ⟨rfl, by repeat' (first | exact Below.refl _ _ | apply below_drewN | apply ba)⟩
set_option maxHeartbeats 8000000 in
set_option maxRecDepth 100000 in
theorem a_f00 (r : Req) (d : Drv) (w : World) (d1 : S16 d.ax) (d2 : S16 d.ay) (r1 : S16 r.fx) (r2 : S16 r.fy) (h : d.cls ≤ 7) (c0 : 0 ≤ d.cls) (c1 : 0 ≤ r.classes) (c2 : r.classes ≤ 255) (hb : (cls8 r.classes)[d.cls.toNat]? = some (.bool false)) (hs : r.seats ≤ d.seats) (hf : dst d.ax d.ay r.fx r.fy ≤ d.radius) :
    Calls Tryz.prog 163 #[r.val, d.val] w fun e w' => e = .returned (.int .i64 1) ∧ Below w.heap.size w w' := by
  have hd : decide (7 < d.cls) = false := by simp; omega
  have hz := index_c r.classes d.cls _ c0 h hb
  clear hb
  go_enter Tryz.func163, Tryz.ntmps163
  go_wp2
  go_region_held3 (fun w' => w'.cell? ⟨w.heap.size, 13, none⟩ = some (.int .u8 r.classes) ∧ w'.cell? ⟨w.heap.size + 1, 11, none⟩ = some (.int .u8 d.cls)) (simp [go_sem, World.cell?_alloc_past]) (first | (go_at_call 169; refine (classes_c _ _ c1 c2).mono ?_; rintro e w' ⟨rfl, o1, o2, rfl⟩))
  go_wp2
  go_region_held3 (fun w' => w'.cell? ⟨w.heap.size, 8, none⟩ = some (.int .i16 r.fx) ∧ w'.cell? ⟨w.heap.size, 9, none⟩ = some (.int .i16 r.fy) ∧ w'.cell? ⟨w.heap.size + 1, 8, none⟩ = some (.int .i16 d.ax) ∧ w'.cell? ⟨w.heap.size + 1, 9, none⟩ = some (.int .i16 d.ay) ∧ w'.cell? ⟨w.heap.size + 1, 12, none⟩ = some (.int .i64 d.radius)) (simp [go_sem, World.cell?_alloc_past]) (first | (go_at_call 170; refine (refDist_c _ _ _ _ _ d1 d2 r1 r2).mono ?_; rintro e w' ⟨rfl, o3, o4, n, rfl⟩))
  go_wp2
  go_ret
  exact ⟨rfl, by repeat' (first | exact Below.refl _ _ | apply below_drewN | apply ba)⟩
theorem ret_i2 {a b : Int} (h : a = b) : Ending.returned (.int .i64 a) = Ending.returned (.int .i64 b) := by rw [h]
theorem refAgainst_c (r : Req) (d : Drv) (w : World) (hr : Rok r) (hd : Dok d) :
    Calls Tryz.prog 163 #[r.val, d.val] w fun e w' => e = .returned (.int .i64 (why r d)) ∧ Below w.heap.size w w' := by
  obtain ⟨s3, s4⟩ := hd.cls
  obtain ⟨c1, c2⟩ := hr.classes
  by_cases hc : 7 < d.cls
  · have n1 : noClass r.classes d.cls = true := by unfold noClass; simp [hc]
    by_cases hs : d.seats < r.seats
    · by_cases hf : d.radius < dst d.ax d.ay r.fx r.fy
      · exact (a_g11 r d w hd.ax hd.ay hr.fx hr.fy hc hs hf).mono fun e w' ⟨h1, h2⟩ => ⟨h1.trans (ret_i2 (by unfold why far; simp [n1, hs, hf])), h2⟩
      · exact (a_g10 r d w hd.ax hd.ay hr.fx hr.fy hc hs (by omega)).mono fun e w' ⟨h1, h2⟩ => ⟨h1.trans (ret_i2 (by unfold why far; simp [n1, hs, hf])), h2⟩
    · by_cases hf : d.radius < dst d.ax d.ay r.fx r.fy
      · exact (a_g01 r d w hd.ax hd.ay hr.fx hr.fy hc (by omega) hf).mono fun e w' ⟨h1, h2⟩ => ⟨h1.trans (ret_i2 (by unfold why far; simp [n1, hs, hf])), h2⟩
      · exact (a_g00 r d w hd.ax hd.ay hr.fx hr.fy hc (by omega) (by omega)).mono fun e w' ⟨h1, h2⟩ => ⟨h1.trans (ret_i2 (by unfold why far; simp [n1, hs, hf])), h2⟩
  · have hc' : d.cls ≤ 7 := by omega
    have hg := cls8_get r.classes d.cls s3 hc'
    by_cases hb : r.classes / 2 ^ d.cls.toNat % 2 = 0
    · have n1 : noClass r.classes d.cls = true := by unfold noClass; simp [hb]
      rw [show (r.classes / 2 ^ d.cls.toNat % 2 == 1) = false by simp [hb]] at hg
      by_cases hs : d.seats < r.seats
      · by_cases hf : d.radius < dst d.ax d.ay r.fx r.fy
        · exact (a_f11 r d w hd.ax hd.ay hr.fx hr.fy hc' s3 c1 c2 hg hs hf).mono fun e w' ⟨h1, h2⟩ => ⟨h1.trans (ret_i2 (by unfold why far; simp [n1, hs, hf])), h2⟩
        · exact (a_f10 r d w hd.ax hd.ay hr.fx hr.fy hc' s3 c1 c2 hg hs (by omega)).mono fun e w' ⟨h1, h2⟩ => ⟨h1.trans (ret_i2 (by unfold why far; simp [n1, hs, hf])), h2⟩
      · by_cases hf : d.radius < dst d.ax d.ay r.fx r.fy
        · exact (a_f01 r d w hd.ax hd.ay hr.fx hr.fy hc' s3 c1 c2 hg (by omega) hf).mono fun e w' ⟨h1, h2⟩ => ⟨h1.trans (ret_i2 (by unfold why far; simp [n1, hs, hf])), h2⟩
        · exact (a_f00 r d w hd.ax hd.ay hr.fx hr.fy hc' s3 c1 c2 hg (by omega) (by omega)).mono fun e w' ⟨h1, h2⟩ => ⟨h1.trans (ret_i2 (by unfold why far; simp [n1, hs, hf])), h2⟩
    · have hb1 : r.classes / 2 ^ d.cls.toNat % 2 = 1 := by omega
      have n1 : noClass r.classes d.cls = false := by unfold noClass; simp [hc, hb1]
      rw [show (r.classes / 2 ^ d.cls.toNat % 2 == 1) = true by simp [hb1]] at hg
      by_cases hs : d.seats < r.seats
      · by_cases hf : d.radius < dst d.ax d.ay r.fx r.fy
        · exact (a_t11 r d w hd.ax hd.ay hr.fx hr.fy hc' s3 c1 c2 hg hs hf).mono fun e w' ⟨h1, h2⟩ => ⟨h1.trans (ret_i2 (by unfold why far; simp [n1, hs, hf])), h2⟩
        · exact (a_t10 r d w hd.ax hd.ay hr.fx hr.fy hc' s3 c1 c2 hg hs (by omega)).mono fun e w' ⟨h1, h2⟩ => ⟨h1.trans (ret_i2 (by unfold why far; simp [n1, hs, hf])), h2⟩
      · by_cases hf : d.radius < dst d.ax d.ay r.fx r.fy
        · exact (a_t01 r d w hd.ax hd.ay hr.fx hr.fy hc' s3 c1 c2 hg (by omega) hf).mono fun e w' ⟨h1, h2⟩ => ⟨h1.trans (ret_i2 (by unfold why far; simp [n1, hs, hf])), h2⟩
        · exact (a_t00 r d w hd.ax hd.ay hr.fx hr.fy hc' s3 c1 c2 hg (by omega) (by omega)).mono fun e w' ⟨h1, h2⟩ => ⟨h1.trans (ret_i2 (by unfold why far; simp [n1, hs, hf])), h2⟩
end Go.Proofs.YtkpdomnmlinomabGreat.RefFit
