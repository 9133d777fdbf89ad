/- Contracts of fit.Config, Check, CheckDriver and of the document's: what may be. -/
import Derived.Test.YtkpdomnmlinomabGreatTypes
import Derived.Test.YtkpdomnmlinomabGreatMem
import Derived.Test.YtkpdomnmlinomabGreatAid
import Derived.WalkKit
import Derived.WalkSpells
import Derived.WalkLawsBesides
import Derived.Lib.Hide
import Derived.Deep.QuietTactic
import Derived.BigQuiet
namespace Go.Proofs.YtkpdomnmlinomabGreat.Mays
open Go.RowKit Go.Proofs.YtkpdomnmlinomabGreat.Aid Go.Proofs.YtkpdomnmlinomabGreat.Mem Go.Proofs.YtkpdomnmlinomabGreat.Types
set_option linter.unusedSimpArgs false
theorem ret_i {a b : Int} (h : a = b) : Ending.returned (.int .i64 a) = Ending.returned (.int .i64 b) := by rw [h]
theorem ba {a w : World} (h : Below a.heap.size a w) (o : Obj) : Below a.heap.size a (w.alloc o) := h.alloc h.size o
/-- The error of a configuration: its number. -/
def cfgErr (c : Cfg) : Int := if (1 ≤ c.q ∧ c.q ≤ 64) ∧ (1 ≤ c.d ∧ c.d ≤ 64) ∧ (1 ≤ c.w ∧ c.w ≤ 1048576) ∧ (1 ≤ c.ttl ∧ c.ttl ≤ 1048576) ∧ (1 ≤ c.b ∧ c.b ≤ 1048576) then 0 else 160
theorem cfgErr_yes {c : Cfg} (h : (1 ≤ c.q ∧ c.q ≤ 64) ∧ (1 ≤ c.d ∧ c.d ≤ 64) ∧ (1 ≤ c.w ∧ c.w ≤ 1048576) ∧ (1 ≤ c.ttl ∧ c.ttl ≤ 1048576) ∧ (1 ≤ c.b ∧ c.b ≤ 1048576)) : 0 = cfgErr c := (if_pos h).symm
theorem cfgErr_no {c : Cfg} (h : ¬((1 ≤ c.q ∧ c.q ≤ 64) ∧ (1 ≤ c.d ∧ c.d ≤ 64) ∧ (1 ≤ c.w ∧ c.w ≤ 1048576) ∧ (1 ≤ c.ttl ∧ c.ttl ≤ 1048576) ∧ (1 ≤ c.b ∧ c.b ≤ 1048576))) : 160 = cfgErr c := (if_neg h).symm
set_option maxHeartbeats 4000000 in
set_option maxRecDepth 100000 in
theorem config_c (c : Cfg) (w : World) : Calls Tryz.prog 21 #[c.val] w fun e w' => e = .returned (.int .i64 (cfgErr c)) ∧ ∃ o, w' = w.alloc o := by
  go_enter Tryz.func21, Tryz.ntmps21
  go_wp2
  all_goals (go_ret; exact ⟨ret_i (by first | exact cfgErr_yes (by omega) | exact cfgErr_no (by omega)), _, rfl⟩)
set_option maxHeartbeats 4000000 in
set_option maxRecDepth 100000 in
theorem refConfig_c (c : Cfg) (w : World) : Calls Tryz.prog 16 #[c.val] w fun e w' => e = .returned (.int .i64 (cfgErr c)) ∧ ∃ o, w' = w.alloc o := by
  go_enter Tryz.func16, Tryz.ntmps16
  go_wp2
  all_goals (go_ret; exact ⟨ret_i (by first | exact cfgErr_yes (by omega) | exact cfgErr_no (by omega)), _, rfl⟩)
/-- May a request be, by a configuration that may be? -/
def reqErr (c : Cfg) (r : Req) : Int := if 0 < r.seats ∧ 0 < r.classes ∧ (0 ≤ r.base ∧ r.base ≤ c.b) ∧ (1 ≤ r.ttl ∧ r.ttl ≤ c.ttl) then 0 else 1
theorem reqErr_yes {c : Cfg} {r : Req} (h : 0 < r.seats ∧ 0 < r.classes ∧ (0 ≤ r.base ∧ r.base ≤ c.b) ∧ (1 ≤ r.ttl ∧ r.ttl ≤ c.ttl)) : 0 = reqErr c r := (if_pos h).symm
theorem reqErr_no {c : Cfg} {r : Req} (h : ¬(0 < r.seats ∧ 0 < r.classes ∧ (0 ≤ r.base ∧ r.base ≤ c.b) ∧ (1 ≤ r.ttl ∧ r.ttl ≤ c.ttl))) : 1 = reqErr c r := (if_neg h).symm
def checkErr (c : Cfg) (r : Req) : Int := if cfgErr c = 0 then reqErr c r else 160
theorem cfgErr_or (c : Cfg) : cfgErr c = 0 ∨ cfgErr c = 160 := by unfold cfgErr; split <;> simp
theorem config_v (c : Cfg) (w : World) (v : Int) (h : Hid (cfgErr c = v)) : Calls Tryz.prog 21 #[c.val] w fun e w' => e = .returned (.int .i64 v) ∧ ∃ o, w' = w.alloc o := by
  obtain rfl := h.out
  exact config_c c w
theorem refConfig_v (c : Cfg) (w : World) (v : Int) (h : Hid (cfgErr c = v)) : Calls Tryz.prog 16 #[c.val] w fun e w' => e = .returned (.int .i64 v) ∧ ∃ o, w' = w.alloc o := by
  obtain rfl := h.out
  exact refConfig_c c w
theorem ret_b {a b : Bool} (h : a = b) : Ending.returned (.bool a) = Ending.returned (.bool b) := by rw [h]
theorem among_t (n m : Int) (w : World) (h1 : 1 ≤ n) (h2 : n ≤ m) : Calls Tryz.prog 110 #[.int .i64 n, .int .i64 m] w fun e w' => e = .returned (.bool true) ∧ w' = w := by
  go_enter Tryz.func110, Tryz.ntmps110
  go_wp2
  all_goals (go_ret; exact ⟨ret_b (by simp <;> omega), rfl⟩)
theorem among_f (n m : Int) (w : World) (h1 : 1 ≤ n → m < n) : Calls Tryz.prog 110 #[.int .i64 n, .int .i64 m] w fun e w' => e = .returned (.bool false) ∧ w' = w := by
  rcases Int.lt_or_le n 1 with h | h
  · clear h1
    go_enter Tryz.func110, Tryz.ntmps110
    go_wp2
    all_goals (go_ret; exact ⟨ret_b (by simp <;> omega), rfl⟩)
  · have h1 := h1 h
    go_enter Tryz.func110, Tryz.ntmps110
    go_wp2
    all_goals (go_ret; exact ⟨ret_b (by simp <;> omega), rfl⟩)
/-- b tells whether n is from l to m. -/
def Amg (l n m : Int) (b : Bool) : Prop := (l ≤ n ∧ n ≤ m) ↔ b = true
theorem among_c (n m : Int) (w : World) (b : Bool) (hb : Amg 1 n m b) : Calls Tryz.prog 110 #[.int .i64 n, .int .i64 m] w fun e w' => e = .returned (.bool b) ∧ w' = w := by
  have h : (1 ≤ n ∧ n ≤ m) ↔ b = true := hb
  cases b
  · exact among_f n m w (by simp at h; exact h)
  · simp at h; exact among_t n m w h.1 h.2
set_option maxHeartbeats 4000000 in
set_option maxRecDepth 100000 in
theorem check_c (c : Cfg) (r : Req) (w : World) (s0 : 0 ≤ r.seats) (c0 : 0 ≤ r.classes) : Calls Tryz.prog 111 #[c.val, r.val] w fun e w' => e = .returned (.int .i64 (checkErr c r)) ∧ Below w.heap.size w w' := by
  rcases cfgErr_or c with h | h
  · have hc := Lib.hid h
    have hk : reqErr c r = checkErr c r := (if_pos h).symm
    rw [← hk]
    clear h hk
    by_cases ht : 1 ≤ r.ttl ∧ r.ttl ≤ c.ttl
    · have hb : Amg 1 r.ttl c.ttl true := by unfold Amg; simp [ht]
      have ht2 := Lib.hid ht
      clear ht
      go_enter Tryz.func111, Tryz.ntmps111
      go_wp2_with (first | (go_at_call 21; (with_reducible refine (config_v c _ _ hc).mono ?_); rintro e w' ⟨rfl, o, rfl⟩) | (go_at_call 110; (with_reducible refine (among_c _ _ _ _ hb).mono ?_); rintro e w' ⟨rfl, rfl⟩))
      all_goals (have ht3 := ht2.out; (try simp only [beq_iff_eq] at *); go_ret; exact ⟨ret_i (by first | exact reqErr_yes (by omega) | exact reqErr_no (by omega)), by repeat' (first | exact Below.refl _ _ | apply below_drewN | apply ba)⟩)
    · have hb : Amg 1 r.ttl c.ttl false := by unfold Amg; simp [ht]
      have ht' : 1 ≤ r.ttl → c.ttl < r.ttl := by omega
      have ht2 := Lib.hid ht
      clear ht ht'
      go_enter Tryz.func111, Tryz.ntmps111
      go_wp2_with (first | (go_at_call 21; (with_reducible refine (config_v c _ _ hc).mono ?_); rintro e w' ⟨rfl, o, rfl⟩) | (go_at_call 110; (with_reducible refine (among_c _ _ _ _ hb).mono ?_); rintro e w' ⟨rfl, rfl⟩))
      all_goals (have ht3 := ht2.out; (try simp only [beq_iff_eq] at *); go_ret; exact ⟨ret_i (by exact reqErr_no (by omega)), by repeat' (first | exact Below.refl _ _ | apply below_drewN | apply ba)⟩)
  · have hc := Lib.hid h
    have hk : 160 = checkErr c r := (if_neg (by omega)).symm
    rw [← hk]
    clear h hk
    go_enter Tryz.func111, Tryz.ntmps111
    go_wp2_with (first | (go_at_call 21; (with_reducible refine (config_v c _ _ hc).mono ?_); rintro e w' ⟨rfl, o, rfl⟩))
    go_ret
    exact ⟨rfl, by repeat' (first | exact Below.refl _ _ | apply below_drewN | apply ba)⟩
set_option maxHeartbeats 4000000 in
set_option maxRecDepth 100000 in
theorem may_c (c : Cfg) (r : Req) (w : World) (s0 : 0 ≤ r.seats) (c0 : 0 ≤ r.classes) : Calls Tryz.prog 162 #[c.val, r.val] w fun e w' => e = .returned (.bool (reqErr c r == 0)) ∧ Below w.heap.size w w' := by
  have hn : ∀ b : Bool, (b = true ↔ 0 < r.seats ∧ 0 < r.classes ∧ (0 ≤ r.base ∧ r.base ≤ c.b) ∧ (1 ≤ r.ttl ∧ r.ttl ≤ c.ttl)) → b = (reqErr c r == 0) := by
    intro b hb
    cases b
    · rw [← reqErr_no (by simp at hb; omega)]; rfl
    · rw [← reqErr_yes (by simpa using hb)]; rfl
  have hn := Lib.hid hn
  go_enter Tryz.func162, Tryz.ntmps162
  go_wp2
  all_goals (have hn := hn.out; (try simp only [beq_iff_eq] at *); go_ret; exact ⟨ret_b (hn _ (by simp <;> omega)), by repeat' (first | exact Below.refl _ _ | apply below_drewN | apply ba)⟩)
theorem may_v (c : Cfg) (r : Req) (w : World) (s0 : 0 ≤ r.seats) (c0 : 0 ≤ r.classes) (b : Bool) (hb : Hid ((reqErr c r == 0) = b)) : Calls Tryz.prog 162 #[c.val, r.val] w fun e w' => e = .returned (.bool b) ∧ Below w.heap.size w w' := by
  obtain rfl := hb.out
  exact may_c c r w s0 c0
theorem reqErr_or (c : Cfg) (r : Req) : reqErr c r = 0 ∨ reqErr c r = 1 := by unfold reqErr; split <;> simp
theorem bt {a w v : World} (h : Below a.heap.size a w) (k : Below w.heap.size w v) : Below a.heap.size a v := h.trans (k.mono h.size)
set_option maxHeartbeats 4000000 in
set_option maxRecDepth 100000 in
theorem refCheck_c (c : Cfg) (r : Req) (w : World) (s0 : 0 ≤ r.seats) (c0 : 0 ≤ r.classes) : Calls Tryz.prog 108 #[c.val, r.val] w fun e w' => e = .returned (.int .i64 (checkErr c r)) ∧ Below w.heap.size w w' := by
  rcases cfgErr_or c with h | h
  · have hc := Lib.hid h
    rcases reqErr_or c r with h2 | h2
    · have hk : 0 = checkErr c r := by unfold checkErr; rw [if_pos h, h2]
      have hm : Hid ((reqErr c r == 0) = true) := Lib.hid (by rw [h2]; rfl)
      rw [← hk]
      clear h hk h2
      go_enter Tryz.func108, Tryz.ntmps108
      go_wp2_with (first | (go_at_call 16; (with_reducible refine (refConfig_v c _ _ hc).mono ?_); rintro e w' ⟨rfl, o, rfl⟩) | (go_at_call 162; (with_reducible refine (may_v c r _ s0 c0 _ hm).mono ?_); rintro e w' ⟨rfl, hB⟩))
      go_ret
      exact ⟨rfl, bt (by repeat' (first | exact Below.refl _ _ | apply below_drewN | apply ba)) hB⟩
    · have hk : 1 = checkErr c r := by unfold checkErr; rw [if_pos h, h2]
      have hm : Hid ((reqErr c r == 0) = false) := Lib.hid (by rw [h2]; rfl)
      rw [← hk]
      clear h hk h2
      go_enter Tryz.func108, Tryz.ntmps108
      go_wp2_with (first | (go_at_call 16; (with_reducible refine (refConfig_v c _ _ hc).mono ?_); rintro e w' ⟨rfl, o, rfl⟩) | (go_at_call 162; (with_reducible refine (may_v c r _ s0 c0 _ hm).mono ?_); rintro e w' ⟨rfl, hB⟩))
      go_ret
      exact ⟨rfl, bt (by repeat' (first | exact Below.refl _ _ | apply below_drewN | apply ba)) hB⟩
  · have hc := Lib.hid h
    have hk : 160 = checkErr c r := (if_neg (by omega)).symm
    rw [← hk]
    clear h hk
    go_enter Tryz.func108, Tryz.ntmps108
    go_wp2_with (first | (go_at_call 16; (with_reducible refine (refConfig_v c _ _ hc).mono ?_); rintro e w' ⟨rfl, o, rfl⟩))
    go_ret
    exact ⟨rfl, by repeat' (first | exact Below.refl _ _ | apply below_drewN | apply ba)⟩
/-- The error of a driver. -/
def drvErr (d : Drv) : Int := if 0 < d.seats ∧ d.cls ≤ 7 ∧ (0 ≤ d.radius ∧ d.radius ≤ 131070) then 0 else 1
theorem drvErr_yes {d : Drv} (h : 0 < d.seats ∧ d.cls ≤ 7 ∧ (0 ≤ d.radius ∧ d.radius ≤ 131070)) : 0 = drvErr d := (if_pos h).symm
theorem drvErr_no {d : Drv} (h : ¬(0 < d.seats ∧ d.cls ≤ 7 ∧ (0 ≤ d.radius ∧ d.radius ≤ 131070))) : 1 = drvErr d := (if_neg h).symm
set_option maxHeartbeats 4000000 in
set_option maxRecDepth 100000 in
theorem checkDriver_c (d : Drv) (w : World) (s0 : 0 ≤ d.seats) : Calls Tryz.prog 24 #[d.val] w fun e w' => e = .returned (.int .i64 (drvErr d)) ∧ Below w.heap.size w w' := by
  go_enter Tryz.func24, Tryz.ntmps24
  go_wp2
  all_goals ((try simp only [beq_iff_eq] at *); go_ret; exact ⟨ret_i (by first | exact drvErr_yes (by omega) | exact drvErr_no (by omega)), by repeat' (first | exact Below.refl _ _ | apply below_drewN | apply ba)⟩)
end Go.Proofs.YtkpdomnmlinomabGreat.Mays
