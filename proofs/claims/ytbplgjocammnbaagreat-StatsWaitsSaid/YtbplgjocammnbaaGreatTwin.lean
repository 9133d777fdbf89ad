/- Contracts of Beyond and TwinInts (a copy with a mark behind it). -/
import Derived.Test.YtbplgjocammnbaaGreatRows
import Derived.Test.YtbplgjocammnbaaGreatAid
import Derived.Test.YtbplgjocammnbaaGreatMem
import Derived.WalkKit
import Derived.WalkSpells
import Derived.Lib.Hide
import Derived.LoopTactic
import Derived.Laws.MakeOwn
import Derived.Deep.OwnRows
namespace Go.Proofs.YtbplgjocammnbaaGreat.Twin
open Go.RowKit Go.Proofs.YtbplgjocammnbaaGreat.Aid Go.Proofs.YtbplgjocammnbaaGreat.Mem
set_option linter.unusedSimpArgs false

theorem infoInt : (Tryz.prog.info? 3).map (fun i => (i.zero, i.size, i.bytes)) = some (some (.int .i64 0), 1, 8) := by kernel_rfl
theorem make_ints (m : Nat) (hm : m ≤ 2097152) (W : World) : (Instr.makeSlice 25 (.int .i64 (m : Int)) (.int .i64 (m : Int))).run Tryz.prog W = .ok (.slice (some ⟨W.heap.size, 0, none⟩) m m) (W.alloc (.cells (madeCells #[.int .i64 0] m) 3)) :=
  run_make_row' 25 3 (.int .i64 0) 8 Tryz.underlying25 infoInt rfl .i64 .i64 m (by omega) (by omega) W
theorem made_list (m : Nat) : madeCells #[Value.int .i64 0] m = (List.replicate m (Value.int .i64 0)).toArray := by
  apply Array.ext
  · simp [madeCells]
  · intro i h1 h2
    simp [madeCells, Nat.mod_one]

theorem tot_nonneg (xs : List Int) (h : ∀ x ∈ xs, 0 ≤ x) : 0 ≤ tot xs := by
  induction xs with
  | nil => exact Int.le_refl _
  | cons x xs ih =>
    rw [tot_cons]
    have h1 := h x (List.mem_cons_self ..)
    have h2 := ih fun y hy => h y (List.mem_cons_of_mem _ hy)
    omega
theorem tot_drop {xs : List Int} {k : Nat} {x : Int} (h : xs[k]? = some x) (hx : ∀ y ∈ xs, 0 ≤ y) : tot (xs.take k) + x ≤ tot xs := by
  have h1 := tot_snoc xs k x h
  have h2 : tot (xs.take (k + 1) ++ xs.drop (k + 1)) = tot xs := by rw [List.take_append_drop]
  rw [tot_append] at h2
  have h3 := tot_nonneg (xs.drop (k + 1)) fun y hy => hx y (List.mem_of_mem_drop hy)
  omega
set_option maxHeartbeats 1000000 in
/-- TwinInts: a copy in memory of its own, the mark -8777 behind it. -/
theorem twin_c (xs : List Int) (A : Option Addr) (n c : Nat) (w : World) (G : Nat) (hG : w.heap.size = G) (h : Ints w .i64 A n xs) (hn : n ≤ 1048576) :
    Calls Tryz.prog 166 #[.slice A n c] w fun e w' => e = .returned (.slice (some ⟨G, 0, none⟩) n (n + 1)) ∧ Blk w' G 3 (nums .i64 xs ++ [.int .i64 (-8777)]) ∧ Below w.heap.size w w' ∧ w'.heap.size = G + 1 := by
  subst hG
  have H := Lib.hid h
  clear h
  have hmk := make_ints (n + 1) (by omega)
  rw [show ((n + 1 : Nat) : Int) = (n : Int) + 1 by omega] at hmk
  go_enter Tryz.func166, Tryz.ntmps166
  go_wp2_with (fail)
  rw [made_list]
  have HB0 := Lib.hid (Blk.new w 3 (List.replicate (n + 1) (Value.int .i64 0)))
  have HL0 := Lib.hid ((Below.refl w.heap.size w).alloc (Nat.le_refl _) (.cells (List.replicate (n + 1) (Value.int .i64 0)).toArray 3))
  have HZ0 : Hid ((w.alloc (.cells (List.replicate (n + 1) (Value.int .i64 0)).toArray 3)).heap.size = w.heap.size + 1) := by show _ = _; simp
  generalize w.alloc (.cells (List.replicate (n + 1) (Value.int .i64 0)).toArray 3) = w0 at *
  clear hmk
  go_loopw [4] (fun i wr => ∃ k : Nat, k ≤ n ∧ i = .int .i64 k ∧ Hid (Blk wr w.heap.size 3 (nums .i64 (xs.take k) ++ List.replicate (n + 1 - k) (Value.int .i64 0))) ∧ Hid (Below w.heap.size w wr) ∧ Hid (wr.heap.size = w.heap.size + 1)) (fun i _ => n - (intOf i).toNat)
  case atStart => exact ⟨0, Nat.zero_le _, rfl, by simpa [nums] using HB0, HL0, HZ0⟩
  case round =>
    obtain ⟨k, hk, rfl, HB, HL, HZ⟩ := hrel
    clear HB0 HL0 HZ0
    by_cases hlt : k < n
    · obtain ⟨ad, x, rfl, hx, hc0⟩ := H.out.at_ hlt
      have hc := (HL.out.cell (World.block_lt_of_cell? w _ hc0)).trans hc0
      have hlen : (nums .i64 (xs.take k)).length = k := by simp [nums]; have := H.out.1; omega
      obtain ⟨m, hm⟩ : ∃ m, n + 1 - k = m + 1 := ⟨n - k, by omega⟩
      have HB' := HB.out
      rw [hm, List.replicate_succ] at HB'
      have hz : _ = some (Value.int .i64 0) := HB'.cellv (i := k) (by rw [List.getElem?_append_right (by omega), hlen]; simp)
      have hfz := HB'.free k
      have HP := Lib.hid (HB'.put k (.int .i64 x))
      have HX := Lib.hid hx
      have HN := Lib.hid hlen
      have HM := Lib.hid hm
      clear hx hc0 HB' hlen hm
      go_wp2
      go_roundw
      case rel =>
        refine ⟨k + 1, by omega, by go_num, Lib.hid ?_, HL.out.setCell (Nat.le_refl _) _, by show _ = _; rw [← HZ.out]; simp [World.setCell]⟩
        have h := HP.out
        have e := set_mid (nums .i64 (xs.take k)) (List.replicate m (Value.int .i64 0)) (.int .i64 0) (.int .i64 x)
        rw [HN.out] at e
        rw [e] at h
        rw [take_snoc xs k x HX.out, show n + 1 - (k + 1) = m by have := HM.out; omega]
        simpa [nums] using h
      case measure => simp [intOf]; omega
    · obtain rfl : k = n := by omega
      have ht : xs.take k = xs := List.take_of_length_le (by have := H.out.1; omega)
      have HB' := HB.out
      rw [ht, show k + 1 - k = 1 by omega] at HB'
      have hlen : (nums .i64 xs).length = k := by simp [nums]; exact H.out.1
      have hz : _ = some (Value.int .i64 0) := HB'.cellv (i := k) (by rw [List.getElem?_append_right (by omega), hlen]; simp)
      have hfz := HB'.free k
      have HP := Lib.hid (HB'.put k (.int .i64 (-8777)))
      have HN := Lib.hid hlen
      clear HB' hlen ht
      go_wp2
      go_ret
      refine ⟨rfl, ?_, HL.out.setCell (Nat.le_refl _) _, by rw [← HZ.out]; simp [World.setCell]⟩
      have h := HP.out
      have e := set_mid (nums .i64 xs) [] (.int .i64 0) (.int .i64 (-8777))
      rw [HN.out] at e
      rw [show List.replicate 1 (Value.int .i64 0) = [Value.int .i64 0] from rfl, e] at h
      simpa using h
end Go.Proofs.YtbplgjocammnbaaGreat.Twin
