/- Contract of Share. -/
import Derived.Test.YtfehdajjnbehdaaGreatShareP
import Derived.Test.YtfehdajjnbehdaaGreatIs
import Derived.Test.YtfehdajjnbehdaaGreatKeep
import Derived.Test.YtfehdajjnbehdaaGreatRows
import Derived.WalkKit
import Derived.WalkSpells
import Derived.Lib.Hide
import Derived.LoopTactic
import Derived.Laws.MakeOwn
import Derived.OwnWalk
import Derived.Deep.OwnRows
import Derived.Deep.QuietTactic
import Derived.BigQuiet
import Derived.Deep.RegionHeld3
namespace Go.Proofs.YtfehdajjnbehdaaGreat.Share
open Go.RowKit Go.Proofs.YtfehdajjnbehdaaGreat.Aid Go.Proofs.YtfehdajjnbehdaaGreat.Mem Go.Proofs.YtfehdajjnbehdaaGreat.Keep Go.Proofs.YtfehdajjnbehdaaGreat.ShareP Go.Proofs.YtfehdajjnbehdaaGreat.Nums
set_option linter.unusedSimpArgs false
set_option linter.unusedVariables false
set_option maxRecDepth 100000
theorem ret_iiB {a a' b b' : Int} {c : Bool} (h : a = a') (h' : b = b') : Ending.returned (.tuple #[.int .i64 a, .int .i64 b, .bool c]) = Ending.returned (.tuple #[.int .i64 a', .int .i64 b', .bool c]) := by rw [h, h']
theorem wrap_in {n : Int} (h : -9223372036854775808 ≤ n) (h' : n ≤ 9223372036854775807) : IntKind.i64.wrap n = n := (IntKind.wrap_i64 _).trans (by omega)
/-- Floor of a number from 0 on by one from 1 on. -/
theorem floor_c (a b : Int) (w : World) (ha : 0 ≤ a ∧ a ≤ 4611686018427387903) (hb : 0 < b ∧ b ≤ 4611686018427387903) :
    Calls Tryz.prog 13 #[.int .i64 a, .int .i64 b] w fun e w' => e = .returned (.tuple #[.int .i64 (a / b), .int .i64 (a % b), .bool true]) ∧ Dr w w' := by
  have hz : (b == 0) = false := by simp; omega
  have e1 : Int.tdiv a b = a / b := Int.tdiv_eq_ediv_of_nonneg ha.1
  have e2 : Int.tmod a b = a % b := Int.tmod_eq_emod_of_nonneg ha.1
  have h1 : 0 ≤ a / b := Int.ediv_nonneg ha.1 (by omega)
  have h2 : a / b ≤ a := Int.ediv_le_self _ ha.1
  have h3 : 0 ≤ a % b := Int.emod_nonneg _ (by omega)
  obtain ⟨T, et⟩ : ∃ T, a / b = T := ⟨_, rfl⟩
  obtain ⟨R, er⟩ : ∃ R, a % b = R := ⟨_, rfl⟩
  rw [et] at e1 h1 h2 ⊢
  rw [er] at e2 h3 ⊢
  have hw : IntKind.i64.wrap T = T := wrap_in (by omega) (by omega)
  have ia : isN a = true := isN_t (by omega)
  have ib : isN b = true := isN_t (by omega)
  obtain ⟨a1, a2⟩ := ha
  obtain ⟨b1, b2⟩ := hb
  clear et er
  by_cases hr : R = 0
  · subst hr
    go_enter Tryz.func13, Tryz.ntmps13
    go_wp2_with (first | (go_at_call 91; (with_reducible refine (is_c a _).mono ?_); rintro e w' ⟨rfl, rfl⟩) | (go_at_call 91; (with_reducible refine (is_c b _).mono ?_); rintro e w' ⟨rfl, rfl⟩))
    go_quiet (fail)
    go_wp2
    go_ret3
    exact ⟨rfl, _, rfl⟩
  · have hr0 : (R != 0) = true := by simpa using hr
    have d1 : decide (R < 0) = false := decide_eq_false (by omega)
    have d2 : decide (b < 0) = false := decide_eq_false (by omega)
    clear hr
    go_enter Tryz.func13, Tryz.ntmps13
    go_wp2_with (first | (go_at_call 91; (with_reducible refine (is_c a _).mono ?_); rintro e w' ⟨rfl, rfl⟩) | (go_at_call 91; (with_reducible refine (is_c b _).mono ?_); rintro e w' ⟨rfl, rfl⟩))
    go_quiet (fail)
    go_wp2
    go_ret3
    exact ⟨rfl, _, rfl⟩
theorem tot_take_le {ws : List Int} (h : ∀ w ∈ ws, 0 ≤ w) (k : Nat) : 0 ≤ tot (ws.take k) ∧ tot (ws.take k) ≤ tot ws := by
  have h1 := tot_nonneg (ws.take k) fun w hw => h w (List.mem_of_mem_take hw)
  have h2 := tot_nonneg (ws.drop k) fun w hw => h w (List.mem_of_mem_drop hw)
  have h3 : tot (ws.take k ++ ws.drop k) = tot ws := by rw [List.take_append_drop]
  rw [tot_append] at h3
  omega
theorem all_take {ws : List Int} {k : Nat} {x : Int} (h : ws[k]? = some x) (hk : ∀ w ∈ ws.take k, 0 ≤ w ∧ w ≤ 1048576) (hx : 0 ≤ x ∧ x ≤ 1048576) : ∀ w ∈ ws.take (k + 1), 0 ≤ w ∧ w ≤ 1048576 := by
  rw [take_snoc ws k x h]
  intro w hw
  rcases List.mem_append.1 hw with h1 | h1
  · exact hk w h1
  · simp at h1; subst h1; exact hx
/-- Where an error is told. -/
theorem share_no (a : Int) (ws : List Int) (A : Option Addr) (n c : Nat) (w : World) (h : Ints w .i64 A n ws) (hn : n ≤ 1048576) (hg : good a ws = false) :
    Calls Tryz.prog 7 #[.int .i64 a, .slice A n c] w fun e w' => e = .returned (.tuple #[.slice none 0 0, .int .i64 1]) ∧ w = w' := by
  have H := Lib.hid h
  have HG := Lib.hid hg
  clear h hg
  go_enter Tryz.func7, Tryz.ntmps7
  go_wp2_with (fail)
  go_loop [6, 19] (fun t i => ∃ k : Nat, k ≤ n ∧ i = .int .i64 k ∧ t = .int .i64 (tot (ws.take k)) ∧ 0 ≤ tot (ws.take k) ∧ tot (ws.take k) ≤ 1048576 * k ∧ Hid (∀ x ∈ ws.take k, 0 ≤ x ∧ x ≤ 1048576)) (fun _ i => n - (intOf i).toNat)
  case atStart => exact ⟨0, Nat.zero_le _, rfl, by simp [tot], by simp [tot], by simp [tot], Lib.hid (by simp)⟩
  case round =>
    obtain ⟨k, hk, rfl, rfl, s0, s1, HA⟩ := hrel
    by_cases hlt : k < n
    · obtain ⟨ad, x, rfl, hx, hc⟩ := H.out.at_ hlt
      have hs := tot_snoc ws k x hx
      have HX := Lib.hid hx
      clear hx
      by_cases x0 : x < 0
      · go_wp2
        go_ret2
        exact ⟨rfl, rfl⟩
      · by_cases x1 : 1048576 < x
        · go_wp2
          go_ret2
          exact ⟨rfl, rfl⟩
        · have HA2 := Lib.hid (all_take HX.out HA.out (by omega))
          go_wp2
          go_round
          case rel => exact ⟨k + 1, by omega, by go_num, by go_num, by omega, by push_cast; omega, HA2⟩
          case measure => simp [intOf]; omega
    · obtain rfl : k = n := by omega
      have ht : ws.take k = ws := List.take_of_length_le (by have := H.out.1; omega)
      rw [ht] at s0 s1 HA ⊢
      by_cases a0 : a < 0
      · go_wp2
        go_ret2
        exact ⟨rfl, rfl⟩
      · by_cases a1 : 1099511627776 < a
        · go_wp2
          go_ret2
          exact ⟨rfl, rfl⟩
        · have hz : tot ws = 0 := by
            have hg := HG.out
            by_cases e : tot ws = 0
            · exact e
            · exact absurd ((good_iff (a := a) (ws := ws)).2 ⟨by omega, HA.out, e⟩) (by rw [hg]; decide)
          rw [hz]
          clear hz s0 s1
          go_wp2
          go_ret2
          exact ⟨rfl, rfl⟩
/-- A list that is filled from its head. -/
def fill (l : List Int) (n k : Nat) : List Value := nums .i64 (l.take k) ++ List.replicate (n - k) (.int .i64 0)
theorem fill_set {l : List Int} {n k : Nat} {x : Int} (hx : l[k]? = some x) (hk : k < n) (hl : l.length = n) : (fill l n k).set k (.int .i64 x) = fill l n (k + 1) := by
  unfold fill
  have hlen : (nums .i64 (l.take k)).length = k := by simp [nums]; omega
  obtain ⟨d, hd⟩ : ∃ d, n - k = d + 1 := ⟨n - k - 1, by omega⟩
  have e := set_mid (nums .i64 (l.take k)) (List.replicate d (Value.int .i64 0)) (.int .i64 0) (.int .i64 x)
  rw [hlen] at e
  rw [hd, List.replicate_succ, e, take_snoc _ k _ hx, show n - (k + 1) = d by omega]
  simp [nums]
theorem fill_cell {l : List Int} {n k : Nat} (hk : k < n) (hl : l.length = n) : (fill l n k)[k]? = some (.int .i64 0) := by
  unfold fill
  have hlen : (nums .i64 (l.take k)).length = k := by simp [nums]; omega
  rw [List.getElem?_append_right (by omega), hlen, Nat.sub_self]
  obtain ⟨d, hd⟩ : ∃ d, n - k = d + 1 := ⟨n - k - 1, by omega⟩
  rw [hd]; rfl
theorem fill_done {l : List Int} {n : Nat} (hl : l.length = n) : fill l n n = nums .i64 l := by
  unfold fill
  rw [Nat.sub_self, List.take_of_length_le (by omega)]
  simp
theorem nums_set (l : List Int) (b : Nat) (v : Int) : (nums .i64 l).set b (.int .i64 v) = nums .i64 (l.set b v) := by unfold nums; rw [List.map_set]
theorem nums_nth {l : List Int} {i : Nat} (h : i < l.length) : (nums .i64 l)[i]? = some (.int .i64 (nth l i)) := by unfold nums; rw [List.getElem?_map, at_nth h]; rfl
theorem infoInt : (Tryz.prog.info? 3).map (fun i => (i.zero, i.size, i.bytes)) = some (some (.int .i64 0), 1, 8) := by kernel_rfl
theorem make_ints (m : Nat) (hm : m ≤ 2097152) (W : World) : (Instr.makeSlice 22 (.int .i64 (m : Int)) (.int .i64 (m : Int))).run Tryz.prog W = .ok (.slice (some ⟨W.heap.size, 0, none⟩) m m) (W.alloc (.cells (madeCells #[.int .i64 0] m) 3)) := by
  obtain ⟨i, hi, hz⟩ := Option.map_eq_some_iff.1 infoInt
  simp only [Prod.mk.injEq] at hz
  obtain ⟨h1, h2, h3⟩ := hz
  have := run_make (P := Tryz.prog) W 22 3 i _ Tryz.underlying22 hi h1 .i64 .i64 (m : Int) (m : Int) (by omega) (by omega) (by rw [h3]; omega) (by omega)
  rw [h2] at this
  simpa [Value.cells] using this
theorem made_list (m : Nat) : madeCells #[Value.int .i64 0] m = (List.replicate m (Value.int .i64 0)).toArray := by
  apply Array.ext
  · simp [madeCells]
  · intro i h1 h2
    simp [madeCells, Nat.mod_one]
end Go.Proofs.YtfehdajjnbehdaaGreat.Share
