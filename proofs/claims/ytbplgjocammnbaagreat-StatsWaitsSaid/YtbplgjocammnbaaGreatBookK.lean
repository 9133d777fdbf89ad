/- The Book's function that keeps a list of ints. -/
import Derived.Test.YtbplgjocammnbaaGreatBookI
import Derived.RegionTactic
namespace Go.Proofs.YtbplgjocammnbaaGreat.BookI
open Go.RowKit Go.Proofs.YtbplgjocammnbaaGreat.Aid Go.Proofs.YtbplgjocammnbaaGreat.Mem Go.Proofs.YtbplgjocammnbaaGreat.Keep
set_option linter.unusedSimpArgs false
set_option linter.unusedVariables false
set_option maxRecDepth 100000
theorem infoH : (Tryz.prog.info? 105).map (fun i => (i.zero, i.size, i.bytes)) = some (some (.agg #[.slice none 0 0, .slice none 0 0, .int .i64 0]), 3, 56) := by kernel_rfl
theorem one_held (A : Option Addr) (n c : Nat) (x : Int) : ∀ u ∈ [Value.slice A n c, Value.slice none 0 0, Value.int .i64 x], u.oneCell' = true := by
  intro u hu
  simp only [List.mem_cons, List.not_mem_nil, or_false] at hu
  rcases hu with rfl | rfl | rfl <;> rfl
/-- append, as one step. -/
def AP (ts : Array TypeId) (ty : TypeId) (vs : Array Value) : Sem Value := Builtin.append_ ts ty vs
theorem ap_eq (ts : Array TypeId) (ty : TypeId) (vs : Array Value) : Builtin.append_ ts ty vs = AP ts ty vs := rfl
theorem app_held {W : World} {B G : Nat} {v : Value} {l : List Value} {k : Nat} (hG : W.heap.size = G) (hO : Own W B tH 3 v k l) (hB : B ≤ W.heap.size) (hn : k ≤ 1000) (A : Option Addr) (n c : Nat) (x : Int) :
    ∃ h9 c9 w9, (AP #[29, 29] 29 #[v, .slice (some ⟨G, 0, none⟩) 1 1]).run Tryz.prog (W.alloc (.cells #[.slice A n c, .slice none 0 0, .int .i64 x] 105)) = .ok (.slice (some ⟨h9, 0, none⟩) (k + 1) c9) w9 ∧
      Own w9 B tH 3 (.slice (some ⟨h9, 0, none⟩) (k + 1) c9) (k + 1) (l ++ [.slice A n c, .slice none 0 0, .int .i64 x]) ∧ ChgS (fun b => v.ownBlock = some b) W w9 ∧ (v.ownBlock = some h9 ∨ W.heap.size ≤ h9) := by
  subst hG
  obtain ⟨i0, hi, hzz⟩ := Option.map_eq_some_iff.1 infoH
  simp only [Prod.mk.injEq] at hzz
  obtain ⟨hz0, hz1, hz2⟩ := hzz
  have hnew := Blk.new W 105 [.slice A n c, .slice none 0 0, .int .i64 x]
  obtain ⟨v', w', hr, h2, h3, _, h5⟩ := run_append_own_at (P := Tryz.prog) (W.alloc (.cells #[.slice A n c, .slice none 0 0, .int .i64 x] 105)) B 29 29 105 i0 _ 3 56 Tryz.underlying29 hi hz0 hz1 hz2 rfl (by decide) v k l (World.ownsRow.alloc hO _) ⟨W.heap.size, 0, none⟩ 1 1 [.slice A n c, .slice none 0 0, .int .i64 x] rfl (fun j u hu => by rw [add_at]; exact hnew.cellv hu) (one_held _ _ _ _) (by unfold maxLen; omega) (by omega) (by rw [size_alloc]; omega)
  have h2' : Own w' B tH 3 v' (k + 1) (l ++ [.slice A n c, .slice none 0 0, .int .i64 x]) := h2
  obtain ⟨A7, c7, rfl, _, hA⟩ := h2'.form
  obtain ⟨h9, rfl, _, _, _⟩ := hA (by omega)
  rw [size_alloc] at h5
  refine ⟨h9, c7, w', hr, h2', ChgS.grown (World.grownBy.trans (World.grownBy_alloc W _ _) h3) fun b e => e, ?_⟩
  rcases h5 with h5 | h5
  · exact .inl h5.symm
  · right
    have : h9 = W.heap.size + 1 := by simpa [Value.ownBlock] using h5
    omega
/-- A book that holds no list. -/
def Bk0 (W : World) (g : Nat) : Prop := Blk W g tB ([.int .i64 0, .slice none 0 0] ++ zB)
attribute [local go_sem ↓] ap_eq
set_option maxHeartbeats 1000000 in
theorem keep_first (W : World) (g : Nat) (A : Option Addr) (n c : Nat) (hb : Bk0 W g) :
    Calls Tryz.prog 10 #[.pointer (some ⟨g, 0, none⟩), .slice A n c] W fun e w' => e = .returned (.tuple #[]) ∧ ∃ h0 cap, Bk w' g h0 cap 1 ⟨h0, 0, none⟩ (fun _ => .slice A n c) (fun _ => .slice none 0 0) ∧ ChgS (fun b => b = g) W w' ∧ W.heap.size ≤ h0 := by
  have q0 := hb.cellv (i := 0) rfl
  have q1 := hb.cellv (i := 1) rfl
  have f0 := hb.free 0
  have HS := Lib.hid ((ChgS.set (F := fun b => b = g) (W := W) (p := ⟨g, 0, none⟩) (.int .i64 1) rfl).drew)
  have hb1 := (hb.put 0 (.int .i64 1)).drew
  have r0 := hb1.cellv (i := 0) rfl
  have r1 := hb1.cellv (i := 1) rfl
  have HB := Lib.hid hb1
  clear hb hb1
  refine Exists.elim (app_held (W := (W.setCell ⟨g, 0, none⟩ (.int .i64 1)).drew) (G := W.heap.size) (by simp [World.setCell, World.drew]) (Own.nil _ 0 _ _) (Nat.zero_le _) (Nat.zero_le _) A n c 1) ?_
  rintro h9 ⟨c9, w9, hap, hO9, hC9, h5⟩
  have LE9 : W.heap.size ≤ h9 := by
    rcases h5 with h5 | h5
    · cases h5
    · simpa [World.setCell, World.drew] using h5
  replace hap : (AP _ _ _).run Tryz.prog ((W.setCell ⟨g, 0, none⟩ (.int .i64 1)).alloc (.cells #[.slice A n c, .slice none 0 0, .int .i64 1] 105)).drew = _ := hap
  have r2 : ((W.setCell ⟨g, 0, none⟩ (.int .i64 1)).alloc (.cells #[.slice A n c, .slice none 0 0, .int .i64 1] 105)).drew.cell? ⟨g, 1, none⟩ = _ := (HB.out.alloc (.cells #[.slice A n c, .slice none 0 0, .int .i64 1] 105)).cellv (i := 1) rfl
  have hb9 := hC9.blk HB.out (fun e => by cases e)
  have s0 := hb9.free 1
  have s1 := hb9.cellv (i := 1) rfl
  have HO9 := Lib.hid hO9
  have HC9 := Lib.hid hC9
  have HB9 := Lib.hid hb9
  clear hO9 hC9 hb9
  go_enter Tryz.func10, Tryz.ntmps10
  go_wp2
  go_region
  go_end0
  go_wp2
  go_end0
  have hne : g ≠ h9 := by
    rintro rfl
    exact absurd (HO9.out.kind rfl HB9.out) (by decide)
  refine ⟨rfl, h9, c9, ⟨rfl, by omega, HB9.out.put 1 _, 0, _, own_at HO9.out (fun b hb => Below.heap_setCell w9 _ _ b (fun e => hne (by cases hb; exact e.symm))), fun k hk => ?_⟩, ?_⟩
  · obtain rfl : k = 0 := by omega
    exact ⟨rfl, rfl, rfl⟩
  · exact ⟨(HS.out.then HC9.out (fun b hb => by cases hb)).trans (ChgS.set _ rfl), LE9⟩
set_option maxHeartbeats 1000000 in
theorem keep_next (W : World) (g hb cap m : Nat) (ad : Addr) (V : Nat → Value) (A : Option Addr) (n c : Nat) (h : Bk W g hb cap m ad V (fun _ => .slice none 0 0)) (hm : m < 1000) :
    Calls Tryz.prog 10 #[.pointer (some ⟨g, 0, none⟩), .slice A n c] W fun e w' => e = .returned (.tuple #[]) ∧ ∃ h0 cap, Bk w' g h0 cap (m + 1) ⟨h0, 0, none⟩ (fun j => if j = m then .slice A n c else V j) (fun _ => .slice none 0 0) ∧ ChgS (fun b => b = g ∨ b = hb) W w' ∧ (h0 = hb ∨ W.heap.size ≤ h0) := by
  obtain ⟨B, H, ho, hl⟩ := h.held
  have hB := Nat.le_of_lt (Nat.lt_of_le_of_lt (ho.base_le hb rfl) (ho.lt hb rfl))
  have e := h.eq
  subst e
  have hbk := h.book
  have hne0 : hb ≠ g := by
    rintro rfl
    exact absurd (ho.kind rfl hbk) (by decide)
  have q0 := hbk.cellv (i := 0) rfl
  have q1 := hbk.cellv (i := 1) rfl
  have f0 := hbk.free 0
  have HS := Lib.hid ((ChgS.set (F := fun b => b = g ∨ b = hb) (W := W) (p := ⟨g, 0, none⟩) (.int .i64 ((m : Int) + 1)) (.inl rfl)).drew)
  have hb1 := (hbk.put 0 (.int .i64 ((m : Int) + 1))).drew
  have ho1 : Own (W.setCell ⟨g, 0, none⟩ (.int .i64 ((m : Int) + 1))).drew B tH 3 (.slice (some ⟨hb, 0, none⟩) m cap) m H := own_at ho (fun b hb' => Below.heap_setCell W _ _ b (fun e => hne0 (by cases hb'; exact e)))
  have r0 := hb1.cellv (i := 0) rfl
  have r1 := hb1.cellv (i := 1) rfl
  have HB := Lib.hid hb1
  have HL := Lib.hid hl
  have HLen : Hid (H.length = m * 3) := Lib.hid ho.1
  have NE0 := Lib.hid hne0
  refine Exists.elim (app_held (W := (W.setCell ⟨g, 0, none⟩ (.int .i64 ((m : Int) + 1))).drew) (G := W.heap.size) (by simp [World.setCell, World.drew]) ho1 (by simpa [World.setCell, World.drew] using hB) (by omega) A n c ((m : Int) + 1)) ?_
  rintro h9 ⟨c9, w9, hap, hO9, hC9, h5⟩
  have LE9 : h9 = hb ∨ W.heap.size ≤ h9 := by
    rcases h5 with h5 | h5
    · cases h5; exact .inl rfl
    · exact .inr (by simpa [World.setCell, World.drew] using h5)
  replace hap : (AP _ _ _).run Tryz.prog ((W.setCell ⟨g, 0, none⟩ (.int .i64 ((m : Int) + 1))).alloc (.cells #[.slice A n c, .slice none 0 0, .int .i64 ((m : Int) + 1)] 105)).drew = _ := hap
  have r2 : ((W.setCell ⟨g, 0, none⟩ (.int .i64 ((m : Int) + 1))).alloc (.cells #[.slice A n c, .slice none 0 0, .int .i64 ((m : Int) + 1)] 105)).drew.cell? ⟨g, 1, none⟩ = _ := (HB.out.alloc (.cells #[.slice A n c, .slice none 0 0, .int .i64 ((m : Int) + 1)] 105)).cellv (i := 1) rfl
  have hb9 := hC9.blk HB.out (fun e => hne0 (by cases e; rfl))
  have s0 := hb9.free 1
  have s1 := hb9.cellv (i := 1) rfl
  have HO9 := Lib.hid hO9
  have HC9 := Lib.hid hC9
  have HB9 := Lib.hid hb9
  clear hO9 hC9 hb9 ho ho1 hl h hbk hb1 hne0
  go_enter Tryz.func10, Tryz.ntmps10
  go_wp2
  go_region
  go_end0
  go_wp2
  go_end0
  have hne : g ≠ h9 := by
    rintro rfl
    exact absurd (HO9.out.kind rfl HB9.out) (by decide)
  refine ⟨rfl, h9, c9, ⟨rfl, by omega, HB9.out.put 1 _, B, _, own_at HO9.out (fun b hb => Below.heap_setCell w9 _ _ b (fun e => hne (by cases hb; exact e.symm))), fun k hk => ?_⟩, ?_⟩
  · have hlen := HLen.out
    by_cases ek : k = m
    · subst ek
      rw [if_pos rfl, List.getElem?_append_right (by omega), List.getElem?_append_right (by omega), List.getElem?_append_right (by omega), show k * 3 - H.length = 0 by omega, show k * 3 + 1 - H.length = 1 by omega, show k * 3 + 2 - H.length = 2 by omega]
      exact ⟨rfl, rfl, rfl⟩
    · rw [if_neg ek, List.getElem?_append_left (by omega), List.getElem?_append_left (by omega), List.getElem?_append_left (by omega)]
      exact HL.out k (by omega)
  · exact ⟨(HS.out.then HC9.out (fun b hb => by cases hb; exact .inl (.inr rfl))).trans (ChgS.set _ (.inl rfl)), LE9⟩
end Go.Proofs.YtbplgjocammnbaaGreat.BookI
