/- The walk of growInt. -/
import Derived.Test.YtbplgjocammnbaaGreatBookG
namespace Go.Proofs.YtbplgjocammnbaaGreat.BookI
open Go.RowKit Go.Proofs.YtbplgjocammnbaaGreat.Aid Go.Proofs.YtbplgjocammnbaaGreat.Mem Go.Proofs.YtbplgjocammnbaaGreat.Keep
set_option linter.unusedSimpArgs false
set_option linter.unusedVariables false
set_option maxRecDepth 100000
theorem infoInt : (Tryz.prog.info? 3).map (fun i => (i.zero, i.size, i.bytes)) = some (some (.int .i64 0), 1, 8) := by kernel_rfl
theorem Gr.no {W : World} {B S0 m : Nat} {V X : Nat → Value} {N T : Nat → Nat} (h : Gr W B S0 m V N X T) {k : Nat} (hk : k < m) {b : Nat} {t : TypeId} {l : List Value} (hb : Blk W b t l) (ht : t ≠ 3) : (X k).ownBlock ≠ some b := fun e => ht ((h.own k hk).kind e hb)
theorem own_no {W : World} {B B' s n c n' b : Nat} {t : TypeId} {v : Value} {l l' : List Value} (h : Own W B' t s (.slice (some ⟨b, 0, none⟩) n c) n l) (h' : Own W B 3 1 v n' l') (ht : t ≠ 3) : v.ownBlock ≠ some b := by
  intro e
  rcases h.2 with ⟨h0, _⟩ | ⟨b', cap, cur, e1, _, hh, _⟩
  · cases h0
  · cases e1
    rcases h'.2 with ⟨h0, _⟩ | ⟨b', cap, cur, e1, _, hh2, _⟩
    · rw [h0] at e; cases e
    · rw [e1] at e
      cases e
      rw [hh] at hh2
      cases hh2
      exact ht rfl
/-- The blocks that may change: the lists', and the book's own row. -/
def GB (m hb : Nat) (V : Nat → Value) (b : Nat) : Prop := FB m V b ∨ b = hb
theorem Gr.same {W : World} {B S0 m : Nat} {V X L : Nat → Value} {N T : Nat → Nat} (h : Gr W B S0 m V N X T) (eT : ∀ i, i < m → T i = 70) (eL : ∀ i, i < m → L i = X i) : Gr W B S0 m V N L (fun _ => 70) where
  reads := h.reads
  own := fun i hi => by rw [eL i hi]; have := h.own i hi; rwa [eT i hi] at this
  small := fun i hi => ⟨(h.small i hi).1, Nat.le_refl _⟩
  dis := fun i j hi hj hij b hb hc => h.dis i j hi hj hij b (by rwa [eL i hi] at hb) (by rwa [eL j hj] at hc)
  lt := h.lt
  new := fun i hi b hb => h.new i hi b (by rwa [eL i hi] at hb)
  S0 := h.S0
attribute [local go_sem ↓] load_held
set_option maxHeartbeats 4000000 in
theorem grow_ints (W : World) (g hb cap m : Nat) (ad : Addr) (V : Nat → Value) (B : Nat) (N : Nat → Nat) (hB : B ≤ W.heap.size) (hk : Bk W g hb cap m ad V Z) (hr : Rows W B m V N (fun i l => l = List.replicate (N i) (mrk i))) (hd : Dis m V) :
    Calls Tryz.prog 44 #[.pointer (some ⟨g, 0, none⟩)] W fun e w' => e = .returned (.tuple #[]) ∧ (∃ L, Bk w' g hb cap m ad V L ∧ Gr w' B W.heap.size m V N L (fun _ => 70)) ∧ ChgS (GB m hb V) W w' := by
  have HG0 := Lib.hid (Gr.start hr hd)
  have HK := Lib.hid hk
  have NG : Hid (¬ FB m V g) := Lib.hid (hr.no hk.book (by decide))
  have NH : Hid (¬ FB m V hb) := Lib.hid (by obtain ⟨B', H, ho, _⟩ := hk.held; exact hr.no2 ho (by decide))
  have m2 := hk.m2
  have c1 := hk.c1
  have HZ : Hid (g ≠ hb) := Lib.hid (by
    rintro rfl
    obtain ⟨B', H, ho, _⟩ := hk.held
    exact absurd (ho.kind rfl hk.book) (by decide))
  have HBB := Lib.hid hB
  clear hk hr hd hB
  go_enter Tryz.func44, Tryz.ntmps44
  go_wp2
  go_loopw [2] (fun i wr => ∃ k : Nat, k ≤ m ∧ i = .int .i64 k ∧ ∃ X T L, Hid (Gr wr B W.heap.size m V N X T) ∧ Hid (Bk wr g hb cap m ad V L) ∧ Hid (∀ i, i < m → (i < k → T i = 70 ∧ L i = X i) ∧ (k ≤ i → T i = 0 ∧ X i = V i ∧ L i = .slice none 0 0)) ∧ Hid (ChgS (GB m hb V) W wr)) (fun i _ => m - (intOf i).toNat)
  case atStart => exact ⟨0, Nat.zero_le _, rfl, V, _, Z, HG0, HK, Lib.hid (fun i hi => ⟨fun h => absurd h (by omega), fun _ => ⟨rfl, rfl, rfl⟩⟩), Lib.hid (ChgS.refl _ _)⟩
  case round =>
    obtain ⟨k, hk, rfl, X, T, L, HG, HK, HX, HC⟩ := hrel
    have c1 := HK.out.c1
    by_cases hlt : k < m
    · obtain ⟨eT, eX, eL⟩ := (HX.out k hlt).2 (Nat.le_refl _)
      have la := HK.out.la hlt
      rw [eL] at la
      obtain ⟨A, c, eV, _⟩ := HG.out.reads k hlt
      rw [eV] at la
      have HV := Lib.hid eV
      have EX := Lib.hid eX
      have ET := Lib.hid eT
      clear eV eX eT eL
      go_wp2
      have HB0 := Lib.hid (Blk.new wr tH [.slice A (N k) c, .slice none 0 0, .int .i64 ((k : Int) + 1)])
      have CA : ChgS (fun _ => False) wr (wr.alloc (.cells #[.slice A (N k) c, .slice none 0 0, .int .i64 ((k : Int) + 1)] tH)) := ChgS.of_below (alloc_below _ _)
      have HK1 := Lib.hid (HK.out.chg CA (fun h => h) (fun h => h))
      have HG1 := Lib.hid (HG.out.chg CA (fun _ _ _ _ h => h))
      have HC1 := Lib.hid (HC.out.then CA (fun _ h => h.elim))
      generalize wr.alloc _ = w0 at *
      generalize wr.heap.size = p at *
      clear CA la HK HG HC c1
      go_loopw [4, 5] (fun long i wi => ∃ t : Nat, t ≤ 70 ∧ i = .int .i64 t ∧ ∃ X T, long = X k ∧ T k = t ∧ Hid (Gr wi B W.heap.size m V N X T) ∧ Hid (Bk wi g hb cap m ad V L) ∧ Hid (∀ i, i < m → (i < k → T i = 70 ∧ L i = X i) ∧ (k < i → T i = 0 ∧ X i = V i ∧ L i = .slice none 0 0)) ∧ Hid (ChgS (GB m hb V) W wi) ∧ Hid (Blk wi p tH [.slice A (N k) c, .slice none 0 0, .int .i64 ((k : Int) + 1)])) (fun _ i _ => 70 - (intOf i).toNat)
      case atStart => exact ⟨0, Nat.zero_le _, rfl, X, T, by rw [EX.out, HV.out], ET.out, HG1, HK1, Lib.hid (fun i hi => ⟨(HX.out i hi).1, fun h => (HX.out i hi).2 (Nat.le_of_lt h)⟩), HC1, HB0⟩
      case round =>
        clear HK1 HG1 HC1 HB0 HX EX ET
        obtain ⟨t, ht, rfl, X, T, rfl, eT, HG, HK, HX, HC, HB⟩ := hrel
        have ET := Lib.hid eT
        clear eT
        by_cases hl2 : t < 70
        · have q1 := HB.out.cellv (i := 2) rfl
          have HO : Hid (Own wr B 3 1 (X k) (N k + t) (reps (N k + t) (mrk k))) := Lib.hid (by rw [← ET.out]; exact HG.out.own k hlt)
          have sm := HG.out.small k hlt
          have HBW : Hid (B ≤ wr.heap.size) := Lib.hid (Nat.le_trans HBB.out HG.out.S0)
          have HMX : Hid (N k + t + 1 ≤ maxLen) := Lib.hid (by unfold maxLen; omega)
          have HBY : Hid ((N k + t + 1) * 8 ≤ 140737488355328) := Lib.hid (by omega)
          go_wp2_with (first | (go_at_call 105; (with_reducible refine (mark_c _ _ (by omega) (by omega)).mono ?_); rintro e w' ⟨rfl, rfl⟩) | (at_builtin; (refine app_keep (W := wr) B rfl _ _ 25 3 (.int .i64 0) 1 8 rfl Tryz.underlying25 infoInt rfl (by decide) (X k) _ _ [.int .i64 (mrk k)] rfl rfl rfl (one_int _ _) HO.out HBW.out HMX.out HBY.out ?_); intro v1 w9 hO hs hat; have HO9 := Lib.hid hO; have HS9 := Lib.hid hs; have HA9 := Lib.hid hat; clear hO hs hat))
          go_roundw
          case rel =>
            have hg := HG.out
            obtain ⟨hG9, hC9⟩ := hg.app hlt (by rw [ET.out]; omega) (by rw [ET.out]; exact HO9.out) HS9.out HA9.out
            have hk2 : Bk w9 g hb cap m ad V L := HK.out.chg hC9 (by obtain ⟨B', H, ho, _⟩ := HK.out.held; exact hg.no hlt HK.out.book (by decide)) (by obtain ⟨B', H, ho, _⟩ := HK.out.held; exact own_no ho (hg.own k hlt) (by decide))
            refine ⟨t + 1, by omega, by go_num, upd X k v1, upd T k (T k + 1), (upd_self X k v1).symm, by rw [upd_self, ET.out], hG9, hk2, fun i hi => ⟨fun h => ?_, fun h => ?_⟩, HC.out.then hC9 (fun b hb => ?_), hC9.blk HB.out (hg.no hlt HB.out (by decide))⟩
            · rw [upd_ne _ _ (by omega), upd_ne _ _ (by omega)]; exact (HX.out i hi).1 h
            · rw [upd_ne _ _ (by omega), upd_ne _ _ (by omega)]; exact (HX.out i hi).2 h
            · rcases hg.new k hlt b hb with h | h
              · exact .inl (.inl ⟨k, hlt, h⟩)
              · exact .inr h
          case measure => simp [intOf]; omega
        · obtain rfl : t = 70 := by omega
          have c1 := HK.out.c1
          have f1 := HK.out.free k
          have f2 := HK.out.cell1 hlt
          obtain ⟨A9, c9, e9, _⟩ := (HG.out.own k hlt).form
          have E9 := Lib.hid e9
          rw [e9]
          clear e9
          go_wp2
          go_roundw
          case rel =>
            have hg := HG.out
            have hS : ChgS (fun b => b = hb) wr (wr.setCell ⟨(ad.add (k * 3)).block, (ad.add (k * 3)).off + 1, none⟩ (X k)) := ChgS.set (p := ⟨(ad.add (k * 3)).block, (ad.add (k * 3)).off + 1, none⟩) (X k) (by rw [HK.out.eq, add_at])
            have hk2 := HK.out.put hlt (X k)
            rw [← E9.out]
            refine ⟨k + 1, by omega, by go_num, X, T, _, hg.chg hS (fun i hi b hb h => ?_), hk2, fun i hi => ⟨fun h => ?_, fun h => ?_⟩, (HC.out.trans (hS.more fun b h => .inr h))⟩
            · subst h
              obtain ⟨B', H, ho, _⟩ := HK.out.held
              rcases hb with hb | hb
              · exact NH.out ⟨i, hi, hb⟩
              · exact own_no ho (hg.own i hi) (by decide) hb
            · by_cases e : i = k
              · subst e; rw [if_pos rfl]; exact ⟨ET.out, rfl⟩
              · rw [if_neg e]; exact (HX.out i hi).1 (by omega)
            · rw [if_neg (by omega)]; exact (HX.out i hi).2 (by omega)
          case measure => simp [intOf]; omega
    · obtain rfl : k = m := by omega
      have c1 := HK.out.c1
      go_wp2
      go_end0
      have hX := HX.out
      have eT : ∀ i, i < k → T i = 70 := fun i hi => ((hX i hi).1 hi).1
      have eL : ∀ i, i < k → L i = X i := fun i hi => ((hX i hi).1 hi).2
      refine ⟨rfl, ⟨L, HK.out, HG.out.same eT eL⟩, HC.out⟩
end Go.Proofs.YtbplgjocammnbaaGreat.BookI
