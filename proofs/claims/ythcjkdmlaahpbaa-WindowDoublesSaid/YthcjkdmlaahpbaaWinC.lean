/- Contract of the window's turn. -/
import Derived.Test.YthcjkdmlaahpbaaWinB
namespace Go.Proofs.Ythcjkdmlaahpbaa.Win
open Go.RowKit Go.Proofs.Ythcjkdmlaahpbaa.Aid Go.Proofs.Ythcjkdmlaahpbaa.Mem Go.Proofs.Ythcjkdmlaahpbaa.Keep Go.Proofs.Ythcjkdmlaahpbaa.Nums
set_option linter.unusedSimpArgs false
set_option linter.unusedVariables false
set_option maxRecDepth 100000
def AP (ts : Array TypeId) (ty : TypeId) (vs : Array Value) : Sem Value := Builtin.append_ ts ty vs
theorem ap_eq (ts : Array TypeId) (ty : TypeId) (vs : Array Value) : Builtin.append_ ts ty vs = AP ts ty vs := rfl
theorem infoA : (Try.prog.info? 83).map (fun i => (i.zero, i.size, i.bytes)) = some (some (.agg #[.int .i64 0, .int .i64 0]), 2, 16) := by kernel_rfl
/-- 's[m:]' of pairs, without a case on the capacity: the address under one name. -/
theorem cut2 (A : Option Addr) (n c m : Nat) (hm : m ≤ n) :
    ∃ A' : Option Addr, A' = (if c = m then A else A.map (·.add (m * 2))) ∧ ∀ W : World, (Instr.slice 69 (.slice A n c) (some (.int .i64 (m : Int))) none none).run Try.prog W = .ok (.slice A' (n - m) (c - m)) W := by
  refine ⟨_, rfl, fun W => ?_⟩
  obtain ⟨i, hi, hz⟩ := Option.map_eq_some_iff.1 infoA
  simp only [Prod.mk.injEq] at hz
  obtain ⟨_, hsz, _⟩ := hz
  have ht := Try.underlying69
  have hel : Try.prog.elem 69 = 83 := by simp [Program.elem, ht]
  have hu : Try.prog.underlying 69 = some (.slice (Try.prog.elem 69)) := by rw [hel]; exact ht
  rw [run_slice_l W 69 A n c hu .i64 (m : Int) (Int.natCast_nonneg _) (by omega), hel]
  simp [sizeOf, typeInfo, hi, hsz, sliced, Result.andThen]
theorem one_a (l : List (Int × Int)) : ∀ u ∈ cellsA l, u.oneCell' = true := by
  intro u hu
  unfold cellsA at hu
  obtain ⟨p, _, h⟩ := List.mem_flatMap.1 hu
  simp only [List.mem_cons, List.not_mem_nil, or_false] at h
  rcases h with rfl | rfl <;> rfl
/-- append([]added{}, list[k:]...), run. -/
theorem app_cut {W : World} {B : Nat} {v : Value} {l : List (Int × Int)} {A A' : Option Addr} {c K : Nat} (hv : v = .slice A l.length c) (hO : Own W B 83 2 v l.length (cellsA l)) (hK : K ≤ l.length) (hcap : l.length ≤ c) (hA : A' = (if c = K then A else A.map (·.add (K * 2)))) (hn : l.length ≤ 4294967296) (nd : Nat) :
    ∃ v1 w1, (AP #[69, 69] 69 #[.slice (some ⟨W.heap.size, 0, none⟩) 0 0, .slice A' (l.length - K) (c - K)]).run Try.prog ((W.drewN nd).alloc (.cells #[] 83)) = .ok v1 w1 ∧
      Own w1 W.heap.size 83 2 v1 (l.length - K) (cellsA (l.drop K)) ∧ Below W.heap.size W w1 := by
  obtain ⟨i0, hi, hzz⟩ := Option.map_eq_some_iff.1 infoA
  simp only [Prod.mk.injEq] at hzz
  obtain ⟨hz0, hz1, hz2⟩ := hzz
  have hlen : (l.drop K).length = l.length - K := by simp
  have hown : Own ((W.drewN nd).alloc (.cells #[] 83)) W.heap.size 83 2 (.slice (some ⟨W.heap.size, 0, none⟩) 0 0) 0 [] :=
    ⟨rfl, .inr ⟨W.heap.size, 0, #[], rfl, Nat.le_refl _, heap_alloc_new (W.drewN nd) _, Nat.le_refl _, Nat.zero_le _, rfl, rfl⟩⟩
  have hbelow : Below W.heap.size W ((W.drewN nd).alloc (.cells #[] 83)) := (below_drewN (Below.refl _ _) nd).alloc (Nat.le_refl _) _
  rcases Nat.lt_or_ge K l.length with hlt | hge
  · obtain ⟨A2, c2, e2, _, hf⟩ := hO.form
    rw [hv] at e2
    injection e2 with e2 e3 e4
    obtain ⟨b, eb, _, hb, hc⟩ := hf (by omega)
    have eA : A' = some ⟨b, K * 2, none⟩ := by
      rw [hA, if_neg (by omega), e2, eb, Option.map_some, add_at]
    subst eA
    obtain ⟨v', w', hr, h2, h3, _, _⟩ := run_append_own_at (P := Try.prog) ((W.drewN nd).alloc (.cells #[] 83)) W.heap.size 69 69 83 i0 _ 2 16 Try.underlying69 hi hz0 hz1 hz2 rfl (by decide) _ 0 [] hown ⟨b, K * 2, none⟩ (l.length - K) (c - K) (cellsA (l.drop K)) (by rw [cells_len, hlen]) (fun j u hu => by
        rw [cells_drop, List.getElem?_drop] at hu
        rw [Addr.add_mid]
        exact (hbelow.cell hb).trans (hc _ u hu)) (one_a _) (by unfold maxLen; omega) (by omega) (by simp)
    refine ⟨v', w', hr, ?_, hbelow.grown h3 (by simp) (fun k hk => hown.base_le k hk)⟩
    rw [Nat.zero_add, List.nil_append] at h2
    exact h2
  · obtain rfl : K = l.length := by omega
    have hdrop : l.drop l.length = [] := List.drop_length
    cases A with
    | none =>
      have hc0 : l.length = 0 ∧ c = 0 := by
        rcases hO.2 with ⟨h0, h1⟩ | ⟨b, cap, cur, h0, _⟩
        · rw [hv] at h0
          injection h0 with _ _ h2
          exact ⟨h1, h2⟩
        · rw [hv] at h0
          injection h0 with h2 _ _
          cases h2
      obtain ⟨e1, e2⟩ := hc0
      have eA : A' = none := by rw [hA]; split <;> rfl
      refine ⟨.slice (some ⟨W.heap.size, 0, none⟩) 0 0, (W.drewN nd).alloc (.cells #[] 83), ?_, ?_, hbelow⟩
      · rw [eA, e1, e2]
        exact run_append_owned_none ((W.drewN nd).alloc (.cells #[] 83)) W.heap.size 69 69 83 i0 2 Try.underlying69 hi _ 0 [] hown
      · rw [hdrop, Nat.sub_self]; exact hown
    | some ad =>
      obtain ⟨a', eA⟩ : ∃ a', A' = some a' := by rw [hA]; split <;> exact ⟨_, rfl⟩
      subst eA
      obtain ⟨v', w', hr, h2, h3, _, _⟩ := run_append_own_at (P := Try.prog) ((W.drewN nd).alloc (.cells #[] 83)) W.heap.size 69 69 83 i0 _ 2 16 Try.underlying69 hi hz0 hz1 hz2 rfl (by decide) _ 0 [] hown a' 0 (c - l.length) [] rfl (fun j u hu => by simp at hu) (by simp) (by unfold maxLen; omega) (by omega) (by simp)
      refine ⟨v', w', by rw [Nat.sub_self]; exact hr, ?_, hbelow.grown h3 (by simp) (fun k hk => hown.base_le k hk)⟩
      rw [hdrop, Nat.sub_self]
      exact h2
theorem chg_sets {g : Nat} {W W' : World} (h : Below W.heap.size W W') (x y z : Value) (hg : g < W.heap.size) : Chg g W (((W'.setCell ⟨g, 3, none⟩ x).setCell ⟨g, 2, none⟩ y).setCell ⟨g, 1, none⟩ z) := by
  have hs : ∀ (w : World) (p : Addr) (u : Value), (w.setCell p u).heap.size = w.heap.size := fun w p u => by simp [World.setCell]
  refine ⟨by rw [hs, hs, hs]; exact h.size, fun b hb hne => ?_, h.os, h.tape, h.output⟩
  exact ((Below.heap_setCell _ ⟨g, 1, none⟩ z b hne).trans ((Below.heap_setCell _ ⟨g, 2, none⟩ y b hne).trans (Below.heap_setCell _ ⟨g, 3, none⟩ x b hne))).trans (h.block b hb)
theorem own_set {W : World} {B g : Nat} {e : TypeId} {s n : Nat} {v : Value} {l : List Value} (h : Own W B e s v n l) (hg : g < B) (i : Nat) (u : Value) : Own (W.setCell ⟨g, i, none⟩ u) B e s v n l := by
  refine ⟨h.1, ?_⟩
  rcases h.2 with h0 | ⟨b, cap, cur, rfl, hb, hh, h1, h2, h3, h4⟩
  · exact .inl h0
  · exact .inr ⟨b, cap, cur, rfl, hb, (Below.heap_setCell W ⟨g, i, none⟩ u b (by show b ≠ g; omega)).trans hh, h1, h2, h3, h4⟩
theorem own_mono {W : World} {base b' : Nat} {e : TypeId} {size n : Nat} {v : Value} {l : List Value} (h : Own W base e size v n l) (hb : b' ≤ base) : Own W b' e size v n l := by
  refine ⟨h.1, ?_⟩
  rcases h.2 with h0 | ⟨g, cap, cur, rfl, hg, hh, h1, h2, h3, h4⟩
  · exact .inl h0
  · exact .inr ⟨g, cap, cur, rfl, Nat.le_trans hb hg, hh, h1, h2, h3, h4⟩
def SL (t : TypeId) (v : Value) (a b c : Option Value) : Sem Value := Instr.slice t v a b c
theorem sl_eq (v : Value) (a b c : Option Value) : Instr.slice 69 v a b c = SL 69 v a b c := rfl
attribute [local go_sem ↓] ap_eq sl_eq
set_option maxHeartbeats 1000000 in
theorem turn_c (W : World) (g B : Nat) (wd ck sm : Int) (l : List (Int × Int)) (tick : Int) (hw : Win W g B wd ck sm l) (hgB : g < B) (hBW : B ≤ W.heap.size)
    (hl : Lok l) (hn : l.length ≤ 4294967296) (hs : sm = sumA l) (t0 : 0 ≤ tick) (t1 : tick ≤ 1099511627776) (w0 : 0 ≤ wd) (w1 : wd ≤ 1048576) :
    Calls Try.prog 34 #[.pointer (some ⟨g, 0, none⟩), .int .i64 tick] W fun e w' => e = .returned (.tuple #[]) ∧ Win w' g W.heap.size wd tick (sumA (l.drop (lead (tick - wd) l))) (l.drop (lead (tick - wd) l)) ∧ Chg g W w' := by
  obtain ⟨v, hB, hO⟩ := hw
  obtain ⟨A, cp, rfl, hcp, _⟩ := hO.form
  have HO := Lib.hid hO
  have HB := Lib.hid hB
  have HL := Lib.hid hl
  have hle := lead_le (tick - wd) l
  obtain ⟨z0, z1⟩ := sum_take hl (lead (tick - wd) l)
  have z2 := hl.sum
  have hsd := sum_drop (l := l) (lead (tick - wd) l)
  obtain ⟨A', eA', hcut⟩ := cut2 A l.length cp (lead (tick - wd) l) hle
  have hcut' : ∀ W : World, (SL 69 (.slice A l.length cp) (some (.int .i64 ((lead (tick - wd) l : Nat) : Int))) none none).run Try.prog W = .ok (.slice A' (l.length - lead (tick - wd) l) (cp - lead (tick - wd) l)) W := hcut
  clear hcut
  have happ := fun nd => app_cut rfl hO hle hcp eA' hn nd
  have HA := Lib.hid happ
  have hout := out_c W g B wd ck sm _ l tick hB hO hl (by omega) t0 t1 w0 w1
  have HOUT := Lib.hid hout
  have c2 := hB.cellv (i := 2) rfl
  have c3 := hB.cellv (i := 3) rfl
  have gW : g < W.heap.size := hB.lt
  clear hB hO hl happ hout eA'
  generalize lead (tick - wd) l = K at *
  obtain ⟨S, eS⟩ : ∃ S, sumA (l.take K) = S := ⟨_, rfl⟩
  rw [eS] at z0 z1 hsd HOUT
  clear eS
  subst hs
  obtain ⟨T, eT⟩ : ∃ T, sumA l = T := ⟨_, rfl⟩
  rw [eT] at z1 z2 hsd c2 HB
  clear eT
  have HSD := Lib.hid hsd
  rw [HSD.out]
  clear hsd
  go_enter Try.func34, Try.ntmps34
  go_wp2_with (first | (go_at_call 32; (refine (HOUT.out).mono ?_); rintro e w' ⟨rfl, nd, rfl⟩; have c3a := ((HB.out.drewN nd).alloc (.cells #[] 83)).cellv (i := 3) rfl; (refine Exists.elim (HA.out nd) ?_); rintro v1 ⟨w9, hap, hO9, hb9⟩; (refine Exists.elim hO9.form ?_); rintro A1 ⟨cp1, rfl, hcp1, hF1⟩; clear hcp1 hF1; have b9 := HB.out.keep hb9; have f1 := b9.cellv (i := 3) rfl; have f2 := b9.free 3; have b10 := b9.put 3 (.slice A1 (l.length - K) cp1); have f3 := b10.cellv (i := 2) rfl; have f4 := b10.free 2; have b11 := b10.put 2 (.int .i64 (T - S)); have f5 := b11.cellv (i := 1) rfl; have f6 := b11.free 1; have b12 := b11.put 1 (.int .i64 tick); have HB12 := Lib.hid b12; have HO9 := Lib.hid hO9; have HC := Lib.hid (chg_sets hb9 (.slice A1 (l.length - K) cp1) (.int .i64 (T - S)) (.int .i64 tick) gW); clear b9 b10 b11 b12 hO9 hb9))
  go_end0
  refine ⟨rfl, ⟨_, HB12.out, ?_⟩, HC.out⟩
  rw [List.length_drop]
  exact own_set (own_set (own_set HO9.out gW 3 _) gW 2 _) gW 1 _
end Go.Proofs.Ythcjkdmlaahpbaa.Win
