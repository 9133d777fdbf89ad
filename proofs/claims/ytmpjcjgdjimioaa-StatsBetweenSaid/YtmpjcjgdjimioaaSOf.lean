/- The law StatsOf: the summary of any ints, as the document has it, bit for bit; they stay; asked again when they were written over. -/
import Derived.Test.YtmpjcjgdjimioaaAlike
import Derived.Test.YtmpjcjgdjimioaaLives
namespace Go.Proofs.Ytmpjcjgdjimioaa.SOf
open Ieee Go.RowKit Go.Proofs.Ytmpjcjgdjimioaa.Aid Go.Proofs.Ytmpjcjgdjimioaa.Mem Go.Proofs.Ytmpjcjgdjimioaa.Nums Go.Proofs.Ytmpjcjgdjimioaa.Keep Go.Proofs.Ytmpjcjgdjimioaa.Has Go.Proofs.Ytmpjcjgdjimioaa.Recs Go.Proofs.Ytmpjcjgdjimioaa.Of Go.Proofs.Ytmpjcjgdjimioaa.Fin Go.Proofs.Ytmpjcjgdjimioaa.RefOf Go.Proofs.Ytmpjcjgdjimioaa.Twin Go.Proofs.Ytmpjcjgdjimioaa.Alike Go.Proofs.Ytmpjcjgdjimioaa.Lives
set_option linter.unusedSimpArgs false
set_option linter.unusedVariables false
set_option maxRecDepth 100000
/-- A third, as Go reckons it. -/
def d3 (x : Int) : Int := wrap64 (Int.tdiv x 3)
def mixed (xs : List Int) (k : Nat) : List Int := (xs.take k).map d3 ++ xs.drop k
theorem mixed_len (xs : List Int) (k : Nat) : (mixed xs k).length = xs.length := by simp [mixed]; omega
theorem mixed_at {xs : List Int} {k : Nat} {x : Int} (h : xs[k]? = some x) : (mixed xs k)[k]? = some x := by
  have hk := (List.getElem?_eq_some_iff.1 h).1
  unfold mixed
  rw [List.getElem?_append_right (by simp; omega)]
  simp only [List.length_map, List.length_take, List.getElem?_drop]
  rw [show k + (k - min k xs.length) = k by omega, h]
theorem mixed_put {xs : List Int} {k : Nat} {x : Int} (h : xs[k]? = some x) (r : List Value) : (nums .i64 (mixed xs k) ++ r).set k (.int .i64 (d3 x)) = nums .i64 (mixed xs (k + 1)) ++ r := by
  have hk := (List.getElem?_eq_some_iff.1 h).1
  have e0 : xs.drop k = x :: xs.drop (k + 1) := by
    rw [List.drop_eq_getElem_cons hk]; congr 1; rw [List.getElem?_eq_getElem hk] at h; injection h
  have hl : (nums .i64 ((xs.take k).map d3)).length = k := by simp [nums]; omega
  have e := set_mid (nums .i64 ((xs.take k).map d3)) (nums .i64 (xs.drop (k + 1)) ++ r) (.int .i64 x) (.int .i64 (d3 x))
  rw [hl] at e
  unfold mixed
  rw [e0, take_snoc xs k x h]
  simpa [nums] using e
/-- A summary's five cells. -/
structure Su where
  c : Int
  m : Nat
  v : Nat
  l : Int
  o : Int
abbrev Su.arr (s : Su) : Array Value := #[.int .i64 s.c, .float .f64 s.m, .float .f64 s.v, .int .i64 s.l, .int .i64 s.o]
abbrev Su.list (s : Su) : List Value := [.int .i64 s.c, .float .f64 s.m, .float .f64 s.v, .int .i64 s.l, .int .i64 s.o]
theorem ofA_su (xs : List Int) (n : Nat) : ∃ s : Su, ofA xs n = #[.int .i64 s.c, .float .f64 s.m, .float .f64 s.v, .int .i64 s.l, .int .i64 s.o] := by
  unfold ofA
  split
  · exact ⟨⟨_, _, _, _, _⟩, rfl⟩
  · exact ⟨⟨0, 0, 0, 0, 0⟩, rfl⟩
theorem of_s (xs : List Int) (A : Option Addr) (n c : Nat) (w : World) (h : Ints w .i64 A n xs) (hn : n ≤ 17592186044416) (s : Su) (hs : ofA xs n = s.arr) :
    Calls Try.prog 11 #[.slice A n c] w fun e w' => e = .returned (.tuple #[.agg #[.int .i64 s.c, .float .f64 s.m, .float .f64 s.v, .int .i64 s.l, .int .i64 s.o], .int .i64 (ofE xs)]) ∧ Below w.heap.size w w' := by
  have := of_any xs A n c w h hn
  rwa [hs] at this
theorem ref_s (xs : List Int) (A : Option Addr) (n c : Nat) (w : World) (h : Ints w .i64 A n xs) (hn : n ≤ 1048576) (s : Su) (hs : ofA xs n = s.arr) :
    Calls Try.prog 15 #[.slice A n c] w fun e w' => e = .returned (.tuple #[.agg #[.int .i64 s.c, .float .f64 s.m, .float .f64 s.v, .int .i64 s.l, .int .i64 s.o], .int .i64 (ofE xs)]) ∧ Below w.heap.size w w' := by
  have := refOf_c xs A n c w h hn
  rwa [hs] at this
theorem alike_s (s : Su) (w : World) : Calls Try.prog 16 #[.agg #[.int .i64 s.c, .float .f64 s.m, .float .f64 s.v, .int .i64 s.l, .int .i64 s.o], .agg #[.int .i64 s.c, .float .f64 s.m, .float .f64 s.v, .int .i64 s.l, .int .i64 s.o]] w fun e w' => e = .returned (.bool true) ∧ Below w.heap.size w w' := alike_v _ _ _ _ _ w
theorem one_val (w : World) (x : Int) (g : Nat) (hg : w.heap.size = g) (t : TypeId) : Ints (w.alloc (.cells #[.int .i64 x] t)) .i64 (some ⟨g, 0, none⟩) 1 [x] := by
  subst hg; exact box_reads w .i64 x t
/-- The twin, and the boxes of the two summaries. -/
structure KS (w : World) (G a b : Nat) (T : List Value) (s t : Su) (W : World) : Prop where
  has : Has w [(b, 25, t.list), (a, 25, s.list), (G, 3, T)] W
  g0 : w.heap.size ≤ G
  g1 : G < a
  g2 : a < b
section
variable {w W W' : World} {G a b : Nat} {T : List Value} {s t : Su}
theorem KS.keep (h : KS w G a b T s t W) (hb : Below W.heap.size W W') : KS w G a b T s t W' := ⟨h.has.keep hb, h.g0, h.g1, h.g2⟩
theorem KS.twin (h : KS w G a b T s t W) : Blk W G 3 T := h.has.1 (G, 3, T) (by simp)
theorem KS.boxa (h : KS w G a b T s t W) : Blk W a 25 s.list := h.has.1 (a, 25, s.list) (by simp)
theorem KS.boxb (h : KS w G a b T s t W) : Blk W b 25 t.list := h.has.1 (b, 25, t.list) (by simp)
theorem KS.bel (h : KS w G a b T s t W) : Below w.heap.size w W := h.has.2
theorem KS.la (h : KS w G a b T s t W) : (LA 25 (.pointer (some ⟨a, 0, none⟩))).run Try.prog W = .ok (.agg #[.int .i64 s.c, .float .f64 s.m, .float .f64 s.v, .int .i64 s.l, .int .i64 s.o]) W :=
  Has.load (t' := 25) (l := s.list) (s := []) h.has Try.underlying25 rfl (by show _ = some 5; kernel_rfl) (by simp)
theorem KS.lb (h : KS w G a b T s t W) : (LA 25 (.pointer (some ⟨b, 0, none⟩))).run Try.prog W = .ok (.agg #[.int .i64 t.c, .float .f64 t.m, .float .f64 t.v, .int .i64 t.l, .int .i64 t.o]) W :=
  Has.load (t' := 25) (l := t.list) (s := []) h.has Try.underlying25 rfl (by show _ = some 5; kernel_rfl) (by simp)
theorem su_one (u : Su) : ∀ v ∈ u.list, v.oneCell' = true := by
  intro v hv
  simp only [Su.list, List.mem_cons, List.not_mem_nil, or_false] at hv
  rcases hv with rfl | rfl | rfl | rfl | rfl <;> rfl
theorem KS.seta (h : KS w G a b T s t W) (u : Su) : ∃ W', (SA 25 (.pointer (some ⟨a, 0, none⟩)) (.agg #[.int .i64 u.c, .float .f64 u.m, .float .f64 u.v, .int .i64 u.l, .int .i64 u.o])).run Try.prog W = .ok () W' ∧ KS w G a b T u t W' := by
  refine ⟨_, stores_mid (cs := u.list) h.boxa (by simp) (by show _ = some 5; kernel_rfl) (su_one u), ⟨fun x hx => ?_, below_sets (by have := h.g0; have := h.g1; omega) _ _ _ h.has.2⟩, h.g0, h.g1, h.g2⟩
  have := h.g1; have := h.g2
  simp only [List.mem_cons, List.not_mem_nil, or_false] at hx
  rcases hx with rfl | rfl | rfl
  · exact Blk.fars (by show b ≠ a; omega) _ _ _ h.boxb
  · have := Blk.puts u.list 0 _ _ h.boxa (by simp)
    simpa using this
  · exact Blk.fars (by show G ≠ a; omega) _ _ _ h.twin
theorem KS.setb (h : KS w G a b T s t W) (u : Su) : ∃ W', (SA 25 (.pointer (some ⟨b, 0, none⟩)) (.agg #[.int .i64 u.c, .float .f64 u.m, .float .f64 u.v, .int .i64 u.l, .int .i64 u.o])).run Try.prog W = .ok () W' ∧ KS w G a b T s u W' := by
  refine ⟨_, stores_mid (cs := u.list) h.boxb (by simp) (by show _ = some 5; kernel_rfl) (su_one u), ⟨fun x hx => ?_, below_sets (by have := h.g0; have := h.g1; have := h.g2; omega) _ _ _ h.has.2⟩, h.g0, h.g1, h.g2⟩
  have := h.g1; have := h.g2
  simp only [List.mem_cons, List.not_mem_nil, or_false] at hx
  rcases hx with rfl | rfl | rfl
  · have := Blk.puts u.list 0 _ _ h.boxb (by simp)
    simpa using this
  · exact Blk.fars (by show a ≠ b; omega) _ _ _ h.boxa
  · exact Blk.fars (by show G ≠ b; omega) _ _ _ h.twin
theorem KS.put (h : KS w G a b T s t W) (i : Nat) (v : Value) : KS w G a b (T.set i v) s t (W.setCell ⟨G, i, none⟩ v) := by
  have := h.g1; have := h.g2
  refine ⟨⟨fun x hx => ?_, h.has.2.setCell h.g0 _⟩, h.g0, h.g1, h.g2⟩
  simp only [List.mem_cons, List.not_mem_nil, or_false] at hx
  rcases hx with rfl | rfl | rfl
  · exact h.boxb.far (p := ⟨G, i, none⟩) (by show b ≠ G; omega) _
  · exact h.boxa.far (p := ⟨G, i, none⟩) (by show a ≠ G; omega) _
  · exact h.twin.put i v
end
theorem sa_new (W : World) (u : Su) : ∃ W', (SA 25 (.pointer (some ⟨W.heap.size, 0, none⟩)) (.agg #[.int .i64 u.c, .float .f64 u.m, .float .f64 u.v, .int .i64 u.l, .int .i64 u.o])).run Try.prog (W.alloc (.cells #[.int .i64 0, .float .f64 0, .float .f64 0, .int .i64 0, .int .i64 0] 25)) = .ok () W' ∧ Blk W' W.heap.size 25 u.list ∧ Below W.heap.size W W' := by
  have h0 := Blk.new W 25 [.int .i64 0, .float .f64 0, .float .f64 0, .int .i64 0, .int .i64 0]
  refine ⟨_, stores_mid (cs := u.list) h0 (by simp) (by show _ = some 5; kernel_rfl) (su_one u), ?_, below_sets (Nat.le_refl _) _ _ _ (alloc_below _ _)⟩
  have := Blk.puts u.list 0 _ _ h0 (by simp)
  simpa using this
theorem KS.start {w wa wb : World} {G a b : Nat} {T : List Value} {s t : Su} (hT : Blk wa G 3 T) (ha : Blk wa a 25 s.list) (g0 : w.heap.size ≤ G) (g1 : G < a) (hb : Below w.heap.size w wa) (h1 : Below wa.heap.size wa wb) (g2 : wa.heap.size ≤ b) (hbb : Blk wb b 25 t.list) : KS w G a b T s t wb := by
  refine ⟨⟨fun x hx => ?_, kbt hb h1⟩, g0, g1, by have := ha.lt; omega⟩
  simp only [List.mem_cons, List.not_mem_nil, or_false] at hx
  rcases hx with rfl | rfl | rfl
  · exact hbb
  · exact ha.keep h1
  · exact hT.keep h1
attribute [local go_sem ↓] store_sum load_sum
set_option maxHeartbeats 8000000 in
theorem walk (xs : List Int) (A : Option Addr) (n c : Nat) (w : World) (h : Ints w .i64 A n xs) (hcap : n ≤ c) (hb : n ≤ 17592186044416) :
    Calls Try.prog 4 #[.slice A n c] w fun e w' => e = .returned (.bool true) ∧ Below w.heap.size w w' := by
  have H := Lib.hid h
  clear h
  have HI := Lib.hid (one_val w (n : Int) w.heap.size rfl 3)
  have HP : Hid (∀ x ∈ [(n : Int)], 0 ≤ x ∧ x ≤ 140737488355328) := by intro x hx; simp at hx; omega
  have e1 : tot [(n : Int)] = n := by simp [tot]
  by_cases hn : n ≤ 1048576
  · have hd : decide (1048576 < tot [(n : Int)]) = false := decide_eq_false (by omega)
    have HL1 := Lib.hid ((Below.refl w.heap.size w).alloc (Nat.le_refl _) (.cells #[.int .i64 n] 3))
    have H1 := Lib.hid (H.out.keep HL1.out)
    have HLen := Lib.hid H.out.1
    have v1 : (ofE xs != ofE xs) = false := by simp
    obtain ⟨s, hs⟩ := ofA_su xs n
    have HS : Hid (ofA xs n = s.arr) := Lib.hid hs
    obtain ⟨G, hG⟩ : ∃ G, (w.alloc (.cells #[.int .i64 n] 3)).heap.size = G := ⟨_, rfl⟩
    have HG := Lib.hid hG
    have HGE := Lib.hid (show w.heap.size ≤ G by rw [← hG]; simp)
    clear e1 hG hs
    go_enter Try.func4, Try.ntmps4
    go_wp2_with (first | (go_at_call 13; (with_reducible refine (beyond_c [(n : Int)] _ 1 1 _ HI.out HP.out (by decide)).mono ?_); rintro e w' ⟨rfl, rfl⟩) | (go_at_call 14; (with_reducible refine (twin_c xs A n c _ G HG.out H1.out hn).mono ?_); (rintro e w2 ⟨rfl, hB, hL, hZ⟩; have HB2 := Lib.hid hB; have HL2 := Lib.hid hL; clear hB hL hZ)) | (go_at_call 11; (with_reducible refine (of_s xs _ n _ _ (twin_reads HB2.out HLen.out) (by omega) s HS.out).mono ?_); (rintro e w3 ⟨rfl, hL⟩; obtain ⟨wa, fa, ba, la⟩ := sa_new w3 s; have HB3 := Lib.hid hL; have BA := Lib.hid ba; have LA3 := Lib.hid la; clear hL ba la)) | (go_at_call 15; (with_reducible refine (ref_s xs _ n _ _ (((H1.out.keep HL2.out).keep HB3.out).keep LA3.out) hn s HS.out).mono ?_); (rintro e w4 ⟨rfl, hL⟩; obtain ⟨wb, fb, bb, lb⟩ := sa_new w4 s; have HB4 := Lib.hid hL; have BB := Lib.hid bb; have LB4 := Lib.hid lb; clear hL bb lb; have K := Lib.hid (KS.start (w := w) ((HB2.out.keep HB3.out).keep LA3.out) BA.out HGE.out (by have := HB2.out.lt; have := HB3.out.size; omega) (kbt (kbt (kbt HL1.out HL2.out) HB3.out) LA3.out) (kbt HB4.out LB4.out) HB4.out.size BB.out); have ka := K.out.la; have kb := K.out.lb)) | (go_at_call 16; (with_reducible refine (alike_s s _).mono ?_); (rintro e w5 ⟨rfl, hL⟩; have K5 := Lib.hid (K.out.keep hL); clear hL)) | (go_at_call 17; (with_reducible refine (left_c xs _ A n c _ K5.out.twin (H.out.keep K5.out.bel) hn).mono ?_); (rintro e w' ⟨rfl, nd, rfl⟩)))
    clear ka kb fa fb
    go_loopw [8] (fun i wr => ∃ k : Nat, k ≤ n ∧ i = .int .i64 k ∧ Hid (KS w G w3.heap.size w4.heap.size (nums .i64 (mixed xs k) ++ [.int .i64 (-8777)]) s s wr)) (fun i _ => n - (intOf i).toNat)
    case atStart => exact ⟨0, Nat.zero_le _, rfl, Lib.hid (by have h := K5.out.keep (Dr.below ⟨nd, rfl⟩); simpa [mixed] using h)⟩
    case round =>
      obtain ⟨k, hk, rfl, K6⟩ := hrel
      clear HB2 HL2 HB3 HB4 BA BB LA3 LB4 K K5
      by_cases hlt : k < n
      · obtain ⟨x, hx⟩ : ∃ x, xs[k]? = some x := ⟨_, List.getElem?_eq_getElem (by have := HLen.out; omega)⟩
        have hc := K6.out.twin.cellv (nums_at (mixed_at hx) [.int .i64 (-8777)])
        have hf := K6.out.twin.free k
        have HPx := Lib.hid (K6.out.put k (.int .i64 (d3 x)))
        have HX := Lib.hid hx
        clear hx
        go_wp2
        go_roundw
        case rel =>
          refine ⟨k + 1, by omega, by go_num, Lib.hid ?_⟩
          have h := HPx.out
          rw [mixed_put HX.out] at h
          exact h
        case measure => simp [intOf]; omega
      · obtain rfl : k = n := by omega
        have hm : mixed xs k = xs.map d3 := by
          unfold mixed
          rw [List.take_of_length_le (by have := HLen.out; omega), List.drop_of_length_le (by have := HLen.out; omega)]; simp
        rw [hm] at K6
        have HLz := Lib.hid (show (xs.map d3).length = k by simp; exact HLen.out)
        have HR := Lib.hid (twin_reads K6.out.twin HLz.out)
        obtain ⟨G2, hG2⟩ : ∃ G2, wr.heap.size = G2 := ⟨_, rfl⟩
        have HG2 := Lib.hid hG2
        clear hm hG2
        generalize xs.map d3 = zs at *
        obtain ⟨u, hu⟩ := ofA_su zs k
        have HU : Hid (ofA zs k = u.arr) := Lib.hid hu
        have v2 : (ofE zs == ofE zs) = true := by simp
        clear hu
        go_wp2_with (first | (go_at_call 14; (with_reducible refine (twin_c zs _ k _ _ G2 HG2.out HR.out hn).mono ?_); (rintro e w5 ⟨rfl, hB, hL, hZ⟩; have HB5 := Lib.hid hB; have K7 := Lib.hid (K6.out.keep hL); clear hB hL hZ)) | (go_at_call 15; (with_reducible refine (ref_s zs _ k _ _ (twin_reads HB5.out HLz.out) hn u HU.out).mono ?_); (rintro e w6 ⟨rfl, hL⟩; obtain ⟨wb2, fb, kb2⟩ := KS.setb (K7.out.keep hL) u; have K8 := Lib.hid kb2; clear hL kb2)) | (go_at_call 11; (with_reducible refine (of_s zs _ k _ _ (twin_reads K8.out.twin HLz.out) (by omega) u HU.out).mono ?_); (rintro e w7 ⟨rfl, hL⟩; obtain ⟨wa2, fa, ka2⟩ := KS.seta (K8.out.keep hL) u; have K9 := Lib.hid ka2; clear hL ka2; have ka := K9.out.la; have kb := K9.out.lb)) | (go_at_call 16; (with_reducible refine (alike_s u _).mono ?_); (rintro e w8 ⟨rfl, hL⟩; have K10 := Lib.hid (K9.out.keep hL); clear hL)) | (go_at_call 12; (with_reducible refine (lives_c _).mono ?_); (rintro e w9 ⟨rfl, hL⟩; have K11 := Lib.hid (K10.out.keep hL); clear hL)))
        go_ret
        exact ⟨rfl, K11.out.bel⟩
  · have hd : decide (1048576 < tot [(n : Int)]) = true := decide_eq_true (by omega)
    clear e1
    go_enter Try.func4, Try.ntmps4
    go_wp2_with (first | (go_at_call 13; (with_reducible refine (beyond_c [(n : Int)] _ 1 1 _ HI.out HP.out (by decide)).mono ?_); rintro e w' ⟨rfl, rfl⟩))
    go_ret
    exact ⟨rfl, (Below.refl _ _).alloc (Nat.le_refl _) _⟩
end Go.Proofs.Ytmpjcjgdjimioaa.SOf
