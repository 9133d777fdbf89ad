/- The walk of WindowCounts, and the law. -/
import Derived.Test.YthcjkdmlaahpbaaTri
import Derived.Test.YthcjkdmlaahpbaaFull
import Derived.Deep.RegionHeld3
namespace Go.Proofs.Ythcjkdmlaahpbaa.Counts
open Go.RowKit Go.Proofs.Ythcjkdmlaahpbaa.Aid Go.Proofs.Ythcjkdmlaahpbaa.Fl Go.Proofs.Ythcjkdmlaahpbaa.Mem Go.Proofs.Ythcjkdmlaahpbaa.Keep Go.Proofs.Ythcjkdmlaahpbaa.Win Go.Proofs.Ythcjkdmlaahpbaa.Types Go.Proofs.Ythcjkdmlaahpbaa.Recs Go.Proofs.Ythcjkdmlaahpbaa.AliveN Go.Proofs.Ythcjkdmlaahpbaa.Full
set_option linter.unusedSimpArgs false
set_option linter.unusedVariables false
set_option maxRecDepth 100000
theorem row_at {W : World} {b n cp : Nat} {L : List (Int × Int)} {j : Nat} {t N : Int} (h : Own W 0 66 2 (.slice (some ⟨b, 0, none⟩) n cp) n (cellsA L)) (hp : L[j]? = some (t, N)) (hn : L.length = n) :
    W.cell? ⟨b, j * 2, none⟩ = some (.int .i64 t) ∧ W.cell? ⟨b, j * 2 + 1, none⟩ = some (.int .i64 N) := by
  subst hn
  obtain ⟨b', c', t', N', ev, hp', e0, e1⟩ := own_el h (List.getElem?_eq_some_iff.1 hp).1
  rw [hp] at hp'
  injection hp' with hp'
  injection hp' with h1 h2
  injection ev with ev1 _ _
  have : b = b' := by simpa using ev1
  subst h1 h2 this
  exact ⟨e0, e1⟩
theorem tri_drew {w0 W : World} {g1 g2 g3 B : Nat} {n : Int} {v : Value} {L : List (Int × Int)} {c1 s1 c2 s2 c3 s3 : Int} {A1 A2 A3 : List (Int × Int)} (h : Tri w0 W g1 g2 g3 B n v L c1 s1 c2 s2 c3 s3 A1 A2 A3) : Tri w0 W.drew g1 g2 g3 B n v L c1 s1 c2 s2 c3 s3 A1 A2 A3 := h.dr 1
theorem piece {N : Int} (h0 : 0 ≤ N) : 0 ≤ N.tdiv 3 ∧ N.tdiv 3 ≤ N := by
  rw [Int.tdiv_eq_ediv_of_nonneg h0]
  omega
set_option maxHeartbeats 16000000 in
theorem counts_k (wide ask k : Int) (xs : List Stp) (A : Option Addr) (m c : Nat) (w : World) (hwide : -9223372036854775808 ≤ wide ∧ wide ≤ 9223372036854775807) (HK : Hid (widthV wide = k)) (k1 : 1 ≤ k) (k2 : k ≤ 1048576) (h : Recs w 2 A m (xs.map Stp.list)) (hm : m ≤ 140737488351232) :
    Calls Try.prog 8 #[.int .i64 wide, .slice A m c, .int .i64 ask] w fun e w' => e = .returned (.bool true) ∧ Below w.heap.size w w' := by
  have H := Lib.hid h
  clear h
  go_enter Try.func8, Try.ntmps8
  go_wp2_with (first | (go_at_call 10; (with_reducible refine (width_v wide k _ hwide HK).mono ?_); rintro e w' ⟨rfl, rfl⟩) | (go_at_call 28; (with_reducible refine (brought_c xs A m c _ H.out hm).mono ?_); rintro e w1 ⟨v, L, T, rfl, hO, hB, hb⟩; (refine Exists.elim hO.form ?_); rintro A1 ⟨cp1, rfl, hcp1, hF1⟩; have HO1 := Lib.hid hO; have HL := Lib.hid hB; have HB1 := Lib.hid hb; have hlen := hB.k2; clear hO hB hb hF1) | (go_at_call 11; (with_reducible refine (Win.new_ok k w1 k1 k2).mono ?_); rintro e w2 ⟨rfl, hw, hz, hb⟩; have X2 := Lib.hid hw; have Z2 := Lib.hid hz; have HB2 := Lib.hid hb; clear hw hz hb) | (go_at_call 11; (with_reducible refine (Win.new_ok k w2 k1 k2).mono ?_); rintro e w3 ⟨rfl, hw, hz, hb⟩; have X3 := Lib.hid hw; have Z3 := Lib.hid hz; have HB3 := Lib.hid hb; clear hw hz hb) | (go_at_call 11; (with_reducible refine (Win.new_ok 1048576 w3 (by decide) (by decide)).mono ?_); rintro e w4 ⟨rfl, hw, hz, hb⟩; have X4 := Lib.hid hw; have Z4 := Lib.hid hz; have HB4 := Lib.hid hb; clear hw hz hb))
  have HT0 := Lib.hid (show Tri w w4 w1.heap.size w2.heap.size w3.heap.size w4.heap.size k (.slice A1 L.length cp1) L 0 0 0 0 0 0 [] [] [] from by
    have z2 := Z2.out
    have z3 := Z3.out
    have z4 := Z4.out
    have s1 := HB1.out.size
    exact ⟨LP.new (win_below (win_below (X2.out w4.heap.size) HB3.out) HB4.out), LP.new (win_below (X3.out w4.heap.size) HB4.out), LP.new (X4.out w4.heap.size), own_mono (((HO1.out.keep HB2.out).keep HB3.out).keep HB4.out) (Nat.zero_le _), fun b e => by have := HO1.out.lt b e; omega, kbt (kbt (kbt HB1.out HB2.out) HB3.out) HB4.out, s1, by omega, by omega, by omega, Nat.le_refl _, k1, k2⟩)
  clear HO1 X2 X3 X4 Z2 Z3 Z4 HB1 HB2 HB3 HB4
  go_loopw [15, 16] (fun a i wr => ∃ (j : Nat) (x1 x2 x3 : Int), j ≤ L.length ∧ i = .int .i64 j ∧ a = .int .i64 (sumA (L.take j)) ∧ Hid (Tri w wr w1.heap.size w2.heap.size w3.heap.size w4.heap.size k (.slice A1 L.length cp1) L (lastT (L.take j)) x1 (lastT (L.take j)) x2 (lastT (L.take j)) x3 (L.take j) (hv (L.take j)) (L.take j))) (fun _ i _ => L.length - (intOf i).toNat)
  case atStart => exact ⟨0, 0, 0, 0, Nat.zero_le _, rfl, rfl, HT0⟩
  case round =>
    obtain ⟨j, x1, x2, x3, hj, rfl, rfl, HT⟩ := hrel
    by_cases hlt : j < L.length
    · obtain ⟨b, cc, t, N, ev, hp, e0, e1⟩ := own_el HT.out.row hlt
      injection ev with ev1 ev2 ev3
      subst ev1 ev3
      clear ev2
      have RC := Lib.hid (fun (W : World) (h : Own W 0 66 2 (.slice (some ⟨b, 0, none⟩) L.length cp1) L.length (cellsA L)) => row_at h hp rfl)
      have HP := Lib.hid hp
      obtain ⟨p0, p1, p2, p3⟩ := HL.out.el _ (List.mem_of_getElem? hp)
      dsimp only at p0 p1 p2 p3
      have tT := HL.out.t1
      have hck := lastT_take HL.out hp
      dsimp only at hck
      have hs := sum_snoc hp
      dsimp only at hs
      have HSN := Lib.hid hs
      have hsm := sum_le_of (L.take j) (fun p hp => ⟨(HL.out.el p (List.mem_of_mem_take hp)).2.2.1, (HL.out.el p (List.mem_of_mem_take hp)).2.2.2⟩)
      have hjl : (L.take j).length ≤ 200 := by rw [List.length_take]; omega
      obtain ⟨hf0, hf1⟩ := piece p2
      have etk := take_snoc hp
      have ehv : hv (L.take (j + 1)) = hv (L.take j) ++ [(t, N.tdiv 3)] ++ [(t, N - N.tdiv 3)] := by rw [etk, hv_app, List.append_assoc]; rfl
      have elt : lastT (L.take (j + 1)) = t := by rw [etk, lastT_snoc]
      have gA := gt_small (t - k) HL.out j
      have gD := gt_small (t - 1048576) HL.out j
      have gW : gt (t - 1048576) (L.take (j + 1)) = sumA (L.take j) + N := by
        rw [gt_all _ _ (fun q hq => by have := (HL.out.el q (List.mem_of_mem_take hq)).1; omega), hs]
      obtain ⟨hf, eH⟩ : ∃ hf, N.tdiv 3 = hf := ⟨_, rfl⟩
      rw [eH] at hf0 hf1 ehv
      have hg0 : 0 ≤ N - hf := by omega
      have pN2 : N ≤ 4611686018427387903 := by omega
      have pH2 : hf ≤ 4611686018427387903 := by omega
      have pG2 : N - hf ≤ 4611686018427387903 := by omega
      have wH : IntKind.i64.wrap hf = hf := (IntKind.wrap_i64 _).trans (by omega)
      have wS : IntKind.i64.wrap (N - hf) = N - hf := (IntKind.wrap_i64 _).trans (by omega)
      have wW : IntKind.i64.wrap (sumA (L.take j) + N) = sumA (L.take j) + N := (IntKind.wrap_i64 _).trans (by omega)
      have wX : IntKind.i64.wrap (t - k) = t - k := (IntKind.wrap_i64 _).trans (by omega)
      have t9 : t ≤ 1099511627776 := by omega
      have CA := Lib.hid (show Win.Can k (lastT (L.take j)) t (L.take j) from ⟨hck, p0, t9, by omega⟩)
      have CB := Lib.hid (show Win.Can k (lastT (L.take j)) t (hv (L.take j)) from ⟨hck, p0, t9, by rw [hv_len]; omega⟩)
      have CC := Lib.hid (show Win.Can k t t (hv (L.take j) ++ [(t, hf)]) from ⟨Int.le_refl _, p0, t9, by rw [List.length_append, hv_len, List.length_singleton]; omega⟩)
      have CD := Lib.hid (show Win.Can 1048576 (lastT (L.take j)) t (L.take j) from ⟨hck, p0, t9, by omega⟩)
      have fA : gt (t - k) (L.take j) + N ≤ 4611686018427387903 := by omega
      have fB : gt (t - k) (hv (L.take j)) + hf ≤ 4611686018427387903 := by rw [hv_gt]; omega
      have fC : gt (t - k) (hv (L.take j) ++ [(t, hf)]) + (N - hf) ≤ 4611686018427387903 := by rw [gt_app, hv_gt, gt_one]; split <;> omega
      have fD : gt (t - 1048576) (L.take j) + N ≤ 4611686018427387903 := by omega
      obtain ⟨S, eS⟩ : ∃ S, gt (t - k) (L.take (j + 1)) = S := ⟨_, rfl⟩
      have HS := Lib.hid eS
      have HSB := Lib.hid (show gt (t - k) (hv (L.take (j + 1))) = S from (hv_gt _ _).trans eS)
      have HSD := Lib.hid gW
      have E1 := Lib.hid etk
      have E2 := Lib.hid ehv
      have E3 := Lib.hid elt
      have hl2 : (L.take (j + 1)).length ≤ 200 := by rw [List.length_take]; omega
      have DA := Lib.hid (show Win.Can k t t (L.take (j + 1)) from ⟨Int.le_refl _, p0, t9, by omega⟩)
      have DB := Lib.hid (show Win.Can k t t (hv (L.take (j + 1))) from ⟨Int.le_refl _, p0, t9, by rw [hv_len]; omega⟩)
      have DD := Lib.hid (show Win.Can 1048576 t t (L.take (j + 1)) from ⟨Int.le_refl _, p0, t9, by omega⟩)
      have hlt' : (j : Int) < (L.length : Int) := by omega
      have HTD := Lib.hid (tri_drew HT.out)
      clear hp hs hsm etk ehv elt gA gD gW eS hck
      go_wp2
      go_region_held3 (fun WW => WW.cell? ⟨b, j * 2, none⟩ = some (.int .i64 t) ∧ WW.cell? ⟨b, j * 2 + 1, none⟩ = some (.int .i64 N)) (first | exact ⟨e0, e1⟩ | exact ⟨q5, r5⟩ | exact ⟨q6, r6⟩ | exact ⟨q7, r7⟩ | exact ⟨q8, r8⟩ | assumption) (first | (go_at_call 12; (with_reducible refine (add_1 HTD.out CA.out p2 pN2 fA).mono ?_); rintro e w5 ⟨rfl, h5⟩; have H5 := Lib.hid h5; have q5 := (RC.out _ h5.row).1; have r5 := (RC.out _ h5.row).2; clear h5) | (go_at_call 12; (with_reducible refine (add_2 H5.out CB.out hf0 pH2 fB).mono ?_); rintro e w6 ⟨rfl, h6⟩; have H6 := Lib.hid h6; have q6 := (RC.out _ h6.row).1; have r6 := (RC.out _ h6.row).2; clear h6) | (go_at_call 12; (with_reducible refine (add_2 H6.out CC.out hg0 pG2 fC).mono ?_); rintro e w7 ⟨rfl, h7⟩; have H7 := Lib.hid h7; have q7 := (RC.out _ h7.row).1; have r7 := (RC.out _ h7.row).2; clear h7) | (go_at_call 12; (with_reducible refine (add_3 H7.out CD.out p2 pN2 fD).mono ?_); rintro e w8 ⟨rfl, h8⟩; have H8 := Lib.hid h8; have q8 := (RC.out _ h8.row).1; have r8 := (RC.out _ h8.row).2; clear h8))
      have e8 := H8.out
      rw [← E2.out, ← E1.out] at e8
      have HT8 := Lib.hid e8
      clear e8 q5 r5 q6 r6 q7 r7 H5 H6 H7 HTD e0 e1
      go_wp2
      go_loopw [18, 19] (fun a i wi => ∃ i' : Nat, i' ≤ j + 1 ∧ i = .int .i64 i' ∧ a = .int .i64 (gt (t - k) (L.take i')) ∧ Dr w8 wi) (fun _ i _ => j + 1 - (intOf i).toNat)
      case atStart => exact ⟨0, Nat.zero_le _, rfl, rfl, Dr.refl _⟩
      case round =>
        obtain ⟨i', hi, rfl, rfl, nd, rfl⟩ := hrel
        obtain ⟨z0, z1⟩ := gt_small (t - k) HL.out i'
        by_cases hle : i' ≤ j
        · obtain ⟨⟨t2, N2⟩, hpi⟩ : ∃ p, L[i']? = some p := ⟨_, List.getElem?_eq_getElem (by omega)⟩
          obtain ⟨y0, y1⟩ := row_at HT8.out.row hpi rfl
          obtain ⟨u0, u1, u2, u3⟩ := HL.out.el _ (List.mem_of_getElem? hpi)
          dsimp only at u0 u1 u2 u3
          have hs2 := gt_snoc (t - k) hpi
          dsimp only at hs2
          have hle' : (i' : Int) ≤ (j : Int) := by omega
          have hli : (i' : Int) < (L.length : Int) := by omega
          clear hpi
          by_cases hin : t - k < t2
          · have d1 : decide (t - k < t2) = true := decide_eq_true hin
            rw [if_pos hin] at hs2
            go_wp2
            go_quiet (fail)
            go_wp2
            go_roundw
            case rel => exact ⟨i' + 1, by omega, by go_num, by (rw [hs2]; try go_num), by first | exact ⟨_, rfl⟩ | exact Dr.step ⟨nd, rfl⟩ nq⟩
            case measure => simp [intOf]; omega
          · have d1 : decide (t - k < t2) = false := decide_eq_false hin
            rw [if_neg hin] at hs2
            go_wp2
            go_quiet (fail)
            go_wp2
            go_roundw
            case rel => exact ⟨i' + 1, by omega, by go_num, by (rw [hs2]; try go_num), by first | exact ⟨_, rfl⟩ | exact Dr.step ⟨nd, rfl⟩ nq⟩
            case measure => simp [intOf]; omega
        · obtain rfl : i' = j + 1 := by omega
          have hle' : ¬ ((j + 1 : Nat) : Int) ≤ (j : Int) := by omega
          have eS := HS.out
          have HTD8 := Lib.hid (HT8.out.dr nd)
          clear z0 z1
          go_wp2_with (first | (go_at_call 14; (with_reducible refine (sum_1 (S := S) HTD8.out DA.out HS).mono ?_); rintro e w9 ⟨rfl, h9⟩; have H9 := Lib.hid h9; have q9 := (RC.out _ h9.row).1; clear h9)             | (go_at_call 14; (with_reducible refine (sum_2 (S := S) H9.out DB.out HSB).mono ?_); rintro e w10 ⟨rfl, h10⟩; have H10 := Lib.hid h10; have q10 := (RC.out _ h10.row).1; clear h10)             | (go_at_call 14; (with_reducible refine (sum_3 H10.out DD.out HSD).mono ?_); rintro e w11 ⟨rfl, h11⟩; have H11 := Lib.hid h11; clear h11))
          go_roundw
          case rel => exact ⟨j + 1, _, _, _, by omega, by go_num, by (rw [HSN.out]; try go_num), Lib.hid (by rw [E3.out]; exact H11.out)⟩
          case measure => simp [intOf]; omega
    · obtain rfl : j = L.length := by omega
      obtain ⟨lw, hw, hr⟩ := HT.out.p1
      rw [List.take_length] at hw hr
      have HLAT := Lib.hid (show Lat wr w1.heap.size w4.heap.size k x1 lw L (.slice A1 L.length cp1) T from ⟨hw, hr, HT.out.row, HL.out, by have := HT.out.o2; have := HT.out.o3; have := HT.out.o4; omega, HT.out.BW, k1, k2⟩)
      clear hw hr
      go_wp2_with (first | (go_at_call 29; (with_reducible refine (later_c wr w1.heap.size w4.heap.size k x1 ask lw L _ T HLAT.out).mono ?_); rintro e w8 ⟨rfl, hc⟩; have HB8 := Lib.hid (Chg.below HT.out.bel hc HT.out.o1 HT.out.bel.size); clear hc) | (go_at_call 13; with_reducible refine (alive_c _).mono ?_; rintro e w9 ⟨rfl, hb9⟩; have HB9 := Lib.hid (kbt HB8.out hb9); clear hb9))
      go_ret
      exact ⟨rfl, HB9.out⟩
/-- The law. -/
theorem counts (wide : Int) (xs : List Stp) (A : Option Addr) (m c : Nat) (ask : Int) (w : World) (h1 : (Lit.int .i64 wide).wf = true) (h : Recs w 2 A m (xs.map Stp.list)) (hc : m ≤ c) (hm : m ≤ 140737488351232) (hxs : ∀ x ∈ xs, x.wf) (h2 : (Lit.int .i64 ask).wf = true) :
    Calls Try.prog 8 #[.int .i64 wide, .slice A m c, .int .i64 ask] w fun e w' => e = .returned (.bool true) ∧ Below w.heap.size w w' := by
  obtain ⟨k1, k2⟩ := width_in wide
  exact counts_k wide ask _ xs A m c w (Full.wf64 h1) (Lib.hid rfl) k1 k2 h hm
end Go.Proofs.Ythcjkdmlaahpbaa.Counts
