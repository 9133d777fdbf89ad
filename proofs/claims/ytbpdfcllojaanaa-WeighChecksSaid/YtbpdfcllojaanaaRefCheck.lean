/- Contract of the document's Check, and of what WeighChecks asks of law01: SameEdges, isEdge, LeftEdges, TwinGraph, LeftGraph. -/
import Derived.Test.YtbpdfcllojaanaaCheck
import Derived.Test.YtbpdfcllojaanaaTwinE
import Derived.Deep.RegionHeld3
namespace Go.Proofs.Ytbpdfcllojaanaa.Check
open Go.RowKit Go.Proofs.Ytbpdfcllojaanaa.Aid Go.Proofs.Ytbpdfcllojaanaa.Mem Go.Proofs.Ytbpdfcllojaanaa.Types Go.Proofs.Ytbpdfcllojaanaa.Keep Go.Proofs.Ytbpdfcllojaanaa.Recs Go.Proofs.Ytbpdfcllojaanaa.TwinS
set_option linter.unusedSimpArgs false
set_option linter.unusedVariables false
set_option maxRecDepth 100000
attribute [local go_sem ↓] load_edg
theorem last_succ {es : List Edg} {k : Nat} {x : Edg} (h : es[k]? = some x) : lastE es (k + 1) = x := by show es[k]?.getD e0 = x; rw [h]; rfl
theorem aft_e0 {R C : Int} {x : Edg} (h : eOk R C x) : aft e0 x := by unfold eOk at h; unfold aft e0; dsimp only; omega
theorem la_at {W : World} {g : Nat} {x : Edg} (h : Blk W g 26 x.list) : W.cell? ⟨g, 0, none⟩ = some (.int .i64 x.r) ∧ W.cell? ⟨g, 1, none⟩ = some (.int .i64 x.c) ∧ W.cell? ⟨g, 2, none⟩ = some (.int .i64 x.w) := ⟨h.cellv rfl, h.cellv rfl, h.cellv rfl⟩
set_option maxHeartbeats 2000000 in
theorem refcheck_c (R C : Int) (es : List Edg) (A : Option Addr) (n c : Nat) (w : World) (h : Recs w 3 A n (es.map Edg.list)) (hn : n ≤ 140737488351232) :
    Calls Try.prog 13 #[.agg #[.int .i64 R, .int .i64 C, .slice A n c]] w fun e w' => e = .returned (.int .i64 (gErr R C es)) ∧ Below w.heap.size w w' := by
  have H := Lib.hid h
  have HN : Hid (es.length = n) := Lib.hid (by have := h.1; simpa using this)
  clear h
  have HZ : Hid (¬ (0 ≤ R ∧ R ≤ 64 ∧ 0 ≤ C ∧ C ≤ 64) → gErr R C es = 170) := Lib.hid (fun h => by unfold gErr gOk; rw [decide_eq_false h]; rfl)
  have HG : Hid ((0 ≤ R ∧ R ≤ 64 ∧ 0 ≤ C ∧ C ≤ 64) → gErr R C es = if okF R C e0 es = true then 0 else 170) := Lib.hid (fun h => by unfold gErr gOk; rw [decide_eq_true h, Bool.true_and])
  have HV : Hid (okF R C e0 es = false → gErr R C es = 170) := Lib.hid (fun h => by unfold gErr gOk; rw [h, Bool.and_false]; rfl)
  have key : ∀ W : World, (Blk W w.heap.size 24 [.int .i64 R, .int .i64 C, .slice A n c]) → W.cell? ⟨w.heap.size, 0, none⟩ = some (.int .i64 R) ∧ W.cell? ⟨w.heap.size, 1, none⟩ = some (.int .i64 C) ∧ W.cell? ⟨w.heap.size, 2, none⟩ = some (.slice A n c) := fun W hW => ⟨hW.cellv rfl, hW.cellv rfl, hW.cellv rfl⟩
  have KEY := Lib.hid key
  clear key
  have HB0 := Lib.hid (Blk.new w 24 [.int .i64 R, .int .i64 C, .slice A n c])
  by_cases r0 : R < 0
  · have HG9 := Lib.hid (HZ.out (by omega))
    clear HZ HG HV H HN
    go_enter Try.func13, Try.ntmps13
    go_wp2
    go_ret
    exact ⟨ret_i HG9.out.symm, kba' (Below.refl _ _) _⟩
  by_cases r1 : 64 < R
  · have HG9 := Lib.hid (HZ.out (by omega))
    clear HZ HG HV H HN
    go_enter Try.func13, Try.ntmps13
    go_wp2
    go_ret
    exact ⟨ret_i HG9.out.symm, kba' (Below.refl _ _) _⟩
  by_cases r2 : C < 0
  · have HG9 := Lib.hid (HZ.out (by omega))
    clear HZ HG HV H HN
    go_enter Try.func13, Try.ntmps13
    go_wp2
    go_ret
    exact ⟨ret_i HG9.out.symm, kba' (Below.refl _ _) _⟩
  by_cases r3 : 64 < C
  · have HG9 := Lib.hid (HZ.out (by omega))
    clear HZ HG HV H HN
    go_enter Try.func13, Try.ntmps13
    go_wp2
    go_ret
    exact ⟨ret_i HG9.out.symm, kba' (Below.refl _ _) _⟩
  have HG' := Lib.hid (HG.out (by omega))
  clear HZ HG
  go_enter Try.func13, Try.ntmps13
  go_wp2
  go_loopw [3] (fun i wr => ∃ k : Nat, k ≤ n ∧ i = .int .i64 k ∧ Hid (Blk wr w.heap.size 24 [.int .i64 R, .int .i64 C, .slice A n c]) ∧ Hid (Below w.heap.size w wr) ∧ Hid (okF R C e0 es = okF R C (lastE es k) (es.drop k))) (fun i _ => n - (intOf i).toNat)
  case atStart => exact ⟨0, Nat.zero_le _, rfl, HB0, kba (Below.refl _ _) _, rfl⟩
  case round =>
    obtain ⟨k, hk, rfl, HG1, HB, HK⟩ := hrel
    clear HB0
    obtain ⟨q1, q2, q3⟩ := KEY.out wr HG1.out
    by_cases hlt : k < n
    · obtain ⟨ad, x, rfl, hx, hlx⟩ := edg_at H.out hlt
      have lx := hlx _ HB.out
      have la := la_new wr x
      have HX := Lib.hid hx
      have g0 : w.heap.size < wr.heap.size := HG1.out.lt
      have HLX := Lib.hid hlx
      clear hlx hx
      have bad : ¬ (eOk R C x ∧ aft (lastE es k) x) → gErr R C es = 170 := fun h => HV.out (by rw [HK.out]; exact ok_bad HX.out h)
      have BAD := Lib.hid bad
      clear bad HV
      by_cases c0 : x.r < 0
      · have HG9 := Lib.hid (BAD.out (fun h => by unfold eOk at h; omega))
        clear BAD HLX HX HK HG' H HN
        go_wp2
        go_ret
        exact ⟨ret_i HG9.out.symm, kba' HB.out _⟩
      by_cases c1 : R ≤ x.r
      · have HG9 := Lib.hid (BAD.out (fun h => by unfold eOk at h; omega))
        clear BAD HLX HX HK HG' H HN
        go_wp2
        go_ret
        exact ⟨ret_i HG9.out.symm, kba' HB.out _⟩
      by_cases c2 : x.c < 0
      · have HG9 := Lib.hid (BAD.out (fun h => by unfold eOk at h; omega))
        clear BAD HLX HX HK HG' H HN
        go_wp2
        go_ret
        exact ⟨ret_i HG9.out.symm, kba' HB.out _⟩
      by_cases c3 : C ≤ x.c
      · have HG9 := Lib.hid (BAD.out (fun h => by unfold eOk at h; omega))
        clear BAD HLX HX HK HG' H HN
        go_wp2
        go_ret
        exact ⟨ret_i HG9.out.symm, kba' HB.out _⟩
      by_cases c4 : x.w < 1
      · have HG9 := Lib.hid (BAD.out (fun h => by unfold eOk at h; omega))
        clear BAD HLX HX HK HG' H HN
        go_wp2
        go_ret
        exact ⟨ret_i HG9.out.symm, kba' HB.out _⟩
      by_cases c5 : 1099513724929 < x.w
      · have HG9 := Lib.hid (BAD.out (fun h => by unfold eOk at h; omega))
        clear BAD HLX HX HK HG' H HN
        go_wp2
        go_ret
        exact ⟨ret_i HG9.out.symm, kba' HB.out _⟩
      have EOK : eOk R C x := by unfold eOk; omega
      have EO := Lib.hid EOK
      clear EOK
      rcases Nat.eq_zero_or_pos k with k0 | k0
      · subst k0
        have HS := Lib.hid (ok_step HX.out EO.out (show aft (lastE es 0) x from aft_e0 EO.out))
        have lx0 : (LA 26 (.pointer (some ad))).run Try.prog wr = .ok (.agg #[.int .i64 x.r, .int .i64 x.c, .int .i64 x.w]) wr := by
          have h := lx
          rw [Nat.zero_mul] at h
          rwa [show ad.add 0 = ad from by simp [Addr.add]] at h
        clear BAD HLX
        go_wp2
        go_roundw
        case rel => exact ⟨1, by omega, by go_num, HG1.out.alloc _, kba' HB.out _, Lib.hid (HK.out.trans HS.out)⟩
        case measure => simp [intOf]; omega
      · obtain ⟨j, rfl⟩ : ∃ j, k = j + 1 := ⟨k - 1, by omega⟩
        obtain ⟨ad', y, e1, hy, hly⟩ := edg_at H.out (show j < n by omega)
        obtain rfl : ad = ad' := by simpa using e1
        clear e1
        have HY := Lib.hid (last_succ hy)
        have ly := hly _ (kba HB.out (.cells #[.int .i64 x.r, .int .i64 x.c, .int .i64 x.w] 26))
        have la2 := la_new (wr.alloc (.cells #[.int .i64 x.r, .int .i64 x.c, .int .i64 x.w] 26)) y
        have ej : ((j + 1 : Nat) : Int) - 1 = (j : Int) := by omega
        clear hy hly
        by_cases c6 : x.r < y.r
        · have HG9 := Lib.hid (BAD.out (fun h => by rw [HY.out] at h; unfold aft at h; omega))
          clear BAD HLX HX HK HG' H HN HY
          (try clear c7)
          go_wp2
          go_ret
          exact ⟨ret_i HG9.out.symm, kba' (kba' HB.out _) _⟩
        by_cases c7 : x.r = y.r
        · have c7' : (x.r == y.r) = true := by simp [c7]
          by_cases c8 : x.c ≤ y.c
          · have HG9 := Lib.hid (BAD.out (fun h => by rw [HY.out] at h; unfold aft at h; omega))
            clear BAD HLX HX HK HG' H HN HY
            (try clear c7)
            go_wp2
            go_ret
            exact ⟨ret_i HG9.out.symm, kba' (kba' HB.out _) _⟩
          · have HS := Lib.hid (ok_step HX.out EO.out (show aft (lastE es (j + 1)) x by rw [HY.out]; unfold aft; omega))
            clear BAD HLX HY
            (try clear c7)
            go_wp2
            go_roundw
            case rel => exact ⟨j + 1 + 1, by omega, by go_num, (HG1.out.alloc _).alloc _, kba' (kba' HB.out _) _, Lib.hid (HK.out.trans HS.out)⟩
            case measure => simp [intOf]; omega
        · have c7' : (x.r == y.r) = false := by simp [c7]
          have HS := Lib.hid (ok_step HX.out EO.out (show aft (lastE es (j + 1)) x by rw [HY.out]; unfold aft; omega))
          clear BAD HLX HY
          (try clear c7)
          go_wp2
          go_roundw
          case rel => exact ⟨j + 1 + 1, by omega, by go_num, (HG1.out.alloc _).alloc _, kba' (kba' HB.out _) _, Lib.hid (HK.out.trans HS.out)⟩
          case measure => simp [intOf]; omega
    · obtain rfl : k = n := by omega
      have HS := Lib.hid (show gErr R C es = 0 by rw [HG'.out, HK.out, List.drop_eq_nil_of_le (by rw [HN.out]; omega)]; cases lastE es k; rfl)
      clear HV HK
      go_wp2
      go_ret
      exact ⟨ret_i HS.out.symm, HB.out⟩
theorem isEdge_c (x : Edg) (n : Int) (w : World) (h : x = ⟨0, 0, -8777⟩) (hn : n = 7777) : Calls Try.prog 41 #[.agg #[.int .i64 x.r, .int .i64 x.c, .int .i64 x.w], .int .i64 n] w fun e w' => e = .returned (.bool true) ∧ Below w.heap.size w w' := by
  subst h hn
  have la := la_new w ⟨0, 0, -8777⟩
  go_enter Try.func41, Try.ntmps41
  go_wp2
  go_ret
  exact ⟨by simp, kba' (Below.refl _ _) _⟩
/-- SameEdges: two lists of one length and the same edges. -/
theorem sameE_c (xs : List Edg) (A B : Option Addr) (n c d : Nat) (w : World) (h : Recs w 3 A n (xs.map Edg.list)) (h' : Recs w 3 B n (xs.map Edg.list)) (hn : n ≤ 1048576) :
    Calls Try.prog 40 #[.slice A n c, .slice B n d] w fun e w' => e = .returned (.bool true) ∧ Below w.heap.size w w' := by
  have H := Lib.hid h
  have H' := Lib.hid h'
  clear h h'
  go_enter Try.func40, Try.ntmps40
  go_wp2_with (fail)
  go_loopw [5] (fun i wr => ∃ k : Nat, k ≤ n ∧ i = .int .i64 k ∧ Hid (Below w.heap.size w wr)) (fun i _ => n - (intOf i).toNat)
  case atStart => exact ⟨0, Nat.zero_le _, rfl, Lib.hid (Below.refl _ _)⟩
  case round =>
    obtain ⟨k, hk, rfl, HB⟩ := hrel
    by_cases hlt : k < n
    · obtain ⟨ad, x, rfl, hx, hc⟩ := edg_at H.out hlt
      obtain ⟨bd, y, rfl, hy, hc'⟩ := edg_at H'.out hlt
      obtain rfl : x = y := by rw [hx] at hy; injection hy
      have EXT : Hid (∀ W, Below w.heap.size w W → (fun W => Below w.heap.size w W ∧ (LA 26 (.pointer (some (ad.add (k * 3))))).run Try.prog W = .ok (.agg #[.int .i64 x.r, .int .i64 x.c, .int .i64 x.w]) W ∧ (LA 26 (.pointer (some (bd.add (k * 3))))).run Try.prog W = .ok (.agg #[.int .i64 x.r, .int .i64 x.c, .int .i64 x.w]) W) W) := Lib.hid (fun W h => ⟨h, hc W h, hc' W h⟩)
      dsimp only at EXT
      clear hx hy hc hc'
      go_wp2
      go_region_held3 (fun W => Below w.heap.size w W ∧ (LA 26 (.pointer (some (ad.add (k * 3))))).run Try.prog W = .ok (.agg #[.int .i64 x.r, .int .i64 x.c, .int .i64 x.w]) W ∧ (LA 26 (.pointer (some (bd.add (k * 3))))).run Try.prog W = .ok (.agg #[.int .i64 x.r, .int .i64 x.c, .int .i64 x.w]) W) (first | exact EXT.out _ (HB.out.drew)) (fail)
      obtain ⟨h8, _, _⟩ := ‹_ ∧ _ ∧ _›
      go_wp2
      go_roundw
      case rel => exact ⟨k + 1, by omega, by go_num, Lib.hid h8⟩
      case measure => simp [intOf]; omega
    · obtain rfl : k = n := by omega
      go_wp2
      go_ret
      exact ⟨rfl, HB.out⟩
end Go.Proofs.Ytbpdfcllojaanaa.Check
