/- The contract of weigh.Check: may a graph be? -/
import Derived.Test.YtbpdfcllojaanaaRecs
import Derived.Test.YtbpdfcllojaanaaTypes
import Derived.Lib.Hide
import Derived.LoopTactic
import Derived.Deep.CutRange
import Derived.WalkMore
namespace Go.Proofs.Ytbpdfcllojaanaa.Check
open Go.RowKit Go.Proofs.Ytbpdfcllojaanaa.Aid Go.Proofs.Ytbpdfcllojaanaa.Mem Go.Proofs.Ytbpdfcllojaanaa.Keep Go.Proofs.Ytbpdfcllojaanaa.Recs Go.Proofs.Ytbpdfcllojaanaa.Types
set_option linter.unusedSimpArgs false
set_option linter.unusedVariables false
set_option maxRecDepth 100000
/-- May an edge be, of a graph with so many rows and columns? -/
def eOk (R C : Int) (x : Edg) : Prop := 0 ≤ x.r ∧ x.r < R ∧ 0 ≤ x.c ∧ x.c < C ∧ 1 ≤ x.w ∧ x.w ≤ 1099513724929
def aft (y x : Edg) : Prop := ¬ (x.r < y.r) ∧ ¬ (x.r = y.r ∧ x.c ≤ y.c)
instance (R C : Int) (x : Edg) : Decidable (eOk R C x) := by unfold eOk; infer_instance
instance (y x : Edg) : Decidable (aft y x) := by unfold aft; infer_instance
def okF (R C : Int) : Edg → List Edg → Bool
  | _, [] => true
  | y, x :: xs => decide (eOk R C x ∧ aft y x) && okF R C x xs
def e0 : Edg := ⟨-1, 0, 0⟩
def gOk (R C : Int) (es : List Edg) : Bool := decide (0 ≤ R ∧ R ≤ 64 ∧ 0 ≤ C ∧ C ≤ 64) && okF R C e0 es
def gErr (R C : Int) (es : List Edg) : Int := if gOk R C es = true then 0 else 170
def lastE (es : List Edg) : Nat → Edg
  | 0 => e0
  | k + 1 => (es[k]?).getD e0
theorem ok_step {R C : Int} {es : List Edg} {k : Nat} {x : Edg} (h : es[k]? = some x) (h1 : eOk R C x) (h2 : aft (lastE es k) x) : okF R C (lastE es k) (es.drop k) = okF R C (lastE es (k + 1)) (es.drop (k + 1)) := by
  have hk := (List.getElem?_eq_some_iff.1 h).1
  rw [List.drop_eq_getElem_cons hk]
  have e : es[k] = x := (List.getElem?_eq_some_iff.1 h).2
  show (decide (eOk R C es[k] ∧ aft (lastE es k) es[k]) && okF R C es[k] (es.drop (k + 1))) = _
  rw [e, decide_eq_true ⟨h1, h2⟩, Bool.true_and]
  show _ = okF R C ((es[k]?).getD e0) _
  rw [h]; rfl
theorem ok_bad {R C : Int} {es : List Edg} {k : Nat} {x : Edg} (h : es[k]? = some x) (h1 : ¬ (eOk R C x ∧ aft (lastE es k) x)) : okF R C (lastE es k) (es.drop k) = false := by
  have hk := (List.getElem?_eq_some_iff.1 h).1
  rw [List.drop_eq_getElem_cons hk]
  have e : es[k] = x := (List.getElem?_eq_some_iff.1 h).2
  show (decide (eOk R C es[k] ∧ aft (lastE es k) es[k]) && okF R C es[k] (es.drop (k + 1))) = _
  rw [e, decide_eq_false h1, Bool.false_and]
theorem load_edg (v : Value) : Instr.loadAt 26 v = LA 26 v := rfl
theorem edg_at {w : World} {A : Option Addr} {n : Nat} {es : List Edg} (h : Recs w 3 A n (es.map Edg.list)) {j : Nat} (hj : j < n) : ∃ ad x, A = some ad ∧ es[j]? = some x ∧ ∀ w', Below w.heap.size w w' → (LA 26 (.pointer (some (ad.add (j * 3))))).run Try.prog w' = .ok (.agg #[.int .i64 x.r, .int .i64 x.c, .int .i64 x.w]) w' := by
  obtain ⟨ad, l, rfl, hl, hc, hcell⟩ := h.at_ hj
  rw [List.getElem?_map] at hl
  obtain ⟨x, hx, rfl⟩ := Option.map_eq_some_iff.1 hl
  refine ⟨ad, x, rfl, hx, fun w' hb => loads_at (l := x.list) (s := []) Try.underlying26 rfl (by show _ = some 3; kernel_rfl) fun i v hv => ?_⟩
  rw [add_add]
  rw [List.append_nil] at hv
  have hv' := hcell i v hv
  exact (hb.cell (World.block_lt_of_cell? w _ hv')).trans hv'
theorem la_new (w : World) (x : Edg) : (LA 26 (.pointer (some ⟨w.heap.size, 0, none⟩))).run Try.prog (w.alloc (.cells #[.int .i64 x.r, .int .i64 x.c, .int .i64 x.w] 26)) = .ok (.agg #[.int .i64 x.r, .int .i64 x.c, .int .i64 x.w]) (w.alloc (.cells #[.int .i64 x.r, .int .i64 x.c, .int .i64 x.w] 26)) :=
  loads_box Try.underlying26 rfl (by show _ = some 3; kernel_rfl) (fun i => World.cell?_alloc_new w _ _ i)
theorem ret_i {a b : Int} (h : a = b) : Ending.returned (.int .i64 a) = Ending.returned (.int .i64 b) := by rw [h]
theorem noGoto_ret' {Q : Exit → Act → World → Prop} {a : Act} {w : World} (h : Q .ret a w) : Exit.noGoto Q .ret a w := h
theorem blk_next (w : World) (o : Obj) (t : TypeId) (l : List Value) : Blk ((w.alloc o).alloc (.cells l.toArray t)) (w.heap.size + 1) t l := by
  have := Blk.new (w.alloc o) t l
  rwa [size_alloc] at this
theorem kba' {B : Nat} {a w : World} (h : Below B a w) (o : Obj) (hB : B ≤ a.heap.size := by exact Nat.le_refl _) : Below B a (w.alloc o) := h.alloc (Nat.le_trans hB h.size) o
theorem far3 {W : World} {g : Nat} {t : TypeId} {l : List Value} (h : Blk W g t l) (x y z : Int) (o : Obj) : Blk ((((W.setCell ⟨g + 1, 0, none⟩ (.int .i64 x)).setCell ⟨g + 1, 1, none⟩ (.int .i64 y)).setCell ⟨g + 1, 2, none⟩ (.int .i64 z)).alloc o) g t l :=
  (((h.far (p := ⟨g + 1, 0, none⟩) (Nat.ne_of_lt (Nat.lt_succ_self g)) _).far (p := ⟨g + 1, 1, none⟩) (Nat.ne_of_lt (Nat.lt_succ_self g)) _).far (p := ⟨g + 1, 2, none⟩) (Nat.ne_of_lt (Nat.lt_succ_self g)) _).alloc _
theorem bel3 {a W : World} (h : Below a.heap.size a W) (x y z : Int) (o : Obj) : Below a.heap.size a ((((W.setCell ⟨a.heap.size + 1, 0, none⟩ (.int .i64 x)).setCell ⟨a.heap.size + 1, 1, none⟩ (.int .i64 y)).setCell ⟨a.heap.size + 1, 2, none⟩ (.int .i64 z)).alloc o) := by
  have := ((h.setCell (p := ⟨a.heap.size + 1, 0, none⟩) (Nat.le_succ _) (.int .i64 x)).setCell (p := ⟨a.heap.size + 1, 1, none⟩) (Nat.le_succ _) (.int .i64 y)).setCell (p := ⟨a.heap.size + 1, 2, none⟩) (Nat.le_succ _) (.int .i64 z)
  exact this.alloc this.size _
theorem put3 {W : World} {g : Nat} {t : TypeId} {y x : Edg} {es : List Edg} {k : Nat} (h : Blk W g t y.list) (hx : es[k]? = some x) : Blk (((W.setCell ⟨g, 0, none⟩ (.int .i64 x.r)).setCell ⟨g, 1, none⟩ (.int .i64 x.c)).setCell ⟨g, 2, none⟩ (.int .i64 x.w)) g t (lastE es (k + 1)).list := by
  have e : lastE es (k + 1) = x := by show (es[k]?).getD e0 = x; rw [hx]; rfl
  rw [e]
  exact ((h.put 0 _).put 1 _).put 2 _
attribute [local go_sem ↓] load_edg
set_option maxHeartbeats 2000000 in
theorem check_c (R C : Int) (es : List Edg) (A : Option Addr) (n c : Nat) (w : World) (h : Recs w 3 A n (es.map Edg.list)) (hn : n ≤ 140737488351232) :
    Calls Try.prog 12 #[.agg #[.int .i64 R, .int .i64 C, .slice A n c]] w fun e w' => e = .returned (.int .i64 (gErr R C es)) ∧ Below w.heap.size w w' := by
  have H := Lib.hid h
  have HN : Hid (es.length = n) := Lib.hid (by have := h.1; simpa using this)
  clear h
  obtain ⟨b0, hb0⟩ : ∃ b0, b0 = !decide (0 ≤ R ∧ R ≤ 64 ∧ 0 ≤ C ∧ C ≤ 64) := ⟨_, rfl⟩
  have HZ : Hid (b0 = true → gErr R C es = 170) := Lib.hid (fun h => by unfold gErr gOk; rw [hb0] at h; simp only [Bool.not_eq_true'] at h; rw [h]; rfl)
  have HG : Hid (b0 = false → gErr R C es = if okF R C e0 es = true then 0 else 170) := Lib.hid (fun h => by unfold gErr gOk; rw [hb0] at h; simp only [Bool.not_eq_false'] at h; rw [h, Bool.true_and])
  have HV : Hid (okF R C e0 es = false → gErr R C es = 170) := Lib.hid (fun h => by unfold gErr gOk; rw [h, Bool.and_false]; rfl)
  have key : ∀ W : World, (Blk W w.heap.size 24 [.int .i64 R, .int .i64 C, .slice A n c]) → W.cell? ⟨w.heap.size, 0, none⟩ = some (.int .i64 R) ∧ W.cell? ⟨w.heap.size, 1, none⟩ = some (.int .i64 C) := fun W hW => ⟨hW.cellv rfl, hW.cellv rfl⟩
  have KEY := Lib.hid key
  clear key
  go_enter Try.func12, Try.ntmps12
  go_wp2
  apply wp_scope_straight
  go_upto_region 1 with fail
  go_cut [3] from 7 to 24 (fun s3 wx => s3 = .bool b0 ∧ wx = w.alloc (.cells #[.int .i64 R, .int .i64 C, .slice A n c] 24))
  case first =>
    have hp : ∀ p : Prop, ∀ [Decidable p], ¬ p → (0 ≤ R ∧ R ≤ 64 ∧ 0 ≤ C ∧ C ≤ 64 → p) → b0 = true := fun p _ h1 h2 => by
      rw [hb0, decide_eq_false (fun h => h1 (h2 h))]; rfl
    by_cases h1 : R < 0
    · have e := hp (0 ≤ R) (by omega) (by omega)
      clear hp hb0
      go_wp2
      go_meet
      exact ⟨by rw [e], rfl⟩
    · by_cases h2 : 64 < R
      · have e := hp (R ≤ 64) (by omega) (by omega)
        clear hp hb0
        go_wp2
        go_meet
        exact ⟨by rw [e], rfl⟩
      · by_cases h3 : C < 0
        · have e := hp (0 ≤ C) (by omega) (by omega)
          clear hp hb0
          go_wp2
          go_meet
          exact ⟨by rw [e], rfl⟩
        · by_cases h4 : 64 < C
          · have e := hp (C ≤ 64) (by omega) (by omega)
            clear hp hb0
            go_wp2
            go_meet
            exact ⟨by rw [e], rfl⟩
          · have e : b0 = false := by rw [hb0, decide_eq_true (by omega)]; rfl
            clear hp hb0
            go_wp2
            go_meet
            exact ⟨by rw [e], rfl⟩
  case rest =>
    obtain ⟨rfl, rfl⟩ := hcut
    clear hb0
    have HB0 := Lib.hid (Blk.new w 24 [.int .i64 R, .int .i64 C, .slice A n c])
    have HB1 := Lib.hid (blk_next w (.cells #[.int .i64 R, .int .i64 C, .slice A n c] 24) 26 e0.list)
    go_wp2
    go_step3
    go_wp2
    go_loopw [3, 29] (fun s i wr => ∃ k : Nat, k ≤ n ∧ s = .bool b0 ∧ i = .int .i64 k ∧ Hid (Blk wr w.heap.size 24 [.int .i64 R, .int .i64 C, .slice A n c]) ∧ Hid (Blk wr (w.heap.size + 1) 26 (lastE es k).list) ∧ Hid (Below w.heap.size w wr) ∧ Hid (okF R C e0 es = okF R C (lastE es k) (es.drop k))) (fun _ i _ => n - (intOf i).toNat)
    case atStart => exact ⟨0, Nat.zero_le _, rfl, rfl, HB0.out.alloc _, HB1, kba (kba (Below.refl _ _) _) _, rfl⟩
    case round =>
      obtain ⟨k, hk, rfl, rfl, HG1, HL1, HB, HK⟩ := hrel
      clear HB0 HB1
      by_cases hlt : k < n
      · obtain ⟨ad, x, rfl, hx, hlx⟩ := edg_at H.out hlt
        have lx := hlx _ HB.out
        have la := la_new wr x
        have HX := Lib.hid hx
        clear hx hlx
        obtain ⟨q1, q2⟩ := KEY.out wr HG1.out
        obtain ⟨y, hy⟩ : ∃ y, lastE es k = y := ⟨_, rfl⟩
        have HY := Lib.hid hy
        rw [hy] at HL1
        clear hy
        have q3 : wr.cell? ⟨w.heap.size + 1, 0, none⟩ = some (.int .i64 y.r) := HL1.out.cellv rfl
        have q4 : wr.cell? ⟨w.heap.size + 1, 1, none⟩ = some (.int .i64 y.c) := HL1.out.cellv rfl
        have q5 : wr.cell? ⟨w.heap.size + 1, 2, none⟩ = some (.int .i64 y.w) := HL1.out.cellv rfl
        have f3 := HL1.out.free 0
        have f4 := HL1.out.free 1
        have f5 := HL1.out.free 2
        have t2 : w.heap.size + 1 < wr.heap.size := HL1.out.lt
        have t1 : w.heap.size < wr.heap.size := by omega
        have bad : ¬ (eOk R C x ∧ aft y x) → gErr R C es = 170 := fun h => HV.out (by rw [HK.out]; exact ok_bad HX.out (by rw [HY.out]; exact h))
        have BAD := Lib.hid bad
        clear bad
        by_cases c0 : x.r < 0
        · have HG9 := Lib.hid (BAD.out (fun h => by unfold eOk aft at h; omega))
          go_wp2
          (try refine noGoto_ret' ?_)
          go_ret
          exact ⟨ret_i HG9.out.symm, kba' HB.out _⟩
        · by_cases c1 : R ≤ x.r
          · have HG9 := Lib.hid (BAD.out (fun h => by unfold eOk aft at h; omega))
            go_wp2
            (try refine noGoto_ret' ?_)
            go_ret
            exact ⟨ret_i HG9.out.symm, kba' HB.out _⟩
          · by_cases c2 : x.c < 0
            · have HG9 := Lib.hid (BAD.out (fun h => by unfold eOk aft at h; omega))
              go_wp2
              (try refine noGoto_ret' ?_)
              go_ret
              exact ⟨ret_i HG9.out.symm, kba' HB.out _⟩
            · by_cases c3 : C ≤ x.c
              · have HG9 := Lib.hid (BAD.out (fun h => by unfold eOk aft at h; omega))
                go_wp2
                (try refine noGoto_ret' ?_)
                go_ret
                exact ⟨ret_i HG9.out.symm, kba' HB.out _⟩
              · by_cases c4 : x.w < 1
                · have HG9 := Lib.hid (BAD.out (fun h => by unfold eOk aft at h; omega))
                  go_wp2
                  (try refine noGoto_ret' ?_)
                  go_ret
                  exact ⟨ret_i HG9.out.symm, kba' HB.out _⟩
                · by_cases c5 : 1099513724929 < x.w
                  · have HG9 := Lib.hid (BAD.out (fun h => by unfold eOk aft at h; omega))
                    go_wp2
                    (try refine noGoto_ret' ?_)
                    go_ret
                    exact ⟨ret_i HG9.out.symm, kba' HB.out _⟩
                  · by_cases c6 : x.r < y.r
                    · have HG9 := Lib.hid (BAD.out (fun h => by unfold eOk aft at h; omega))
                      go_wp2
                      (try refine noGoto_ret' ?_)
                      go_ret
                      exact ⟨ret_i HG9.out.symm, kba' HB.out _⟩
                    · by_cases c7 : x.r = y.r
                      · by_cases c8 : x.c ≤ y.c
                        · have HG9 := Lib.hid (BAD.out (fun h => by unfold eOk aft at h; omega))
                          have c9 : (x.r == y.r) = true := by simp [c7]
                          clear c7
                          go_wp2
                          (try refine noGoto_ret' ?_)
                          go_ret
                          exact ⟨ret_i HG9.out.symm, kba' HB.out _⟩
                        · have HS := Lib.hid (ok_step (C := C) (R := R) HX.out (by unfold eOk; omega) (by rw [HY.out]; unfold aft; omega))
                          have c9 : (x.r == y.r) = true := by simp [c7]
                          clear c7
                          go_wp2
                          go_roundw
                          case rel => exact ⟨k + 1, by omega, rfl, by go_num, Lib.hid (far3 HG1.out (x.r) (x.c) (x.w) _), Lib.hid ((put3 HL1.out HX.out).alloc _), Lib.hid (bel3 HB.out (x.r) (x.c) (x.w) _), Lib.hid (HK.out.trans HS.out)⟩
                          case measure => simp [intOf]; omega
                      · have HS := Lib.hid (ok_step (C := C) (R := R) HX.out (by unfold eOk; omega) (by rw [HY.out]; unfold aft; omega))
                        have c9 : (x.r == y.r) = false := by simp [c7]
                        clear c7
                        go_wp2
                        go_roundw
                        case rel => exact ⟨k + 1, by omega, rfl, by go_num, Lib.hid (far3 HG1.out (x.r) (x.c) (x.w) _), Lib.hid ((put3 HL1.out HX.out).alloc _), Lib.hid (bel3 HB.out (x.r) (x.c) (x.w) _), Lib.hid (HK.out.trans HS.out)⟩
                        case measure => simp [intOf]; omega
      · obtain rfl : k = n := by omega
        have he : okF R C e0 es = true := by rw [HK.out, List.drop_of_length_le (by rw [HN.out]; omega)]; cases lastE es k; rfl
        have HE := Lib.hid he
        clear he
        cases b0
        · have hg : gErr R C es = 0 := by rw [HG.out rfl, HE.out]; rfl
          have HG9 := Lib.hid hg
          clear hg
          go_wp2
          (try refine noGoto_ret' ?_)
          go_ret
          exact ⟨ret_i HG9.out.symm, HB.out⟩
        · have hg := HZ.out rfl
          have HG9 := Lib.hid hg
          clear hg
          go_wp2
          (try refine noGoto_ret' ?_)
          go_ret
          exact ⟨ret_i HG9.out.symm, HB.out⟩
end Go.Proofs.Ytbpdfcllojaanaa.Check
