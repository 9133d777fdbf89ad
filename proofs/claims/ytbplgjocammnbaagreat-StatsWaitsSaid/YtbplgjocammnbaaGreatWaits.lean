/- Contract of stats.Waits: how long the matched requests of records had waited. -/
import Derived.Test.YtbplgjocammnbaaGreatRecs
import Derived.Test.YtbplgjocammnbaaGreatApp
import Derived.Test.YtbplgjocammnbaaGreatHas
import Derived.LoopTactic
import Derived.WalkSpells
import Derived.Lib.Hide
namespace Go.Proofs.YtbplgjocammnbaaGreat.Waits
open Go.RowKit Go.Proofs.YtbplgjocammnbaaGreat.Aid Go.Proofs.YtbplgjocammnbaaGreat.Mem Go.Proofs.YtbplgjocammnbaaGreat.Keep Go.Proofs.YtbplgjocammnbaaGreat.Recs Go.Proofs.YtbplgjocammnbaaGreat.Has
set_option linter.unusedSimpArgs false
set_option linter.unusedVariables false
set_option maxRecDepth 100000
/-- A record's cells. -/
structure Row where
  tick : Int
  wa : Option Addr
  wn : Nat
  wc : Nat
  ia : Option Addr
  idn : Nat
  ic : Nat
  rows : Int
  cols : Int
  ea : Option Addr
  en : Nat
  ec : Nat
  pa : Option Addr
  pn : Nat
  pc : Nat
  ya : Option Addr
  yn : Nat
  yc : Nat
  za : Option Addr
  zn : Nat
  zc : Nat
abbrev Row.list (r : Row) : List Value := [.int .i64 r.tick, .slice r.wa r.wn r.wc, .slice r.ia r.idn r.ic, .int .i64 r.rows, .int .i64 r.cols, .slice r.ea r.en r.ec, .slice r.pa r.pn r.pc, .slice r.ya r.yn r.yc, .slice r.za r.zn r.zc]
abbrev Row.arr (r : Row) : Array Value := #[.int .i64 r.tick, .slice r.wa r.wn r.wc, .slice r.ia r.idn r.ic, .int .i64 r.rows, .int .i64 r.cols, .slice r.ea r.en r.ec, .slice r.pa r.pn r.pc, .slice r.ya r.yn r.yc, .slice r.za r.zn r.zc]
/-- What of a record is asked: since when each waits, and the pairs. -/
structure Rc where
  ss : List Int
  ps : List (Int × Int)
abbrev pl (p : Int × Int) : List Value := [.int .i64 p.1, .int .i64 p.2]
structure RAt (w : World) (r : Row) (x : Rc) : Prop where
  wn : x.ss.length = r.wn
  ws : ∀ (k : Nat) (s : Int), x.ss[k]? = some s → ∃ ad, r.wa = some ad ∧ w.cell? (ad.add (k * 18 + 16)) = some (.int .i64 s)
  pr : Recs w 2 r.pa r.pn (x.ps.map pl)
theorem RAt.keep {w w' : World} {r : Row} {x : Rc} (h : RAt w r x) (hb : Below w.heap.size w w') : RAt w' r x :=
  ⟨h.wn, fun k s hs => by
    obtain ⟨ad, e, hc⟩ := h.ws k s hs
    exact ⟨ad, e, (hb.cell (World.block_lt_of_cell? w _ hc)).trans hc⟩, h.pr.keep hb⟩
def wait1 (t : Int) (x : Rc) (p : Int × Int) : List Int :=
  if p.1 < 0 ∨ (x.ss.length : Int) ≤ p.1 ∨ 1099511627776 < t then [] else match x.ss[p.1.toNat]? with
  | some s => if 0 ≤ s ∧ s ≤ t then [t - s] else []
  | none => []
def waitR (t : Int) (x : Rc) (k : Nat) : List Int := (x.ps.take k).flatMap (wait1 t x)
def waitA : List Row → List Rc → List Int
  | r :: rs, x :: xs => waitR r.tick x x.ps.length ++ waitA rs xs
  | _, _ => []
theorem waitR_zero (t : Int) (x : Rc) : waitR t x 0 = [] := by simp [waitR]
theorem waitR_next {t : Int} {x : Rc} {k : Nat} {p : Int × Int} (h : x.ps[k]? = some p) : waitR t x (k + 1) = waitR t x k ++ wait1 t x p := by
  unfold waitR
  rw [take_snoc x.ps k p h, List.flatMap_append]; simp
theorem waitA_next : ∀ {rs : List Row} {xs : List Rc} {k : Nat} {r : Row} {x : Rc}, rs[k]? = some r → xs[k]? = some x → waitA (rs.take (k + 1)) (xs.take (k + 1)) = waitA (rs.take k) (xs.take k) ++ waitR r.tick x x.ps.length
  | r :: rs, x :: xs, 0, _, _, h1, h2 => by
    simp at h1 h2; subst h1; subst h2
    simp [waitA]
  | r :: rs, x :: xs, k + 1, _, _, h1, h2 => by
    have := waitA_next (rs := rs) (xs := xs) (k := k) (by simpa using h1) (by simpa using h2)
    simp only [List.take_succ_cons, waitA]
    rw [this, List.append_assoc]
  | [], _, _, _, _, h1, _ => by simp at h1
  | _ :: _, [], _, _, _, _, h2 => by simp at h2
theorem wait1_le (t : Int) (x : Rc) (p : Int × Int) : (wait1 t x p).length ≤ 1 := by
  unfold wait1
  split
  · simp
  · split
    · split <;> simp
    · simp
theorem waitR_le (t : Int) (x : Rc) : ∀ k, (waitR t x k).length ≤ k
  | 0 => by simp [waitR]
  | k + 1 => by
    cases h : x.ps[k]? with
    | none =>
      have hl := List.getElem?_eq_none_iff.1 h
      have e : waitR t x (k + 1) = waitR t x k := by unfold waitR; rw [List.take_of_length_le (by omega), List.take_of_length_le hl]
      rw [e]
      have := waitR_le t x k
      omega
    | some p =>
      rw [waitR_next h, List.length_append]
      have := waitR_le t x k
      have := wait1_le t x p
      omega
theorem waitA_pre {rs : List Row} {xs : List Rc} (k : Nat) : (waitA (rs.take k) (xs.take k)).length ≤ (waitA rs xs).length := by
  induction k generalizing rs xs with
  | zero => simp [waitA]
  | succ k ih =>
    match rs, xs with
    | r :: rs, x :: xs =>
      simp only [List.take_succ_cons, waitA, List.length_append]
      have := ih (rs := rs) (xs := xs)
      omega
    | [], _ => simp [waitA]
    | _ :: _, [] => simp [waitA]
theorem infoInt : (Tryz.prog.info? 3).map (fun i => (i.zero, i.size, i.bytes)) = some (some (.int .i64 0), 1, 8) := by kernel_rfl
theorem load_rec (v : Value) : Instr.loadAt 68 v = LA 68 v := rfl
theorem load_pai (v : Value) : Instr.loadAt 72 v = LA 72 v := rfl
attribute [local go_sem ↓] load_rec load_pai
theorem at_r {w : World} {A : Option Addr} {n : Nat} {rs : List Row} (h : Recs w 9 A n (rs.map Row.list)) {j : Nat} (hj : j < n) : ∃ ad r, A = some ad ∧ rs[j]? = some r ∧ ∀ w', Below w.heap.size w w' → (LA 68 (.pointer (some (ad.add (j * 9))))).run Tryz.prog w' = .ok (.agg r.arr) w' := by
  obtain ⟨ad, l, rfl, hl, hc, hcell⟩ := h.at_ hj
  rw [List.getElem?_map] at hl
  obtain ⟨r, hr, rfl⟩ := Option.map_eq_some_iff.1 hl
  refine ⟨ad, r, rfl, hr, fun w' hb => loads_at (s := []) Tryz.underlying68 rfl (by show _ = some 9; kernel_rfl) fun i v hv => ?_⟩
  rw [List.append_nil] at hv
  rw [add_add]
  have hv' := hcell i v hv
  exact (hb.cell (World.block_lt_of_cell? w _ hv')).trans hv'
theorem at_p {w : World} {A : Option Addr} {n : Nat} {ps : List (Int × Int)} (h : Recs w 2 A n (ps.map pl)) {j : Nat} (hj : j < n) : ∃ ad p, A = some ad ∧ ps[j]? = some p ∧ ∀ w', Below w.heap.size w w' → (LA 72 (.pointer (some (ad.add (j * 2))))).run Tryz.prog w' = .ok (.agg #[.int .i64 p.1, .int .i64 p.2]) w' := by
  obtain ⟨ad, l, rfl, hl, hc, hcell⟩ := h.at_ hj
  rw [List.getElem?_map] at hl
  obtain ⟨p, hp, rfl⟩ := Option.map_eq_some_iff.1 hl
  refine ⟨ad, p, rfl, hp, fun w' hb => loads_at (l := pl p) (s := []) Tryz.underlying72 rfl (by show _ = some 2; kernel_rfl) fun i v hv => ?_⟩
  rw [List.append_nil] at hv
  rw [add_add]
  have hv' := hcell i v hv
  exact (hb.cell (World.block_lt_of_cell? w _ hv')).trans hv'
/-- The record's box holds it; the answer so far is the call's own. -/
def KW (w : World) (g : Nat) (r : Row) (v : Value) (l : List Int) (W : World) : Prop :=
  Has w [(g, 68, r.list)] W ∧ w.heap.size ≤ g ∧ (∀ b, v.ownBlock = some b → b ≠ g) ∧ Own W w.heap.size 3 1 v l.length (nums .i64 l)
section
variable {w W W' : World} {g : Nat} {r : Row} {v : Value} {l : List Int}
theorem KW.keep (h : KW w g r v l W) (hb : Below W.heap.size W W') : KW w g r v l W' := ⟨h.1.keep hb, h.2.1, h.2.2.1, h.2.2.2.keep hb⟩
theorem KW.bel (h : KW w g r v l W) : Below w.heap.size w W := h.1.2
theorem KW.cell (h : KW w g r v l W) (i : Nat) : W.cell? ⟨g, i, none⟩ = r.list[i]? := h.1.cell List.mem_cons_self i
theorem KW.start (hO : Own W w.heap.size 3 1 v l.length (nums .i64 l)) (hB : Below w.heap.size w W) : KW w W.heap.size r v l (W.alloc (.cells r.arr 68)) := by
  refine ⟨⟨fun x hx => ?_, hB.alloc hB.size _⟩, hB.size, fun b hb => ?_, hO.keep (alloc_below _ _)⟩
  · simp at hx; subst hx; exact Blk.new W _ _
  · have := hO.lt b hb; omega
theorem KW.app {x : Int} {v1 : Value} (h : KW w g r v l W) (hO : Own W' w.heap.size 3 1 v1 (l.length + 1) (nums .i64 l ++ [.int .i64 x])) (hB : Below w.heap.size w W') (hg : W.grownBy W' v.ownBlock) (hn : v1.ownBlock = v.ownBlock ∨ ∃ b, v1.ownBlock = some b ∧ W.heap.size ≤ b) : KW w g r v1 (l ++ [x]) W' := by
  refine ⟨⟨fun y hy => ?_, hB⟩, h.2.1, fun b hb => ?_, ?_⟩
  · simp at hy; subst hy
    have h0 := h.1.1 _ List.mem_cons_self
    exact (hg.block g h0.lt (fun e => h.2.2.1 g e.symm rfl)).trans h0
  · rcases hn with e | ⟨b', e, hle⟩
    · exact h.2.2.1 b (e ▸ hb)
    · rw [e] at hb; cases hb
      have := (h.1.1 _ List.mem_cons_self).lt
      simp at this
      omega
  · rw [List.length_append]
    simpa [nums] using hO
end
theorem wait1_f {t : Int} {x : Rc} {p : Int × Int} (h : p.1 < 0 ∨ (x.ss.length : Int) ≤ p.1 ∨ 1099511627776 < t) : wait1 t x p = [] := by unfold wait1; rw [if_pos h]
theorem wait1_t {t : Int} {x : Rc} {p : Int × Int} {k : Nat} {s : Int} (h : p.1 = (k : Int)) (ht : t ≤ 1099511627776) (hs : x.ss[k]? = some s) : wait1 t x p = if 0 ≤ s ∧ s ≤ t then [t - s] else [] := by
  have := (List.getElem?_eq_some_iff.1 hs).1
  unfold wait1
  rw [if_neg (by omega), h, Int.toNat_natCast, hs]
theorem add16 (ad : Addr) (m : Nat) : ad.add (m + 16) = ⟨(ad.add m).block, (ad.add m).off + 16, none⟩ := by
  unfold Addr.add
  by_cases h : m = 0 <;> simp [h, Nat.add_assoc]
theorem waitA_bound {rs : List Row} {xs : List Rc} {k : Nat} {r : Row} {x : Rc} (hr : rs[k]? = some r) (hx : xs[k]? = some x) {j : Nat} {p : Int × Int} (hp : x.ps[j]? = some p) : (waitA (rs.take k) (xs.take k) ++ waitR r.tick x j).length ≤ (waitA rs xs).length := by
  refine Nat.le_trans ?_ (waitA_pre (k + 1))
  rw [waitA_next hr hx, List.length_append, List.length_append]
  have hj := (List.getElem?_eq_some_iff.1 hp).1
  have : waitR r.tick x x.ps.length = waitR r.tick x j ++ (x.ps.drop j).flatMap (wait1 r.tick x) := by
    unfold waitR
    rw [← List.flatMap_append, List.take_length, List.take_append_drop]
  rw [this, List.length_append]
  omega
set_option maxHeartbeats 4000000 in
theorem waits_c (rs : List Row) (xs : List Rc) (A : Option Addr) (n c : Nat) (w : World) (h : Recs w 9 A n (rs.map Row.list)) (hx : xs.length = n) (hr : ∀ (j : Nat) (r : Row) (x : Rc), rs[j]? = some r → xs[j]? = some x → RAt w r x ∧ r.pn ≤ 17592186044416 ∧ r.wn ≤ 17592186044416 ∧ -9223372036854775808 ≤ r.tick ∧ r.tick ≤ 9223372036854775807) (hn : n ≤ 17592186044416) (hl : (waitA rs xs).length + 1 ≤ 1099511627776) :
    Calls Tryz.prog 6 #[.slice A n c] w fun e w' => ∃ v, e = .returned v ∧ Own w' w.heap.size 3 1 v (waitA rs xs).length (nums .i64 (waitA rs xs)) ∧ Below w.heap.size w w' := by
  have H := Lib.hid h
  have HX := Lib.hid hx
  have HR := Lib.hid hr
  have HN : Hid (rs.length = n) := Lib.hid (by have := h.1; simpa using this)
  have HL := Lib.hid hl
  clear h hx hr hl
  go_enter Tryz.func6, Tryz.ntmps6
  go_wp2
  go_loopw [3, 11] (fun v i wr => ∃ k : Nat, k ≤ n ∧ i = .int .i64 k ∧ Hid (Own wr w.heap.size 3 1 v (waitA (rs.take k) (xs.take k)).length (nums .i64 (waitA (rs.take k) (xs.take k)))) ∧ Hid (Below w.heap.size w wr)) (fun _ i _ => n - (intOf i).toNat)
  case atStart => exact ⟨0, Nat.zero_le _, rfl, Lib.hid (by simpa [waitA, nums] using Own.nil _ _ _ _), Lib.hid (Below.refl _ _)⟩
  case round =>
    obtain ⟨k, hk, rfl, HO, HB⟩ := hrel
    by_cases hlt : k < n
    · obtain ⟨ad, r, rfl, hr, hld⟩ := at_r H.out hlt
      obtain ⟨x, hx⟩ : ∃ x, xs[k]? = some x := ⟨_, List.getElem?_eq_getElem (by rw [HX.out]; exact hlt)⟩
      obtain ⟨hA, b1, b2, b3, b4⟩ := HR.out k r x hr hx
      have HA := Lib.hid hA
      have HNX := Lib.hid (waitA_next hr hx)
      have K0 := Lib.hid (KW.start (r := r) HO.out HB.out)
      have L0 := hld _ HB.out
      have HRX := Lib.hid hr
      have HXX := Lib.hid hx
      have HPN : Hid (x.ps.length = r.pn) := Lib.hid (by have := hA.pr.1; simpa using this)
      obtain ⟨tick, wa, wn, wc, ia, idn, ic, rows, cols, ea, en, ec, pa, pn, pc, ya, yn, yc, za, zn, zc⟩ := r
      have c6 := K0.out.cell 6
      simp only [Row.list, List.getElem?_cons_zero, List.getElem?_cons_succ] at c6
      simp only [Row.arr] at b1 b2 b3 b4 L0 HPN
      clear hld hr hx hA
      go_wp2
      go_loopw [3, 19] (fun v i wr2 => ∃ j : Nat, j ≤ pn ∧ i = .int .i64 j ∧ Hid (KW w wr.heap.size ⟨tick, wa, wn, wc, ia, idn, ic, rows, cols, ea, en, ec, pa, pn, pc, ya, yn, yc, za, zn, zc⟩ v (waitA (rs.take k) (xs.take k) ++ waitR tick x j) wr2)) (fun _ i _ => pn - (intOf i).toNat)
      case atStart => exact ⟨0, Nat.zero_le _, rfl, Lib.hid (by rw [waitR_zero, List.append_nil]; exact K0.out)⟩
      case round =>
        obtain ⟨j, hj, rfl, K⟩ := hrel
        by_cases hjl : j < pn
        · obtain ⟨bd, p, hpa, hp, hlp⟩ := at_p HA.out.pr hjl
          simp only at hpa
          subst hpa
          obtain ⟨pr, pcol⟩ := p
          have L1 := hlp _ K.out.bel
          have KP := Lib.hid (K.out.keep (alloc_below _ (.cells #[.int .i64 pr, .int .i64 pcol] 72)))
          have c0 := KP.out.cell 0
          have c1 := KP.out.cell 1
          have HP := Lib.hid hp
          have HW := Lib.hid (waitR_next (t := tick) hp)
          simp only [Row.list, List.getElem?_cons_zero, List.getElem?_cons_succ] at c0 c1
          clear hp hlp
          by_cases q1 : pr < 0
          · have HW1 := Lib.hid (wait1_f (t := tick) (x := x) (p := (pr, pcol)) (.inl q1))
            go_wp2
            go_roundw
            case rel => exact ⟨j + 1, by omega, by go_num, Lib.hid (by rw [HW.out, HW1.out, List.append_nil]; exact KP.out)⟩
            case measure => simp [intOf]; omega
          · by_cases q2 : (wn : Int) ≤ pr
            · have HW1 := Lib.hid (wait1_f (t := tick) (x := x) (p := (pr, pcol)) (.inr (.inl (by have := HA.out.wn; simp only at this ⊢; omega))))
              go_wp2
              go_roundw
              case rel => exact ⟨j + 1, by omega, by go_num, Lib.hid (by rw [HW.out, HW1.out, List.append_nil]; exact KP.out)⟩
              case measure => simp [intOf]; omega
            · by_cases q3 : 1099511627776 < tick
              · have HW1 := Lib.hid (wait1_f (t := tick) (x := x) (p := (pr, pcol)) (.inr (.inr q3)))
                go_wp2
                go_roundw
                case rel => exact ⟨j + 1, by omega, by go_num, Lib.hid (by rw [HW.out, HW1.out, List.append_nil]; exact KP.out)⟩
                case measure => simp [intOf]; omega
              · obtain ⟨q, rfl⟩ : ∃ q : Nat, pr = (q : Int) := ⟨pr.toNat, by omega⟩
                have hqn : q < wn := by omega
                obtain ⟨s, hs⟩ : ∃ s, x.ss[q]? = some s := ⟨_, List.getElem?_eq_getElem (by rw [HA.out.wn]; exact hqn)⟩
                obtain ⟨wd, hwa, hcw⟩ := HA.out.ws q s hs
                simp only at hwa
                subst hwa
                have hcs := (KP.out.bel.cell (World.block_lt_of_cell? w _ hcw)).trans hcw
                rw [add16] at hcs
                have HW1 := Lib.hid (wait1_t (t := tick) (x := x) (p := ((q : Int), pcol)) rfl (by omega) hs)
                clear hcw hs
                by_cases s0 : s < 0
                · go_wp2
                  go_roundw
                  case rel => exact ⟨j + 1, by omega, by go_num, Lib.hid (by rw [HW.out, HW1.out, if_neg (by omega), List.append_nil]; exact KP.out)⟩
                  case measure => simp [intOf]; omega
                · by_cases s1 : tick < s
                  · go_wp2
                    go_roundw
                    case rel => exact ⟨j + 1, by omega, by go_num, Lib.hid (by rw [HW.out, HW1.out, if_neg (by omega), List.append_nil]; exact KP.out)⟩
                    case measure => simp [intOf]; omega
                  · have HO1 := Lib.hid KP.out.2.2.2
                    have HBW := Lib.hid KP.out.bel
                    have HBA := Lib.hid KP.out.bel.size
                    have hle := waitA_bound HRX.out HXX.out HP.out
                    simp only at hle
                    have HMX : Hid ((waitA (rs.take k) (xs.take k) ++ waitR tick x j).length + 1 ≤ maxLen) := Lib.hid (by have := HL.out; unfold maxLen; omega)
                    have HBY : Hid (((waitA (rs.take k) (xs.take k) ++ waitR tick x j).length + 1) * 8 ≤ 140737488355328) := Lib.hid (by have := HL.out; omega)
                    rw [if_pos (by omega)] at HW1
                    clear hle
                    go_wp2_with (first | (at_builtin; (refine app_one (w0 := w) (W := wr.alloc (.cells #[.int .i64 q, .int .i64 pcol] 72)) w.heap.size rfl _ _ 25 3 (.int .i64 0) 1 8 rfl Tryz.underlying25 infoInt rfl (by decide) u3 _ _ [.int .i64 (tick - s)] rfl (by rw [size_alloc]; rfl) rfl (one_int _ _) HO1.out HBW.out HBA.out HMX.out HBY.out ?_); intro v1 w9 hO hB hG _ hN; have HO9 := Lib.hid hO; have HBW9 := Lib.hid hB; have HG9 := Lib.hid hG; have HN9 := Lib.hid hN; clear hO hB hG hN))
                    go_roundw
                    case rel => exact ⟨j + 1, by omega, by go_num, Lib.hid (by rw [HW.out, HW1.out, ← List.append_assoc]; exact KP.out.app HO9.out HBW9.out HG9.out HN9.out)⟩
                    case measure => simp [intOf]; omega
        · obtain rfl : j = pn := by omega
          have KO : Hid (Own wr w.heap.size 3 1 u3 (waitA (rs.take (k + 1)) (xs.take (k + 1))).length (nums .i64 (waitA (rs.take (k + 1)) (xs.take (k + 1))))) := Lib.hid (by rw [HNX.out, HPN.out]; exact K.out.2.2.2)
          have KB := Lib.hid K.out.bel
          go_wp2
          go_roundw
          case rel => exact ⟨k + 1, by omega, by go_num, KO, KB⟩
          case measure => simp [intOf]; omega
    · obtain rfl : k = n := by omega
      have e1 : rs.take k = rs := List.take_of_length_le (by rw [HN.out]; exact Nat.le_refl _)
      have e2 : xs.take k = xs := List.take_of_length_le (by rw [HX.out]; exact Nat.le_refl _)
      rw [e1, e2] at HO
      clear e1 e2
      go_wp2
      go_ret
      exact ⟨_, rfl, HO.out, HB.out⟩
end Go.Proofs.YtbplgjocammnbaaGreat.Waits
