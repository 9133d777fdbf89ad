/- Contract of stats.Of, where it tells a summary. -/
import Derived.Test.YtbplgjocammnbaaGreatMinMax
import Derived.Test.YtbplgjocammnbaaGreatSums
import Derived.Test.YtbplgjocammnbaaGreatHas
import Derived.Test.YtbplgjocammnbaaGreatRecs
import Derived.Laws.ResultCell
import Derived.Laws.FloatArith
import Derived.Laws.NewBlocks
import Derived.Deep.MidRow
namespace Go.Proofs.YtbplgjocammnbaaGreat.Of
open Go.RowKit Go.Proofs.YtbplgjocammnbaaGreat.Aid Go.Proofs.YtbplgjocammnbaaGreat.Mem Go.Proofs.YtbplgjocammnbaaGreat.Nums Go.Proofs.YtbplgjocammnbaaGreat.Sums Go.Proofs.YtbplgjocammnbaaGreat.MinMax Go.Proofs.YtbplgjocammnbaaGreat.Keep Go.Proofs.YtbplgjocammnbaaGreat.Has Go.Proofs.YtbplgjocammnbaaGreat.Recs
set_option linter.unusedSimpArgs false
set_option linter.unusedVariables false
set_option maxRecDepth 100000
theorem add64_c (x y c : Int) (hx : 0 ≤ x) (hy : 0 ≤ y) (h0 : 0 ≤ c) (h1 : c ≤ 1) (w : World) : (callFunc 154 #[.int .u64 x, .int .u64 y, .int .u64 c]).run Tryz.prog w =
    .ok (.value (.tuple #[.int .u64 ((x + y + c) % 18446744073709551616), .int .u64 ((x + y + c) / 18446744073709551616)])) w := by
  have h := run_callFunc_extern (P := Tryz.prog) (f := 154) (e := add64Entry) Tryz.func154 (by kernel_rfl) (by kernel_rfl) (by kernel_rfl) (by rfl) #[.int .u64 x, .int .u64 y, .int .u64 c] w
  rw [h, run_add64 x y c hx hy h0 h1]
  simp [Result.andThen]
theorem wide3 {hi lo t x : Int} (h : Wide hi lo t) (hx : isN x = true) : Wide ((hi + IntKind.u64.wrap (x / 9223372036854775808) + (lo + IntKind.u64.wrap x) / 18446744073709551616) % 18446744073709551616) ((lo + IntKind.u64.wrap x) % 18446744073709551616) (t + x) := by
  have hx := isN_of hx
  obtain ⟨a, b, c, d, e⟩ := h
  unfold Wide
  simp only [u64_eq]
  by_cases h0 : x < 0
  · have e1 : x / 9223372036854775808 = -1 := by omega
    have e2 : x % 18446744073709551616 = x + 18446744073709551616 := by omega
    rw [e1, e2]
    omega
  · have e1 : x / 9223372036854775808 = 0 := by omega
    have e2 : x % 18446744073709551616 = x := by omega
    rw [e1, e2]
    omega
def fi (x : Int) : Nat := floatOfInt .f64 x
def fo (op : BinOp) (a b : Nat) : Nat := (floatBits op .f64 a b).getD 0
def meanF (xs : List Int) (n : Nat) : Nat := fo .quo (fi (tot xs)) (fi n)
/-- The squares of the first k, together. -/
def vsF (xs : List Int) (m : Nat) : Nat → Nat
  | 0 => 0
  | k + 1 => fo .add (vsF xs m k) (fo .mul (fo .sub (fi (xs[k]?.getD 0)) m) (fo .sub (fi (xs[k]?.getD 0)) m))
def varF (xs : List Int) (n : Nat) : Nat := fo .quo (vsF xs (meanF xs n) n) (fi n)
/-- Each operation has a result. -/
structure OfDef (xs : List Int) (n : Nat) : Prop where
  mean : (floatBits .quo .f64 (fi (tot xs)) (fi n)).isSome
  sub : ∀ (k : Nat) (x : Int), xs[k]? = some x → (floatBits .sub .f64 (fi x) (meanF xs n)).isSome
  mul : ∀ (k : Nat) (x : Int), xs[k]? = some x → (floatBits .mul .f64 (fo .sub (fi x) (meanF xs n)) (fo .sub (fi x) (meanF xs n))).isSome
  add : ∀ (k : Nat) (x : Int), xs[k]? = some x → (floatBits .add .f64 (vsF xs (meanF xs n) k) (fo .mul (fo .sub (fi x) (meanF xs n)) (fo .sub (fi x) (meanF xs n)))).isSome
  var : (floatBits .quo .f64 (vsF xs (meanF xs n) n) (fi n)).isSome
theorem fo_some {op : BinOp} {a b : Nat} (h : (floatBits op .f64 a b).isSome) : floatBits op .f64 a b = some (fo op a b) := by
  unfold fo
  cases hq : floatBits op .f64 a b with
  | none => rw [hq] at h; cases h
  | some q => rfl
theorem fo_run {op : BinOp} {a b : Nat} (h : (floatBits op .f64 a b).isSome) : ∀ t w, (binOp op t (.float .f64 a) (.float .f64 b)).run Tryz.prog w = .ok (.float .f64 (fo op a b)) w := fun t w => run_float_arith w op t .f64 a b _ (fo_some h)
abbrev tS : TypeId := 87
abbrev zS : Array Value := #[.int .i64 0, .float .f64 0, .float .f64 0, .int .i64 0, .int .i64 0]
theorem res_sum {fn : Func} (hf : fn.results = #[.cell 2 tS, .tmp 3]) (tmps : Array Value) (W : World) (b : Nat) (l : List Value) (e : Value) {t : TypeId} (h8 : tmps.getD 2 undef = .pointer (some ⟨b, 0, none⟩)) (h9 : tmps.getD 3 undef = e) (hb : Blk W b t l) (hl : l.length = 5) :
    (results fn tmps).run Tryz.prog W = .ok (.tuple #[.agg l.toArray, e]) W := by
  rw [results_cell_tmp hf, h8, h9]
  have := run_loadVar_mid (P := Tryz.prog) W b 0 tS l _ (fun j v hv => by rw [Nat.zero_add]; exact hb.cellv hv) Tryz.underlying87 rfl (by rw [hl]; kernel_rfl)
  show (Sem.run Tryz.prog (loadVar tS ⟨b, 0, none⟩) W).andThen _ = _
  rw [this]; rfl
theorem blk_two (w : World) (t1 t2 : TypeId) (l1 l2 : List Value) : Blk ((w.alloc (.cells l1.toArray t1)).alloc (.cells l2.toArray t2)) w.heap.size t1 l1 ∧ Blk ((w.alloc (.cells l1.toArray t1)).alloc (.cells l2.toArray t2)) (w.heap.size + 1) t2 l2 := by
  refine ⟨(Blk.new w t1 l1).alloc _, ?_⟩
  have := Blk.new (w.alloc (.cells l1.toArray t1)) t2 l2
  rwa [size_alloc] at this
theorem num_v (x : Int) (w : World) (h : isN x = true) : Calls Tryz.prog 153 #[.int .i64 x] w fun e w' => e = .returned (.bool true) ∧ w = w' := by
  have := number_c x w
  rwa [show decide (-4611686018427387903 ≤ x ∧ x ≤ 4611686018427387903) = true from h] at this
def ofE (xs : List Int) : Int := if xs.all isN = true then (if isN (tot xs) = true then 0 else 3) else 1
def ofA (xs : List Int) (n : Nat) : Array Value := if ofE xs = 0 ∧ 0 < n then #[.int .i64 n, .float .f64 (meanF xs n), .float .f64 (varF xs n), .int .i64 (least xs n), .int .i64 (most xs n)] else zS
theorem ofE_arg {xs : List Int} {k : Nat} {x : Int} (h : xs[k]? = some x) (hx : isN x = false) : ofE xs = 1 := by
  have h1 : xs.all isN = false := by
    rw [List.all_eq_false]
    exact ⟨x, List.mem_of_getElem? h, by simp [hx]⟩
  unfold ofE; rw [h1]; rfl
theorem ofA_e {xs : List Int} {n : Nat} (h : ofE xs ≠ 0) : ofA xs n = zS := if_neg (fun g => h g.1)
theorem ofE_ok {xs : List Int} (h : xs.all isN = true) (h' : isN (tot xs) = true) : ofE xs = 0 := by unfold ofE; rw [h, h']; rfl
theorem ofE_size {xs : List Int} (h : xs.all isN = true) (h' : isN (tot xs) = false) : ofE xs = 3 := by unfold ofE; rw [h, h']; rfl
theorem ofA_ok {xs : List Int} {n : Nat} (h : ofE xs = 0) (hp : 0 < n) : ofA xs n = #[.int .i64 n, .float .f64 (meanF xs n), .float .f64 (varF xs n), .int .i64 (least xs n), .int .i64 (most xs n)] := if_pos ⟨h, hp⟩
theorem store_sum (p v : Value) : Instr.storeAt 87 p v = SA 87 p v := rfl
theorem load_sum (v : Value) : Instr.loadAt 87 v = LA 87 v := rfl
abbrev lS (a b c d e : Value) : List Value := [a, b, c, d, e]
theorem sum_store {w0 w : World} {g : Nat} {l : List Value} {L : List (Nat × TypeId × List Value)} (h : Has w0 ((g, 87, l) :: L) w) (hg : w0.heap.size ≤ g) (hl : l.length = 5) (hL : ∀ x ∈ L, x.1 ≠ g) (a b c d e : Value) (ha : a.oneCell' = true) (hb : b.oneCell' = true) (hc : c.oneCell' = true) (hd : d.oneCell' = true) (he : e.oneCell' = true) :
    ∃ w', (SA 87 (.pointer (some ⟨g, 0, none⟩)) (.agg #[a, b, c, d, e])).run Tryz.prog w = .ok () w' ∧ w'.heap.size = w.heap.size ∧ Has w0 ((g, 87, lS a b c d e) :: L) w' := by
  have h0 : Blk w g 87 l := h.1 _ List.mem_cons_self
  refine ⟨_, stores_mid (cs := [a, b, c, d, e]) h0 (by rw [hl]; simp) (by show _ = some 5; kernel_rfl) (by intro v hv; simp only [List.mem_cons, List.not_mem_nil, or_false] at hv; rcases hv with rfl | rfl | rfl | rfl | rfl <;> assumption), size_sets _ _ _, fun u hu => ?_, below_sets hg _ _ _ h.2⟩
  rcases List.mem_cons.1 hu with rfl | hu
  · have := Blk.puts [a, b, c, d, e] 0 _ _ h0 (by rw [hl]; simp)
    rw [List.take_zero, List.nil_append, List.drop_of_length_le (by rw [hl]; simp), List.append_nil] at this
    exact this
  · exact Blk.fars (hL u hu) _ _ _ (h.1 u (List.mem_cons_of_mem _ hu))
attribute [local go_sem ↓] store_sum load_sum
theorem run_store_float {a : Addr} {P : Program} {w : World} {m : Mode} (k : FloatKind) (x : Nat) : (store a (.float k x) m).run P w = stored P w a (.float k x) m := run_store P w a _ m rfl
attribute [local go_sem] size_sets run_store_float
set_option maxHeartbeats 2000000 in
theorem of_c (xs : List Int) (A : Option Addr) (n c : Nat) (w : World) (h : Ints w .i64 A n xs) (hn : n ≤ 17592186044416) (hd : ofE xs = 0 → 0 < n → OfDef xs n) :
    Calls Tryz.prog 94 #[.slice A n c] w fun e w' => e = .returned (.tuple #[.agg (ofA xs n), .int .i64 (ofE xs)]) ∧ Below w.heap.size w w' := by
  have H := Lib.hid h
  have HL : Hid (xs.length = n) := Lib.hid h.1
  have HD := Lib.hid hd
  have HZ : Hid (Has w [(w.heap.size, 87, lS (.int .i64 0) (.float .f64 0) (.float .f64 0) (.int .i64 0) (.int .i64 0))] (w.alloc (.cells #[.int .i64 0, .float .f64 0, .float .f64 0, .int .i64 0, .int .i64 0] 87))) := Lib.hid (Has.new (Has.nil w) _ _)
  obtain ⟨wz, fz, zs, KZ⟩ := sum_store HZ.out (Nat.le_refl _) rfl (by simp) (.int .i64 0) (.float .f64 0) (.float .f64 0) (.int .i64 0) (.int .i64 0) rfl rfl rfl rfl rfl
  have KZ := Lib.hid KZ
  clear h hd zs
  go_enter Tryz.func94, Tryz.ntmps94
  go_wp2_with (fail)
  go_loop [4, 5, 18] (fun lo hi i => ∃ (k : Nat) (l g : Int), k ≤ n ∧ i = .int .i64 k ∧ lo = .int .u64 l ∧ hi = .int .u64 g ∧ Hid ((xs.take k).all isN = true) ∧ Hid (Wide g l (tot (xs.take k)))) (fun _ _ i => n - (intOf i).toNat)
  case atStart => exact ⟨0, 0, 0, Nat.zero_le _, rfl, rfl, rfl, Lib.hid (by simp), Lib.hid ⟨by decide, by decide, by decide, by decide, by simp [tot]⟩⟩
  case round =>
    obtain ⟨k, l, g, hk, rfl, rfl, rfl, HA, HW⟩ := hrel
    obtain ⟨g0, g1, l0, l1, _⟩ := HW.out
    by_cases hlt : k < n
    · obtain ⟨ad, x, rfl, hx, hc⟩ := (H.out.keep (alloc_below w (.cells #[.int .i64 0, .float .f64 0, .float .f64 0, .int .i64 0, .int .i64 0] 87))).at_ hlt
      cases hxN : isN x with
      | true =>
      have HW2 := Lib.hid (wide3 HW.out hxN)
      have HS := Lib.hid (tot_snoc xs k x hx)
      have HN := Lib.hid (all_snoc hx HA.out hxN)
      have HXN := Lib.hid hxN
      have u0 : 0 ≤ IntKind.u64.wrap x ∧ IntKind.u64.wrap x < 18446744073709551616 := by rw [u64_eq]; omega
      have u1 : 0 ≤ IntKind.u64.wrap (x / 9223372036854775808) ∧ IntKind.u64.wrap (x / 9223372036854775808) < 18446744073709551616 := by rw [u64_eq]; omega
      have a1 := add64_c l (IntKind.u64.wrap x) 0 l0 u0.1 (by decide) (by decide)
      rw [Int.add_zero] at a1
      have a2 := add64_c g (IntKind.u64.wrap (x / 9223372036854775808)) ((l + IntKind.u64.wrap x) / 18446744073709551616) g0 u1.1 (by omega) (by omega)
      clear hx hxN u0 u1 g0 g1 l0 l1 fz
      go_wp2_with (first | (go_at_call 153; (with_reducible refine (num_v x _ HXN.out).mono ?_); rintro e w' ⟨rfl, rfl⟩))
      go_round
      case rel => exact ⟨k + 1, _, _, by omega, by go_num, rfl, rfl, HN, by rw [HS.out]; exact HW2⟩
      case measure => simp [intOf]; omega
      | false =>
      have HE := Lib.hid (ofE_arg hx hxN)
      have HF := Lib.hid (ofA_e (n := n) (by rw [HE.out]; decide))
      have nu := number_c x (w.alloc (.cells #[.int .i64 0, .float .f64 0, .float .f64 0, .int .i64 0, .int .i64 0] 87))
      have HNU : Hid (decide (-4611686018427387903 ≤ x ∧ x ≤ 4611686018427387903) = false) := Lib.hid hxN
      rw [HNU.out] at nu
      have HNU2 := Lib.hid nu
      clear hx hxN g0 g1 l0 l1 nu
      go_wp2_with (first | (go_at_call 153; (with_reducible refine (HNU2.out).mono ?_); rintro e w' ⟨rfl, rfl⟩))
      exact bodyPost_ret (res_sum rfl _ _ w.heap.size (lS (.int .i64 0) (.float .f64 0) (.float .f64 0) (.int .i64 0) (.int .i64 0)) _ rfl rfl (KZ.out.1 _ List.mem_cons_self) rfl) rfl ⟨by rw [HE.out, HF.out]; rfl, KZ.out.2⟩
    · obtain rfl : k = n := by omega
      have ht : xs.take k = xs := List.take_of_length_le (by have := HL.out; omega)
      rw [ht] at HA HW
      have hb := tot_bound xs HA.out
      have hl := HL.out
      obtain ⟨w1, w2'⟩ := wide_end HW.out (by omega)
      cases hT : isN (tot xs) with
      | true =>
        obtain ⟨f1, f2⟩ := w1 hT
        have f3 : (g != IntKind.u64.wrap (tot xs / 9223372036854775808)) = false := by rw [f2]; simp
        have HE := Lib.hid (ofE_ok HA.out hT)
        have HT := Lib.hid hT
        by_cases hp : k = 0
        · have HF : Hid (ofA xs k = zS) := Lib.hid (by unfold ofA; rw [if_neg (by omega)])
          have p1 : k ≤ 0 := by omega
          clear hp hb hl w1 w2' f2 hT ht
          go_wp2_with (first | (go_at_call 153; (with_reducible refine (num_v (tot xs) _ HT.out).mono ?_); rintro e w' ⟨rfl, rfl⟩))
          exact bodyPost_ret (res_sum rfl _ _ w.heap.size (lS (.int .i64 0) (.float .f64 0) (.float .f64 0) (.int .i64 0) (.int .i64 0)) _ rfl rfl (KZ.out.1 _ List.mem_cons_self) rfl) rfl ⟨by rw [HE.out, HF.out]; rfl, KZ.out.2⟩
        · have hp0 : 0 < k := by omega
          have HF := Lib.hid (ofA_ok HE.out hp0)
          have HDD := Lib.hid (HD.out HE.out hp0)
          have fq : ∀ t W, (binOp .quo t (.float .f64 (floatOfInt .f64 (tot xs))) (.float .f64 (floatOfInt .f64 (k : Int)))).run Tryz.prog W = .ok (.float .f64 (meanF xs k)) W := fo_run HDD.out.mean
          have fv : ∀ t W, (binOp .quo t (.float .f64 (vsF xs (meanF xs k) k)) (.float .f64 (floatOfInt .f64 (k : Int)))).run Tryz.prog W = .ok (.float .f64 (varF xs k)) W := fo_run HDD.out.var
          have HB := Lib.hid (Has.new HZ.out 87 (lS (.int .i64 0) (.float .f64 0) (.float .f64 0) (.int .i64 0) (.int .i64 0)))
          rw [size_alloc] at HB
          obtain ⟨w2, f2w, z2, K2⟩ := sum_store HB.out (by omega) rfl (by simp) (.int .i64 k) (.float .f64 (meanF xs k)) (.float .f64 0) (.int .i64 (least xs k)) (.int .i64 (most xs k)) rfl rfl rfl rfl rfl
          have K2 := Lib.hid K2
          have c1 : w2.cell? ⟨w.heap.size + 1, 1, none⟩ = some (.float .f64 (meanF xs k)) := Has.cell K2.out List.mem_cons_self 1
          have c2 : w2.cell? ⟨w.heap.size + 1, 2, none⟩ = some (.float .f64 0) := Has.cell K2.out List.mem_cons_self 2
          have c2f : w2.frozen? ⟨w.heap.size + 1, 2, none⟩ = false := Has.free K2.out List.mem_cons_self 2
          have hs2 : w.heap.size ≠ w.heap.size + 1 := by omega
          have K3 : Hid (Has w [(w.heap.size, 87, lS (.int .i64 0) (.float .f64 0) (.float .f64 0) (.int .i64 0) (.int .i64 0)), (w.heap.size + 1, 87, lS (.int .i64 k) (.float .f64 (meanF xs k)) (.float .f64 (varF xs k)) (.int .i64 (least xs k)) (.int .i64 (most xs k)))] (w2.setCell ⟨w.heap.size + 1, 2, none⟩ (.float .f64 (varF xs k)))) := by
            refine Lib.hid ⟨fun x hx => ?_, K2.out.2.setCell (by show w.heap.size ≤ w.heap.size + 1; omega) _⟩
            simp only [List.mem_cons, List.not_mem_nil, or_false] at hx
            rcases hx with rfl | rfl
            · exact (K2.out.1 _ (List.mem_cons_of_mem _ List.mem_cons_self)).far (p := ⟨w.heap.size + 1, 2, none⟩) hs2 _
            · exact (K2.out.1 _ List.mem_cons_self).put 2 _
          have f3w : (LA 87 (.pointer (some ⟨w.heap.size + 1, 0, none⟩))).run Tryz.prog (w2.setCell ⟨w.heap.size + 1, 2, none⟩ (.float .f64 (varF xs k))) = .ok (.agg #[.int .i64 k, .float .f64 (meanF xs k), .float .f64 (varF xs k), .int .i64 (least xs k), .int .i64 (most xs k)]) (w2.setCell ⟨w.heap.size + 1, 2, none⟩ (.float .f64 (varF xs k))) :=
            Has.load (t' := 87) (l := [.int .i64 k, .float .f64 (meanF xs k), .float .f64 (varF xs k), .int .i64 (least xs k), .int .i64 (most xs k)]) (s := []) K3.out Tryz.underlying87 rfl (by show _ = some 5; kernel_rfl) (List.mem_cons_of_mem _ List.mem_cons_self)
          obtain ⟨w4, f4w, z4, K4⟩ := sum_store K3.out (Nat.le_refl _) rfl (by simp) (.int .i64 k) (.float .f64 (meanF xs k)) (.float .f64 (varF xs k)) (.int .i64 (least xs k)) (.int .i64 (most xs k)) rfl rfl rfl rfl rfl
          have K4 := Lib.hid K4
          have HI2 := Lib.hid (H.out.keep (K2.out.2))
          clear hp hb hl w1 w2' f2 hT ht fz z2 z4
          go_wp2_with (first | (go_at_call 153; (with_reducible refine (num_v (tot xs) _ HT.out).mono ?_); rintro e w' ⟨rfl, rfl⟩) | (go_at_call 155; (with_reducible refine (min_c xs A k c _ (H.out.keep (alloc_below _ _)) hp0 hn).mono ?_); rintro e w' ⟨rfl, rfl⟩) | (go_at_call 156; (with_reducible refine (max_c xs A k c _ (H.out.keep (alloc_below _ _)) hp0 hn).mono ?_); rintro e w' ⟨rfl, rfl⟩))
          go_loop [12, 76] (fun v i => ∃ j : Nat, j ≤ k ∧ i = .int .i64 j ∧ v = .float .f64 (vsF xs (meanF xs k) j)) (fun _ i => k - (intOf i).toNat)
          case atStart => exact ⟨0, Nat.zero_le _, rfl, rfl⟩
          case round =>
            obtain ⟨j, hj, rfl, rfl⟩ := hrel
            by_cases hjk : j < k
            · obtain ⟨ad, x, rfl, hx, hc⟩ := HI2.out.at_ hjk
              have o1 : ∀ t W, (binOp .sub t (.float .f64 (floatOfInt .f64 x)) (.float .f64 (meanF xs k))).run Tryz.prog W = .ok (.float .f64 (fo .sub (fi x) (meanF xs k))) W := fo_run (HDD.out.sub j x hx)
              have o2 := fo_run (HDD.out.mul j x hx)
              have o3 := fo_run (HDD.out.add j x hx)
              have HV : Hid (vsF xs (meanF xs k) (j + 1) = fo .add (vsF xs (meanF xs k) j) (fo .mul (fo .sub (fi x) (meanF xs k)) (fo .sub (fi x) (meanF xs k)))) := Lib.hid (by rw [vsF, hx]; rfl)
              clear hx
              go_wp2
              go_round
              case rel => exact ⟨j + 1, by omega, by go_num, by rw [HV.out]⟩
              case measure => simp [intOf]; omega
            · obtain rfl : j = k := by omega
              go_wp2
              exact bodyPost_ret (res_sum rfl _ _ w.heap.size (lS (.int .i64 j) (.float .f64 (meanF xs j)) (.float .f64 (varF xs j)) (.int .i64 (least xs j)) (.int .i64 (most xs j))) _ rfl rfl (K4.out.1 _ List.mem_cons_self) rfl) rfl ⟨by rw [HE.out, HF.out]; rfl, K4.out.2⟩
      | false =>
        have HE := Lib.hid (ofE_size HA.out hT)
        have HF := Lib.hid (ofA_e (n := k) (by rw [HE.out]; decide))
        cases hs : isN (wrap64 l) with
        | true =>
          have f3 : (g != IntKind.u64.wrap (wrap64 l / 9223372036854775808)) = true := by simpa using w2' hT hs
          have HS := Lib.hid hs
          clear hb hl w1 w2' hT ht hs
          go_wp2_with (first | (go_at_call 153; (with_reducible refine (num_v (wrap64 l) _ HS.out).mono ?_); rintro e w' ⟨rfl, rfl⟩))
          exact bodyPost_ret (res_sum rfl _ _ w.heap.size (lS (.int .i64 0) (.float .f64 0) (.float .f64 0) (.int .i64 0) (.int .i64 0)) _ rfl rfl (KZ.out.1 _ List.mem_cons_self) rfl) rfl ⟨by rw [HE.out, HF.out]; rfl, KZ.out.2⟩
        | false =>
          have nu := number_c (wrap64 l) (w.alloc (.cells #[.int .i64 0, .float .f64 0, .float .f64 0, .int .i64 0, .int .i64 0] 87))
          have HNU : Hid (decide (-4611686018427387903 ≤ wrap64 l ∧ wrap64 l ≤ 4611686018427387903) = false) := Lib.hid hs
          rw [HNU.out] at nu
          have HNU2 := Lib.hid nu
          clear hb hl w1 w2' hT ht hs nu
          go_wp2_with (first | (go_at_call 153; (with_reducible refine (HNU2.out).mono ?_); rintro e w' ⟨rfl, rfl⟩))
          all_goals exact bodyPost_ret (res_sum rfl _ _ w.heap.size (lS (.int .i64 0) (.float .f64 0) (.float .f64 0) (.int .i64 0) (.int .i64 0)) _ rfl rfl (KZ.out.1 _ List.mem_cons_self) rfl) rfl ⟨by rw [HE.out, HF.out]; rfl, KZ.out.2⟩
end Go.Proofs.YtbplgjocammnbaaGreat.Of
