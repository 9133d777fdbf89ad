/- WeighAges: of two requests by one configuration at one tick that have a weight. -/
import Derived.Test.YtbpdfcllojaanaaTicks
import Derived.Test.YtbpdfcllojaanaaTypes2
namespace Go.Proofs.Ytbpdfcllojaanaa.Ages
open Go.RowKit Go.Proofs.Ytbpdfcllojaanaa.Aid Go.Proofs.Ytbpdfcllojaanaa.Mem Go.Proofs.Ytbpdfcllojaanaa.Types Go.Proofs.Ytbpdfcllojaanaa.Mays Go.Proofs.Ytbpdfcllojaanaa.Keep Go.Proofs.Ytbpdfcllojaanaa.Weight Go.Proofs.Ytbpdfcllojaanaa.Weights Go.Proofs.Ytbpdfcllojaanaa.Recs Go.Proofs.Ytbpdfcllojaanaa.GraphB Go.Proofs.Ytbpdfcllojaanaa.AliveW Go.Proofs.Ytbpdfcllojaanaa.Has Go.Proofs.Ytbpdfcllojaanaa.Ticks
set_option linter.unusedSimpArgs false
set_option linter.unusedVariables false
set_option maxRecDepth 100000
attribute [local go_sem ↓] Keep.load_cfg Weights.load_wai
abbrev fst (t : Two) : Wai := ⟨t.a_i0, t.a_i1, t.a_i2, t.a_i3, t.a_i4, t.a_i5, t.a_i6, t.a_i7, t.a_fx, t.a_fy, t.a_tx, t.a_ty, t.a_seats, t.a_classes, t.a_base, t.a_ttl, t.a_since, t.a_number⟩
abbrev snd (t : Two) : Wai := ⟨t.b_i0, t.b_i1, t.b_i2, t.b_i3, t.b_i4, t.b_i5, t.b_i6, t.b_i7, t.b_fx, t.b_fy, t.b_tx, t.b_ty, t.b_seats, t.b_classes, t.b_base, t.b_ttl, t.b_since, t.b_number⟩
abbrev ta (t : Two) : Array Value := #[.int .u8 t.a_i0, .int .u8 t.a_i1, .int .u8 t.a_i2, .int .u8 t.a_i3, .int .u8 t.a_i4, .int .u8 t.a_i5, .int .u8 t.a_i6, .int .u8 t.a_i7, .int .i16 t.a_fx, .int .i16 t.a_fy, .int .i16 t.a_tx, .int .i16 t.a_ty, .int .u8 t.a_seats, .int .u8 t.a_classes, .int .i64 t.a_base, .int .i64 t.a_ttl, .int .i64 t.a_since, .int .i64 t.a_number, .int .u8 t.b_i0, .int .u8 t.b_i1, .int .u8 t.b_i2, .int .u8 t.b_i3, .int .u8 t.b_i4, .int .u8 t.b_i5, .int .u8 t.b_i6, .int .u8 t.b_i7, .int .i16 t.b_fx, .int .i16 t.b_fy, .int .i16 t.b_tx, .int .i16 t.b_ty, .int .u8 t.b_seats, .int .u8 t.b_classes, .int .i64 t.b_base, .int .i64 t.b_ttl, .int .i64 t.b_since, .int .i64 t.b_number]
def KD (w0 W : World) (c : Cfg) (t : Two) : Prop := Has w0 [(w0.heap.size + 1, 48, (ta t).toList), (w0.heap.size, 34, (ca c).toList)] W
section
variable {w0 w w' : World} {c : Cfg} {t : Two}
theorem KD.start (w : World) (c : Cfg) (t : Two) : KD w ((w.alloc (.cells (ca c) 34)).alloc (.cells (ta t) 48)) c t := by
  have h := ((Has.nil w).new 34 (ca c).toList).new 48 (ta t).toList
  rw [size_alloc] at h
  exact h
theorem KD.keep (h : KD w0 w c t) (hb : Below w.heap.size w w') : KD w0 w' c t := Has.keep h hb
theorem KD.lc (h : KD w0 w c t) : (LA 34 (.pointer (some ⟨w0.heap.size, 0, none⟩))).run Try.prog w = .ok (.agg (ca c)) w :=
  Has.load (t' := 34) (l := (ca c).toList) (s := []) h Try.underlying34 rfl (by show _ = some 5; kernel_rfl) (by simp)
theorem KD.la (h : KD w0 w c t) : (LA 43 (.pointer (some ⟨w0.heap.size + 1, 0, none⟩))).run Try.prog w = .ok (.agg (xa (fst t))) w :=
  Has.load (t' := 48) (l := (xa (fst t)).toList) (s := (xa (snd t)).toList) h Try.underlying43 rfl (by show _ = some 18; kernel_rfl) (by simp)
theorem KD.lb (h : KD w0 w c t) : (LA 43 (.pointer (some ⟨w0.heap.size + 1, 18, none⟩))).run Try.prog w = .ok (.agg (xa (snd t))) w :=
  loads_at (l := (xa (snd t)).toList) (s := []) Try.underlying43 rfl (by show _ = some 18; kernel_rfl) (fun i v hv => by
    rw [Addr.add_mid]
    refine (Has.cell h (t := 48) (l := (ta t).toList) (by simp) (18 + i)).trans ?_
    show ((xa (fst t)).toList ++ (xa (snd t)).toList)[18 + i]? = some v
    rw [List.getElem?_append_right (by show 18 ≤ 18 + i; omega), show 18 + i - (xa (fst t)).toList.length = i from Nat.add_sub_cancel_left 18 i]
    simpa using hv)
theorem KD.c3 (h : KD w0 w c t) : w.cell? ⟨w0.heap.size, 3, none⟩ = some (.int .i64 c.ttl) := (Has.cell h (t := 34) (l := (ca c).toList) (by simp) 3).trans rfl
theorem KD.c4 (h : KD w0 w c t) : w.cell? ⟨w0.heap.size, 4, none⟩ = some (.int .i64 c.b) := (Has.cell h (t := 34) (l := (ca c).toList) (by simp) 4).trans rfl
theorem KD.a14 (h : KD w0 w c t) : w.cell? ⟨w0.heap.size + 1, 14, none⟩ = some (.int .i64 t.a_base) := (Has.cell h (t := 48) (l := (ta t).toList) (by simp) 14).trans rfl
theorem KD.a16 (h : KD w0 w c t) : w.cell? ⟨w0.heap.size + 1, 16, none⟩ = some (.int .i64 t.a_since) := (Has.cell h (t := 48) (l := (ta t).toList) (by simp) 16).trans rfl
theorem KD.b32 (h : KD w0 w c t) : w.cell? ⟨w0.heap.size + 1, 32, none⟩ = some (.int .i64 t.b_base) := (Has.cell h (t := 48) (l := (ta t).toList) (by simp) 32).trans rfl
theorem KD.b34 (h : KD w0 w c t) : w.cell? ⟨w0.heap.size + 1, 34, none⟩ = some (.int .i64 t.b_since) := (Has.cell h (t := 48) (l := (ta t).toList) (by simp) 34).trans rfl
theorem KD.bel (h : KD w0 w c t) : Below w0.heap.size w0 w := Has.bel h
end
theorem most_le {c : Cfg} {now : Int} {x : Wai} (h : wE c now x = 0) : wV c now x ≤ (c.ttl + 1) * (c.b + 1) ∧ (c.ttl + 1) * (c.b + 1) ≤ 1099513724929 := by
  obtain ⟨_, h2, h3, h4, h5, h6, h7, h8⟩ := wE_ok h
  have e1 : (now - x.since) * (c.b + 1) ≤ c.ttl * (c.b + 1) := Int.mul_le_mul_of_nonneg_right (by omega) (by omega)
  have e2 : (c.ttl + 1) * (c.b + 1) ≤ 1048577 * (c.b + 1) := Int.mul_le_mul_of_nonneg_right (by omega) (by omega)
  have e3 : (c.ttl + 1) * (c.b + 1) = c.ttl * (c.b + 1) + (c.b + 1) := by rw [Int.add_mul, Int.one_mul]
  omega
theorem older {c : Cfg} {now : Int} {x y : Wai} (hx : wE c now x = 0) (hy : wE c now y = 0) (h : x.since < y.since) : wV c now y < wV c now x := by
  obtain ⟨_, _, _, e1, b1, _, k1, _⟩ := wE_ok hx
  obtain ⟨_, _, _, e2, b2, _, k2, _⟩ := wE_ok hy
  have e3 : (now - y.since + 1) * (c.b + 1) ≤ (now - x.since) * (c.b + 1) := Int.mul_le_mul_of_nonneg_right (by omega) (by omega)
  rw [Int.add_mul, Int.one_mul] at e3
  omega
theorem same {c : Cfg} {now : Int} {x y : Wai} (hx : wE c now x = 0) (hy : wE c now y = 0) (h : x.since = y.since) : wV c now x - wV c now y = x.base - y.base := by
  obtain ⟨_, _, _, e1, b1, _, k1, _⟩ := wE_ok hx
  obtain ⟨_, _, _, e2, b2, _, k2, _⟩ := wE_ok hy
  rw [e1, e2, h]; omega
theorem bad_cfg {c : Cfg} {now : Int} {x : Wai} (h : cfgErr c = 160) : wE c now x = 160 := by
  have e : checkErr c (rq x) = 160 := by unfold checkErr; rw [if_neg (by rw [h]; decide)]
  unfold wE; rw [if_neg (by rw [e]; decide), e]
set_option maxHeartbeats 8000000 in
theorem bad_c (c : Cfg) (now : Int) (t : Two) (w : World) (n m e f cv : Int) (wa : (fst t).wf) (wb : (snd t).wf) (HN : Hid (wV c now (fst t) = n)) (HM : Hid (wV c now (snd t) = m)) (HE : Hid (wE c now (fst t) = e)) (HF : Hid (wE c now (snd t) = f)) (HC : Hid (cfgErr c = cv)) (he : (e == 160) = true) (hf : (f == 160) = true) (h1 : (e == 0) = false) (h1' : (e != 0) = true) (h2 : (f == 0) = false) (h2' : (f != 0) = true) (h3 : n = 0) (h4 : m = 0) (hc : (cv == 0) = false) :
    Calls Try.prog 5 #[c.val, .int .i64 now, t.val] w fun e w' => e = .returned (.bool true) ∧ Below w.heap.size w w' := by
  have k := KD.start w c t
  have lc := k.lc
  have la := k.la
  have lb := k.lb
  go_enter Try.func5, Try.ntmps5
  go_wp2_with (first | (go_at_call 15; with_reducible refine (w_v c now (fst t) _ wa n e HN HE).mono ?_; rintro r w1 ⟨rfl, hb⟩; replace k := KD.keep k hb; replace lc := KD.lc k; replace la := KD.la k; replace lb := KD.lb k; clear hb) | (go_at_call 15; with_reducible refine (w_v c now (snd t) _ wb m f HM HF).mono ?_; rintro r w1 ⟨rfl, hb⟩; replace k := KD.keep k hb; replace lc := KD.lc k; replace la := KD.la k; replace lb := KD.lb k; clear hb) | (go_at_call 17; with_reducible refine (alive_c _).mono ?_; rintro r w2 ⟨rfl, hb⟩; replace k := KD.keep k hb; replace lc := KD.lc k; replace la := KD.la k; replace lb := KD.lb k; clear hb; have q1 := KD.c3 k; have q2 := KD.c4 k; have q3 := KD.a14 k; have q4 := KD.a16 k; have q5 := KD.b32 k; have q6 := KD.b34 k) | (go_at_call 18; with_reducible refine (config_v c _ _ HC).mono ?_; rintro r w3 ⟨rfl, o, rfl⟩))
  go_ret
  exact ⟨rfl, kba (KD.bel k) _⟩
set_option maxHeartbeats 8000000 in
theorem bad_e (c : Cfg) (now : Int) (t : Two) (w : World) (n m e f cv : Int) (wa : (fst t).wf) (wb : (snd t).wf) (HN : Hid (wV c now (fst t) = n)) (HM : Hid (wV c now (snd t) = m)) (HE : Hid (wE c now (fst t) = e)) (HF : Hid (wE c now (snd t) = f)) (HC : Hid (cfgErr c = cv)) (h1 : (e == 0) = false) (h1' : (e != 0) = true) (h3 : (n == 0) = true) (h3' : (n != 0) = false) (h4 : (f == 0) = false) (h4' : (f != 0) = true) (h5 : (m == 0) = true) (h5' : (m != 0) = false) (hc : (cv == 0) = true) :
    Calls Try.prog 5 #[c.val, .int .i64 now, t.val] w fun e w' => e = .returned (.bool true) ∧ Below w.heap.size w w' := by
  have k := KD.start w c t
  have lc := k.lc
  have la := k.la
  have lb := k.lb
  go_enter Try.func5, Try.ntmps5
  go_wp2_with (first | (go_at_call 15; with_reducible refine (w_v c now (fst t) _ wa n e HN HE).mono ?_; rintro r w1 ⟨rfl, hb⟩; replace k := KD.keep k hb; replace lc := KD.lc k; replace la := KD.la k; replace lb := KD.lb k; clear hb) | (go_at_call 15; with_reducible refine (w_v c now (snd t) _ wb m f HM HF).mono ?_; rintro r w1 ⟨rfl, hb⟩; replace k := KD.keep k hb; replace lc := KD.lc k; replace la := KD.la k; replace lb := KD.lb k; clear hb) | (go_at_call 17; with_reducible refine (alive_c _).mono ?_; rintro r w2 ⟨rfl, hb⟩; replace k := KD.keep k hb; replace lc := KD.lc k; replace la := KD.la k; replace lb := KD.lb k; clear hb; have q1 := KD.c3 k; have q2 := KD.c4 k; have q3 := KD.a14 k; have q4 := KD.a16 k; have q5 := KD.b32 k; have q6 := KD.b34 k) | (go_at_call 18; with_reducible refine (config_v c _ _ HC).mono ?_; rintro r w3 ⟨rfl, o, rfl⟩))
  go_ret
  exact ⟨rfl, kba (KD.bel k) _⟩
set_option maxHeartbeats 8000000 in
theorem bad_e2 (c : Cfg) (now : Int) (t : Two) (w : World) (n m e f cv : Int) (wa : (fst t).wf) (wb : (snd t).wf) (HN : Hid (wV c now (fst t) = n)) (HM : Hid (wV c now (snd t) = m)) (HE : Hid (wE c now (fst t) = e)) (HF : Hid (wE c now (snd t) = f)) (HC : Hid (cfgErr c = cv)) (h1 : (e == 0) = false) (h1' : (e != 0) = true) (h3 : (n == 0) = true) (h3' : (n != 0) = false) (h4 : (f == 0) = true) (h4' : (f != 0) = false) (hc : (cv == 0) = true) :
    Calls Try.prog 5 #[c.val, .int .i64 now, t.val] w fun e w' => e = .returned (.bool true) ∧ Below w.heap.size w w' := by
  have k := KD.start w c t
  have lc := k.lc
  have la := k.la
  have lb := k.lb
  go_enter Try.func5, Try.ntmps5
  go_wp2_with (first | (go_at_call 15; with_reducible refine (w_v c now (fst t) _ wa n e HN HE).mono ?_; rintro r w1 ⟨rfl, hb⟩; replace k := KD.keep k hb; replace lc := KD.lc k; replace la := KD.la k; replace lb := KD.lb k; clear hb) | (go_at_call 15; with_reducible refine (w_v c now (snd t) _ wb m f HM HF).mono ?_; rintro r w1 ⟨rfl, hb⟩; replace k := KD.keep k hb; replace lc := KD.lc k; replace la := KD.la k; replace lb := KD.lb k; clear hb) | (go_at_call 17; with_reducible refine (alive_c _).mono ?_; rintro r w2 ⟨rfl, hb⟩; replace k := KD.keep k hb; replace lc := KD.lc k; replace la := KD.la k; replace lb := KD.lb k; clear hb; have q1 := KD.c3 k; have q2 := KD.c4 k; have q3 := KD.a14 k; have q4 := KD.a16 k; have q5 := KD.b32 k; have q6 := KD.b34 k) | (go_at_call 18; with_reducible refine (config_v c _ _ HC).mono ?_; rintro r w3 ⟨rfl, o, rfl⟩))
  go_ret
  exact ⟨rfl, kba (KD.bel k) _⟩
set_option maxHeartbeats 8000000 in
theorem bad_f (c : Cfg) (now : Int) (t : Two) (w : World) (n m e f cv : Int) (wa : (fst t).wf) (wb : (snd t).wf) (HN : Hid (wV c now (fst t) = n)) (HM : Hid (wV c now (snd t) = m)) (HE : Hid (wE c now (fst t) = e)) (HF : Hid (wE c now (snd t) = f)) (HC : Hid (cfgErr c = cv)) (h1 : (e == 0) = true) (h1' : (e != 0) = false) (h4 : (f == 0) = false) (h4' : (f != 0) = true) (h5 : (m == 0) = true) (h5' : (m != 0) = false) (hc : (cv == 0) = true) :
    Calls Try.prog 5 #[c.val, .int .i64 now, t.val] w fun e w' => e = .returned (.bool true) ∧ Below w.heap.size w w' := by
  have k := KD.start w c t
  have lc := k.lc
  have la := k.la
  have lb := k.lb
  go_enter Try.func5, Try.ntmps5
  go_wp2_with (first | (go_at_call 15; with_reducible refine (w_v c now (fst t) _ wa n e HN HE).mono ?_; rintro r w1 ⟨rfl, hb⟩; replace k := KD.keep k hb; replace lc := KD.lc k; replace la := KD.la k; replace lb := KD.lb k; clear hb) | (go_at_call 15; with_reducible refine (w_v c now (snd t) _ wb m f HM HF).mono ?_; rintro r w1 ⟨rfl, hb⟩; replace k := KD.keep k hb; replace lc := KD.lc k; replace la := KD.la k; replace lb := KD.lb k; clear hb) | (go_at_call 17; with_reducible refine (alive_c _).mono ?_; rintro r w2 ⟨rfl, hb⟩; replace k := KD.keep k hb; replace lc := KD.lc k; replace la := KD.la k; replace lb := KD.lb k; clear hb; have q1 := KD.c3 k; have q2 := KD.c4 k; have q3 := KD.a14 k; have q4 := KD.a16 k; have q5 := KD.b32 k; have q6 := KD.b34 k) | (go_at_call 18; with_reducible refine (config_v c _ _ HC).mono ?_; rintro r w3 ⟨rfl, o, rfl⟩))
  go_ret
  exact ⟨rfl, kba (KD.bel k) _⟩
set_option maxHeartbeats 8000000 in
theorem good_eq (c : Cfg) (now : Int) (t : Two) (w : World) (n m e f cv : Int) (wa : (fst t).wf) (wb : (snd t).wf) (HN : Hid (wV c now (fst t) = n)) (HM : Hid (wV c now (snd t) = m)) (HE : Hid (wE c now (fst t) = e)) (HF : Hid (wE c now (snd t) = f)) (HC : Hid (cfgErr c = cv)) (h1 : (e == 0) = true) (h1' : (e != 0) = false) (h4 : (f == 0) = true) (h4' : (f != 0) = false) (P : Int) (hP : (c.ttl + 1) * (c.b + 1) = P) (p1 : 1 ≤ n) (p2 : n ≤ P) (p3 : 1 ≤ m) (p4 : m ≤ P) (p5 : P ≤ 1099513724929) (t0 : 0 ≤ c.ttl) (t1 : c.ttl ≤ 1048576) (t2 : 0 ≤ c.b) (t3 : c.b ≤ 1048576) (t4 : 0 ≤ t.a_base) (t5 : t.a_base ≤ 1048576) (t6 : 0 ≤ t.b_base) (t7 : t.b_base ≤ 1048576) (hs : (t.a_since == t.b_since) = true) (hd : n - m = t.a_base - t.b_base) :
    Calls Try.prog 5 #[c.val, .int .i64 now, t.val] w fun e w' => e = .returned (.bool true) ∧ Below w.heap.size w w' := by
  have k := KD.start w c t
  have lc := k.lc
  have la := k.la
  have lb := k.lb
  go_enter Try.func5, Try.ntmps5
  go_wp2_with (first | (go_at_call 15; with_reducible refine (w_v c now (fst t) _ wa n e HN HE).mono ?_; rintro r w1 ⟨rfl, hb⟩; replace k := KD.keep k hb; replace lc := KD.lc k; replace la := KD.la k; replace lb := KD.lb k; clear hb) | (go_at_call 15; with_reducible refine (w_v c now (snd t) _ wb m f HM HF).mono ?_; rintro r w1 ⟨rfl, hb⟩; replace k := KD.keep k hb; replace lc := KD.lc k; replace la := KD.la k; replace lb := KD.lb k; clear hb) | (go_at_call 17; with_reducible refine (alive_c _).mono ?_; rintro r w2 ⟨rfl, hb⟩; replace k := KD.keep k hb; replace lc := KD.lc k; replace la := KD.la k; replace lb := KD.lb k; clear hb; have q1 := KD.c3 k; have q2 := KD.c4 k; have q3 := KD.a14 k; have q4 := KD.a16 k; have q5 := KD.b32 k; have q6 := KD.b34 k) | (go_at_call 18; with_reducible refine (config_v c _ _ HC).mono ?_; rintro r w3 ⟨rfl, o, rfl⟩))
  go_ret
  exact ⟨by simp [hd], KD.bel k⟩
set_option maxHeartbeats 8000000 in
theorem good_lt (c : Cfg) (now : Int) (t : Two) (w : World) (n m e f cv : Int) (wa : (fst t).wf) (wb : (snd t).wf) (HN : Hid (wV c now (fst t) = n)) (HM : Hid (wV c now (snd t) = m)) (HE : Hid (wE c now (fst t) = e)) (HF : Hid (wE c now (snd t) = f)) (HC : Hid (cfgErr c = cv)) (h1 : (e == 0) = true) (h1' : (e != 0) = false) (h4 : (f == 0) = true) (h4' : (f != 0) = false) (P : Int) (hP : (c.ttl + 1) * (c.b + 1) = P) (p1 : 1 ≤ n) (p2 : n ≤ P) (p3 : 1 ≤ m) (p4 : m ≤ P) (p5 : P ≤ 1099513724929) (t0 : 0 ≤ c.ttl) (t1 : c.ttl ≤ 1048576) (t2 : 0 ≤ c.b) (t3 : c.b ≤ 1048576) (t4 : 0 ≤ t.a_base) (t5 : t.a_base ≤ 1048576) (t6 : 0 ≤ t.b_base) (t7 : t.b_base ≤ 1048576) (hs : (t.a_since == t.b_since) = false) (hl : t.a_since < t.b_since) (hd : m < n) :
    Calls Try.prog 5 #[c.val, .int .i64 now, t.val] w fun e w' => e = .returned (.bool true) ∧ Below w.heap.size w w' := by
  have k := KD.start w c t
  have lc := k.lc
  have la := k.la
  have lb := k.lb
  go_enter Try.func5, Try.ntmps5
  go_wp2_with (first | (go_at_call 15; with_reducible refine (w_v c now (fst t) _ wa n e HN HE).mono ?_; rintro r w1 ⟨rfl, hb⟩; replace k := KD.keep k hb; replace lc := KD.lc k; replace la := KD.la k; replace lb := KD.lb k; clear hb) | (go_at_call 15; with_reducible refine (w_v c now (snd t) _ wb m f HM HF).mono ?_; rintro r w1 ⟨rfl, hb⟩; replace k := KD.keep k hb; replace lc := KD.lc k; replace la := KD.la k; replace lb := KD.lb k; clear hb) | (go_at_call 17; with_reducible refine (alive_c _).mono ?_; rintro r w2 ⟨rfl, hb⟩; replace k := KD.keep k hb; replace lc := KD.lc k; replace la := KD.la k; replace lb := KD.lb k; clear hb; have q1 := KD.c3 k; have q2 := KD.c4 k; have q3 := KD.a14 k; have q4 := KD.a16 k; have q5 := KD.b32 k; have q6 := KD.b34 k) | (go_at_call 18; with_reducible refine (config_v c _ _ HC).mono ?_; rintro r w3 ⟨rfl, o, rfl⟩))
  go_ret
  exact ⟨by simp [hl, hd], KD.bel k⟩
set_option maxHeartbeats 8000000 in
theorem good_gt (c : Cfg) (now : Int) (t : Two) (w : World) (n m e f cv : Int) (wa : (fst t).wf) (wb : (snd t).wf) (HN : Hid (wV c now (fst t) = n)) (HM : Hid (wV c now (snd t) = m)) (HE : Hid (wE c now (fst t) = e)) (HF : Hid (wE c now (snd t) = f)) (HC : Hid (cfgErr c = cv)) (h1 : (e == 0) = true) (h1' : (e != 0) = false) (h4 : (f == 0) = true) (h4' : (f != 0) = false) (P : Int) (hP : (c.ttl + 1) * (c.b + 1) = P) (p1 : 1 ≤ n) (p2 : n ≤ P) (p3 : 1 ≤ m) (p4 : m ≤ P) (p5 : P ≤ 1099513724929) (t0 : 0 ≤ c.ttl) (t1 : c.ttl ≤ 1048576) (t2 : 0 ≤ c.b) (t3 : c.b ≤ 1048576) (t4 : 0 ≤ t.a_base) (t5 : t.a_base ≤ 1048576) (t6 : 0 ≤ t.b_base) (t7 : t.b_base ≤ 1048576) (hs : (t.a_since == t.b_since) = false) (hl : t.b_since < t.a_since) (hd : n < m) :
    Calls Try.prog 5 #[c.val, .int .i64 now, t.val] w fun e w' => e = .returned (.bool true) ∧ Below w.heap.size w w' := by
  have k := KD.start w c t
  have lc := k.lc
  have la := k.la
  have lb := k.lb
  go_enter Try.func5, Try.ntmps5
  go_wp2_with (first | (go_at_call 15; with_reducible refine (w_v c now (fst t) _ wa n e HN HE).mono ?_; rintro r w1 ⟨rfl, hb⟩; replace k := KD.keep k hb; replace lc := KD.lc k; replace la := KD.la k; replace lb := KD.lb k; clear hb) | (go_at_call 15; with_reducible refine (w_v c now (snd t) _ wb m f HM HF).mono ?_; rintro r w1 ⟨rfl, hb⟩; replace k := KD.keep k hb; replace lc := KD.lc k; replace la := KD.la k; replace lb := KD.lb k; clear hb) | (go_at_call 17; with_reducible refine (alive_c _).mono ?_; rintro r w2 ⟨rfl, hb⟩; replace k := KD.keep k hb; replace lc := KD.lc k; replace la := KD.la k; replace lb := KD.lb k; clear hb; have q1 := KD.c3 k; have q2 := KD.c4 k; have q3 := KD.a14 k; have q4 := KD.a16 k; have q5 := KD.b32 k; have q6 := KD.b34 k) | (go_at_call 18; with_reducible refine (config_v c _ _ HC).mono ?_; rintro r w3 ⟨rfl, o, rfl⟩))
  go_ret
  exact ⟨by simp; omega, KD.bel k⟩
theorem two_wf {t : Two} (h : t.wf) : (fst t).wf ∧ (snd t).wf := ⟨⟨h.a_i0, h.a_i1, h.a_i2, h.a_i3, h.a_i4, h.a_i5, h.a_i6, h.a_i7, h.a_fx, h.a_fy, h.a_tx, h.a_ty, h.a_seats, h.a_classes, h.a_base, h.a_ttl, h.a_since, h.a_number⟩, ⟨h.b_i0, h.b_i1, h.b_i2, h.b_i3, h.b_i4, h.b_i5, h.b_i6, h.b_i7, h.b_fx, h.b_fy, h.b_tx, h.b_ty, h.b_seats, h.b_classes, h.b_base, h.b_ttl, h.b_since, h.b_number⟩⟩
theorem ages (c : Cfg) (now : Int) (t : Two) (w : World) (_ : c.wf) (_ : (Lit.int .i64 now).wf = true) (ht : t.wf) :
    Calls Try.prog 5 #[c.val, .int .i64 now, t.val] w fun e w' => e = .returned (.bool true) ∧ Below w.heap.size w w' := by
  obtain ⟨wa, wb⟩ := two_wf ht
  rcases cfgErr_or c with hc | hc
  · by_cases he : wE c now (fst t) = 0
    · by_cases hf : wE c now (snd t) = 0
      · obtain ⟨a1, a2⟩ := wV_bounds he
        obtain ⟨b1, b2⟩ := wV_bounds hf
        obtain ⟨m1, m2⟩ := most_le he
        obtain ⟨m3, m4⟩ := most_le hf
        obtain ⟨_, _, _, _, k5, k6, k7, k8⟩ := wE_ok he
        obtain ⟨_, j2, j3, _, _, _, j7, j8⟩ := wE_ok hf
        have t0 : 0 ≤ c.ttl := by omega
        have u1 : 0 ≤ t.a_base ∧ t.a_base ≤ c.b := k7
        have u2 : 0 ≤ t.b_base ∧ t.b_base ≤ c.b := j7
        rcases Int.lt_trichotomy t.a_since t.b_since with hs | hs | hs
        · exact good_lt c now t w _ _ _ _ _ wa wb (Lib.hid rfl) (Lib.hid rfl) (Lib.hid rfl) (Lib.hid rfl) (Lib.hid rfl) (by simp [he]) (by simp [he]) (by simp [hf]) (by simp [hf]) _ rfl a1 m1 b1 m3 m2 t0 (by omega) (by omega) (by omega) (by omega) (by omega) (by omega) (by omega) (by simp; omega) hs (older he hf hs)
        · exact good_eq c now t w _ _ _ _ _ wa wb (Lib.hid rfl) (Lib.hid rfl) (Lib.hid rfl) (Lib.hid rfl) (Lib.hid rfl) (by simp [he]) (by simp [he]) (by simp [hf]) (by simp [hf]) _ rfl a1 m1 b1 m3 m2 t0 (by omega) (by omega) (by omega) (by omega) (by omega) (by omega) (by omega) (by simp [hs]) (same he hf hs)
        · exact good_gt c now t w _ _ _ _ _ wa wb (Lib.hid rfl) (Lib.hid rfl) (Lib.hid rfl) (Lib.hid rfl) (Lib.hid rfl) (by simp [he]) (by simp [he]) (by simp [hf]) (by simp [hf]) _ rfl a1 m1 b1 m3 m2 t0 (by omega) (by omega) (by omega) (by omega) (by omega) (by omega) (by omega) (by simp; omega) hs (older hf he hs)
      · exact bad_f c now t w _ _ _ _ _ wa wb (Lib.hid rfl) (Lib.hid rfl) (Lib.hid rfl) (Lib.hid rfl) (Lib.hid rfl) (by simp [he]) (by simp [he]) (by simpa using hf) (by simpa using hf) (by simp [wV_zero hf]) (by simp [wV_zero hf]) (by simp [hc])
    · by_cases hf : wE c now (snd t) = 0
      · exact bad_e2 c now t w _ _ _ _ _ wa wb (Lib.hid rfl) (Lib.hid rfl) (Lib.hid rfl) (Lib.hid rfl) (Lib.hid rfl) (by simpa using he) (by simpa using he) (by simp [wV_zero he]) (by simp [wV_zero he]) (by simp [hf]) (by simp [hf]) (by simp [hc])
      · exact bad_e c now t w _ _ _ _ _ wa wb (Lib.hid rfl) (Lib.hid rfl) (Lib.hid rfl) (Lib.hid rfl) (Lib.hid rfl) (by simpa using he) (by simpa using he) (by simp [wV_zero he]) (by simp [wV_zero he]) (by simpa using hf) (by simpa using hf) (by simp [wV_zero hf]) (by simp [wV_zero hf]) (by simp [hc])
  · have e1 := bad_cfg (now := now) (x := fst t) hc
    have e2 := bad_cfg (now := now) (x := snd t) hc
    exact bad_c c now t w _ _ _ _ _ wa wb (Lib.hid rfl) (Lib.hid rfl) (Lib.hid rfl) (Lib.hid rfl) (Lib.hid rfl) (by simp [e1]) (by simp [e2]) (by simp [e1]) (by simp [e1]) (by simp [e2]) (by simp [e2]) (wV_zero (by rw [e1]; decide)) (wV_zero (by rw [e2]; decide)) (by simp [hc])
end Go.Proofs.Ytbpdfcllojaanaa.Ages
