/- WeighTicks: a tick more is worth B + 1 more, until the request's own time is over. -/
import Derived.Test.YtbpdfcllojaanaaAliveW
namespace Go.Proofs.Ytbpdfcllojaanaa.Ticks
open Go.RowKit Go.Proofs.Ytbpdfcllojaanaa.Aid Go.Proofs.Ytbpdfcllojaanaa.Mem Go.Proofs.Ytbpdfcllojaanaa.Types Go.Proofs.Ytbpdfcllojaanaa.Mays Go.Proofs.Ytbpdfcllojaanaa.Keep Go.Proofs.Ytbpdfcllojaanaa.Weight Go.Proofs.Ytbpdfcllojaanaa.Weights Go.Proofs.Ytbpdfcllojaanaa.GraphB Go.Proofs.Ytbpdfcllojaanaa.AliveW Go.Proofs.Ytbpdfcllojaanaa.Has
set_option linter.unusedSimpArgs false
set_option linter.unusedVariables false
set_option maxRecDepth 100000
attribute [local go_sem ↓] Keep.load_cfg Weights.load_wai
/-- The two parameters, boxed. -/
def KT (w0 W : World) (c : Cfg) (x : Wai) : Prop := Has w0 [(w0.heap.size + 1, 43, (xa x).toList), (w0.heap.size, 34, (ca c).toList)] W
section
variable {w0 w w' : World} {c : Cfg} {x : Wai}
theorem KT.start (w : World) (c : Cfg) (x : Wai) : KT w ((w.alloc (.cells (ca c) 34)).alloc (.cells (xa x) 43)) c x := by
  have h := ((Has.nil w).new 34 (ca c).toList).new 43 (xa x).toList
  rw [size_alloc] at h
  exact h
theorem KT.keep (h : KT w0 w c x) (hb : Below w.heap.size w w') : KT w0 w' c x := Has.keep h hb
theorem KT.lc (h : KT w0 w c x) : (LA 34 (.pointer (some ⟨w0.heap.size, 0, none⟩))).run Try.prog w = .ok (.agg (ca c)) w :=
  Has.load (t' := 34) (l := (ca c).toList) (s := []) h Try.underlying34 rfl (by show _ = some 5; kernel_rfl) (by simp)
theorem KT.lx (h : KT w0 w c x) : (LA 43 (.pointer (some ⟨w0.heap.size + 1, 0, none⟩))).run Try.prog w = .ok (.agg (xa x)) w :=
  Has.load (t' := 43) (l := (xa x).toList) (s := []) h Try.underlying43 rfl (by show _ = some 18; kernel_rfl) (by simp)
theorem KT.c4 (h : KT w0 w c x) : w.cell? ⟨w0.heap.size, 4, none⟩ = some (.int .i64 c.b) := (Has.cell h (t := 34) (l := (ca c).toList) (by simp) 4).trans rfl
theorem KT.x15 (h : KT w0 w c x) : w.cell? ⟨w0.heap.size + 1, 15, none⟩ = some (.int .i64 x.ttl) := (Has.cell h (t := 43) (l := (xa x).toList) (by simp) 15).trans rfl
theorem KT.x16 (h : KT w0 w c x) : w.cell? ⟨w0.heap.size + 1, 16, none⟩ = some (.int .i64 x.since) := (Has.cell h (t := 43) (l := (xa x).toList) (by simp) 16).trans rfl
theorem KT.bel (h : KT w0 w c x) : Below w0.heap.size w0 w := Has.bel h
end
theorem wE_ok {c : Cfg} {now : Int} {x : Wai} (h : wE c now x = 0) : checkErr c (rq x) = 0 ∧ (0 ≤ now ∧ now ≤ 1099511627776 ∧ 0 ≤ x.since ∧ x.since ≤ 1099511627776 ∧ x.since ≤ now) ∧ now - x.since ≤ x.ttl ∧ wV c now x = (now - x.since) * (c.b + 1) + x.base + 1 ∧ (1 ≤ c.b ∧ c.b ≤ 1048576) ∧ c.ttl ≤ 1048576 ∧ (0 ≤ x.base ∧ x.base ≤ c.b) ∧ x.ttl ≤ c.ttl := by
  unfold wE at h
  split at h
  · next h1 =>
    split at h
    · next h2 =>
      split at h
      · next h3 =>
        obtain ⟨k1, k2, k3, k4⟩ := checkErr_ok h1
        exact ⟨h1, h2, h3, if_pos ⟨h1, h2, h3⟩, k1, k2, k3, k4⟩
      · omega
    · omega
  · next h1 => exact absurd h h1
theorem wV_zero {c : Cfg} {now : Int} {x : Wai} (h : wE c now x ≠ 0) : wV c now x = 0 := by
  unfold wV
  refine if_neg fun ⟨h1, h2, h3⟩ => h ?_
  unfold wE
  rw [if_pos h1, if_pos h2, if_pos h3]
theorem wV_bounds {c : Cfg} {now : Int} {x : Wai} (h : wE c now x = 0) : 1 ≤ wV c now x ∧ wV c now x ≤ 1099513724929 := by
  obtain ⟨_, h2, h3, h4, h5, h6, h7, h8⟩ := wE_ok h
  have := age_bound (a := now - x.since) (t := x.ttl) (b := c.b) (by omega) h3 (by omega) (by omega) (by omega)
  omega
theorem wV_next {c : Cfg} {now : Int} {x : Wai} (h : wE c now x = 0) (hn : now < 1099511627776) :
    (x.ttl < now + 1 - x.since → wV c (now + 1) x = 0 ∧ wE c (now + 1) x = 131) ∧ (now + 1 - x.since ≤ x.ttl → wV c (now + 1) x = wV c now x + c.b + 1 ∧ wE c (now + 1) x = 0) := by
  obtain ⟨h1, h2, h3, h4, h5, h6, h7, h8⟩ := wE_ok h
  constructor
  · intro h9
    have e : wE c (now + 1) x = 131 := by unfold wE; rw [if_pos h1, if_pos (by omega), if_neg (by omega)]
    exact ⟨wV_zero (by rw [e]; decide), e⟩
  · intro h9
    have e : wE c (now + 1) x = 0 := by unfold wE; rw [if_pos h1, if_pos (by omega), if_pos (by omega)]
    refine ⟨?_, e⟩
    rw [h4, (wE_ok e).2.2.2.1, show now + 1 - x.since = (now - x.since) + 1 by omega, Int.add_mul, Int.one_mul]
    omega
set_option maxHeartbeats 8000000 in
theorem ticks (c : Cfg) (now : Int) (x : Wai) (w : World) (_ : c.wf) (hnow : (Lit.int .i64 now).wf = true) (hx : x.wf) :
    Calls Try.prog 6 #[c.val, .int .i64 now, x.val] w fun e w' => e = .returned (.bool true) ∧ Below w.heap.size w w' := by
  obtain ⟨n1, n2⟩ := wf64 hnow
  have k := KT.start w c x
  have lc := k.lc
  have lx := k.lx
  obtain ⟨n, hn⟩ : ∃ n, wV c now x = n := ⟨_, rfl⟩
  have HN := Lib.hid hn
  by_cases he : wE c now x = 0
  · have HE := Lib.hid he
    obtain ⟨b1, b2⟩ := wV_bounds he
    obtain ⟨_, o2, o3, _, o5, o6, o7, o8⟩ := wE_ok he
    have nx := fun h => wV_next (c := c) (now := now) (x := x) he h
    rw [hn] at b1 b2
    clear hn
    by_cases hb : now < 1099511627776
    · obtain ⟨a1, a2⟩ := nx hb
      clear nx
      by_cases hg : x.ttl < now + 1 - x.since
      · obtain ⟨m1, m2⟩ := a1 hg
        have HM := Lib.hid m1
        have HF := Lib.hid m2
        clear a1 a2 m1 m2 he
        go_enter Try.func6, Try.ntmps6
        go_wp2_with (first | (go_at_call 15; with_reducible refine (w_v c (now + 1) x _ hx 0 131 HM HF).mono ?_; rintro r w1 ⟨rfl, hb⟩; replace k := KT.keep k hb; replace lc := KT.lc k; replace lx := KT.lx k; clear hb; have q1 := KT.c4 k; have q2 := KT.x15 k; have q3 := KT.x16 k) | (go_at_call 15; with_reducible refine (w_v c now x _ hx n 0 HN HE).mono ?_; rintro r w1 ⟨rfl, hb⟩; replace k := KT.keep k hb; replace lc := KT.lc k; replace lx := KT.lx k; clear hb) | (go_at_call 17; with_reducible refine (alive_c _).mono ?_; rintro r w2 ⟨rfl, hb⟩; replace k := KT.keep k hb; replace lc := KT.lc k; replace lx := KT.lx k; clear hb))
        go_ret
        exact ⟨rfl, KT.bel k⟩
      · have hg' : now + 1 - x.since ≤ x.ttl := by omega
        obtain ⟨m1, m2⟩ := a2 hg'
        rw [HN.out] at m1
        have HM := Lib.hid m1
        have HF := Lib.hid m2
        clear a1 a2 m1 m2 he hg
        go_enter Try.func6, Try.ntmps6
        go_wp2_with (first | (go_at_call 15; with_reducible refine (w_v c (now + 1) x _ hx (n + c.b + 1) 0 HM HF).mono ?_; rintro r w1 ⟨rfl, hb⟩; replace k := KT.keep k hb; replace lc := KT.lc k; replace lx := KT.lx k; clear hb; have q1 := KT.c4 k; have q2 := KT.x15 k; have q3 := KT.x16 k) | (go_at_call 15; with_reducible refine (w_v c now x _ hx n 0 HN HE).mono ?_; rintro r w1 ⟨rfl, hb⟩; replace k := KT.keep k hb; replace lc := KT.lc k; replace lx := KT.lx k; clear hb) | (go_at_call 17; with_reducible refine (alive_c _).mono ?_; rintro r w2 ⟨rfl, hb⟩; replace k := KT.keep k hb; replace lc := KT.lc k; replace lx := KT.lx k; clear hb))
        go_ret
        exact ⟨by simp, KT.bel k⟩
    · have hb' : 1099511627776 ≤ now := by omega
      clear nx he hb
      go_enter Try.func6, Try.ntmps6
      go_wp2_with (first | (go_at_call 15; with_reducible refine (w_v c now x _ hx n 0 HN HE).mono ?_; rintro r w1 ⟨rfl, hb⟩; replace k := KT.keep k hb; replace lc := KT.lc k; replace lx := KT.lx k; clear hb) | (go_at_call 17; with_reducible refine (alive_c _).mono ?_; rintro r w2 ⟨rfl, hb⟩; replace k := KT.keep k hb; replace lc := KT.lc k; replace lx := KT.lx k; clear hb))
      go_ret
      exact ⟨rfl, KT.bel k⟩
  · obtain ⟨e, hee⟩ : ∃ e, wE c now x = e := ⟨_, rfl⟩
    have HE := Lib.hid hee
    have HN0 := Lib.hid (wV_zero he)
    rw [hee] at he
    have he2 : (e == 0) = false := by simp [he]
    have he3 : (e != 0) = true := by simp [he]
    clear hee hn HN
    go_enter Try.func6, Try.ntmps6
    go_wp2_with (first | (go_at_call 15; with_reducible refine (w_v c now x _ hx 0 e HN0 HE).mono ?_; rintro r w1 ⟨rfl, hb⟩; replace k := KT.keep k hb; replace lc := KT.lc k; replace lx := KT.lx k; clear hb) | (go_at_call 17; with_reducible refine (alive_c _).mono ?_; rintro r w2 ⟨rfl, hb⟩; replace k := KT.keep k hb; replace lc := KT.lc k; replace lx := KT.lx k; clear hb))
    go_ret
    exact ⟨rfl, KT.bel k⟩
end Go.Proofs.Ytbpdfcllojaanaa.Ticks
