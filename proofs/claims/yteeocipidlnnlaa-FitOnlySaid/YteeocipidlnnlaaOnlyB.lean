/- FitOnly: the plain law, and the join. -/
import Derived.Test.YteeocipidlnnlaaOnlyW
import Derived.Lib.Hide
namespace Go.Proofs.Yteeocipidlnnlaa.Only
open Go.RowKit Go.Proofs.Yteeocipidlnnlaa.Aid Go.Proofs.Yteeocipidlnnlaa.Mem Go.Proofs.Yteeocipidlnnlaa.Dist Go.Proofs.Yteeocipidlnnlaa.Types Go.Proofs.Yteeocipidlnnlaa.Fit Go.Proofs.Yteeocipidlnnlaa.Fits
set_option linter.unusedSimpArgs false
set_option linter.unusedVariables false
set_option maxRecDepth 100000
theorem i64_eq' (n : Int) : IntKind.i64.wrap n = (n + 9223372036854775808) % 18446744073709551616 - 9223372036854775808 := by
  have e : IntKind.i64.wrap n = if n % 18446744073709551616 ≥ 9223372036854775808 then n % 18446744073709551616 - 18446744073709551616 else n % 18446744073709551616 := by simp [IntKind.wrap, IntKind.signed, IntKind.bits]
  rw [e]; split <;> omega
theorem min4_le (a b c d : Int) : min4 a b c d ≤ a ∧ min4 a b c d ≤ b ∧ min4 a b c d ≤ c ∧ min4 a b c d ≤ d := by
  unfold min4; (repeat' split) <;> omega
theorem le_max4 (a b c d : Int) : a ≤ max4 a b c d ∧ b ≤ max4 a b c d ∧ c ≤ max4 a b c d ∧ d ≤ max4 a b c d := by
  unfold max4; (repeat' split) <;> omega
theorem dst_turn (a b c d : Int) : dst c d a b = dst a b c d := by unfold dst; omega
theorem dst_move (a b c d x y : Int) : dst (a + x) (b + y) (c + x) (d + y) = dst a b c d := by unfold dst; omega
theorem only (r : Req) (d : Drv) (o : Other) (w : World) (hr : r.wf) (hd : d.wf) (ho : o.wf) :
    Calls Try.prog 6 #[r.val, d.val, o.val] w fun e w' => e = .returned (.bool true) ∧ Below w.heap.size w w' := by
  have kr := Rok.of hr
  have kd := Dok.of hd
  have tx : S16 o.tx := bounds_i16 ho.tx
  have ty : S16 o.ty := bounds_i16 ho.ty
  have bx : S16 o.bx := bounds_i16 ho.bx
  have by_ : S16 o.by_ := bounds_i16 ho.by_
  have fx := kr.fx
  have fy := kr.fy
  have ax := kd.ax
  have ay := kd.ay
  unfold S16 at fx fy ax ay bx by_
  have w64 : ∀ x : Int, -100000 ≤ x → x ≤ 100000 → IntKind.i64.wrap x = x := fun x h1 h2 => by rw [i64_eq']; omega
  have w16 : ∀ x : Int, -32768 ≤ x → x ≤ 32767 → IntKind.i16.wrap x = x := fun x h1 h2 => by rw [i16_eq]; omega
  have mi := min4_le (r.fx + o.bx) (r.fy + o.by_) (d.ax + o.bx) (d.ay + o.by_)
  have ma := le_max4 (r.fx + o.bx) (r.fy + o.by_) (d.ax + o.bx) (d.ay + o.by_)
  have ks1 : Rok (⟨o.i0, o.i1, o.i2, o.i3, o.i4, o.i5, o.i6, o.i7, r.fx, r.fy, o.tx, o.ty, r.seats, r.classes, o.base, o.ttl⟩ : Req) := ⟨kr.fx, kr.fy, tx, ty, kr.seats, kr.classes⟩
  have ke1 : Dok (⟨o.j0, o.j1, o.j2, o.j3, o.j4, o.j5, o.j6, o.j7, d.ax, d.ay, d.seats, d.cls, d.radius⟩ : Drv) := ⟨kd.ax, kd.ay, kd.seats, kd.cls⟩
  have H1 : Hid (why (⟨o.i0, o.i1, o.i2, o.i3, o.i4, o.i5, o.i6, o.i7, r.fx, r.fy, o.tx, o.ty, r.seats, r.classes, o.base, o.ttl⟩ : Req) (⟨o.j0, o.j1, o.j2, o.j3, o.j4, o.j5, o.j6, o.j7, d.ax, d.ay, d.seats, d.cls, d.radius⟩ : Drv) = why r d) := Lib.hid rfl
  have ks2 : Rok (⟨o.i0, o.i1, o.i2, o.i3, o.i4, o.i5, o.i6, o.i7, d.ax, d.ay, o.tx, o.ty, r.seats, r.classes, o.base, o.ttl⟩ : Req) := ⟨kd.ax, kd.ay, tx, ty, kr.seats, kr.classes⟩
  have ke2 : Dok (⟨o.j0, o.j1, o.j2, o.j3, o.j4, o.j5, o.j6, o.j7, r.fx, r.fy, d.seats, d.cls, d.radius⟩ : Drv) := ⟨kr.fx, kr.fy, kd.seats, kd.cls⟩
  have H2 : Hid (why (⟨o.i0, o.i1, o.i2, o.i3, o.i4, o.i5, o.i6, o.i7, d.ax, d.ay, o.tx, o.ty, r.seats, r.classes, o.base, o.ttl⟩ : Req) (⟨o.j0, o.j1, o.j2, o.j3, o.j4, o.j5, o.j6, o.j7, r.fx, r.fy, d.seats, d.cls, d.radius⟩ : Drv) = why r d) := Lib.hid (by unfold why far noClass; dsimp only; rw [dst_turn])
  have c0 := w64 r.fx (by omega) (by omega)
  have c1 := w64 r.fy (by omega) (by omega)
  have c2 := w64 d.ax (by omega) (by omega)
  have c3 := w64 d.ay (by omega) (by omega)
  have c4 := w64 o.bx (by omega) (by omega)
  have c5 := w64 o.by_ (by omega) (by omega)
  have g0 := w64 (r.fx + o.bx) (by omega) (by omega)
  have g1 := w64 (r.fy + o.by_) (by omega) (by omega)
  have g2 := w64 (d.ax + o.bx) (by omega) (by omega)
  have g3 := w64 (d.ay + o.by_) (by omega) (by omega)
  by_cases m0 : min4 (r.fx + o.bx) (r.fy + o.by_) (d.ax + o.bx) (d.ay + o.by_) < -32768
  · exact only_out r d o _ w (Lib.hid rfl) kr kd ks1 ke1 H1 ks2 ke2 H2 c0 c1 c2 c3 c4 c5 g0 g1 g2 g3 (decide_eq_true m0)
  · by_cases m1 : 32767 < max4 (r.fx + o.bx) (r.fy + o.by_) (d.ax + o.bx) (d.ay + o.by_)
    · exact only_high r d o _ w (Lib.hid rfl) kr kd ks1 ke1 H1 ks2 ke2 H2 c0 c1 c2 c3 c4 c5 g0 g1 g2 g3 (decide_eq_false m0) (decide_eq_true m1)
    · have ks3 : Rok (⟨o.i0, o.i1, o.i2, o.i3, o.i4, o.i5, o.i6, o.i7, r.fx + o.bx, r.fy + o.by_, o.tx, o.ty, r.seats, r.classes, o.base, o.ttl⟩ : Req) := ⟨⟨by dsimp only; omega, by dsimp only; omega⟩, ⟨by dsimp only; omega, by dsimp only; omega⟩, tx, ty, kr.seats, kr.classes⟩
      have ke3 : Dok (⟨o.j0, o.j1, o.j2, o.j3, o.j4, o.j5, o.j6, o.j7, d.ax + o.bx, d.ay + o.by_, d.seats, d.cls, d.radius⟩ : Drv) := ⟨⟨by dsimp only; omega, by dsimp only; omega⟩, ⟨by dsimp only; omega, by dsimp only; omega⟩, kd.seats, kd.cls⟩
      have H3 : Hid (why (⟨o.i0, o.i1, o.i2, o.i3, o.i4, o.i5, o.i6, o.i7, r.fx + o.bx, r.fy + o.by_, o.tx, o.ty, r.seats, r.classes, o.base, o.ttl⟩ : Req) (⟨o.j0, o.j1, o.j2, o.j3, o.j4, o.j5, o.j6, o.j7, d.ax + o.bx, d.ay + o.by_, d.seats, d.cls, d.radius⟩ : Drv) = why r d) := Lib.hid (by unfold why far noClass; dsimp only; rw [dst_move])
      exact only_in r d o _ w (Lib.hid rfl) kr kd ks1 ke1 H1 ks2 ke2 H2 ks3 ke3 H3 c0 c1 c2 c3 c4 c5 g0 g1 g2 g3 (w16 _ (by omega) (by omega)) (w16 _ (by omega) (by omega)) (w16 _ (by omega) (by omega)) (w16 _ (by omega) (by omega)) (decide_eq_false m0) (decide_eq_false m1)
end Go.Proofs.Yteeocipidlnnlaa.Only
