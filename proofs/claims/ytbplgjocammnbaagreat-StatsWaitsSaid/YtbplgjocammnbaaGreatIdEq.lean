/- Two ids of the same bytes are the same. -/
import Derived.Test.YtbplgjocammnbaaGreatRows
import Derived.ChangeKeysEq
import Derived.KernelRfl
namespace Go.Proofs.YtbplgjocammnbaaGreat.SameS
set_option maxRecDepth 100000
theorem u8_same (w : World) (d : Nat) (x : Int) : (Op.equalIn (d + 1) 5 (.int .u8 x) (.int .u8 x)).run Tryz.prog w = .ok true w := by
  have hu := Tryz.underlying5
  simp [Op.equalIn, Sem.run_bind, run_underlying hu]
theorem items_same (w : World) (d : Nat) (xs : Array Value) : ∀ is : List Nat, (∀ i ∈ is, ∃ x, xs[i * 1]? = some (.int .u8 x)) → (Op.eqItems (d + 1) 5 1 xs xs is).run Tryz.prog w = .ok true w
  | [], _ => by simp [Op.eqItems]
  | i :: is, h => by
    obtain ⟨x, hx⟩ := h i (by simp)
    have he : Tryz.prog.plainKey 5 = true := by kernel_rfl
    simp only [Op.eqItems, Sem.run_bind, run_part_plain w he hx, Result.andThen_ok, u8_same, Bool.not_true, Bool.false_eq_true, if_false]
    exact items_same w d xs is fun j hj => h j (by simp [hj])
theorem infoU8 : (Tryz.prog.info? 5).map (fun i => (i.zero, i.size, i.bytes)) = some (some (.int .u8 0), 1, 1) := by kernel_rfl
theorem id_same (w : World) (a b c d e f g h : Int) : (Op.equalIn 9998 74 (.agg #[.int .u8 a, .int .u8 b, .int .u8 c, .int .u8 d, .int .u8 e, .int .u8 f, .int .u8 g, .int .u8 h]) (.agg #[.int .u8 a, .int .u8 b, .int .u8 c, .int .u8 d, .int .u8 e, .int .u8 f, .int .u8 g, .int .u8 h])).run Tryz.prog w = .ok true w := by
  obtain ⟨i, hi, _⟩ := Option.map_eq_some_iff.1 infoU8
  rw [run_equalIn_array w 9997 _ _ Tryz.underlying74 hi, show Tryz.prog.cellsOf 5 = 1 by kernel_rfl]
  refine items_same w 9996 _ _ fun i hi => ?_
  have h8 : i < 8 := by simpa using hi
  match i, h8 with
  | 0, _ => exact ⟨a, rfl⟩
  | 1, _ => exact ⟨b, rfl⟩
  | 2, _ => exact ⟨c, rfl⟩
  | 3, _ => exact ⟨d, rfl⟩
  | 4, _ => exact ⟨e, rfl⟩
  | 5, _ => exact ⟨f, rfl⟩
  | 6, _ => exact ⟨g, rfl⟩
  | 7, _ => exact ⟨h, rfl⟩
  | i + 8, h => exact absurd h (by omega)
end Go.Proofs.YtbplgjocammnbaaGreat.SameS
