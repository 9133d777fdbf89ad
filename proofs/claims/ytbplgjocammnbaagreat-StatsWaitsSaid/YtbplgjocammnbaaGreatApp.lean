/- append of one element to a row of the call's own: what is known of the row and the world behind it. -/
import Derived.Test.YtbplgjocammnbaaGreatMem
import Derived.Maps.AppendAt
import Derived.OwnWalk
import Derived.RowKit3
namespace Go.Proofs.YtbplgjocammnbaaGreat.Mem
open Go.RowKit

/-- A row of the call's own. -/
def Own (w : World) (base : Nat) (e : TypeId) (size : Nat) (v : Value) (n : Nat) (l : List Value) : Prop := w.ownsRow base e size v n l
section
variable {w w' : World} {base n : Nat} {e : TypeId} {size : Nat} {v : Value} {l : List Value}
theorem Own.nil (w : World) (base : Nat) (e : TypeId) (size : Nat) : Own w base e size (.slice none 0 0) 0 [] := ⟨by simp, .inl ⟨rfl, rfl⟩⟩
theorem Own.base_le (h : Own w base e size v n l) (k : Nat) (hk : v.ownBlock = some k) : base ≤ k := (World.ownsRow.lt h k hk).1
theorem Own.lt (h : Own w base e size v n l) (k : Nat) (hk : v.ownBlock = some k) : k < w.heap.size := (World.ownsRow.lt h k hk).2
theorem Own.keep (h : Own w base e size v n l) (hb : Below w.heap.size w w') : Own w' base e size v n l := by
  refine ⟨h.1, ?_⟩
  rcases h.2 with h0 | ⟨g, cap, cur, rfl, hg, hh, h1, h2, h3, h4⟩
  · exact .inl h0
  · exact .inr ⟨g, cap, cur, rfl, hg, (hb.block g (Array.getElem?_eq_some_iff.1 hh).1).trans hh, h1, h2, h3, h4⟩
theorem Own.drewN (h : Own w base e size v n l) (k : Nat) : Own (w.drewN k) base e size v n l := h
/-- Its shape: a slice; where it has cells, at the head of a block that it has for itself. -/
theorem Own.form (h : Own w base e size v n l) : ∃ A c, v = .slice A n c ∧ n ≤ c ∧ (0 < n → ∃ g, A = some ⟨g, 0, none⟩ ∧ base ≤ g ∧ g < w.heap.size ∧ ∀ j u, l[j]? = some u → w.cell? ⟨g, j, none⟩ = some u) := by
  rcases h.2 with ⟨rfl, rfl⟩ | ⟨g, cap, cur, rfl, hg, hh, h1, h2, h3, h4⟩
  · exact ⟨none, 0, rfl, Nat.le_refl _, fun hp => absurd hp (by omega)⟩
  · refine ⟨_, cap, rfl, h1, fun _ => ⟨g, rfl, hg, (Array.getElem?_eq_some_iff.1 hh).1, fun j u hu => ?_⟩⟩
    have := World.ownsRow.cells h (g := g) rfl j u hu
    rwa [add_at] at this
theorem Own.ints {k : IntKind} {xs : List Int} (h : Own w base e 1 v n (nums k xs)) : ∃ A c, v = .slice A n c ∧ Ints w k A n xs := by
  obtain ⟨A, c, rfl, _, hf⟩ := h.form
  have hl : xs.length = n := by have := h.1; simp [nums] at this; exact this
  refine ⟨A, c, rfl, hl, fun hn => ?_⟩
  obtain ⟨g, rfl, _, _, hc⟩ := hf hn
  exact ⟨_, rfl, fun j x hx => by rw [add_at]; exact hc j _ (by simp [nums, hx])⟩
end
theorem one_int (k : IntKind) (x : Int) : ∀ u ∈ [Value.int k x], u.oneCell' = true := by intro u hu; simp at hu; subst hu; rfl
section
variable {P : Program} {ops : Array Oper} {rest : List Oper} {o : Oper} {a : Act} {Q : Exit → Act → World → Prop}
/-- append(v, x) behind 'at_builtin': the goal's world is W with the variadic's box. -/
theorem app_one {w0 W : World} (base : Nat) (hgd : o.guard = none) (s x : Operand) (t e : TypeId) (z : Value) (size bytes : Nat)
    (ho : o.op = .call { callee := .builtin .append, args := #[s, x], argTypes := #[t, t] })
    (ht : P.underlying t = some (.slice e)) (hinfo : (P.info? e).map (fun i => (i.zero, i.size, i.bytes)) = some (some z, size, bytes)) (hz : z.cells.size = size) (hs0 : 0 < size)
    (v : Value) (n : Nat) (l news : List Value) (hs : a.eval s = v) (hx : a.eval x = .slice (some ⟨W.heap.size, 0, none⟩) 1 1) (hn : news.length = size) (h1 : ∀ u ∈ news, u.oneCell' = true)
    (HO : Own W base e size v n l) (HB : Below base w0 W) (hbase : base ≤ W.heap.size) (hm : n + 1 ≤ maxLen) (hl : (n + 1) * bytes ≤ 140737488355328)
    (h : ∀ v1 w1, Own w1 base e size v1 (n + 1) (l ++ news) → Below base w0 w1 → W.grownBy w1 v.ownBlock → W.heap.size ≤ w1.heap.size → (v1.ownBlock = v.ownBlock ∨ ∃ b, v1.ownBlock = some b ∧ W.heap.size ≤ b) → wpList P ops Q rest (a.put o.dst v1) w1) :
    wpList P ops Q (o :: rest) a (W.alloc (.cells news.toArray e)) := by
  obtain ⟨i0, hi, hzz⟩ := Option.map_eq_some_iff.1 hinfo
  simp only [Prod.mk.injEq] at hzz
  obtain ⟨hz0, hz1, hz2⟩ := hzz
  refine wpList_append_own_at (W.alloc (.cells news.toArray e)) hgd s x t ho base e i0 z size bytes ht hi hz0 hz1 hz2 hz hs0 v n l hs (World.ownsRow.alloc HO _) ⟨W.heap.size, 0, none⟩ 1 1 news hx (by rw [hn]; omega)
    (fun j u hu => by rw [add_at]; exact (Blk.new W e news).cellv hu) h1 hm hl (by simp; omega) ?_
  intro v1 w1 hown hg _ hat
  refine h v1 w1 hown ((HB.alloc hbase _).grown hg (by simp; omega) (fun k hk => (World.ownsRow.lt HO k hk).1)) (World.grownBy.trans (World.grownBy_alloc W _ _) hg) (by have := hg.size; simp at this; omega) ?_
  rcases hat with hat | hat
  · exact .inl hat
  · exact .inr ⟨_, hat, by simp⟩
end
end Go.Proofs.YtbplgjocammnbaaGreat.Mem
