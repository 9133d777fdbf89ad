/- append of one element: in place, or into memory of its own; nothing else is written. Changes of some blocks alone. -/
import Derived.Test.YtbplgjocammnbaaGreatApp
import Derived.Test.YtbplgjocammnbaaGreatKeep
namespace Go.Proofs.YtbplgjocammnbaaGreat.Mem
open Go.RowKit
set_option linter.unusedVariables false
/-- All is as it was but for the blocks F, and new ones. -/
structure ChgS (F : Nat → Prop) (W W' : World) : Prop where
  size : W.heap.size ≤ W'.heap.size
  keep : ∀ b, b < W.heap.size → ¬ F b → W'.heap[b]? = W.heap[b]?
  os : W'.os = W.os
  tape : W'.tape = W.tape
  output : W'.output = W.output
section
variable {F G : Nat → Prop} {W W' W'' : World}
theorem ChgS.refl (F : Nat → Prop) (W : World) : ChgS F W W := ⟨Nat.le_refl _, fun _ _ _ => rfl, rfl, rfl, rfl⟩
theorem ChgS.of_below (h : Below W.heap.size W W') : ChgS F W W' := ⟨h.size, fun b hb _ => h.block b hb, h.os, h.tape, h.output⟩
theorem ChgS.trans (h : ChgS F W W') (k : ChgS F W' W'') : ChgS F W W'' :=
  ⟨Nat.le_trans h.size k.size, fun b hb hF => (k.keep b (Nat.lt_of_lt_of_le hb h.size) hF).trans (h.keep b hb hF), k.os.trans h.os, k.tape.trans h.tape, k.output.trans h.output⟩
theorem ChgS.more (h : ChgS F W W') (hF : ∀ b, F b → G b) : ChgS G W W' := ⟨h.size, fun b hb hG => h.keep b hb fun x => hG (hF b x), h.os, h.tape, h.output⟩
theorem ChgS.then (h : ChgS F W W') (k : ChgS G W' W'') (hF : ∀ b, G b → F b ∨ W.heap.size ≤ b) : ChgS F W W'' :=
  ⟨Nat.le_trans h.size k.size, fun b hb hn => (k.keep b (Nat.lt_of_lt_of_le hb h.size) fun x => by
    rcases hF b x with y | y
    · exact hn y
    · omega).trans (h.keep b hb hn), k.os.trans h.os, k.tape.trans h.tape, k.output.trans h.output⟩
theorem ChgS.set {p : Addr} (v : Value) (hp : F p.block) : ChgS F W (W.setCell p v) :=
  ⟨by simp [World.setCell], fun b hb hF => Below.heap_setCell W p v b (fun e => hF (e ▸ hp)), rfl, rfl, rfl⟩
theorem ChgS.drew (h : ChgS F W W') : ChgS F W W'.drew := ⟨h.size, h.keep, h.os, h.tape, h.output⟩
theorem ChgS.cell (h : ChgS F W W') {a : Addr} {x : Value} (hc : W.cell? a = some x) (hF : ¬ F a.block) : W'.cell? a = some x :=
  (World.cell?_of_block (h.keep a.block (World.block_lt_of_cell? W a hc) hF)).trans hc
theorem ChgS.blk (h : ChgS F W W') {g : Nat} {t : TypeId} {l : List Value} (hb : Blk W g t l) (hF : ¬ F g) : Blk W' g t l := (h.keep g hb.lt hF).trans hb
theorem ChgS.grown {row : Option Nat} (h : W.grownBy W' row) (hF : ∀ b, row = some b → F b) : ChgS F W W' :=
  ⟨h.size, fun b hb hn => h.block b hb fun e => hn (hF b e.symm), h.os, h.tape, h.output⟩
end
theorem own_at {W W' : World} {B : Nat} {e : TypeId} {s n : Nat} {v : Value} {l : List Value} (h : Own W B e s v n l) (hk : ∀ b, v.ownBlock = some b → W'.heap[b]? = W.heap[b]?) : Own W' B e s v n l := by
  refine ⟨h.1, ?_⟩
  rcases h.2 with h0 | ⟨b, cap, cur, rfl, hb, hh, h1, h2, h3, h4⟩
  · exact .inl h0
  · exact .inr ⟨b, cap, cur, rfl, hb, (hk b rfl).trans hh, h1, h2, h3, h4⟩
theorem Own.chg {F : Nat → Prop} {W W' : World} {B : Nat} {e : TypeId} {s n : Nat} {v : Value} {l : List Value} (h : Own W B e s v n l) (hc : ChgS F W W') (hF : ∀ b, v.ownBlock = some b → ¬ F b) : Own W' B e s v n l :=
  own_at h fun b hb => hc.keep b (h.lt b hb) (hF b hb)
/-- A store into a row of one's own. -/
theorem Own.put {W : World} {B : Nat} {e : TypeId} {s n g c : Nat} {l : List Value} (h : Own W B e s (.slice (some ⟨g, 0, none⟩) n c) n l) {i : Nat} (hi : i < l.length) (x : Value) :
    Own (W.setCell ⟨g, i, none⟩ x) B e s (.slice (some ⟨g, 0, none⟩) n c) n (l.set i x) := by
  refine ⟨by rw [List.length_set]; exact h.1, ?_⟩
  rcases h.2 with ⟨h0, _⟩ | ⟨b, cap, cur, e1, hb, hh, h1, h2, h3, h4⟩
  · cases h0
  · cases e1
    refine .inr ⟨g, c, cur.setIfInBounds i x, rfl, hb, by simp [World.setCell, Array.getElem?_modify, hh], h1, h2, by simpa using h3, ?_⟩
    rw [Array.toList_setIfInBounds, List.take_set, h4]
theorem Own.free {W : World} {B : Nat} {e : TypeId} {s n g c : Nat} {l : List Value} (h : Own W B e s (.slice (some ⟨g, 0, none⟩) n c) n l) (i : Nat) : W.frozen? ⟨g, i, none⟩ = false := by
  rcases h.2 with ⟨h0, _⟩ | ⟨b, cap, cur, e1, hb, hh, _⟩
  · cases h0
  · cases e1
    simp [World.frozen?, hh]
/-- A block that is known whole, as a row of one's own. -/
theorem Own.of_blk {W : World} {B g n : Nat} {e : TypeId} {l : List Value} (h : Blk W g e l) (hn : l.length = n) (hB : B ≤ g) (hm : n ≤ maxLen) : Own W B e 1 (.slice (some ⟨g, 0, none⟩) n n) n l :=
  ⟨by omega, .inr ⟨g, n, l.toArray, rfl, hB, h, Nat.le_refl _, hm, by simpa using hn, by simp [← hn]⟩⟩
/-- Its block's type. -/
theorem Own.kind {W : World} {B b : Nat} {e t : TypeId} {s n : Nat} {v : Value} {l c : List Value} (h : Own W B e s v n l) (hb : v.ownBlock = some b) (hk : Blk W b t c) : t = e := by
  rcases h.2 with ⟨rfl, _⟩ | ⟨g, cap, cur, rfl, _, hh, _⟩
  · cases hb
  · cases hb
    unfold Blk at hk
    rw [hk] at hh
    cases hh
    rfl
section
variable {P : Program}
theorem run_app_keep (w : World) (base : Nat) (t ty e : TypeId) (i : TypeInfo) (z : Value) (size bytes : Nat) (ht : P.underlying t = some (.slice e)) (hi : P.info? e = some i) (hz : i.zero = some z)
    (hsize : i.size = size) (hby : i.bytes = bytes) (hzs : z.cells.size = size) (hsz : 0 < size)
    (v : Value) (n : Nat) (xs : List Value) (hown : w.ownsRow base e size v n xs)
    (a : Addr) (m c : Nat) (news : List Value) (hl : news.length = m * size) (hnews : ∀ j u, news[j]? = some u → w.cell? (a.add j) = some u) (h1 : ∀ u ∈ news, u.oneCell' = true) (hm0 : 0 < m)
    (h63 : n + m ≤ maxLen) (hbytes : (n + m) * bytes ≤ 140737488355328) (hbase : base ≤ w.heap.size) :
    ∃ v' w', (Builtin.append_ #[t, t] ty #[v, .slice (some a) m c]).run P w = .ok v' w' ∧ w'.ownsRow base e size v' (n + m) (xs ++ news) ∧
      ((v'.ownBlock = v.ownBlock ∧ w.grownBy w' v.ownBlock) ∨ (v'.ownBlock = some w.heap.size ∧ w.grownBy w' none)) := by
  obtain ⟨v', w', hr, h2, h3, _, h5⟩ := run_append_own_at (P := P) w base t ty e i z size bytes ht hi hz hsize hby hzs hsz v n xs hown a m c news hl hnews h1 h63 hbytes hbase
  refine ⟨v', w', hr, h2, ?_⟩
  subst hsize
  have hown0 := hown
  rcases hown.2 with ⟨rfl, rfl⟩ | ⟨g, cap, cur, rfl, hbg, hg, hnc, hcm, hcs, htake⟩
  · rcases h5 with e | e
    · exact .inl ⟨e, h3⟩
    · exact .inr ⟨e, h3⟩
  · by_cases hroom : n + m ≤ cap
    · have hfit : n * i.size + news.length ≤ cur.size := by rw [hl, hcs, ← Nat.add_mul]; exact Nat.mul_le_mul_right _ hroom
      have hr2 := run_append_room (P := P) w t ty e i ht hi g n cap cur hg a m c news hl hnews h1 hroom hfit
      rw [hr] at hr2
      injection hr2 with e1 e2
      subst e1
      exact .inl ⟨rfl, h3⟩
    · have holds : ∀ j u, xs[j]? = some u → w.cell? ((⟨g, 0, none⟩ : Addr).add j) = some u := hown0.cells (g := g) rfl
      have hb2 : (n + m) * i.bytes ≤ 140737488355328 := by rw [hby]; exact hbytes
      have hs2 : ((n + m : Nat) : Int) ≤ 9223372036854775807 := by simp only [maxLen] at h63; omega
      have hr2 := run_append_grow (P := P) w t ty e i z ht hi hz ⟨g, 0, none⟩ n cap xs hown0.1 holds a m c news hl hnews (by omega) hs2 (growslice_fits (by omega) hb2)
      rw [hr] at hr2
      injection hr2 with e1 e2
      subst e1 e2
      exact .inr ⟨rfl, rfl, rfl, rfl, by simp, fun k hk _ => Below.heap_alloc w.drew _ k hk⟩
variable {ops : Array Oper} {rest : List Oper} {o : Oper} {a : Act} {Q : Exit → Act → World → Prop}
/-- append(v, x) behind 'at_builtin': the goal's world is W with the variadic's box. -/
theorem app_keep {W : World} (base : Nat) (hgd : o.guard = none) (s x : Operand) (t e : TypeId) (z : Value) (size bytes : Nat)
    (ho : o.op = .call { callee := .builtin .append, args := #[s, x], argTypes := #[t, t] })
    (ht : P.underlying t = some (.slice e)) (hinfo : (P.info? e).map (fun i => (i.zero, i.size, i.bytes)) = some (some z, size, bytes)) (hz : z.cells.size = size) (hs0 : 0 < size)
    (v : Value) (n : Nat) (l news : List Value) (hs : a.eval s = v) (hx : a.eval x = .slice (some ⟨W.heap.size, 0, none⟩) 1 1) (hn : news.length = size) (h1 : ∀ u ∈ news, u.oneCell' = true)
    (HO : Own W base e size v n l) (hbase : base ≤ W.heap.size) (hm : n + 1 ≤ maxLen) (hl : (n + 1) * bytes ≤ 140737488355328)
    (h : ∀ v1 w1, Own w1 base e size v1 (n + 1) (l ++ news) → W.heap.size ≤ w1.heap.size → ((v1.ownBlock = v.ownBlock ∧ W.grownBy w1 v.ownBlock) ∨ (∃ b, v1.ownBlock = some b ∧ W.heap.size ≤ b ∧ W.grownBy w1 none)) → wpList P ops Q rest (a.put o.dst v1) w1) :
    wpList P ops Q (o :: rest) a (W.alloc (.cells news.toArray e)) := by
  obtain ⟨i0, hi, hzz⟩ := Option.map_eq_some_iff.1 hinfo
  simp only [Prod.mk.injEq] at hzz
  obtain ⟨hz0, hz1, hz2⟩ := hzz
  obtain ⟨v1, w1, hr, h2, h5⟩ := run_app_keep (P := P) (W.alloc (.cells news.toArray e)) base t o.type e i0 z size bytes ht hi hz0 hz1 hz2 hz hs0 v n l (World.ownsRow.alloc HO _) ⟨W.heap.size, 0, none⟩ 1 1 news (by rw [hn]; omega)
    (fun j u hu => by rw [add_at]; exact (Blk.new W e news).cellv hu) h1 (by omega) hm hl (by simp; omega)
  refine wpList_plain hgd fun K hK => ?_
  unfold Oper.wp execOp
  simp only [ho, resolve, invoke, builtin, Sem.run_bind, Sem.run_pure, Result.andThen_ok, List.map_toArray, List.map_cons, List.map_nil, hs, hx, hr]
  refine hK _ _ (h v1 w1 h2 ?_ ?_)
  · rcases h5 with ⟨_, h5⟩ | ⟨_, h5⟩ <;> (have := h5.size; simp at this; omega)
  · rcases h5 with ⟨e, h5⟩ | ⟨e, h5⟩
    · exact .inl ⟨e, World.grownBy.trans (World.grownBy_alloc W _ _) h5⟩
    · exact .inr ⟨_, e, by simp, World.grownBy.trans (World.grownBy_alloc W _ _) h5⟩
end
theorem add_add (ad : Addr) (m j : Nat) : (ad.add m).add j = ad.add (m + j) := by
  unfold Addr.add
  by_cases h1 : m = 0 <;> by_cases h2 : j = 0 <;> simp [h1, h2, Nat.add_assoc]
open Go.Proofs.YtbplgjocammnbaaGreat.Keep
/-- A struct is read out of the middle of whatever. -/
theorem loads_at {P : Program} {t : TypeId} {w : World} {ad : Addr} {l s : List Value} {d : TypeDesc} (hu : P.underlying t = some d) (hd : d.isRow = true) (hi : (P.info? t).map (·.size) = some l.length) (h : ∀ i v, (l ++ s)[i]? = some v → w.cell? (ad.add i) = some v) :
    (LA t (.pointer (some ad))).run P w = .ok (.agg l.toArray) w := by
  have hl : (loadCells ad l.length).run P w = .ok l.toArray w :=
    run_loadCells_list (P := P) w ad l (fun j v hv => h j v (by rw [List.getElem?_append_left (List.getElem?_eq_some_iff.1 hv).1, hv]))
  unfold LA
  cases hq : P.info? t with
  | none => simp [hq] at hi
  | some i =>
    have hs : i.size = l.length := by simpa [hq] using hi
    have hagg : (isAgg t).run P w = .ok true w := by
      unfold isAgg
      rw [Sem.run_bind, run_underlying hu w]
      cases d <;> simp_all
    simp only [Instr.loadAt, Instr.sureAddr, Sem.run_bind, Sem.run_pure, Result.andThen_ok]
    simp [loadVar, Sem.run_bind, hagg, sizeOf, typeInfo, hq, hs, hl]
end Go.Proofs.YtbplgjocammnbaaGreat.Mem
