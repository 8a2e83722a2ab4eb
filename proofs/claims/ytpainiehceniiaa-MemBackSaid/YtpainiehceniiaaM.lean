/- Words on memory: what of a world has turned, block by block. No program. -/
import Derived.WalkKit
import Derived.Deep.Onto
namespace Go.Proofs.Ytpainiehceniiaa
open Go.RowKit

/-- W' is W, but for the blocks of F and for new ones. -/
structure Chg (F : Nat → Prop) (W W' : World) : Prop where
  os : W'.os = W.os
  tape : W'.tape = W.tape
  output : W'.output = W.output
  size : W.heap.size ≤ W'.heap.size
  block : ∀ k, k < W.heap.size → ¬ F k → W'.heap[k]? = W.heap[k]?

theorem Chg.refl (F : Nat → Prop) (W : World) : Chg F W W := ⟨rfl, rfl, rfl, Nat.le_refl _, fun _ _ _ => rfl⟩
theorem Chg.mono {F G : Nat → Prop} {W W' : World} (h : Chg F W W') (hg : ∀ k, k < W.heap.size → F k → G k) : Chg G W W' := ⟨h.os, h.tape, h.output, h.size, fun k hk hn => h.block k hk fun hf => hn (hg k hk hf)⟩
theorem Chg.trans {F G : Nat → Prop} {W W1 W2 : World} (h : Chg F W W1) (h2 : Chg G W1 W2) (hg : ∀ k, k < W.heap.size → G k → F k) : Chg F W W2 :=
  ⟨h2.os.trans h.os, h2.tape.trans h.tape, h2.output.trans h.output, Nat.le_trans h.size h2.size, fun k hk hn => (h2.block k (Nat.lt_of_lt_of_le hk h.size) fun h3 => hn (hg k hk h3)).trans (h.block k hk hn)⟩
theorem Chg.of_below {F : Nat → Prop} {W W' : World} {B : Nat} (h : Below B W W') (hf : ∀ k, B ≤ k → k < W.heap.size → F k) : Chg F W W' :=
  ⟨h.os, h.tape, h.output, h.size, fun k hk hn => h.block k (Nat.lt_of_not_le fun hb => hn (hf k hb hk))⟩
theorem Chg.below {F : Nat → Prop} {W W' : World} {B : Nat} (h : Chg F W W') (hB : B ≤ W.heap.size) (hf : ∀ k, k < B → ¬ F k) : Below B W W' :=
  ⟨h.os, h.tape, h.output, h.size, fun k hk => h.block k (Nat.lt_of_lt_of_le hk hB) (hf k hk)⟩
theorem Chg.alloc {F : Nat → Prop} {W W' : World} (h : Chg F W W') (o : Obj) : Chg F W (W'.alloc o) :=
  h.trans (G := fun _ => False) ⟨rfl, rfl, rfl, by simp, fun k hk _ => Below.heap_alloc _ _ _ hk⟩ (fun _ _ h => h.elim)
theorem Chg.drew {F : Nat → Prop} {W W' : World} (h : Chg F W W') : Chg F W W'.drew := ⟨h.os, h.tape, h.output, h.size, h.block⟩
theorem Chg.setCell {F : Nat → Prop} {W W' : World} (h : Chg F W W') {p : Addr} (hp : p.block < W.heap.size → F p.block) (u : Value) : Chg F W (W'.setCell p u) :=
  h.trans (G := fun k => k = p.block) ⟨rfl, rfl, rfl, by simp [World.setCell], fun k _ hn => Below.heap_setCell _ _ _ _ hn⟩ (fun k hk e => by subst e; exact hp hk)
theorem Chg.grown {F : Nat → Prop} {W W1 W2 : World} {row : Option Nat} (h : Chg F W W1) (hg : W1.grownBy W2 row) (hr : ∀ k, row = some k → k < W.heap.size → F k) : Chg F W W2 :=
  h.trans (G := fun k => some k = row) ⟨hg.os, hg.tape, hg.output, hg.size, fun k hk hn => hg.block k hk hn⟩ (fun k hk e => hr k e.symm hk)
theorem Chg.of_grown {W W' : World} {row : Option Nat} (hg : W.grownBy W' row) : Chg (fun k => some k = row) W W' := ⟨hg.os, hg.tape, hg.output, hg.size, fun k hk hn => hg.block k hk hn⟩

theorem Chg.row {F : Nat → Prop} {W W' : World} {b : Nat} {e : TypeId} {size : Nat} {v : Value} {n : Nat} {xs : List Value} (h : Chg F W W') (hr : W.ownsRow b e size v n xs) (hn : ∀ k, v.ownBlock = some k → ¬ F k) : W'.ownsRow b e size v n xs := by
  refine ⟨hr.1, ?_⟩
  rcases hr.2 with h2 | ⟨g, cap, cur, rfl, h3, h4, h5⟩
  · exact .inl h2
  · exact .inr ⟨g, cap, cur, rfl, h3, (h.block g (Array.getElem?_eq_some_iff.1 h4).1 (hn g rfl)).trans h4, h5⟩
theorem Chg.at {F : Nat → Prop} {W W' : World} {k : Nat} {o : Obj} (h : Chg F W W') (ho : W.heap[k]? = some o) (hn : ¬ F k) : W'.heap[k]? = some o :=
  (h.block k (Array.getElem?_eq_some_iff.1 ho).1 hn).trans ho
theorem heap_lt {W : World} {k : Nat} {o : Obj} (ho : W.heap[k]? = some o) : k < W.heap.size := (Array.getElem?_eq_some_iff.1 ho).1
theorem row_lt {W : World} {b : Nat} {e : TypeId} {size : Nat} {v : Value} {n : Nat} {xs : List Value} (hr : W.ownsRow b e size v n xs) {k : Nat} (hk : v.ownBlock = some k) : b ≤ k ∧ k < W.heap.size := hr.lt k hk
/-- a block of another element type is not the row. -/
theorem row_ne {W : World} {b : Nat} {e t : TypeId} {size : Nat} {v : Value} {n : Nat} {xs : List Value} {p : Nat} {cs : Array Value} {fr : Nat × Nat} (hr : W.ownsRow b e size v n xs) (hp : W.heap[p]? = some (.cells cs t fr)) (ht : t ≠ e) : v.ownBlock ≠ some p := by
  intro hk
  rcases hr.2 with ⟨rfl, _⟩ | ⟨g, cap, cur, rfl, _, h4, _⟩
  · simp [Value.ownBlock] at hk
  · obtain rfl : g = p := by simpa [Value.ownBlock] using hk
    rw [hp] at h4
    injection h4 with h4
    injection h4 with _ h5
    exact ht h5
theorem cells_cell {W : World} {p o : Nat} {cs : Array Value} {t : TypeId} {fr : Nat × Nat} {v : Value} (hp : W.heap[p]? = some (.cells cs t fr)) (hv : cs[o]? = some v) : W.cell? ⟨p, o, none⟩ = some v := by simp [World.cell?, hp, hv]
theorem cells_free {W : World} {p o : Nat} {cs : Array Value} {t : TypeId} (hp : W.heap[p]? = some (.cells cs t (0, 0))) : W.frozen? ⟨p, o, none⟩ = false := by simp [World.frozen?, hp]
theorem set_cells {W : World} {p o : Nat} {cs : Array Value} {t : TypeId} {fr : Nat × Nat} {v : Value} (hp : W.heap[p]? = some (.cells cs t fr)) : (W.setCell ⟨p, o, none⟩ v).heap[p]? = some (.cells (cs.setIfInBounds o v) t fr) := by
  obtain ⟨hlt, hk⟩ := Array.getElem?_eq_some_iff.1 hp
  show (W.heap.modify p _)[p]? = _
  rw [Array.getElem?_eq_getElem (by rw [Array.size_modify]; exact hlt), Array.getElem_modify_self, hk]
  rfl
theorem set_other {W : World} {p q o : Nat} {v : Value} {x : Option Obj} (hp : W.heap[q]? = x) (hn : q ≠ p) : (W.setCell ⟨p, o, none⟩ v).heap[q]? = x := by
  rw [Below.heap_setCell _ _ _ _ hn]; exact hp
end Go.Proofs.Ytpainiehceniiaa
