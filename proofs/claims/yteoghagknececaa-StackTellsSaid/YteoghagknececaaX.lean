/- StackTells. -/
import Derived.Test.YteoghagknececaaV
import Derived.Test.YteoghagknececaaL
import Derived.Test.YteoghagknececaaK
import Derived.Deep.RegionWith
import Derived.Deep.RegionHeld3
import Derived.Deep.DeepCutAuto
import Derived.Deep.CutBlock
namespace Go.Proofs.Yteoghagknececaa
open Go.RowKit Go.Proofs.YteoghagknececaaW.PrintWords Go.Proofs.YteoghagknececaaW.PrintMore
set_option linter.unusedVariables false
attribute [local go_sem] min2_int min_two

theorem hid {P : Prop} (h : P) : Hid P := h
/-- one operation, as it lies in memory. -/
structure OpAt (w : World) (x : Addr) (d n : Int) (X : Option Addr) (lx cx : Nat) (ys : List Int) : Prop where
  c0 : w.cell? x = some (.int .u8 d)
  c1 : w.cell? (x.add 1) = some (.int .i64 n)
  c2 : w.cell? (x.add 2) = some (.slice X lx cx)
  d0 : 0 ≤ d
  d1 : d ≤ 255
  n0 : -9223372036854775808 ≤ n
  n1 : n ≤ 9223372036854775807
  le : lx ≤ cx
  cm : cx ≤ 9223372036854775807
  len : ys.length = lx
  src : Src w X cx ys

theorem OpAt.not {w w' : World} {x : Addr} {d n : Int} {X : Option Addr} {lx cx : Nat} {ys : List Int} (h : OpAt w x d n X lx cx ys) (hc : Chg Not w w') : OpAt w' x d n X lx cx ys := by
  have hg : ∀ (y : Addr) (u : Value), w.cell? y = some u → w'.cell? y = some u := fun y u h4 => by
    have hlt : y.block < w.heap.size := by
      rcases Nat.lt_or_ge y.block w.heap.size with h' | h'
      · exact h'
      · unfold World.cell? at h4; rw [Array.getElem?_eq_none h'] at h4; cases h4
    unfold World.cell? at h4 ⊢
    rwa [hc.block _ hlt fun h => h]
  exact ⟨hg _ _ h.c0, hg _ _ h.c1, hg _ _ h.c2, h.d0, h.d1, h.n0, h.n1, h.le, h.cm, h.len, h.src.not hc⟩
abbrev boxOf (A2 : Option Addr) (c2 : Nat) (s : St) : Array Value := #[.slice A2 s.cells.length c2, .int .i64 s.most, .int .i32 s.over, .int .i32 s.under]
structure Run (W w : World) (pm p : Nat) (A A2 : Option Addr) (c c2 : Nat) (s sr : St) (bx : Array Value) : Prop where
  chg : Chg Not W w
  stk : Stk W.heap.size w p A c s
  rs : Rs W w A2 c2 sr
  base : W.heap.size ≤ pm
  box : w.heap[pm]? = some (.cells bx 30 (0, 0))
  apart : ∀ k, (Value.slice A2 0 0).ownBlock = some k → (Value.slice A 0 0).ownBlock ≠ some k

theorem Fine.push {s : St} (h : s.Fine) (ys : List Int) : (s.pushR ys).1.Fine := by
  unfold St.pushR; split
  · exact h
  · exact ⟨h.most1, h.most2, h.over, h.under, by show ((s.cells ++ ys).length : Int) ≤ s.most; rw [List.length_append]; omega⟩
theorem Fine.cut {s : St} (h : s.Fine) (n : Int) : (s.cutR n).1.Fine := by
  have := h.len
  unfold St.cutR; split
  · exact h
  · exact ⟨h.most1, h.most2, h.over, h.under, by show ((s.cells.take n.toNat).length : Int) ≤ s.most; rw [List.length_take]; omega⟩
theorem Fine.roll {s : St} (h : s.Fine) (n : Int) : (s.rollR n).1.Fine := by
  have := h.len
  unfold St.rollR; split
  · exact h
  · refine ⟨h.most1, h.most2, h.over, h.under, ?_⟩
    show ((rolled s.cells n.toNat).length : Int) ≤ s.most
    unfold rolled
    rw [List.length_append, List.length_eraseIdx, List.getElem?_eq_getElem (by omega)]
    show ((_ + 1 : Nat) : Int) ≤ _
    split <;> omega
theorem Fine.pop {s : St} (h : s.Fine) : s.popR.Fine := by
  have := h.len
  exact ⟨h.most1, h.most2, h.over, h.under, by show ((s.cells.dropLast).length : Int) ≤ s.most; rw [List.length_dropLast]; omega⟩

theorem pop_zero {s : St} {x : Int} (h : s.Fine) (hp : s.peekR 0 = (x, 0)) : 0 < s.cells.length ∧ s.cutR ((s.cells.length : Int) - 1) = (s.popR, 0) := by
  have := h.under
  unfold St.peekR at hp
  split at hp
  · injection hp with _ h2; omega
  · rename_i hc
    have h0 : 0 < s.cells.length := by omega
    refine ⟨h0, ?_⟩
    unfold St.cutR St.popR
    rw [if_neg (by omega), show ((s.cells.length : Int) - 1).toNat = s.cells.length - 1 by omega, List.dropLast_eq_take]
theorem pop_some {s : St} {x r : Int} (hp : s.peekR 0 = (x, r)) (hr : r ≠ 0) : s.popR = s := by
  unfold St.peekR at hp
  split at hp
  · rename_i hc
    have h0 : s.cells = [] := List.eq_nil_of_length_eq_zero (by omega)
    unfold St.popR
    rw [h0]
    cases s
    simp_all
  · injection hp with _ h2; exact absurd h2.symm hr

section
variable {W w w' : World} {pm p : Nat} {A A' A2 A2' : Option Addr} {c c' c2 c2' : Nat} {s s' sr sr' : St} {bx : Array Value}
theorem Run.ne2 (H : Run W w pm p A A2 c c2 s sr bx) {k : Nat} {t : TypeId} {cs : Array Value} {fr : Nat × Nat} (hk : w.heap[k]? = some (.cells cs t fr)) (ht : t ≠ 40) : (Value.slice A2 0 0).ownBlock ≠ some k := by
  have := row_ne H.rs.row hk ht
  rwa [own_block A2 _ _ 0 0] at this
theorem Run.ne1 (H : Run W w pm p A A2 c c2 s sr bx) {k : Nat} {t : TypeId} {cs : Array Value} {fr : Nat × Nat} (hk : w.heap[k]? = some (.cells cs t fr)) (ht : t ≠ 40) : (Value.slice A 0 0).ownBlock ≠ some k := by
  have := row_ne H.stk.row hk ht
  rwa [own_block A _ _ 0 0] at this
theorem Run.notFoot (H : Run W w pm p A A2 c c2 s sr bx) {k : Nat} {t : TypeId} {cs : Array Value} {fr : Nat × Nat} (hk : w.heap[k]? = some (.cells cs t fr)) (ht : t ≠ 40) (ht2 : t ≠ 54) : ¬ Foot p A k := by
  rintro (rfl | h)
  · have := H.stk.blk
    rw [this] at hk
    injection hk with hk
    injection hk with _ hk
    exact ht2 hk.symm
  · exact H.ne1 hk ht h
/-- a method of the stack was called. -/
theorem Run.op (H : Run W w pm p A A2 c c2 s sr bx) (h2 : Chg (Foot p A) w w') (h3 : Stk W.heap.size w' p A' c' s') (hat : At A' A w.heap.size) : Run W w' pm p A' A2 c' c2 s' sr bx where
  chg := H.chg.foot H.stk h2
  stk := h3
  rs := H.rs.chg h2 fun k hk => ⟨H.stk.new hk, fun h => by
    rcases hk with rfl | hk
    · exact H.ne2 H.stk.blk (by decide) h
    · exact H.apart k h hk⟩
  base := H.base
  box := h2.at H.box (H.notFoot H.box (by decide) (by decide))
  apart := fun k h h4 => by
    rcases hat with h5 | ⟨j, h5, h6⟩
    · exact H.apart k h (by rw [← h5]; exact h4)
    · rw [h5] at h4
      injection h4 with h4
      have := (row_lt H.rs.row (k := k) (by rwa [own_block A2 _ _ 0 0])).2
      omega
/-- a function of the document's answer was called. -/
theorem Run.rop (H : Run W w pm p A A2 c c2 s sr bx) (h2 : Chg (fun k => (Value.slice A2 0 0).ownBlock = some k) w w') (h3 : Rs W w' A2' c2' sr') (hat : ∀ k, (Value.slice A2' 0 0).ownBlock = some k → (Value.slice A2 0 0).ownBlock = some k ∨ w.heap.size ≤ k) : Run W w' pm p A A2' c c2' s sr' bx where
  chg := H.chg.trans h2 fun k hk h => by have := (row_lt H.rs.row (k := k) (by rwa [own_block A2 _ _ 0 0])).1; omega
  stk := H.stk.chg h2 fun k hk h => by
    rcases hk with rfl | hk
    · exact H.ne2 H.stk.blk (by decide) h
    · exact H.apart k h hk
  rs := h3
  base := H.base
  box := h2.at H.box fun h => H.ne2 H.box (by decide) h
  apart := fun k h h4 => by
    rcases hat k h with h5 | h5
    · exact H.apart k h5 h4
    · have := (row_lt H.stk.row (k := k) (by rwa [own_block A _ _ 0 0])).2
      omega
theorem Run.not (H : Run W w pm p A A2 c c2 s sr bx) (h : Chg Not w w') : Run W w' pm p A A2 c c2 s sr bx :=
  ⟨H.chg.not h, H.stk.not h, H.rs.not h, H.base, h.at H.box fun h => h, H.apart⟩
/-- the box is written. -/
theorem Run.put (H : Run W w pm p A A2 c c2 s sr bx) (h : Chg (fun k => k = pm) w w') {bx' : Array Value} (hb : w'.heap[pm]? = some (.cells bx' 30 (0, 0))) : Run W w' pm p A A2 c c2 s sr bx' where
  chg := H.chg.trans h fun k hk e => by have := H.base; omega
  stk := H.stk.chg h fun k hk e => by subst e; exact H.notFoot H.box (by decide) (by decide) hk
  rs := H.rs.chg h fun k e => by subst e; exact ⟨H.base, H.ne2 H.box (by decide)⟩
  base := H.base
  box := hb
  apart := H.apart
theorem Run.put4 {a0 a1 a2 a3 : Value} (H : Run W w pm p A A2 c c2 s sr #[a0, a1, a2, a3]) (x0 x1 x2 x3 : Value) :
    Run W ((((w.setCell ⟨pm, 0, none⟩ x0).setCell ⟨pm, 1, none⟩ x1).setCell ⟨pm, 2, none⟩ x2).setCell ⟨pm, 3, none⟩ x3) pm p A A2 c c2 s sr #[x0, x1, x2, x3] :=
  H.put (by
    refine Chg.setCell (F := fun k => k = pm) (p := ⟨pm, 3, none⟩) ?_ (fun _ => rfl) _
    refine Chg.setCell (F := fun k => k = pm) (p := ⟨pm, 2, none⟩) ?_ (fun _ => rfl) _
    refine Chg.setCell (F := fun k => k = pm) (p := ⟨pm, 1, none⟩) ?_ (fun _ => rfl) _
    exact Chg.setCell (F := fun k => k = pm) (p := ⟨pm, 0, none⟩) (Chg.refl _ _) (fun _ => rfl) _) (by rw [set_cells (set_cells (set_cells (set_cells H.box)))]; rfl)
theorem Run.put4_other (H : Run W w pm p A A2 c c2 s sr bx) {q : Nat} {cs : Array Value} {t : TypeId} {fr : Nat × Nat} (hq : w.heap[q]? = some (.cells cs t fr)) (ht : t ≠ 30) (x0 x1 x2 x3 : Value) :
    ((((w.setCell ⟨pm, 0, none⟩ x0).setCell ⟨pm, 1, none⟩ x1).setCell ⟨pm, 2, none⟩ x2).setCell ⟨pm, 3, none⟩ x3).heap[q]? = some (.cells cs t fr) := by
  have hn : q ≠ pm := by
    rintro rfl
    rw [H.box] at hq
    injection hq with hq
    injection hq with _ hq
    exact ht hq.symm
  exact set_other (set_other (set_other (set_other hq hn) hn) hn) hn
end

open PStackTells in
theorem rnew_ok (W : World) (most over under : Int) (h1 : 1 ≤ most) (h2 : most ≤ 4096) (h3 : over < 0) (h4 : under < 0) {B : Nat} (hB : B ≤ W.heap.size) :
    Calls Try.prog 10 #[.int .i64 most, .int .i32 over, .int .i32 under] W fun e W' => ∃ A c, e = .returned (.tuple #[agg A c ⟨[], most, over, under⟩, .int .i64 0]) ∧ rowOf B W' A c [] ∧ (∀ k, (Value.slice A 0 0).ownBlock = some k → W.heap.size ≤ k) ∧ Chg Not W W' := by
  have hv : lightshipref08_New.f most over under = some ([], most, over, under, 0) := by
    unfold lightshipref08_New.f
    rw [if_neg (by omega), if_neg (by omega), if_neg (by omega), if_neg (by omega)]
  refine (lightshipref08_New.calls most over under _ _ _ _ _ W hv).mono ?_
  rintro e w' ⟨v, rfl, hr, hb⟩
  obtain ⟨A, c, rfl, h5, h6⟩ := kdB (Kd.R_bound hr)
  exact ⟨A, c, rfl, own_less h5 hB, fun k hk => (h6 k hk).2.1, Chg.of_below hb (fun k h1 h2 => by omega)⟩
open PStackTells in
theorem rnew_bad (W : World) (most over under : Int) (h : most < 1 ∨ 4096 < most ∨ 0 ≤ over ∨ 0 ≤ under) :
    Calls Try.prog 10 #[.int .i64 most, .int .i32 over, .int .i32 under] W fun e W' => ∃ A c, e = .returned (.tuple #[agg A c ⟨[], 0, 0, 0⟩, .int .i64 2]) ∧ Chg Not W W' := by
  have hv : lightshipref08_New.f most over under = some ([], 0, 0, 0, 2) := by
    unfold lightshipref08_New.f
    repeat' split
    all_goals first | rfl | (exfalso; omega)
  refine (lightshipref08_New.calls most over under _ _ _ _ _ W hv).mono ?_
  rintro e w' ⟨v, rfl, hr, hb⟩
  obtain ⟨A, c, rfl, h5, h6⟩ := kdB (Kd.R_bound hr)
  exact ⟨A, c, rfl, Chg.of_below hb (fun k h1 h2 => by omega)⟩
theorem rpeek_len {W0 W : World} {A : Option Addr} {c ln : Nat} {s : St} {r x : Int} (hl : s.cells.length = ln) (h : Rs W0 W A c s) (hf : s.Fine) (i : Int) (hr : s.peekR i = (x, r)) :
    Calls Try.prog 16 #[.agg #[.slice A ln c, .int .i64 s.most, .int .i32 s.over, .int .i32 s.under], .int .i64 i] W fun e w' => e = .returned (.tuple #[.int .u32 x, .int .i32 r]) ∧ Chg Not W w' := by
  subst hl; exact rpeek_is h hf i hr
theorem rmay_len {W0 W : World} {A : Option Addr} {c ln : Nat} {s : St} {r : Int} (hl : s.cells.length = ln) (h : Rs W0 W A c s) (hf : s.Fine) (t g : Int) (ht : t ≤ 2 ^ 63 - 1) (hr : s.may t g = r) :
    Calls Try.prog 25 #[.agg #[.slice A ln c, .int .i64 s.most, .int .i32 s.over, .int .i32 s.under], .int .i64 t, .int .i64 g] W fun e w' => e = .returned (.int .i32 r) ∧ Chg Not W w' := by
  subst hl; exact rmay_is h hf t g ht hr
theorem len_ln {B : Nat} {W : World} {p : Nat} {A : Option Addr} {c ln : Nat} {s : St} (hl : s.cells.length = ln) (h : Stk B W p A c s) :
    Calls Try.prog 11 #[ptr p] W fun e W' => e = .returned (.int .i64 ln) ∧ W = W' := by
  subst hl; exact len_any h
-- PRE
section
variable {W w w' : World} {pm p : Nat} {A A2 : Option Addr} {c c2 ln : Nat} {s : St} {r x : Int}
theorem run_all (hl : Hid (s.cells.length = ln)) (H : Hid (Run W w pm p A A2 c c2 s s (boxOf A2 c2 s))) (h : Chg Not w w') : Hid (Run W w' pm p A A2 c c2 s s (boxOf A2 c2 s)) ∧ w'.cell? ⟨pm, 0, none⟩ = some (.slice A2 ln c2) ∧ w'.cell? ⟨pm, 1, none⟩ = some (.int .i64 s.most) ∧ w'.cell? ⟨pm, 2, none⟩ = some (.int .i32 s.over) ∧ w'.cell? ⟨pm, 3, none⟩ = some (.int .i32 s.under) := by
  have H2 := H.out.not h
  have b0 : w'.cell? ⟨pm, 0, none⟩ = some (.slice A2 s.cells.length c2) := cells_cell (o := 0) H2.box rfl
  rw [hl.out] at b0
  exact ⟨H2, b0, cells_cell H2.box rfl, cells_cell H2.box rfl, cells_cell H2.box rfl⟩
theorem run_All (hl : Hid (s.cells.length = ln)) (H : Hid (Run W w pm p A A2 c c2 s s (boxOf A2 c2 s)) ∧ w.cell? ⟨pm, 0, none⟩ = some (.slice A2 ln c2) ∧ w.cell? ⟨pm, 1, none⟩ = some (.int .i64 s.most) ∧ w.cell? ⟨pm, 2, none⟩ = some (.int .i32 s.over) ∧ w.cell? ⟨pm, 3, none⟩ = some (.int .i32 s.under)) :
    Calls Try.prog 23 #[ptr p] w fun e w' => ∃ A' c', e = .returned (.slice A' ln c') ∧ Hid (Src w' A' c' s.cells) ∧ Hid (Run W w' pm p A A2 c c2 s s (boxOf A2 c2 s)) ∧ w'.cell? ⟨pm, 0, none⟩ = some (.slice A2 ln c2) ∧ w'.cell? ⟨pm, 1, none⟩ = some (.int .i64 s.most) ∧ w'.cell? ⟨pm, 2, none⟩ = some (.int .i32 s.over) ∧ w'.cell? ⟨pm, 3, none⟩ = some (.int .i32 s.under) := by
  refine (all_is H.1.out.stk ln hl.out).mono ?_
  rintro e w8 ⟨A8, c8, rfl, h1, h2⟩
  exact ⟨A8, c8, rfl, Src.own h1, run_all hl H.1 h2⟩
theorem run_cells (hl : Hid (s.cells.length = ln)) (h5 : ln ≤ 5000) {A8 : Option Addr} {c8 : Nat} (S1 : Hid (Src w A8 c8 s.cells)) (H : Hid (Run W w pm p A A2 c c2 s s (boxOf A2 c2 s)) ∧ w.cell? ⟨pm, 0, none⟩ = some (.slice A2 ln c2) ∧ w.cell? ⟨pm, 1, none⟩ = some (.int .i64 s.most) ∧ w.cell? ⟨pm, 2, none⟩ = some (.int .i32 s.over) ∧ w.cell? ⟨pm, 3, none⟩ = some (.int .i32 s.under)) :
    Calls Try.prog 22 #[.slice A8 ln c8, .slice A2 ln c2] w fun e w' => e = .returned (.bool true) ∧ Hid (Run W w' pm p A A2 c c2 s s (boxOf A2 c2 s)) ∧ w'.cell? ⟨pm, 0, none⟩ = some (.slice A2 ln c2) ∧ w'.cell? ⟨pm, 1, none⟩ = some (.int .i64 s.most) ∧ w'.cell? ⟨pm, 2, none⟩ = some (.int .i32 s.over) ∧ w'.cell? ⟨pm, 3, none⟩ = some (.int .i32 s.under) := by
  refine (cells_is true S1.out H.1.out.rs.src hl.out hl.out (by omega) (by omega) (decide_eq_true rfl)).mono ?_
  rintro e w8 ⟨rfl, h2⟩
  exact ⟨rfl, run_all hl H.1 h2⟩
theorem run_len (hl : Hid (s.cells.length = ln)) (H : Hid (Run W w pm p A A2 c c2 s s (boxOf A2 c2 s)) ∧ w.cell? ⟨pm, 0, none⟩ = some (.slice A2 ln c2) ∧ w.cell? ⟨pm, 1, none⟩ = some (.int .i64 s.most) ∧ w.cell? ⟨pm, 2, none⟩ = some (.int .i32 s.over) ∧ w.cell? ⟨pm, 3, none⟩ = some (.int .i32 s.under)) :
    Calls Try.prog 11 #[ptr p] w fun e w' => e = .returned (.int .i64 ln) ∧ w = w' := len_ln hl.out H.1.out.stk
theorem run_may {tk gv : Int} (ht : tk ≤ 2 ^ 63 - 1) (hr : Hid (s.may tk gv = r)) (H : Hid (Run W w pm p A A2 c c2 s s (boxOf A2 c2 s)) ∧ w.cell? ⟨pm, 0, none⟩ = some (.slice A2 ln c2) ∧ w.cell? ⟨pm, 1, none⟩ = some (.int .i64 s.most) ∧ w.cell? ⟨pm, 2, none⟩ = some (.int .i32 s.over) ∧ w.cell? ⟨pm, 3, none⟩ = some (.int .i32 s.under)) :
    Calls Try.prog 24 #[ptr p, .int .i64 tk, .int .i64 gv] w fun e w' => e = .returned (.int .i32 r) ∧ w = w' := may_is H.1.out.stk tk gv r ht hr.out
theorem run_rmay {tk gv : Int} (hl : Hid (s.cells.length = ln)) (hf : Hid s.Fine) (ht : tk ≤ 2 ^ 63 - 1) (hr : Hid (s.may tk gv = r)) (H : Hid (Run W w pm p A A2 c c2 s s (boxOf A2 c2 s)) ∧ w.cell? ⟨pm, 0, none⟩ = some (.slice A2 ln c2) ∧ w.cell? ⟨pm, 1, none⟩ = some (.int .i64 s.most) ∧ w.cell? ⟨pm, 2, none⟩ = some (.int .i32 s.over) ∧ w.cell? ⟨pm, 3, none⟩ = some (.int .i32 s.under)) :
    Calls Try.prog 25 #[.agg #[.slice A2 ln c2, .int .i64 s.most, .int .i32 s.over, .int .i32 s.under], .int .i64 tk, .int .i64 gv] w fun e w' => e = .returned (.int .i32 r) ∧ Hid (Run W w' pm p A A2 c c2 s s (boxOf A2 c2 s)) ∧ w'.cell? ⟨pm, 0, none⟩ = some (.slice A2 ln c2) ∧ w'.cell? ⟨pm, 1, none⟩ = some (.int .i64 s.most) ∧ w'.cell? ⟨pm, 2, none⟩ = some (.int .i32 s.over) ∧ w'.cell? ⟨pm, 3, none⟩ = some (.int .i32 s.under) := by
  refine (rmay_len hl.out H.1.out.rs hf.out tk gv ht hr.out).mono ?_
  rintro e w8 ⟨rfl, h2⟩
  exact ⟨rfl, run_all hl H.1 h2⟩
end
-- PREEND
set_option maxHeartbeats 4000000 in
set_option maxRecDepth 100000 in
theorem tells_law (W : World) (most over under : Int) (a3 : Option Addr) (len3 cap3 : Nat) (tk gv : Int)
    (hl : len3 ≤ cap3) (hc : cap3 ≤ 9223372036854775807) (htk : tk ≤ 2 ^ 63 - 1)
    (hops : ∀ i, i < len3 → ∃ x d n X lx cx ys, a3 = some x ∧ OpAt W (x.add (i * 3)) d n X lx cx ys) :
    Calls Try.prog 3 #[.int .i64 most, .int .i32 over, .int .i32 under, .slice a3 len3 cap3, .int .i64 tk, .int .i64 gv] W fun e W' => e = .returned (.bool true) ∧ Chg Not W W' := by
  by_cases hbad : most < 1 ∨ 4096 < most ∨ 0 ≤ over ∨ 0 ≤ under
  · go_enter Try.func3, Try.ntmps3
    go_wp2_with fail
    refine (new_bad _ most over under hbad).mono ?_
    rintro e w' ⟨rfl, rfl⟩
    go_wp2_with fail
    refine (rnew_bad _ most over under hbad).mono ?_
    rintro e w2 ⟨A2, c2, rfl, h1⟩
    have C := hid h1
    clear h1
    go_wp2_with fail
    refine (len_nil _).mono ?_
    rintro e w3 ⟨rfl, rfl⟩
    go_wp2_with fail
    refine (awake_any _).mono ?_
    rintro e w4 ⟨rfl, h4⟩
    have C := hid ((C.out.alloc _).not h4)
    clear h4
    go_wp2
    go_ret
    exact ⟨rfl, C.out⟩
  · obtain ⟨k, hk⟩ : ∃ k : Nat, (k : Int) = min (len3 : Int) 100 := ⟨min len3 100, by omega⟩
    have hk1 : k ≤ len3 := by omega
    have hk2 : k ≤ 100 := by omega
    have hmn : (if 100 < (len3 : Int) then 100 else (len3 : Int)) = k := by split <;> omega
    clear hk
    have HO := hid hops
    clear hops
    have q1 : 1 ≤ most := by omega
    have q2 : most ≤ 4096 := by omega
    have q3 : over < 0 := by omega
    have q4 : under < 0 := by omega
    go_enter Try.func3, Try.ntmps3
    go_wp2_with fail
    refine (new_ok _ most over under q1 q2 q3 q4 (B := W.heap.size) (Nat.le_refl _)).mono ?_
    rintro e w' ⟨rfl, h1, h2⟩
    have H1 := hid h1
    have H2 := hid h2
    clear h1 h2
    go_wp2_with fail
    refine (rnew_ok _ most over under q1 q2 q3 q4 (B := W.heap.size) H2.out.size).mono ?_
    rintro e w2 ⟨A2, c2, rfl, h3, h4, h5⟩
    have H3 := hid h3
    have H4 := hid h4
    have H5 := hid h5
    clear h3 h4 h5
    go_wp2_with fail
    obtain ⟨pm, hpm⟩ : ∃ pm, w2.heap.size = pm := ⟨_, rfl⟩
    have HR0 : Hid (Run W (w2.alloc (.cells #[.slice A2 0 c2, .int .i64 most, .int .i32 over, .int .i32 under] 30)) pm W.heap.size none A2 0 c2 ⟨[], most, over, under⟩ ⟨[], most, over, under⟩ (boxOf A2 c2 ⟨[], most, over, under⟩)) :=
      { chg := ((H2.out.mono fun _ _ h => h).not H5.out).alloc _
        stk := (H1.out.not H5.out).not ((Chg.refl _ _).alloc _)
        rs := ⟨(((H2.out.mono fun _ _ h => h).not H5.out).alloc _).toBelow, (((Chg.refl Not _).alloc _).row H3.out fun _ _ h => h), Nat.zero_le _⟩
        base := by have a := H2.out.size; have b := H5.out.size; omega
        box := by rw [← hpm]; exact heap_alloc_new _ _
        apart := fun _ _ h => by cases h }
    have HF0 : Hid (St.Fine ⟨[], most, over, under⟩) := ⟨q1, q2, q3, q4, by show (0 : Int) ≤ most; omega⟩
    rw [hpm]
    clear H1 H2 H3 H4 H5 hpm
    go_loopw [59] (fun v wr => ∃ (i : Nat) (A A2 : Option Addr) (c c2 : Nat) (s : St), v = .int .i64 i ∧ i ≤ k ∧ Hid (Run W wr pm W.heap.size A A2 c c2 s s (boxOf A2 c2 s)) ∧ Hid s.Fine) (fun v _ => k - (intOf v).toNat)
    case atStart => exact ⟨0, _, _, _, _, _, rfl, by omega, HR0, HF0⟩
    case round =>
      clear HR0 HF0
      obtain ⟨i, A, A2, c, c2, s, rfl, hi, HR, HF⟩ := hrel
      by_cases hlt : i < k
      · obtain ⟨x, d, n, X, lx, cx, ys, rfl, HO1'⟩ := HO.out i (by omega)
        have HOW := hid HO1'
        have HO1 : Hid (OpAt wr (x.add (i * 3)) d n X lx cx ys) := HO1'.not HR.out.chg
        clear HO1'
        have e0 := HO1.out.c0
        have e1 : wr.cell? ⟨(x.add (i * 3)).block, (x.add (i * 3)).off + 1, none⟩ = _ := HO1.out.c1
        have e2 : wr.cell? ⟨(x.add (i * 3)).block, (x.add (i * 3)).off + 2, none⟩ = _ := HO1.out.c2
        have g1 : (i : Int) < k := by omega
        obtain ⟨m, hm⟩ : ∃ m : Nat, (if 10 < (lx : Int) then 10 else (lx : Int)) = m := ⟨min lx 10, by split <;> omega⟩
        have hmx : m ≤ lx := by split at hm <;> omega
        have hm10 : m ≤ 10 := by split at hm <;> omega
        have hmc : m ≤ cx := by have := HO1.out.le; omega
        obtain ⟨dv, hdv⟩ : ∃ dv, d.tmod 5 = dv := ⟨_, rfl⟩
        have hdv0 : 0 ≤ dv ∧ dv < 5 := by rw [Int.tmod_eq_emod_of_nonneg HO1.out.d0] at hdv; omega
        go_upto_block 2 with fail
        have HR1 := hid (HR.out.not (w' := wr.alloc (.cells #[.int .u8 d, .int .i64 n, .slice X lx cx] 36)) ((Chg.refl _ _).alloc _))
        have HQ := hid (heap_alloc_new wr (.cells #[.int .u8 d, .int .i64 n, .slice X lx cx] 36))
        have HL : Hid ((ys.take m).length = m) := by show _ = _; have := HO1.out.len; rw [List.length_take]; omega
        have HXS : Hid (∀ w : World, Chg Not W w → Src w X cx (ys.take m)) := fun w hc => Src.take (HOW.out.src.not hc) m
        have HX : Hid (∀ ad, X = some ad → (ys.take m).length ≠ 0 → ∀ {w : World} {A : Option Addr} {c : Nat} {l : List Int}, rowOf W.heap.size w A c l → (Value.slice A 0 0).ownBlock ≠ some ad.block) := by
          intro ad ha hm0 w A c l hrow he
          have h5 := (row_lt hrow (k := ad.block) (by rwa [own_block A _ _ 0 0])).1
          have hys : 0 < ys.length := by rw [List.length_take] at hm0; omega
          have h4 := HOW.out.src.at' ad ha 0 (.int .u32 ys[0]) (by rw [List.getElem?_map, List.getElem?_eq_getElem hys]; rfl)
          have e : ad.add 0 = ad := rfl
          rw [e] at h4
          unfold World.cell? at h4
          rw [Array.getElem?_eq_none h5] at h4
          cases h4
        have o0 := cells_cell (o := 1) HQ.out rfl
        generalize wr.alloc (.cells #[.int .u8 d, .int .i64 n, .slice X lx cx] 36) = w1 at *
        generalize wr.heap.size = q at *
        clear HR e0 e1 e2
        go_cut [20, 21, 22, 23] (fun s20 s21 s22 s23 wx => ∃ (A A2 : Option Addr) (c c2 : Nat) (s : St) (r : Int), s20 = .int .i32 r ∧ s21 = .int .i32 r ∧ Hid (Run W wx pm W.heap.size A A2 c c2 s s (boxOf A2 c2 s)) ∧ Hid s.Fine ∧ wx.heap[q]? = some (.cells #[.int .u8 d, .int .i64 n, .slice X lx cx] 36 (0, 0)))
        -- FIRST
        case first =>
          have d5 : dv = 0 ∨ dv = 1 ∨ dv = 2 ∨ dv = 3 ∨ dv = 4 := by omega
          rcases d5 with rfl | rfl | rfl | rfl | rfl
          · obtain ⟨s', r, hop⟩ : ∃ s' r, s.pushR (ys.take m) = (s', r) := ⟨_, _, rfl⟩
            have HF2 : Hid s'.Fine := by have := HF.out |> fun h => Fine.push h (ys.take m); rwa [hop] at this
            have hop := hid hop
            go_wp2_with fail
            refine (push_is HR1.out.stk HF.out HR1.out.chg.size (HXS.out _ HR1.out.chg) (m := m) HL.out (by omega) hop.out).mono ?_
            rintro e w3 ⟨rfl, h1, A', c', h2, h3⟩
            have HR2 : Hid (Run W w3 pm W.heap.size A' A2 c' c2 s' s (boxOf A2 c2 s)) := HR1.out.op h1 h2 h3
            have hq3 : w3.heap[q]? = some (.cells #[.int .u8 d, .int .i64 n, .slice X lx cx] 36 (0, 0)) := h1.at HQ.out (HR1.out.notFoot HQ.out (by decide) (by decide))
            have hq3 := hid hq3
            have n3 : w3.cell? ⟨q, 1, none⟩ = some (.int .i64 n) := cells_cell hq3.out rfl
            have b0 : w3.cell? ⟨pm, 0, none⟩ = some (.slice A2 s.cells.length c2) := cells_cell HR2.out.box rfl
            have z0 : w3.frozen? ⟨pm, 0, none⟩ = false := cells_free HR2.out.box
            have b1 : w3.cell? ⟨pm, 1, none⟩ = some (.int .i64 s.most) := cells_cell HR2.out.box rfl
            have z1 : w3.frozen? ⟨pm, 1, none⟩ = false := cells_free HR2.out.box
            have b2 : w3.cell? ⟨pm, 2, none⟩ = some (.int .i32 s.over) := cells_cell HR2.out.box rfl
            have z2 : w3.frozen? ⟨pm, 2, none⟩ = false := cells_free HR2.out.box
            have b3 : w3.cell? ⟨pm, 3, none⟩ = some (.int .i32 s.under) := cells_cell HR2.out.box rfl
            have z3 : w3.frozen? ⟨pm, 3, none⟩ = false := cells_free HR2.out.box
            have hfoot := hid h1
            clear h1 h2 h3
            go_wp2_with fail
            refine (rpush_is HR2.out.rs HF.out (HXS.out _ HR2.out.chg) HL.out (by omega) (by omega) (fun ad ha h0 he => HX.out ad ha h0 HR2.out.rs.row he) hop.out).mono ?_
            rintro e w4 ⟨A2', c2', rfl, h1, h2, h3⟩
            clear b0 z0 b1 z1 b2 z2 b3 z3
            have HR3 : Hid (Run W w4 pm W.heap.size A' A2' c' c2' s' s' (boxOf A2 c2 s)) := HR2.out.rop h2 h1 h3
            have hq4 : w4.heap[q]? = some (.cells #[.int .u8 d, .int .i64 n, .slice X lx cx] 36 (0, 0)) := h2.at hq3.out fun h => HR2.out.ne2 hq3.out (by decide) h
            have hq4 := hid hq4
            have b0 : w4.cell? ⟨pm, 0, none⟩ = some (.slice A2 s.cells.length c2) := cells_cell HR3.out.box rfl
            have z0 : w4.frozen? ⟨pm, 0, none⟩ = false := cells_free HR3.out.box
            have b1 : w4.cell? ⟨pm, 1, none⟩ = some (.int .i64 s.most) := cells_cell HR3.out.box rfl
            have z1 : w4.frozen? ⟨pm, 1, none⟩ = false := cells_free HR3.out.box
            have b2 : w4.cell? ⟨pm, 2, none⟩ = some (.int .i32 s.over) := cells_cell HR3.out.box rfl
            have z2 : w4.frozen? ⟨pm, 2, none⟩ = false := cells_free HR3.out.box
            have b3 : w4.cell? ⟨pm, 3, none⟩ = some (.int .i32 s.under) := cells_cell HR3.out.box rfl
            have z3 : w4.frozen? ⟨pm, 3, none⟩ = false := cells_free HR3.out.box
            clear h1 h2 h3
            go_wp2_with fail
            go_meet
            exact ⟨A', A2', c', c2', s', r, rfl, rfl, HR3.out.put4 _ _ _ _, HF2, HR3.out.put4_other hq4.out (by decide) _ _ _ _⟩
          · obtain ⟨s', r, hop⟩ : ∃ s' r, s.pushR (ys.take m) = (s', r) := ⟨_, _, rfl⟩
            have HF2 : Hid s'.Fine := by have := HF.out |> fun h => Fine.push h (ys.take m); rwa [hop] at this
            have hop := hid hop
            go_wp2_with fail
            refine (push_is HR1.out.stk HF.out HR1.out.chg.size (HXS.out _ HR1.out.chg) (m := m) HL.out (by omega) hop.out).mono ?_
            rintro e w3 ⟨rfl, h1, A', c', h2, h3⟩
            have HR2 : Hid (Run W w3 pm W.heap.size A' A2 c' c2 s' s (boxOf A2 c2 s)) := HR1.out.op h1 h2 h3
            have hq3 : w3.heap[q]? = some (.cells #[.int .u8 d, .int .i64 n, .slice X lx cx] 36 (0, 0)) := h1.at HQ.out (HR1.out.notFoot HQ.out (by decide) (by decide))
            have hq3 := hid hq3
            have n3 : w3.cell? ⟨q, 1, none⟩ = some (.int .i64 n) := cells_cell hq3.out rfl
            have b0 : w3.cell? ⟨pm, 0, none⟩ = some (.slice A2 s.cells.length c2) := cells_cell HR2.out.box rfl
            have z0 : w3.frozen? ⟨pm, 0, none⟩ = false := cells_free HR2.out.box
            have b1 : w3.cell? ⟨pm, 1, none⟩ = some (.int .i64 s.most) := cells_cell HR2.out.box rfl
            have z1 : w3.frozen? ⟨pm, 1, none⟩ = false := cells_free HR2.out.box
            have b2 : w3.cell? ⟨pm, 2, none⟩ = some (.int .i32 s.over) := cells_cell HR2.out.box rfl
            have z2 : w3.frozen? ⟨pm, 2, none⟩ = false := cells_free HR2.out.box
            have b3 : w3.cell? ⟨pm, 3, none⟩ = some (.int .i32 s.under) := cells_cell HR2.out.box rfl
            have z3 : w3.frozen? ⟨pm, 3, none⟩ = false := cells_free HR2.out.box
            have hfoot := hid h1
            clear h1 h2 h3
            go_wp2_with fail
            refine (rpush_is HR2.out.rs HF.out (HXS.out _ HR2.out.chg) HL.out (by omega) (by omega) (fun ad ha h0 he => HX.out ad ha h0 HR2.out.rs.row he) hop.out).mono ?_
            rintro e w4 ⟨A2', c2', rfl, h1, h2, h3⟩
            clear b0 z0 b1 z1 b2 z2 b3 z3
            have HR3 : Hid (Run W w4 pm W.heap.size A' A2' c' c2' s' s' (boxOf A2 c2 s)) := HR2.out.rop h2 h1 h3
            have hq4 : w4.heap[q]? = some (.cells #[.int .u8 d, .int .i64 n, .slice X lx cx] 36 (0, 0)) := h2.at hq3.out fun h => HR2.out.ne2 hq3.out (by decide) h
            have hq4 := hid hq4
            have b0 : w4.cell? ⟨pm, 0, none⟩ = some (.slice A2 s.cells.length c2) := cells_cell HR3.out.box rfl
            have z0 : w4.frozen? ⟨pm, 0, none⟩ = false := cells_free HR3.out.box
            have b1 : w4.cell? ⟨pm, 1, none⟩ = some (.int .i64 s.most) := cells_cell HR3.out.box rfl
            have z1 : w4.frozen? ⟨pm, 1, none⟩ = false := cells_free HR3.out.box
            have b2 : w4.cell? ⟨pm, 2, none⟩ = some (.int .i32 s.over) := cells_cell HR3.out.box rfl
            have z2 : w4.frozen? ⟨pm, 2, none⟩ = false := cells_free HR3.out.box
            have b3 : w4.cell? ⟨pm, 3, none⟩ = some (.int .i32 s.under) := cells_cell HR3.out.box rfl
            have z3 : w4.frozen? ⟨pm, 3, none⟩ = false := cells_free HR3.out.box
            clear h1 h2 h3
            go_wp2_with fail
            go_meet
            exact ⟨A', A2', c', c2', s', r, rfl, rfl, HR3.out.put4 _ _ _ _, HF2, HR3.out.put4_other hq4.out (by decide) _ _ _ _⟩
          · obtain ⟨x2, r, hop⟩ : ∃ x2 r, s.peekR 0 = (x2, r) := ⟨_, _, rfl⟩
            have HF2 : Hid s.popR.Fine := Fine.pop HF.out
            have hop := hid hop
            go_wp2_with fail
            refine (pop_is HR1.out.stk HF.out hop.out).mono ?_
            rintro e w3 ⟨rfl, h1, A', c', h2, h3⟩
            have HR2 : Hid (Run W w3 pm W.heap.size A' A2 c' c2 s.popR s (boxOf A2 c2 s)) := HR1.out.op h1 h2 h3
            have hq3 : w3.heap[q]? = some (.cells #[.int .u8 d, .int .i64 n, .slice X lx cx] 36 (0, 0)) := h1.at HQ.out (HR1.out.notFoot HQ.out (by decide) (by decide))
            have hq3 := hid hq3
            have b0 : w3.cell? ⟨pm, 0, none⟩ = some (.slice A2 s.cells.length c2) := cells_cell HR2.out.box rfl
            have z0 : w3.frozen? ⟨pm, 0, none⟩ = false := cells_free HR2.out.box
            have b1 : w3.cell? ⟨pm, 1, none⟩ = some (.int .i64 s.most) := cells_cell HR2.out.box rfl
            have z1 : w3.frozen? ⟨pm, 1, none⟩ = false := cells_free HR2.out.box
            have b2 : w3.cell? ⟨pm, 2, none⟩ = some (.int .i32 s.over) := cells_cell HR2.out.box rfl
            have z2 : w3.frozen? ⟨pm, 2, none⟩ = false := cells_free HR2.out.box
            have b3 : w3.cell? ⟨pm, 3, none⟩ = some (.int .i32 s.under) := cells_cell HR2.out.box rfl
            have z3 : w3.frozen? ⟨pm, 3, none⟩ = false := cells_free HR2.out.box
            clear h1 h2 h3
            go_wp2_with fail
            refine (rpeek_is HR2.out.rs HF.out 0 hop.out).mono ?_
            rintro e w4 ⟨rfl, h1⟩
            clear b0 z0 b1 z1 b2 z2 b3 z3
            have HR3 : Hid (Run W w4 pm W.heap.size A' A2 c' c2 s.popR s (boxOf A2 c2 s)) := HR2.out.not h1
            have hq4 : w4.heap[q]? = some (.cells #[.int .u8 d, .int .i64 n, .slice X lx cx] 36 (0, 0)) := h1.at hq3.out fun h => h
            have hq4 := hid hq4
            clear h1
            by_cases hr0 : r = 0
            · subst hr0
              obtain ⟨hlen, hcut⟩ := pop_zero HF.out hop.out
              have hl5 := HR3.out.rs.small
              have hcut := hid hcut
              have hw := IntWalk.i64_in ((s.cells.length : Int) - 1) (by omega)
              have b0 : w4.cell? ⟨pm, 0, none⟩ = some (.slice A2 s.cells.length c2) := cells_cell HR3.out.box rfl
              have z0 : w4.frozen? ⟨pm, 0, none⟩ = false := cells_free HR3.out.box
              have b1 : w4.cell? ⟨pm, 1, none⟩ = some (.int .i64 s.most) := cells_cell HR3.out.box rfl
              have z1 : w4.frozen? ⟨pm, 1, none⟩ = false := cells_free HR3.out.box
              have b2 : w4.cell? ⟨pm, 2, none⟩ = some (.int .i32 s.over) := cells_cell HR3.out.box rfl
              have z2 : w4.frozen? ⟨pm, 2, none⟩ = false := cells_free HR3.out.box
              have b3 : w4.cell? ⟨pm, 3, none⟩ = some (.int .i32 s.under) := cells_cell HR3.out.box rfl
              have z3 : w4.frozen? ⟨pm, 3, none⟩ = false := cells_free HR3.out.box
              go_wp2_with fail
              refine (rcut_is HR3.out.rs HF.out _ hcut.out).mono ?_
              rintro e w5 ⟨A2', c2', rfl, h1, h2, h3⟩
              clear b0 z0 b1 z1 b2 z2 b3 z3
              have HR4 : Hid (Run W w5 pm W.heap.size A' A2' c' c2' s.popR s.popR (boxOf A2 c2 s)) := HR3.out.rop h2 h1 h3
              have hq5 : w5.heap[q]? = some (.cells #[.int .u8 d, .int .i64 n, .slice X lx cx] 36 (0, 0)) := h2.at hq4.out fun h => HR3.out.ne2 hq4.out (by decide) h
              have hq5 := hid hq5
              have b0 : w5.cell? ⟨pm, 0, none⟩ = some (.slice A2 s.cells.length c2) := cells_cell HR4.out.box rfl
              have z0 : w5.frozen? ⟨pm, 0, none⟩ = false := cells_free HR4.out.box
              have b1 : w5.cell? ⟨pm, 1, none⟩ = some (.int .i64 s.most) := cells_cell HR4.out.box rfl
              have z1 : w5.frozen? ⟨pm, 1, none⟩ = false := cells_free HR4.out.box
              have b2 : w5.cell? ⟨pm, 2, none⟩ = some (.int .i32 s.over) := cells_cell HR4.out.box rfl
              have z2 : w5.frozen? ⟨pm, 2, none⟩ = false := cells_free HR4.out.box
              have b3 : w5.cell? ⟨pm, 3, none⟩ = some (.int .i32 s.under) := cells_cell HR4.out.box rfl
              have z3 : w5.frozen? ⟨pm, 3, none⟩ = false := cells_free HR4.out.box
              clear h1 h2 h3
              go_wp2_with fail
              go_meet
              exact ⟨A', A2', c', c2', s.popR, 0, rfl, rfl, HR4.out.put4 _ _ _ _, HF2, HR4.out.put4_other hq5.out (by decide) _ _ _ _⟩
            · have hps : Hid (s.popR = s) := pop_some hop.out hr0
              rw [hps.out] at HR3
              have hrb : (r == 0) = false := beq_eq_false_iff_ne.mpr hr0
              go_wp2_with fail
              go_meet
              exact ⟨A', A2, c', c2, s, r, rfl, rfl, HR3, HF, hq4.out⟩
          · obtain ⟨s', r, hop⟩ : ∃ s' r, s.rollR n = (s', r) := ⟨_, _, rfl⟩
            have HF2 : Hid s'.Fine := by have := Fine.roll HF.out n; rwa [hop] at this
            have hop := hid hop
            go_wp2_with fail
            refine (roll_is HR1.out.stk HF.out HR1.out.chg.size n hop.out).mono ?_
            rintro e w3 ⟨rfl, h1, A', c', h2, h3⟩
            have HR2 : Hid (Run W w3 pm W.heap.size A' A2 c' c2 s' s (boxOf A2 c2 s)) := HR1.out.op h1 h2 h3
            have hq3 : w3.heap[q]? = some (.cells #[.int .u8 d, .int .i64 n, .slice X lx cx] 36 (0, 0)) := h1.at HQ.out (HR1.out.notFoot HQ.out (by decide) (by decide))
            have hq3 := hid hq3
            have n3 : w3.cell? ⟨q, 1, none⟩ = some (.int .i64 n) := cells_cell hq3.out rfl
            have b0 : w3.cell? ⟨pm, 0, none⟩ = some (.slice A2 s.cells.length c2) := cells_cell HR2.out.box rfl
            have z0 : w3.frozen? ⟨pm, 0, none⟩ = false := cells_free HR2.out.box
            have b1 : w3.cell? ⟨pm, 1, none⟩ = some (.int .i64 s.most) := cells_cell HR2.out.box rfl
            have z1 : w3.frozen? ⟨pm, 1, none⟩ = false := cells_free HR2.out.box
            have b2 : w3.cell? ⟨pm, 2, none⟩ = some (.int .i32 s.over) := cells_cell HR2.out.box rfl
            have z2 : w3.frozen? ⟨pm, 2, none⟩ = false := cells_free HR2.out.box
            have b3 : w3.cell? ⟨pm, 3, none⟩ = some (.int .i32 s.under) := cells_cell HR2.out.box rfl
            have z3 : w3.frozen? ⟨pm, 3, none⟩ = false := cells_free HR2.out.box
            have hfoot := hid h1
            clear h1 h2 h3
            go_wp2_with fail
            refine (rroll_is HR2.out.rs HF.out n hop.out).mono ?_
            rintro e w4 ⟨A2', c2', rfl, h1, h2, h3⟩
            clear b0 z0 b1 z1 b2 z2 b3 z3
            have HR3 : Hid (Run W w4 pm W.heap.size A' A2' c' c2' s' s' (boxOf A2 c2 s)) := HR2.out.rop h2 h1 h3
            have hq4 : w4.heap[q]? = some (.cells #[.int .u8 d, .int .i64 n, .slice X lx cx] 36 (0, 0)) := h2.at hq3.out fun h => HR2.out.ne2 hq3.out (by decide) h
            have hq4 := hid hq4
            have b0 : w4.cell? ⟨pm, 0, none⟩ = some (.slice A2 s.cells.length c2) := cells_cell HR3.out.box rfl
            have z0 : w4.frozen? ⟨pm, 0, none⟩ = false := cells_free HR3.out.box
            have b1 : w4.cell? ⟨pm, 1, none⟩ = some (.int .i64 s.most) := cells_cell HR3.out.box rfl
            have z1 : w4.frozen? ⟨pm, 1, none⟩ = false := cells_free HR3.out.box
            have b2 : w4.cell? ⟨pm, 2, none⟩ = some (.int .i32 s.over) := cells_cell HR3.out.box rfl
            have z2 : w4.frozen? ⟨pm, 2, none⟩ = false := cells_free HR3.out.box
            have b3 : w4.cell? ⟨pm, 3, none⟩ = some (.int .i32 s.under) := cells_cell HR3.out.box rfl
            have z3 : w4.frozen? ⟨pm, 3, none⟩ = false := cells_free HR3.out.box
            clear h1 h2 h3
            go_wp2_with fail
            go_meet
            exact ⟨A', A2', c', c2', s', r, rfl, rfl, HR3.out.put4 _ _ _ _, HF2, HR3.out.put4_other hq4.out (by decide) _ _ _ _⟩
          · obtain ⟨s', r, hop⟩ : ∃ s' r, s.cutR n = (s', r) := ⟨_, _, rfl⟩
            have HF2 : Hid s'.Fine := by have := Fine.cut HF.out n; rwa [hop] at this
            have hop := hid hop
            go_wp2_with fail
            refine (cut_is HR1.out.stk HF.out n hop.out).mono ?_
            rintro e w3 ⟨rfl, h1, A', c', h2, h3⟩
            have HR2 : Hid (Run W w3 pm W.heap.size A' A2 c' c2 s' s (boxOf A2 c2 s)) := HR1.out.op h1 h2 h3
            have hq3 : w3.heap[q]? = some (.cells #[.int .u8 d, .int .i64 n, .slice X lx cx] 36 (0, 0)) := h1.at HQ.out (HR1.out.notFoot HQ.out (by decide) (by decide))
            have hq3 := hid hq3
            have n3 : w3.cell? ⟨q, 1, none⟩ = some (.int .i64 n) := cells_cell hq3.out rfl
            have b0 : w3.cell? ⟨pm, 0, none⟩ = some (.slice A2 s.cells.length c2) := cells_cell HR2.out.box rfl
            have z0 : w3.frozen? ⟨pm, 0, none⟩ = false := cells_free HR2.out.box
            have b1 : w3.cell? ⟨pm, 1, none⟩ = some (.int .i64 s.most) := cells_cell HR2.out.box rfl
            have z1 : w3.frozen? ⟨pm, 1, none⟩ = false := cells_free HR2.out.box
            have b2 : w3.cell? ⟨pm, 2, none⟩ = some (.int .i32 s.over) := cells_cell HR2.out.box rfl
            have z2 : w3.frozen? ⟨pm, 2, none⟩ = false := cells_free HR2.out.box
            have b3 : w3.cell? ⟨pm, 3, none⟩ = some (.int .i32 s.under) := cells_cell HR2.out.box rfl
            have z3 : w3.frozen? ⟨pm, 3, none⟩ = false := cells_free HR2.out.box
            have hfoot := hid h1
            clear h1 h2 h3
            go_wp2_with fail
            refine (rcut_is HR2.out.rs HF.out n hop.out).mono ?_
            rintro e w4 ⟨A2', c2', rfl, h1, h2, h3⟩
            clear b0 z0 b1 z1 b2 z2 b3 z3
            have HR3 : Hid (Run W w4 pm W.heap.size A' A2' c' c2' s' s' (boxOf A2 c2 s)) := HR2.out.rop h2 h1 h3
            have hq4 : w4.heap[q]? = some (.cells #[.int .u8 d, .int .i64 n, .slice X lx cx] 36 (0, 0)) := h2.at hq3.out fun h => HR2.out.ne2 hq3.out (by decide) h
            have hq4 := hid hq4
            have b0 : w4.cell? ⟨pm, 0, none⟩ = some (.slice A2 s.cells.length c2) := cells_cell HR3.out.box rfl
            have z0 : w4.frozen? ⟨pm, 0, none⟩ = false := cells_free HR3.out.box
            have b1 : w4.cell? ⟨pm, 1, none⟩ = some (.int .i64 s.most) := cells_cell HR3.out.box rfl
            have z1 : w4.frozen? ⟨pm, 1, none⟩ = false := cells_free HR3.out.box
            have b2 : w4.cell? ⟨pm, 2, none⟩ = some (.int .i32 s.over) := cells_cell HR3.out.box rfl
            have z2 : w4.frozen? ⟨pm, 2, none⟩ = false := cells_free HR3.out.box
            have b3 : w4.cell? ⟨pm, 3, none⟩ = some (.int .i32 s.under) := cells_cell HR3.out.box rfl
            have z3 : w4.frozen? ⟨pm, 3, none⟩ = false := cells_free HR3.out.box
            clear h1 h2 h3
            go_wp2_with fail
            go_meet
            exact ⟨A', A2', c', c2', s', r, rfl, rfl, HR3.out.put4 _ _ _ _, HF2, HR3.out.put4_other hq4.out (by decide) _ _ _ _⟩
        -- REST
        -- LAST
        case rest =>
          clear HR1 HQ HL HXS HX o0 HO1 HOW hm hmx hm10 hmc hdv hdv0 HF
          obtain ⟨A, A2, c, c2, s, r, rfl, rfl, HR, HF, hq⟩ := hcut
          have HQ := hid hq
          have n3 : wc.cell? ⟨q, 1, none⟩ = some (.int .i64 n) := cells_cell HQ.out rfl
          clear hq
          obtain ⟨x2, r2, hop⟩ : ∃ x2 r2, s.peekR n = (x2, r2) := ⟨_, _, rfl⟩
          obtain ⟨r3, hmay⟩ : ∃ r3, s.may tk gv = r3 := ⟨_, rfl⟩
          have hop := hid hop
          have hmay := hid hmay
          obtain ⟨ln, hln⟩ : ∃ ln, s.cells.length = ln := ⟨_, rfl⟩
          have hl5 : ln ≤ 5000 := by rw [← hln]; exact HR.out.rs.small
          have hln := hid hln
          have b0 : wc.cell? ⟨pm, 0, none⟩ = some (.slice A2 s.cells.length c2) := cells_cell HR.out.box rfl; have b1 : wc.cell? ⟨pm, 1, none⟩ = some (.int .i64 s.most) := cells_cell HR.out.box rfl; have b2 : wc.cell? ⟨pm, 2, none⟩ = some (.int .i32 s.over) := cells_cell HR.out.box rfl; have b3 : wc.cell? ⟨pm, 3, none⟩ = some (.int .i32 s.under) := cells_cell HR.out.box rfl; 
          rw [hln.out] at b0
          go_wp2_with fail
          refine (peek_is HR.out.stk HF.out n hop.out).mono ?_
          rintro e w3 ⟨rfl, rfl⟩
          go_wp2_with fail
          refine (rpeek_len hln.out HR.out.rs HF.out n hop.out).mono ?_
          rintro e w4 ⟨rfl, h2⟩
          have HR : Hid (Run W w4 pm W.heap.size A A2 c c2 s s (boxOf A2 c2 s)) := HR.out.not h2; clear b0 b1 b2 b3; have b0 : w4.cell? ⟨pm, 0, none⟩ = some (.slice A2 s.cells.length c2) := cells_cell HR.out.box rfl; have b1 : w4.cell? ⟨pm, 1, none⟩ = some (.int .i64 s.most) := cells_cell HR.out.box rfl; have b2 : w4.cell? ⟨pm, 2, none⟩ = some (.int .i32 s.over) := cells_cell HR.out.box rfl; have b3 : w4.cell? ⟨pm, 3, none⟩ = some (.int .i32 s.under) := cells_cell HR.out.box rfl; clear h2
          rw [hln.out] at b0
          go_upto_region 32 with fail
          have hS0 : Hid (Run W w4.drew pm W.heap.size A A2 c c2 s s (boxOf A2 c2 s)) ∧ w4.drew.cell? ⟨pm, 0, none⟩ = some (.slice A2 ln c2) ∧ w4.drew.cell? ⟨pm, 1, none⟩ = some (.int .i64 s.most) ∧ w4.drew.cell? ⟨pm, 2, none⟩ = some (.int .i32 s.over) ∧ w4.drew.cell? ⟨pm, 3, none⟩ = some (.int .i32 s.under) := run_all hln HR (Chg.refl _ _).drew
          go_region_held3 (fun wx => Hid (Run W wx pm W.heap.size A A2 c c2 s s (boxOf A2 c2 s)) ∧ wx.cell? ⟨pm, 0, none⟩ = some (.slice A2 ln c2) ∧ wx.cell? ⟨pm, 1, none⟩ = some (.int .i64 s.most) ∧ wx.cell? ⟨pm, 2, none⟩ = some (.int .i32 s.over) ∧ wx.cell? ⟨pm, 3, none⟩ = some (.int .i32 s.under)) (assumption)
            (first
            | (go_at_call 23; go_must (refine Calls.mono (run_All (W := W) (pm := pm) (A := A) (A2 := A2) (c := c) (c2 := c2) (s := s) hln (by assumption)) ?_); rintro e w8 ⟨A8, c8, rfl, S1, hS8⟩)
            | (go_at_call 22; go_must (refine Calls.mono (run_cells (W := W) (pm := pm) (A := A) (A2 := A2) (c := c) (c2 := c2) (s := s) hln hl5 S1 (by assumption)) ?_); rintro e w9 ⟨rfl, hS9⟩)
            | (go_at_call 11; go_must (refine Calls.mono (run_len (W := W) (pm := pm) (A := A) (A2 := A2) (c := c) (c2 := c2) (s := s) hln (by assumption)) ?_); rintro e w10 ⟨rfl, rfl⟩)
            | (go_at_call 24; go_must (refine Calls.mono (run_may (W := W) (pm := pm) (A := A) (A2 := A2) (c := c) (c2 := c2) (s := s) htk hmay (by assumption)) ?_); rintro e w11 ⟨rfl, rfl⟩)
            | (go_at_call 25; go_must (refine Calls.mono (run_rmay (W := W) (pm := pm) (A := A) (A2 := A2) (c := c) (c2 := c2) (s := s) hln HF htk hmay (by assumption)) ?_); rintro e w12 ⟨rfl, hS12⟩))
          all_goals go_wp2_with fail
          all_goals exact ⟨⟨i + 1, A, A2, c, c2, s, by go_num, by omega, hS12.1, HF⟩, by simp [intOf]; omega⟩
        -- DONE
      · have g1 : (k : Int) ≤ i := by omega
        go_wp2_with fail
        refine (awake_any _).mono ?_
        rintro e w5 ⟨rfl, h4⟩
        have C := hid (HR.out.chg.not h4)
        clear h4
        go_wp2
        go_ret
        exact ⟨rfl, C.out⟩
end Go.Proofs.Yteoghagknececaa
