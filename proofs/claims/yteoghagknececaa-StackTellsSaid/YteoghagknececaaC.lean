/- place, Peek, Pop, Cut, New. -/
import Derived.Test.YteoghagknececaaB
namespace Go.Proofs.Yteoghagknececaa
open Go.RowKit Go.Proofs.YteoghagknececaaW.PrintWords Go.Proofs.YteoghagknececaaW.PrintMore

theorem own_take {W : World} {B : Nat} {t : TypeId} {A : Option Addr} {n c : Nat} {xs : List Value} (h : W.ownsRow B t 1 (.slice A n c) n xs) {k : Nat} (hk : k ≤ n) : W.ownsRow B t 1 (.slice A k c) k (xs.take k) := by
  have hl : xs.length = n := by simpa using h.1
  refine ⟨by simp; omega, ?_⟩
  rcases h.2 with ⟨hv, h0⟩ | ⟨g, cap, cur, hv, hb, hh, hn, hc, hs, ht⟩
  · injection hv with h1 h2 h3
    subst h1; subst h3
    exact .inl ⟨by rw [show k = 0 by omega], by omega⟩
  · injection hv with h1 h2 h3
    subst h1; subst h3
    exact .inr ⟨g, c, cur, rfl, hb, hh, by omega, hc, hs, by rw [← ht, List.take_take]; congr 1; simp; omega⟩
theorem own_cell {W : World} {B : Nat} {t : TypeId} {A : Option Addr} {n c : Nat} {xs : List Value} (h : W.ownsRow B t 1 (.slice A n c) n xs) {k : Nat} {x : Value} (hx : xs[k]? = some x) : ∃ g, A = some ⟨g, 0, none⟩ ∧ W.cell? ⟨g, k, none⟩ = some x := by
  have hl : xs.length = n := by simpa using h.1
  have hk : k < xs.length := (List.getElem?_eq_some_iff.1 hx).1
  rcases h.2 with ⟨_, h0⟩ | ⟨g, cap, cur, hv, hb, hh, hn, hc, hs, ht⟩
  · omega
  · injection hv with h1 h2 h3
    refine ⟨g, h1, cells_cell hh ?_⟩
    rw [← ht, List.getElem?_take] at hx
    split at hx
    · simpa using hx
    · cases hx
/-- another number of cells. -/
theorem Stk.take {B : Nat} {W : World} {p : Nat} {A : Option Addr} {c : Nat} {s : St} (h : Stk B W p A c s) {k : Nat} (hk : k ≤ s.cells.length) :
    Stk B (W.setCell ⟨p, 0, none⟩ (.slice A k c)) p A c { s with cells := s.cells.take k } := by
  have hl : (s.cells.take k).length = k := by simp; omega
  refine ⟨h.base, ?_, ?_, h.most0, h.most1, ?_, h.neg⟩
  · rw [set_cells h.blk, hl]; rfl
  · rw [hl, List.map_take]
    have := own_take h.row hk
    exact (Chg.setCell (F := fun k => k = p) (.refl _ _) (fun _ => rfl) _).row this (fun k hk he => row_ne this (he ▸ h.blk) (by decide) (by rw [hk, he]))
  · show ((s.cells.take k).length : Int) ≤ s.most
    rw [hl]; have := h.len; omega
theorem Stk.drew {B : Nat} {W : World} {p : Nat} {A : Option Addr} {c : Nat} {s : St} (h : Stk B W p A c s) : Stk B W.drew p A c s := ⟨h.base, h.blk, h.row, h.most0, h.most1, h.len, h.neg⟩
theorem St.few_neg {B : Nat} {W : World} {p : Nat} {A : Option Addr} {c : Nat} {s : St} (h : Stk B W p A c s) : s.few < 0 := by
  unfold St.few
  split
  · decide
  · exact (h.neg (by assumption)).2

theorem place_bad {B : Nat} {W : World} {p : Nat} {A : Option Addr} {c : Nat} {s : St} (h : Stk B W p A c s) (i : Int) (hi : i < 0 ∨ (s.cells.length : Int) ≤ i) :
    Calls Try.prog 26 #[ptr p, .int .i64 i] W fun e W' => e = .returned (.tuple #[.int .i64 0, .int .i32 s.few]) ∧ W = W' := by
  have H : Hid (Stk B W p A c s) := h
  clear h
  go_enter Try.func26, Try.ntmps26
  go_wp2_with (first | (go_at_call 11; refine (len_any H.out).mono ?_; rintro e w' ⟨rfl, rfl⟩) | (go_at_call 28; refine (few_any H.out).mono ?_; rintro e w' ⟨rfl, rfl⟩))
  all_goals first | (exfalso; omega) | (go_ret2; exact ⟨rfl, rfl⟩)
theorem place_ok {B : Nat} {W : World} {p : Nat} {A : Option Addr} {c : Nat} {s : St} (h : Stk B W p A c s) (i : Int) (k : Nat) (h0 : 0 ≤ i) (hk : (k : Int) = s.cells.length - 1 - i) :
    Calls Try.prog 26 #[ptr p, .int .i64 i] W fun e W' => e = .returned (.tuple #[.int .i64 k, .int .i32 0]) ∧ W = W' := by
  have hl := h.len
  have hm := h.most1
  have H : Hid (Stk B W p A c s) := h
  clear h
  go_enter Try.func26, Try.ntmps26
  go_wp2_with (first | (go_at_call 11; refine (len_any H.out).mono ?_; rintro e w' ⟨rfl, rfl⟩) | (go_at_call 28; refine (few_any H.out).mono ?_; rintro e w' ⟨rfl, rfl⟩))
  all_goals first | (exfalso; omega) | (go_ret2; exact ⟨by rw [hk]; rfl, rfl⟩)
theorem peek_bad {B : Nat} {W : World} {p : Nat} {A : Option Addr} {c : Nat} {s : St} (h : Stk B W p A c s) (i : Int) (hi : i < 0 ∨ (s.cells.length : Int) ≤ i) :
    Calls Try.prog 21 #[ptr p, .int .i64 i] W fun e W' => e = .returned (.tuple #[.int .u32 0, .int .i32 s.few]) ∧ W = W' := by
  have hf := St.few_neg h
  have b0 : (s.few == 0) = false := beq_eq_false_iff_ne.mpr (by omega)
  have H : Hid (Stk B W p A c s) := h
  clear h
  go_enter Try.func21, Try.ntmps21
  go_wp2_with (first | (go_at_call 26; refine (place_bad H.out i hi).mono ?_; rintro e w' ⟨rfl, rfl⟩))
  all_goals first | (exfalso; omega) | (go_ret2; exact ⟨rfl, rfl⟩)
theorem peek_ok {B : Nat} {W : World} {p : Nat} {A : Option Addr} {c : Nat} {s : St} (h : Stk B W p A c s) (i : Int) (k : Nat) (x : Int) (h0 : 0 ≤ i) (hk : (k : Int) = s.cells.length - 1 - i) (hx : s.cells[k]? = some x) :
    Calls Try.prog 21 #[ptr p, .int .i64 i] W fun e W' => e = .returned (.tuple #[.int .u32 x, .int .i32 0]) ∧ W = W' := by
  have hl := h.len
  have hm := h.most1
  have hk' : k < s.cells.length := (List.getElem?_eq_some_iff.1 hx).1
  obtain ⟨g, rfl, hc⟩ := own_cell (x := .int .u32 x) h.row (by simp [hx] : (s.cells.map (Value.int .u32))[k]? = _)
  have c0 : W.cell? ⟨p, 0, none⟩ = some (.slice (some ⟨g, 0, none⟩) s.cells.length c) := cells_cell h.blk rfl
  have H : Hid (Stk B W p (some ⟨g, 0, none⟩) c s) := h
  have HK : Hid ((k : Int) = s.cells.length - 1 - i) := hk
  clear h hk hx
  go_enter Try.func21, Try.ntmps21
  go_wp2_with (first | (go_at_call 26; refine (place_ok H.out i k h0 HK.out).mono ?_; rintro e w' ⟨rfl, rfl⟩))
  all_goals first | (exfalso; omega) | (go_ret2; exact ⟨rfl, rfl⟩)
theorem pop_bad {B : Nat} {W : World} {p : Nat} {A : Option Addr} {c : Nat} {s : St} (h : Stk B W p A c s) (hi : s.cells = []) :
    Calls Try.prog 15 #[ptr p] W fun e W' => e = .returned (.tuple #[.int .u32 0, .int .i32 s.few]) ∧ W = W' := by
  have hf := St.few_neg h
  have b0 : (s.few == 0) = false := beq_eq_false_iff_ne.mpr (by omega)
  have H : Hid (Stk B W p A c s) := h
  clear h
  go_enter Try.func15, Try.ntmps15
  go_wp2_with (first | (go_at_call 21; refine (peek_bad H.out 0 (by simp [hi])).mono ?_; rintro e w' ⟨rfl, rfl⟩))
  all_goals first | (exfalso; omega) | (go_ret2; exact ⟨rfl, rfl⟩)
theorem pop_ok {B : Nat} {W : World} {p : Nat} {A : Option Addr} {c : Nat} {s : St} (h : Stk B W p A c s) (x : Int) (l : List Int) (hs : s.cells = l ++ [x]) :
    Calls Try.prog 15 #[ptr p] W fun e W' => e = .returned (.tuple #[.int .u32 x, .int .i32 0]) ∧ Stk B W' p A c { s with cells := l } ∧ Chg (fun k => k = p) W W' := by
  have hl : s.cells.length = l.length + 1 := by simp [hs]
  have hml := h.len
  have hm := h.most1
  have hx : s.cells[l.length]? = some x := by simp [hs]
  have ht : s.cells.take l.length = l := by simp [hs]
  have hcap : l.length ≤ c := by
    rcases h.row.2 with ⟨_, h0⟩ | ⟨g, cap, cur, hv, hb, hh, hn, _⟩
    · omega
    · injection hv with _ _ h3; omega
  obtain ⟨g, rfl, -⟩ := own_cell (x := .int .u32 x) h.row (by simp [hx] : (s.cells.map (Value.int .u32))[l.length]? = _)
  have c0 : W.cell? ⟨p, 0, none⟩ = some (.slice (some ⟨g, 0, none⟩) (l.length + 1 : Nat) c) := hl ▸ cells_cell h.blk rfl
  have f0 : W.frozen? ⟨p, 0, none⟩ = false := cells_free h.blk
  have HE : Stk B (W.setCell ⟨p, 0, none⟩ (.slice (some ⟨g, 0, none⟩) l.length c)).drew p (some ⟨g, 0, none⟩) c { s with cells := l } := by
    have := (h.take (k := l.length) (by omega)).drew
    rw [ht] at this
    exact this
  have HE : Hid _ := HE
  have w1 : IntKind.i64.wrap (l.length : Int) = l.length := IntWalk.i64_in _ (by omega)
  have w2 : (l.length : Int) ≤ c := by omega
  have H : Hid (Stk B W p (some ⟨g, 0, none⟩) c s) := h
  have HX : Hid (s.cells[l.length]? = some x) := hx
  have HL : Hid (s.cells.length = l.length + 1) := hl
  clear h hx ht hs hl
  go_enter Try.func15, Try.ntmps15
  go_wp2_with (first | (go_at_call 21; refine (peek_ok H.out 0 l.length x (by omega) (by have := HL.out; omega) HX.out).mono ?_; rintro e w' ⟨rfl, rfl⟩))
  go_region
  go_wp2
  go_ret2
  exact ⟨rfl, HE.out, ((Chg.refl _ _).setCell (F := fun k => k = p) (fun _ => rfl) _).drew⟩

theorem cut_bad {B : Nat} {W : World} {p : Nat} {A : Option Addr} {c : Nat} {s : St} (h : Stk B W p A c s) (n : Int) (hn : n < 0 ∨ (s.cells.length : Int) < n ∨ s.most = 0) :
    Calls Try.prog 20 #[ptr p, .int .i64 n] W fun e W' => e = .returned (.int .i32 s.few) ∧ W = W' := by
  have c1 : W.cell? ⟨p, 1, none⟩ = some (.int .i64 s.most) := cells_cell h.blk rfl
  have H : Hid (Stk B W p A c s) := h
  clear h
  go_enter Try.func20, Try.ntmps20
  go_wp2_with (first | (go_at_call 11; refine (len_any H.out).mono ?_; rintro e w' ⟨rfl, rfl⟩) | (go_at_call 28; refine (few_any H.out).mono ?_; rintro e w' ⟨rfl, rfl⟩))
  all_goals first | (exfalso; simp only [beq_iff_eq, beq_eq_false_iff_ne] at *; omega) | (go_ret; exact ⟨rfl, rfl⟩)
theorem cut_ok {B : Nat} {W : World} {p : Nat} {A : Option Addr} {c : Nat} {s : St} (h : Stk B W p A c s) (n : Nat) (hn : n ≤ s.cells.length) (hm : s.most ≠ 0) :
    Calls Try.prog 20 #[ptr p, .int .i64 n] W fun e W' => e = .returned (.int .i32 0) ∧ Stk B W' p A c { s with cells := s.cells.take n } ∧ Chg (fun k => k = p) W W' := by
  have c1 : W.cell? ⟨p, 1, none⟩ = some (.int .i64 s.most) := cells_cell h.blk rfl
  have c0 : W.cell? ⟨p, 0, none⟩ = some (.slice A s.cells.length c) := cells_cell h.blk rfl
  have f0 : W.frozen? ⟨p, 0, none⟩ = false := cells_free h.blk
  have hl := h.len
  have hm1 := h.most1
  have bm : (s.most == 0) = false := beq_eq_false_iff_ne.mpr hm
  have H : Hid (Stk B W p A c s) := h
  rcases h.row.2 with ⟨hv, h0⟩ | ⟨g, cap, cur, hv, hb, hh, hle, _⟩
  · injection hv with h1 _ h3
    subst h1; subst h3
    have hn0 : n = 0 := by omega
    have hs0 : s.cells.length = 0 := h0
    rw [hs0] at c0
    subst hn0
    have HE : Hid _ := H.out.take (k := 0) (by omega)
    clear h
    go_enter Try.func20, Try.ntmps20
    go_wp2_with (first | (go_at_call 11; refine (len_any H.out).mono ?_; rintro e w' ⟨rfl, rfl⟩))
    all_goals first | (exfalso; simp only [beq_eq_false_iff_ne] at *; omega) | (go_ret; exact ⟨rfl, HE.out, (Chg.refl _ _).setCell (F := fun k => k = p) (fun _ => rfl) _⟩)
  · injection hv with h1 _ h3
    subst h1; subst h3
    have HE : Hid _ := H.out.take (k := n) hn
    have w1 : IntKind.i64.wrap (n : Int) = n := IntWalk.i64_in _ (by omega)
    have w2 : (n : Int) ≤ c := by omega
    have w3 : (n : Int) ≤ s.cells.length := by omega
    clear h
    go_enter Try.func20, Try.ntmps20
    go_wp2_with (first | (go_at_call 11; refine (len_any H.out).mono ?_; rintro e w' ⟨rfl, rfl⟩))
    all_goals first | (exfalso; simp only [beq_eq_false_iff_ne] at *; omega) | (go_ret; exact ⟨rfl, HE.out, (Chg.refl _ _).setCell (F := fun k => k = p) (fun _ => rfl) _⟩)

theorem new_bad (W : World) (most over under : Int) (h : most < 1 ∨ 4096 < most ∨ 0 ≤ over ∨ 0 ≤ under) :
    Calls Try.prog 9 #[.int .i64 most, .int .i32 over, .int .i32 under] W fun e W' => e = .returned (.tuple #[.pointer none, .int .i64 2]) ∧ W = W' := by
  go_enter Try.func9, Try.ntmps9
  go_wp2
  all_goals first | (exfalso; omega) | (go_ret2; exact ⟨rfl, rfl⟩)
theorem new_ok (W : World) (most over under : Int) (h1 : 1 ≤ most) (h2 : most ≤ 4096) (h3 : over < 0) (h4 : under < 0) {B : Nat} (hB : B ≤ W.heap.size) :
    Calls Try.prog 9 #[.int .i64 most, .int .i32 over, .int .i32 under] W fun e W' => e = .returned (.tuple #[ptr W.heap.size, .int .i64 0]) ∧ Stk B W' W.heap.size none 0 ⟨[], most, over, under⟩ ∧ Chg (fun _ => False) W W' := by
  have HE : Stk B (W.alloc (.cells #[.slice none 0 0, .int .i64 most, .int .i32 over, .int .i32 under] 54)) W.heap.size none 0 ⟨[], most, over, under⟩ :=
    ⟨hB, heap_alloc_new W _, World.ownsRow_nil _ _ _ _, by show 0 ≤ most; omega, h2, by show (0 : Int) ≤ most; omega, fun _ => ⟨h3, h4⟩⟩
  have HE : Hid _ := HE
  go_enter Try.func9, Try.ntmps9
  go_wp2
  all_goals first | (exfalso; omega) | (go_ret2; exact ⟨rfl, HE.out, (Chg.refl _ _).alloc _⟩)
end Go.Proofs.Yteoghagknececaa
