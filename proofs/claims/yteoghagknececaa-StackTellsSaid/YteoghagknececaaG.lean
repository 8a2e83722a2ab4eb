/- the contracts with the answers given; awake. -/
import Derived.Test.YteoghagknececaaF
namespace Go.Proofs.Yteoghagknececaa
open Go.RowKit Go.Proofs.YteoghagknececaaW.PrintWords Go.Proofs.YteoghagknececaaW.PrintMore

theorem Stk.new {B : Nat} {W : World} {p : Nat} {A : Option Addr} {c : Nat} {s : St} (h : Stk B W p A c s) {k : Nat} (hk : Foot p A k) : B ≤ k := by
  rcases hk with rfl | hk
  · exact h.base
  · exact (row_lt h.row (by rwa [own_block A _ _ 0 0])).1
theorem Chg.foot {F : Nat → Prop} {W W1 W2 : World} {p : Nat} {A : Option Addr} {c : Nat} {s : St} (h : Chg F W W1) (H : Stk W.heap.size W1 p A c s) (h2 : Chg (Foot p A) W1 W2) : Chg F W W2 :=
  h.trans h2 fun k hk hf => by have := H.new hf; omega
theorem Chg.one {F : Nat → Prop} {W W1 W2 : World} {p : Nat} {A : Option Addr} {c : Nat} {s : St} (h : Chg F W W1) (H : Stk W.heap.size W1 p A c s) (h2 : Chg (fun k => k = p) W1 W2) : Chg F W W2 :=
  h.trans h2 fun k hk hf => by have := H.new (k := k) (.inl hf); omega
theorem Chg.foot1 {W W1 : World} {p : Nat} {A : Option Addr} (h : Chg (fun k => k = p) W W1) : Chg (Foot p A) W W1 := h.mono fun _ _ h => .inl h

variable {B : Nat} {W : World} {p : Nat} {A : Option Addr} {c : Nat} {s : St}
theorem push_no (h : Stk B W p A c s) (X : Option Addr) (m cx : Nat) (r : Int) (hm : m ≤ 2 ^ 47) (hb : s.may 0 m = r) (h0 : r ≠ 0) :
    Calls Try.prog 13 #[ptr p, .slice X m cx] W fun e W' => e = .returned (.int .i32 r) ∧ W = W' := by
  subst hb; exact push_bad h X m cx hm h0
theorem push_yes (h : Stk B W p A c s) (hB : B ≤ W.heap.size) (X : Option Addr) (m cx : Nat) (ys l : List Int) (hm : ys.length = m) (hsrc : Src W X cx ys) (hb : s.may 0 m = 0) (hl : (s.cells.length + m : Int) ≤ s.most) (hc : s.cells ++ ys = l) :
    Calls Try.prog 13 #[ptr p, .slice X m cx] W fun e W' => e = .returned (.int .i32 0) ∧ Chg (Foot p A) W W' ∧ ∃ A' c', Stk B W' p A' c' { s with cells := l } ∧ At A' A W.heap.size := by
  subst hc; exact push_ok h hB X m cx ys hm hsrc hb hl
theorem may_is (h : Stk B W p A c s) (t g r : Int) (ht : t ≤ 2 ^ 63 - 1) (hr : s.may t g = r) :
    Calls Try.prog 24 #[ptr p, .int .i64 t, .int .i64 g] W fun e W' => e = .returned (.int .i32 r) ∧ W = W' := by
  subst hr; exact may_any h t g ht
theorem pop_no (h : Stk B W p A c s) (r : Int) (hi : s.cells = []) (hr : s.few = r) :
    Calls Try.prog 15 #[ptr p] W fun e W' => e = .returned (.tuple #[.int .u32 0, .int .i32 r]) ∧ W = W' := by
  subst hr; exact pop_bad h hi
theorem peek_no (h : Stk B W p A c s) (i r : Int) (hi : i < 0 ∨ (s.cells.length : Int) ≤ i) (hr : s.few = r) :
    Calls Try.prog 21 #[ptr p, .int .i64 i] W fun e W' => e = .returned (.tuple #[.int .u32 0, .int .i32 r]) ∧ W = W' := by
  subst hr; exact peek_bad h i hi
theorem roll_no (h : Stk B W p A c s) (i r : Int) (hi : i < 0 ∨ (s.cells.length : Int) ≤ i) (hr : s.few = r) :
    Calls Try.prog 18 #[ptr p, .int .i64 i] W fun e W' => e = .returned (.int .i32 r) ∧ W = W' := by
  subst hr; exact roll_bad h i hi
theorem roll_yes (h : Stk B W p A c s) (hB : B ≤ W.heap.size) (i : Nat) (l : List Int) (hi : i < s.cells.length) (hl : rolled s.cells i = l) :
    Calls Try.prog 18 #[ptr p, .int .i64 i] W fun e W' => e = .returned (.int .i32 0) ∧ Chg (Foot p A) W W' ∧ ∃ A' c', Stk B W' p A' c' { s with cells := l } ∧ At A' A W.heap.size := by
  subst hl; exact roll_ok h hB i hi
theorem cut_no (h : Stk B W p A c s) (n r : Int) (hn : n < 0 ∨ (s.cells.length : Int) < n ∨ s.most = 0) (hr : s.few = r) :
    Calls Try.prog 20 #[ptr p, .int .i64 n] W fun e W' => e = .returned (.int .i32 r) ∧ W = W' := by
  subst hr; exact cut_bad h n hn
theorem cut_yes (h : Stk B W p A c s) (n : Nat) (l : List Int) (hn : n ≤ s.cells.length) (hm : s.most ≠ 0) (hl : s.cells.take n = l) :
    Calls Try.prog 20 #[ptr p, .int .i64 n] W fun e W' => e = .returned (.int .i32 0) ∧ Stk B W' p A c { s with cells := l } ∧ Chg (fun k => k = p) W W' := by
  subst hl; exact cut_ok h n hn hm
theorem cells_is {W : World} {A A1 : Option Addr} {n c n1 c1 : Nat} {l l1 : List Int} (b : Bool) (h : Src W A c l) (h1 : Src W A1 c1 l1) (hn : l.length = n) (hn1 : l1.length = n1) (hb : n ≤ 2 ^ 47) (hb1 : n1 ≤ 2 ^ 47) (he : decide (l = l1) = b) :
    Calls Try.prog 22 #[.slice A n c, .slice A1 n1 c1] W fun e W' => e = .returned (.bool b) ∧ Chg Not W W' := by
  subst he; exact cells_any h h1 hn hn1 hb hb1
theorem src_build (w : World) (ys : List Int) : Src (w.alloc (.cells (ys.map (Value.int .u32)).toArray 40)) (some ⟨w.heap.size, 0, none⟩) ys.length ys := by
  refine ⟨fun h => (by cases h), fun ad ha j u hu => ?_⟩
  injection ha with ha
  subst ha
  have hb := heap_alloc_new w (.cells (ys.map (Value.int .u32)).toArray 40)
  unfold Addr.add
  split
  · rename_i h0; rw [h0] at hu; exact cells_cell hb (by simpa using hu)
  · exact cells_cell hb (by simpa using hu)

end Go.Proofs.Yteoghagknececaa
