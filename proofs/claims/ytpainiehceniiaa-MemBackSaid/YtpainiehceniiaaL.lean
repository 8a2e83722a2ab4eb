/- Contracts of slices.Backward at []byte, and of Load. -/
import Derived.RangeFuncBox
import Derived.RangeFuncNested
import Derived.RangeFuncBound
import Derived.RangeFuncCalls
import Derived.RangeFuncLeaves
import Derived.Shelf.Abstract
import Derived.Shelf.RegionOpen
import Derived.WalkKit
import Derived.OwnWalkIn
import Derived.TacticsInMore
import Derived.LoopNIn
import Derived.LoopIn
import Derived.Maps.AppendAt
import Derived.Laws.ResultCell
import Derived.Test.YtpainiehceniiaaC
namespace Go.Proofs.Ytpainiehceniiaa
open Go.RowKit Go.Shelf
attribute [local go_sem] Oper.semAt_some
set_option linter.unusedVariables false

/-- places from k - 1 down to 0. -/
def down (n : Nat) : (k : Nat) → k ≤ n → List {i : Nat // i < n}
  | 0, _ => []
  | k + 1, h => ⟨k, h⟩ :: down n k (Nat.le_of_succ_le h)
theorem down_length (n : Nat) : ∀ k h, (down n k h).length = k
  | 0, _ => rfl
  | k + 1, h => by simp [down, down_length n k]
theorem down_mem (n : Nat) : ∀ k h (x : {i : Nat // i < n}), x ∈ down n k h ↔ x.1 < k
  | 0, _, x => by simp [down]
  | k + 1, h, x => by
    simp only [down, List.mem_cons, down_mem n k]
    constructor
    · rintro (rfl | h1)
      · exact Nat.lt_succ_self _
      · omega
    · intro h1
      by_cases e : x.1 = k
      · exact .inl (Subtype.ext e)
      · exact .inr (by omega)

/-- all blocks below n0 but x lie as they lay. -/
def KeepX (x n0 : Nat) (W W' : World) : Prop := ∀ k, k < n0 → k ≠ x → W'.heap[k]? = W.heap[k]?
theorem KeepX.cell {x n0 : Nat} {W W' : World} (h : KeepX x n0 W W') {p : Addr} (hp : p.block < n0) (hx : p.block ≠ x) : W'.cell? p = W.cell? p := by
  simp only [World.cell?]; rw [h _ hp hx]
theorem keepX_t {x n0 : Nat} {A B C : World} (h : KeepX x n0 A B) (k : KeepX x n0 B C) : KeepX x n0 A C := fun i hi hx => (k i hi hx).trans (h i hi hx)
theorem keepX_b {x n0 : Nat} {w : World} (hn : n0 ≤ w.heap.size) (W : World) (l : Nat) (o o' : Obj) (hl : w.heap.size ≤ l) (h : W.heap[l]? = some o) (_ : o.isCells = false) (_ : o.isWalk = false) : KeepX x n0 W (W.putObj l o') := fun k hk _ =>
  (grownBy_putObj' W l o').block k (by have := (Array.getElem?_eq_some_iff.1 h).1; omega) (fun e => by cases e; omega)
/-- bytes in a row that lies below block n0. -/
def BytesAt (n0 : Nat) (W : World) (A : Option Addr) (n : Nat) (bs : Nat → Int) : Prop :=
  ∀ i, i < n → ∃ ad, A = some ad ∧ ad.block < n0 ∧ W.cell? (ad.add i) = some (.int .u8 (bs i))
theorem BytesAt.below {m n0 n : Nat} {W W' : World} {A : Option Addr} {bs : Nat → Int} (h : BytesAt n0 W A n bs) (hm : n0 ≤ m) (hb : Below m W W') : BytesAt n0 W' A n bs := fun i hi => by
  obtain ⟨ad, hA, hl, h1⟩ := h i hi
  exact ⟨ad, hA, hl, (hb.cell (by rw [add_block]; omega)).trans h1⟩
theorem BytesAt.keep {m n0 n : Nat} {W W' : World} {A : Option Addr} {bs : Nat → Int} (h : BytesAt n0 W A n bs) (hm : n0 ≤ m) (hb : KeepX n0 m W W') : BytesAt n0 W' A n bs := fun i hi => by
  obtain ⟨ad, hA, hl, h1⟩ := h i hi
  exact ⟨ad, hA, hl, (hb.cell (by rw [add_block]; omega) (by rw [add_block]; omega)).trans h1⟩

theorem back_in (n : Nat) (A : Option Addr) (len c : Nat) (w : World) :
    CallsIn Fence.wide n Try.prog 33 #[.slice A len c] w fun e w' => e = .returned (.func (.func 36) #[] #[.pointer (some ⟨w.heap.size, 0, none⟩)]) ∧ w' = w.alloc (.cells #[.slice A len c] 22) := by
  refine callsIn_of_wp Try.func33 rfl trivial ?_ rfl
  simp only [Try.ntmps33, List.size_toArray, List.length_cons, List.length_nil, Nat.reduceAdd, Nat.reduceSub, Array.replicate_succ, Array.replicate_zero, List.push_toArray, List.append_toArray, List.nil_append, List.cons_append]
  gi_wp2
  go_ret
  exact ⟨rfl, rfl⟩

set_option maxRecDepth 100000 in
set_option maxHeartbeats 1000000 in
theorem back1_in (n : Nat) (hn : 1 ≤ n) (l Bn xb n0 : Nat) (A : Option Addr) (len c : Nat) (bs : Nat → Int) (hlen : len ≤ maxLen) (hBn : Bn < n0) (hBx : Bn ≠ xb) (hxn : xb ≤ n0) (J Jx : List {i : Nat // i < len} → World → Prop)
    (hY : ∀ pre x W, J pre W → pre.length < len → YieldAt Fence.wide (n - 1) Try.prog l #[.int .i64 (x.1 : Nat), .int .u8 (bs x.1)] W fun e W' =>
      (e = .returned (.bool true) ∧ J (pre ++ [x]) W' ∧ KeepX xb n0 W W') ∨ (e = .returned (.bool false) ∧ Jx (pre ++ [x]) W'))
    (W : World) (hc : W.cell? ⟨Bn, 0, none⟩ = some (.slice A len c)) (hw : BytesAt xb W A len bs) (h0 : J [] W) :
    CallsIn Fence.wide n Try.prog 36 #[.func (.yield l) #[] #[], .pointer (some ⟨Bn, 0, none⟩)] W fun e W' => (∃ v, e = .returned v) ∧
      ((∃ ys, ys = down len len (Nat.le_refl _) ∧ J ys W') ∨ (∃ pre, pre <+: down len len (Nat.le_refl _) ∧ Jx pre W')) := by
  unfold maxLen at hlen
  refine callsIn_of_wp Try.func36 rfl trivial ?_ rfl
  simp only [Try.ntmps36, List.size_toArray, List.length_cons, List.length_nil, Nat.reduceAdd, Nat.reduceSub, Array.replicate_succ, Array.replicate_zero, List.push_toArray, List.append_toArray, List.nil_append, List.cons_append]
  gi_wp2
  gi_loopw [3] (fun p wr => ∃ (pre : List {i : Nat // i < len}) (k : Nat) (hk : k ≤ len), p = .int .i64 ((k : Int) - 1) ∧ Hid (down len len (Nat.le_refl _) = pre ++ down len k hk) ∧ J pre wr ∧ wr.cell? ⟨Bn, 0, none⟩ = some (.slice A len c) ∧ Hid (BytesAt xb wr A len bs))
    (fun p _ => (intOf p + 1).toNat)
  case atStart =>
    exact ⟨[], len, Nat.le_refl _, rfl, rfl, h0, hc, hw⟩
  case round =>
    obtain ⟨pre, k, hk, rfl, hx, hJs, hcr, hwr⟩ := hrel
    cases k with
    | zero =>
      gi_wp2
      go_end0
      have := hx.out
      rw [show down len 0 hk = [] from rfl, List.append_nil] at this
      exact ⟨⟨_, rfl⟩, .inl ⟨pre, this.symm, hJs⟩⟩
    | succ k =>
      have hlt : pre.length < len := by
        have := congrArg List.length hx.out
        rw [down_length, List.length_append, down_length] at this; omega
      obtain ⟨fn, tmps, assign, body, hy, hR⟩ := hY pre ⟨k, hk⟩ wr hJs hlt
      obtain ⟨ad, rfl, hadb, c0⟩ := hwr.out k hk
      have e1 : (((k + 1 : Nat) : Int) - 1) = (k : Int) := by omega
      rw [e1]
      have q1 : 0 ≤ (k : Int) := by omega
      have q2 : (k : Int) < (len : Int) := by omega
      dsimp only at hy
      gi_wp2
      refine hR.mono ?_
      rintro e W3 (⟨rfl, hJ3, hk3⟩ | ⟨rfl, hJx3⟩)
      · have hc3 : W3.cell? ⟨Bn, 0, none⟩ = some (.slice (some ad) len c) := (hk3.cell (p := ⟨Bn, 0, none⟩) hBn hBx).trans hcr
        gi_wp2
        go_roundw
        case rel => exact ⟨pre ++ [⟨k, hk⟩], k, by omega, rfl, by show _ = _; rw [hx.out]; simp [down], hJ3, hc3, hwr.out.keep hxn hk3⟩
        case measure => simp [intOf]
      · gi_wp2
        refine bodyPost_ret (results_none rfl _ _ _) rfl ?_
        exact ⟨⟨_, rfl⟩, .inr ⟨pre ++ [⟨k, hk⟩], ⟨down len k (by omega), by rw [hx.out]; simp [down]⟩, hJx3⟩⟩

theorem back_stops (n : Nat) (hn : 1 ≤ n) (Bn xb n0 : Nat) (A : Option Addr) (len c : Nat) (bs : Nat → Int) (hlen : len ≤ maxLen) (hBn : Bn < n0) (hBx : Bn ≠ xb) (hxn : xb ≤ n0) (w : World) (hn0 : n0 ≤ w.heap.size)
    (hc : w.cell? ⟨Bn, 0, none⟩ = some (.slice A len c)) (hw : BytesAt xb w A len bs) :
    SeqStopsK Fence.wide n Try.prog 36 #[.pointer (some ⟨Bn, 0, none⟩)] (fun x : {i : Nat // i < len} => #[.int .i64 (x.1 : Nat), .int .u8 (bs x.1)]) (KeepX xb n0) (fun ys => ys = down len len (Nat.le_refl _)) (fun pre => pre <+: down len len (Nat.le_refl _)) len w := fun l J Jx W hW _ _ hY h0 =>
  back1_in n hn l Bn xb n0 A len c bs hlen hBn hBx hxn J Jx hY W ((hW.cell (p := ⟨Bn, 0, none⟩) (by show Bn < _; omega)).trans hc) (hw.below (Nat.le_trans hxn hn0) hW) h0

theorem boxed_below {W W' : World} {B : Nat} {t : TypeId} {v : Value} (hb : Below W.heap.size W W') (h : Boxed W B t v) : Boxed W' B t v := (hb.block B h.lt).trans h
theorem keepsFrom_below (B : Nat) {W W' : World} (h : Below W.heap.size W W') : KeepsFrom B W W' :=
  ⟨h.size, fun k _ _ hk _ => (h.block k (Array.getElem?_eq_some_iff.1 hk).1).trans hk⟩


/-- what Load's loop tells. -/
def gather (bs : Nat → Int) {n : Nat} (pre : List {i : Nat // i < n}) : Int := pre.foldl (fun a x => bits .or .u32 (a * 256 % 4294967296) (bs x.1 % 4294967296)) 0
theorem gather_snoc (bs : Nat → Int) {n : Nat} (pre : List {i : Nat // i < n}) (x : {i : Nat // i < n}) : gather bs (pre ++ [x]) = bits .or .u32 (gather bs pre * 256 % 4294967296) (bs x.1 % 4294967296) := by simp [gather, List.foldl_append]
set_option maxRecDepth 100000 in
set_option maxHeartbeats 2000000 in
theorem load_core {W : World} {p : Nat} (at' : Nat) (X : Option Addr) (n : Nat) (hn : n ≤ 4) (b : Bool) (r : Int) (bs : Nat → Int) (hb : BytesAt W.heap.size W X n bs)
    (HA : Hid (Calls Try.prog 26 #[ptr p, .int .u32 at'] W fun e W' => e = .returned (.int .i32 0) ∧ W = W'))
    (HP : Hid (Calls Try.prog 30 #[ptr p, .int .u32 at', .int .u32 4] W fun e W' => e = .returned (.tuple #[.slice X n n, .bool b, .int .i32 r]) ∧ W = W')) :
    Calls Try.prog 21 #[ptr p, .int .u32 at'] W fun e W' => e = .returned (.tuple #[.int .u32 (gather bs (down n n (Nat.le_refl _))), .int .i32 r]) ∧ Below W.heap.size W W' := by
  refine (callsIn_wide (n := 6)).1 ?_
  refine callsIn_of_wp_marks Try.func21 rfl trivial ?_ rfl
  simp only [Try.ntmps21, List.size_toArray, List.length_cons, List.length_nil, Nat.reduceAdd, Nat.reduceSub, Array.replicate_succ, Array.replicate_zero, List.push_toArray, List.append_toArray, List.nil_append, List.cons_append]
  gi_wp2_with (refine ⟨trivial, ?_⟩; first | (gi_at_call 26; refine (callsIn_wide.2 HA.out).mono ?_; rintro e w' ⟨rfl, rfl⟩) | (gi_at_call 30; refine (callsIn_wide.2 HP.out).mono ?_; rintro e w' ⟨rfl, rfl⟩) | (gi_at_call 33; refine (back_in _ _ _ _ _).mono ?_; rintro e w' ⟨rfl, rfl⟩))
  have bX := (Boxed.new W 32 (.int .u32 0)).alloc (.cells #[.slice X n n] 22)
  have bS := Boxed.new (W.alloc (.cells #[.int .u32 0] 32)) 22 (.slice X n n)
  simp only [World.size_alloc] at bS
  have hB0 : Below W.heap.size W ((W.alloc (.cells #[.int .u32 0] 32)).alloc (.cells #[.slice X n n] 22)) := ((Below.refl _ W).alloc (Nat.le_refl _) _).alloc (by simp) _
  have hsz : ((W.alloc (.cells #[.int .u32 0] 32)).alloc (.cells #[.slice X n n] 22)).heap.size = W.heap.size + 2 := by simp
  obtain ⟨W0, hW0⟩ : ∃ W0, (W.alloc (.cells #[.int .u32 0] 32)).alloc (.cells #[.slice X n n] 22) = W0 := ⟨_, rfl⟩
  rw [hW0] at bX bS hB0 hsz ⊢
  clear hW0
  refine wpIn_rangeFunc_ownG rfl (by omega) (gf := 36) (lb := #[.pointer (some ⟨W.heap.size + 1, 0, none⟩)]) rfl trivial (enters_of Try.func36 (by kernel_rfl) rfl)
    (back_stops (6 - 1) (by omega) (W.heap.size + 1) W.heap.size W0.heap.size X n n bs (by unfold maxLen; omega) (by omega) (by omega) (by omega) W0 (Nat.le_refl _) bS.cell (hb.below (Nat.le_refl _) hB0)) keepX_t (keepX_b (Nat.le_refl _)) (Below.refl _ _) (fun _ => rfl)
    (fun pre W1 => Boxed W1 W.heap.size 32 (.int .u32 (gather bs pre)) ∧ Below W.heap.size W W1)
    (fun _ _ _ => False)
    (OwnFrom.and (Own.from (boxed_own (β := List {i : Nat // i < n}) W.heap.size 32 (fun pre => .int .u32 (gather bs pre))) _) (ownFrom_below (Nat.le_refl _) (by omega)))
    (fun _ _ _ _ _ hs _ _ => hs)
    ⟨bX, hB0⟩
    (fun x => { tmps := #[ptr p, .int .u32 at', undef, undef, .int .u32 0, .int .i32 0, .int .i32 0, .slice X n n, .bool b, .int .i32 r, .pointer (some ⟨W.heap.size, 0, none⟩), undef, .int .u8 (bs x.1), ptr p, .int .u32 at', .int .i32 0, .int .i32 0, .bool false, undef, .tuple #[.slice X n n, .bool b, .int .i32 r], ptr p, .int .u32 at', .tuple #[.slice X n n, .bool b, .int .i32 r], .slice X n n, .bool b, .int .i32 r, .slice X n n, .func (.func 36) #[] #[.pointer (some ⟨W.heap.size + 1, 0, none⟩)], .int .i64 (x.1 : Nat), .int .u8 (bs x.1), undef, undef, undef, undef, undef, undef, undef], defers := [] }) ?assign ?body ?done ?stop
  case assign =>
    intro l x W1 K hK
    gi_wp2
    exact hK
  case body =>
    rintro l pre x W1 ⟨hv, hB⟩ hlt
    have hc := hv.cell
    have hf := hv.frozen
    gi_wp2
    exact ⟨(KeepsOthers.setCell _ _ _).from _, fun k _ hx => Below.heap_setCell _ _ _ _ hx, by rw [gather_snoc]; exact hv.set _, hB.setCell (p := ⟨W.heap.size, 0, none⟩) (Nat.le_refl _) _⟩
  case done =>
    rintro D ys W1 hD rfl ⟨hv, hB⟩ hK
    have hc := hv.cell
    gi_wp2
    refine ⟨by simp, .inl ⟨_, _, rfl, run_takeDeferred hK, ?_⟩⟩
    exact ⟨_, results_tmp2 rfl _ _ _, rfl, hB.trans (belowK_b (w := W) (Nat.le_refl _) W1 D _ _ (by omega) hK rfl rfl)⟩
  case stop =>
    rintro D c pre W1 _ _ h _
    exact h.elim
end Go.Proofs.Ytpainiehceniiaa
