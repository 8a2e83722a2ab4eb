/- Contracts of parse.words (its iterator) and parse.Words. -/
import Derived.RangeFuncBox
import Derived.RangeFuncNested
import Derived.RangeFuncBound
import Derived.RangeFuncCalls
import Derived.RangeFuncLeaves
import Derived.Shelf.Abstract
import Derived.Shelf.RegionOpen
import Derived.WalkKit
import Derived.OwnWalkIn
import Derived.TacticsInMore
import Derived.LoopNIn
import Derived.LoopIn
import Derived.Maps.AppendAt
import Derived.Test.YtnlmndafmgkcfaaB
namespace Go.Proofs.Ytnlmndafmgkcfaa
open Go.RowKit Go.Shelf
attribute [local go_sem] Oper.semAt_some

/-- block B lies as it lay. -/
def KeepB (B : Nat) (W W' : World) : Prop := W'.heap[B]? = W.heap[B]?
theorem KeepB.cell {B : Nat} {W W' : World} (h : KeepB B W W') {o : Nat} {sp : Option Nat} : W'.cell? ⟨B, o, sp⟩ = W.cell? ⟨B, o, sp⟩ := World.cell?_of_block h
theorem keepB_t {n : Nat} {A B C : World} (h : KeepB n A B) (k : KeepB n B C) : KeepB n A C := Eq.trans k h
theorem keepB_b {n : Nat} {w : World} (hn : n < w.heap.size) (W : World) (l : Nat) (o o' : Obj) (hl : w.heap.size ≤ l) (h : W.heap[l]? = some o) (_ : o.isCells = false) (_ : o.isWalk = false) : KeepB n W (W.putObj l o') :=
  (grownBy_putObj' W l o').block n (by have := (Array.getElem?_eq_some_iff.1 h).1; omega) (fun e => by cases e; omega)
theorem row_mono {W : World} {b b' : Nat} {e : TypeId} {size : Nat} {v : Value} {k : Nat} {xs : List Value} (h : W.ownsRow b e size v k xs) (hb : b' ≤ b) : W.ownsRow b' e size v k xs := by
  refine ⟨h.1, ?_⟩
  rcases h.2 with h2 | ⟨g, cap, cur, r0, r1, r2⟩
  · exact .inl h2
  · exact .inr ⟨g, cap, cur, r0, Nat.le_trans hb r1, r2⟩
theorem row_ne_low {W : World} {b n : Nat} {e : TypeId} {size : Nat} {v : Value} {k : Nat} {xs : List Value} (h : W.ownsRow b e size v k xs) (hn : n < b) : v.ownBlock = none ∨ v.ownBlock ≠ some n := by
  rcases h.2 with ⟨rfl, _⟩ | ⟨g, cap, cur, rfl, r1, r2⟩
  · exact .inl rfl
  · exact .inr fun e' => by
      obtain rfl : g = n := by simpa [Value.ownBlock] using e'
      omega
theorem keepB_appended {W w1 : World} {n0 B Bn : Nat} {e : TypeId} {size : Nat} {v : Value} {k : Nat} {xs : List Value} {tmp : Obj} (hlt : Bn < W.heap.size) (hne : Bn ≠ B) (hrow : W.ownsRow n0 e size v k xs) (hbn : Bn < n0)
    (hgrow : (W.alloc tmp).grownBy w1 v.ownBlock) (u : Value) : KeepB Bn W (w1.setCell ⟨B, 0, none⟩ u) := by
  have h1 : w1.heap[Bn]? = (W.alloc tmp).heap[Bn]? := hgrow.block Bn (by simp; omega) (by
    rcases row_ne_low hrow hbn with h | h
    · rw [h]; simp
    · exact fun h' => h h'.symm)
  show (w1.setCell ⟨B, 0, none⟩ u).heap[Bn]? = W.heap[Bn]?
  rw [Below.heap_setCell _ _ _ _ hne, h1, Below.heap_alloc _ _ _ hlt]
theorem ownFrom_size {α : Type} {B : Nat} (m : Nat) : OwnFrom B (fun (_ : α) (W : World) => m ≤ W.heap.size) := fun _ _ _ _ hs hg _ => Nat.le_trans hs hg.size

theorem words_in (n : Nat) (s : ByteArray) (w : World) :
    CallsIn Fence.wide n Try.prog 19 #[.string s] w fun e w' => e = .returned (.func (.func 21) #[] #[.pointer (some ⟨w.heap.size, 0, none⟩)]) ∧ w' = w.alloc (.cells #[.string s] 9) := by
  refine callsIn_of_wp Try.func19 rfl trivial ?_ rfl
  simp only [Try.ntmps19, List.size_toArray, List.length_cons, List.length_nil, Nat.reduceAdd, Nat.reduceSub, Array.replicate_succ, Array.replicate_zero, List.push_toArray, List.append_toArray, List.nil_append, List.cons_append]
  gi_wp2
  go_ret
  exact ⟨rfl, rfl⟩

set_option maxRecDepth 100000 in
set_option maxHeartbeats 1000000 in
theorem words1_in (n : Nat) (hn : 1 ≤ n) (l Bn : Nat) (s : ByteArray) (hs : s.size ≤ 140737488355328) (J Jx : List ByteArray → World → Prop)
    (hY : ∀ pre x W, J pre W → pre.length < (wordsOf s 0).length → YieldAt Fence.wide (n - 1) Try.prog l #[.string x] W fun e W' =>
      (e = .returned (.bool true) ∧ J (pre ++ [x]) W' ∧ KeepB Bn W W') ∨ (e = .returned (.bool false) ∧ Jx (pre ++ [x]) W'))
    (W : World) (hc : W.cell? ⟨Bn, 0, none⟩ = some (.string s)) (h0 : J [] W) :
    CallsIn Fence.wide n Try.prog 21 #[.func (.yield l) #[] #[], .pointer (some ⟨Bn, 0, none⟩)] W fun e W' => (∃ v, e = .returned v) ∧
      ((∃ ys, ys = wordsOf s 0 ∧ J ys W') ∨ (∃ pre, pre <+: wordsOf s 0 ∧ Jx pre W')) := by
  refine callsIn_of_wp Try.func21 rfl trivial ?_ rfl
  simp only [Try.ntmps21, List.size_toArray, List.length_cons, List.length_nil, Nat.reduceAdd, Nat.reduceSub, Array.replicate_succ, Array.replicate_zero, List.push_toArray, List.append_toArray, List.nil_append, List.cons_append]
  gi_wp2
  gi_loopw [3] (fun p wr => ∃ (pre : List ByteArray) (k : Nat), p = .int .i64 k ∧ k ≤ s.size ∧ Hid (wordsOf s 0 = pre ++ wordsOf s k) ∧ J pre wr ∧ wr.cell? ⟨Bn, 0, none⟩ = some (.string s))
    (fun p _ => s.size - (intOf p).toNat)
  case atStart =>
    exact ⟨[], 0, rfl, Nat.zero_le _, rfl, h0, hc⟩
  case round =>
    obtain ⟨pre, k, rfl, hk, hx, hJs, hcr⟩ := hrel
    by_cases hlt : k < s.size
    · have hgt := nNext_gt s k hlt
      have hle := nNext_le s (k : Int)
      by_cases hw : nFrom s (k : Int) < nTo s (k : Int)
      · have hsz := nWord_size s (k : Int)
        have hne : (nWord s (k : Int)).toList ≠ [] := fun h => by
          have h2 : (nWord s (k : Int)).data.toList.length = 0 := by
            have : (nWord s (k : Int)).toList = (nWord s (k : Int)).data.toList := ByteArray.toList_eq _
            rw [← this, h]; rfl
          have h3 : (nWord s (k : Int)).size = 0 := by simpa using h2
          omega
        have e1 : ((nWord s (k : Int)).toList == []) = false := beq_eq_false_iff_ne.mpr hne
        have e2 : ((nWord s (k : Int)).toList != []) = true := bne_iff_ne.mpr hne
        have e3 : (nWord s (k : Int)).toList.isEmpty = false := by cases h : (nWord s (k : Int)).toList with | nil => exact absurd h hne | cons => rfl
        have hlen : pre.length < (wordsOf s 0).length := by
          have := congrArg List.length hx.out
          rw [wordsOf_word hlt hw] at this
          simp at this; omega
        obtain ⟨fn, tmps, assign, body, hy, hR⟩ := hY pre (nWord s (k : Int)) wr hJs hlen
        generalize hW : nWord s (k : Int) = wd at *
        generalize hN : nNext s (k : Int) = nx at *
        have HW : Hid (nWord s (k : Int) = wd) := hW
        have HN : Hid (nNext s (k : Int) = nx) := hN
        have HC : Hid (∀ w : World, Calls Try.prog 8 #[.string s, .int .i64 (k : Int)] w fun e w' => e = .returned (.tuple #[.string wd, .int .i64 (nx : Nat)]) ∧ w = w') := by
          intro w; have h := next_any s k w hs; rw [hW, hN] at h; exact h
        clear hW hN
        gi_wp2_with (refine ⟨trivial, ?_⟩; gi_at_call 8; refine (callsIn_wide.2 (HC.out _)).mono ?_; rintro e w' ⟨rfl, rfl⟩)
        refine hR.mono ?_
        rintro e W3 (⟨rfl, hJ3, hk3⟩ | ⟨rfl, hJx3⟩)
        · have hc3 : W3.cell? ⟨Bn, 0, none⟩ = some (.string s) := hk3.cell.trans hcr
          gi_wp2
          go_roundw
          case rel => exact ⟨pre ++ [wd], nx, rfl, hle, by show _ = _; rw [hx.out, wordsOf_word hlt hw, HW.out, HN.out]; simp, hJ3, hc3⟩
          case measure => simp [intOf]; omega
        · gi_wp2
          refine bodyPost_ret (results_none rfl _ _ _) rfl ?_
          exact ⟨⟨_, rfl⟩, .inr ⟨pre ++ [wd], ⟨wordsOf s nx, by rw [hx.out, wordsOf_word hlt hw, HW.out, HN.out]; simp⟩, hJx3⟩⟩
      · have hsz := nWord_size s (k : Int)
        have hem : (nWord s (k : Int)).toList = [] := by
          have : (nWord s (k : Int)).toList = (nWord s (k : Int)).data.toList := ByteArray.toList_eq _
          rw [this]
          apply List.eq_nil_of_length_eq_zero
          have : (nWord s (k : Int)).data.toList.length = (nWord s (k : Int)).size := by simp
          omega
        generalize hW : nWord s (k : Int) = wd at *
        generalize hN : nNext s (k : Int) = nx at *
        have HN : Hid (nNext s (k : Int) = nx) := hN
        have HC : Hid (∀ w : World, Calls Try.prog 8 #[.string s, .int .i64 (k : Int)] w fun e w' => e = .returned (.tuple #[.string wd, .int .i64 (nx : Nat)]) ∧ w = w') := by
          intro w; have h := next_any s k w hs; rw [hW, hN] at h; exact h
        clear hW hN
        have e1 : (wd.toList == []) = true := by rw [hem]; rfl
        have e2 : (wd.toList != []) = false := by rw [hem]; rfl
        have e3 : wd.toList.isEmpty = true := by rw [hem]; rfl
        gi_wp2_with (refine ⟨trivial, ?_⟩; gi_at_call 8; refine (callsIn_wide.2 (HC.out _)).mono ?_; rintro e w' ⟨rfl, rfl⟩)
        refine ⟨fun _ h => (by cases h), ?_⟩
        gi_wp2
        go_roundw
        case rel => exact ⟨pre, nx, rfl, hle, by show _ = _; rw [hx.out, wordsOf_none hlt hw, HN.out], hJs, hcr⟩
        case measure => simp [intOf]; omega
    · gi_wp2
      go_end0
      have := hx.out
      rw [wordsOf_end hlt, List.append_nil] at this
      exact ⟨⟨_, rfl⟩, .inl ⟨pre, this.symm, hJs⟩⟩

theorem words_stops (n : Nat) (hn : 1 ≤ n) (Bn : Nat) (s : ByteArray) (hs : s.size ≤ 140737488355328) (w : World) (hBn : Bn < w.heap.size)
    (hc : w.cell? ⟨Bn, 0, none⟩ = some (.string s)) :
    SeqStopsK Fence.wide n Try.prog 21 #[.pointer (some ⟨Bn, 0, none⟩)] (fun x : ByteArray => #[Value.string x]) (KeepB Bn) (fun ys => ys = wordsOf s 0) (fun pre => pre <+: wordsOf s 0) (wordsOf s 0).length w := fun l J Jx W hW _ _ hY h0 =>
  words1_in n hn l Bn s hs J Jx hY W ((hW.cell (p := ⟨Bn, 0, none⟩) hBn).trans hc) h0

theorem info9 : (Try.prog.info? 9).map (fun i => (i.zero, i.size, i.bytes)) = some (some (.string ⟨#[]⟩), 1, 16) := by kernel_rfl

set_option maxRecDepth 100000 in
set_option maxHeartbeats 2000000 in
theorem words_any (s : ByteArray) (hs : s.size ≤ 1048576) (w : World) :
    Calls Try.prog 14 #[.string s] w fun e W' => ∃ v, e = .returned v ∧ W'.ownsRow w.heap.size 9 1 v (wordsOf s 0).length ((wordsOf s 0).map Value.string) ∧ Below w.heap.size w W' := by
  have hlen := wordsOf_length s 0
  have hs2 : s.size ≤ 140737488355328 := by omega
  refine (callsIn_wide (n := 3)).1 ?_
  obtain ⟨i0, hi, hz0, hz1, hz2⟩ := info_parts info9
  refine callsIn_of_wp_marks Try.func14 rfl trivial ?_ rfl
  simp only [Try.ntmps14, List.size_toArray, List.length_cons, List.length_nil, Nat.reduceAdd, Nat.reduceSub, Array.replicate_succ, Array.replicate_zero, List.push_toArray, List.append_toArray, List.nil_append, List.cons_append]
  gi_wp2_with (refine ⟨trivial, ?_⟩; gi_at_call 19; refine (words_in _ _ _).mono ?_; rintro e w' ⟨rfl, rfl⟩)
  have bO := Boxed.new w 29 (.slice none 0 0)
  have bN := Boxed.new (w.alloc (.cells #[.slice none 0 0] 29)) 9 (.string s)
  rw [World.size_alloc] at bN
  have hB0 : Below w.heap.size w ((w.alloc (.cells #[.slice none 0 0] 29)).alloc (.cells #[.string s] 9)) := ((Below.refl _ w).alloc (Nat.le_refl _) _).alloc (by simp) _
  refine wpIn_rangeFunc_ownG rfl (by omega) (gf := 21) (lb := #[.pointer (some ⟨w.heap.size + 1, 0, none⟩)]) rfl trivial (enters_of Try.func21 (by kernel_rfl) rfl)
    (words_stops (3 - 1) (by omega) (w.heap.size + 1) s hs2 _ (by simp) bN.cell) keepB_t (keepB_b (by simp)) (Below.refl _ _) (fun _ => rfl)
    (fun pre W => (∃ v, Boxed W w.heap.size 29 v ∧ W.ownsRow (w.heap.size + 2) 9 1 v pre.length (pre.map Value.string) ∧ True) ∧ Below w.heap.size w W ∧ w.heap.size + 2 ≤ W.heap.size)
    (fun _ _ _ => False)
    (OwnFrom.and (Own.from (holdsRow_own (β := List ByteArray) (w.heap.size + 2) w.heap.size 29 9 1 (fun pre => pre.length) (fun pre => pre.map Value.string) (fun _ _ => True)) _) (OwnFrom.and (ownFrom_below (Nat.le_refl _) (by simp; omega)) (ownFrom_size _)))
    (fun _ _ _ _ _ hs _ _ => hs)
    ⟨⟨_, bO.alloc _, World.ownsRow_nil _ _ _ _, trivial⟩, hB0, by simp⟩
    (fun x => { tmps := #[.string s, undef, .slice none 0 0, .pointer (some ⟨w.heap.size, 0, none⟩), .string x, .string s, .func (.func 21) #[] #[.pointer (some ⟨w.heap.size + 1, 0, none⟩)], .string x, undef, undef, undef, undef, undef], defers := [] }) ?assign ?body ?done ?stop
  case assign =>
    intro l x W K hK
    gi_wp2
    exact hK
  case body =>
    rintro l pre x W ⟨⟨v, hv, hrow, _⟩, hB, hsz⟩ hlt
    have hc := hv.cell
    gi_wp2_with (gi_at_builtin; refine wpListIn_append_own _ rfl _ _ 29 rfl (w.heap.size + 2) 9 i0 (.string ⟨#[]⟩) 1 16 Try.underlying29 hi hz0 hz1 hz2 rfl (by decide) _ _ _ rfl (hrow.alloc _) ⟨W.heap.size, 0, none⟩ 1 1 [.string x] rfl rfl (cell_one_new _ _ _) (by simp [Value.oneCell']) (by unfold maxLen; omega) (by omega) (by simp; omega) ?_; intro v' w1 hown' hgrow _; obtain ⟨g', cap', rfl⟩ := ownsRow_succ hown'; obtain ⟨hv1, hv2, hr2, hk2, hb2⟩ := hv.appended (n₀ := w.heap.size) (by decide) (row_mono hrow (by omega)) hB.size (Nat.le_refl _) (row_mono hown' (by omega)) hgrow; have hkb := keepB_appended (Bn := w.heap.size + 1) (B := w.heap.size) (by omega) (by omega) hrow (by omega) hgrow (Value.slice (some ⟨g', 0, none⟩) (pre.length + 1) cap'); have hr3 := hown'.kept (grownBy_setCell' w1 w.heap.size (Value.slice (some ⟨g', 0, none⟩) (pre.length + 1) cap')) (row_ne_low hown' (by omega)); have hsz2 := hgrow.size; have hc1 := hv1.cell; have hf1 := hv1.frozen)
    exact ⟨hk2.from _, hkb, ⟨_, hv2, by simpa using hr3, trivial⟩, hB.trans hb2, by simp at hsz2 ⊢; omega⟩
  case done =>
    rintro D ys W hD rfl ⟨⟨v, hv, hrow, _⟩, hB, hsz⟩ hK
    have hc := hv.cell
    gi_wp2
    refine ⟨by simp, .inl ⟨_, _, rfl, run_takeDeferred hK, ?_⟩⟩
    exact ⟨_, results_tmp rfl _ _ _, v, rfl, row_mono (ownsRow_putObj hrow _ hK rfl) (by omega), hB.trans (belowK_b (w := w) (Nat.le_refl _) W D _ _ (by simp at hD; omega) hK rfl rfl)⟩
  case stop =>
    rintro D c pre W _ _ h _
    exact h.elim
end Go.Proofs.Ytnlmndafmgkcfaa
