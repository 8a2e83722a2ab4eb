/- Clone, All, cells. -/
import Derived.Test.YteoghagknececaaD
import Derived.Lib.SliceRun
namespace Go.Proofs.Yteoghagknececaa
open Go.RowKit Go.Proofs.YteoghagknececaaW.PrintWords Go.Proofs.YteoghagknececaaW.PrintMore

def Not : Nat → Prop := fun _ => False
theorem Stk.not {B : Nat} {W W' : World} {p : Nat} {A : Option Addr} {c : Nat} {s : St} (h : Stk B W p A c s) (hc : Chg Not W W') : Stk B W' p A c s := h.chg hc fun _ _ h => h
theorem Src.not {W W' : World} {X : Option Addr} {c : Nat} {ys : List Int} (h : Src W X c ys) (hc : Chg Not W W') : Src W' X c ys := h.chg hc fun _ _ h => h
theorem Chg.not {F : Nat → Prop} {W W1 W2 : World} (h : Chg F W W1) (h2 : Chg Not W1 W2) : Chg F W W2 := h.trans h2 fun _ _ h => h.elim
theorem Chg.of_not {F : Nat → Prop} {W W1 : World} (h : Chg Not W W1) : Chg F W W1 := h.mono fun _ _ h => h.elim

theorem clone_any {W : World} {A : Option Addr} {n c : Nat} {ys : List Int} (hs : Src W A c ys) (hn : ys.length = n) (hb : n ≤ 100000) :
    Calls Try.prog 29 #[.slice A n c] W fun e W' => ∃ A' c', e = .returned (.slice A' n c') ∧ W'.ownsRow W.heap.size 40 1 (.slice A' n c') n (ys.map (Value.int .u32)) ∧ Chg Not W W' := by
  rcases A with _ | ad
  · obtain ⟨h1, h2⟩ := hs.non rfl
    subst h1; subst h2
    obtain rfl : n = 0 := by simpa using hn.symm
    have hq : ∀ w : World, (binOp .eql 28 (.slice none 0 0) (.slice none 0 0)).run Try.prog w = .ok (.bool true) w := fun w => Lib.run_eql_slice_nil w 28 40 none 0 0 0 0 Try.underlying28
    go_enter Try.func29, Try.ntmps29
    go_wp2
    go_ret
    exact ⟨none, 0, rfl, World.ownsRow_nil _ _ _ _, .refl _ _⟩
  · have H : Hid (Src W (some ad) c ys) := hs
    clear hs
    have hq : ∀ w : World, (binOp .eql 28 (.slice (some ad) n c) (.slice none 0 0)).run Try.prog w = .ok (.bool false) w := fun w => Lib.run_eql_slice_nil w 28 40 (some ad) n c 0 0 Try.underlying28
    go_enter Try.func29, Try.ntmps29
    have h0 : (W.alloc (.cells #[] 40)).ownsRow W.heap.size 40 1 (.slice (some ⟨W.heap.size, 0, none⟩) 0 0) 0 [] := ⟨rfl, .inr ⟨W.heap.size, 0, #[], rfl, Nat.le_refl _, heap_alloc_new W _, Nat.le_refl _, by simp [maxLen], rfl, rfl⟩⟩
    have h1 : Chg Not W (W.alloc (.cells #[] 40)) := (Chg.refl _ _).alloc _
    have h2 := H.out.not h1
    have h0 : Hid _ := h0
    have h1 : Hid _ := h1
    have h2 : Hid _ := h2
    go_wp2_with (at_builtin; refine wpList_app _ rfl _ _ rfl W.heap.size _ 0 _ rfl h0.out _ n c ys rfl hn h2.out (by omega) (by simp) ?_; intro A' c' w1 hown hgrow hat; simp only [List.nil_append, Nat.zero_add] at hown ⊢; have hown : Hid _ := hown; have hgrow : Hid _ := hgrow; clear hat)
    go_ret
    refine ⟨A', c', rfl, hown.out, h1.out.trans (Chg.of_grown hgrow.out) (fun k hk he => ?_)⟩
    have he : some k = some W.heap.size := he
    injection he with he
    omega
theorem all_any {B : Nat} {W : World} {p : Nat} {A : Option Addr} {c : Nat} {s : St} (h : Stk B W p A c s) :
    Calls Try.prog 23 #[ptr p] W fun e W' => ∃ A' c', e = .returned (.slice A' s.cells.length c') ∧ W'.ownsRow W.heap.size 40 1 (.slice A' s.cells.length c') s.cells.length (s.cells.map (Value.int .u32)) ∧ Chg Not W W' := by
  have c0 : W.cell? ⟨p, 0, none⟩ = some (.slice A s.cells.length c) := cells_cell h.blk rfl
  have hl := h.len
  have hm := h.most1
  have H : Hid (Stk B W p A c s) := h
  clear h
  go_enter Try.func23, Try.ntmps23
  go_wp2_with (first | (go_at_call 29; refine (clone_any (Src.own H.out.row) rfl (by omega)).mono ?_; rintro e w' ⟨A', c', rfl, h1, h2⟩; have h1 : Hid _ := h1; have h2 : Hid _ := h2))
  go_ret
  exact ⟨A', c', rfl, h1.out, h2.out⟩
theorem all_nil (W : World) : Calls Try.prog 23 #[.pointer none] W fun e W' => e = .returned (.slice none 0 0) ∧ W = W' := by
  go_enter Try.func23, Try.ntmps23
  go_wp2
  go_ret
  exact ⟨rfl, rfl⟩

theorem Src.cell {W : World} {X : Option Addr} {c : Nat} {ys : List Int} (h : Src W X c ys) {k : Nat} {x : Int} (hx : ys[k]? = some x) : ∃ ad, X = some ad ∧ W.cell? (ad.add k) = some (.int .u32 x) := by
  rcases X with _ | ad
  · rw [(h.non rfl).1] at hx; simp at hx
  · exact ⟨ad, rfl, h.at' ad rfl k _ (by simp [hx])⟩
set_option maxHeartbeats 1000000 in
theorem cells_any {W : World} {A A1 : Option Addr} {n c n1 c1 : Nat} {l l1 : List Int} (h : Src W A c l) (h1 : Src W A1 c1 l1) (hn : l.length = n) (hn1 : l1.length = n1) (hb : n ≤ 2 ^ 47) (hb1 : n1 ≤ 2 ^ 47) :
    Calls Try.prog 22 #[.slice A n c, .slice A1 n1 c1] W fun e W' => e = .returned (.bool (decide (l = l1))) ∧ Chg Not W W' := by
  by_cases hne : n = n1
  · subst hne
    have H : Hid (Src W A c l) := h
    have H1 : Hid (Src W A1 c1 l1) := h1
    clear h h1
    go_enter Try.func22, Try.ntmps22
    go_wp2
    go_loopw [5, 13] (fun _ v wr => ∃ j : Nat, v = .int .i64 j ∧ j ≤ n ∧ Hid (l.take j = l1.take j) ∧ Hid (Chg Not W wr)) (fun _ v _ => n - (intOf v).toNat)
    case atStart => exact ⟨0, rfl, by omega, rfl, Chg.refl _ _⟩
    case round =>
      obtain ⟨j, rfl, hj, HT, HC⟩ := hrel
      by_cases hlt : j < n
      · obtain ⟨x, hx⟩ : ∃ x, l[j]? = some x := ⟨l[j], by simp⟩
        obtain ⟨y, hy⟩ : ∃ y, l1[j]? = some y := ⟨l1[j], by simp⟩
        obtain ⟨ad, rfl, k0⟩ := (H.out.not HC.out).cell hx
        obtain ⟨ad1, rfl, k1⟩ := (H1.out.not HC.out).cell hy
        by_cases hxy : x = y
        · have hs : Hid (l.take (j + 1) = l1.take (j + 1)) := by
            show _ = _
            rw [List.take_add_one, List.take_add_one, HT.out, hx, hy, hxy]
          have b0 : (x == y) = true := beq_iff_eq.mpr hxy
          clear hx hy
          go_wp2
          go_region
          go_wp2
          go_roundw
          case rel => exact ⟨j + 1, by go_num, by omega, hs, HC.out.drew⟩
          case measure => simp [intOf]; omega
        · have hs : Hid (decide (l = l1) = false) := decide_eq_false (fun e => hxy (by rw [e, hy] at hx; injection hx with hx; exact hx.symm))
          have b0 : (x == y) = false := beq_eq_false_iff_ne.mpr hxy
          clear hx hy
          go_wp2
          go_region
          go_wp2
          go_ret
          exact ⟨by rw [hs.out]; rfl, HC.out.drew⟩
      · have hs : Hid (decide (l = l1) = true) := decide_eq_true (by have := HT.out; rwa [List.take_of_length_le (by omega), List.take_of_length_le (by omega)] at this)
        go_wp2
        go_ret
        exact ⟨by rw [hs.out]; rfl, HC.out⟩
  · have hs : Hid (decide (l = l1) = false) := decide_eq_false (fun e => hne (by rw [← hn, ← hn1, e]))
    go_enter Try.func22, Try.ntmps22
    go_wp2
    go_ret
    exact ⟨by rw [hs.out]; rfl, .refl _ _⟩
end Go.Proofs.Yteoghagknececaa
