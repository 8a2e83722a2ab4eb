/- awake: printed by wip/mem/genQ.py. -/
import Derived.Test.YtpainiehceniiaaP
namespace Go.Proofs.Ytpainiehceniiaa
open Go.RowKit Go.Shelf Go.Proofs.YtpainiehceniiaaW.PrintWords
set_option linter.unusedVariables false

theorem Mm.lower {B B' : Nat} {W : World} {p g cr : Nat} {V : Option Addr} {cv : Nat} {m : Mem} (h : Mm B W p g cr V cv m) (hb : B' ≤ B) : Mm B' W p g cr V cv m :=
  ⟨Nat.le_trans hb h.base, h.blk, h.ram.mono hb, h.win.mono hb, h.apart, h.len, h.wlen⟩
theorem Chg.ram {F : Nat → Prop} {W W1 W2 : World} {p g cr : Nat} {V : Option Addr} {cv : Nat} {m : Mem} (h : Chg F W W1) (H : Mm W.heap.size W1 p g cr V cv m) (h2 : Chg (fun k => k = g) W1 W2) : Chg F W W2 :=
  h.trans h2 fun k hk he => by have := (own_free H.ram 0).2.1; omega
theorem src_build (w : World) (ys : List Int) : Src (w.alloc (.cells (ys.map (Value.int .u8)).toArray 5)) (some ⟨w.heap.size, 0, none⟩) ys := by
  refine ⟨fun h => (by cases h), fun ad ha j u hu => ?_⟩
  injection ha with ha
  subst ha
  have hb := heap_alloc_new w (.cells (ys.map (Value.int .u8)).toArray 5)
  unfold Addr.add
  split
  · rename_i h0; rw [h0] at hu; exact cells_cell hb (by simpa using hu)
  · exact cells_cell hb (by simpa using hu)
theorem load_is {B : Nat} {W : World} {p g cr : Nat} {V : Option Addr} {cv : Nat} {m : Mem} (h : Mm B W p g cr V cv m) (at' : Nat) (ha : at' < 4294967296) (h4 : at' % 4 = 0) (w : Bool) (off : Nat) (r : Int) (hl : Lies m at' 4 (some (w, off))) (hb : ∀ x ∈ m.row w, 0 ≤ x ∧ x ≤ 255) (hr : m.word w off = r) :
    Calls Try.prog 21 #[ptr p, .int .u32 at'] W fun e W' => e = .returned (.tuple #[.int .u32 r, .int .i32 0]) ∧ Chg Not W W' := by subst hr; exact load_yes h at' ha h4 w off hl hb
theorem Src.reads {W : World} {X : Option Addr} {ys : List Int} (h : Src W X ys) (n : Nat) (hn : ys.length = n) (hb : n ≤ 140737488355328) : ReadsInt W .u8 X n ys := by
  subst hn
  refine ⟨rfl, by omega, fun h0 => ?_⟩
  rcases X with _ | ad
  · have := h.non rfl; subst this; simp at h0
  · refine ⟨ad, rfl, fun j hj => h.at' ad rfl j _ ?_⟩
    rw [List.getElem?_map, List.getElem?_eq_getElem hj, List.getD_eq_getElem?_getD, List.getElem?_eq_getElem hj]
    rfl
theorem str_src {W : World} {X : Option Addr} {ys : List Int} (h : Src W X ys) (n c : Nat) (hn : ys.length = n) (hb : n ≤ 140737488355328) {s : ByteArray} (hs : strOfNums ys = s) : (convert 22 9 (.slice X n c)).run Try.prog W = .ok (.string s) W := by
  subst hs
  exact string_of_reads Try.underlying22 Try.underlying5 Try.underlying9 (h.reads n hn hb)

set_option maxRecDepth 100000 in
set_option maxHeartbeats 4000000 in
theorem awake_any (W : World) : Calls Try.prog 8 #[] W fun e W' => e = .returned (.bool true) ∧ Chg Not W W' := by
  go_enter Try.func8, Try.ntmps8
  go_wp2_with fail
  refine (new_yes _ 16 _ 5 5 [1, 2, 3, 4, 5] (by decide) (by decide) (by decide) (by decide) rfl (src_build W [1, 2, 3, 4, 5]) (fun h => by cases h)).mono ?_
  rintro e w1 ⟨p, g, cr, V, cv, rfl, h1, h2⟩
  have C : Hid (Chg Not W w1) := ((Chg.refl _ _).alloc _).not h2
  have H : Hid (Mm W.heap.size w1 p g cr V cv ⟨[0, 0, 0, 0, 0, 0, 0, 0, 0, 0, 0, 0, 0, 0, 0, 0], [1, 2, 3, 4, 5]⟩) := h1.lower (by simp)
  clear h1 h2
  go_wp2_with fail
  refine (load_is H.out 4096 (by decide) (by decide) true 0 67305985 (.win (by unfold fits; decide)) (by decide) rfl).mono ?_
  rintro e w2 ⟨rfl, h2⟩
  have C : Hid (Chg Not W w2) := C.out.not h2
  have H : Hid (Mm W.heap.size w2 p g cr V cv ⟨[0, 0, 0, 0, 0, 0, 0, 0, 0, 0, 0, 0, 0, 0, 0, 0], [1, 2, 3, 4, 5]⟩) := H.out.not h2
  clear h2
  go_wp2_with fail
  refine (load_no H.out 4100 (by decide) (by decide) (.none (by unfold fits; decide) (by unfold fits; decide))).mono ?_
  rintro e w3 ⟨rfl, h2⟩
  have C : Hid (Chg Not W w3) := C.out.not h2
  have H : Hid (Mm W.heap.size w3 p g cr V cv ⟨[0, 0, 0, 0, 0, 0, 0, 0, 0, 0, 0, 0, 0, 0, 0, 0], [1, 2, 3, 4, 5]⟩) := H.out.not h2
  clear h2
  go_wp2_with fail
  refine (byte_yes H.out 4100 (by decide) true 4 (.win (by unfold fits; decide)) 5 rfl).mono ?_
  rintro e w' ⟨rfl, rfl⟩
  go_wp2_with fail
  refine (store_yes H.out 1048576 0 7 (by decide) (by decide) (by decide) (by decide) (.ram (by unfold fits; decide) (by unfold fits; decide))).mono ?_
  rintro e w4 ⟨rfl, h1, h2⟩
  have C : Hid (Chg Not W w4) := C.out.ram H.out h2
  have H : Hid (Mm W.heap.size w4 p g cr V cv ⟨[7, 0, 0, 0, 0, 0, 0, 0, 0, 0, 0, 0, 0, 0, 0, 0], [1, 2, 3, 4, 5]⟩) := h1
  clear h1 h2
  go_wp2_with fail
  refine (store_win H.out 4096 0 7 (by decide) (by decide) (.win (by unfold fits; decide))).mono ?_
  rintro e w' ⟨rfl, rfl⟩
  go_wp2_with fail
  refine (store_off H.out 1048578 7 (by decide) (by decide)).mono ?_
  rintro e w' ⟨rfl, rfl⟩
  go_wp2_with fail
  refine (store_out H.out 1048592 7 (by decide) (by decide) (.none (by unfold fits; decide) (by unfold fits; decide))).mono ?_
  rintro e w' ⟨rfl, rfl⟩
  go_wp2_with fail
  refine (byte_yes H.out 1048576 (by decide) false 0 (.ram (by unfold fits; decide) (by unfold fits; decide)) 7 rfl).mono ?_
  rintro e w' ⟨rfl, rfl⟩
  go_wp2_with fail
  refine (move_yes H.out 1048576 1048577 3 0 1 false (by decide) (by decide) (by decide) (.ram (by unfold fits; decide) (by unfold fits; decide)) (.ram (by unfold fits; decide) (by unfold fits; decide))).mono ?_
  rintro e w5 ⟨rfl, h1, h2⟩
  have C : Hid (Chg Not W w5) := C.out.ram H.out h2
  have H : Hid (Mm W.heap.size w5 p g cr V cv ⟨[7, 7, 0, 0, 0, 0, 0, 0, 0, 0, 0, 0, 0, 0, 0, 0], [1, 2, 3, 4, 5]⟩) := h1
  clear h1 h2
  go_wp2_with fail
  refine (bytes_yes H.out 1048576 4 (by decide) false 0 (.ram (by unfold fits; decide) (by unfold fits; decide)) (by decide)).mono ?_
  rintro e w6 ⟨A1, c1, rfl, h1, h2⟩
  have R1 : Hid (Src w6 A1 [7, 7, 0, 0]) := Src.own h1
  have C : Hid (Chg Not W w6) := C.out.not h2
  have H : Hid (Mm W.heap.size w6 p g cr V cv ⟨[7, 7, 0, 0, 0, 0, 0, 0, 0, 0, 0, 0, 0, 0, 0, 0], [1, 2, 3, 4, 5]⟩) := H.out.not h2
  clear h1 h2
  go_wp2_with fail
  refine (bytes_yes H.out 1048592 0 (by decide) false 16 (.ram (by unfold fits; decide) (by unfold fits; decide)) (by decide)).mono ?_
  rintro e w7 ⟨A2, c2, rfl, h1, h2⟩
  have R1 : Hid (Src w7 A1 [7, 7, 0, 0]) := R1.out.not h2
  have C : Hid (Chg Not W w7) := C.out.not h2
  clear h1 h2 H
  have hstr : (convert 22 9 (.slice A1 4 c1)).run Try.prog w7 = .ok (.string ⟨#[7, 7, 0, 0]⟩) w7 := str_src R1.out 4 c1 rfl (by decide) rfl
  go_wp2
  go_ret
  exact ⟨rfl, C.out⟩
end Go.Proofs.Ytpainiehceniiaa
