/- open, aligned, Byte, Clone, Bytes, Ram, Show, New. -/
import Derived.Test.YtpainiehceniiaaB
import Derived.Laws.MakeOwn
import Derived.Deep.RegionWith
import Derived.Deep.DrawnRows
namespace Go.Proofs.Ytpainiehceniiaa
open Go.RowKit Go.Proofs.YtpainiehceniiaaW.PrintWords Go.Proofs.YtpainiehceniiaaW.PrintMore
set_option linter.unusedVariables false

theorem piece_is {W : World} {A : Option Addr} {ys : List Int} (hs : Src W A ys) (off n : Nat) (h : off + n ≤ ys.length) :
    ∃ X, piece A off n = .slice X n n ∧ Src W X ((ys.drop off).take n) ∧ (0 < n → ∃ ad, A = some ad ∧ X = some (ad.add off)) := by
  unfold piece
  by_cases h0 : n = 0
  · subst h0
    exact ⟨A, by simp, by simpa using Src.nil, fun h => absurd h (by omega)⟩
  · rw [if_neg h0]
    rcases A with _ | ad
    · have := hs.non rfl
      subst this
      simp at h
      omega
    · exact ⟨_, rfl, hs.mid off n, fun _ => ⟨ad, rfl, rfl⟩⟩
theorem hid {p : Prop} (h : p) : Hid p := h
theorem add0 (g off : Nat) : (⟨g, 0, none⟩ : Addr).add off = ⟨g, off, none⟩ := by
  unfold Addr.add
  split
  · rename_i h; rw [h]
  · simp

theorem open_no {B : Nat} {W : World} {p g cr : Nat} {V : Option Addr} {cv : Nat} {m : Mem} (h : Mm B W p g cr V cv m) (at' n : Nat) (ha : at' < 4294967296) (hn : n < 4294967296) (hl : Lies m at' n none) :
    Calls Try.prog 27 #[ptr p, .int .u32 at', .int .u32 n] W fun e W' => e = .returned (.tuple #[.slice none 0 0, .int .i32 (-9)]) ∧ W = W' := by
  have H : Hid (Mm B W p g cr V cv m) := h
  have HL : Hid _ := hl
  clear h hl
  go_enter Try.func27, Try.ntmps27
  go_wp2_with fail
  refine (there_no H.out at' n ha hn HL.out).mono ?_
  rintro e w' ⟨rfl, rfl⟩
  go_wp2
  go_ret2
  exact ⟨rfl, rfl⟩
theorem open_fixed {B : Nat} {W : World} {p g cr : Nat} {V : Option Addr} {cv : Nat} {m : Mem} (h : Mm B W p g cr V cv m) (at' n : Nat) (ha : at' < 4294967296) (hn : n < 4294967296) (hl : fits 4096 at' n m.win.length) (h0 : 0 < n) :
    Calls Try.prog 27 #[ptr p, .int .u32 at', .int .u32 n] W fun e W' => e = .returned (.tuple #[.slice none 0 0, .int .i32 (-20)]) ∧ W = W' := by
  have H : Hid (Mm B W p g cr V cv m) := h
  have HL : Hid _ := hl
  clear h hl
  go_enter Try.func27, Try.ntmps27
  go_wp2_with fail
  refine (there_win H.out at' n ha hn HL.out).mono ?_
  rintro e w' ⟨rfl, rfl⟩
  go_wp2
  all_goals first | (exfalso; omega) | (go_ret2; exact ⟨rfl, rfl⟩)
theorem open_empty {B : Nat} {W : World} {p g cr : Nat} {V : Option Addr} {cv : Nat} {m : Mem} (h : Mm B W p g cr V cv m) (at' : Nat) (ha : at' < 4294967296) (hl : fits 4096 at' 0 m.win.length) :
    Calls Try.prog 27 #[ptr p, .int .u32 at', .int .u32 0] W fun e W' => e = .returned (.tuple #[piece V (at' - 4096) 0, .int .i32 0]) ∧ W = W' := by
  have H : Hid (Mm B W p g cr V cv m) := h
  have HL : Hid _ := hl
  clear h hl
  go_enter Try.func27, Try.ntmps27
  go_wp2_with fail
  refine (there_win H.out at' 0 ha (by decide) HL.out).mono ?_
  rintro e w' ⟨rfl, rfl⟩
  go_wp2
  all_goals first | (exfalso; omega) | (go_ret2; exact ⟨rfl, rfl⟩)
theorem open_ram {B : Nat} {W : World} {p g cr : Nat} {V : Option Addr} {cv : Nat} {m : Mem} (h : Mm B W p g cr V cv m) (at' n : Nat) (ha : at' < 4294967296) (hn : n < 4294967296) (h1 : ¬ fits 4096 at' n m.win.length) (h2 : fits 1048576 at' n m.ram.length) :
    Calls Try.prog 27 #[ptr p, .int .u32 at', .int .u32 n] W fun e W' => e = .returned (.tuple #[piece (some ⟨g, 0, none⟩) (at' - 1048576) n, .int .i32 0]) ∧ W = W' := by
  have H : Hid (Mm B W p g cr V cv m) := h
  have HL : Hid _ := h1
  have HL2 : Hid _ := h2
  clear h h1 h2
  go_enter Try.func27, Try.ntmps27
  go_wp2_with fail
  refine (there_ram H.out at' n ha hn HL.out HL2.out).mono ?_
  rintro e w' ⟨rfl, rfl⟩
  go_wp2
  all_goals first | (exfalso; omega) | (go_ret2; exact ⟨rfl, rfl⟩)
theorem aligned_is {B : Nat} {W : World} {p g cr : Nat} {V : Option Addr} {cv : Nat} {m : Mem} (h : Mm B W p g cr V cv m) (at' : Nat) (ha : at' < 4294967296) :
    Calls Try.prog 26 #[ptr p, .int .u32 at'] W fun e W' => e = .returned (.int .i32 (if at' % 4 = 0 then 0 else -23)) ∧ W = W' := by
  have H : Hid (Mm B W p g cr V cv m) := h
  clear h
  by_cases h4 : at' % 4 = 0
  · rw [if_pos h4]
    have b0 : (at' : Int) % 4 = 0 := by omega
    go_enter Try.func26, Try.ntmps26
    go_wp2_with fail
    refine (none_live H.out).mono ?_
    rintro e w' ⟨rfl, rfl⟩
    go_wp2
    all_goals first | (exfalso; omega) | (go_ret; exact ⟨rfl, rfl⟩)
  · rw [if_neg h4]
    have b0 : ((at' : Int) % 4 == 0) = false := beq_eq_false_iff_ne.mpr (by omega)
    go_enter Try.func26, Try.ntmps26
    go_wp2_with fail
    refine (none_live H.out).mono ?_
    rintro e w' ⟨rfl, rfl⟩
    go_wp2
    all_goals first | (exfalso; omega) | (go_ret; exact ⟨rfl, rfl⟩)

theorem byte_no {B : Nat} {W : World} {p g cr : Nat} {V : Option Addr} {cv : Nat} {m : Mem} (h : Mm B W p g cr V cv m) (at' : Nat) (ha : at' < 4294967296) (hl : Lies m at' 1 none) :
    Calls Try.prog 22 #[ptr p, .int .u32 at'] W fun e W' => e = .returned (.tuple #[.int .u8 0, .int .i32 (-9)]) ∧ W = W' := by
  have H : Hid (Mm B W p g cr V cv m) := h
  have HL : Hid _ := hl
  clear h hl
  go_enter Try.func22, Try.ntmps22
  go_wp2_with fail
  refine (there_no H.out at' 1 ha (by decide) HL.out).mono ?_
  rintro e w' ⟨rfl, rfl⟩
  go_wp2
  go_ret2
  exact ⟨rfl, rfl⟩
theorem byte_core {W : World} {p : Nat} (at' : Nat) (ad : Addr) (b : Bool) (x : Int) (HP : Hid (Calls Try.prog 30 #[ptr p, .int .u32 at', .int .u32 1] W fun e W' => e = .returned (.tuple #[.slice (some ad) 1 1, .bool b, .int .i32 0]) ∧ W = W')) (k0 : W.cell? ad = some (.int .u8 x)) :
    Calls Try.prog 22 #[ptr p, .int .u32 at'] W fun e W' => e = .returned (.tuple #[.int .u8 x, .int .i32 0]) ∧ W = W' := by
  go_enter Try.func22, Try.ntmps22
  go_wp2_with fail
  refine HP.out.mono ?_
  rintro e w' ⟨rfl, rfl⟩
  go_wp2
  go_ret2
  exact ⟨rfl, rfl⟩
theorem at_piece {W : World} {A : Option Addr} {ys : List Int} (hs : Src W A ys) (off : Nat) (x : Int) (hx : ys[off]? = some x) : ∃ ad, piece A off 1 = .slice (some ad) 1 1 ∧ W.cell? ad = some (.int .u8 x) := by
  obtain ⟨ad, rfl, hc⟩ := hs.cell hx
  exact ⟨ad.add off, rfl, hc⟩
theorem byte_yes {B : Nat} {W : World} {p g cr : Nat} {V : Option Addr} {cv : Nat} {m : Mem} (h : Mm B W p g cr V cv m) (at' : Nat) (ha : at' < 4294967296) (w : Bool) (off : Nat) (hl : Lies m at' 1 (some (w, off))) (x : Int) (hx : (m.row w)[off]? = some x) :
    Calls Try.prog 22 #[ptr p, .int .u32 at'] W fun e W' => e = .returned (.tuple #[.int .u8 x, .int .i32 0]) ∧ W = W' := by
  cases hl with
  | win h1 =>
    have HP0 := there_win h at' 1 ha (by decide) h1
    generalize at' - 4096 = off at *
    obtain ⟨ad, hp, hc⟩ := at_piece (Src.own h.win) off x hx
    rw [hp] at HP0
    exact byte_core at' ad true x (hid HP0) hc
  | ram h1 h2 =>
    have HP0 := there_ram h at' 1 ha (by decide) h1 h2
    generalize at' - 1048576 = off at *
    obtain ⟨ad, hp, hc⟩ := at_piece (Src.own h.ram) off x hx
    rw [hp] at HP0
    exact byte_core at' ad false x (hid HP0) hc

theorem Mm.not {B : Nat} {W W' : World} {p g cr : Nat} {V : Option Addr} {cv : Nat} {m : Mem} (h : Mm B W p g cr V cv m) (hc : Chg Not W W') : Mm B W' p g cr V cv m :=
  ⟨h.base, hc.at h.blk (fun h => h), hc.row h.ram (fun _ _ h => h), hc.row h.win (fun _ _ h => h), h.apart, h.len, h.wlen⟩
theorem info5 : (Try.prog.info? 5).map (fun i => (i.zero, i.size, i.bytes)) = some (some (.int .u8 0), 1, 1) := by kernel_rfl
theorem run_app (w : World) (ty : TypeId) (base : Nat) (v : Value) (n : Nat) (xs : List Value) (hown : w.ownsRow base 5 1 v n xs) (ad : Addr) (m c : Nat) (ys : List Int) (hm : ys.length = m) (hs : Src w (some ad) ys)
    (hb : n + m ≤ 140737488355328) (hbase : base ≤ w.heap.size) :
    ∃ v' w', (Builtin.append_ #[22, 22] ty #[v, .slice (some ad) m c]).run Try.prog w = .ok v' w' ∧ w'.ownsRow base 5 1 v' (n + m) (xs ++ ys.map (Value.int .u8)) ∧ w.grownBy w' v.ownBlock ∧ (v' = .slice none 0 0 ↔ v = .slice none 0 0 ∧ m = 0) ∧ (v'.ownBlock = v.ownBlock ∨ v'.ownBlock = some w.heap.size) := by
  obtain ⟨i0, hi, hzz⟩ := Option.map_eq_some_iff.1 info5
  simp only [Prod.mk.injEq] at hzz
  obtain ⟨hz0, hz1, hz2⟩ := hzz
  exact run_append_own_at (P := Try.prog) w base 22 ty 5 i0 (.int .u8 0) 1 1 Try.underlying22 hi hz0 hz1 hz2 rfl (by decide) v n xs hown ad m c (ys.map (Value.int .u8)) (by simp [hm]) (hs.at' ad rfl) (by intro u hu; obtain ⟨x, _, rfl⟩ := List.mem_map.1 hu; rfl) (by simp only [maxLen]; omega) (by omega) hbase
theorem wpList_app (w : World) {ops : Array Oper} {rest : List Oper} {o : Oper} {a : Act} {Q : Exit → Act → World → Prop} (hgd : o.guard = none) (s x : Operand)
    (ho : o.op = .call { callee := .builtin .append, args := #[s, x], argTypes := #[22, 22] })
    (base : Nat) (v : Value) (n : Nat) (xs : List Value) (hs : a.eval s = v) (hown : w.ownsRow base 5 1 v n xs)
    (ad : Addr) (m c : Nat) (ys : List Int) (hx : a.eval x = .slice (some ad) m c) (hm : ys.length = m) (hsrc : Src w (some ad) ys) (hb : n + m ≤ 140737488355328) (hbase : base ≤ w.heap.size)
    (h : ∀ A' c' w', w'.ownsRow base 5 1 (.slice A' (n + m) c') (n + m) (xs ++ ys.map (Value.int .u8)) → w.grownBy w' v.ownBlock → (A' = none → v = .slice none 0 0) → wpList Try.prog ops Q rest (a.put o.dst (.slice A' (n + m) c')) w') :
    wpList Try.prog ops Q (o :: rest) a w := by
  refine wpList_plain hgd fun K hK => ?_
  obtain ⟨v', w', hr, h2, h3, h4, h5⟩ := run_app w o.type base v n xs hown ad m c ys hm hsrc hb hbase
  obtain ⟨A', c', rfl⟩ := own_shape h2
  unfold Oper.wp execOp
  simp only [ho, resolve, invoke, builtin, Sem.run_bind, Sem.run_pure, Result.andThen_ok, List.map_toArray, List.map_cons, List.map_nil, hs, hx, hr]
  refine hK _ _ (h A' c' w' h2 h3 ?_)
  intro hA
  subst hA
  rcases h2.2 with ⟨hv, _⟩ | ⟨g, cap, cur, hv, _⟩
  · exact (h4.1 hv).1
  · cases hv
/-- a clone: a row of its own; nil of nil. -/
theorem clone_any {W : World} {A : Option Addr} {n c : Nat} {ys : List Int} (hs : Src W A ys) (hn : ys.length = n) (hb : n ≤ 140737488355328) (hc : A = none → c = 0) :
    Calls Try.prog 24 #[.slice A n c] W fun e W' => ∃ A' c', e = .returned (.slice A' n c') ∧ W'.ownsRow W.heap.size 5 1 (.slice A' n c') n (ys.map (Value.int .u8)) ∧ (A' = none ↔ A = none) ∧ Chg Not W W' := by
  rcases A with _ | ad
  · have h1 := hs.non rfl
    subst h1
    obtain rfl : n = 0 := by simpa using hn.symm
    obtain rfl := hc rfl
    have hq : ∀ w : World, (binOp .eql 22 (.slice none 0 0) (.slice none 0 0)).run Try.prog w = .ok (.bool true) w := fun w => Lib.run_eql_slice_nil w 22 5 none 0 0 0 0 Try.underlying22
    go_enter Try.func24, Try.ntmps24
    go_wp2
    go_ret
    exact ⟨none, 0, rfl, World.ownsRow_nil _ _ _ _, by simp, .refl _ _⟩
  · have H := hid hs
    clear hs
    have hq : ∀ w : World, (binOp .eql 22 (.slice (some ad) n c) (.slice none 0 0)).run Try.prog w = .ok (.bool false) w := fun w => Lib.run_eql_slice_nil w 22 5 (some ad) n c 0 0 Try.underlying22
    have h0 : (W.alloc (.cells #[] 5)).ownsRow W.heap.size 5 1 (.slice (some ⟨W.heap.size, 0, none⟩) 0 0) 0 [] := ⟨rfl, .inr ⟨W.heap.size, 0, #[], rfl, Nat.le_refl _, heap_alloc_new W _, Nat.le_refl _, by simp [maxLen], rfl, rfl⟩⟩
    have h1 : Chg Not W (W.alloc (.cells #[] 5)) := (Chg.refl _ _).alloc _
    have h2 := hid (H.out.not h1)
    have h0 := hid h0
    have h1 := hid h1
    go_enter Try.func24, Try.ntmps24
    go_wp2_with (at_builtin; go_loud (refine wpList_app _ rfl _ _ rfl W.heap.size (.slice (some ⟨W.heap.size, 0, none⟩) 0 0) 0 [] rfl h0.out ad n c ys rfl hn h2.out (by omega) (by simp) ?_; intro A' c' w1 hown hgrow hnil; simp only [List.nil_append, Nat.zero_add] at hown hnil ⊢; have hA : A' ≠ none := (fun h => by cases (hnil h)); have hown := hid hown; have hgrow := hid hgrow; clear hnil))
    go_ret
    refine ⟨A', c', rfl, hown.out, ⟨fun h => absurd h hA, fun h => (by cases h)⟩, h1.out.trans (Chg.of_grown hgrow.out) (fun k hk he => ?_)⟩
    have he : some k = some W.heap.size := he
    injection he with he
    omega

/-- Bytes: those of a place, in memory of their own. -/
theorem bytes_no {B : Nat} {W : World} {p g cr : Nat} {V : Option Addr} {cv : Nat} {m : Mem} (h : Mm B W p g cr V cv m) (at' n : Nat) (ha : at' < 4294967296) (hn : n < 4294967296) (hl : Lies m at' n none) :
    Calls Try.prog 23 #[ptr p, .int .u32 at', .int .u32 n] W fun e W' => e = .returned (.tuple #[.slice none 0 0, .int .i32 (-9)]) ∧ Chg Not W W' := by
  have H := hid h
  have HL := hid hl
  clear h hl
  go_enter Try.func23, Try.ntmps23
  go_wp2_with fail
  refine (there_no H.out at' n ha hn HL.out).mono ?_
  rintro e w' ⟨rfl, rfl⟩
  go_wp2_with fail
  refine (clone_any (A := none) (n := 0) (c := 0) Src.nil rfl (by decide) (fun _ => rfl)).mono ?_
  rintro e w2 ⟨A', c', rfl, ho, hA, hc⟩
  obtain rfl := hA.2 rfl
  have hc' : c' = 0 := by
    rcases ho.2 with ⟨hv, _⟩ | ⟨g, cap, cur, hv, _⟩
    · injection hv
    · cases hv
  subst hc'
  have hc := hid hc
  clear ho hA
  go_wp2
  go_ret2
  exact ⟨rfl, hc.out⟩
theorem bytes_core {W : World} {p : Nat} (at' n : Nat) (X : Option Addr) (b : Bool) (ys : List Int) (HP : Hid (Calls Try.prog 30 #[ptr p, .int .u32 at', .int .u32 n] W fun e W' => e = .returned (.tuple #[.slice X n n, .bool b, .int .i32 0]) ∧ W = W')) (hs : Src W X ys) (hn : ys.length = n) (hb : n ≤ 65536) :
    Calls Try.prog 23 #[ptr p, .int .u32 at', .int .u32 n] W fun e W' => ∃ A' c', e = .returned (.tuple #[.slice A' n c', .int .i32 0]) ∧ W'.ownsRow W.heap.size 5 1 (.slice A' n c') n (ys.map (Value.int .u8)) ∧ Chg Not W W' := by
  have HS := hid hs
  clear hs
  go_enter Try.func23, Try.ntmps23
  go_wp2_with fail
  refine HP.out.mono ?_
  rintro e w' ⟨rfl, rfl⟩
  go_wp2_with fail
  refine (clone_any HS.out hn (by omega) (fun hX => by have := HS.out.non hX; subst this; simpa using hn.symm)).mono ?_
  rintro e w2 ⟨A', c', rfl, ho, -, hc⟩
  have ho := hid ho
  have hc := hid hc
  go_wp2
  go_ret2
  exact ⟨A', c', rfl, ho.out, hc.out⟩
/-- the bytes of a place. -/
def Mem.cut (m : Mem) (w : Bool) (off n : Nat) : List Int := ((m.row w).drop off).take n
theorem bytes_yes {B : Nat} {W : World} {p g cr : Nat} {V : Option Addr} {cv : Nat} {m : Mem} (h : Mm B W p g cr V cv m) (at' n : Nat) (ha : at' < 4294967296) (w : Bool) (off : Nat) (hl : Lies m at' n (some (w, off))) (hn : n ≤ 65536) :
    Calls Try.prog 23 #[ptr p, .int .u32 at', .int .u32 n] W fun e W' => ∃ A' c', e = .returned (.tuple #[.slice A' n c', .int .i32 0]) ∧ W'.ownsRow W.heap.size 5 1 (.slice A' n c') n ((m.cut w off n).map (Value.int .u8)) ∧ Chg Not W W' := by
  cases hl with
  | win h1 =>
    have HP0 := there_win h at' n ha (by omega) h1
    have hf : at' - 4096 + n ≤ m.win.length := h1.2
    generalize at' - 4096 = off at *
    obtain ⟨X, hp, hs, -⟩ := piece_is (Src.own h.win) off n hf
    rw [hp] at HP0
    exact bytes_core at' n X true ((m.win.drop off).take n) (hid HP0) hs (by simp; omega) hn
  | ram h1 h2 =>
    have HP0 := there_ram h at' n ha (by omega) h1 h2
    have hf : at' - 1048576 + n ≤ m.ram.length := h2.2
    generalize at' - 1048576 = off at *
    obtain ⟨X, hp, hs, -⟩ := piece_is (Src.own h.ram) off n hf
    rw [hp] at HP0
    exact bytes_core at' n X false ((m.ram.drop off).take n) (hid HP0) hs (by simp; omega) hn
theorem ram_any {B : Nat} {W : World} {p g cr : Nat} {V : Option Addr} {cv : Nat} {m : Mem} (h : Mm B W p g cr V cv m) :
    Calls Try.prog 10 #[ptr p] W fun e W' => ∃ A' c', e = .returned (.slice A' m.ram.length c') ∧ W'.ownsRow W.heap.size 5 1 (.slice A' m.ram.length c') m.ram.length (m.ram.map (Value.int .u8)) ∧ Chg Not W W' := by
  have c0 : W.cell? ⟨p, 0, none⟩ = some (.slice (some ⟨g, 0, none⟩) m.ram.length cr) := cells_cell h.blk rfl
  have hl := h.len.2
  have H := hid h
  clear h
  go_enter Try.func10, Try.ntmps10
  go_wp2_with fail
  refine (none_live H.out).mono ?_
  rintro e w' ⟨rfl, rfl⟩
  go_wp2_with fail
  refine (clone_any (Src.own H.out.ram) rfl (by omega) (fun h => by cases h)).mono ?_
  rintro e w2 ⟨A', c', rfl, ho, -, hc⟩
  have ho := hid ho
  have hc := hid hc
  go_wp2
  go_ret
  exact ⟨A', c', rfl, ho.out, hc.out⟩
end Go.Proofs.Ytpainiehceniiaa
