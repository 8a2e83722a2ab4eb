/- Fill, SetByte, Store, Move, Show. -/
import Derived.Test.YtpainiehceniiaaC
namespace Go.Proofs.Ytpainiehceniiaa
open Go.RowKit Go.Proofs.YtpainiehceniiaaW.PrintWords Go.Proofs.YtpainiehceniiaaW.PrintMore
set_option linter.unusedVariables false

/-- some bytes of a list are others. -/
def put (l : List Int) (off : Nat) (ys : List Int) : List Int := l.take off ++ ys ++ l.drop (off + ys.length)
theorem put_nil (l : List Int) (off : Nat) : put l off [] = l := by simp [put]
theorem put_length (l : List Int) (off : Nat) (ys : List Int) (h : off + ys.length ≤ l.length) : (put l off ys).length = l.length := by unfold put; simp; omega
theorem put_snoc (l : List Int) (off : Nat) (ys : List Int) (x : Int) (h : off + ys.length < l.length) : (put l off ys).set (off + ys.length) x = put l off (ys ++ [x]) := by
  unfold put
  have ht : (l.take off).length = off := by rw [List.length_take]; omega
  rw [List.append_assoc, List.set_append_right _ _ (by omega), ht, Nat.add_sub_cancel_left, List.set_append_right _ _ (Nat.le_refl _), Nat.sub_self]
  rw [List.drop_eq_getElem_cons h]
  simp [Nat.add_assoc]
theorem Mm.set {B : Nat} {W : World} {p g cr : Nat} {V : Option Addr} {cv : Nat} {m : Mem} (h : Mm B W p g cr V cv m) (k : Nat) (x : Int) :
    Mm B (W.setCell ⟨g, k, none⟩ (.int .u8 x)) p g cr V cv ⟨m.ram.set k x, m.win⟩ := by
  have hgp : p ≠ g := fun he => by
    have := row_ne h.ram (p := p) h.blk (by decide)
    exact this (by rw [he]; rfl)
  refine ⟨h.base, ?_, ?_, ?_, h.apart, ?_, h.wlen⟩
  · show _ = some (Obj.cells #[.slice (some ⟨g, 0, none⟩) (m.ram.set k x).length cr, _] 50 (0, 0))
    rw [List.length_set]
    exact set_other h.blk hgp
  · show World.ownsRow _ B 5 1 (.slice (some ⟨g, 0, none⟩) (m.ram.set k x).length cr) (m.ram.set k x).length ((m.ram.set k x).map _)
    rw [List.length_set, List.map_set]
    exact own_set h.ram k _
  · exact (Chg.setCell (F := fun k => k = g) (.refl _ _) (fun _ => rfl) _).row h.win (fun k hk he => h.apart (by rw [own_block V 0 0 m.win.length cv, hk, he]))
  · show 4 ≤ (m.ram.set k x).length ∧ _
    rw [List.length_set]; exact h.len
theorem Mm.drew {B : Nat} {W : World} {p g cr : Nat} {V : Option Addr} {cv : Nat} {m : Mem} (h : Mm B W p g cr V cv m) : Mm B W.drew p g cr V cv m := h.not (Chg.refl _ _).drew
/-- memory with bytes in RAM. -/
def Mem.put (m : Mem) (off : Nat) (ys : List Int) : Mem := ⟨Go.Proofs.Ytpainiehceniiaa.put m.ram off ys, m.win⟩

/-- a slice that is in RAM: .slice X n n. -/
structure InRam (g off n : Nat) (X : Option Addr) : Prop where
  at' : 0 < n → X = some ⟨g, off, none⟩
theorem piece_ram (g off n : Nat) : ∃ X, piece (some ⟨g, 0, none⟩) off n = .slice X n n ∧ InRam g off n X := by
  unfold piece
  by_cases h0 : n = 0
  · exact ⟨_, rfl, ⟨fun h => absurd h (by omega)⟩⟩
  · rw [if_neg h0]
    exact ⟨_, rfl, ⟨fun _ => by rw [Option.map_some, add0]⟩⟩

theorem fill_none {W : World} {vp : Value} (at' n : Nat) (b : Int) (X : Option Addr) (r : Int) (HP : Hid (Calls Try.prog 27 #[vp, .int .u32 at', .int .u32 n] W fun e W' => e = .returned (.tuple #[.slice X 0 0, .int .i32 r]) ∧ W = W')) :
    Calls Try.prog 17 #[vp, .int .u32 at', .int .u32 n, .int .u8 b] W fun e W' => e = .returned (.int .i32 r) ∧ W = W' := by
  go_enter Try.func17, Try.ntmps17
  go_wp2_with fail
  refine HP.out.mono ?_
  rintro e w' ⟨rfl, rfl⟩
  go_wp2_with fail
  go_loopw [11, 21] (fun _ v wr => v = .int .i64 0 ∧ W = wr) (fun _ _ _ => 0)
  case atStart => exact ⟨rfl, rfl⟩
  case round =>
    obtain ⟨rfl, rfl⟩ := hrel
    go_wp2
    go_ret
    exact ⟨rfl, rfl⟩
set_option maxHeartbeats 1000000 in
theorem fill_core {B : Nat} {W : World} {p g cr : Nat} {V : Option Addr} {cv : Nat} {m : Mem} (h : Mm B W p g cr V cv m) (at' off n : Nat) (b : Int) (hf : off + n ≤ m.ram.length)
    (HP0 : Calls Try.prog 27 #[ptr p, .int .u32 at', .int .u32 n] W fun e W' => e = .returned (.tuple #[piece (some ⟨g, 0, none⟩) off n, .int .i32 0]) ∧ W = W') :
    Calls Try.prog 17 #[ptr p, .int .u32 at', .int .u32 n, .int .u8 b] W fun e W' => e = .returned (.int .i32 0) ∧ Mm B W' p g cr V cv (m.put off (List.replicate n b)) ∧ Chg (fun k => k = g) W W' := by
  have hl := h.len.2
  obtain ⟨X, hp, hX⟩ := piece_ram g off n
  rw [hp] at HP0
  have HP := hid HP0
  have H := hid h
  have HX := hid hX
  clear h HP0 hp hX
  go_enter Try.func17, Try.ntmps17
  go_wp2_with fail
  refine HP.out.mono ?_
  rintro e w' ⟨rfl, rfl⟩
  go_wp2_with fail
  go_loopw [11, 21] (fun _ v wr => ∃ j : Nat, v = .int .i64 j ∧ j ≤ n ∧ Hid (Mm B wr p g cr V cv (m.put off (List.replicate j b))) ∧ Hid (Chg (fun k => k = g) W wr)) (fun _ v _ => n - (intOf v).toNat)
  case atStart => exact ⟨0, rfl, by omega, by show Mm B _ p g cr V cv ⟨put m.ram off [], m.win⟩; rw [put_nil]; exact H.out, Chg.refl _ _⟩
  case round =>
    obtain ⟨j, rfl, hj, HM, HC⟩ := hrel
    by_cases hlt : j < n
    · obtain rfl := HX.out.at' (by omega)
      obtain ⟨y, hy⟩ : ∃ y, (m.put off (List.replicate j b)).ram[off + j]? = some y := ⟨(m.put off (List.replicate j b)).ram[off + j]'(by show _ < (put _ _ _).length; rw [put_length _ _ _ (by simp; omega)]; omega), by simp⟩
      obtain ⟨g', hg, k0⟩ := own_cell (x := .int .u8 y) HM.out.ram (by rw [List.getElem?_map, hy]; rfl)
      injection hg with hg; injection hg with hg; subst hg
      have f0 := (own_free HM.out.ram (off + j)).1
      have HE : Hid (Mm B (wr.setCell ⟨g, off + j, none⟩ (.int .u8 b)) p g cr V cv (m.put off (List.replicate (j + 1) b))) := by
        have := HM.out.set (off + j) b
        have e : (m.put off (List.replicate j b)).ram.set (off + j) b = (m.put off (List.replicate (j + 1) b)).ram := by
          show (put _ _ _).set _ _ = put _ _ _
          have := put_snoc m.ram off (List.replicate j b) b (by simp; omega)
          rw [List.length_replicate] at this
          rw [this, List.replicate_succ']
        rw [e] at this
        exact this
      have HC2 : Hid (Chg (fun k => k = g) W (wr.setCell ⟨g, off + j, none⟩ (.int .u8 b))) := HC.out.setCell (fun _ => rfl) _
      clear hy HM HC
      go_wp2
      go_roundw
      case rel => exact ⟨j + 1, by go_num, by omega, HE, HC2⟩
      case measure => simp [intOf]; omega
    · obtain rfl : j = n := by omega
      go_wp2
      go_ret
      exact ⟨rfl, HM.out, HC.out⟩
theorem fill_ram {B : Nat} {W : World} {p g cr : Nat} {V : Option Addr} {cv : Nat} {m : Mem} (h : Mm B W p g cr V cv m) (at' n : Nat) (b : Int) (ha : at' < 4294967296) (hn : n < 4294967296) (h1 : ¬ fits 4096 at' n m.win.length) (h2 : fits 1048576 at' n m.ram.length) :
    Calls Try.prog 17 #[ptr p, .int .u32 at', .int .u32 n, .int .u8 b] W fun e W' => e = .returned (.int .i32 0) ∧ Mm B W' p g cr V cv (m.put (at' - 1048576) (List.replicate n b)) ∧ Chg (fun k => k = g) W W' :=
  fill_core h at' (at' - 1048576) n b h2.2 (open_ram h at' n ha hn h1 h2)
theorem setByte_core {W : World} {vp : Value} (at' : Nat) (b : Int) (r : Int) (Q : World → Prop) (HP : Hid (Calls Try.prog 17 #[vp, .int .u32 at', .int .u32 1, .int .u8 b] W fun e W' => e = .returned (.int .i32 r) ∧ Q W')) :
    Calls Try.prog 13 #[vp, .int .u32 at', .int .u8 b] W fun e W' => e = .returned (.int .i32 r) ∧ Q W' := by
  go_enter Try.func13, Try.ntmps13
  go_wp2_with fail
  refine HP.out.mono ?_
  rintro e w' ⟨rfl, h⟩
  have h := hid h
  go_wp2
  go_ret
  exact ⟨rfl, h.out⟩

theorem store_no {W : World} {vp : Value} (at' : Nat) (x r : Int) (hr : r ≠ 0) (HA : Hid (Calls Try.prog 26 #[vp, .int .u32 at'] W fun e W' => e = .returned (.int .i32 r) ∧ W = W')) :
    Calls Try.prog 11 #[vp, .int .u32 at', .int .u32 x] W fun e W' => e = .returned (.int .i32 r) ∧ W = W' := by
  have b0 : (r == 0) = false := beq_eq_false_iff_ne.mpr hr
  go_enter Try.func11, Try.ntmps11
  go_wp2_with fail
  refine HA.out.mono ?_
  rintro e w' ⟨rfl, rfl⟩
  go_wp2
  all_goals first | (exfalso; omega) | (go_ret; exact ⟨rfl, rfl⟩)
theorem store_none {W : World} {vp : Value} (at' : Nat) (x r : Int) (HA : Hid (Calls Try.prog 26 #[vp, .int .u32 at'] W fun e W' => e = .returned (.int .i32 0) ∧ W = W')) (HP : Hid (Calls Try.prog 27 #[vp, .int .u32 at', .int .u32 4] W fun e W' => e = .returned (.tuple #[.slice none 0 0, .int .i32 r]) ∧ W = W')) :
    Calls Try.prog 11 #[vp, .int .u32 at', .int .u32 x] W fun e W' => e = .returned (.int .i32 r) ∧ W = W' := by
  go_enter Try.func11, Try.ntmps11
  go_wp2_with fail
  refine HA.out.mono ?_
  rintro e w' ⟨rfl, rfl⟩
  go_wp2_with fail
  refine HP.out.mono ?_
  rintro e w' ⟨rfl, rfl⟩
  go_wp2_with fail
  go_loopw [10, 25] (fun _ v wr => v = .int .i64 0 ∧ W = wr) (fun _ _ _ => 0)
  case atStart => exact ⟨rfl, rfl⟩
  case round =>
    obtain ⟨rfl, rfl⟩ := hrel
    go_wp2
    go_ret
    exact ⟨rfl, rfl⟩
/-- the bytes of a cell, the lowest first. -/
def le4 (x : Int) : List Int := [x % 256, x / 256 % 256, x / 65536 % 256, x / 16777216 % 256]
set_option maxHeartbeats 1000000 in
theorem store_core {B : Nat} {W : World} {p g cr : Nat} {V : Option Addr} {cv : Nat} {m : Mem} (h : Mm B W p g cr V cv m) (at' off : Nat) (x : Int) (hx0 : 0 ≤ x) (hx1 : x ≤ 4294967295) (hf : off + 4 ≤ m.ram.length)
    (HA : Hid (Calls Try.prog 26 #[ptr p, .int .u32 at'] W fun e W' => e = .returned (.int .i32 0) ∧ W = W'))
    (HP : Hid (Calls Try.prog 27 #[ptr p, .int .u32 at', .int .u32 4] W fun e W' => e = .returned (.tuple #[.slice (some ⟨g, off, none⟩) 4 4, .int .i32 0]) ∧ W = W')) :
    Calls Try.prog 11 #[ptr p, .int .u32 at', .int .u32 x] W fun e W' => e = .returned (.int .i32 0) ∧ Mm B W' p g cr V cv (m.put off (le4 x)) ∧ Chg (fun k => k = g) W W' := by
  have hl := h.len.2
  have H := hid h
  clear h
  go_enter Try.func11, Try.ntmps11
  go_wp2_with fail
  refine HA.out.mono ?_
  rintro e w' ⟨rfl, rfl⟩
  go_wp2_with fail
  refine HP.out.mono ?_
  rintro e w' ⟨rfl, rfl⟩
  go_wp2_with fail
  go_loopw [10, 25] (fun _ v wr => ∃ j : Nat, v = .int .i64 j ∧ j ≤ 4 ∧ Hid (Mm B wr p g cr V cv (m.put off ((le4 x).take j))) ∧ Hid (Chg (fun k => k = g) W wr)) (fun _ v _ => 4 - (intOf v).toNat)
  case atStart => exact ⟨0, rfl, by omega, by show Mm B _ p g cr V cv ⟨put m.ram off [], m.win⟩; rw [put_nil]; exact H.out, Chg.refl _ _⟩
  case round =>
    obtain ⟨j, rfl, hj, HM, HC⟩ := hrel
    by_cases hlt : j < 4
    · obtain ⟨y, hy⟩ : ∃ y, (m.put off ((le4 x).take j)).ram[off + j]? = some y := ⟨(m.put off ((le4 x).take j)).ram[off + j]'(by show _ < (put _ _ _).length; rw [put_length _ _ _ (by simp [le4]; omega)]; omega), by simp⟩
      obtain ⟨g', hg, k0⟩ := own_cell (x := .int .u8 y) HM.out.ram (by rw [List.getElem?_map, hy]; rfl)
      injection hg with hg; injection hg with hg; subst hg
      have f0 := (own_free HM.out.ram (off + j)).1
      have HE : ∀ z : Int, (le4 x)[j]? = some z → Hid (Mm B (wr.setCell ⟨g, off + j, none⟩ (.int .u8 z)) p g cr V cv (m.put off ((le4 x).take (j + 1)))) := by
        intro z hz
        have := HM.out.set (off + j) z
        have e : (m.put off ((le4 x).take j)).ram.set (off + j) z = (m.put off ((le4 x).take (j + 1))).ram := by
          show (put _ _ _).set _ _ = put _ _ _
          have h4 : ((le4 x).take j).length = j := by simp [le4]; omega
          have := put_snoc m.ram off ((le4 x).take j) z (by rw [h4]; omega)
          rw [h4] at this
          rw [this, List.take_add_one, hz]; rfl
        rw [e] at this
        exact this
      have HC2 : ∀ z : Int, Hid (Chg (fun k => k = g) W (wr.setCell ⟨g, off + j, none⟩ (.int .u8 z))) := fun z => HC.out.setCell (fun _ => rfl) _
      clear hy HM HC
      have hj4 : j = 0 ∨ j = 1 ∨ j = 2 ∨ j = 3 := by omega
      rcases hj4 with rfl | rfl | rfl | rfl
      · simp only [Nat.add_zero] at k0 f0 HE HC2
        have HE := HE (x % 256) rfl
        have HC2 := HC2 (x % 256)
        go_wp2
        go_roundw
        case rel => exact ⟨1, by go_num, by omega, HE, HC2⟩
        case measure => simp [intOf]
      · have HE := HE (x / 256 % 256) rfl
        have HC2 := HC2 (x / 256 % 256)
        go_wp2
        go_roundw
        case rel => exact ⟨2, by go_num, by omega, HE, HC2⟩
        case measure => simp [intOf]
      · have HE := HE (x / 65536 % 256) rfl
        have HC2 := HC2 (x / 65536 % 256)
        go_wp2
        go_roundw
        case rel => exact ⟨3, by go_num, by omega, HE, HC2⟩
        case measure => simp [intOf]
      · have HE := HE (x / 16777216 % 256) rfl
        have HC2 := HC2 (x / 16777216 % 256)
        have e3 : x / 16777216 % 256 = x / 16777216 := by omega
        rw [e3] at HE HC2
        go_wp2
        go_roundw
        case rel => exact ⟨4, by go_num, by omega, HE, HC2⟩
        case measure => simp [intOf]
    · obtain rfl : j = 4 := by omega
      go_wp2
      go_ret
      exact ⟨rfl, HM.out, HC.out⟩
end Go.Proofs.Ytpainiehceniiaa
