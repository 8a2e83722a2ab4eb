/- Store, Fill, SetByte, Move by their addresses. -/
import Derived.Test.YtpainiehceniiaaO
namespace Go.Proofs.Ytpainiehceniiaa
open Go.RowKit Go.Shelf
set_option linter.unusedVariables false

variable {B : Nat} {W : World} {p g cr : Nat} {V : Option Addr} {cv : Nat} {m : Mem}
theorem al_yes (h : Mm B W p g cr V cv m) (a : Nat) (ha : a < 4294967296) (h4 : a % 4 = 0) : Calls Try.prog 26 #[ptr p, .int .u32 a] W fun e W' => e = .returned (.int .i32 0) ∧ W = W' := by
  have := aligned_is h a ha; rwa [if_pos h4] at this
theorem al_no (h : Mm B W p g cr V cv m) (a : Nat) (ha : a < 4294967296) (h4 : ¬ a % 4 = 0) : Calls Try.prog 26 #[ptr p, .int .u32 a] W fun e W' => e = .returned (.int .i32 (-23)) ∧ W = W' := by
  have := aligned_is h a ha; rwa [if_neg h4] at this
theorem lies_inv {a n off : Nat} {w : Bool} (hl : Lies m a n (some (w, off))) : (w = true ∧ off = a - 4096 ∧ fits 4096 a n m.win.length) ∨ (w = false ∧ off = a - 1048576 ∧ ¬ fits 4096 a n m.win.length ∧ fits 1048576 a n m.ram.length) := by
  cases hl with
  | win h1 => exact .inl ⟨rfl, rfl, h1⟩
  | ram h1 h2 => exact .inr ⟨rfl, rfl, h1, h2⟩
theorem open_at (h : Mm B W p g cr V cv m) (a n off : Nat) (ha : a < 4294967296) (hn : n < 4294967296) (hl : Lies m a n (some (false, off))) :
    off + n ≤ m.ram.length ∧ Calls Try.prog 27 #[ptr p, .int .u32 a, .int .u32 n] W fun e W' => e = .returned (.tuple #[piece (some ⟨g, 0, none⟩) off n, .int .i32 0]) ∧ W = W' := by
  rcases lies_inv hl with ⟨h0, _⟩ | ⟨_, ho, h1, h2⟩
  · cases h0
  · have HP := open_ram h a n ha hn h1 h2
    have hf := h2.2
    rw [← ho] at HP hf
    exact ⟨hf, HP⟩
theorem open_win (h : Mm B W p g cr V cv m) (a n off : Nat) (ha : a < 4294967296) (hn : n < 4294967296) (hl : Lies m a n (some (true, off))) (h0 : 0 < n) :
    Calls Try.prog 27 #[ptr p, .int .u32 a, .int .u32 n] W fun e W' => e = .returned (.tuple #[.slice none 0 0, .int .i32 (-20)]) ∧ W = W' := by
  rcases lies_inv hl with ⟨_, ho, h1⟩ | ⟨h1, _⟩
  · exact open_fixed h a n ha hn h1 h0
  · cases h1
theorem open_win0 (h : Mm B W p g cr V cv m) (a off : Nat) (ha : a < 4294967296) (hl : Lies m a 0 (some (true, off))) :
    ∃ X, Calls Try.prog 27 #[ptr p, .int .u32 a, .int .u32 0] W fun e W' => e = .returned (.tuple #[.slice X 0 0, .int .i32 0]) ∧ W = W' := by
  rcases lies_inv hl with ⟨_, ho, h1⟩ | ⟨h1, _⟩
  · have HP := open_empty h a ha h1
    generalize a - 4096 = off2 at HP
    exact ⟨_, HP⟩
  · cases h1
theorem there_at (h : Mm B W p g cr V cv m) (a n off : Nat) (w : Bool) (ha : a < 4294967296) (hn : n < 4294967296) (hl : Lies m a n (some (w, off))) :
    ∃ X, (Calls Try.prog 30 #[ptr p, .int .u32 a, .int .u32 n] W fun e W' => e = .returned (.tuple #[.slice X n n, .bool w, .int .i32 0]) ∧ W = W') ∧ Src W X (m.cut w off n) ∧ (m.cut w off n).length = n := by
  cases hl with
  | win h1 =>
    have HP := there_win h a n ha hn h1
    have hf : a - 4096 + n ≤ m.win.length := h1.2
    generalize a - 4096 = off at *
    obtain ⟨X, hp, hs, -⟩ := piece_is (Src.own h.win) off n hf
    rw [hp] at HP
    exact ⟨X, HP, hs, by show ((m.win.drop off).take n).length = n; simp; omega⟩
  | ram h1 h2 =>
    have HP := there_ram h a n ha hn h1 h2
    have hf : a - 1048576 + n ≤ m.ram.length := h2.2
    generalize a - 1048576 = off at *
    obtain ⟨X, hp, hs, -⟩ := piece_is (Src.own h.ram) off n hf
    rw [hp] at HP
    exact ⟨X, HP, hs, by show ((m.ram.drop off).take n).length = n; simp; omega⟩

theorem store_off (h : Mm B W p g cr V cv m) (a : Nat) (x : Int) (ha : a < 4294967296) (h4 : ¬ a % 4 = 0) :
    Calls Try.prog 11 #[ptr p, .int .u32 a, .int .u32 x] W fun e W' => e = .returned (.int .i32 (-23)) ∧ W = W' := store_no a x (-23) (by decide) (hid (al_no h a ha h4))
theorem store_out (h : Mm B W p g cr V cv m) (a : Nat) (x : Int) (ha : a < 4294967296) (h4 : a % 4 = 0) (hl : Lies m a 4 none) :
    Calls Try.prog 11 #[ptr p, .int .u32 a, .int .u32 x] W fun e W' => e = .returned (.int .i32 (-9)) ∧ W = W' := store_none a x (-9) (hid (al_yes h a ha h4)) (hid (open_no h a 4 ha (by decide) hl))
theorem store_win (h : Mm B W p g cr V cv m) (a off : Nat) (x : Int) (ha : a < 4294967296) (h4 : a % 4 = 0) (hl : Lies m a 4 (some (true, off))) :
    Calls Try.prog 11 #[ptr p, .int .u32 a, .int .u32 x] W fun e W' => e = .returned (.int .i32 (-20)) ∧ W = W' := store_none a x (-20) (hid (al_yes h a ha h4)) (hid (open_win h a 4 off ha (by decide) hl (by decide)))
theorem store_yes (h : Mm B W p g cr V cv m) (a off : Nat) (x : Int) (hx0 : 0 ≤ x) (hx1 : x ≤ 4294967295) (ha : a < 4294967296) (h4 : a % 4 = 0) (hl : Lies m a 4 (some (false, off))) :
    Calls Try.prog 11 #[ptr p, .int .u32 a, .int .u32 x] W fun e W' => e = .returned (.int .i32 0) ∧ Mm B W' p g cr V cv (m.put off (le4 x)) ∧ Chg (fun k => k = g) W W' := by
  obtain ⟨hf, HP⟩ := open_at h a 4 off ha (by decide) hl
  obtain ⟨X, hp, hX⟩ := piece_ram g off 4
  rw [hp] at HP
  obtain rfl := hX.at' (by decide)
  exact store_core h a off x hx0 hx1 hf (hid (al_yes h a ha h4)) (hid HP)

theorem fill_out (h : Mm B W p g cr V cv m) (a n : Nat) (b : Int) (ha : a < 4294967296) (hn : n < 4294967296) (hl : Lies m a n none) :
    Calls Try.prog 17 #[ptr p, .int .u32 a, .int .u32 n, .int .u8 b] W fun e W' => e = .returned (.int .i32 (-9)) ∧ W = W' := fill_none a n b none (-9) (hid (open_no h a n ha hn hl))
theorem fill_win (h : Mm B W p g cr V cv m) (a n off : Nat) (b : Int) (ha : a < 4294967296) (hn : n < 4294967296) (h0 : 0 < n) (hl : Lies m a n (some (true, off))) :
    Calls Try.prog 17 #[ptr p, .int .u32 a, .int .u32 n, .int .u8 b] W fun e W' => e = .returned (.int .i32 (-20)) ∧ W = W' := fill_none a n b none (-20) (hid (open_win h a n off ha hn hl h0))
theorem fill_win0 (h : Mm B W p g cr V cv m) (a off : Nat) (b : Int) (ha : a < 4294967296) (hl : Lies m a 0 (some (true, off))) :
    Calls Try.prog 17 #[ptr p, .int .u32 a, .int .u32 0, .int .u8 b] W fun e W' => e = .returned (.int .i32 0) ∧ W = W' := by
  obtain ⟨X, hX⟩ := open_win0 h a off ha hl
  exact fill_none a 0 b X 0 (hid hX)
theorem fill_yes (h : Mm B W p g cr V cv m) (a n off : Nat) (b : Int) (ha : a < 4294967296) (hn : n < 4294967296) (hl : Lies m a n (some (false, off))) :
    Calls Try.prog 17 #[ptr p, .int .u32 a, .int .u32 n, .int .u8 b] W fun e W' => e = .returned (.int .i32 0) ∧ Mm B W' p g cr V cv (m.put off (List.replicate n b)) ∧ Chg (fun k => k = g) W W' := by
  obtain ⟨hf, HP⟩ := open_at h a n off ha hn hl
  exact fill_core h a off n b hf HP
theorem setByte_out (h : Mm B W p g cr V cv m) (a : Nat) (b : Int) (ha : a < 4294967296) (hl : Lies m a 1 none) :
    Calls Try.prog 13 #[ptr p, .int .u32 a, .int .u8 b] W fun e W' => e = .returned (.int .i32 (-9)) ∧ W = W' := setByte_core a b (-9) (fun W' => W = W') (hid (fill_out h a 1 b ha (by decide) hl))
theorem setByte_win (h : Mm B W p g cr V cv m) (a off : Nat) (b : Int) (ha : a < 4294967296) (hl : Lies m a 1 (some (true, off))) :
    Calls Try.prog 13 #[ptr p, .int .u32 a, .int .u8 b] W fun e W' => e = .returned (.int .i32 (-20)) ∧ W = W' := setByte_core a b (-20) (fun W' => W = W') (hid (fill_win h a 1 off b ha (by decide) (by decide) hl))
theorem setByte_yes (h : Mm B W p g cr V cv m) (a off : Nat) (b : Int) (ha : a < 4294967296) (hl : Lies m a 1 (some (false, off))) :
    Calls Try.prog 13 #[ptr p, .int .u32 a, .int .u8 b] W fun e W' => e = .returned (.int .i32 0) ∧ Mm B W' p g cr V cv (m.put off [b]) ∧ Chg (fun k => k = g) W W' := setByte_core a b 0 (fun W' => Mm B W' p g cr V cv (m.put off [b]) ∧ Chg (fun k => k = g) W W') (hid (fill_yes h a 1 off b ha (by decide) hl))

theorem move_out (h : Mm B W p g cr V cv m) (a b n : Nat) (ha : a < 4294967296) (hn : n < 4294967296) (hl : Lies m a n none) :
    Calls Try.prog 15 #[ptr p, .int .u32 a, .int .u32 b, .int .u32 n] W fun e W' => e = .returned (.int .i32 (-9)) ∧ W = W' := move_no a b n (hid (there_no h a n ha hn hl))
theorem move_to_out (h : Mm B W p g cr V cv m) (a b n off : Nat) (w : Bool) (ha : a < 4294967296) (hb : b < 4294967296) (hn : n < 4294967296) (hl : Lies m a n (some (w, off))) (hl2 : Lies m b n none) :
    Calls Try.prog 15 #[ptr p, .int .u32 a, .int .u32 b, .int .u32 n] W fun e W' => e = .returned (.int .i32 (-9)) ∧ W = W' := by
  obtain ⟨X, HP, _⟩ := there_at h a n off w ha hn hl
  exact move_none a b n X none w (-9) (hid HP) (hid (open_no h b n hb hn hl2))
theorem move_win (h : Mm B W p g cr V cv m) (a b n off off2 : Nat) (w : Bool) (ha : a < 4294967296) (hb : b < 4294967296) (hn : n < 4294967296) (h0 : 0 < n) (hl : Lies m a n (some (w, off))) (hl2 : Lies m b n (some (true, off2))) :
    Calls Try.prog 15 #[ptr p, .int .u32 a, .int .u32 b, .int .u32 n] W fun e W' => e = .returned (.int .i32 (-20)) ∧ W = W' := by
  obtain ⟨X, HP, _⟩ := there_at h a n off w ha hn hl
  exact move_none a b n X none w (-20) (hid HP) (hid (open_win h b n off2 hb hn hl2 h0))
theorem move_win0 (h : Mm B W p g cr V cv m) (a b off off2 : Nat) (w : Bool) (ha : a < 4294967296) (hb : b < 4294967296) (hl : Lies m a 0 (some (w, off))) (hl2 : Lies m b 0 (some (true, off2))) :
    Calls Try.prog 15 #[ptr p, .int .u32 a, .int .u32 b, .int .u32 0] W fun e W' => e = .returned (.int .i32 0) ∧ W = W' := by
  obtain ⟨X, HP, _⟩ := there_at h a 0 off w ha (by decide) hl
  obtain ⟨Y, HY⟩ := open_win0 h b off2 hb hl2
  exact move_none a b 0 X Y w 0 (hid HP) (hid HY)
theorem move_yes (h : Mm B W p g cr V cv m) (a b n off off2 : Nat) (w : Bool) (ha : a < 4294967296) (hb : b < 4294967296) (hn : n < 4294967296) (hl : Lies m a n (some (w, off))) (hl2 : Lies m b n (some (false, off2))) :
    Calls Try.prog 15 #[ptr p, .int .u32 a, .int .u32 b, .int .u32 n] W fun e W' => e = .returned (.int .i32 0) ∧ Mm B W' p g cr V cv (m.put off2 (m.cut w off n)) ∧ Chg (fun k => k = g) W W' := by
  obtain ⟨X, HP, hs, hlen⟩ := there_at h a n off w ha hn hl
  obtain ⟨hf, HO⟩ := open_at h b n off2 hb hn hl2
  obtain ⟨Y, hp, hY⟩ := piece_ram g off2 n
  rw [hp] at HO
  exact move_core h a b n off2 X Y w _ hlen hs hf hY.at' (hid HP) (hid HO)
end Go.Proofs.Ytpainiehceniiaa
