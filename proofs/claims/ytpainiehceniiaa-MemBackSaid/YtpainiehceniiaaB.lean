/- Bytes on memory; a memory as plain data; none, part, there, open, aligned. -/
import Derived.Test.YtpainiehceniiaaProg
import Derived.WalkSpells
import Derived.Deep.QuietTactic
import Derived.BigQuiet
import Derived.Test.YtpainiehceniiaaM
import Derived.Test.YtpainiehceniiaaWMore
import Derived.Test.YtpainiehceniiaaWWords
import Derived.Maps.AppendAt
import Derived.OwnWalk
import Derived.Laws.OwnMore
import Derived.Lib.SliceRun
namespace Go.Proofs.Ytpainiehceniiaa
open Go.RowKit Go.Proofs.YtpainiehceniiaaW.PrintWords Go.Proofs.YtpainiehceniiaaW.PrintMore
set_option linter.unusedVariables false

theorem own_take {W : World} {B : Nat} {t : TypeId} {A : Option Addr} {n c : Nat} {xs : List Value} (h : W.ownsRow B t 1 (.slice A n c) n xs) {k : Nat} (hk : k ≤ n) : W.ownsRow B t 1 (.slice A k c) k (xs.take k) := by
  have hl : xs.length = n := by simpa using h.1
  refine ⟨by simp; omega, ?_⟩
  rcases h.2 with ⟨hv, h0⟩ | ⟨g, cap, cur, hv, hb, hh, hn, hc, hs, ht⟩
  · injection hv with h1 h2 h3
    subst h1; subst h3
    exact .inl ⟨by rw [show k = 0 by omega], by omega⟩
  · injection hv with h1 h2 h3
    subst h1; subst h3
    exact .inr ⟨g, c, cur, rfl, hb, hh, by omega, hc, hs, by rw [← ht, List.take_take]; congr 1; simp; omega⟩
theorem own_cell {W : World} {B : Nat} {t : TypeId} {A : Option Addr} {n c : Nat} {xs : List Value} (h : W.ownsRow B t 1 (.slice A n c) n xs) {k : Nat} {x : Value} (hx : xs[k]? = some x) : ∃ g, A = some ⟨g, 0, none⟩ ∧ W.cell? ⟨g, k, none⟩ = some x := by
  have hl : xs.length = n := by simpa using h.1
  have hk : k < xs.length := (List.getElem?_eq_some_iff.1 hx).1
  rcases h.2 with ⟨_, h0⟩ | ⟨g, cap, cur, hv, hb, hh, hn, hc, hs, ht⟩
  · omega
  · injection hv with h1 h2 h3
    refine ⟨g, h1, cells_cell hh ?_⟩
    rw [← ht, List.getElem?_take] at hx
    split at hx
    · simpa using hx
    · cases hx
theorem own_set {W : World} {B : Nat} {t : TypeId} {g n c : Nat} {xs : List Value} (h : W.ownsRow B t 1 (.slice (some ⟨g, 0, none⟩) n c) n xs) (j : Nat) (v : Value) :
    (W.setCell ⟨g, j, none⟩ v).ownsRow B t 1 (.slice (some ⟨g, 0, none⟩) n c) n (xs.set j v) := by
  rcases h.2 with ⟨h0, _⟩ | ⟨g', cap, cur, hv, hb, hh, hn, hm, hs, ht⟩
  · cases h0
  · injection hv with h1 _ h3
    injection h1 with h1; injection h1 with h1
    subst h1; subst h3
    refine ⟨by simpa using h.1, .inr ⟨g, c, _, rfl, hb, set_cells hh, hn, hm, by simpa using hs, ?_⟩⟩
    rw [Array.toList_setIfInBounds, List.take_set, ht]
theorem own_free {W : World} {B : Nat} {t : TypeId} {g n c : Nat} {xs : List Value} (h : W.ownsRow B t 1 (.slice (some ⟨g, 0, none⟩) n c) n xs) (j : Nat) : W.frozen? ⟨g, j, none⟩ = false ∧ B ≤ g ∧ n ≤ c := by
  rcases h.2 with ⟨h0, _⟩ | ⟨g', cap, cur, hv, hb, hh, hn, hm, hs, ht⟩
  · cases h0
  · injection hv with h1 _ h3
    injection h1 with h1; injection h1 with h1
    subst h1; subst h3
    exact ⟨cells_free hh, hb, hn⟩
theorem own_cap {W : World} {B : Nat} {t : TypeId} {A : Option Addr} {n c : Nat} {xs : List Value} (h : W.ownsRow B t 1 (.slice A n c) n xs) : n ≤ c ∧ c ≤ maxLen := by
  rcases h.2 with ⟨hv, h0⟩ | ⟨g, cap, cur, hv, hb, hh, hn, hc, hs, ht⟩
  · injection hv with _ _ h3; subst h3; exact ⟨by omega, by simp [maxLen]⟩
  · injection hv with _ _ h3; subst h3; exact ⟨hn, hc⟩
theorem own_block (A : Option Addr) (n c n' c' : Nat) : (Value.slice A n c).ownBlock = (Value.slice A n' c').ownBlock := by cases A <;> rfl
theorem own_shape {W : World} {B : Nat} {t : TypeId} {v : Value} {n : Nat} {xs : List Value} (h : W.ownsRow B t 1 v n xs) : ∃ A c, v = .slice A n c := by
  rcases h.2 with ⟨rfl, h0⟩ | ⟨g, cap, cur, hv, _⟩
  · exact ⟨none, 0, by rw [h0]⟩
  · exact ⟨_, _, hv⟩
theorem add_block (ad : Addr) (j : Nat) : (ad.add j).block = ad.block := by unfold Addr.add; split <;> rfl

/-- the bytes of a slice, wherever it lies. -/
structure Src (W : World) (X : Option Addr) (ys : List Int) : Prop where
  non : X = none → ys = []
  at' : ∀ ad, X = some ad → ∀ j u, (ys.map (Value.int .u8))[j]? = some u → W.cell? (ad.add j) = some u
theorem Src.cell {W : World} {X : Option Addr} {ys : List Int} (h : Src W X ys) {k : Nat} {x : Int} (hx : ys[k]? = some x) : ∃ ad, X = some ad ∧ W.cell? (ad.add k) = some (.int .u8 x) := by
  rcases X with _ | ad
  · rw [h.non rfl] at hx; simp at hx
  · exact ⟨ad, rfl, h.at' ad rfl k _ (by simp [hx])⟩
theorem Src.chg {F : Nat → Prop} {W W' : World} {X : Option Addr} {ys : List Int} (h : Src W X ys) (hc : Chg F W W') (hF : ∀ ad, X = some ad → ¬ F ad.block) : Src W' X ys := by
  refine ⟨h.non, fun ad ha j u hu => ?_⟩
  have h2 := h.at' ad ha j u hu
  have hb := add_block ad j
  have hlt : (ad.add j).block < W.heap.size := by
    rcases Nat.lt_or_ge (ad.add j).block W.heap.size with h' | h'
    · exact h'
    · simp [World.cell?, Array.getElem?_eq_none h'] at h2
  rw [← h2]
  simp only [World.cell?]
  rw [hc.block _ hlt (by rw [hb]; exact hF ad ha)]
theorem Src.own {W : World} {B : Nat} {A : Option Addr} {n c : Nat} {ys : List Int} (h : W.ownsRow B 5 1 (.slice A n c) n (ys.map (Value.int .u8))) : Src W A ys := by
  have hl : ys.length = n := by simpa using h.1
  refine ⟨fun ha => ?_, fun ad ha j u hu => ?_⟩
  · rcases h.2 with ⟨hv, h0⟩ | ⟨g, cap, cur, hv, _⟩
    · exact List.eq_nil_of_length_eq_zero (by omega)
    · injection hv with h1; rw [ha] at h1; cases h1
  · obtain ⟨g, hg, hc⟩ := own_cell h hu
    rw [hg] at ha; injection ha with ha; subst ha
    unfold Addr.add
    split
    · rename_i h0; rw [h0] at hc; exact hc
    · simpa using hc
theorem Src.nil {W : World} {X : Option Addr} : Src W X [] := ⟨fun _ => rfl, fun _ _ _ _ hu => by simp at hu⟩
/-- a piece of it. -/
theorem Src.mid {W : World} {ad : Addr} {ys : List Int} (h : Src W (some ad) ys) (k n : Nat) : Src W (some (ad.add k)) ((ys.drop k).take n) := by
  refine ⟨fun hx => (by cases hx), fun ad' ha j u hu => ?_⟩
  injection ha with ha
  subst ha
  rw [List.map_take, List.getElem?_take] at hu
  split at hu
  · rw [List.map_drop, List.getElem?_drop] at hu
    have := h.at' ad rfl (k + j) u hu
    have e : (ad.add k).add j = ad.add (k + j) := by
      unfold Addr.add
      by_cases h1 : k = 0
      · subst h1; simp
      · by_cases h2 : j = 0
        · subst h2; simp
        · simp [h1, h2, Nat.add_assoc]
    rw [e]; exact this
  · cases hu

def Not : Nat → Prop := fun _ => False
theorem Src.not {W W' : World} {X : Option Addr} {ys : List Int} (h : Src W X ys) (hc : Chg Not W W') : Src W' X ys := h.chg hc fun _ _ h => h
theorem Chg.not {F : Nat → Prop} {W W1 W2 : World} (h : Chg F W W1) (h2 : Chg Not W1 W2) : Chg F W W2 := h.trans h2 fun _ _ h => h.elim

/-- a memory as plain data. -/
structure Mem where
  ram : List Int
  win : List Int
/-- block p is a memory that New answered: RAM in block g, the window in V. -/
structure Mm (B : Nat) (W : World) (p g cr : Nat) (V : Option Addr) (cv : Nat) (m : Mem) : Prop where
  base : B ≤ p
  blk : W.heap[p]? = some (.cells #[.slice (some ⟨g, 0, none⟩) m.ram.length cr, .slice V m.win.length cv] 50 (0, 0))
  ram : W.ownsRow B 5 1 (.slice (some ⟨g, 0, none⟩) m.ram.length cr) m.ram.length (m.ram.map (Value.int .u8))
  win : W.ownsRow B 5 1 (.slice V m.win.length cv) m.win.length (m.win.map (Value.int .u8))
  apart : (Value.slice V 0 0).ownBlock ≠ some g
  len : 4 ≤ m.ram.length ∧ m.ram.length ≤ 65536
  wlen : m.win.length ≤ 65536
abbrev ptr (p : Nat) : Value := .pointer (some ⟨p, 0, none⟩)

theorem none_live {B : Nat} {W : World} {p g cr : Nat} {V : Option Addr} {cv : Nat} {m : Mem} (h : Mm B W p g cr V cv m) :
    Calls Try.prog 25 #[ptr p] W fun e W' => e = .returned (.bool false) ∧ W = W' := by
  have c0 : W.cell? ⟨p, 0, none⟩ = some (.slice (some ⟨g, 0, none⟩) m.ram.length cr) := cells_cell h.blk rfl
  have hq : ∀ w : World, (binOp .eql 22 (.slice (some ⟨g, 0, none⟩) m.ram.length cr) (.slice none 0 0)).run Try.prog w = .ok (.bool false) w := fun w => Lib.run_eql_slice_nil w 22 5 (some ⟨g, 0, none⟩) _ _ 0 0 Try.underlying22
  clear h
  go_enter Try.func25, Try.ntmps25
  go_wp2
  go_ret
  exact ⟨rfl, rfl⟩

/-- where n bytes that begin at at lie in a row that begins at b. -/
def fits (b at' n len : Nat) : Prop := b ≤ at' ∧ at' - b + n ≤ len
set_option maxHeartbeats 1000000 in
theorem part_no {W : World} (A : Option Addr) (len c b at' n : Nat) (hb : b < 4294967296) (ha : at' < 4294967296) (hn : n < 4294967296) (hl : len ≤ 65536) (h : ¬ fits b at' n len) :
    Calls Try.prog 34 #[.slice A len c, .int .u32 b, .int .u32 at', .int .u32 n] W fun e W' => e = .returned (.tuple #[.slice none 0 0, .bool false]) ∧ W = W' := by
  unfold fits at h
  by_cases h1 : at' < b
  · have b0 : decide ((at' : Int) < (b : Int)) = true := decide_eq_true (by omega)
    go_enter Try.func34, Try.ntmps34
    go_wp2
    all_goals first | (exfalso; omega) | (go_ret2; exact ⟨rfl, rfl⟩)
  · have b0 : decide ((at' : Int) < (b : Int)) = false := decide_eq_false (by omega)
    have w1 : IntKind.u64.wrap ((at' : Int) - b) = ((at' - b : Nat) : Int) := by rw [IntWalk.u64_in _ (by omega)]; omega
    have w2 : IntKind.u64.wrap (((at' - b : Nat) : Int) + n) = ((at' - b + n : Nat) : Int) := by rw [IntWalk.u64_in _ (by omega)]; omega
    have h3 : len < at' - b + n := by omega
    go_enter Try.func34, Try.ntmps34
    go_wp2
    all_goals first | (exfalso; omega) | (go_ret2; exact ⟨rfl, rfl⟩)
/-- the slice that 'there' tells. -/
def piece (A : Option Addr) (off n : Nat) : Value := .slice (if n = 0 then A else A.map (·.add off)) n n
theorem part_yes {W : World} (A : Option Addr) (len c b at' n : Nat) (hb : b < 4294967296) (ha : at' < 4294967296) (hn : n < 4294967296) (hl : len ≤ 65536) (hc : len ≤ c) (h : fits b at' n len) :
    Calls Try.prog 34 #[.slice A len c, .int .u32 b, .int .u32 at', .int .u32 n] W fun e W' => e = .returned (.tuple #[piece A (at' - b) n, .bool true]) ∧ W = W' := by
  unfold fits at h
  unfold piece
  have b0 : decide ((at' : Int) < (b : Int)) = false := decide_eq_false (by omega)
  have w1 : IntKind.u64.wrap ((at' : Int) - b) = ((at' - b : Nat) : Int) := by rw [IntWalk.u64_in _ (by omega)]; omega
  have w2 : IntKind.u64.wrap (((at' - b : Nat) : Int) + n) = ((at' - b + n : Nat) : Int) := by rw [IntWalk.u64_in _ (by omega)]; omega
  have h3 : ¬ len < at' - b + n := by omega
  go_enter Try.func34, Try.ntmps34
  go_wp2
  all_goals first | (exfalso; omega) | (go_ret2; exact ⟨rfl, rfl⟩)

/-- where n bytes from at on lie: in the window (true) or in RAM; from which byte on. -/
inductive Lies (m : Mem) (at' n : Nat) : Option (Bool × Nat) → Prop
  | win : fits 4096 at' n m.win.length → Lies m at' n (some (true, at' - 4096))
  | ram : ¬ fits 4096 at' n m.win.length → fits 1048576 at' n m.ram.length → Lies m at' n (some (false, at' - 1048576))
  | none : ¬ fits 4096 at' n m.win.length → ¬ fits 1048576 at' n m.ram.length → Lies m at' n none
theorem lies_any (m : Mem) (at' n : Nat) : ∃ o, Lies m at' n o := by
  by_cases h1 : fits 4096 at' n m.win.length
  · exact ⟨_, .win h1⟩
  · by_cases h2 : fits 1048576 at' n m.ram.length
    · exact ⟨_, .ram h1 h2⟩
    · exact ⟨_, .none h1 h2⟩
def Mem.row (m : Mem) (w : Bool) : List Int := if w then m.win else m.ram

theorem win_no {W : World} (A : Option Addr) (len c at' n : Nat) (ha : at' < 4294967296) (hn : n < 4294967296) (hl : len ≤ 65536) (h : ¬ fits 4096 at' n len) :
    Calls Try.prog 34 #[.slice A len c, .int .u32 4096, .int .u32 at', .int .u32 n] W fun e W' => e = .returned (.tuple #[.slice none 0 0, .bool false]) ∧ W = W' :=
  part_no A len c 4096 at' n (by decide) ha hn hl h
theorem ram_no {W : World} (A : Option Addr) (len c at' n : Nat) (ha : at' < 4294967296) (hn : n < 4294967296) (hl : len ≤ 65536) (h : ¬ fits 1048576 at' n len) :
    Calls Try.prog 34 #[.slice A len c, .int .u32 1048576, .int .u32 at', .int .u32 n] W fun e W' => e = .returned (.tuple #[.slice none 0 0, .bool false]) ∧ W = W' :=
  part_no A len c 1048576 at' n (by decide) ha hn hl h
theorem win_yes {W : World} (A : Option Addr) (len c at' n : Nat) (ha : at' < 4294967296) (hn : n < 4294967296) (hl : len ≤ 65536) (hc : len ≤ c) (h : fits 4096 at' n len) :
    Calls Try.prog 34 #[.slice A len c, .int .u32 4096, .int .u32 at', .int .u32 n] W fun e W' => e = .returned (.tuple #[piece A (at' - 4096) n, .bool true]) ∧ W = W' :=
  part_yes A len c 4096 at' n (by decide) ha hn hl hc h
theorem ram_yes {W : World} (A : Option Addr) (len c at' n : Nat) (ha : at' < 4294967296) (hn : n < 4294967296) (hl : len ≤ 65536) (hc : len ≤ c) (h : fits 1048576 at' n len) :
    Calls Try.prog 34 #[.slice A len c, .int .u32 1048576, .int .u32 at', .int .u32 n] W fun e W' => e = .returned (.tuple #[piece A (at' - 1048576) n, .bool true]) ∧ W = W' :=
  part_yes A len c 1048576 at' n (by decide) ha hn hl hc h
theorem there_no {B : Nat} {W : World} {p g cr : Nat} {V : Option Addr} {cv : Nat} {m : Mem} (h : Mm B W p g cr V cv m) (at' n : Nat) (ha : at' < 4294967296) (hn : n < 4294967296) (hl : Lies m at' n none) :
    Calls Try.prog 30 #[ptr p, .int .u32 at', .int .u32 n] W fun e W' => e = .returned (.tuple #[.slice none 0 0, .bool false, .int .i32 (-9)]) ∧ W = W' := by
  have c0 : W.cell? ⟨p, 0, none⟩ = some (.slice (some ⟨g, 0, none⟩) m.ram.length cr) := cells_cell h.blk rfl
  have c1 : W.cell? ⟨p, 1, none⟩ = some (.slice V m.win.length cv) := cells_cell h.blk rfl
  obtain ⟨h1, h2⟩ : ¬ fits 4096 at' n m.win.length ∧ ¬ fits 1048576 at' n m.ram.length := by cases hl; constructor <;> assumption
  have P1 : Hid _ := fun (w : World) => win_no (W := w) V m.win.length cv at' n ha hn h.wlen h1
  have P2 : Hid _ := fun (w : World) => ram_no (W := w) (some ⟨g, 0, none⟩) m.ram.length cr at' n ha hn h.len.2 h2
  have H : Hid (Mm B W p g cr V cv m) := h
  clear h h1 h2 hl
  go_enter Try.func30, Try.ntmps30
  go_wp2_with (first | (go_at_call 25; refine (none_live H.out).mono ?_; rintro e w' ⟨rfl, rfl⟩) | fail)
  refine (P1.out _).mono ?_
  rintro e w' ⟨rfl, rfl⟩
  go_wp2_with fail
  refine (P2.out _).mono ?_
  rintro e w' ⟨rfl, rfl⟩
  go_wp2
  go_ret3
  exact ⟨rfl, rfl⟩
theorem there_win {B : Nat} {W : World} {p g cr : Nat} {V : Option Addr} {cv : Nat} {m : Mem} (h : Mm B W p g cr V cv m) (at' n : Nat) (ha : at' < 4294967296) (hn : n < 4294967296) (h1 : fits 4096 at' n m.win.length) :
    Calls Try.prog 30 #[ptr p, .int .u32 at', .int .u32 n] W fun e W' => e = .returned (.tuple #[piece V (at' - 4096) n, .bool true, .int .i32 0]) ∧ W = W' := by
  have c0 : W.cell? ⟨p, 0, none⟩ = some (.slice (some ⟨g, 0, none⟩) m.ram.length cr) := cells_cell h.blk rfl
  have c1 : W.cell? ⟨p, 1, none⟩ = some (.slice V m.win.length cv) := cells_cell h.blk rfl
  have P1 : Hid _ := fun (w : World) => win_yes (W := w) V m.win.length cv at' n ha hn h.wlen (own_cap h.win).1 h1
  have H : Hid (Mm B W p g cr V cv m) := h
  clear h h1
  go_enter Try.func30, Try.ntmps30
  go_wp2_with (first | (go_at_call 25; refine (none_live H.out).mono ?_; rintro e w' ⟨rfl, rfl⟩) | (go_at_call 34; refine (P1.out _).mono ?_; rintro e w' ⟨rfl, rfl⟩))
  go_ret3
  exact ⟨rfl, rfl⟩
theorem there_ram {B : Nat} {W : World} {p g cr : Nat} {V : Option Addr} {cv : Nat} {m : Mem} (h : Mm B W p g cr V cv m) (at' n : Nat) (ha : at' < 4294967296) (hn : n < 4294967296) (h1 : ¬ fits 4096 at' n m.win.length) (h2 : fits 1048576 at' n m.ram.length) :
    Calls Try.prog 30 #[ptr p, .int .u32 at', .int .u32 n] W fun e W' => e = .returned (.tuple #[piece (some ⟨g, 0, none⟩) (at' - 1048576) n, .bool false, .int .i32 0]) ∧ W = W' := by
  have c0 : W.cell? ⟨p, 0, none⟩ = some (.slice (some ⟨g, 0, none⟩) m.ram.length cr) := cells_cell h.blk rfl
  have c1 : W.cell? ⟨p, 1, none⟩ = some (.slice V m.win.length cv) := cells_cell h.blk rfl
  have P1 : Hid _ := fun (w : World) => win_no (W := w) V m.win.length cv at' n ha hn h.wlen h1
  have P2 : Hid _ := fun (w : World) => ram_yes (W := w) (some ⟨g, 0, none⟩) m.ram.length cr at' n ha hn h.len.2 (own_cap h.ram).1 h2
  have H : Hid (Mm B W p g cr V cv m) := h
  clear h h1 h2
  go_enter Try.func30, Try.ntmps30
  go_wp2_with (first | (go_at_call 25; refine (none_live H.out).mono ?_; rintro e w' ⟨rfl, rfl⟩) | fail)
  refine (P1.out _).mono ?_
  rintro e w' ⟨rfl, rfl⟩
  go_wp2_with fail
  refine (P2.out _).mono ?_
  rintro e w' ⟨rfl, rfl⟩
  go_wp2
  go_ret3
  exact ⟨rfl, rfl⟩
end Go.Proofs.Ytpainiehceniiaa
