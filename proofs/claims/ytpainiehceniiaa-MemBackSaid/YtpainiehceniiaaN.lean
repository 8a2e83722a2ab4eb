/- what Load tells, as one number; Load by its address. -/
import Derived.Test.YtpainiehceniiaaL
import Derived.Test.YtpainiehceniiaaF
import Derived.Laws.BitsLemmas
namespace Go.Proofs.Ytpainiehceniiaa
open Go.RowKit Go.Shelf
set_option linter.unusedVariables false

theorem or_byte (a b : Int) (ha : 0 ≤ a) (ha1 : a < 16777216) (hb : 0 ≤ b) (hb1 : b ≤ 255) : bits .or .u32 (a * 256 % 4294967296) (b % 4294967296) = a * 256 + b := by
  rw [Int.emod_eq_of_lt (by omega) (by omega), Int.emod_eq_of_lt (by omega) (by omega)]
  exact bits_join .u32 32 (by decide) (fun n h0 h1 => by rw [IntKind.wrap_u32]; omega) 8 (a * 256) b (by omega) (by omega) (by omega) hb (by omega) (by omega)
def word (b0 b1 b2 b3 : Int) : Int := ((b3 * 256 + b2) * 256 + b1) * 256 + b0
theorem gather_four (bs : Nat → Int) (h : ∀ i, i < 4 → 0 ≤ bs i ∧ bs i ≤ 255) : gather bs (down 4 4 (Nat.le_refl _)) = word (bs 0) (bs 1) (bs 2) (bs 3) := by
  have h0 := h 0 (by decide)
  have h1 := h 1 (by decide)
  have h2 := h 2 (by decide)
  have h3 := h 3 (by decide)
  show bits .or .u32 (bits .or .u32 (bits .or .u32 (bits .or .u32 (0 * 256 % 4294967296) (bs 3 % 4294967296) * 256 % 4294967296) (bs 2 % 4294967296) * 256 % 4294967296) (bs 1 % 4294967296) * 256 % 4294967296) (bs 0 % 4294967296) = _
  rw [or_byte 0 (bs 3) (by omega) (by omega) h3.1 h3.2, or_byte _ (bs 2) (by omega) (by omega) h2.1 h2.2, or_byte _ (bs 1) (by omega) (by omega) h1.1 h1.2, or_byte _ (bs 0) (by omega) (by omega) h0.1 h0.2]
  unfold word
  omega
theorem word_le4 (x : Int) (h0 : 0 ≤ x) (h1 : x ≤ 4294967295) : word (x % 256) (x / 256 % 256) (x / 65536 % 256) (x / 16777216 % 256) = x := by unfold word; omega

theorem Src.bytes {W : World} {X : Option Addr} {ys : List Int} (h : Src W X ys) : BytesAt W.heap.size W X ys.length (fun i => ys.getD i 0) := fun i hi => by
  obtain ⟨ad, rfl, hc⟩ := h.cell (k := i) (x := ys[i]) (by simp [hi])
  refine ⟨ad, rfl, ?_, by rw [hc]; show _ = some (Value.int .u8 (ys.getD i 0)); rw [List.getD_eq_getElem?_getD, List.getElem?_eq_getElem hi]; rfl⟩
  rw [← add_block ad i]
  rcases Nat.lt_or_ge (ad.add i).block W.heap.size with h' | h'
  · exact h'
  · simp [World.cell?, Array.getElem?_eq_none h'] at hc
theorem load_align {W : World} {vp : Value} (at' : Nat) (r : Int) (hr : r ≠ 0) (HA : Hid (Calls Try.prog 26 #[vp, .int .u32 at'] W fun e W' => e = .returned (.int .i32 r) ∧ W = W')) :
    Calls Try.prog 21 #[vp, .int .u32 at'] W fun e W' => e = .returned (.tuple #[.int .u32 0, .int .i32 r]) ∧ Below W.heap.size W W' := by
  have b0 : (r == 0) = false := beq_eq_false_iff_ne.mpr hr
  refine (callsIn_wide (n := 6)).1 ?_
  refine callsIn_of_wp_marks Try.func21 rfl trivial ?_ rfl
  simp only [Try.ntmps21, List.size_toArray, List.length_cons, List.length_nil, Nat.reduceAdd, Nat.reduceSub, Array.replicate_succ, Array.replicate_zero, List.push_toArray, List.append_toArray, List.nil_append, List.cons_append]
  gi_wp2_with (refine ⟨trivial, ?_⟩; first | (gi_at_call 26; refine (callsIn_wide.2 HA.out).mono ?_; rintro e w' ⟨rfl, rfl⟩))
  all_goals first | (exfalso; omega) | exact ⟨_, results_tmp2 rfl _ _ _, rfl, Below.refl _ _⟩

theorem not_of_below {W W' : World} (h : Below W.heap.size W W') : Chg Not W W' := Chg.of_below h fun k h1 h2 => absurd h2 (by omega)
theorem load_off {B : Nat} {W : World} {p g cr : Nat} {V : Option Addr} {cv : Nat} {m : Mem} (h : Mm B W p g cr V cv m) (at' : Nat) (ha : at' < 4294967296) (h4 : at' % 4 ≠ 0) :
    Calls Try.prog 21 #[ptr p, .int .u32 at'] W fun e W' => e = .returned (.tuple #[.int .u32 0, .int .i32 (-23)]) ∧ Chg Not W W' := by
  have HA := aligned_is h at' ha
  rw [if_neg h4] at HA
  exact (load_align at' (-23) (by decide) (hid HA)).mono fun e W' h => ⟨h.1, not_of_below h.2⟩
theorem load_no {B : Nat} {W : World} {p g cr : Nat} {V : Option Addr} {cv : Nat} {m : Mem} (h : Mm B W p g cr V cv m) (at' : Nat) (ha : at' < 4294967296) (h4 : at' % 4 = 0) (hl : Lies m at' 4 none) :
    Calls Try.prog 21 #[ptr p, .int .u32 at'] W fun e W' => e = .returned (.tuple #[.int .u32 0, .int .i32 (-9)]) ∧ Chg Not W W' := by
  have HA := aligned_is h at' ha
  rw [if_pos h4] at HA
  exact (load_core at' none 0 (by decide) false (-9) (fun _ => 0) (fun i hi => absurd hi (by omega)) (hid HA) (hid (there_no h at' 4 ha (by decide) hl))).mono fun e W' h => ⟨h.1, not_of_below h.2⟩
/-- the cell at a place. -/
def Mem.word (m : Mem) (w : Bool) (off : Nat) : Int := Go.Proofs.Ytpainiehceniiaa.word ((m.row w).getD off 0) ((m.row w).getD (off + 1) 0) ((m.row w).getD (off + 2) 0) ((m.row w).getD (off + 3) 0)
theorem load_at {W : World} {p : Nat} (at' : Nat) (A : Option Addr) (l : List Int) (off : Nat) (b : Bool) (hs : Src W A l) (hl : ∀ x ∈ l, 0 ≤ x ∧ x ≤ 255) (hf : off + 4 ≤ l.length)
    (HA : Calls Try.prog 26 #[ptr p, .int .u32 at'] W fun e W' => e = .returned (.int .i32 0) ∧ W = W')
    (HP : Calls Try.prog 30 #[ptr p, .int .u32 at', .int .u32 4] W fun e W' => e = .returned (.tuple #[piece A off 4, .bool b, .int .i32 0]) ∧ W = W') :
    Calls Try.prog 21 #[ptr p, .int .u32 at'] W fun e W' => e = .returned (.tuple #[.int .u32 (word (l.getD off 0) (l.getD (off + 1) 0) (l.getD (off + 2) 0) (l.getD (off + 3) 0)), .int .i32 0]) ∧ Chg Not W W' := by
  obtain ⟨X, hp, hx, -⟩ := piece_is hs off 4 hf
  rw [hp] at HP
  have hlen : ((l.drop off).take 4).length = 4 := by simp; omega
  have hb := hx.bytes
  rw [hlen] at hb
  have hget : ∀ i, i < 4 → ((l.drop off).take 4).getD i 0 = l.getD (off + i) 0 := fun i hi => by
    rw [List.getD_eq_getElem?_getD, List.getElem?_take, if_pos hi, List.getElem?_drop, List.getD_eq_getElem?_getD]
  have hin : ∀ i, i < 4 → 0 ≤ ((l.drop off).take 4).getD i 0 ∧ ((l.drop off).take 4).getD i 0 ≤ 255 := fun i hi => by
    rw [hget i hi, List.getD_eq_getElem?_getD, List.getElem?_eq_getElem (by omega)]
    exact hl _ (List.getElem_mem _)
  refine (load_core at' X 4 (Nat.le_refl _) b 0 _ hb (hid HA) (hid HP)).mono fun e W' h => ⟨?_, not_of_below h.2⟩
  rw [h.1, gather_four _ hin, hget 0 (by decide), hget 1 (by decide), hget 2 (by decide), hget 3 (by decide)]
  rfl
theorem load_yes {B : Nat} {W : World} {p g cr : Nat} {V : Option Addr} {cv : Nat} {m : Mem} (h : Mm B W p g cr V cv m) (at' : Nat) (ha : at' < 4294967296) (h4 : at' % 4 = 0) (w : Bool) (off : Nat) (hl : Lies m at' 4 (some (w, off))) (hb : ∀ x ∈ m.row w, 0 ≤ x ∧ x ≤ 255) :
    Calls Try.prog 21 #[ptr p, .int .u32 at'] W fun e W' => e = .returned (.tuple #[.int .u32 (m.word w off), .int .i32 0]) ∧ Chg Not W W' := by
  have HA := aligned_is h at' ha
  rw [if_pos h4] at HA
  cases hl with
  | win h1 => exact load_at at' V m.win _ true (Src.own h.win) hb h1.2 HA (there_win h at' 4 ha (by decide) h1)
  | ram h1 h2 => exact load_at at' _ m.ram _ false (Src.own h.ram) hb h2.2 HA (there_ram h at' 4 ha (by decide) h1 h2)
end Go.Proofs.Ytpainiehceniiaa
