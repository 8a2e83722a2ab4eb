/- Move, Show, New. -/
import Derived.Test.YtpainiehceniiaaD
import Derived.Laws.IdiomCopy
namespace Go.Proofs.Ytpainiehceniiaa
open Go.RowKit Go.Proofs.YtpainiehceniiaaW.PrintWords Go.Proofs.YtpainiehceniiaaW.PrintMore
set_option linter.unusedVariables false

theorem size5 : (Try.prog.info? 5).map (·.size) = some 1 := by kernel_rfl

theorem Mm.many {B : Nat} {p g cr : Nat} {V : Option Addr} {cv : Nat} {m : Mem} (off : Nat) : ∀ (rest done : List Int) (W : World), Mm B W p g cr V cv (m.put off done) → off + (done ++ rest).length ≤ m.ram.length → Mm B (W.setCells g (off + done.length) (rest.map (Value.int .u8))) p g cr V cv (m.put off (done ++ rest))
  | [], done, W, h, _ => by simpa [World.setCells] using h
  | y :: r, done, W, h, hl => by
    have h1 := h.set (off + done.length) y
    have e : (m.put off done).ram.set (off + done.length) y = (m.put off (done ++ [y])).ram := put_snoc m.ram off done y (by simp at hl; omega)
    rw [e] at h1
    have h2 := Mm.many off r (done ++ [y]) _ h1 (by simp at hl ⊢; omega)
    simpa [World.setCells, Nat.add_assoc] using h2
theorem Chg.setCells {F : Nat → Prop} {W : World} {g : Nat} : ∀ (vs : List Value) (o : Nat) {W' : World}, Chg F W W' → (g < W.heap.size → F g) → Chg F W (W'.setCells g o vs)
  | [], _, _, h, _ => h
  | v :: r, o, _, h, hF => Chg.setCells r (o + 1) (h.setCell (p := ⟨g, o, none⟩) hF v) hF

theorem move_no {W : World} {vp : Value} (a b n : Nat) (HP : Hid (Calls Try.prog 30 #[vp, .int .u32 a, .int .u32 n] W fun e W' => e = .returned (.tuple #[.slice none 0 0, .bool false, .int .i32 (-9)]) ∧ W = W')) :
    Calls Try.prog 15 #[vp, .int .u32 a, .int .u32 b, .int .u32 n] W fun e W' => e = .returned (.int .i32 (-9)) ∧ W = W' := by
  go_enter Try.func15, Try.ntmps15
  go_wp2_with fail
  refine HP.out.mono ?_
  rintro e w' ⟨rfl, rfl⟩
  go_wp2
  go_ret
  exact ⟨rfl, rfl⟩
theorem move_none {W : World} {vp : Value} (a b n : Nat) (X Y : Option Addr) (w : Bool) (r : Int) (HP : Hid (Calls Try.prog 30 #[vp, .int .u32 a, .int .u32 n] W fun e W' => e = .returned (.tuple #[.slice X n n, .bool w, .int .i32 0]) ∧ W = W'))
    (HO : Hid (Calls Try.prog 27 #[vp, .int .u32 b, .int .u32 n] W fun e W' => e = .returned (.tuple #[.slice Y 0 0, .int .i32 r]) ∧ W = W')) :
    Calls Try.prog 15 #[vp, .int .u32 a, .int .u32 b, .int .u32 n] W fun e W' => e = .returned (.int .i32 r) ∧ W = W' := by
  go_enter Try.func15, Try.ntmps15
  go_wp2_with fail
  refine HP.out.mono ?_
  rintro e w' ⟨rfl, rfl⟩
  go_wp2_with fail
  refine HO.out.mono ?_
  rintro e w' ⟨rfl, rfl⟩
  have hcp : (Builtin.copy_ #[22, 22] 3 #[.slice Y 0 0, .slice X n n]).run Try.prog W = .ok (.int .i64 0) W := run_copy_none _ 22 22 3 5 Y X 0 0 n n Try.underlying22 size5 (by simp)
  go_wp2
  go_ret
  exact ⟨rfl, rfl⟩
theorem move_core {B : Nat} {W : World} {p g cr : Nat} {V : Option Addr} {cv : Nat} {m : Mem} (h : Mm B W p g cr V cv m) (a b n off : Nat) (X Y : Option Addr) (w : Bool) (ys : List Int) (hn : ys.length = n) (hs : Src W X ys) (hf : off + n ≤ m.ram.length) (hY : 0 < n → Y = some ⟨g, off, none⟩)
    (HP : Hid (Calls Try.prog 30 #[ptr p, .int .u32 a, .int .u32 n] W fun e W' => e = .returned (.tuple #[.slice X n n, .bool w, .int .i32 0]) ∧ W = W'))
    (HO : Hid (Calls Try.prog 27 #[ptr p, .int .u32 b, .int .u32 n] W fun e W' => e = .returned (.tuple #[.slice Y n n, .int .i32 0]) ∧ W = W')) :
    Calls Try.prog 15 #[ptr p, .int .u32 a, .int .u32 b, .int .u32 n] W fun e W' => e = .returned (.int .i32 0) ∧ Mm B W' p g cr V cv (m.put off ys) ∧ Chg (fun k => k = g) W W' := by
  by_cases h0 : n = 0
  · subst h0
    obtain rfl : ys = [] := List.eq_nil_of_length_eq_zero hn
    refine (move_none a b 0 X Y w 0 HP HO).mono fun e W' h2 => ⟨h2.1, ?_⟩
    rw [← h2.2]
    refine ⟨?_, Chg.refl _ _⟩
    show Mm B W p g cr V cv ⟨put m.ram off [], m.win⟩
    rw [put_nil]; exact h
  · obtain rfl := hY (by omega)
    obtain ⟨ad, rfl⟩ : ∃ ad, X = some ad := by
      rcases X with _ | ad
      · have := hs.non rfl; subst this; simp at hn; omega
      · exact ⟨ad, rfl⟩
    have hcell : ∀ j, j < (ys.map (Value.int .u8)).length → (W.cell? ⟨g, off + j, none⟩).isSome = true := fun j hj => by
      rw [List.length_map] at hj
      obtain ⟨y, hy⟩ : ∃ y, m.ram[off + j]? = some y := ⟨m.ram[off + j]'(by omega), by simp⟩
      obtain ⟨g', hg, k0⟩ := own_cell (x := .int .u8 y) h.ram (by rw [List.getElem?_map, hy]; rfl)
      injection hg with hg; injection hg with hg; subst hg
      rw [k0]; rfl
    have hrun := fun ty => run_copy_cells (P := Try.prog) W 22 22 ty 5 g off n n ad n n (ys.map (Value.int .u8)) Try.underlying22 size5 (by simp [hn]) (hs.at' ad rfl) hcell (fun j _ => (own_free h.ram (off + j)).1) (by intro u hu; obtain ⟨x, _, rfl⟩ := List.mem_map.1 hu; rfl)
    have HR := hid hrun
    have HE := hid (And.intro (by have := Mm.many (m := m) off ys [] W (by show Mm B W p g cr V cv ⟨put m.ram off [], m.win⟩; rw [put_nil]; exact h) (by simpa [hn] using hf); simpa using this : Mm B (W.setCells g off (ys.map (Value.int .u8))) p g cr V cv (m.put off ys)) (Chg.setCells (F := fun k => k = g) (ys.map (Value.int .u8)) off (Chg.refl _ W) (fun _ => rfl)))
    clear h hcell hrun hs
    go_enter Try.func15, Try.ntmps15
    go_wp2_with fail
    refine HP.out.mono ?_
    rintro e w' ⟨rfl, rfl⟩
    go_wp2_with fail
    refine HO.out.mono ?_
    rintro e w' ⟨rfl, rfl⟩
    have hcp : (Builtin.copy_ #[22, 22] 3 #[.slice (some ⟨g, off, none⟩) n n, .slice (some ad) n n]).run Try.prog W = .ok (.int .i64 (ys.map (Value.int .u8)).length) (W.setCells g off (ys.map (Value.int .u8))) := HR.out 3
    rw [List.length_map] at hcp
    go_wp2
    go_ret
    exact ⟨rfl, HE.out.1, HE.out.2⟩

theorem show_no {B : Nat} {W : World} {p g cr : Nat} {V : Option Addr} {cv : Nat} {m : Mem} (h : Mm B W p g cr V cv m) (X : Option Addr) (n c : Nat) (hn : 65536 < n) (hb : n ≤ 2 ^ 47) :
    Calls Try.prog 19 #[ptr p, .slice X n c] W fun e W' => e = .returned (.int .i64 2) ∧ W = W' := by
  have H := hid h
  clear h
  go_enter Try.func19, Try.ntmps19
  go_wp2_with fail
  refine (none_live H.out).mono ?_
  rintro e w' ⟨rfl, rfl⟩
  go_wp2
  all_goals first | (exfalso; omega) | (go_ret; exact ⟨rfl, rfl⟩)
theorem show_yes {B : Nat} {W : World} {p g cr : Nat} {V : Option Addr} {cv : Nat} {m : Mem} (h : Mm B W p g cr V cv m) (hB : B ≤ W.heap.size) (X : Option Addr) (n c : Nat) (ys : List Int) (hn : n ≤ 65536) (hl : ys.length = n) (hs : Src W X ys) (hc : X = none → c = 0) :
    Calls Try.prog 19 #[ptr p, .slice X n c] W fun e W' => e = .returned (.int .i64 0) ∧ ∃ V' cv', Mm B W' p g cr V' cv' ⟨m.ram, ys⟩ ∧ Chg (fun k => k = p) W W' := by
  have H := hid h
  have HS := hid hs
  clear h hs
  go_enter Try.func19, Try.ntmps19
  go_wp2_with fail
  refine (none_live H.out).mono ?_
  rintro e w' ⟨rfl, rfl⟩
  go_wp2_with fail
  refine (clone_any HS.out hl (by omega) hc).mono ?_
  rintro e w2 ⟨A', c', rfl, ho, -, hc2⟩
  have hgp : p ≠ g := fun he => by
    have := row_ne H.out.ram (p := p) H.out.blk (by decide)
    exact this (by rw [he]; rfl)
  have hb := hc2.at H.out.blk (fun h => h)
  have c1 : w2.cell? ⟨p, 1, none⟩ = some (.slice V m.win.length cv) := cells_cell hb rfl
  have f1 : w2.frozen? ⟨p, 1, none⟩ = false := cells_free hb
  have hp2 : ∀ k, (Value.slice A' n c').ownBlock = some k → k ≠ p := fun k hk he => by have := (row_lt ho hk).1; have := heap_lt H.out.blk; omega
  have hg2 : (Value.slice A' 0 0).ownBlock ≠ some g := fun hk => by
    have h1 := (row_lt ho (k := g) (by rw [own_block A' n c' 0 0]; exact hk)).1
    have h2 := (row_lt H.out.ram (k := g) rfl).2
    omega
  have HC := (hc2.mono (G := fun k => k = p) (fun _ _ h => h.elim)).setCell (p := ⟨p, 1, none⟩) (fun _ => rfl) (.slice A' n c')
  have HE : Mm B (w2.setCell ⟨p, 1, none⟩ (.slice A' n c')) p g cr A' c' ⟨m.ram, ys⟩ := by
    have hset : Chg (fun k => k = p) w2 (w2.setCell ⟨p, 1, none⟩ (.slice A' n c')) := (Chg.refl (fun k => k = p) w2).setCell (fun _ => rfl) _
    refine ⟨H.out.base, ?_, hset.row (hc2.row H.out.ram (fun _ _ h => h)) (fun k hk he => hgp (by injection hk with hk; rw [← he, ← hk])), ?_, hg2, H.out.len, by show ys.length ≤ 65536; omega⟩
    · rw [set_cells hb]; rw [hl]; rfl
    · show World.ownsRow _ B 5 1 (.slice A' ys.length c') ys.length _
      rw [hl]
      exact hset.row (ho.mono hB) (fun k hk he => hp2 k hk he)
  have HE := hid HE
  have HC := hid HC
  clear ho hc2 hb hp2 hg2
  go_wp2
  go_ret
  exact ⟨rfl, A', c', HE.out, HC.out⟩
end Go.Proofs.Ytpainiehceniiaa
