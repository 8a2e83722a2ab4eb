/- append onto a row of the call's own; Push, Clone, All, cells. -/
import Derived.Test.YteoghagknececaaC
import Derived.Maps.AppendAt
import Derived.OwnWalk
import Derived.Laws.OwnMore
namespace Go.Proofs.Yteoghagknececaa
open Go.RowKit Go.Proofs.YteoghagknececaaW.PrintWords Go.Proofs.YteoghagknececaaW.PrintMore

/-- the cells of a slice, wherever it lies. -/
structure Src (W : World) (X : Option Addr) (c : Nat) (ys : List Int) : Prop where
  non : X = none → ys = [] ∧ c = 0
  at' : ∀ ad, X = some ad → ∀ j u, (ys.map (Value.int .u32))[j]? = some u → W.cell? (ad.add j) = some u
theorem Src.chg {F : Nat → Prop} {W W' : World} {X : Option Addr} {c : Nat} {ys : List Int} (h : Src W X c ys) (hc : Chg F W W') (hF : ∀ ad, X = some ad → ¬ F ad.block) : Src W' X c ys := by
  refine ⟨h.non, fun ad ha j u hu => ?_⟩
  have h2 := h.at' ad ha j u hu
  have hlt : (ad.add j).block < W.heap.size := by
    rcases Nat.lt_or_ge (ad.add j).block W.heap.size with h' | h'
    · exact h'
    · simp [World.cell?, Array.getElem?_eq_none h'] at h2
  have hb : (ad.add j).block = ad.block := by unfold Addr.add; split <;> rfl
  rw [← h2]
  simp only [World.cell?]
  rw [hc.block _ hlt (by rw [hb]; exact hF ad ha)]
theorem Src.own {W : World} {B : Nat} {A : Option Addr} {n c : Nat} {ys : List Int} (h : W.ownsRow B 40 1 (.slice A n c) n (ys.map (Value.int .u32))) : Src W A c ys := by
  have hl : ys.length = n := by simpa using h.1
  refine ⟨fun ha => ?_, fun ad ha j u hu => ?_⟩
  · rcases h.2 with ⟨hv, h0⟩ | ⟨g, cap, cur, hv, _⟩
    · injection hv with _ _ h3
      exact ⟨List.eq_nil_of_length_eq_zero (by omega), h3⟩
    · injection hv with h1; rw [ha] at h1; cases h1
  · obtain ⟨g, hg, hc⟩ := own_cell h hu
    rw [hg] at ha; injection ha with ha; subst ha
    unfold Addr.add
    split
    · rename_i h0; rw [h0] at hc; exact hc
    · simpa using hc

theorem own_block (A : Option Addr) (n c n' c' : Nat) : (Value.slice A n c).ownBlock = (Value.slice A n' c').ownBlock := by cases A <;> rfl
theorem own_shape {W : World} {B : Nat} {t : TypeId} {v : Value} {n : Nat} {xs : List Value} (h : W.ownsRow B t 1 v n xs) : ∃ A c, v = .slice A n c := by
  rcases h.2 with ⟨rfl, h0⟩ | ⟨g, cap, cur, hv, _⟩
  · exact ⟨none, 0, by rw [h0]⟩
  · exact ⟨_, _, hv⟩
theorem info40 : (Try.prog.info? 40).map (fun i => (i.zero, i.size, i.bytes)) = some (some (.int .u32 0), 1, 4) := by kernel_rfl

/-- append of cells, wherever they lie, onto a row of the call's own. -/
theorem run_app (w : World) (ty : TypeId) (base : Nat) (v : Value) (n : Nat) (xs : List Value) (hown : w.ownsRow base 40 1 v n xs) (X : Option Addr) (m c : Nat) (ys : List Int) (hm : ys.length = m) (hs : Src w X c ys)
    (hb : n + m ≤ 100000) (hbase : base ≤ w.heap.size) :
    ∃ v' w', (Builtin.append_ #[28, 28] ty #[v, .slice X m c]).run Try.prog w = .ok v' w' ∧ w'.ownsRow base 40 1 v' (n + m) (xs ++ ys.map (Value.int .u32)) ∧ w.grownBy w' v.ownBlock ∧ (v'.ownBlock = v.ownBlock ∨ v'.ownBlock = some w.heap.size) := by
  obtain ⟨i0, hi, hzz⟩ := Option.map_eq_some_iff.1 info40
  simp only [Prod.mk.injEq] at hzz
  obtain ⟨hz0, hz1, hz2⟩ := hzz
  rcases X with _ | ad
  · obtain ⟨h1, h2⟩ := hs.non rfl
    subst h1; subst h2
    have h0 : m = 0 := by simpa using hm.symm
    subst h0
    refine ⟨v, w, run_append_owned_none (P := Try.prog) w base 28 ty 40 i0 1 Try.underlying28 hi v n xs hown, by simpa using hown, ⟨rfl, rfl, rfl, Nat.le_refl _, fun _ _ _ => rfl⟩, .inl rfl⟩
  · obtain ⟨v', w', hr, h2, h3, _, h5⟩ := run_append_own_at (P := Try.prog) w base 28 ty 40 i0 (.int .u32 0) 1 4 Try.underlying28 hi hz0 hz1 hz2 rfl (by decide) v n xs hown ad m c (ys.map (Value.int .u32)) (by simp [hm]) (hs.at' ad rfl) (by simp; intros; rfl) (by simp only [maxLen]; omega) (by omega) hbase
    exact ⟨v', w', hr, h2, h3, h5⟩
theorem wpList_app (w : World) {ops : Array Oper} {rest : List Oper} {o : Oper} {a : Act} {Q : Exit → Act → World → Prop} (hgd : o.guard = none) (s x : Operand)
    (ho : o.op = .call { callee := .builtin .append, args := #[s, x], argTypes := #[28, 28] })
    (base : Nat) (v : Value) (n : Nat) (xs : List Value) (hs : a.eval s = v) (hown : w.ownsRow base 40 1 v n xs)
    (X : Option Addr) (m c : Nat) (ys : List Int) (hx : a.eval x = .slice X m c) (hm : ys.length = m) (hsrc : Src w X c ys) (hb : n + m ≤ 100000) (hbase : base ≤ w.heap.size)
    (h : ∀ A' c' w', w'.ownsRow base 40 1 (.slice A' (n + m) c') (n + m) (xs ++ ys.map (Value.int .u32)) → w.grownBy w' v.ownBlock → ((Value.slice A' 0 0).ownBlock = v.ownBlock ∨ (Value.slice A' 0 0).ownBlock = some w.heap.size) → wpList Try.prog ops Q rest (a.put o.dst (.slice A' (n + m) c')) w') :
    wpList Try.prog ops Q (o :: rest) a w := by
  refine wpList_plain hgd fun K hK => ?_
  obtain ⟨v', w', hr, h2, h3, h5⟩ := run_app w o.type base v n xs hown X m c ys hm hsrc hb hbase
  obtain ⟨A', c', rfl⟩ := own_shape h2
  unfold Oper.wp execOp
  simp only [ho, resolve, invoke, builtin, Sem.run_bind, Sem.run_pure, Result.andThen_ok, List.map_toArray, List.map_cons, List.map_nil, hs, hx, hr]
  exact hK _ _ (h A' c' w' h2 h3 (by rw [own_block A' 0 0 (n + m) c']; exact h5))

/-- the blocks that the stack's methods may turn. -/
def Foot (p : Nat) (A : Option Addr) (k : Nat) : Prop := k = p ∨ (Value.slice A 0 0).ownBlock = some k
def At (A' A : Option Addr) (n : Nat) : Prop := (Value.slice A' 0 0).ownBlock = (Value.slice A 0 0).ownBlock ∨ ∃ k, (Value.slice A' 0 0).ownBlock = some k ∧ n ≤ k

/-- a row of another block in the stack. -/
theorem Stk.put {B : Nat} {W W1 : World} {p : Nat} {A A' : Option Addr} {c c' : Nat} {s : St} (h : Stk B W p A c s) {l : List Int} {F : Nat → Prop} (hc : Chg F W W1) (hF : ¬ F p) (hr : W1.ownsRow B 40 1 (.slice A' l.length c') l.length (l.map (Value.int .u32))) (hl : (l.length : Int) ≤ s.most) :
    Stk B (W1.setCell ⟨p, 0, none⟩ (.slice A' l.length c')) p A' c' { s with cells := l } := by
  have hb := hc.at h.blk hF
  refine ⟨h.base, ?_, ?_, h.most0, h.most1, hl, h.neg⟩
  · rw [set_cells hb]; rfl
  · exact (Chg.setCell (F := fun k => k = p) (.refl _ _) (fun _ => rfl) _).row hr (fun k hk he => row_ne hr (he ▸ hb) (by decide) (by rw [hk, he]))
theorem Stk.foot {B : Nat} {W : World} {p : Nat} {A : Option Addr} {c : Nat} {s : St} (h : Stk B W p A c s) : (Value.slice A 0 0).ownBlock ≠ some p := by
  have := row_ne h.row h.blk (by decide)
  rwa [own_block A _ _ 0 0] at this
theorem Stk.lt {B : Nat} {W : World} {p : Nat} {A : Option Addr} {c : Nat} {s : St} (h : Stk B W p A c s) : p < W.heap.size := heap_lt h.blk
/-- a stack that is not touched. -/
theorem Stk.chg {B : Nat} {W W' : World} {p : Nat} {A : Option Addr} {c : Nat} {s : St} (h : Stk B W p A c s) {F : Nat → Prop} (hc : Chg F W W') (hF : ∀ k, Foot p A k → ¬ F k) : Stk B W' p A c s :=
  ⟨h.base, hc.at h.blk (hF p (.inl rfl)), hc.row h.row (fun k hk => hF k (.inr (by rwa [own_block A _ _ 0 0] at hk))), h.most0, h.most1, h.len, h.neg⟩

theorem push_bad {B : Nat} {W : World} {p : Nat} {A : Option Addr} {c : Nat} {s : St} (h : Stk B W p A c s) (X : Option Addr) (m cx : Nat) (_ : m ≤ 2 ^ 47) (hb : s.may 0 m ≠ 0) :
    Calls Try.prog 13 #[ptr p, .slice X m cx] W fun e W' => e = .returned (.int .i32 (s.may 0 m)) ∧ W = W' := by
  have b0 : (s.may 0 m == 0) = false := beq_eq_false_iff_ne.mpr hb
  have H : Hid (Stk B W p A c s) := h
  clear h
  go_enter Try.func13, Try.ntmps13
  go_wp2_with (first | (go_at_call 24; refine (may_any H.out 0 m (by decide)).mono ?_; rintro e w' ⟨rfl, rfl⟩))
  all_goals first | (exfalso; omega) | (go_ret; exact ⟨rfl, rfl⟩)
theorem push_ok {B : Nat} {W : World} {p : Nat} {A : Option Addr} {c : Nat} {s : St} (h : Stk B W p A c s) (hB : B ≤ W.heap.size) (X : Option Addr) (m cx : Nat) (ys : List Int) (hm : ys.length = m) (hsrc : Src W X cx ys) (hb : s.may 0 m = 0) (hl : (s.cells.length + m : Int) ≤ s.most) :
    Calls Try.prog 13 #[ptr p, .slice X m cx] W fun e W' => e = .returned (.int .i32 0) ∧ Chg (Foot p A) W W' ∧ ∃ A' c', Stk B W' p A' c' { s with cells := s.cells ++ ys } ∧ At A' A W.heap.size := by
  have c0 : W.cell? ⟨p, 0, none⟩ = some (.slice A s.cells.length c) := cells_cell h.blk rfl
  have f0 : W.frozen? ⟨p, 0, none⟩ = false := cells_free h.blk
  have hm1 := h.most1
  have H : Hid (Stk B W p A c s) := h
  have HB : Hid (s.may 0 m = 0) := hb
  clear h hb
  go_enter Try.func13, Try.ntmps13
  go_wp2_with (first
    | (go_at_call 24; refine (may_any H.out 0 m (by decide)).mono ?_; rintro e w' ⟨rfl, rfl⟩; rw [HB.out])
    | (at_builtin; refine wpList_app _ rfl _ _ rfl B _ _ _ rfl H.out.row X m cx ys rfl hm hsrc (by omega) hB ?_; intro A' c' w1 hown hgrow hat
       have hc := Chg.of_grown hgrow
       have hp : ¬ (some p = (Value.slice A s.cells.length c).ownBlock) := fun he => row_ne H.out.row H.out.blk (by decide) he.symm
       have c0 : w1.cell? ⟨p, 0, none⟩ = some (.slice A s.cells.length c) := cells_cell (hc.at H.out.blk hp) rfl
       have f0 : w1.frozen? ⟨p, 0, none⟩ = false := cells_free (hc.at H.out.blk hp)
       have hlen : (s.cells ++ ys).length = s.cells.length + m := by simp [hm]
       have HE := H.out.put (l := s.cells ++ ys) (A' := A') (c' := c') hc hp (by rw [hlen, List.map_append]; exact hown) (by rw [hlen]; omega)
       rw [hlen] at HE
       have HE : Hid _ := HE
       have HC := (hc.mono (G := Foot p A) (fun k hk he => .inr (by rw [own_block A 0 0 s.cells.length c]; exact he.symm))).setCell (p := ⟨p, 0, none⟩) (fun _ => .inl rfl) (.slice A' (s.cells.length + m) c')
       have HC : Hid _ := HC
       have HA : Hid (At A' A W.heap.size) := by
         rcases hat with h1 | h1
         · exact .inl (h1.trans (own_block A _ _ 0 0))
         · exact .inr ⟨_, h1, Nat.le_refl _⟩
       clear hc hp hgrow hat hown hlen))
  all_goals first | (exfalso; omega) | (go_ret; exact ⟨rfl, HC.out, A', c', HE.out, HA.out⟩)
end Go.Proofs.Yteoghagknececaa
