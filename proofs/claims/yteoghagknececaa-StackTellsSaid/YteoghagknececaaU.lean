/- The document's answer on stacks: its printed contracts, in the form of the contracts of the stack. -/
import Derived.Test.YteoghagknececaaPStackTellsx1
import Derived.Test.YteoghagknececaaPStackTellsx2
import Derived.Test.YteoghagknececaaF
namespace Go.Proofs.Yteoghagknececaa
open Go.RowKit Go.Proofs.YteoghagknececaaW.PrintWords Go.Proofs.YteoghagknececaaW.PrintMore
open PStackTells Go.Proofs.YteoghagknececaaW.PrintLast

theorem w64_in (x : Int) (h0 : -9223372036854775808 ≤ x ∧ x ≤ 9223372036854775807) : wrap64 x = x := (i64_w x).symm.trans (IntWalk.i64_in x h0)
abbrev agg (A : Option Addr) (c : Nat) (s : St) : Value := .agg #[.slice A s.cells.length c, .int .i64 s.most, .int .i32 s.over, .int .i32 s.under]
abbrev rowOf (B : Nat) (W : World) (A : Option Addr) (c : Nat) (l : List Int) : Prop := W.ownsRow B 40 1 (.slice A l.length c) l.length (l.map (Value.int .u32))
theorem own_le {W : World} {B : Nat} {A : Option Addr} {n c : Nat} {xs : List Value} (h : W.ownsRow B 40 1 (.slice A n c) n xs) : n ≤ c := by
  rcases h.2 with ⟨hv, h0⟩ | ⟨g, cap, cur, hv, hb, hh, hn, hc, hs, ht⟩
  · injection hv with _ _ h3; omega
  · injection hv with _ _ h3; subst h3; omega
theorem kdC {W : World} {X : Option Addr} {c n : Nat} {ys : List Int} (h : Src W X c ys) (hn : ys.length = n) (hb : n ≤ 2 ^ 47) : Kd.C (Kd.int .u32) W X n ys := by
  refine ⟨hn, by omega, fun h0 => ?_⟩
  rcases X with _ | ad
  · have := (h.non rfl).1; subst this; simp at hn; omega
  · refine ⟨ad, rfl, fun j p hp => ⟨[.int .u32 p], rfl, rfl, fun i u hu => ?_⟩⟩
    rcases i with _ | i
    · simp at hu
      subst hu
      have := h.at' ad rfl j (.int .u32 p) (by simp [hp])
      simpa [Kd.int, Kd.scalar] using this
    · simp at hu
theorem kdR {W : World} {B : Nat} {A : Option Addr} {c : Nat} {l : List Int} (h : rowOf B W A c l) : Kd.R (Kd.int .u32) 40 W B (fun k => (Value.slice A 0 0).ownBlock = some k) (.slice A l.length c) l :=
  Kd.R_of_own h fun k hk => by rwa [own_block A _ _ 0 0] at hk
theorem kdB {W : World} {B : Nat} {ok : Nat → Prop} {v : Value} {l : List Int} (h : Kd.R (Kd.int .u32) 40 W B ok v l) : ∃ A c, v = .slice A l.length c ∧ rowOf B W A c l ∧ ∀ k, (Value.slice A 0 0).ownBlock = some k → ok k := by
  have h2 := Kd.own_of_R h
  obtain ⟨A, c, rfl⟩ := own_shape h2
  refine ⟨A, c, rfl, h2, fun k hk => h.1 k ?_⟩
  rwa [own_block A _ _ l.length c] at hk

theorem chg_kept {W0 W W' : World} {P : Nat → Prop} (h0 : Below W0.heap.size W0 W) (h1 : Below W0.heap.size W0 W') (hk : Kept W W' P) : Chg P W W' :=
  ⟨h1.os.trans h0.os.symm, h1.tape.trans h0.tape.symm, h1.output.trans h0.output.symm, hk.1, fun k h n => hk.2 k h n⟩

/-- the document's answer's row: of the call's own from world W0 on. -/
structure Rs (W0 W : World) (A : Option Addr) (c : Nat) (s : St) : Prop where
  below : Below W0.heap.size W0 W
  row : rowOf W0.heap.size W A c s.cells
  small : s.cells.length ≤ 5000
theorem Rs.src {W0 W : World} {A : Option Addr} {c : Nat} {s : St} (h : Rs W0 W A c s) : Src W A c s.cells := Src.own h.row
theorem Rs.chg {W0 W W' : World} {A : Option Addr} {c : Nat} {s : St} (h : Rs W0 W A c s) {F : Nat → Prop} (hc : Chg F W W') (hF : ∀ k, F k → W0.heap.size ≤ k ∧ (Value.slice A 0 0).ownBlock ≠ some k) : Rs W0 W' A c s :=
  ⟨(Chg.of_below (F := Not) h.below (fun k h1 h2 => by omega)).trans hc (fun k hk hf => by have := (hF k hf).1; omega) |>.below (Nat.le_refl _) (fun k _ hf => hf), hc.row h.row (fun k hk hf => (hF k hf).2 (by rwa [own_block A _ _ 0 0] at hk)), h.small⟩
theorem Rs.not {W0 W W' : World} {A : Option Addr} {c : Nat} {s : St} (h : Rs W0 W A c s) (hc : Chg Not W W') : Rs W0 W' A c s := h.chg hc fun _ h => h.elim

def St.pushR (s : St) (ys : List Int) : St × Int := if (ys.length : Int) > s.most - s.cells.length then (s, s.over) else ({ s with cells := s.cells ++ ys }, 0)
def St.cutR (s : St) (n : Int) : St × Int := if n < 0 ∨ (s.cells.length : Int) < n then (s, s.under) else ({ s with cells := s.cells.take n.toNat }, 0)
def St.rollR (s : St) (i : Int) : St × Int := if i < 0 ∨ (s.cells.length : Int) ≤ i then (s, s.under) else ({ s with cells := rolled s.cells i.toNat }, 0)
def St.peekR (s : St) (i : Int) : Int × Int := if i < 0 ∨ (s.cells.length : Int) ≤ i then (0, s.under) else (s.cells.getD (s.cells.length - 1 - i.toNat) 0, 0)
/-- the shape of all stacks of a run. -/
structure St.Fine (s : St) : Prop where
  most1 : 1 ≤ s.most
  most2 : s.most ≤ 4096
  over : s.over < 0
  under : s.under < 0
  len : (s.cells.length : Int) ≤ s.most

section
variable {W0 W : World} {A : Option Addr} {c : Nat} {s s' : St} {r x : Int}
theorem finish {l : List Int} {f : Nat} {args : Array Value} (hR : Rs W0 W A c s) (hs' : l.length ≤ 5000)
    (h : Calls Try.prog f args W fun e w' => ∃ v0_ : Value, e = .returned (.tuple #[.agg #[v0_, .int .i64 s'.most, .int .i32 s'.over, .int .i32 s'.under], .int .i32 r]) ∧ Kd.R (Kd.int .u32) 40 w' W0.heap.size (fun k_ => ((Value.slice A 0 0).ownBlock = some k_ ∨ W.heap.size ≤ k_)) v0_ l ∧ Below W0.heap.size W0 w' ∧ Kept W w' (fun k_ => (Value.slice A 0 0).ownBlock = some k_))
    (hl : s'.cells = l) :
    Calls Try.prog f args W fun e w' => ∃ A' c', e = .returned (.tuple #[agg A' c' s', .int .i32 r]) ∧ Rs W0 w' A' c' s' ∧ Chg (fun k => (Value.slice A 0 0).ownBlock = some k) W w' ∧ ∀ k, (Value.slice A' 0 0).ownBlock = some k → (Value.slice A 0 0).ownBlock = some k ∨ W.heap.size ≤ k := by
  refine h.mono ?_
  rintro e w' ⟨v, rfl, hr, hb, hk⟩
  obtain ⟨A', c', rfl, h2, h3⟩ := kdB hr
  subst hl
  exact ⟨A', c', rfl, ⟨hb, h2, hs'⟩, chg_kept hR.below hb hk, h3⟩
theorem rpush_is (h : Rs W0 W A c s) (hf : s.Fine) {X : Option Addr} {m cx : Nat} {ys : List Int} (hX : Src W X cx ys) (hm : ys.length = m) (hmc : m ≤ cx) (hm2 : m ≤ 100) (hXb : ∀ ad, X = some ad → ys.length ≠ 0 → (Value.slice A 0 0).ownBlock ≠ some ad.block) (hr : s.pushR ys = (s', r)) :
    Calls Try.prog 14 #[agg A c s, .slice X m cx] W fun e w' => ∃ A' c', e = .returned (.tuple #[agg A' c' s', .int .i32 r]) ∧ Rs W0 w' A' c' s' ∧ Chg (fun k => (Value.slice A 0 0).ownBlock = some k) W w' ∧ ∀ k, (Value.slice A' 0 0).ownBlock = some k → (Value.slice A 0 0).ownBlock = some k ∨ W.heap.size ≤ k := by
  have h1 := hf.most1
  have h2 := hf.most2
  have h3 := hf.len
  have hw : wrap64 (s.most - (s.cells.length : Int)) = s.most - (s.cells.length : Int) := w64_in _ (by omega)
  subst hm
  have hv : lightshipref08_Stack_Push.f s.cells s.most s.over s.under ys = some (s'.cells, s'.most, s'.over, s'.under, r) ∧ s'.cells.length ≤ 5000 := by
    unfold lightshipref08_Stack_Push.f
    rw [hw]
    unfold St.pushR at hr
    split at hr
    · rename_i hc
      injection hr with e1 e2
      subst e1 e2
      rw [if_pos hc]
      exact ⟨rfl, h.small⟩
    · rename_i hc
      injection hr with e1 e2
      subst e1 e2
      rw [if_neg hc]
      have d1 : (([] : List Int) ++ s.cells).length = s.cells.length := by simp
      simp only [Option.bind_some, List.nil_append, List.length_nil, Nat.zero_add]
      rw [if_pos (by omega), if_pos (by omega)]
      exact ⟨rfl, by show (s.cells ++ ys).length ≤ 5000; simp; omega⟩
  have hs := lightshipref08_Stack_Push.calls _ _ _ _ _ _ X cx ys _ _ _ _ _ W0 W h.below (kdR h.row) (fun W_ hk => kdC ⟨hX.non, fun ad ha j u hu => ?_⟩ rfl (by omega)) hmc hv.1
  · exact finish h hv.2 hs rfl
  · have h4 := hX.at' ad ha j u hu
    have hblk : (ad.add j).block = ad.block := by unfold Addr.add; split <;> rfl
    have hlt : (ad.add j).block < W.heap.size := by
      rcases Nat.lt_or_ge (ad.add j).block W.heap.size with h' | h'
      · exact h'
      · unfold World.cell? at h4; rw [Array.getElem?_eq_none h'] at h4; cases h4
    have := hk.2 _ hlt (fun he => hXb ad ha (by intro h0; rw [List.eq_nil_of_length_eq_zero h0] at hu; simp at hu) (by rwa [hblk] at he))
    unfold World.cell? at h4 ⊢
    rwa [this]
theorem rcut_is (h : Rs W0 W A c s) (hf : s.Fine) (n : Int) (hr : s.cutR n = (s', r)) :
    Calls Try.prog 17 #[agg A c s, .int .i64 n] W fun e w' => ∃ A' c', e = .returned (.tuple #[agg A' c' s', .int .i32 r]) ∧ Rs W0 w' A' c' s' ∧ Chg (fun k => (Value.slice A 0 0).ownBlock = some k) W w' ∧ ∀ k, (Value.slice A' 0 0).ownBlock = some k → (Value.slice A 0 0).ownBlock = some k ∨ W.heap.size ≤ k := by
  have h2 := hf.most2
  have h3 := hf.len
  have hv : lightshipref08_Stack_Cut.f s.cells s.most s.over s.under n = some (s'.cells, s'.most, s'.over, s'.under, r) ∧ s'.cells.length ≤ 5000 := by
    unfold lightshipref08_Stack_Cut.f
    unfold St.cutR at hr
    split at hr
    · rename_i hc
      injection hr with e1 e2
      subst e1 e2
      rcases hc with hc | hc
      · rw [if_pos hc]; exact ⟨rfl, h.small⟩
      · rw [if_neg (by omega), if_pos hc]; exact ⟨rfl, h.small⟩
    · rename_i hc
      injection hr with e1 e2
      subst e1 e2
      rw [if_neg (by omega), if_neg (by omega)]
      simp only [Option.bind_some, List.nil_append, List.length_nil, Nat.zero_add]
      rw [if_pos (by omega), if_pos (by omega), if_pos (by rw [List.length_take]; omega)]
      exact ⟨rfl, by show (s.cells.take n.toNat).length ≤ 5000; rw [List.length_take]; omega⟩
  exact finish h hv.2 (lightshipref08_Stack_Cut.calls _ _ _ _ _ _ _ _ _ _ _ _ W0 W h.below (kdR h.row) hv.1) rfl
theorem peek_f (hf : s.Fine) (i : Int) (hr : s.peekR i = (x, r)) : lightshipref08_Stack_Peek.f s.cells s.most s.over s.under i = some (x, r) := by
  have h2 := hf.most2
  have h3 := hf.len
  have hw : wrap64 ((s.cells.length : Int) - 1) = (s.cells.length : Int) - 1 := w64_in _ (by omega)
  unfold lightshipref08_Stack_Peek.f
  rw [hw]
  unfold St.peekR at hr
  split at hr
  · rename_i hc
    injection hr with e1 e2
    subst e1 e2
    rcases hc with hc | hc
    · rw [if_pos hc]
    · by_cases h0 : i < 0
      · rw [if_pos h0]
      · rw [if_neg h0, if_pos (by omega)]
  · rename_i hc
    injection hr with e1 e2
    subst e1 e2
    have hw2 : wrap64 ((s.cells.length : Int) - 1 - i) = (s.cells.length : Int) - 1 - i := w64_in _ (by omega)
    rw [if_neg (by omega), if_neg (by omega), hw2, if_pos (by omega), if_pos (by omega)]
    have : ((s.cells.length : Int) - 1 - i).toNat = s.cells.length - 1 - i.toNat := by omega
    unfold rd
    rw [this]
theorem rpeek_is (h : Rs W0 W A c s) (hf : s.Fine) (i : Int) (hr : s.peekR i = (x, r)) :
    Calls Try.prog 16 #[agg A c s, .int .i64 i] W fun e w' => e = .returned (.tuple #[.int .u32 x, .int .i32 r]) ∧ Chg Not W w' := by
  refine (lightshipref08_Stack_Peek.calls A c s.cells _ _ _ i x r W (kdC h.src rfl (by have := h.small; omega)) (own_le h.row) (peek_f hf i hr)).mono ?_
  rintro e w' ⟨rfl, hb⟩
  exact ⟨rfl, Chg.of_below hb (fun k h1 h2 => by omega)⟩
theorem rmay_is (h : Rs W0 W A c s) (hf : s.Fine) (t g : Int) (ht : t ≤ 2 ^ 63 - 1) (hr : s.may t g = r) :
    Calls Try.prog 25 #[agg A c s, .int .i64 t, .int .i64 g] W fun e w' => e = .returned (.int .i32 r) ∧ Chg Not W w' := by
  have h1 := hf.most1
  have h2 := hf.most2
  have h3 := hf.len
  have hv : lightshipref08_Stack_May.f 3 s.cells s.most s.over s.under t g = some r := by
    unfold St.may St.few mx at hr
    rw [if_neg (by omega : ¬ s.most = 0)] at hr
    unfold lightshipref08_Stack_May.f
    by_cases t0 : t < 0
    · rw [if_pos t0]
      rw [if_neg (by omega)] at hr
      have e1 : wrap64 ((s.cells.length : Int) - 0) = (s.cells.length : Int) := by rw [show (s.cells.length : Int) - 0 = s.cells.length by omega]; exact w64_in _ (by omega)
      have e2 : wrap64 (s.most - (s.cells.length : Int)) = s.most - (s.cells.length : Int) := w64_in _ (by omega)
      by_cases g0 : g < 0 <;> simp only [lightshipref08_Stack_May.j0, lightshipref08_Stack_May.j1, g0, if_true, if_false, e1, e2] <;> subst hr
      all_goals repeat' split
      all_goals first | rfl | (exfalso; omega)
    · rw [if_neg t0]
      by_cases tl : (s.cells.length : Int) < t
      · rw [if_pos (.inr (by split <;> omega))] at hr
        by_cases g0 : g < 0 <;> simp only [lightshipref08_Stack_May.j0, lightshipref08_Stack_May.j1, g0, tl, if_true, if_false] <;> subst hr <;> rfl
      · rw [if_neg (by split <;> omega)] at hr
        have e1 : wrap64 ((s.cells.length : Int) - t) = (s.cells.length : Int) - t := w64_in _ (by omega)
        have e2 : wrap64 (s.most - ((s.cells.length : Int) - t)) = s.most - ((s.cells.length : Int) - t) := w64_in _ (by omega)
        by_cases g0 : g < 0 <;> simp only [lightshipref08_Stack_May.j0, lightshipref08_Stack_May.j1, g0, tl, if_true, if_false, e1, e2] <;> subst hr
        all_goals repeat' split
        all_goals first | rfl | (exfalso; omega)
  refine (lightshipref08_Stack_May.calls 3 A c s.cells _ _ _ t g r W (kdC h.src rfl (by have := h.small; omega)) (own_le h.row) hv).mono ?_
  rintro e w' ⟨rfl, hb⟩
  exact ⟨rfl, Chg.of_below hb (fun k h1 h2 => by omega)⟩
end
end Go.Proofs.Yteoghagknececaa
