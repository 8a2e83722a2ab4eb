/- Delete, Roll. -/
import Derived.Test.YteoghagknececaaE
import Derived.Deep.RegionLaw
namespace Go.Proofs.Yteoghagknececaa
open Go.RowKit Go.Proofs.YteoghagknececaaW.PrintWords Go.Proofs.YteoghagknececaaW.PrintMore

theorem set_many {g : Nat} {t : TypeId} {fr : Nat × Nat} : ∀ (vs : List Value) (o : Nat) (w : World) (cur : Array Value), w.heap[g]? = some (.cells cur t fr) → o + vs.length ≤ cur.size →
    (w.setCells g o vs).heap[g]? = some (.cells (cur.toList.take o ++ vs ++ cur.toList.drop (o + vs.length)).toArray t fr)
  | [], o, w, cur, h, ho => by simp [World.setCells, h]
  | v :: r, o, w, cur, h, ho => by
    simp only [List.length_cons] at ho
    have h1 := set_many r (o + 1) (w.setCell ⟨g, o, none⟩ v) (cur.setIfInBounds o v) (set_cells h) (by rw [Array.size_setIfInBounds]; omega)
    show ((w.setCell ⟨g, o, none⟩ v).setCells g (o + 1) r).heap[g]? = _
    rw [h1]
    congr 3
    have ho2 : o < cur.toList.length := by rw [Array.length_toList]; omega
    rw [Array.toList_setIfInBounds, List.take_set, List.take_add_one, List.drop_set_of_lt (by omega)]
    rw [List.getElem?_eq_getElem ho2, List.set_append_right _ _ (by simp; omega), List.length_take, Nat.min_eq_left (by omega)]
    simp [Nat.add_comm]
    try omega
theorem Chg.setCells {F : Nat → Prop} {W : World} {g : Nat} : ∀ (vs : List Value) (o : Nat) {W' : World}, Chg F W W' → (g < W.heap.size → F g) → Chg F W (W'.setCells g o vs)
  | [], _, _, h, _ => h
  | v :: r, o, _, h, hF => Chg.setCells r (o + 1) (h.setCell (p := ⟨g, o, none⟩) hF v) hF

set_option maxHeartbeats 2000000 in
theorem delete_any {W : World} {B : Nat} {g n c : Nat} {xs : List Int} (h : W.ownsRow B 40 1 (.slice (some ⟨g, 0, none⟩) n c) n (xs.map (Value.int .u32))) (i : Nat) (hi : i < n) (hn : n ≤ 100000) :
    Calls Try.prog 27 #[.slice (some ⟨g, 0, none⟩) n c, .int .i64 i, .int .i64 ((i : Int) + 1)] W fun e W' => e = .returned (.slice (some ⟨g, 0, none⟩) (n - 1) c) ∧ W'.ownsRow B 40 1 (.slice (some ⟨g, 0, none⟩) (n - 1) c) (n - 1) ((xs.eraseIdx i).map (Value.int .u32)) ∧ Chg (fun k => k = g) W W' := by
  obtain ⟨i0, hi0, hzz⟩ := Option.map_eq_some_iff.1 info40
  simp only [Prod.mk.injEq] at hzz
  obtain ⟨hz0, hz1, hz2⟩ := hzz
  have hl : xs.length = n := by simpa using h.1
  obtain ⟨cur, hBg, hblk, hnc, hcm, hcs, htk⟩ : ∃ cur : Array Value, B ≤ g ∧ W.heap[g]? = some (.cells cur 40 (0, 0)) ∧ n ≤ c ∧ c ≤ maxLen ∧ cur.size = c ∧ cur.toList.take n = xs.map (Value.int .u32) := by
    rcases h.2 with ⟨h0, _⟩ | ⟨g, cap, cur, hv, hb, hh, hn, hm, hs, ht⟩
    · cases h0
    · injection hv with h1 _ h3
      injection h1 with h1; injection h1 with h1
      subst h1; subst h3
      exact ⟨cur, hb, hh, hn, hm, by simpa using hs, by simpa [hl] using ht⟩
  clear h
  have hcm' : c ≤ 9223372036854775807 := hcm
  have w1 : IntKind.i64.wrap (i : Int) = i := IntWalk.i64_in _ (by omega)
  have w2 : IntKind.i64.wrap ((i : Int) + 1) = (i : Int) + 1 := IntWalk.i64_in _ (by omega)
  -- the cells that are moved
  obtain ⟨news, hnews⟩ : ∃ news, news = (xs.drop (i + 1)).map (Value.int .u32) := ⟨_, rfl⟩
  have hnl : news.length = n - (i + 1) := by rw [hnews]; simp [hl]
  have hone : Hid (∀ u ∈ news, u.oneCell' = true) := by show ∀ u ∈ news, _; rw [hnews]; intro u hu; obtain ⟨x, _, rfl⟩ := List.mem_map.1 hu; rfl
  have hget : ∀ j u, news[j]? = some u → cur[i + 1 + j]? = some u := by
    intro j u hu
    rw [hnews, List.map_drop, ← htk, List.getElem?_drop, List.getElem?_take] at hu
    split at hu
    · simpa using hu
    · cases hu
  have hbl1 : W.drew.heap[g]? = some (.cells cur 40 (0, 0)) := hblk
  have hsp : Hid (∀ j, j < news.length → (W.drew.cell? ⟨g, 0 + i * 1 + j, none⟩).isSome = true ∧ W.drew.frozen? ⟨g, 0 + i * 1 + j, none⟩ = false) := by
    intro j hj
    refine ⟨?_, cells_free hbl1⟩
    rw [cells_cell (v := cur[0 + i * 1 + j]'(by omega)) hbl1 (by simp)]
    rfl
  obtain ⟨w2', hw2⟩ : ∃ w2, w2 = W.drew.setCells g (0 + i * 1) news := ⟨_, rfl⟩
  have hbl2 := set_many news (0 + i * 1) W.drew cur hbl1 (by omega)
  rw [← hw2] at hbl2
  obtain ⟨cur2, hcur2⟩ : ∃ cur2, cur2 = (cur.toList.take (0 + i * 1) ++ news ++ cur.toList.drop (0 + i * 1 + news.length)).toArray := ⟨_, rfl⟩
  rw [← hcur2] at hbl2
  have hs2 : cur2.size = c := by rw [hcur2]; simp; omega
  have hch2 : Chg (fun k => k = g) W w2' := by rw [hw2]; exact Chg.setCells _ _ (Chg.refl _ _).drew (fun _ => rfl)
  have hbl3 := set_many [Value.int .u32 0] (n - 1) w2' cur2 hbl2 (by simp; omega)
  have hcl : ∀ ty, (Builtin.clear_ #[28] ty #[.slice (some ⟨g, n - 1, none⟩) 1 (c - (n - 1))]).run Try.prog w2' = .ok (.tuple #[]) (w2'.setCells g (n - 1) [.int .u32 0]) :=
    fun ty => Lib.run_clear_slice w2' 28 40 ty (.int .u32 0) Try.underlying28 (fun w => by kernel_rfl) rfl rfl g (n - 1) 1 _ (by decide)
      (fun j hj => by rw [cells_cell (v := cur2[n - 1 + j]'(by omega)) hbl2 (by simp)]; rfl) (fun j hj => cells_free hbl2)
  have hend : Hid ((w2'.setCells g (n - 1) [.int .u32 0]).ownsRow B 40 1 (.slice (some ⟨g, 0, none⟩) (n - 1) c) (n - 1) ((xs.eraseIdx i).map (Value.int .u32)) ∧ Chg (fun k => k = g) W (w2'.setCells g (n - 1) [.int .u32 0])) := by
    refine ⟨⟨by simp [List.length_eraseIdx, hl, hi], .inr ⟨g, c, _, rfl, hBg, hbl3, by omega, hcm, by simp; omega, ?_⟩⟩, Chg.setCells _ _ hch2 (fun _ => rfl)⟩
    rw [Nat.mul_one]
    simp only [List.length_singleton, List.append_assoc]
    rw [List.take_left' (by simp; omega), hcur2]
    simp only [Nat.zero_add, Nat.mul_one]
    rw [List.take_append_of_le_length (by simp; omega), List.take_of_length_le (by simp; omega), hnews, List.eraseIdx_eq_take_drop_succ, List.map_append, List.map_take, ← htk, List.take_take, Nat.min_eq_left (by omega)]
  have b0 : ((i : Int) == (i : Int) + 1) = false := beq_eq_false_iff_ne.mpr (by omega)
  have q1 : i ≤ c := by omega
  have q2 : i + 1 ≤ n := hi
  have q3 : (i : Int) + 1 ≤ n := by omega
  have q5 : (0 : Int) ≤ (i : Int) + 1 := by omega
  have hcell : Hid (∀ ad : Addr, (ad = ⟨g, i + 1, none⟩ ∨ news = []) → ∀ j u, news[j]? = some u → W.drew.cell? (ad.add j) = some u) := by
    rintro ad (rfl | h0) j u hu
    · unfold Addr.add
      split
      · rename_i h0; rw [h0] at hu; exact cells_cell hbl1 (hget 0 u hu)
      · exact cells_cell hbl1 (by simpa using hget j u hu)
    · rw [h0] at hu; cases hu
  clear hget hbl2 hbl3 hch2 htk hblk hbl1 hcm hz0 hz2 hcur2 hs2 hnews
  have HH : Hid (w2' = W.drew.setCells g i news) := by show _ = _; rw [hw2, Nat.zero_add, Nat.mul_one]
  clear hw2
  by_cases q4 : c = i + 1
  · obtain rfl : n = i + 1 := by omega
    subst q4
    have hn0 : news = [] := List.eq_nil_of_length_eq_zero (by omega)
    simp only [Nat.add_sub_cancel, Nat.add_sub_cancel_left] at hcl hend
    rw [hn0] at HH
    have q10 : (i : Int) ≤ (i : Int) + 1 := by omega
    go_enter Try.func27, Try.ntmps27
    go_wp2
    go_region_law (refine step_append_room rfl (.tmp 22) (.tmp 25) 28 rfl 40 i0 1 Try.underlying28 hi0 hz1 g 0 i (i + 1) (by simp [Act.eval, Act.put]) ⟨g, 0, none⟩ 0 0 news (by simp [Act.eval, Act.put]) (by rw [hn0]; rfl) (hcell.out _ (.inr hn0)) hone.out (by omega) hsp.out ?_)
    rw [← HH.out]
    go_wp2_with (simp only [hcl])
    go_ret
    exact ⟨rfl, hend.out⟩
  · have e1 : i + (n - (i + 1)) = n - 1 := by omega
    have q6 : ((n - 1 : Nat) : Int) ≤ n := by omega
    have q7 : n - 1 ≤ n := by omega
    have q8 : ¬ c = n - 1 := by omega
    have q9 : n - (n - 1) = 1 := by omega
    go_enter Try.func27, Try.ntmps27
    go_wp2
    go_region_law (refine step_append_room rfl (.tmp 22) (.tmp 25) 28 rfl 40 i0 1 Try.underlying28 hi0 hz1 g 0 i c (by simp [Act.eval, Act.put]) ⟨g, i + 1, none⟩ (n - (i + 1)) (c - (i + 1)) news (by simp [Act.eval, Act.put]) (by omega) (hcell.out _ (.inl rfl)) hone.out (by omega) hsp.out ?_)
    rw [← HH.out]
    go_wp2_with (simp only [hcl])
    go_ret
    exact ⟨rfl, hend.out⟩

/-- the i-th one from the top comes to the top. -/
def rolled (l : List Int) (i : Nat) : List Int := l.eraseIdx (l.length - 1 - i) ++ (l[l.length - 1 - i]?).toList

theorem roll_bad {B : Nat} {W : World} {p : Nat} {A : Option Addr} {c : Nat} {s : St} (h : Stk B W p A c s) (i : Int) (hi : i < 0 ∨ (s.cells.length : Int) ≤ i) :
    Calls Try.prog 18 #[ptr p, .int .i64 i] W fun e W' => e = .returned (.int .i32 s.few) ∧ W = W' := by
  have hf := St.few_neg h
  have b0 : (s.few == 0) = false := beq_eq_false_iff_ne.mpr (by omega)
  have H : Hid (Stk B W p A c s) := h
  clear h
  go_enter Try.func18, Try.ntmps18
  go_wp2_with (first | (go_at_call 26; refine (place_bad H.out i hi).mono ?_; rintro e w' ⟨rfl, rfl⟩))
  all_goals first | (exfalso; omega) | (go_ret; exact ⟨rfl, rfl⟩)
theorem src_one (w : World) (x : Int) : Src (w.alloc (.cells #[.int .u32 x] 40)) (some ⟨w.heap.size, 0, none⟩) 1 [x] := by
  refine ⟨fun h => (by cases h), fun ad ha j u hu => ?_⟩
  injection ha with ha
  subst ha
  exact cell_one_new w _ _ j u (by simpa using hu)
set_option maxHeartbeats 1000000 in
theorem roll_ok {B : Nat} {W : World} {p : Nat} {A : Option Addr} {c : Nat} {s : St} (h : Stk B W p A c s) (hB : B ≤ W.heap.size) (i : Nat) (hi : i < s.cells.length) :
    Calls Try.prog 18 #[ptr p, .int .i64 i] W fun e W' => e = .returned (.int .i32 0) ∧ Chg (Foot p A) W W' ∧ ∃ A' c', Stk B W' p A' c' { s with cells := rolled s.cells i } ∧ At A' A W.heap.size := by
  have hl := h.len
  have hm := h.most1
  obtain ⟨k, hk⟩ : ∃ k, k = s.cells.length - 1 - i := ⟨_, rfl⟩
  have hk' : k < s.cells.length := by omega
  obtain ⟨x, hx⟩ : ∃ x, s.cells[k]? = some x := ⟨s.cells[k], by simp⟩
  have hro : rolled s.cells i = s.cells.eraseIdx k ++ [x] := by unfold rolled; rw [← hk, hx]; rfl
  obtain ⟨g, rfl, hc⟩ := own_cell (x := .int .u32 x) h.row (by simp [hx] : (s.cells.map (Value.int .u32))[k]? = _)
  have c0 : W.cell? ⟨p, 0, none⟩ = some (.slice (some ⟨g, 0, none⟩) s.cells.length c) := cells_cell h.blk rfl
  have w1 : IntKind.i64.wrap ((k : Int) + 1) = (k : Int) + 1 := IntWalk.i64_in _ (by omega)
  have hki : (k : Int) = s.cells.length - 1 - i := by omega
  have H : Hid (Stk B W p (some ⟨g, 0, none⟩) c s) := h
  have HK : Hid ((k : Int) = s.cells.length - 1 - i) := hki
  have hn : s.cells.length ≤ 100000 := by omega
  have hfp := h.foot
  clear h hk hx hki
  go_enter Try.func18, Try.ntmps18
  go_wp2_with (first
    | (go_at_call 26; refine (place_ok H.out i k (by omega) HK.out).mono ?_; rintro e w' ⟨rfl, rfl⟩)
    | (go_at_call 27; refine (delete_any H.out.row k hk' hn).mono ?_; rintro e v1 ⟨rfl, h1, h2⟩; have h1 : Hid _ := h1; have h2 : Hid _ := h2)
    | (at_builtin; go_loud (refine wpList_app _ rfl _ _ rfl B (.slice (some ⟨g, 0, none⟩) (s.cells.length - 1) c) (s.cells.length - 1) _ rfl (World.ownsRow.alloc h1.out _) (some ⟨v1.heap.size, 0, none⟩) 1 1 [x] rfl rfl (src_one v1 x) (by omega) (Nat.le_trans (Nat.le_trans hB h2.out.size) (by simp)) ?_)
       go_loud (
       intro A' c' v2 hown hgrow hat
       have hc2 : Chg (fun k => k = g) W v2 := (h2.out.alloc _).grown hgrow (fun k hk _ => by simpa [Value.ownBlock] using hk.symm)
       have hgp : g ≠ p := fun he => hfp (by rw [he]; rfl)
       have hp : ¬ ((fun k => k = g) p) := fun he => hgp he.symm
       have c0 : v2.cell? ⟨p, 0, none⟩ = some (.slice (some ⟨g, 0, none⟩) s.cells.length c) := cells_cell (hc2.at H.out.blk hp) rfl
       have f0 : v2.frozen? ⟨p, 0, none⟩ = false := cells_free (hc2.at H.out.blk hp)
       have hlen : (rolled s.cells i).length = s.cells.length - 1 + 1 := by rw [hro]; simp [List.length_eraseIdx, hk']
       have HE := H.out.put (l := rolled s.cells i) (A' := A') (c' := c') hc2 hp (by rw [hlen, hro, List.map_append]; exact hown) (by rw [hlen]; omega)
       rw [hlen] at HE
       have HE : Hid _ := HE
       have HC := (hc2.mono (G := Foot p (some ⟨g, 0, none⟩)) (fun k hk he => .inr (by rw [he]; rfl))).setCell (p := ⟨p, 0, none⟩) (fun _ => .inl rfl) (.slice A' (s.cells.length - 1 + 1) c')
       have HC : Hid _ := HC
       have HA : Hid (At A' (some ⟨g, 0, none⟩) W.heap.size) := by
         rcases hat with h3 | h3
         · exact .inl h3
         · exact .inr ⟨_, h3, by have := h2.out.size; simp; omega⟩
       clear hc2 hp hgrow hat hown hlen)))
  all_goals first | (exfalso; omega) | (go_ret; exact ⟨rfl, HC.out, A', c', HE.out, HA.out⟩)

end Go.Proofs.Yteoghagknececaa
